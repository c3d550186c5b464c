/- roll.group of points, walked. -/
import Derived.Test.YtnjdngjlbonieaaRollB
import Derived.Test.YtnjdngjlbonieaaPRollWindowsx2
import Derived.Deep.RegionWith
import Derived.Lib.Hide
import Derived.LoopTactic
import Derived.Outline
import Derived.Laws.Rows
import Derived.Laws.CopyOwn
import Derived.WalkKit
set_option linter.unusedVariables false
set_option linter.unusedSimpArgs false
namespace Go.Proofs.Ytnjdngjlbonieaa
open Go.RowKit Go.Proofs.YtnjdngjlbonieaaW.PrintWords Go.Proofs.YtnjdngjlbonieaaW.PrintLast Go.Proofs.YtnjdngjlbonieaaW.PrintMore
open Go.Proofs.Ytnjdngjlbonieaa.PRollWindows
attribute [local go_sem] max2_int min2_int max_two min_two max_three min_three max_four min_four

section
variable {P : Program} {ops : Array Oper} {Q : Exit → Act → World → Prop} {md : Region.Mode} {S S' : World → Prop}
theorem raise0 (hs : ∀ w, S' w → S w) : ∀ (fuel : Nat) (l : Array Bool) (a : Act) (w : World), S' w → wpAnyLast P md ops Q S' [] fuel l a w → wpAnyLast P md ops Q S [] fuel l a w
  | 0, _, _, _, _, h => h
  | fuel + 1, l, a, w, h0, h => ⟨h.1, fun i hi => wpOp_mono (fun a' w' hh => ⟨fun hn _ => hs w' (hh.1 hn h0), raise0 hs fuel _ a' w' (hh.1 (by simp) h0) hh.2⟩) (h.2 i hi)⟩
/-- From here on S' is known. -/
theorem raise_ {fuel : Nat} {l : Array Bool} {a : Act} {w : World} (hs : ∀ w, S' w → S w) (h0 : S' w) (h : S' w → wpAnyLast P md ops Q S' [] fuel l a w) : wpAnyLast P md ops Q S [] fuel l a w :=
  raise0 hs fuel l a w h0 (h h0)
end
theorem bread {w w1 : World} (h : Below w.heap.size w w1) {p : Addr} {v : Value} (hc : w.cell? p = some v) : w1.cell? p = some v := by
  rw [h.cell (World.block_lt_of_cell? w _ hc)]
  exact hc
theorem bread_alloc {w : World} {p : Addr} {v : Value} (h : w.cell? p = some v) (o : Obj) : (w.alloc o).cell? p = some v := bread ((Below.refl _ _).alloc (Nat.le_refl _) o) h
theorem value_append {P : Program} {o : Oper} {a : Act} {w w1 : World} {s x : Operand} {t ty : TypeId} {u y v : Value} (hop : o.op = .call { callee := .builtin .append, args := #[s, x], argTypes := #[t, t] }) (hty : o.type = ty) (hs : a.eval s = u) (hx : a.eval x = y)
    (hrun : (Builtin.append_ #[t, t] ty #[u, y]).run P w = .ok v w1) : (execOp a.eval o).run P w = .ok (.value v) w1 := by
  unfold execOp
  simp only [hop, resolve, invoke, builtin, Sem.run_bind, Sem.run_pure, Result.andThen_ok, List.map_toArray, List.map_cons, List.map_nil, hs, hx, hty, hrun]
theorem below_drewN0 {w w1 : World} (h : Drawn0 w w1) : Below w.heap.size w w1 := by
  obtain ⟨n, rfl⟩ := h
  exact pw_below_drewN (Below.refl _ _) n
theorem info2 : (Try.prog.info? 2).map (fun i => (i.zero, i.size, i.bytes)) = some (some (.int .i64 0), 1, 8) := by kernel_rfl
theorem info22 : (Try.prog.info? 22).map (fun i => (i.zero, i.size, i.bytes)) = some (some (.slice none 0 0), 1, 24) := by kernel_rfl
set_option maxRecDepth 100000 in
set_option maxHeartbeats 8000000 in
theorem at_calls (a b : Int) (w : World) : Calls Try.prog 54 #[.agg #[.int .i64 a, .int .i64 b]] w fun e w' => e = .returned (.int .i64 a) ∧ Below w.heap.size w w' := by
  go_enter Try.func54, Try.ntmps54
  go_wp2
  go_ret
  exact ⟨rfl, (Below.refl _ _).alloc (Nat.le_refl _) _⟩
def widthT (t : Int) : Int := if t = 0 then 1 else if t = 1 then 300 else if t = 2 then 3600 else 0
theorem width_is (t : Int) : window_Width.f t = some (widthT t) := by
  unfold window_Width.f widthT
  repeat' split
  all_goals rfl
theorem start_is (t x : Int) (hx : 0 ≤ x) (hx2 : x ≤ 9223372036854775807) (hw : widthT t ≠ 0) : window_Start.f t x = some (x - x % widthT t) := by
  unfold window_Start.f
  rw [width_is]
  show (if widthT t = 0 then _ else _) = _
  rw [if_neg hw, if_neg (by omega), Int.tmod_eq_emod_of_nonneg hx]
  have hp : 0 < widthT t := by unfold widthT at hw ⊢; repeat' split <;> omega
  have h1 := Int.emod_nonneg x hw
  have h2 := Int.emod_lt_of_pos x hp
  have h3 : x % widthT t ≤ x := by
    have := Int.mul_ediv_add_emod x (widthT t)
    have h4 : 0 ≤ x / widthT t := Int.ediv_nonneg hx (by omega)
    have h5 : 0 ≤ widthT t * (x / widthT t) := Int.mul_nonneg (by omega) h4
    omega
  rw [show wrap64 (x - x % widthT t) = x - x % widthT t by unfold wrap64; omega]
/-- What group leaves. -/
def GPost (R : List (Int × List S29)) (w : World) (e : Ending) (w' : World) : Prop := ∃ vs vo, e = .returned (.tuple #[vs, vo]) ∧ GP w.heap.size vs vo R w' ∧ Below w.heap.size w w'
theorem cells29 {w : World} {A : Option Addr} {l : List S29} (h : Kd.C k29 w A l.length l) (h0 : 0 < l.length) : ∃ ad, A = some ad ∧ ∀ (j : Nat) (x : S29), l[j]? = some x → w.cell? (ad.add (j * 2)) = some (.int .i64 x.f0) ∧ w.cell? ⟨(ad.add (j * 2)).block, (ad.add (j * 2)).off + 1, none⟩ = some (.int .i64 x.f1) := by
  obtain ⟨ad0, e0, _⟩ := at_T29 h 0 (by omega) (by omega)
  subst e0
  refine ⟨ad0, rfl, fun j x hx => ?_⟩
  have hj : j < l.length := (List.getElem?_eq_some_iff.1 hx).1
  obtain ⟨ad, e1, c0, c1⟩ := at_T29 h (j : Int) (by omega) (by omega)
  injection e1 with e1
  subst e1
  have hr : rd_T29 l (j : Int) = x := by
    unfold rd_T29
    rw [Int.toNat_natCast, List.getD_eq_getElem?_getD, hx]
    rfl
  rw [Int.toNat_natCast, hr] at c0 c1
  exact ⟨c0, c1⟩
set_option maxRecDepth 100000 in
set_option maxHeartbeats 32000000 in
theorem group_calls (t : Int) (A : Option Addr) (ca : Nat) (l : List S29) (hi : ∀ x ∈ l, x.f0 ≤ 9223372036854775807) (w : World) (h : Kd.C k29 w A l.length l) (hl : l.length ≤ 1000) :
    Calls Try.prog 53 #[.int .i64 t, .slice A l.length ca, .func (.func 54) #[] #[]] w (GPost (if widthT t = 0 then [] else grpF (widthT t) S29.f0 l none []) w) := by
  have HL := Aside0.mk h
  have HI := Aside0.mk hi
  have HWD := Lib.hid (fun W => window_Width.calls t _ W (width_is t))
  obtain ⟨Wd, hWd⟩ : ∃ W, W = widthT t := ⟨_, rfl⟩
  rw [← hWd] at HWD ⊢
  clear h hi
  by_cases hw0 : Wd = 0
  · rw [if_pos hw0]
    subst hw0
    go_enter Try.func53, Try.ntmps53
    go_wp2_with fail
    refine (HWD.out _).mono ?_
    rintro e w1 ⟨rfl, n1, rfl⟩
    go_wp2
    go_ret2
    exact ⟨_, _, rfl, IsG.start _, pw_below_drewN (Below.refl _ _) n1⟩
  · rw [if_neg hw0]
    have ew : (Wd == 0) = false := beq_eq_false_iff_ne.2 hw0
    have HST := Lib.hid (fun x W (hx : 0 ≤ x) (hx2 : x ≤ 9223372036854775807) => window_Start.calls t x _ W (start_is t x hx hx2 (by rw [← hWd]; exact hw0)))
    rw [← hWd] at HST
    obtain ⟨R, hR⟩ : ∃ R, R = grpF Wd S29.f0 l none [] := ⟨_, rfl⟩
    have HR0 := Aside0.mk (show grpF Wd S29.f0 (l.drop 0) (prevA S29.f0 l 0) [] = R from hR.symm)
    rw [← hR]
    clear hR hWd hw0
    go_enter Try.func53, Try.ntmps53
    go_wp2_with fail
    refine (HWD.out _).mono ?_
    rintro e w1 ⟨rfl, n1, rfl⟩
    have HB1 := Aside0.mk (pw_below_drewN (Below.refl w.heap.size w) n1)
    clear HWD
    go_wp2_with fail
    go_loopw [8, 9, 20] (fun v8 v9 v20 wr => ∃ (j : Nat) (vs vo : Value) (G : List (Int × List S29)), j ≤ l.length ∧ v8 = vs ∧ v9 = vo ∧ v20 = .int .i64 (j : Int) ∧ Aside0 (G.length ≤ j) ∧ Aside0 (grpF Wd S29.f0 (l.drop j) (prevA S29.f0 l j) G = R) ∧ Aside0 (∀ g ∈ G, g.2.length ≤ j) ∧ Aside0 (GP w.heap.size vs vo G wr) ∧ Aside0 (Below w.heap.size w wr)) (fun _ _ v _ => l.length - (intOf v).toNat)
    case atStart => exact ⟨0, _, _, [], by omega, rfl, rfl, rfl, ⟨Nat.le_refl _⟩, HR0, ⟨fun g hg => by cases hg⟩, ⟨IsG.start _⟩, HB1⟩
    case round =>
      obtain ⟨j, vs, vo, G, hj, rfl, rfl, rfl, HGL, HRR, HGE, HG, HB⟩ := hrel
      by_cases hlt : j < l.length
      · obtain ⟨ad, rfl, hcell⟩ := cells29 HL.out (by omega)
        obtain ⟨x, hx⟩ : ∃ x, l[j]? = some x := ⟨_, List.getElem?_eq_getElem hlt⟩
        have hcx := hcell j x hx
        have u0 : wr.cell? (ad.add (j * 2)) = some (.int .i64 x.f0) := by rw [HB.out.cell (World.block_lt_of_cell? w _ hcx.1)]; exact hcx.1
        have u1 : wr.cell? ⟨(ad.add (j * 2)).block, (ad.add (j * 2)).off + 1, none⟩ = some (.int .i64 x.f1) := by rw [HB.out.cell (World.block_lt_of_cell? w _ hcx.2)]; exact hcx.2
        have hjl : (j : Int) < (l.length : Int) := by omega
        have HXI := Aside0.mk (HI.out x (List.mem_of_getElem? hx))
        have hstep := HRR.out
        rw [grp_step hx] at hstep
        obtain ⟨a, b⟩ := x
        obtain ⟨Q, hQ⟩ : ∃ Q, Q = wr.heap.size := ⟨_, rfl⟩
        have HBX := Aside0.mk (show Below wr.heap.size wr (wr.alloc (.cells #[.int .i64 a, .int .i64 b] 29)) from (Below.refl _ _).alloc (Nat.le_refl _) _)
        by_cases ha : a < 0
        · have d1 : decide (a < 0) = true := decide_eq_true ha
          rw [if_pos (Or.inl ha)] at hstep
          subst hstep
          clear hcell hcx hx hQ
          go_wp2_with fail
          refine (at_calls a b _).mono ?_
          rintro e w3 ⟨rfl, h3⟩
          have HB3 := Aside0.mk (HB.out.trans ((HBX.out.trans (h3.mono HBX.out.size)).mono HB.out.size))
          clear h3
          go_wp2
          go_ret2
          exact ⟨_, _, rfl, IsG.start _, HB3.out⟩
        · have d1 : decide (a < 0) = false := decide_eq_false ha
          have ha0 : 0 ≤ a := by omega
          by_cases hj0 : j = 0
          · have hpv : prevA S29.f0 l j = none := by rw [hj0]; rfl
            rw [if_neg (by
              rintro (h1 | ⟨q, h1, _⟩)
              · exact ha h1
              · rw [hpv] at h1; cases h1)] at hstep
            have d3 : decide ((0 : Int) < (j : Int)) = false := decide_eq_false (by omega)
            have d3n : decide (0 < j) = false := decide_eq_false (by omega)
            clear hpv hj0
            clear hcell hcx hx ha
            go_wp2_with fail
            refine (at_calls a b _).mono ?_
            rintro e W ⟨rfl, h3⟩
            have HGW := Aside0.mk ((HG.out.below HBX.out).below h3)
            have HBW := Aside0.mk (HB.out.trans ((HBX.out.trans (h3.mono HBX.out.size)).mono HB.out.size))
            have HQBW := Aside0.mk (show W.heap[Q]? = some (.cells #[.int .i64 a, .int .i64 b] 29 (0, 0)) from (h3.block Q (by rw [hQ]; simp)).trans (by rw [hQ]; exact blk_new wr _))
            rw [← hQ]
            clear h3 hQ u0 u1 HBX
            have hst := HST.out a
            obtain ⟨s, hs⟩ : ∃ s, s = a - a % Wd := ⟨_, rfl⟩
            have HSTEP := Aside0.mk (show grpF Wd S29.f0 (l.drop (j + 1)) (prevA S29.f0 l (j + 1)) (addG G s ⟨a, b⟩) = R by rw [hs]; exact hstep)
            rw [← hs] at hst
            have HSS := Lib.hid hst
            clear hst hs hstep
            go_wp2_with fail
            refine (HSS.out _ (by omega) HXI.out).mono ?_
            rintro e W5 ⟨rfl, h5⟩
            have hb5 := below_drewN0 h5
            have HG5 := Aside0.mk (HGW.out.below hb5)
            have HBW5 := Aside0.mk (HBW.out.trans (hb5.mono HBW.out.size))
            have HQB := Aside0.mk ((hb5.block Q (blk_lt HQBW.out)).trans HQBW.out)
            obtain ⟨L0, ho0, hr0⟩ := HG5.out.out
            have HOL := Aside0.mk (And.intro ho0 hr0)
            clear h5 hb5 ho0 hr0 HGW HBW HQBW
            cases hgl : G.getLast? with
            | none =>
              have hG0 : G.length = 0 := by rw [List.getLast?_eq_none_iff.1 hgl]; rfl
              have e12 : ((G.length : Int) == 0) = true := beq_iff_eq.2 (by omega)
              have HADD := Aside0.mk (show addG G s ⟨a, b⟩ = lastG (pushG G s) ⟨a, b⟩ by unfold addG; rw [hgl]; simp)
              obtain ⟨As, caps, hvs⟩ := row_form HG5.out.starts
              subst hvs
              clear hgl hG0
              obtain ⟨i2, hi2, y0, y1, y2⟩ := info_parts info2
              obtain ⟨i22, hi22, x0, x1, x2⟩ := info_parts info22
              have HS5 := Aside0.mk (HG5.out.starts.alloc (.cells #[.int .i64 s] 2))
              have hgl9 := HGL.out
              go_wp2_with (first | (at_builtin; refine wpList_append_own _ rfl _ _ 80 rfl w.heap.size 2 i2 (.int .i64 0) 1 8 Try.underlying80 hi2 y0 y1 y2 rfl (by decide) _ G.length _ rfl HS5.out ⟨W5.heap.size, 0, none⟩ 1 1 [.int .i64 s] rfl rfl (cell_one_new _ _ _) (by simp [Value.oneCell']) (by unfold maxLen; omega) (by omega) (by have := HBW5.out.size; simp; omega) ?_) | go_in)
              intro vs1 w6 hs6 hg6 _
              have HB6 := Aside0.mk (((Below.refl W5.heap.size W5).alloc (Nat.le_refl _) (.cells #[.int .i64 s] 2)))
              have HBW6a := Aside0.mk ((HBW5.out.alloc HBW5.out.size (.cells #[.int .i64 s] 2)).grown hg6 (by have := HBW5.out.size; simp; omega) (fun q hq => (HS5.out.lt q hq).1))
              have ho0 := HOL.out.1
              have HO6 := Aside0.mk (show (w6.alloc (.cells #[.slice none 0 0] 22)).ownsRow w.heap.size 22 1 u9 G.length L0 from (own_grown (ho0.alloc (.cells #[.int .i64 s] 2)) HS5.out (by decide) hg6).alloc _)
              have HS6 := Aside0.mk hs6
              have HGR6 := Aside0.mk hg6
              clear hs6 hg6 ho0
              go_wp2_with (first | (at_builtin; refine wpList_append_own _ rfl _ _ 81 rfl w.heap.size 22 i22 (.slice none 0 0) 1 24 Try.underlying81 hi22 x0 x1 x2 rfl (by decide) _ G.length _ rfl HO6.out ⟨w6.heap.size, 0, none⟩ 1 1 [.slice none 0 0] rfl rfl (cell_one_new _ _ _) (by simp [Value.oneCell']) (by unfold maxLen; omega) (by omega) (by have := HBW6a.out.size; simp; omega) ?_) | go_in)
              intro vo1 W6 ho7 hg7 _
              have HG1 := Aside0.mk (show GP w.heap.size vs1 vo1 (pushG G s) W6 from IsG.pushed HG5.out.starts HOL.out.1 HOL.out.2 HB6.out HGR6.out HS6.out ((Below.refl w6.heap.size w6).alloc (Nat.le_refl _) (.cells #[.slice none 0 0] 22)) hg7 ho7)
              have HBW6 := Aside0.mk ((HBW6a.out.alloc HBW6a.out.size (.cells #[.slice none 0 0] 22)).grown hg7 (by have := HBW6a.out.size; simp; omega) (fun q hq => (HO6.out.lt q hq).1))
              have hq6 : w6.heap[Q]? = some (.cells #[.int .i64 a, .int .i64 b] 29 (0, 0)) := (HGR6.out.block Q (Nat.lt_of_lt_of_le (blk_lt HQB.out) (by simp)) (Ne.symm (row_ne HS5.out (blk_alloc HQB.out _) (by decide)))).trans (blk_alloc HQB.out _)
              have hq7 : W6.heap[Q]? = some (.cells #[.int .i64 a, .int .i64 b] 29 (0, 0)) := (hg7.block Q (Nat.lt_of_lt_of_le (blk_lt hq6) (by simp)) (Ne.symm (row_ne HO6.out (blk_alloc hq6 _) (by decide)))).trans (blk_alloc hq6 _)
              have k1 := blk_cell hq7 0
              have k2 := blk_cell hq7 1
              simp only [List.getElem?_toArray, List.getElem?_cons_zero, List.getElem?_cons_succ] at k1 k2
              obtain ⟨G1, hG1⟩ : ∃ G1, G1 = pushG G s := ⟨_, rfl⟩
              have hm1' : G1.length = G.length + 1 := by rw [hG1]; simp [pushG]
              obtain ⟨m1, hmm⟩ : ∃ m1, m1 = G.length := ⟨_, rfl⟩
              have hm1 : G1.length = m1 + 1 := by rw [hmm]; exact hm1'
              obtain ⟨g, hgd⟩ : ∃ g : Int × List S29, g = (s, []) := ⟨_, rfl⟩
              have HGLA := Aside0.mk (show G1.getLast? = some g by rw [hG1, hgd]; unfold pushG; exact List.getLast?_concat)
              have HGE1 := Aside0.mk (show ∀ g ∈ G1, g.2.length ≤ j by
                intro g hg
                rw [hG1] at hg
                rcases List.mem_append.1 hg with h1 | h1
                · exact HGE.out g h1
                · rw [List.mem_singleton.1 h1]; simp)
              have HG1L := Aside0.mk (show G1.length ≤ j + 1 by have := HGL.out; omega)
              have HSTEP1 := Aside0.mk (show grpF Wd S29.f0 (l.drop (j + 1)) (prevA S29.f0 l (j + 1)) (lastG G1 ⟨a, b⟩) = R by rw [hG1, ← HADD.out]; exact HSTEP.out)
              have HGE2 := Aside0.mk (show ∀ g ∈ lastG G1 ⟨a, b⟩, g.2.length ≤ j + 1 by rw [hG1, ← HADD.out]; exact addG_sizes HGE.out)
              have HG1b := Aside0.mk (show GP w.heap.size vs1 vo1 G1 W6 by rw [hG1]; exact HG1.out)
              clear HG1 HS5 HO6 HS6 HGR6 hg7 ho7 hq6 hq7 hG1 hgd hmm hgl9 HG5 HQB HOL hm1'
              have HG1 := HG1b
              clear hi2 y0 y1 y2 hi22 x0 x1 x2
              obtain ⟨L, ho, hrw⟩ := HG1.out.out
              obtain ⟨go, capo, cur, hvo, hblk, _⟩ := row_pos ho (by omega)
              subst hvo
              have hLl : m1 < L.length := by have := hrw.len; rw [List.length_map] at this; omega
              obtain ⟨v, hv⟩ : ∃ v, L[m1]? = some v := ⟨_, List.getElem?_eq_getElem hLl⟩
              have e1 : G1.length - 1 = m1 := by omega
              have hv' : L[G1.length - 1]? = some v := by rw [e1]; exact hv
              have hgi : G1[G1.length - 1]? = some g := by rw [← List.getLast?_eq_getElem?]; exact HGLA.out
              have hrow := hrw.row _ v g.2 hv' (by rw [List.getElem?_map, hgi]; rfl)
              have m0 : W6.drew.cell? ⟨go, m1, none⟩ = some v := (ho.cellAt m1 (by omega)).trans hv
              have m1c : W6.drew.cell? ⟨Q, 0, none⟩ = some (.int .i64 a) := k1
              have m2c : W6.drew.cell? ⟨Q, 1, none⟩ = some (.int .i64 b) := k2
              obtain ⟨i29, hi29, hz0, hz1, hz2⟩ := info_parts info29
              have hglen := HGE1.out g (List.mem_of_getElem? hgi)
              obtain ⟨v1, w1', hrun, hown1, hgr1, _, hvb⟩ := run_append_own_at (P := Try.prog) (w := W6.drew.alloc (.cells #[.int .i64 a, .int .i64 b] 29)) w.heap.size 22 22 29 i29 _ 2 16 Try.underlying22 hi29 hz0 hz1 hz2 rfl (by decide) v g.2.length (g.2.flatMap cellsP) (hrow.drew.alloc _) ⟨W6.heap.size, 0, none⟩ 1 1 [.int .i64 a, .int .i64 b] rfl (fun i u hu => by
                have hb := blk_cell (blk_new W6.drew (.cells #[.int .i64 a, .int .i64 b] 29 (0, 0)))
                have hsz : W6.drew.heap.size = W6.heap.size := rfl
                rw [hsz] at hb
                have ea : Addr.add ⟨W6.heap.size, 0, none⟩ i = ⟨W6.heap.size, i, none⟩ := by unfold Addr.add; split <;> simp_all
                rw [ea]
                rcases i with _ | i
                · injection hu with hu; subst hu; exact hb 0
                · rcases i with _ | i
                  · injection hu with hu; subst hu; exact hb 1
                  · cases hu) (by intro u hu; simp at hu; rcases hu with rfl | rfl <;> rfl) (by unfold maxLen; omega) (by omega) (by have := HBW6.out.size; simp; omega)
              obtain ⟨gv, capv, curv, hv1, _⟩ := row_pos hown1 (by omega)
              subst hv1
              have hne : v.ownBlock ≠ some go := row_ne hrow hblk (by decide)
              have hblk1 : w1'.heap[go]? = some (.cells cur 22 (0, 0)) := (hgr1.block go (Nat.lt_of_lt_of_le (blk_lt hblk) (by simp)) (Ne.symm hne)).trans (blk_alloc (w := W6.drew) hblk _)
              have n0 : w1'.cell? ⟨go, m1, none⟩ = some v := by rw [blk_cell hblk1, ← blk_cell (w := W6.drew) hblk]; exact m0
              have fz : w1'.frozen? ⟨go, m1, none⟩ = false := blk_frozen hblk1 m1
              have hfin := IsG.lasted (x := ⟨a, b⟩) (HG1.out.starts.drew.alloc (.cells #[.int .i64 a, .int .i64 b] 29)) (ho.drew.alloc (.cells #[.int .i64 a, .int .i64 b] 29)) ((hrw.kept (w' := W6.drew.alloc (.cells #[.int .i64 a, .int .i64 b] 29)) (fun i u bb _ _ hl => Below.heap_alloc W6.drew _ bb hl))) HGLA.out hv' hgr1 hown1 hvb
              rw [e1, hm1] at hfin
              have HFIN := Aside0.mk hfin
              have hgo1 := (ho.lt go (by simp [Value.ownBlock])).1
              have HBF := Aside0.mk ((((pw_below_drewN HBW6.out 1).alloc (show w.heap.size ≤ W6.drew.heap.size from HBW6.out.size) (.cells #[.int .i64 a, .int .i64 b] 29)).grown hgr1 (by have := HBW6.out.size; simp; omega) (fun q hq => (hrow.lt q hq).1)).setCell (p := ⟨go, m1, none⟩) hgo1 (.slice (some ⟨gv, 0, none⟩) (g.2.length + 1) capv))
              have hA0 : (0 : Int) ≤ (m1 : Int) := by omega
              have hmj : (m1 : Int) ≤ 100000 := by have := HG1L.out; omega
              have hmlt : (m1 : Int) < (m1 : Int) + 1 := by omega
              have HLEN := Aside0.mk (show (lastG G1 ⟨a, b⟩).length ≤ j + 1 by rw [lastG_length]; have := HG1L.out; omega)
              have HMM := Aside0.mk hm1
              rw [hm1]
              clear hLl hv hv' hgi hrow hglen hown1 hgr1 hvb hne hblk hblk1 hfin hgo1 e1 ho hrw k1 k2 hi29 hz0 hz1 hz2 hm1
              go_wp2_with fail
              refine start_ (n := 11) (S := fun w' => (w'.cell? ⟨go, m1, none⟩ = some v) ∧ (w'.cell? ⟨Q, 0, none⟩ = some (.int .i64 a)) ∧ (w'.cell? ⟨Q, 1, none⟩ = some (.int .i64 b))) (ds := [8, 10]) #[false, false, false, false, false, false, false, false, false, false, false] (by kernel_rfl) rfl rfl ⟨m0, m1c, m2c⟩ (fun hHeld => ?_)
              refine pure_ (i := 0) (N := some 71) (v := ?_) (a' := ?_) #[true, false, false, false, false, false, false, false, false, false, false] rfl rfl (by kernel_rfl) (fun _ _ _ h => h) (Or.inl ⟨by rfl, ?_⟩) ?_ ?_
              rotate_left
              · intro w'
                go_simp
                with_reducible rfl
              rotate_left
              · simp only [Act.put, List.setIfInBounds_toArray, List.set_cons_zero, List.set_cons_succ, i64_w, i32_w]
                rfl
              refine pure_ (i := 1) (N := some 72) (v := ?_) (a' := ?_) #[true, true, false, false, false, false, false, false, false, false, false] rfl rfl (by kernel_rfl) (fun _ _ _ h => h) (Or.inl ⟨by rfl, ?_⟩) ?_ ?_
              rotate_left
              · intro w'
                go_simp
                with_reducible rfl
              rotate_left
              · simp only [Act.put, List.setIfInBounds_toArray, List.set_cons_zero, List.set_cons_succ, i64_w, i32_w]
                rfl
              refine pure_ (i := 2) (N := some 73) (v := ?_) (a' := ?_) #[true, true, true, false, false, false, false, false, false, false, false] rfl rfl (by kernel_rfl) (fun _ _ _ h => h) (Or.inl ⟨by rfl, ?_⟩) ?_ ?_
              rotate_left
              · intro w'
                go_simp
                with_reducible rfl
              rotate_left
              · simp only [Act.put, List.setIfInBounds_toArray, List.set_cons_zero, List.set_cons_succ, i64_w, i32_w]
                rfl
              refine pure_ (i := 3) (N := some 74) (v := ?_) (a' := ?_) #[true, true, true, true, false, false, false, false, false, false, false] rfl rfl (by kernel_rfl) (fun _ _ _ h => h) (Or.inl ⟨by rfl, ?_⟩) ?_ ?_
              rotate_left
              · intro w'
                go_simp
                with_reducible rfl
              rotate_left
              · simp only [Act.put, List.setIfInBounds_toArray, List.set_cons_zero, List.set_cons_succ, i64_w, i32_w]
                rfl
              refine pure_ (i := 4) (N := some 75) (v := ?_) (a' := ?_) #[true, true, true, true, true, false, false, false, false, false, false] rfl rfl (by kernel_rfl) (fun _ _ _ h => h) (Or.inl ⟨by rfl, ?_⟩) ?_ ?_
              rotate_left
              · intro w'
                go_simp
                with_reducible rfl
              rotate_left
              · simp only [Act.put, List.setIfInBounds_toArray, List.set_cons_zero, List.set_cons_succ, i64_w, i32_w]
                rfl
              refine take_ (i := 5) (N := some 76) (v := ?_) (a' := ?_) #[true, true, true, true, true, true, false, false, false, false, false] rfl rfl (by kernel_rfl) (fun _ _ _ h => h) (Or.inl ⟨by rfl, ?_⟩) hHeld ?_ ?_
              rotate_left
              · rintro w' ⟨s0, s1, s2⟩
                go_simp
                with_reducible rfl
              rotate_left
              · simp only [Act.put, List.setIfInBounds_toArray, List.set_cons_zero, List.set_cons_succ, i64_w, i32_w]
                rfl
              refine take_ (i := 6) (N := some 77) (v := ?_) (a' := ?_) #[true, true, true, true, true, true, true, false, false, false, false] rfl rfl (by kernel_rfl) (fun _ _ _ h => h) (Or.inl ⟨by rfl, ?_⟩) hHeld ?_ ?_
              rotate_left
              · rintro w' ⟨s0, s1, s2⟩
                go_simp
                with_reducible rfl
              rotate_left
              · simp only [Act.put, List.setIfInBounds_toArray, List.set_cons_zero, List.set_cons_succ, i64_w, i32_w]
                rfl
              refine one_ (i := 7) (N := some 78) #[true, true, true, true, true, true, true, true, false, false, false] rfl rfl (by kernel_rfl) (by decide) (fun K hK => ?_)
              refine value_ (w1 := ?_) (v := ?_) (by rfl) rfl ?_ ?_
              rotate_left 2
              · go_simp
                constructor
                · rfl
                · rfl
              refine hK.out _ _ ⟨bread_alloc hHeld.1 _, bread_alloc hHeld.2.1 _, bread_alloc hHeld.2.2 _⟩ (fun hHeld => ?_)
              clear hK K
              refine norm_ (a' := ?_) ?_ ?_
              rotate_left
              · show Act.put _ (some 78) _ = _
                simp only [Act.put, List.setIfInBounds_toArray, List.set_cons_zero, List.set_cons_succ, i64_w, i32_w]
                rfl
              refine last_ (i := 8) (N := some 79) #[true, true, true, true, true, true, true, true, true, false, false] rfl rfl (by kernel_rfl) (by decide) (fun K hK => ?_)
              refine value_ (w1 := w1') (v := (.slice (some ⟨gv, 0, none⟩) (g.2.length + 1) capv)) (by rfl) rfl ?_ ?_
              · exact value_append (s := .tmp 76) (x := .tmp 78) rfl rfl rfl rfl hrun
              refine hK.out _ _ ?_
              clear hK K
              refine norm_ (a' := ?_) ?_ ?_
              rotate_left
              · show Act.put _ (some 79) _ = _
                simp only [Act.put, List.setIfInBounds_toArray, List.set_cons_zero, List.set_cons_succ, i64_w, i32_w]
                rfl
              refine pure_ (i := 9) (N := some 80) (v := ?_) (a' := ?_) #[true, true, true, true, true, true, true, true, true, true, false] rfl rfl (by kernel_rfl) (fun _ _ _ h => h) (Or.inl ⟨by rfl, ?_⟩) ?_ ?_
              rotate_left
              · intro w'
                go_simp
                with_reducible rfl
              rotate_left
              · simp only [Act.put, List.setIfInBounds_toArray, List.set_cons_zero, List.set_cons_succ, i64_w, i32_w]
                rfl
              refine last_ (i := 10) (N := none) #[true, true, true, true, true, true, true, true, true, true, true] rfl rfl (by kernel_rfl) (by decide) (fun K hK => ?_)
              refine skip_ (w1 := ?_) (by rfl) rfl ?_ ?_
              rotate_left
              · go_simp
                rfl
              refine hK.out _ _ ?_
              clear hK K
              refine done_ (by kernel_rfl) ?_
              go_wp2
              go_roundw
              case rel => exact ⟨j + 1, _, _, _, by omega, rfl, rfl, by simp, HLEN, HSTEP1, HGE2, HFIN, HBF⟩
              case measure => simp [intOf]; omega
            | some g0 =>
              obtain ⟨m0, hm0⟩ : ∃ m, G.length = m + 1 := ⟨G.length - 1, by
                cases G with
                | nil => cases hgl
                | cons p r => simp⟩
              obtain ⟨gs, caps, curs, hvs, _⟩ := row_pos HG5.out.starts (by omega)
              subst hvs
              have e12 : ((G.length : Int) == 0) = false := beq_eq_false_iff_ne.2 (by omega)
              have hA : IntKind.i64.wrap ((G.length : Int) - 1) = (G.length : Int) - 1 := by have := HGL.out; rw [IntKind.wrap_i64]; omega
              have hB : (0 : Int) ≤ (G.length : Int) - 1 := by omega
              have hC : (G.length : Int) - 1 < (G.length : Int) := by omega
              have hD : ((G.length : Int) - 1).toNat = m0 := by omega
              have hcs : W5.cell? ⟨gs, m0, none⟩ = some (.int .i64 g0.1) := by
                rw [HG5.out.starts.cellAt m0 (by omega), List.getElem?_map]
                rw [List.getLast?_eq_getElem?, show G.length - 1 = m0 by omega] at hgl
                rw [hgl]
                rfl
              have HM0 := Aside0.mk hm0
              clear hm0
              by_cases hs2 : g0.1 = s
              · have e13 : (g0.1 == s) = true := beq_iff_eq.2 hs2
                have e14 : (g0.1 != s) = false := by simp [hs2]
                go_upto_region 14 with (fail)
                have HADD := Aside0.mk (show addG G s ⟨a, b⟩ = lastG G ⟨a, b⟩ by unfold addG; rw [hgl]; simp [hs2])
                obtain ⟨W6, hW6⟩ : ∃ W, W = W5 := ⟨_, rfl⟩
                obtain ⟨G1, hG1⟩ : ∃ G1, G1 = G := ⟨_, rfl⟩
                have k1 := blk_cell HQB.out 0
                have k2 := blk_cell HQB.out 1
                simp only [List.getElem?_toArray, List.getElem?_cons_zero, List.getElem?_cons_succ] at k1 k2
                obtain ⟨g, hgd⟩ : ∃ g : Int × List S29, g = g0 := ⟨_, rfl⟩
                have hm1 : G1.length = m0 + 1 := by rw [hG1]; exact HM0.out
                have HGLA := Aside0.mk (show G1.getLast? = some g by rw [hG1, hgd]; exact hgl)
                have HGE1 := Aside0.mk (show ∀ g ∈ G1, g.2.length ≤ j by rw [hG1]; exact HGE.out)
                have HG1L := Aside0.mk (show G1.length ≤ j + 1 by have := HGL.out; rw [hG1]; omega)
                have HSTEP1 := Aside0.mk (show grpF Wd S29.f0 (l.drop (j + 1)) (prevA S29.f0 l (j + 1)) (lastG G1 ⟨a, b⟩) = R by rw [hG1, ← HADD.out]; exact HSTEP.out)
                have HGE2 := Aside0.mk (show ∀ g ∈ lastG G1 ⟨a, b⟩, g.2.length ≤ j + 1 by rw [hG1, ← HADD.out]; exact addG_sizes HGE.out)
                have HG1 := Aside0.mk (show GP w.heap.size (.slice (some ⟨gs, 0, none⟩) G.length caps) u9 G1 W6 by rw [hG1, hW6]; exact HG5.out)
                have HBW6 := Aside0.mk (show Below w.heap.size w W6 by rw [hW6]; exact HBW5.out)
                rw [← hW6] at k1 k2 ⊢
                obtain ⟨vs1, hvs1⟩ : ∃ v, v = Value.slice (some ⟨gs, 0, none⟩) G.length caps := ⟨_, rfl⟩
                obtain ⟨m1, hmm⟩ : ∃ m1, m1 = m0 := ⟨_, rfl⟩
                rw [← hmm] at hm1
                rw [← hvs1] at HG1 ⊢
                obtain ⟨vo1, hvo1⟩ : ∃ v, v = u9 := ⟨_, rfl⟩
                rw [← hvo1] at HG1 ⊢
                clear hW6 hG1 hgd hvs1 hmm hvo1 hA hB hC hD hcs hgl HG5 HQB HOL HBW5
                obtain ⟨L, ho, hrw⟩ := HG1.out.out
                obtain ⟨go, capo, cur, hvo, hblk, _⟩ := row_pos ho (by omega)
                subst hvo
                have hLl : m1 < L.length := by have := hrw.len; rw [List.length_map] at this; omega
                obtain ⟨v, hv⟩ : ∃ v, L[m1]? = some v := ⟨_, List.getElem?_eq_getElem hLl⟩
                have e1 : G1.length - 1 = m1 := by omega
                have hv' : L[G1.length - 1]? = some v := by rw [e1]; exact hv
                have hgi : G1[G1.length - 1]? = some g := by rw [← List.getLast?_eq_getElem?]; exact HGLA.out
                have hrow := hrw.row _ v g.2 hv' (by rw [List.getElem?_map, hgi]; rfl)
                have m0 : W6.drew.cell? ⟨go, m1, none⟩ = some v := (ho.cellAt m1 (by omega)).trans hv
                have m1c : W6.drew.cell? ⟨Q, 0, none⟩ = some (.int .i64 a) := k1
                have m2c : W6.drew.cell? ⟨Q, 1, none⟩ = some (.int .i64 b) := k2
                obtain ⟨i29, hi29, hz0, hz1, hz2⟩ := info_parts info29
                have hglen := HGE1.out g (List.mem_of_getElem? hgi)
                obtain ⟨v1, w1', hrun, hown1, hgr1, _, hvb⟩ := run_append_own_at (P := Try.prog) (w := W6.drew.alloc (.cells #[.int .i64 a, .int .i64 b] 29)) w.heap.size 22 22 29 i29 _ 2 16 Try.underlying22 hi29 hz0 hz1 hz2 rfl (by decide) v g.2.length (g.2.flatMap cellsP) (hrow.drew.alloc _) ⟨W6.heap.size, 0, none⟩ 1 1 [.int .i64 a, .int .i64 b] rfl (fun i u hu => by
                  have hb := blk_cell (blk_new W6.drew (.cells #[.int .i64 a, .int .i64 b] 29 (0, 0)))
                  have hsz : W6.drew.heap.size = W6.heap.size := rfl
                  rw [hsz] at hb
                  have ea : Addr.add ⟨W6.heap.size, 0, none⟩ i = ⟨W6.heap.size, i, none⟩ := by unfold Addr.add; split <;> simp_all
                  rw [ea]
                  rcases i with _ | i
                  · injection hu with hu; subst hu; exact hb 0
                  · rcases i with _ | i
                    · injection hu with hu; subst hu; exact hb 1
                    · cases hu) (by intro u hu; simp at hu; rcases hu with rfl | rfl <;> rfl) (by unfold maxLen; omega) (by omega) (by have := HBW6.out.size; simp; omega)
                obtain ⟨gv, capv, curv, hv1, _⟩ := row_pos hown1 (by omega)
                subst hv1
                have hne : v.ownBlock ≠ some go := row_ne hrow hblk (by decide)
                have hblk1 : w1'.heap[go]? = some (.cells cur 22 (0, 0)) := (hgr1.block go (Nat.lt_of_lt_of_le (blk_lt hblk) (by simp)) (Ne.symm hne)).trans (blk_alloc (w := W6.drew) hblk _)
                have n0 : w1'.cell? ⟨go, m1, none⟩ = some v := by rw [blk_cell hblk1, ← blk_cell (w := W6.drew) hblk]; exact m0
                have fz : w1'.frozen? ⟨go, m1, none⟩ = false := blk_frozen hblk1 m1
                have hfin := IsG.lasted (x := ⟨a, b⟩) (HG1.out.starts.drew.alloc (.cells #[.int .i64 a, .int .i64 b] 29)) (ho.drew.alloc (.cells #[.int .i64 a, .int .i64 b] 29)) ((hrw.kept (w' := W6.drew.alloc (.cells #[.int .i64 a, .int .i64 b] 29)) (fun i u bb _ _ hl => Below.heap_alloc W6.drew _ bb hl))) HGLA.out hv' hgr1 hown1 hvb
                rw [e1, hm1] at hfin
                have HFIN := Aside0.mk hfin
                have hgo1 := (ho.lt go (by simp [Value.ownBlock])).1
                have HBF := Aside0.mk ((((pw_below_drewN HBW6.out 1).alloc (show w.heap.size ≤ W6.drew.heap.size from HBW6.out.size) (.cells #[.int .i64 a, .int .i64 b] 29)).grown hgr1 (by have := HBW6.out.size; simp; omega) (fun q hq => (hrow.lt q hq).1)).setCell (p := ⟨go, m1, none⟩) hgo1 (.slice (some ⟨gv, 0, none⟩) (g.2.length + 1) capv))
                have hA0 : (0 : Int) ≤ (m1 : Int) := by omega
                have hmj : (m1 : Int) ≤ 100000 := by have := HG1L.out; omega
                have hmlt : (m1 : Int) < (m1 : Int) + 1 := by omega
                have HLEN := Aside0.mk (show (lastG G1 ⟨a, b⟩).length ≤ j + 1 by rw [lastG_length]; have := HG1L.out; omega)
                have HMM := Aside0.mk hm1
                rw [hm1]
                clear hLl hv hv' hgi hrow hglen hown1 hgr1 hvb hne hblk hblk1 hfin hgo1 e1 ho hrw k1 k2 hi29 hz0 hz1 hz2 hm1
                go_wp2_with fail
                refine start_ (n := 11) (S := fun w' => (w'.cell? ⟨go, m1, none⟩ = some v) ∧ (w'.cell? ⟨Q, 0, none⟩ = some (.int .i64 a)) ∧ (w'.cell? ⟨Q, 1, none⟩ = some (.int .i64 b))) (ds := [8, 10]) #[false, false, false, false, false, false, false, false, false, false, false] (by kernel_rfl) rfl rfl ⟨m0, m1c, m2c⟩ (fun hHeld => ?_)
                refine pure_ (i := 0) (N := some 71) (v := ?_) (a' := ?_) #[true, false, false, false, false, false, false, false, false, false, false] rfl rfl (by kernel_rfl) (fun _ _ _ h => h) (Or.inl ⟨by rfl, ?_⟩) ?_ ?_
                rotate_left
                · intro w'
                  go_simp
                  with_reducible rfl
                rotate_left
                · simp only [Act.put, List.setIfInBounds_toArray, List.set_cons_zero, List.set_cons_succ, i64_w, i32_w]
                  rfl
                refine pure_ (i := 1) (N := some 72) (v := ?_) (a' := ?_) #[true, true, false, false, false, false, false, false, false, false, false] rfl rfl (by kernel_rfl) (fun _ _ _ h => h) (Or.inl ⟨by rfl, ?_⟩) ?_ ?_
                rotate_left
                · intro w'
                  go_simp
                  with_reducible rfl
                rotate_left
                · simp only [Act.put, List.setIfInBounds_toArray, List.set_cons_zero, List.set_cons_succ, i64_w, i32_w]
                  rfl
                refine pure_ (i := 2) (N := some 73) (v := ?_) (a' := ?_) #[true, true, true, false, false, false, false, false, false, false, false] rfl rfl (by kernel_rfl) (fun _ _ _ h => h) (Or.inl ⟨by rfl, ?_⟩) ?_ ?_
                rotate_left
                · intro w'
                  go_simp
                  with_reducible rfl
                rotate_left
                · simp only [Act.put, List.setIfInBounds_toArray, List.set_cons_zero, List.set_cons_succ, i64_w, i32_w]
                  rfl
                refine pure_ (i := 3) (N := some 74) (v := ?_) (a' := ?_) #[true, true, true, true, false, false, false, false, false, false, false] rfl rfl (by kernel_rfl) (fun _ _ _ h => h) (Or.inl ⟨by rfl, ?_⟩) ?_ ?_
                rotate_left
                · intro w'
                  go_simp
                  with_reducible rfl
                rotate_left
                · simp only [Act.put, List.setIfInBounds_toArray, List.set_cons_zero, List.set_cons_succ, i64_w, i32_w]
                  rfl
                refine pure_ (i := 4) (N := some 75) (v := ?_) (a' := ?_) #[true, true, true, true, true, false, false, false, false, false, false] rfl rfl (by kernel_rfl) (fun _ _ _ h => h) (Or.inl ⟨by rfl, ?_⟩) ?_ ?_
                rotate_left
                · intro w'
                  go_simp
                  with_reducible rfl
                rotate_left
                · simp only [Act.put, List.setIfInBounds_toArray, List.set_cons_zero, List.set_cons_succ, i64_w, i32_w]
                  rfl
                refine take_ (i := 5) (N := some 76) (v := ?_) (a' := ?_) #[true, true, true, true, true, true, false, false, false, false, false] rfl rfl (by kernel_rfl) (fun _ _ _ h => h) (Or.inl ⟨by rfl, ?_⟩) hHeld ?_ ?_
                rotate_left
                · rintro w' ⟨s0, s1, s2⟩
                  go_simp
                  with_reducible rfl
                rotate_left
                · simp only [Act.put, List.setIfInBounds_toArray, List.set_cons_zero, List.set_cons_succ, i64_w, i32_w]
                  rfl
                refine take_ (i := 6) (N := some 77) (v := ?_) (a' := ?_) #[true, true, true, true, true, true, true, false, false, false, false] rfl rfl (by kernel_rfl) (fun _ _ _ h => h) (Or.inl ⟨by rfl, ?_⟩) hHeld ?_ ?_
                rotate_left
                · rintro w' ⟨s0, s1, s2⟩
                  go_simp
                  with_reducible rfl
                rotate_left
                · simp only [Act.put, List.setIfInBounds_toArray, List.set_cons_zero, List.set_cons_succ, i64_w, i32_w]
                  rfl
                refine one_ (i := 7) (N := some 78) #[true, true, true, true, true, true, true, true, false, false, false] rfl rfl (by kernel_rfl) (by decide) (fun K hK => ?_)
                refine value_ (w1 := ?_) (v := ?_) (by rfl) rfl ?_ ?_
                rotate_left 2
                · go_simp
                  constructor
                  · rfl
                  · rfl
                refine hK.out _ _ ⟨bread_alloc hHeld.1 _, bread_alloc hHeld.2.1 _, bread_alloc hHeld.2.2 _⟩ (fun hHeld => ?_)
                clear hK K
                refine norm_ (a' := ?_) ?_ ?_
                rotate_left
                · show Act.put _ (some 78) _ = _
                  simp only [Act.put, List.setIfInBounds_toArray, List.set_cons_zero, List.set_cons_succ, i64_w, i32_w]
                  rfl
                refine last_ (i := 8) (N := some 79) #[true, true, true, true, true, true, true, true, true, false, false] rfl rfl (by kernel_rfl) (by decide) (fun K hK => ?_)
                refine value_ (w1 := w1') (v := (.slice (some ⟨gv, 0, none⟩) (g.2.length + 1) capv)) (by rfl) rfl ?_ ?_
                · exact value_append (s := .tmp 76) (x := .tmp 78) rfl rfl rfl rfl hrun
                refine hK.out _ _ ?_
                clear hK K
                refine norm_ (a' := ?_) ?_ ?_
                rotate_left
                · show Act.put _ (some 79) _ = _
                  simp only [Act.put, List.setIfInBounds_toArray, List.set_cons_zero, List.set_cons_succ, i64_w, i32_w]
                  rfl
                refine pure_ (i := 9) (N := some 80) (v := ?_) (a' := ?_) #[true, true, true, true, true, true, true, true, true, true, false] rfl rfl (by kernel_rfl) (fun _ _ _ h => h) (Or.inl ⟨by rfl, ?_⟩) ?_ ?_
                rotate_left
                · intro w'
                  go_simp
                  with_reducible rfl
                rotate_left
                · simp only [Act.put, List.setIfInBounds_toArray, List.set_cons_zero, List.set_cons_succ, i64_w, i32_w]
                  rfl
                refine last_ (i := 10) (N := none) #[true, true, true, true, true, true, true, true, true, true, true] rfl rfl (by kernel_rfl) (by decide) (fun K hK => ?_)
                refine skip_ (w1 := ?_) (by rfl) rfl ?_ ?_
                rotate_left
                · go_simp
                  rfl
                refine hK.out _ _ ?_
                clear hK K
                refine done_ (by kernel_rfl) ?_
                go_wp2
                go_roundw
                case rel => exact ⟨j + 1, _, _, _, by omega, rfl, rfl, by simp, HLEN, HSTEP1, HGE2, HFIN, HBF⟩
                case measure => simp [intOf]; omega
              · have e13 : (g0.1 == s) = false := beq_eq_false_iff_ne.2 hs2
                have e14 : (g0.1 != s) = true := by simp [hs2]
                have HADD := Aside0.mk (show addG G s ⟨a, b⟩ = lastG (pushG G s) ⟨a, b⟩ by unfold addG; rw [hgl]; simp [hs2])
                have HHH := Aside0.mk hs2
                clear hgl
                obtain ⟨i2, hi2, y0, y1, y2⟩ := info_parts info2
                obtain ⟨i22, hi22, x0, x1, x2⟩ := info_parts info22
                have HS5 := Aside0.mk (HG5.out.starts.alloc (.cells #[.int .i64 s] 2))
                have hgl9 := HGL.out
                go_wp2_with (first | (at_builtin; refine wpList_append_own _ rfl _ _ 80 rfl w.heap.size 2 i2 (.int .i64 0) 1 8 Try.underlying80 hi2 y0 y1 y2 rfl (by decide) _ G.length _ rfl HS5.out ⟨W5.heap.size, 0, none⟩ 1 1 [.int .i64 s] rfl rfl (cell_one_new _ _ _) (by simp [Value.oneCell']) (by unfold maxLen; omega) (by omega) (by have := HBW5.out.size; simp; omega) ?_) | go_in)
                intro vs1 w6 hs6 hg6 _
                have HB6 := Aside0.mk (((Below.refl W5.heap.size W5).alloc (Nat.le_refl _) (.cells #[.int .i64 s] 2)))
                have HBW6a := Aside0.mk ((HBW5.out.alloc HBW5.out.size (.cells #[.int .i64 s] 2)).grown hg6 (by have := HBW5.out.size; simp; omega) (fun q hq => (HS5.out.lt q hq).1))
                have ho0 := HOL.out.1
                have HO6 := Aside0.mk (show (w6.alloc (.cells #[.slice none 0 0] 22)).ownsRow w.heap.size 22 1 u9 G.length L0 from (own_grown (ho0.alloc (.cells #[.int .i64 s] 2)) HS5.out (by decide) hg6).alloc _)
                have HS6 := Aside0.mk hs6
                have HGR6 := Aside0.mk hg6
                clear hs6 hg6 ho0
                go_wp2_with (first | (at_builtin; refine wpList_append_own _ rfl _ _ 81 rfl w.heap.size 22 i22 (.slice none 0 0) 1 24 Try.underlying81 hi22 x0 x1 x2 rfl (by decide) _ G.length _ rfl HO6.out ⟨w6.heap.size, 0, none⟩ 1 1 [.slice none 0 0] rfl rfl (cell_one_new _ _ _) (by simp [Value.oneCell']) (by unfold maxLen; omega) (by omega) (by have := HBW6a.out.size; simp; omega) ?_) | go_in)
                intro vo1 W6 ho7 hg7 _
                have HG1 := Aside0.mk (show GP w.heap.size vs1 vo1 (pushG G s) W6 from IsG.pushed HG5.out.starts HOL.out.1 HOL.out.2 HB6.out HGR6.out HS6.out ((Below.refl w6.heap.size w6).alloc (Nat.le_refl _) (.cells #[.slice none 0 0] 22)) hg7 ho7)
                have HBW6 := Aside0.mk ((HBW6a.out.alloc HBW6a.out.size (.cells #[.slice none 0 0] 22)).grown hg7 (by have := HBW6a.out.size; simp; omega) (fun q hq => (HO6.out.lt q hq).1))
                have hq6 : w6.heap[Q]? = some (.cells #[.int .i64 a, .int .i64 b] 29 (0, 0)) := (HGR6.out.block Q (Nat.lt_of_lt_of_le (blk_lt HQB.out) (by simp)) (Ne.symm (row_ne HS5.out (blk_alloc HQB.out _) (by decide)))).trans (blk_alloc HQB.out _)
                have hq7 : W6.heap[Q]? = some (.cells #[.int .i64 a, .int .i64 b] 29 (0, 0)) := (hg7.block Q (Nat.lt_of_lt_of_le (blk_lt hq6) (by simp)) (Ne.symm (row_ne HO6.out (blk_alloc hq6 _) (by decide)))).trans (blk_alloc hq6 _)
                have k1 := blk_cell hq7 0
                have k2 := blk_cell hq7 1
                simp only [List.getElem?_toArray, List.getElem?_cons_zero, List.getElem?_cons_succ] at k1 k2
                obtain ⟨G1, hG1⟩ : ∃ G1, G1 = pushG G s := ⟨_, rfl⟩
                have hm1' : G1.length = G.length + 1 := by rw [hG1]; simp [pushG]
                obtain ⟨m1, hmm⟩ : ∃ m1, m1 = G.length := ⟨_, rfl⟩
                have hm1 : G1.length = m1 + 1 := by rw [hmm]; exact hm1'
                obtain ⟨g, hgd⟩ : ∃ g : Int × List S29, g = (s, []) := ⟨_, rfl⟩
                have HGLA := Aside0.mk (show G1.getLast? = some g by rw [hG1, hgd]; unfold pushG; exact List.getLast?_concat)
                have HGE1 := Aside0.mk (show ∀ g ∈ G1, g.2.length ≤ j by
                  intro g hg
                  rw [hG1] at hg
                  rcases List.mem_append.1 hg with h1 | h1
                  · exact HGE.out g h1
                  · rw [List.mem_singleton.1 h1]; simp)
                have HG1L := Aside0.mk (show G1.length ≤ j + 1 by have := HGL.out; omega)
                have HSTEP1 := Aside0.mk (show grpF Wd S29.f0 (l.drop (j + 1)) (prevA S29.f0 l (j + 1)) (lastG G1 ⟨a, b⟩) = R by rw [hG1, ← HADD.out]; exact HSTEP.out)
                have HGE2 := Aside0.mk (show ∀ g ∈ lastG G1 ⟨a, b⟩, g.2.length ≤ j + 1 by rw [hG1, ← HADD.out]; exact addG_sizes HGE.out)
                have HG1b := Aside0.mk (show GP w.heap.size vs1 vo1 G1 W6 by rw [hG1]; exact HG1.out)
                clear HG1 HS5 HO6 HS6 HGR6 hg7 ho7 hq6 hq7 hG1 hgd hmm hgl9 HG5 HQB HOL hm1'
                have HG1 := HG1b
                clear hi2 y0 y1 y2 hi22 x0 x1 x2
                obtain ⟨L, ho, hrw⟩ := HG1.out.out
                obtain ⟨go, capo, cur, hvo, hblk, _⟩ := row_pos ho (by omega)
                subst hvo
                have hLl : m1 < L.length := by have := hrw.len; rw [List.length_map] at this; omega
                obtain ⟨v, hv⟩ : ∃ v, L[m1]? = some v := ⟨_, List.getElem?_eq_getElem hLl⟩
                have e1 : G1.length - 1 = m1 := by omega
                have hv' : L[G1.length - 1]? = some v := by rw [e1]; exact hv
                have hgi : G1[G1.length - 1]? = some g := by rw [← List.getLast?_eq_getElem?]; exact HGLA.out
                have hrow := hrw.row _ v g.2 hv' (by rw [List.getElem?_map, hgi]; rfl)
                have m0 : W6.drew.cell? ⟨go, m1, none⟩ = some v := (ho.cellAt m1 (by omega)).trans hv
                have m1c : W6.drew.cell? ⟨Q, 0, none⟩ = some (.int .i64 a) := k1
                have m2c : W6.drew.cell? ⟨Q, 1, none⟩ = some (.int .i64 b) := k2
                obtain ⟨i29, hi29, hz0, hz1, hz2⟩ := info_parts info29
                have hglen := HGE1.out g (List.mem_of_getElem? hgi)
                obtain ⟨v1, w1', hrun, hown1, hgr1, _, hvb⟩ := run_append_own_at (P := Try.prog) (w := W6.drew.alloc (.cells #[.int .i64 a, .int .i64 b] 29)) w.heap.size 22 22 29 i29 _ 2 16 Try.underlying22 hi29 hz0 hz1 hz2 rfl (by decide) v g.2.length (g.2.flatMap cellsP) (hrow.drew.alloc _) ⟨W6.heap.size, 0, none⟩ 1 1 [.int .i64 a, .int .i64 b] rfl (fun i u hu => by
                  have hb := blk_cell (blk_new W6.drew (.cells #[.int .i64 a, .int .i64 b] 29 (0, 0)))
                  have hsz : W6.drew.heap.size = W6.heap.size := rfl
                  rw [hsz] at hb
                  have ea : Addr.add ⟨W6.heap.size, 0, none⟩ i = ⟨W6.heap.size, i, none⟩ := by unfold Addr.add; split <;> simp_all
                  rw [ea]
                  rcases i with _ | i
                  · injection hu with hu; subst hu; exact hb 0
                  · rcases i with _ | i
                    · injection hu with hu; subst hu; exact hb 1
                    · cases hu) (by intro u hu; simp at hu; rcases hu with rfl | rfl <;> rfl) (by unfold maxLen; omega) (by omega) (by have := HBW6.out.size; simp; omega)
                obtain ⟨gv, capv, curv, hv1, _⟩ := row_pos hown1 (by omega)
                subst hv1
                have hne : v.ownBlock ≠ some go := row_ne hrow hblk (by decide)
                have hblk1 : w1'.heap[go]? = some (.cells cur 22 (0, 0)) := (hgr1.block go (Nat.lt_of_lt_of_le (blk_lt hblk) (by simp)) (Ne.symm hne)).trans (blk_alloc (w := W6.drew) hblk _)
                have n0 : w1'.cell? ⟨go, m1, none⟩ = some v := by rw [blk_cell hblk1, ← blk_cell (w := W6.drew) hblk]; exact m0
                have fz : w1'.frozen? ⟨go, m1, none⟩ = false := blk_frozen hblk1 m1
                have hfin := IsG.lasted (x := ⟨a, b⟩) (HG1.out.starts.drew.alloc (.cells #[.int .i64 a, .int .i64 b] 29)) (ho.drew.alloc (.cells #[.int .i64 a, .int .i64 b] 29)) ((hrw.kept (w' := W6.drew.alloc (.cells #[.int .i64 a, .int .i64 b] 29)) (fun i u bb _ _ hl => Below.heap_alloc W6.drew _ bb hl))) HGLA.out hv' hgr1 hown1 hvb
                rw [e1, hm1] at hfin
                have HFIN := Aside0.mk hfin
                have hgo1 := (ho.lt go (by simp [Value.ownBlock])).1
                have HBF := Aside0.mk ((((pw_below_drewN HBW6.out 1).alloc (show w.heap.size ≤ W6.drew.heap.size from HBW6.out.size) (.cells #[.int .i64 a, .int .i64 b] 29)).grown hgr1 (by have := HBW6.out.size; simp; omega) (fun q hq => (hrow.lt q hq).1)).setCell (p := ⟨go, m1, none⟩) hgo1 (.slice (some ⟨gv, 0, none⟩) (g.2.length + 1) capv))
                have hA0 : (0 : Int) ≤ (m1 : Int) := by omega
                have hmj : (m1 : Int) ≤ 100000 := by have := HG1L.out; omega
                have hmlt : (m1 : Int) < (m1 : Int) + 1 := by omega
                have HLEN := Aside0.mk (show (lastG G1 ⟨a, b⟩).length ≤ j + 1 by rw [lastG_length]; have := HG1L.out; omega)
                have HMM := Aside0.mk hm1
                rw [hm1]
                clear hLl hv hv' hgi hrow hglen hown1 hgr1 hvb hne hblk hblk1 hfin hgo1 e1 ho hrw k1 k2 hi29 hz0 hz1 hz2 hm1
                go_wp2_with fail
                refine start_ (n := 11) (S := fun w' => (w'.cell? ⟨go, m1, none⟩ = some v) ∧ (w'.cell? ⟨Q, 0, none⟩ = some (.int .i64 a)) ∧ (w'.cell? ⟨Q, 1, none⟩ = some (.int .i64 b))) (ds := [8, 10]) #[false, false, false, false, false, false, false, false, false, false, false] (by kernel_rfl) rfl rfl ⟨m0, m1c, m2c⟩ (fun hHeld => ?_)
                refine pure_ (i := 0) (N := some 71) (v := ?_) (a' := ?_) #[true, false, false, false, false, false, false, false, false, false, false] rfl rfl (by kernel_rfl) (fun _ _ _ h => h) (Or.inl ⟨by rfl, ?_⟩) ?_ ?_
                rotate_left
                · intro w'
                  go_simp
                  with_reducible rfl
                rotate_left
                · simp only [Act.put, List.setIfInBounds_toArray, List.set_cons_zero, List.set_cons_succ, i64_w, i32_w]
                  rfl
                refine pure_ (i := 1) (N := some 72) (v := ?_) (a' := ?_) #[true, true, false, false, false, false, false, false, false, false, false] rfl rfl (by kernel_rfl) (fun _ _ _ h => h) (Or.inl ⟨by rfl, ?_⟩) ?_ ?_
                rotate_left
                · intro w'
                  go_simp
                  with_reducible rfl
                rotate_left
                · simp only [Act.put, List.setIfInBounds_toArray, List.set_cons_zero, List.set_cons_succ, i64_w, i32_w]
                  rfl
                refine pure_ (i := 2) (N := some 73) (v := ?_) (a' := ?_) #[true, true, true, false, false, false, false, false, false, false, false] rfl rfl (by kernel_rfl) (fun _ _ _ h => h) (Or.inl ⟨by rfl, ?_⟩) ?_ ?_
                rotate_left
                · intro w'
                  go_simp
                  with_reducible rfl
                rotate_left
                · simp only [Act.put, List.setIfInBounds_toArray, List.set_cons_zero, List.set_cons_succ, i64_w, i32_w]
                  rfl
                refine pure_ (i := 3) (N := some 74) (v := ?_) (a' := ?_) #[true, true, true, true, false, false, false, false, false, false, false] rfl rfl (by kernel_rfl) (fun _ _ _ h => h) (Or.inl ⟨by rfl, ?_⟩) ?_ ?_
                rotate_left
                · intro w'
                  go_simp
                  with_reducible rfl
                rotate_left
                · simp only [Act.put, List.setIfInBounds_toArray, List.set_cons_zero, List.set_cons_succ, i64_w, i32_w]
                  rfl
                refine pure_ (i := 4) (N := some 75) (v := ?_) (a' := ?_) #[true, true, true, true, true, false, false, false, false, false, false] rfl rfl (by kernel_rfl) (fun _ _ _ h => h) (Or.inl ⟨by rfl, ?_⟩) ?_ ?_
                rotate_left
                · intro w'
                  go_simp
                  with_reducible rfl
                rotate_left
                · simp only [Act.put, List.setIfInBounds_toArray, List.set_cons_zero, List.set_cons_succ, i64_w, i32_w]
                  rfl
                refine take_ (i := 5) (N := some 76) (v := ?_) (a' := ?_) #[true, true, true, true, true, true, false, false, false, false, false] rfl rfl (by kernel_rfl) (fun _ _ _ h => h) (Or.inl ⟨by rfl, ?_⟩) hHeld ?_ ?_
                rotate_left
                · rintro w' ⟨s0, s1, s2⟩
                  go_simp
                  with_reducible rfl
                rotate_left
                · simp only [Act.put, List.setIfInBounds_toArray, List.set_cons_zero, List.set_cons_succ, i64_w, i32_w]
                  rfl
                refine take_ (i := 6) (N := some 77) (v := ?_) (a' := ?_) #[true, true, true, true, true, true, true, false, false, false, false] rfl rfl (by kernel_rfl) (fun _ _ _ h => h) (Or.inl ⟨by rfl, ?_⟩) hHeld ?_ ?_
                rotate_left
                · rintro w' ⟨s0, s1, s2⟩
                  go_simp
                  with_reducible rfl
                rotate_left
                · simp only [Act.put, List.setIfInBounds_toArray, List.set_cons_zero, List.set_cons_succ, i64_w, i32_w]
                  rfl
                refine one_ (i := 7) (N := some 78) #[true, true, true, true, true, true, true, true, false, false, false] rfl rfl (by kernel_rfl) (by decide) (fun K hK => ?_)
                refine value_ (w1 := ?_) (v := ?_) (by rfl) rfl ?_ ?_
                rotate_left 2
                · go_simp
                  constructor
                  · rfl
                  · rfl
                refine hK.out _ _ ⟨bread_alloc hHeld.1 _, bread_alloc hHeld.2.1 _, bread_alloc hHeld.2.2 _⟩ (fun hHeld => ?_)
                clear hK K
                refine norm_ (a' := ?_) ?_ ?_
                rotate_left
                · show Act.put _ (some 78) _ = _
                  simp only [Act.put, List.setIfInBounds_toArray, List.set_cons_zero, List.set_cons_succ, i64_w, i32_w]
                  rfl
                refine last_ (i := 8) (N := some 79) #[true, true, true, true, true, true, true, true, true, false, false] rfl rfl (by kernel_rfl) (by decide) (fun K hK => ?_)
                refine value_ (w1 := w1') (v := (.slice (some ⟨gv, 0, none⟩) (g.2.length + 1) capv)) (by rfl) rfl ?_ ?_
                · exact value_append (s := .tmp 76) (x := .tmp 78) rfl rfl rfl rfl hrun
                refine hK.out _ _ ?_
                clear hK K
                refine norm_ (a' := ?_) ?_ ?_
                rotate_left
                · show Act.put _ (some 79) _ = _
                  simp only [Act.put, List.setIfInBounds_toArray, List.set_cons_zero, List.set_cons_succ, i64_w, i32_w]
                  rfl
                refine pure_ (i := 9) (N := some 80) (v := ?_) (a' := ?_) #[true, true, true, true, true, true, true, true, true, true, false] rfl rfl (by kernel_rfl) (fun _ _ _ h => h) (Or.inl ⟨by rfl, ?_⟩) ?_ ?_
                rotate_left
                · intro w'
                  go_simp
                  with_reducible rfl
                rotate_left
                · simp only [Act.put, List.setIfInBounds_toArray, List.set_cons_zero, List.set_cons_succ, i64_w, i32_w]
                  rfl
                refine last_ (i := 10) (N := none) #[true, true, true, true, true, true, true, true, true, true, true] rfl rfl (by kernel_rfl) (by decide) (fun K hK => ?_)
                refine skip_ (w1 := ?_) (by rfl) rfl ?_ ?_
                rotate_left
                · go_simp
                  rfl
                refine hK.out _ _ ?_
                clear hK K
                refine done_ (by kernel_rfl) ?_
                go_wp2
                go_roundw
                case rel => exact ⟨j + 1, _, _, _, by omega, rfl, rfl, by simp, HLEN, HSTEP1, HGE2, HFIN, HBF⟩
                case measure => simp [intOf]; omega
          · obtain ⟨jm, hjm⟩ : ∃ jm, j = jm + 1 := ⟨j - 1, by omega⟩
            obtain ⟨y, hy⟩ : ∃ y, l[jm]? = some y := ⟨_, List.getElem?_eq_getElem (by omega)⟩
            have hcy := hcell jm y hy
            have r0 : wr.cell? (ad.add (jm * 2)) = some (.int .i64 y.f0) := by rw [HB.out.cell (World.block_lt_of_cell? w _ hcy.1)]; exact hcy.1
            have r1 : wr.cell? ⟨(ad.add (jm * 2)).block, (ad.add (jm * 2)).off + 1, none⟩ = some (.int .i64 y.f1) := by rw [HB.out.cell (World.block_lt_of_cell? w _ hcy.2)]; exact hcy.2
            have hpv : prevA S29.f0 l j = some y.f0 := by
              unfold prevA
              rw [if_neg hj0, show j - 1 = jm by omega, hy]
              rfl
            have d3 : decide ((0 : Int) < (j : Int)) = true := decide_eq_true (by omega)
            have d3n : decide (0 < j) = true := decide_eq_true (by omega)
            have jA : IntKind.i64.wrap ((j : Int) - 1) = (j : Int) - 1 := by rw [IntKind.wrap_i64]; omega
            have jB : (0 : Int) ≤ (j : Int) - 1 := by omega
            have jC : (j : Int) - 1 < (l.length : Int) := by omega
            have jD : ((j : Int) - 1).toNat = jm := by omega
            obtain ⟨c, d⟩ := y
            have s0 := bread_alloc r0 (.cells #[.int .i64 a, .int .i64 b] 29)
            have s1 := bread_alloc r1 (.cells #[.int .i64 a, .int .i64 b] 29)
            clear hcy hy r0 r1
            by_cases hge : a ≤ c
            · rw [if_pos (Or.inr ⟨c, hpv, hge⟩)] at hstep
              subst hstep
              have d5 : decide (a ≤ c) = true := decide_eq_true hge
              clear hcell hcx hx hQ hpv hjm
              go_wp2_with fail
              refine (at_calls a b _).mono ?_
              rintro e w3 ⟨rfl, h3⟩
              have HB3 := Aside0.mk (HB.out.trans ((HBX.out.trans (h3.mono HBX.out.size)).mono HB.out.size))
              have t0 := bread h3 s0
              have t1 := bread h3 s1
              clear h3 s0 s1 u0 u1
              go_wp2_with fail
              refine (at_calls c d _).mono ?_
              rintro e w4 ⟨rfl, h4⟩
              have HB4 := Aside0.mk (HB3.out.trans (h4.mono HB3.out.size))
              clear h4
              go_wp2
              go_ret2
              exact ⟨_, _, rfl, IsG.start _, HB4.out⟩
            · rw [if_neg (by
                rintro (h1 | ⟨q, h1, h2⟩)
                · exact ha h1
                · rw [hpv] at h1
                  injection h1 with h1
                  rw [← h1] at h2
                  exact hge h2)] at hstep
              have d5 : decide (a ≤ c) = false := decide_eq_false hge
              clear hcell hcx hx ha hpv hjm hge
              go_wp2_with fail
              refine (at_calls a b _).mono ?_
              rintro e w3 ⟨rfl, h3⟩
              have t0 := bread h3 s0
              have t1 := bread h3 s1
              have HG3 := Aside0.mk ((HG.out.below HBX.out).below h3)
              have HB3 := Aside0.mk (HB.out.trans ((HBX.out.trans (h3.mono HBX.out.size)).mono HB.out.size))
              have HQB3 := Aside0.mk (show w3.heap[Q]? = some (.cells #[.int .i64 a, .int .i64 b] 29 (0, 0)) from (h3.block Q (by rw [hQ]; simp)).trans (by rw [hQ]; exact blk_new wr _))
              rw [← hQ]
              clear h3 hQ s0 s1 u0 u1 HBX
              go_wp2_with fail
              refine (at_calls c d _).mono ?_
              rintro e W ⟨rfl, h4⟩
              have HGW := Aside0.mk (HG3.out.below h4)
              have HBW := Aside0.mk (HB3.out.trans (h4.mono HB3.out.size))
              have HQBW := Aside0.mk ((h4.block Q (blk_lt HQB3.out)).trans HQB3.out)
              clear h4 t0 t1 HG3 HB3 HQB3 jA jB jC jD
              have hst := HST.out a
              obtain ⟨s, hs⟩ : ∃ s, s = a - a % Wd := ⟨_, rfl⟩
              have HSTEP := Aside0.mk (show grpF Wd S29.f0 (l.drop (j + 1)) (prevA S29.f0 l (j + 1)) (addG G s ⟨a, b⟩) = R by rw [hs]; exact hstep)
              rw [← hs] at hst
              have HSS := Lib.hid hst
              clear hst hs hstep
              go_wp2_with fail
              refine (HSS.out _ (by omega) HXI.out).mono ?_
              rintro e W5 ⟨rfl, h5⟩
              have hb5 := below_drewN0 h5
              have HG5 := Aside0.mk (HGW.out.below hb5)
              have HBW5 := Aside0.mk (HBW.out.trans (hb5.mono HBW.out.size))
              have HQB := Aside0.mk ((hb5.block Q (blk_lt HQBW.out)).trans HQBW.out)
              obtain ⟨L0, ho0, hr0⟩ := HG5.out.out
              have HOL := Aside0.mk (And.intro ho0 hr0)
              clear h5 hb5 ho0 hr0 HGW HBW HQBW
              cases hgl : G.getLast? with
              | none =>
                have hG0 : G.length = 0 := by rw [List.getLast?_eq_none_iff.1 hgl]; rfl
                have e12 : ((G.length : Int) == 0) = true := beq_iff_eq.2 (by omega)
                have HADD := Aside0.mk (show addG G s ⟨a, b⟩ = lastG (pushG G s) ⟨a, b⟩ by unfold addG; rw [hgl]; simp)
                obtain ⟨As, caps, hvs⟩ := row_form HG5.out.starts
                subst hvs
                clear hgl hG0
                obtain ⟨i2, hi2, y0, y1, y2⟩ := info_parts info2
                obtain ⟨i22, hi22, x0, x1, x2⟩ := info_parts info22
                have HS5 := Aside0.mk (HG5.out.starts.alloc (.cells #[.int .i64 s] 2))
                have hgl9 := HGL.out
                go_wp2_with (first | (at_builtin; refine wpList_append_own _ rfl _ _ 80 rfl w.heap.size 2 i2 (.int .i64 0) 1 8 Try.underlying80 hi2 y0 y1 y2 rfl (by decide) _ G.length _ rfl HS5.out ⟨W5.heap.size, 0, none⟩ 1 1 [.int .i64 s] rfl rfl (cell_one_new _ _ _) (by simp [Value.oneCell']) (by unfold maxLen; omega) (by omega) (by have := HBW5.out.size; simp; omega) ?_) | go_in)
                intro vs1 w6 hs6 hg6 _
                have HB6 := Aside0.mk (((Below.refl W5.heap.size W5).alloc (Nat.le_refl _) (.cells #[.int .i64 s] 2)))
                have HBW6a := Aside0.mk ((HBW5.out.alloc HBW5.out.size (.cells #[.int .i64 s] 2)).grown hg6 (by have := HBW5.out.size; simp; omega) (fun q hq => (HS5.out.lt q hq).1))
                have ho0 := HOL.out.1
                have HO6 := Aside0.mk (show (w6.alloc (.cells #[.slice none 0 0] 22)).ownsRow w.heap.size 22 1 u9 G.length L0 from (own_grown (ho0.alloc (.cells #[.int .i64 s] 2)) HS5.out (by decide) hg6).alloc _)
                have HS6 := Aside0.mk hs6
                have HGR6 := Aside0.mk hg6
                clear hs6 hg6 ho0
                go_wp2_with (first | (at_builtin; refine wpList_append_own _ rfl _ _ 81 rfl w.heap.size 22 i22 (.slice none 0 0) 1 24 Try.underlying81 hi22 x0 x1 x2 rfl (by decide) _ G.length _ rfl HO6.out ⟨w6.heap.size, 0, none⟩ 1 1 [.slice none 0 0] rfl rfl (cell_one_new _ _ _) (by simp [Value.oneCell']) (by unfold maxLen; omega) (by omega) (by have := HBW6a.out.size; simp; omega) ?_) | go_in)
                intro vo1 W6 ho7 hg7 _
                have HG1 := Aside0.mk (show GP w.heap.size vs1 vo1 (pushG G s) W6 from IsG.pushed HG5.out.starts HOL.out.1 HOL.out.2 HB6.out HGR6.out HS6.out ((Below.refl w6.heap.size w6).alloc (Nat.le_refl _) (.cells #[.slice none 0 0] 22)) hg7 ho7)
                have HBW6 := Aside0.mk ((HBW6a.out.alloc HBW6a.out.size (.cells #[.slice none 0 0] 22)).grown hg7 (by have := HBW6a.out.size; simp; omega) (fun q hq => (HO6.out.lt q hq).1))
                have hq6 : w6.heap[Q]? = some (.cells #[.int .i64 a, .int .i64 b] 29 (0, 0)) := (HGR6.out.block Q (Nat.lt_of_lt_of_le (blk_lt HQB.out) (by simp)) (Ne.symm (row_ne HS5.out (blk_alloc HQB.out _) (by decide)))).trans (blk_alloc HQB.out _)
                have hq7 : W6.heap[Q]? = some (.cells #[.int .i64 a, .int .i64 b] 29 (0, 0)) := (hg7.block Q (Nat.lt_of_lt_of_le (blk_lt hq6) (by simp)) (Ne.symm (row_ne HO6.out (blk_alloc hq6 _) (by decide)))).trans (blk_alloc hq6 _)
                have k1 := blk_cell hq7 0
                have k2 := blk_cell hq7 1
                simp only [List.getElem?_toArray, List.getElem?_cons_zero, List.getElem?_cons_succ] at k1 k2
                obtain ⟨G1, hG1⟩ : ∃ G1, G1 = pushG G s := ⟨_, rfl⟩
                have hm1' : G1.length = G.length + 1 := by rw [hG1]; simp [pushG]
                obtain ⟨m1, hmm⟩ : ∃ m1, m1 = G.length := ⟨_, rfl⟩
                have hm1 : G1.length = m1 + 1 := by rw [hmm]; exact hm1'
                obtain ⟨g, hgd⟩ : ∃ g : Int × List S29, g = (s, []) := ⟨_, rfl⟩
                have HGLA := Aside0.mk (show G1.getLast? = some g by rw [hG1, hgd]; unfold pushG; exact List.getLast?_concat)
                have HGE1 := Aside0.mk (show ∀ g ∈ G1, g.2.length ≤ j by
                  intro g hg
                  rw [hG1] at hg
                  rcases List.mem_append.1 hg with h1 | h1
                  · exact HGE.out g h1
                  · rw [List.mem_singleton.1 h1]; simp)
                have HG1L := Aside0.mk (show G1.length ≤ j + 1 by have := HGL.out; omega)
                have HSTEP1 := Aside0.mk (show grpF Wd S29.f0 (l.drop (j + 1)) (prevA S29.f0 l (j + 1)) (lastG G1 ⟨a, b⟩) = R by rw [hG1, ← HADD.out]; exact HSTEP.out)
                have HGE2 := Aside0.mk (show ∀ g ∈ lastG G1 ⟨a, b⟩, g.2.length ≤ j + 1 by rw [hG1, ← HADD.out]; exact addG_sizes HGE.out)
                have HG1b := Aside0.mk (show GP w.heap.size vs1 vo1 G1 W6 by rw [hG1]; exact HG1.out)
                clear HG1 HS5 HO6 HS6 HGR6 hg7 ho7 hq6 hq7 hG1 hgd hmm hgl9 HG5 HQB HOL hm1'
                have HG1 := HG1b
                clear hi2 y0 y1 y2 hi22 x0 x1 x2
                obtain ⟨L, ho, hrw⟩ := HG1.out.out
                obtain ⟨go, capo, cur, hvo, hblk, _⟩ := row_pos ho (by omega)
                subst hvo
                have hLl : m1 < L.length := by have := hrw.len; rw [List.length_map] at this; omega
                obtain ⟨v, hv⟩ : ∃ v, L[m1]? = some v := ⟨_, List.getElem?_eq_getElem hLl⟩
                have e1 : G1.length - 1 = m1 := by omega
                have hv' : L[G1.length - 1]? = some v := by rw [e1]; exact hv
                have hgi : G1[G1.length - 1]? = some g := by rw [← List.getLast?_eq_getElem?]; exact HGLA.out
                have hrow := hrw.row _ v g.2 hv' (by rw [List.getElem?_map, hgi]; rfl)
                have m0 : W6.drew.cell? ⟨go, m1, none⟩ = some v := (ho.cellAt m1 (by omega)).trans hv
                have m1c : W6.drew.cell? ⟨Q, 0, none⟩ = some (.int .i64 a) := k1
                have m2c : W6.drew.cell? ⟨Q, 1, none⟩ = some (.int .i64 b) := k2
                obtain ⟨i29, hi29, hz0, hz1, hz2⟩ := info_parts info29
                have hglen := HGE1.out g (List.mem_of_getElem? hgi)
                obtain ⟨v1, w1', hrun, hown1, hgr1, _, hvb⟩ := run_append_own_at (P := Try.prog) (w := W6.drew.alloc (.cells #[.int .i64 a, .int .i64 b] 29)) w.heap.size 22 22 29 i29 _ 2 16 Try.underlying22 hi29 hz0 hz1 hz2 rfl (by decide) v g.2.length (g.2.flatMap cellsP) (hrow.drew.alloc _) ⟨W6.heap.size, 0, none⟩ 1 1 [.int .i64 a, .int .i64 b] rfl (fun i u hu => by
                  have hb := blk_cell (blk_new W6.drew (.cells #[.int .i64 a, .int .i64 b] 29 (0, 0)))
                  have hsz : W6.drew.heap.size = W6.heap.size := rfl
                  rw [hsz] at hb
                  have ea : Addr.add ⟨W6.heap.size, 0, none⟩ i = ⟨W6.heap.size, i, none⟩ := by unfold Addr.add; split <;> simp_all
                  rw [ea]
                  rcases i with _ | i
                  · injection hu with hu; subst hu; exact hb 0
                  · rcases i with _ | i
                    · injection hu with hu; subst hu; exact hb 1
                    · cases hu) (by intro u hu; simp at hu; rcases hu with rfl | rfl <;> rfl) (by unfold maxLen; omega) (by omega) (by have := HBW6.out.size; simp; omega)
                obtain ⟨gv, capv, curv, hv1, _⟩ := row_pos hown1 (by omega)
                subst hv1
                have hne : v.ownBlock ≠ some go := row_ne hrow hblk (by decide)
                have hblk1 : w1'.heap[go]? = some (.cells cur 22 (0, 0)) := (hgr1.block go (Nat.lt_of_lt_of_le (blk_lt hblk) (by simp)) (Ne.symm hne)).trans (blk_alloc (w := W6.drew) hblk _)
                have n0 : w1'.cell? ⟨go, m1, none⟩ = some v := by rw [blk_cell hblk1, ← blk_cell (w := W6.drew) hblk]; exact m0
                have fz : w1'.frozen? ⟨go, m1, none⟩ = false := blk_frozen hblk1 m1
                have hfin := IsG.lasted (x := ⟨a, b⟩) (HG1.out.starts.drew.alloc (.cells #[.int .i64 a, .int .i64 b] 29)) (ho.drew.alloc (.cells #[.int .i64 a, .int .i64 b] 29)) ((hrw.kept (w' := W6.drew.alloc (.cells #[.int .i64 a, .int .i64 b] 29)) (fun i u bb _ _ hl => Below.heap_alloc W6.drew _ bb hl))) HGLA.out hv' hgr1 hown1 hvb
                rw [e1, hm1] at hfin
                have HFIN := Aside0.mk hfin
                have hgo1 := (ho.lt go (by simp [Value.ownBlock])).1
                have HBF := Aside0.mk ((((pw_below_drewN HBW6.out 1).alloc (show w.heap.size ≤ W6.drew.heap.size from HBW6.out.size) (.cells #[.int .i64 a, .int .i64 b] 29)).grown hgr1 (by have := HBW6.out.size; simp; omega) (fun q hq => (hrow.lt q hq).1)).setCell (p := ⟨go, m1, none⟩) hgo1 (.slice (some ⟨gv, 0, none⟩) (g.2.length + 1) capv))
                have hA0 : (0 : Int) ≤ (m1 : Int) := by omega
                have hmj : (m1 : Int) ≤ 100000 := by have := HG1L.out; omega
                have hmlt : (m1 : Int) < (m1 : Int) + 1 := by omega
                have HLEN := Aside0.mk (show (lastG G1 ⟨a, b⟩).length ≤ j + 1 by rw [lastG_length]; have := HG1L.out; omega)
                have HMM := Aside0.mk hm1
                rw [hm1]
                clear hLl hv hv' hgi hrow hglen hown1 hgr1 hvb hne hblk hblk1 hfin hgo1 e1 ho hrw k1 k2 hi29 hz0 hz1 hz2 hm1
                go_wp2_with fail
                refine start_ (n := 11) (S := fun w' => (w'.cell? ⟨go, m1, none⟩ = some v) ∧ (w'.cell? ⟨Q, 0, none⟩ = some (.int .i64 a)) ∧ (w'.cell? ⟨Q, 1, none⟩ = some (.int .i64 b))) (ds := [8, 10]) #[false, false, false, false, false, false, false, false, false, false, false] (by kernel_rfl) rfl rfl ⟨m0, m1c, m2c⟩ (fun hHeld => ?_)
                refine pure_ (i := 0) (N := some 71) (v := ?_) (a' := ?_) #[true, false, false, false, false, false, false, false, false, false, false] rfl rfl (by kernel_rfl) (fun _ _ _ h => h) (Or.inl ⟨by rfl, ?_⟩) ?_ ?_
                rotate_left
                · intro w'
                  go_simp
                  with_reducible rfl
                rotate_left
                · simp only [Act.put, List.setIfInBounds_toArray, List.set_cons_zero, List.set_cons_succ, i64_w, i32_w]
                  rfl
                refine pure_ (i := 1) (N := some 72) (v := ?_) (a' := ?_) #[true, true, false, false, false, false, false, false, false, false, false] rfl rfl (by kernel_rfl) (fun _ _ _ h => h) (Or.inl ⟨by rfl, ?_⟩) ?_ ?_
                rotate_left
                · intro w'
                  go_simp
                  with_reducible rfl
                rotate_left
                · simp only [Act.put, List.setIfInBounds_toArray, List.set_cons_zero, List.set_cons_succ, i64_w, i32_w]
                  rfl
                refine pure_ (i := 2) (N := some 73) (v := ?_) (a' := ?_) #[true, true, true, false, false, false, false, false, false, false, false] rfl rfl (by kernel_rfl) (fun _ _ _ h => h) (Or.inl ⟨by rfl, ?_⟩) ?_ ?_
                rotate_left
                · intro w'
                  go_simp
                  with_reducible rfl
                rotate_left
                · simp only [Act.put, List.setIfInBounds_toArray, List.set_cons_zero, List.set_cons_succ, i64_w, i32_w]
                  rfl
                refine pure_ (i := 3) (N := some 74) (v := ?_) (a' := ?_) #[true, true, true, true, false, false, false, false, false, false, false] rfl rfl (by kernel_rfl) (fun _ _ _ h => h) (Or.inl ⟨by rfl, ?_⟩) ?_ ?_
                rotate_left
                · intro w'
                  go_simp
                  with_reducible rfl
                rotate_left
                · simp only [Act.put, List.setIfInBounds_toArray, List.set_cons_zero, List.set_cons_succ, i64_w, i32_w]
                  rfl
                refine pure_ (i := 4) (N := some 75) (v := ?_) (a' := ?_) #[true, true, true, true, true, false, false, false, false, false, false] rfl rfl (by kernel_rfl) (fun _ _ _ h => h) (Or.inl ⟨by rfl, ?_⟩) ?_ ?_
                rotate_left
                · intro w'
                  go_simp
                  with_reducible rfl
                rotate_left
                · simp only [Act.put, List.setIfInBounds_toArray, List.set_cons_zero, List.set_cons_succ, i64_w, i32_w]
                  rfl
                refine take_ (i := 5) (N := some 76) (v := ?_) (a' := ?_) #[true, true, true, true, true, true, false, false, false, false, false] rfl rfl (by kernel_rfl) (fun _ _ _ h => h) (Or.inl ⟨by rfl, ?_⟩) hHeld ?_ ?_
                rotate_left
                · rintro w' ⟨s0, s1, s2⟩
                  go_simp
                  with_reducible rfl
                rotate_left
                · simp only [Act.put, List.setIfInBounds_toArray, List.set_cons_zero, List.set_cons_succ, i64_w, i32_w]
                  rfl
                refine take_ (i := 6) (N := some 77) (v := ?_) (a' := ?_) #[true, true, true, true, true, true, true, false, false, false, false] rfl rfl (by kernel_rfl) (fun _ _ _ h => h) (Or.inl ⟨by rfl, ?_⟩) hHeld ?_ ?_
                rotate_left
                · rintro w' ⟨s0, s1, s2⟩
                  go_simp
                  with_reducible rfl
                rotate_left
                · simp only [Act.put, List.setIfInBounds_toArray, List.set_cons_zero, List.set_cons_succ, i64_w, i32_w]
                  rfl
                refine one_ (i := 7) (N := some 78) #[true, true, true, true, true, true, true, true, false, false, false] rfl rfl (by kernel_rfl) (by decide) (fun K hK => ?_)
                refine value_ (w1 := ?_) (v := ?_) (by rfl) rfl ?_ ?_
                rotate_left 2
                · go_simp
                  constructor
                  · rfl
                  · rfl
                refine hK.out _ _ ⟨bread_alloc hHeld.1 _, bread_alloc hHeld.2.1 _, bread_alloc hHeld.2.2 _⟩ (fun hHeld => ?_)
                clear hK K
                refine norm_ (a' := ?_) ?_ ?_
                rotate_left
                · show Act.put _ (some 78) _ = _
                  simp only [Act.put, List.setIfInBounds_toArray, List.set_cons_zero, List.set_cons_succ, i64_w, i32_w]
                  rfl
                refine last_ (i := 8) (N := some 79) #[true, true, true, true, true, true, true, true, true, false, false] rfl rfl (by kernel_rfl) (by decide) (fun K hK => ?_)
                refine value_ (w1 := w1') (v := (.slice (some ⟨gv, 0, none⟩) (g.2.length + 1) capv)) (by rfl) rfl ?_ ?_
                · exact value_append (s := .tmp 76) (x := .tmp 78) rfl rfl rfl rfl hrun
                refine hK.out _ _ ?_
                clear hK K
                refine norm_ (a' := ?_) ?_ ?_
                rotate_left
                · show Act.put _ (some 79) _ = _
                  simp only [Act.put, List.setIfInBounds_toArray, List.set_cons_zero, List.set_cons_succ, i64_w, i32_w]
                  rfl
                refine pure_ (i := 9) (N := some 80) (v := ?_) (a' := ?_) #[true, true, true, true, true, true, true, true, true, true, false] rfl rfl (by kernel_rfl) (fun _ _ _ h => h) (Or.inl ⟨by rfl, ?_⟩) ?_ ?_
                rotate_left
                · intro w'
                  go_simp
                  with_reducible rfl
                rotate_left
                · simp only [Act.put, List.setIfInBounds_toArray, List.set_cons_zero, List.set_cons_succ, i64_w, i32_w]
                  rfl
                refine last_ (i := 10) (N := none) #[true, true, true, true, true, true, true, true, true, true, true] rfl rfl (by kernel_rfl) (by decide) (fun K hK => ?_)
                refine skip_ (w1 := ?_) (by rfl) rfl ?_ ?_
                rotate_left
                · go_simp
                  rfl
                refine hK.out _ _ ?_
                clear hK K
                refine done_ (by kernel_rfl) ?_
                go_wp2
                go_roundw
                case rel => exact ⟨j + 1, _, _, _, by omega, rfl, rfl, by simp, HLEN, HSTEP1, HGE2, HFIN, HBF⟩
                case measure => simp [intOf]; omega
              | some g0 =>
                obtain ⟨m0, hm0⟩ : ∃ m, G.length = m + 1 := ⟨G.length - 1, by
                  cases G with
                  | nil => cases hgl
                  | cons p r => simp⟩
                obtain ⟨gs, caps, curs, hvs, _⟩ := row_pos HG5.out.starts (by omega)
                subst hvs
                have e12 : ((G.length : Int) == 0) = false := beq_eq_false_iff_ne.2 (by omega)
                have hA : IntKind.i64.wrap ((G.length : Int) - 1) = (G.length : Int) - 1 := by have := HGL.out; rw [IntKind.wrap_i64]; omega
                have hB : (0 : Int) ≤ (G.length : Int) - 1 := by omega
                have hC : (G.length : Int) - 1 < (G.length : Int) := by omega
                have hD : ((G.length : Int) - 1).toNat = m0 := by omega
                have hcs : W5.cell? ⟨gs, m0, none⟩ = some (.int .i64 g0.1) := by
                  rw [HG5.out.starts.cellAt m0 (by omega), List.getElem?_map]
                  rw [List.getLast?_eq_getElem?, show G.length - 1 = m0 by omega] at hgl
                  rw [hgl]
                  rfl
                have HM0 := Aside0.mk hm0
                clear hm0
                by_cases hs2 : g0.1 = s
                · have e13 : (g0.1 == s) = true := beq_iff_eq.2 hs2
                  have e14 : (g0.1 != s) = false := by simp [hs2]
                  go_upto_region 14 with (fail)
                  have HADD := Aside0.mk (show addG G s ⟨a, b⟩ = lastG G ⟨a, b⟩ by unfold addG; rw [hgl]; simp [hs2])
                  obtain ⟨W6, hW6⟩ : ∃ W, W = W5 := ⟨_, rfl⟩
                  obtain ⟨G1, hG1⟩ : ∃ G1, G1 = G := ⟨_, rfl⟩
                  have k1 := blk_cell HQB.out 0
                  have k2 := blk_cell HQB.out 1
                  simp only [List.getElem?_toArray, List.getElem?_cons_zero, List.getElem?_cons_succ] at k1 k2
                  obtain ⟨g, hgd⟩ : ∃ g : Int × List S29, g = g0 := ⟨_, rfl⟩
                  have hm1 : G1.length = m0 + 1 := by rw [hG1]; exact HM0.out
                  have HGLA := Aside0.mk (show G1.getLast? = some g by rw [hG1, hgd]; exact hgl)
                  have HGE1 := Aside0.mk (show ∀ g ∈ G1, g.2.length ≤ j by rw [hG1]; exact HGE.out)
                  have HG1L := Aside0.mk (show G1.length ≤ j + 1 by have := HGL.out; rw [hG1]; omega)
                  have HSTEP1 := Aside0.mk (show grpF Wd S29.f0 (l.drop (j + 1)) (prevA S29.f0 l (j + 1)) (lastG G1 ⟨a, b⟩) = R by rw [hG1, ← HADD.out]; exact HSTEP.out)
                  have HGE2 := Aside0.mk (show ∀ g ∈ lastG G1 ⟨a, b⟩, g.2.length ≤ j + 1 by rw [hG1, ← HADD.out]; exact addG_sizes HGE.out)
                  have HG1 := Aside0.mk (show GP w.heap.size (.slice (some ⟨gs, 0, none⟩) G.length caps) u9 G1 W6 by rw [hG1, hW6]; exact HG5.out)
                  have HBW6 := Aside0.mk (show Below w.heap.size w W6 by rw [hW6]; exact HBW5.out)
                  rw [← hW6] at k1 k2 ⊢
                  obtain ⟨vs1, hvs1⟩ : ∃ v, v = Value.slice (some ⟨gs, 0, none⟩) G.length caps := ⟨_, rfl⟩
                  obtain ⟨m1, hmm⟩ : ∃ m1, m1 = m0 := ⟨_, rfl⟩
                  rw [← hmm] at hm1
                  rw [← hvs1] at HG1 ⊢
                  obtain ⟨vo1, hvo1⟩ : ∃ v, v = u9 := ⟨_, rfl⟩
                  rw [← hvo1] at HG1 ⊢
                  clear hW6 hG1 hgd hvs1 hmm hvo1 hA hB hC hD hcs hgl HG5 HQB HOL HBW5
                  obtain ⟨L, ho, hrw⟩ := HG1.out.out
                  obtain ⟨go, capo, cur, hvo, hblk, _⟩ := row_pos ho (by omega)
                  subst hvo
                  have hLl : m1 < L.length := by have := hrw.len; rw [List.length_map] at this; omega
                  obtain ⟨v, hv⟩ : ∃ v, L[m1]? = some v := ⟨_, List.getElem?_eq_getElem hLl⟩
                  have e1 : G1.length - 1 = m1 := by omega
                  have hv' : L[G1.length - 1]? = some v := by rw [e1]; exact hv
                  have hgi : G1[G1.length - 1]? = some g := by rw [← List.getLast?_eq_getElem?]; exact HGLA.out
                  have hrow := hrw.row _ v g.2 hv' (by rw [List.getElem?_map, hgi]; rfl)
                  have m0 : W6.drew.cell? ⟨go, m1, none⟩ = some v := (ho.cellAt m1 (by omega)).trans hv
                  have m1c : W6.drew.cell? ⟨Q, 0, none⟩ = some (.int .i64 a) := k1
                  have m2c : W6.drew.cell? ⟨Q, 1, none⟩ = some (.int .i64 b) := k2
                  obtain ⟨i29, hi29, hz0, hz1, hz2⟩ := info_parts info29
                  have hglen := HGE1.out g (List.mem_of_getElem? hgi)
                  obtain ⟨v1, w1', hrun, hown1, hgr1, _, hvb⟩ := run_append_own_at (P := Try.prog) (w := W6.drew.alloc (.cells #[.int .i64 a, .int .i64 b] 29)) w.heap.size 22 22 29 i29 _ 2 16 Try.underlying22 hi29 hz0 hz1 hz2 rfl (by decide) v g.2.length (g.2.flatMap cellsP) (hrow.drew.alloc _) ⟨W6.heap.size, 0, none⟩ 1 1 [.int .i64 a, .int .i64 b] rfl (fun i u hu => by
                    have hb := blk_cell (blk_new W6.drew (.cells #[.int .i64 a, .int .i64 b] 29 (0, 0)))
                    have hsz : W6.drew.heap.size = W6.heap.size := rfl
                    rw [hsz] at hb
                    have ea : Addr.add ⟨W6.heap.size, 0, none⟩ i = ⟨W6.heap.size, i, none⟩ := by unfold Addr.add; split <;> simp_all
                    rw [ea]
                    rcases i with _ | i
                    · injection hu with hu; subst hu; exact hb 0
                    · rcases i with _ | i
                      · injection hu with hu; subst hu; exact hb 1
                      · cases hu) (by intro u hu; simp at hu; rcases hu with rfl | rfl <;> rfl) (by unfold maxLen; omega) (by omega) (by have := HBW6.out.size; simp; omega)
                  obtain ⟨gv, capv, curv, hv1, _⟩ := row_pos hown1 (by omega)
                  subst hv1
                  have hne : v.ownBlock ≠ some go := row_ne hrow hblk (by decide)
                  have hblk1 : w1'.heap[go]? = some (.cells cur 22 (0, 0)) := (hgr1.block go (Nat.lt_of_lt_of_le (blk_lt hblk) (by simp)) (Ne.symm hne)).trans (blk_alloc (w := W6.drew) hblk _)
                  have n0 : w1'.cell? ⟨go, m1, none⟩ = some v := by rw [blk_cell hblk1, ← blk_cell (w := W6.drew) hblk]; exact m0
                  have fz : w1'.frozen? ⟨go, m1, none⟩ = false := blk_frozen hblk1 m1
                  have hfin := IsG.lasted (x := ⟨a, b⟩) (HG1.out.starts.drew.alloc (.cells #[.int .i64 a, .int .i64 b] 29)) (ho.drew.alloc (.cells #[.int .i64 a, .int .i64 b] 29)) ((hrw.kept (w' := W6.drew.alloc (.cells #[.int .i64 a, .int .i64 b] 29)) (fun i u bb _ _ hl => Below.heap_alloc W6.drew _ bb hl))) HGLA.out hv' hgr1 hown1 hvb
                  rw [e1, hm1] at hfin
                  have HFIN := Aside0.mk hfin
                  have hgo1 := (ho.lt go (by simp [Value.ownBlock])).1
                  have HBF := Aside0.mk ((((pw_below_drewN HBW6.out 1).alloc (show w.heap.size ≤ W6.drew.heap.size from HBW6.out.size) (.cells #[.int .i64 a, .int .i64 b] 29)).grown hgr1 (by have := HBW6.out.size; simp; omega) (fun q hq => (hrow.lt q hq).1)).setCell (p := ⟨go, m1, none⟩) hgo1 (.slice (some ⟨gv, 0, none⟩) (g.2.length + 1) capv))
                  have hA0 : (0 : Int) ≤ (m1 : Int) := by omega
                  have hmj : (m1 : Int) ≤ 100000 := by have := HG1L.out; omega
                  have hmlt : (m1 : Int) < (m1 : Int) + 1 := by omega
                  have HLEN := Aside0.mk (show (lastG G1 ⟨a, b⟩).length ≤ j + 1 by rw [lastG_length]; have := HG1L.out; omega)
                  have HMM := Aside0.mk hm1
                  rw [hm1]
                  clear hLl hv hv' hgi hrow hglen hown1 hgr1 hvb hne hblk hblk1 hfin hgo1 e1 ho hrw k1 k2 hi29 hz0 hz1 hz2 hm1
                  go_wp2_with fail
                  refine start_ (n := 11) (S := fun w' => (w'.cell? ⟨go, m1, none⟩ = some v) ∧ (w'.cell? ⟨Q, 0, none⟩ = some (.int .i64 a)) ∧ (w'.cell? ⟨Q, 1, none⟩ = some (.int .i64 b))) (ds := [8, 10]) #[false, false, false, false, false, false, false, false, false, false, false] (by kernel_rfl) rfl rfl ⟨m0, m1c, m2c⟩ (fun hHeld => ?_)
                  refine pure_ (i := 0) (N := some 71) (v := ?_) (a' := ?_) #[true, false, false, false, false, false, false, false, false, false, false] rfl rfl (by kernel_rfl) (fun _ _ _ h => h) (Or.inl ⟨by rfl, ?_⟩) ?_ ?_
                  rotate_left
                  · intro w'
                    go_simp
                    with_reducible rfl
                  rotate_left
                  · simp only [Act.put, List.setIfInBounds_toArray, List.set_cons_zero, List.set_cons_succ, i64_w, i32_w]
                    rfl
                  refine pure_ (i := 1) (N := some 72) (v := ?_) (a' := ?_) #[true, true, false, false, false, false, false, false, false, false, false] rfl rfl (by kernel_rfl) (fun _ _ _ h => h) (Or.inl ⟨by rfl, ?_⟩) ?_ ?_
                  rotate_left
                  · intro w'
                    go_simp
                    with_reducible rfl
                  rotate_left
                  · simp only [Act.put, List.setIfInBounds_toArray, List.set_cons_zero, List.set_cons_succ, i64_w, i32_w]
                    rfl
                  refine pure_ (i := 2) (N := some 73) (v := ?_) (a' := ?_) #[true, true, true, false, false, false, false, false, false, false, false] rfl rfl (by kernel_rfl) (fun _ _ _ h => h) (Or.inl ⟨by rfl, ?_⟩) ?_ ?_
                  rotate_left
                  · intro w'
                    go_simp
                    with_reducible rfl
                  rotate_left
                  · simp only [Act.put, List.setIfInBounds_toArray, List.set_cons_zero, List.set_cons_succ, i64_w, i32_w]
                    rfl
                  refine pure_ (i := 3) (N := some 74) (v := ?_) (a' := ?_) #[true, true, true, true, false, false, false, false, false, false, false] rfl rfl (by kernel_rfl) (fun _ _ _ h => h) (Or.inl ⟨by rfl, ?_⟩) ?_ ?_
                  rotate_left
                  · intro w'
                    go_simp
                    with_reducible rfl
                  rotate_left
                  · simp only [Act.put, List.setIfInBounds_toArray, List.set_cons_zero, List.set_cons_succ, i64_w, i32_w]
                    rfl
                  refine pure_ (i := 4) (N := some 75) (v := ?_) (a' := ?_) #[true, true, true, true, true, false, false, false, false, false, false] rfl rfl (by kernel_rfl) (fun _ _ _ h => h) (Or.inl ⟨by rfl, ?_⟩) ?_ ?_
                  rotate_left
                  · intro w'
                    go_simp
                    with_reducible rfl
                  rotate_left
                  · simp only [Act.put, List.setIfInBounds_toArray, List.set_cons_zero, List.set_cons_succ, i64_w, i32_w]
                    rfl
                  refine take_ (i := 5) (N := some 76) (v := ?_) (a' := ?_) #[true, true, true, true, true, true, false, false, false, false, false] rfl rfl (by kernel_rfl) (fun _ _ _ h => h) (Or.inl ⟨by rfl, ?_⟩) hHeld ?_ ?_
                  rotate_left
                  · rintro w' ⟨s0, s1, s2⟩
                    go_simp
                    with_reducible rfl
                  rotate_left
                  · simp only [Act.put, List.setIfInBounds_toArray, List.set_cons_zero, List.set_cons_succ, i64_w, i32_w]
                    rfl
                  refine take_ (i := 6) (N := some 77) (v := ?_) (a' := ?_) #[true, true, true, true, true, true, true, false, false, false, false] rfl rfl (by kernel_rfl) (fun _ _ _ h => h) (Or.inl ⟨by rfl, ?_⟩) hHeld ?_ ?_
                  rotate_left
                  · rintro w' ⟨s0, s1, s2⟩
                    go_simp
                    with_reducible rfl
                  rotate_left
                  · simp only [Act.put, List.setIfInBounds_toArray, List.set_cons_zero, List.set_cons_succ, i64_w, i32_w]
                    rfl
                  refine one_ (i := 7) (N := some 78) #[true, true, true, true, true, true, true, true, false, false, false] rfl rfl (by kernel_rfl) (by decide) (fun K hK => ?_)
                  refine value_ (w1 := ?_) (v := ?_) (by rfl) rfl ?_ ?_
                  rotate_left 2
                  · go_simp
                    constructor
                    · rfl
                    · rfl
                  refine hK.out _ _ ⟨bread_alloc hHeld.1 _, bread_alloc hHeld.2.1 _, bread_alloc hHeld.2.2 _⟩ (fun hHeld => ?_)
                  clear hK K
                  refine norm_ (a' := ?_) ?_ ?_
                  rotate_left
                  · show Act.put _ (some 78) _ = _
                    simp only [Act.put, List.setIfInBounds_toArray, List.set_cons_zero, List.set_cons_succ, i64_w, i32_w]
                    rfl
                  refine last_ (i := 8) (N := some 79) #[true, true, true, true, true, true, true, true, true, false, false] rfl rfl (by kernel_rfl) (by decide) (fun K hK => ?_)
                  refine value_ (w1 := w1') (v := (.slice (some ⟨gv, 0, none⟩) (g.2.length + 1) capv)) (by rfl) rfl ?_ ?_
                  · exact value_append (s := .tmp 76) (x := .tmp 78) rfl rfl rfl rfl hrun
                  refine hK.out _ _ ?_
                  clear hK K
                  refine norm_ (a' := ?_) ?_ ?_
                  rotate_left
                  · show Act.put _ (some 79) _ = _
                    simp only [Act.put, List.setIfInBounds_toArray, List.set_cons_zero, List.set_cons_succ, i64_w, i32_w]
                    rfl
                  refine pure_ (i := 9) (N := some 80) (v := ?_) (a' := ?_) #[true, true, true, true, true, true, true, true, true, true, false] rfl rfl (by kernel_rfl) (fun _ _ _ h => h) (Or.inl ⟨by rfl, ?_⟩) ?_ ?_
                  rotate_left
                  · intro w'
                    go_simp
                    with_reducible rfl
                  rotate_left
                  · simp only [Act.put, List.setIfInBounds_toArray, List.set_cons_zero, List.set_cons_succ, i64_w, i32_w]
                    rfl
                  refine last_ (i := 10) (N := none) #[true, true, true, true, true, true, true, true, true, true, true] rfl rfl (by kernel_rfl) (by decide) (fun K hK => ?_)
                  refine skip_ (w1 := ?_) (by rfl) rfl ?_ ?_
                  rotate_left
                  · go_simp
                    rfl
                  refine hK.out _ _ ?_
                  clear hK K
                  refine done_ (by kernel_rfl) ?_
                  go_wp2
                  go_roundw
                  case rel => exact ⟨j + 1, _, _, _, by omega, rfl, rfl, by simp, HLEN, HSTEP1, HGE2, HFIN, HBF⟩
                  case measure => simp [intOf]; omega
                · have e13 : (g0.1 == s) = false := beq_eq_false_iff_ne.2 hs2
                  have e14 : (g0.1 != s) = true := by simp [hs2]
                  have HADD := Aside0.mk (show addG G s ⟨a, b⟩ = lastG (pushG G s) ⟨a, b⟩ by unfold addG; rw [hgl]; simp [hs2])
                  have HHH := Aside0.mk hs2
                  clear hgl
                  obtain ⟨i2, hi2, y0, y1, y2⟩ := info_parts info2
                  obtain ⟨i22, hi22, x0, x1, x2⟩ := info_parts info22
                  have HS5 := Aside0.mk (HG5.out.starts.alloc (.cells #[.int .i64 s] 2))
                  have hgl9 := HGL.out
                  go_wp2_with (first | (at_builtin; refine wpList_append_own _ rfl _ _ 80 rfl w.heap.size 2 i2 (.int .i64 0) 1 8 Try.underlying80 hi2 y0 y1 y2 rfl (by decide) _ G.length _ rfl HS5.out ⟨W5.heap.size, 0, none⟩ 1 1 [.int .i64 s] rfl rfl (cell_one_new _ _ _) (by simp [Value.oneCell']) (by unfold maxLen; omega) (by omega) (by have := HBW5.out.size; simp; omega) ?_) | go_in)
                  intro vs1 w6 hs6 hg6 _
                  have HB6 := Aside0.mk (((Below.refl W5.heap.size W5).alloc (Nat.le_refl _) (.cells #[.int .i64 s] 2)))
                  have HBW6a := Aside0.mk ((HBW5.out.alloc HBW5.out.size (.cells #[.int .i64 s] 2)).grown hg6 (by have := HBW5.out.size; simp; omega) (fun q hq => (HS5.out.lt q hq).1))
                  have ho0 := HOL.out.1
                  have HO6 := Aside0.mk (show (w6.alloc (.cells #[.slice none 0 0] 22)).ownsRow w.heap.size 22 1 u9 G.length L0 from (own_grown (ho0.alloc (.cells #[.int .i64 s] 2)) HS5.out (by decide) hg6).alloc _)
                  have HS6 := Aside0.mk hs6
                  have HGR6 := Aside0.mk hg6
                  clear hs6 hg6 ho0
                  go_wp2_with (first | (at_builtin; refine wpList_append_own _ rfl _ _ 81 rfl w.heap.size 22 i22 (.slice none 0 0) 1 24 Try.underlying81 hi22 x0 x1 x2 rfl (by decide) _ G.length _ rfl HO6.out ⟨w6.heap.size, 0, none⟩ 1 1 [.slice none 0 0] rfl rfl (cell_one_new _ _ _) (by simp [Value.oneCell']) (by unfold maxLen; omega) (by omega) (by have := HBW6a.out.size; simp; omega) ?_) | go_in)
                  intro vo1 W6 ho7 hg7 _
                  have HG1 := Aside0.mk (show GP w.heap.size vs1 vo1 (pushG G s) W6 from IsG.pushed HG5.out.starts HOL.out.1 HOL.out.2 HB6.out HGR6.out HS6.out ((Below.refl w6.heap.size w6).alloc (Nat.le_refl _) (.cells #[.slice none 0 0] 22)) hg7 ho7)
                  have HBW6 := Aside0.mk ((HBW6a.out.alloc HBW6a.out.size (.cells #[.slice none 0 0] 22)).grown hg7 (by have := HBW6a.out.size; simp; omega) (fun q hq => (HO6.out.lt q hq).1))
                  have hq6 : w6.heap[Q]? = some (.cells #[.int .i64 a, .int .i64 b] 29 (0, 0)) := (HGR6.out.block Q (Nat.lt_of_lt_of_le (blk_lt HQB.out) (by simp)) (Ne.symm (row_ne HS5.out (blk_alloc HQB.out _) (by decide)))).trans (blk_alloc HQB.out _)
                  have hq7 : W6.heap[Q]? = some (.cells #[.int .i64 a, .int .i64 b] 29 (0, 0)) := (hg7.block Q (Nat.lt_of_lt_of_le (blk_lt hq6) (by simp)) (Ne.symm (row_ne HO6.out (blk_alloc hq6 _) (by decide)))).trans (blk_alloc hq6 _)
                  have k1 := blk_cell hq7 0
                  have k2 := blk_cell hq7 1
                  simp only [List.getElem?_toArray, List.getElem?_cons_zero, List.getElem?_cons_succ] at k1 k2
                  obtain ⟨G1, hG1⟩ : ∃ G1, G1 = pushG G s := ⟨_, rfl⟩
                  have hm1' : G1.length = G.length + 1 := by rw [hG1]; simp [pushG]
                  obtain ⟨m1, hmm⟩ : ∃ m1, m1 = G.length := ⟨_, rfl⟩
                  have hm1 : G1.length = m1 + 1 := by rw [hmm]; exact hm1'
                  obtain ⟨g, hgd⟩ : ∃ g : Int × List S29, g = (s, []) := ⟨_, rfl⟩
                  have HGLA := Aside0.mk (show G1.getLast? = some g by rw [hG1, hgd]; unfold pushG; exact List.getLast?_concat)
                  have HGE1 := Aside0.mk (show ∀ g ∈ G1, g.2.length ≤ j by
                    intro g hg
                    rw [hG1] at hg
                    rcases List.mem_append.1 hg with h1 | h1
                    · exact HGE.out g h1
                    · rw [List.mem_singleton.1 h1]; simp)
                  have HG1L := Aside0.mk (show G1.length ≤ j + 1 by have := HGL.out; omega)
                  have HSTEP1 := Aside0.mk (show grpF Wd S29.f0 (l.drop (j + 1)) (prevA S29.f0 l (j + 1)) (lastG G1 ⟨a, b⟩) = R by rw [hG1, ← HADD.out]; exact HSTEP.out)
                  have HGE2 := Aside0.mk (show ∀ g ∈ lastG G1 ⟨a, b⟩, g.2.length ≤ j + 1 by rw [hG1, ← HADD.out]; exact addG_sizes HGE.out)
                  have HG1b := Aside0.mk (show GP w.heap.size vs1 vo1 G1 W6 by rw [hG1]; exact HG1.out)
                  clear HG1 HS5 HO6 HS6 HGR6 hg7 ho7 hq6 hq7 hG1 hgd hmm hgl9 HG5 HQB HOL hm1'
                  have HG1 := HG1b
                  clear hi2 y0 y1 y2 hi22 x0 x1 x2
                  obtain ⟨L, ho, hrw⟩ := HG1.out.out
                  obtain ⟨go, capo, cur, hvo, hblk, _⟩ := row_pos ho (by omega)
                  subst hvo
                  have hLl : m1 < L.length := by have := hrw.len; rw [List.length_map] at this; omega
                  obtain ⟨v, hv⟩ : ∃ v, L[m1]? = some v := ⟨_, List.getElem?_eq_getElem hLl⟩
                  have e1 : G1.length - 1 = m1 := by omega
                  have hv' : L[G1.length - 1]? = some v := by rw [e1]; exact hv
                  have hgi : G1[G1.length - 1]? = some g := by rw [← List.getLast?_eq_getElem?]; exact HGLA.out
                  have hrow := hrw.row _ v g.2 hv' (by rw [List.getElem?_map, hgi]; rfl)
                  have m0 : W6.drew.cell? ⟨go, m1, none⟩ = some v := (ho.cellAt m1 (by omega)).trans hv
                  have m1c : W6.drew.cell? ⟨Q, 0, none⟩ = some (.int .i64 a) := k1
                  have m2c : W6.drew.cell? ⟨Q, 1, none⟩ = some (.int .i64 b) := k2
                  obtain ⟨i29, hi29, hz0, hz1, hz2⟩ := info_parts info29
                  have hglen := HGE1.out g (List.mem_of_getElem? hgi)
                  obtain ⟨v1, w1', hrun, hown1, hgr1, _, hvb⟩ := run_append_own_at (P := Try.prog) (w := W6.drew.alloc (.cells #[.int .i64 a, .int .i64 b] 29)) w.heap.size 22 22 29 i29 _ 2 16 Try.underlying22 hi29 hz0 hz1 hz2 rfl (by decide) v g.2.length (g.2.flatMap cellsP) (hrow.drew.alloc _) ⟨W6.heap.size, 0, none⟩ 1 1 [.int .i64 a, .int .i64 b] rfl (fun i u hu => by
                    have hb := blk_cell (blk_new W6.drew (.cells #[.int .i64 a, .int .i64 b] 29 (0, 0)))
                    have hsz : W6.drew.heap.size = W6.heap.size := rfl
                    rw [hsz] at hb
                    have ea : Addr.add ⟨W6.heap.size, 0, none⟩ i = ⟨W6.heap.size, i, none⟩ := by unfold Addr.add; split <;> simp_all
                    rw [ea]
                    rcases i with _ | i
                    · injection hu with hu; subst hu; exact hb 0
                    · rcases i with _ | i
                      · injection hu with hu; subst hu; exact hb 1
                      · cases hu) (by intro u hu; simp at hu; rcases hu with rfl | rfl <;> rfl) (by unfold maxLen; omega) (by omega) (by have := HBW6.out.size; simp; omega)
                  obtain ⟨gv, capv, curv, hv1, _⟩ := row_pos hown1 (by omega)
                  subst hv1
                  have hne : v.ownBlock ≠ some go := row_ne hrow hblk (by decide)
                  have hblk1 : w1'.heap[go]? = some (.cells cur 22 (0, 0)) := (hgr1.block go (Nat.lt_of_lt_of_le (blk_lt hblk) (by simp)) (Ne.symm hne)).trans (blk_alloc (w := W6.drew) hblk _)
                  have n0 : w1'.cell? ⟨go, m1, none⟩ = some v := by rw [blk_cell hblk1, ← blk_cell (w := W6.drew) hblk]; exact m0
                  have fz : w1'.frozen? ⟨go, m1, none⟩ = false := blk_frozen hblk1 m1
                  have hfin := IsG.lasted (x := ⟨a, b⟩) (HG1.out.starts.drew.alloc (.cells #[.int .i64 a, .int .i64 b] 29)) (ho.drew.alloc (.cells #[.int .i64 a, .int .i64 b] 29)) ((hrw.kept (w' := W6.drew.alloc (.cells #[.int .i64 a, .int .i64 b] 29)) (fun i u bb _ _ hl => Below.heap_alloc W6.drew _ bb hl))) HGLA.out hv' hgr1 hown1 hvb
                  rw [e1, hm1] at hfin
                  have HFIN := Aside0.mk hfin
                  have hgo1 := (ho.lt go (by simp [Value.ownBlock])).1
                  have HBF := Aside0.mk ((((pw_below_drewN HBW6.out 1).alloc (show w.heap.size ≤ W6.drew.heap.size from HBW6.out.size) (.cells #[.int .i64 a, .int .i64 b] 29)).grown hgr1 (by have := HBW6.out.size; simp; omega) (fun q hq => (hrow.lt q hq).1)).setCell (p := ⟨go, m1, none⟩) hgo1 (.slice (some ⟨gv, 0, none⟩) (g.2.length + 1) capv))
                  have hA0 : (0 : Int) ≤ (m1 : Int) := by omega
                  have hmj : (m1 : Int) ≤ 100000 := by have := HG1L.out; omega
                  have hmlt : (m1 : Int) < (m1 : Int) + 1 := by omega
                  have HLEN := Aside0.mk (show (lastG G1 ⟨a, b⟩).length ≤ j + 1 by rw [lastG_length]; have := HG1L.out; omega)
                  have HMM := Aside0.mk hm1
                  rw [hm1]
                  clear hLl hv hv' hgi hrow hglen hown1 hgr1 hvb hne hblk hblk1 hfin hgo1 e1 ho hrw k1 k2 hi29 hz0 hz1 hz2 hm1
                  go_wp2_with fail
                  refine start_ (n := 11) (S := fun w' => (w'.cell? ⟨go, m1, none⟩ = some v) ∧ (w'.cell? ⟨Q, 0, none⟩ = some (.int .i64 a)) ∧ (w'.cell? ⟨Q, 1, none⟩ = some (.int .i64 b))) (ds := [8, 10]) #[false, false, false, false, false, false, false, false, false, false, false] (by kernel_rfl) rfl rfl ⟨m0, m1c, m2c⟩ (fun hHeld => ?_)
                  refine pure_ (i := 0) (N := some 71) (v := ?_) (a' := ?_) #[true, false, false, false, false, false, false, false, false, false, false] rfl rfl (by kernel_rfl) (fun _ _ _ h => h) (Or.inl ⟨by rfl, ?_⟩) ?_ ?_
                  rotate_left
                  · intro w'
                    go_simp
                    with_reducible rfl
                  rotate_left
                  · simp only [Act.put, List.setIfInBounds_toArray, List.set_cons_zero, List.set_cons_succ, i64_w, i32_w]
                    rfl
                  refine pure_ (i := 1) (N := some 72) (v := ?_) (a' := ?_) #[true, true, false, false, false, false, false, false, false, false, false] rfl rfl (by kernel_rfl) (fun _ _ _ h => h) (Or.inl ⟨by rfl, ?_⟩) ?_ ?_
                  rotate_left
                  · intro w'
                    go_simp
                    with_reducible rfl
                  rotate_left
                  · simp only [Act.put, List.setIfInBounds_toArray, List.set_cons_zero, List.set_cons_succ, i64_w, i32_w]
                    rfl
                  refine pure_ (i := 2) (N := some 73) (v := ?_) (a' := ?_) #[true, true, true, false, false, false, false, false, false, false, false] rfl rfl (by kernel_rfl) (fun _ _ _ h => h) (Or.inl ⟨by rfl, ?_⟩) ?_ ?_
                  rotate_left
                  · intro w'
                    go_simp
                    with_reducible rfl
                  rotate_left
                  · simp only [Act.put, List.setIfInBounds_toArray, List.set_cons_zero, List.set_cons_succ, i64_w, i32_w]
                    rfl
                  refine pure_ (i := 3) (N := some 74) (v := ?_) (a' := ?_) #[true, true, true, true, false, false, false, false, false, false, false] rfl rfl (by kernel_rfl) (fun _ _ _ h => h) (Or.inl ⟨by rfl, ?_⟩) ?_ ?_
                  rotate_left
                  · intro w'
                    go_simp
                    with_reducible rfl
                  rotate_left
                  · simp only [Act.put, List.setIfInBounds_toArray, List.set_cons_zero, List.set_cons_succ, i64_w, i32_w]
                    rfl
                  refine pure_ (i := 4) (N := some 75) (v := ?_) (a' := ?_) #[true, true, true, true, true, false, false, false, false, false, false] rfl rfl (by kernel_rfl) (fun _ _ _ h => h) (Or.inl ⟨by rfl, ?_⟩) ?_ ?_
                  rotate_left
                  · intro w'
                    go_simp
                    with_reducible rfl
                  rotate_left
                  · simp only [Act.put, List.setIfInBounds_toArray, List.set_cons_zero, List.set_cons_succ, i64_w, i32_w]
                    rfl
                  refine take_ (i := 5) (N := some 76) (v := ?_) (a' := ?_) #[true, true, true, true, true, true, false, false, false, false, false] rfl rfl (by kernel_rfl) (fun _ _ _ h => h) (Or.inl ⟨by rfl, ?_⟩) hHeld ?_ ?_
                  rotate_left
                  · rintro w' ⟨s0, s1, s2⟩
                    go_simp
                    with_reducible rfl
                  rotate_left
                  · simp only [Act.put, List.setIfInBounds_toArray, List.set_cons_zero, List.set_cons_succ, i64_w, i32_w]
                    rfl
                  refine take_ (i := 6) (N := some 77) (v := ?_) (a' := ?_) #[true, true, true, true, true, true, true, false, false, false, false] rfl rfl (by kernel_rfl) (fun _ _ _ h => h) (Or.inl ⟨by rfl, ?_⟩) hHeld ?_ ?_
                  rotate_left
                  · rintro w' ⟨s0, s1, s2⟩
                    go_simp
                    with_reducible rfl
                  rotate_left
                  · simp only [Act.put, List.setIfInBounds_toArray, List.set_cons_zero, List.set_cons_succ, i64_w, i32_w]
                    rfl
                  refine one_ (i := 7) (N := some 78) #[true, true, true, true, true, true, true, true, false, false, false] rfl rfl (by kernel_rfl) (by decide) (fun K hK => ?_)
                  refine value_ (w1 := ?_) (v := ?_) (by rfl) rfl ?_ ?_
                  rotate_left 2
                  · go_simp
                    constructor
                    · rfl
                    · rfl
                  refine hK.out _ _ ⟨bread_alloc hHeld.1 _, bread_alloc hHeld.2.1 _, bread_alloc hHeld.2.2 _⟩ (fun hHeld => ?_)
                  clear hK K
                  refine norm_ (a' := ?_) ?_ ?_
                  rotate_left
                  · show Act.put _ (some 78) _ = _
                    simp only [Act.put, List.setIfInBounds_toArray, List.set_cons_zero, List.set_cons_succ, i64_w, i32_w]
                    rfl
                  refine last_ (i := 8) (N := some 79) #[true, true, true, true, true, true, true, true, true, false, false] rfl rfl (by kernel_rfl) (by decide) (fun K hK => ?_)
                  refine value_ (w1 := w1') (v := (.slice (some ⟨gv, 0, none⟩) (g.2.length + 1) capv)) (by rfl) rfl ?_ ?_
                  · exact value_append (s := .tmp 76) (x := .tmp 78) rfl rfl rfl rfl hrun
                  refine hK.out _ _ ?_
                  clear hK K
                  refine norm_ (a' := ?_) ?_ ?_
                  rotate_left
                  · show Act.put _ (some 79) _ = _
                    simp only [Act.put, List.setIfInBounds_toArray, List.set_cons_zero, List.set_cons_succ, i64_w, i32_w]
                    rfl
                  refine pure_ (i := 9) (N := some 80) (v := ?_) (a' := ?_) #[true, true, true, true, true, true, true, true, true, true, false] rfl rfl (by kernel_rfl) (fun _ _ _ h => h) (Or.inl ⟨by rfl, ?_⟩) ?_ ?_
                  rotate_left
                  · intro w'
                    go_simp
                    with_reducible rfl
                  rotate_left
                  · simp only [Act.put, List.setIfInBounds_toArray, List.set_cons_zero, List.set_cons_succ, i64_w, i32_w]
                    rfl
                  refine last_ (i := 10) (N := none) #[true, true, true, true, true, true, true, true, true, true, true] rfl rfl (by kernel_rfl) (by decide) (fun K hK => ?_)
                  refine skip_ (w1 := ?_) (by rfl) rfl ?_ ?_
                  rotate_left
                  · go_simp
                    rfl
                  refine hK.out _ _ ?_
                  clear hK K
                  refine done_ (by kernel_rfl) ?_
                  go_wp2
                  go_roundw
                  case rel => exact ⟨j + 1, _, _, _, by omega, rfl, rfl, by simp, HLEN, HSTEP1, HGE2, HFIN, HBF⟩
                  case measure => simp [intOf]; omega
      · have hje : j = l.length := by omega
        subst hje
        have hr := HRR.out
        rw [List.drop_length] at hr
        have hr2 : G = R := hr
        subst hr2
        clear hr hlt hj
        go_wp2
        go_ret2
        exact ⟨_, _, rfl, HG.out, HB.out⟩
end Go.Proofs.Ytnjdngjlbonieaa

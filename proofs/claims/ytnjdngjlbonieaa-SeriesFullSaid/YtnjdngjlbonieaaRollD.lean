/- roll.Points, walked: the aggregate of each group. -/
import Derived.Test.YtnjdngjlbonieaaRollC
import Derived.Test.YtnjdngjlbonieaaRollP
import Derived.Lib.Hide
import Derived.LoopTactic
import Derived.Outline
import Derived.Laws.Rows
import Derived.Laws.CopyOwn
import Derived.WalkKit
set_option linter.unusedVariables false
set_option linter.unusedSimpArgs false
namespace Go.Proofs.Ytnjdngjlbonieaa
open Go.RowKit Go.Proofs.YtnjdngjlbonieaaW.PrintWords Go.Proofs.YtnjdngjlbonieaaW.PrintLast Go.Proofs.YtnjdngjlbonieaaW.PrintMore
open Go.Proofs.Ytnjdngjlbonieaa.PRollWindows
attribute [local go_sem] max2_int min2_int max_two min_two max_three min_three max_four min_four

open RollOfPure
theorem flat_at {α β : Type} (f : α → List β) (k : Nat) (hf : ∀ p, (f p).length = k) : ∀ (r : List α) (j : Nat) (p : α) (i : Nat), r[j]? = some p → i < k → (r.flatMap f)[j * k + i]? = (f p)[i]? := by
  intro r
  induction r with
  | nil => intro j p i h; cases h
  | cons a r ih =>
    intro j p i h hi
    rw [List.flatMap_cons]
    cases j with
    | zero =>
      injection h with h
      subst h
      rw [Nat.zero_mul, Nat.zero_add, List.getElem?_append_left (by rw [hf]; exact hi)]
    | succ j =>
      rw [List.getElem?_append_right (by rw [hf, Nat.succ_mul]; omega), hf, show (j + 1) * k + i - k = j * k + i by rw [Nat.succ_mul]; omega]
      exact ih j p i h hi
theorem kdC_of {w : World} {B cap : Nat} {A : Option Addr} {r : List S29} (h : w.ownsRow B 29 2 (.slice A r.length cap) r.length (r.flatMap cellsP)) (hm : r.length ≤ 1000) : Kd.C k29 w A r.length r ∧ r.length ≤ cap := by
  refine ⟨⟨rfl, by omega, fun h0 => ?_⟩, ?_⟩
  · obtain ⟨g, c2, cur, e, hg, _⟩ := row_pos h h0
    injection e with e e1 e2
    subst e
    refine ⟨_, rfl, fun j p hj => ⟨cellsP p, rfl, k29_mk w p, fun i u hu => ?_⟩⟩
    have hi : i < 2 := (List.getElem?_eq_some_iff.1 hu).1
    exact h.cells (g := g) rfl (j * 2 + i) u (by rw [flat_at cellsP 2 (fun _ => rfl) r j p i hj hi]; exact hu)
  · rcases h.2 with ⟨e, h0⟩ | ⟨g, c2, cur, e, _, _, h1, _⟩
    · omega
    · injection e with _ _ e2
      omega
theorem IsG.grown31 {B n : Nat} {vs vo v : Value} {G : List (Int × List S29)} {ys : List Value} {w w' : World} (h : GP B vs vo G w) (hv : w.ownsRow B 31 5 v n ys) (hg : w.grownBy w' v.ownBlock) : GP B vs vo G w' := by
  obtain ⟨L, ho, hr⟩ := h.out
  exact ⟨own_grown h.starts hv (by decide) hg, L, own_grown ho hv (by decide) hg, hr.grown hv (by decide) hg⟩
def RR (t : Int) (l : List S29) : List (Int × List S29) := if widthT t = 0 then [] else grpF (widthT t) S29.f0 l none []
theorem RR_mem (t : Int) (l : List S29) : (RR t l).length ≤ l.length ∧ ∀ g ∈ RR t l, g.2 ≠ [] ∧ g.2.length ≤ l.length ∧ ∀ x ∈ g.2, x ∈ l := by
  unfold RR
  split
  · exact ⟨Nat.zero_le _, fun g hg => by cases hg⟩
  · exact grp_mem _ l
theorem info31 : (Try.prog.info? 31).map (fun i => (i.zero, i.size, i.bytes)) = some (some (.agg #[.int .i64 0, .int .i64 0, .int .i64 0, .int .i64 0, .int .i64 0]), 5, 40) := by kernel_rfl
theorem cells_new (w : World) (cs : List Value) (t : TypeId) : ∀ (j : Nat) (u : Value), cs[j]? = some u → (w.alloc (.cells cs.toArray t)).cell? ((⟨w.heap.size, 0, none⟩ : Addr).add j) = some u := by
  intro j u hu
  have h := blk_cell (blk_new w (.cells cs.toArray t)) j
  have e : (⟨w.heap.size, 0, none⟩ : Addr).add j = ⟨w.heap.size, j, none⟩ := by simp [Addr.add]; intro h; exact h.symm
  rw [e, h]
  simpa using hu
/-- What Points leaves. -/
def PPost (R : List (Int × List S29)) (w : World) (e : Ending) (w' : World) : Prop := ∃ v, e = .returned v ∧ w'.ownsRow w.heap.size 31 5 v R.length (R.flatMap aggC) ∧ Below w.heap.size w w'
set_option maxRecDepth 100000 in
set_option maxHeartbeats 32000000 in
theorem rpoints_calls (t : Int) (A : Option Addr) (ca : Nat) (l : List S29) (hi : ∀ x ∈ l, x.f0 ≤ 9223372036854775807) (hv : AllIn l) (w : World) (h : Kd.C k29 w A l.length l) (hl : l.length ≤ 60) :
    Calls Try.prog 12 #[.int .i64 t, .slice A l.length ca] w (PPost (RR t l) w) := by
  have hGC := group_calls t A ca l hi w h (by omega)
  have hmem := RR_mem t l
  change Calls Try.prog 53 _ w (GPost (RR t l) w) at hGC
  obtain ⟨R, hR⟩ : ∃ R, R = RR t l := ⟨_, rfl⟩
  rw [← hR] at hGC hmem ⊢
  have HGC := Aside0.mk hGC
  have HMEM := Lib.hid hmem.2
  have hRl : R.length ≤ 60 := Nat.le_trans hmem.1 hl
  have HV := Lib.hid hv
  clear hGC hmem hi h hR hv
  have hu31 := Try.underlying31
  have hu29 := Try.underlying29
  go_enter Try.func12, Try.ntmps12
  go_wp2_with fail
  refine HGC.out.mono ?_
  rintro e w1 ⟨vs, vo, rfl, hG, hB⟩
  clear HGC
  have HG0 := Aside0.mk hG
  have HB0 := Aside0.mk hB
  obtain ⟨As, caps, hvs⟩ := row_form hG.starts
  subst hvs
  obtain ⟨Ao, capo, hvo⟩ := row_form hG.out.choose_spec.1
  subst hvo
  clear hG hB
  go_wp2_with fail
  go_loopw [5, 20] (fun v5 v20 wr => ∃ (j : Nat) (vr : Value), j ≤ R.length ∧ v5 = vr ∧ v20 = .int .i64 (j : Int) ∧ Aside0 (wr.ownsRow w.heap.size 31 5 vr j ((R.take j).flatMap aggC)) ∧ Aside0 (GP w.heap.size (.slice As R.length caps) (.slice Ao R.length capo) R wr) ∧ Aside0 (Below w.heap.size w wr)) (fun _ v _ => R.length - (intOf v).toNat)
  case atStart => exact ⟨0, _, by omega, rfl, rfl, ⟨World.ownsRow_nil _ _ _ _⟩, HG0, HB0⟩
  case round =>
    clear HG0 HB0
    obtain ⟨j, vr, hj, rfl, rfl, HR, HG, HB⟩ := hrel
    by_cases hlt : j < R.length
    · obtain ⟨L, ho, hrr⟩ := HG.out.out
      obtain ⟨go, cgo, curo, eo, hgo, _⟩ := row_pos ho (by omega)
      injection eo with eo e1 eo2
      subst eo
      obtain ⟨gs, cgs, curs, es, hgs, _⟩ := row_pos HG.out.starts (by omega)
      injection es with es e1 es2
      subst es
      clear e1 eo2 es2
      obtain ⟨g, hg⟩ : ∃ g, R[j]? = some g := ⟨_, List.getElem?_eq_getElem hlt⟩
      obtain ⟨u, hu⟩ : ∃ u, L[j]? = some u := ⟨_, List.getElem?_eq_getElem (by rw [hrr.len, List.length_map]; exact hlt)⟩
      have hrow := hrr.row j u g.2 hu (by rw [List.getElem?_map, hg]; rfl)
      obtain ⟨Au, cu, hue⟩ := row_form hrow
      subst hue
      have c1 : wr.cell? ⟨go, j, none⟩ = some (.slice Au g.2.length cu) := by rw [ho.cellAt j (by omega)]; exact hu
      have c2 : wr.cell? ⟨gs, j, none⟩ = some (.int .i64 g.1) := by rw [HG.out.starts.cellAt j (by omega), List.getElem?_map, hg]; rfl
      obtain ⟨hne, hgl, hgm⟩ := HMEM.out g (List.mem_of_getElem? hg)
      obtain ⟨hC, hcu⟩ := kdC_of hrow (by omega)
      have HOF := Aside0.mk (roll_Of.calls 200 g.1 Au cu g.2 _ _ _ _ _ _ wr hC hcu (by rw [of_is g.2 (fun p hp => HV.out p (hgm p hp)) (by omega) g.1 200 (by omega), if_neg hne]))
      have HTAKE := Aside0.mk (show (R.take (j + 1)).flatMap aggC = (R.take j).flatMap aggC ++ aggC g by
        obtain ⟨hj2, he⟩ := List.getElem?_eq_some_iff.1 hg
        rw [List.take_succ_eq_append_getElem hj2, he, List.flatMap_append]
        simp)
      have hjl : (j : Int) < (R.length : Int) := by omega
      clear ho hgo hgs hrow hne hgl hgm hC hcu hu hg hrr
      go_wp2_with fail
      refine HOF.out.mono ?_
      rintro e w2 ⟨rfl, h2⟩
      obtain ⟨v1, hv1⟩ : ∃ v, v = (run g.2 zero).c := ⟨_, rfl⟩
      obtain ⟨v2, hv2⟩ : ∃ v, v = (run g.2 zero).s := ⟨_, rfl⟩
      obtain ⟨v3, hv3⟩ : ∃ v, v = (run g.2 zero).lo := ⟨_, rfl⟩
      obtain ⟨v4, hv4⟩ : ∃ v, v = (run g.2 zero).hi := ⟨_, rfl⟩
      rw [← hv1, ← hv2, ← hv3, ← hv4]
      have HG2 := Aside0.mk (HG.out.below h2)
      have HB2 := Aside0.mk (HB.out.trans (h2.mono HB.out.size))
      have HR2 := Aside0.mk (own_kept HR.out fun b hb => h2.block b (HR.out.lt b hb).2)
      clear h2 HOF c1 c2
      obtain ⟨i31, hi31, x0, x1, x2⟩ := info_parts info31
      obtain ⟨cs, hcs⟩ : ∃ cs : List Value, cs = [.int .i64 g.1, .int .i64 (run g.2 zero).c, .int .i64 (run g.2 zero).s, .int .i64 (run g.2 zero).lo, .int .i64 (run g.2 zero).hi] := ⟨_, rfl⟩
      have HR3 := Aside0.mk ((HR2.out.alloc (.cells #[.int .i64 g.1, .int .i64 (run g.2 zero).c, .int .i64 (run g.2 zero).s, .int .i64 (run g.2 zero).lo, .int .i64 (run g.2 zero).hi] 31)).alloc (.cells #[.int .i64 g.1, .int .i64 (run g.2 zero).c, .int .i64 (run g.2 zero).s, .int .i64 (run g.2 zero).lo, .int .i64 (run g.2 zero).hi] 31))
      have HG3 := Aside0.mk ((HG2.out.below ((Below.refl w2.heap.size w2).alloc (Nat.le_refl _) (.cells #[.int .i64 g.1, .int .i64 (run g.2 zero).c, .int .i64 (run g.2 zero).s, .int .i64 (run g.2 zero).lo, .int .i64 (run g.2 zero).hi] 31))).below ((Below.refl _ _).alloc (Nat.le_refl _) (.cells #[.int .i64 g.1, .int .i64 (run g.2 zero).c, .int .i64 (run g.2 zero).s, .int .i64 (run g.2 zero).lo, .int .i64 (run g.2 zero).hi] 31)))
      have HB3 := Aside0.mk ((HB2.out.alloc HB2.out.size (.cells #[.int .i64 g.1, .int .i64 (run g.2 zero).c, .int .i64 (run g.2 zero).s, .int .i64 (run g.2 zero).lo, .int .i64 (run g.2 zero).hi] 31)).alloc (by have := HB2.out.size; simp; omega) (.cells #[.int .i64 g.1, .int .i64 (run g.2 zero).c, .int .i64 (run g.2 zero).s, .int .i64 (run g.2 zero).lo, .int .i64 (run g.2 zero).hi] 31))
      clear HG2 HB2 HR2 HR HG HB
      go_wp2_with (first | (at_builtin; refine wpList_append_own _ rfl _ _ 24 rfl w.heap.size 31 i31 (.agg #[.int .i64 0, .int .i64 0, .int .i64 0, .int .i64 0, .int .i64 0]) 5 40 Try.underlying24 hi31 x0 x1 x2 rfl (by decide) _ j _ rfl HR3.out ⟨w2.heap.size + 1, 0, none⟩ 1 1 [.int .i64 g.1, .int .i64 (run g.2 zero).c, .int .i64 (run g.2 zero).s, .int .i64 (run g.2 zero).lo, .int .i64 (run g.2 zero).hi] rfl rfl (by have h := cells_new (w2.alloc (.cells #[.int .i64 g.1, .int .i64 (run g.2 zero).c, .int .i64 (run g.2 zero).s, .int .i64 (run g.2 zero).lo, .int .i64 (run g.2 zero).hi] 31)) [.int .i64 g.1, .int .i64 (run g.2 zero).c, .int .i64 (run g.2 zero).s, .int .i64 (run g.2 zero).lo, .int .i64 (run g.2 zero).hi] 31; rw [World.size_alloc] at h; exact h) (by simp [Value.oneCell']) (by unfold maxLen; omega) (by omega) HB3.out.size ?_) | go_in)
      intro v5 w6 hr6 hg6 _
      have HR7 := Aside0.mk (show w6.ownsRow w.heap.size 31 5 v5 (j + 1) ((R.take (j + 1)).flatMap aggC) by rw [HTAKE.out]; exact hr6)
      have HB7 := Aside0.mk (HB3.out.grown hg6 HB3.out.size (fun q hq => (HR3.out.lt q hq).1))
      have HG7 := Aside0.mk (HG3.out.grown31 HR3.out hg6)
      clear hr6 hg6 HR3 HB3 HG3 HTAKE hcs
      go_wp2_with fail
      go_roundw
      case rel => exact ⟨j + 1, _, by omega, rfl, rfl, HR7, HG7, HB7⟩
      case measure => simp [intOf]; omega
    · have hje : j = R.length := by omega
      subst hje
      have HR2 := HR.out
      rw [List.take_length] at HR2
      have HR3 := Aside0.mk HR2
      clear HR2 HR hlt hj
      go_wp2
      go_ret
      exact ⟨_, rfl, HR3.out, HB.out⟩
end Go.Proofs.Ytnjdngjlbonieaa

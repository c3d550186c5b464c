/- roll.Aggs, walked. -/
import Derived.Test.YtnjdngjlbonieaaRollD
import Derived.Test.YtnjdngjlbonieaaRollQ
import Derived.Lib.Hide
import Derived.LoopTactic
import Derived.Outline
import Derived.Laws.Rows
import Derived.Laws.CopyOwn
import Derived.WalkKit
set_option linter.unusedVariables false
set_option linter.unusedSimpArgs false
namespace Go.Proofs.Ytnjdngjlbonieaa
open Go.RowKit Go.Proofs.YtnjdngjlbonieaaW.PrintWords Go.Proofs.YtnjdngjlbonieaaW.PrintLast Go.Proofs.YtnjdngjlbonieaaW.PrintMore
open Go.Proofs.Ytnjdngjlbonieaa.PRollWindows
attribute [local go_sem] max2_int min2_int max_two min_two max_three min_three max_four min_four

open RollOfPure
open Go.Proofs.Ytnjdngjlbonieaa.PRollTiers (S31 k31 k31_mk at_T31 rd_T31 roll_Join.calls roll_Join.f)
theorem kdC_ofQ {w : World} {B cap : Nat} {A : Option Addr} {r : List S31} (h : w.ownsRow B 31 5 (.slice A r.length cap) r.length (r.flatMap aggP)) (hm : r.length ≤ 1000) : Kd.C k31 w A r.length r ∧ r.length ≤ cap := by
  refine ⟨⟨rfl, by omega, fun h0 => ?_⟩, ?_⟩
  · obtain ⟨g, c2, cur, e, hg, _⟩ := row_pos h h0
    injection e with e e1 e2
    subst e
    refine ⟨_, rfl, fun j p hj => ⟨aggP p, rfl, k31_mk w p, fun i u hu => ?_⟩⟩
    have hi : i < 5 := (List.getElem?_eq_some_iff.1 hu).1
    exact h.cells (g := g) rfl (j * 5 + i) u (by rw [flat_at aggP 5 (fun _ => rfl) r j p i hj hi]; exact hu)
  · rcases h.2 with ⟨e, h0⟩ | ⟨g, c2, cur, e, _, _, h1, _⟩
    · omega
    · injection e with _ _ e2
      omega
theorem own_grown_same {B e k n k2 m : Nat} {u v : Value} {xs ys : List Value} {w w' : World} (h : w.ownsRow B e k u n xs) (hne : ∀ b, u.ownBlock = some b → v.ownBlock ≠ some b) (hg : w.grownBy w' v.ownBlock) : w'.ownsRow B e k u n xs :=
  own_kept h fun b hb => hg.block b (h.lt b hb).2 fun hc => hne b hb hc.symm
def RQ (t : Int) (l : List S31) : List (Int × List S31) := if widthT t = 0 then [] else grpF (widthT t) S31.f0 l none []
abbrev aggD (jn : Int × List S31 → St) (g : Int × List S31) : List Value := [.int .i64 g.1, .int .i64 (jn g).c, .int .i64 (jn g).s, .int .i64 (jn g).lo, .int .i64 (jn g).hi]
/-- What Aggs leaves. -/
def QPost (jn : Int × List S31 → St) (R : List (Int × List S31)) (w : World) (e : Ending) (w' : World) : Prop := ∃ v, e = .returned v ∧ w'.ownsRow w.heap.size 31 5 v R.length (R.flatMap (aggD jn)) ∧ Below w.heap.size w w'
set_option maxRecDepth 100000 in
set_option maxHeartbeats 32000000 in
theorem aggs_calls (jn : Int × List S31 → St) (t : Int) (A : Option Addr) (ca : Nat) (l : List S31) (hi : ∀ x ∈ l, x.f0 ≤ 9223372036854775807) (w : World) (h : Kd.C k31 w A l.length l) (hl : l.length ≤ 60) (R : List (Int × List S31)) (hR : R = RQ t l)
    (hRl : R.length ≤ 60) (hm : ∀ g ∈ R, g.2.length ≤ 60) (hj : ∀ g ∈ R, roll_Join.f 200 g.1 g.2 = some (g.1, (jn g).c, (jn g).s, (jn g).lo, (jn g).hi, true)) :
    Calls Try.prog 16 #[.int .i64 t, .slice A l.length ca] w (QPost jn R w) := by
  have hGC := group_callsQ t A ca l hi w h (by omega)
  change Calls Try.prog 56 _ w (GPostQ (RQ t l) w) at hGC
  rw [← hR] at hGC
  have HGC := Aside0.mk hGC
  have HMEM := Lib.hid hm
  have HJ := Lib.hid hj
  clear hGC hi h hR hm hj
  have hu31 := Try.underlying31
  have hu29 := Try.underlying29
  go_enter Try.func16, Try.ntmps16
  go_wp2_with fail
  refine HGC.out.mono ?_
  rintro e w1 ⟨vs, vo, rfl, hG, hB⟩
  clear HGC
  have HG0 := Aside0.mk hG
  have HB0 := Aside0.mk hB
  obtain ⟨As, caps, hvs⟩ := row_form hG.starts
  subst hvs
  obtain ⟨Ao, capo, hvo⟩ := row_form hG.out.choose_spec.1
  subst hvo
  clear hG hB
  go_wp2_with fail
  go_loopw [5, 20] (fun v5 v20 wr => ∃ (j : Nat) (vr : Value), j ≤ R.length ∧ v5 = vr ∧ v20 = .int .i64 (j : Int) ∧ Aside0 (wr.ownsRow w1.heap.size 31 5 vr j ((R.take j).flatMap (aggD jn))) ∧ Aside0 (Below w1.heap.size w1 wr)) (fun _ v _ => R.length - (intOf v).toNat)
  case atStart => exact ⟨0, _, by omega, rfl, rfl, ⟨World.ownsRow_nil _ _ _ _⟩, ⟨Below.refl _ _⟩⟩
  case round =>
    obtain ⟨j, vr, hj, rfl, rfl, HR, HB⟩ := hrel
    have HG := Aside0.mk (HG0.out.below HB.out)
    by_cases hlt : j < R.length
    · obtain ⟨L, ho, hrr⟩ := HG.out.out
      obtain ⟨go, cgo, curo, eo, hgo, _⟩ := row_pos ho (by omega)
      injection eo with eo e1 eo2
      subst eo
      obtain ⟨gs, cgs, curs, es, hgs, _⟩ := row_pos HG.out.starts (by omega)
      injection es with es e1 es2
      subst es
      clear e1 eo2 es2
      obtain ⟨g, hg⟩ : ∃ g, R[j]? = some g := ⟨_, List.getElem?_eq_getElem hlt⟩
      obtain ⟨u, hu⟩ : ∃ u, L[j]? = some u := ⟨_, List.getElem?_eq_getElem (by rw [hrr.len, List.length_map]; exact hlt)⟩
      have hrow := hrr.row j u g.2 hu (by rw [List.getElem?_map, hg]; rfl)
      obtain ⟨Au, cu, hue⟩ := row_form hrow
      subst hue
      have c1 : wr.cell? ⟨go, j, none⟩ = some (.slice Au g.2.length cu) := by rw [ho.cellAt j (by omega)]; exact hu
      have c2 : wr.cell? ⟨gs, j, none⟩ = some (.int .i64 g.1) := by rw [HG.out.starts.cellAt j (by omega), List.getElem?_map, hg]; rfl
      have hgl := HMEM.out g (List.mem_of_getElem? hg)
      obtain ⟨hC, hcu⟩ := kdC_ofQ hrow (by omega)
      have HOF := Aside0.mk (roll_Join.calls 200 g.1 Au cu g.2 _ _ _ _ _ _ wr hC hcu (HJ.out g (List.mem_of_getElem? hg)))
      have HTAKE := Aside0.mk (show (R.take (j + 1)).flatMap (aggD jn) = (R.take j).flatMap (aggD jn) ++ (aggD jn) g by
        obtain ⟨hj2, he⟩ := List.getElem?_eq_some_iff.1 hg
        rw [List.take_succ_eq_append_getElem hj2, he, List.flatMap_append]
        simp)
      have hjl : (j : Int) < (R.length : Int) := by omega
      clear ho hgo hgs hrow hgl hC hcu hu hg hrr
      go_wp2_with fail
      refine HOF.out.mono ?_
      rintro e w2 ⟨rfl, h2⟩
      obtain ⟨v1, hv1⟩ : ∃ v, v = (jn g).c := ⟨_, rfl⟩
      obtain ⟨v2, hv2⟩ : ∃ v, v = (jn g).s := ⟨_, rfl⟩
      obtain ⟨v3, hv3⟩ : ∃ v, v = (jn g).lo := ⟨_, rfl⟩
      obtain ⟨v4, hv4⟩ : ∃ v, v = (jn g).hi := ⟨_, rfl⟩
      rw [← hv1, ← hv2, ← hv3, ← hv4]
      have HB2 := Aside0.mk (HB.out.trans (h2.mono HB.out.size))
      have HR2 := Aside0.mk (own_kept HR.out fun b hb => h2.block b (HR.out.lt b hb).2)
      clear h2 HOF c1 c2
      obtain ⟨i31, hi31, x0, x1, x2⟩ := info_parts info31
      obtain ⟨cs, hcs⟩ : ∃ cs : List Value, cs = [.int .i64 g.1, .int .i64 (jn g).c, .int .i64 (jn g).s, .int .i64 (jn g).lo, .int .i64 (jn g).hi] := ⟨_, rfl⟩
      have HR3 := Aside0.mk ((HR2.out.alloc (.cells #[.int .i64 g.1, .int .i64 (jn g).c, .int .i64 (jn g).s, .int .i64 (jn g).lo, .int .i64 (jn g).hi] 31)).alloc (.cells #[.int .i64 g.1, .int .i64 (jn g).c, .int .i64 (jn g).s, .int .i64 (jn g).lo, .int .i64 (jn g).hi] 31))
      have HB3 := Aside0.mk ((HB2.out.alloc HB2.out.size (.cells #[.int .i64 g.1, .int .i64 (jn g).c, .int .i64 (jn g).s, .int .i64 (jn g).lo, .int .i64 (jn g).hi] 31)).alloc (by have := HB2.out.size; simp; omega) (.cells #[.int .i64 g.1, .int .i64 (jn g).c, .int .i64 (jn g).s, .int .i64 (jn g).lo, .int .i64 (jn g).hi] 31))
      clear HB2 HR2 HR HG HB
      go_wp2_with (first | (at_builtin; refine wpList_append_own _ rfl _ _ 24 rfl w1.heap.size 31 i31 (.agg #[.int .i64 0, .int .i64 0, .int .i64 0, .int .i64 0, .int .i64 0]) 5 40 Try.underlying24 hi31 x0 x1 x2 rfl (by decide) _ j _ rfl HR3.out ⟨w2.heap.size + 1, 0, none⟩ 1 1 [.int .i64 g.1, .int .i64 (jn g).c, .int .i64 (jn g).s, .int .i64 (jn g).lo, .int .i64 (jn g).hi] rfl rfl (by have h := cells_new (w2.alloc (.cells #[.int .i64 g.1, .int .i64 (jn g).c, .int .i64 (jn g).s, .int .i64 (jn g).lo, .int .i64 (jn g).hi] 31)) [.int .i64 g.1, .int .i64 (jn g).c, .int .i64 (jn g).s, .int .i64 (jn g).lo, .int .i64 (jn g).hi] 31; rw [World.size_alloc] at h; exact h) (by simp [Value.oneCell']) (by unfold maxLen; omega) (by omega) HB3.out.size ?_) | go_in)
      intro v5 w6 hr6 hg6 _
      have HR7 := Aside0.mk (show w6.ownsRow w1.heap.size 31 5 v5 (j + 1) ((R.take (j + 1)).flatMap (aggD jn)) by rw [HTAKE.out]; exact hr6)
      have HB7 := Aside0.mk (HB3.out.grown hg6 HB3.out.size (fun q hq => (HR3.out.lt q hq).1))
      clear hr6 hg6 HR3 HB3 HTAKE hcs
      go_wp2_with fail
      go_roundw
      case rel => exact ⟨j + 1, _, by omega, rfl, rfl, HR7, HB7⟩
      case measure => simp [intOf]; omega
    · have hje : j = R.length := by omega
      subst hje
      have HR2 := HR.out
      rw [List.take_length] at HR2
      have HR3 := Aside0.mk HR2
      clear HR2 HR hlt hj
      go_wp2
      go_ret
      exact ⟨_, rfl, row_mono HR3.out HB0.out.size, HB0.out.trans (HB.out.mono HB0.out.size)⟩
end Go.Proofs.Ytnjdngjlbonieaa

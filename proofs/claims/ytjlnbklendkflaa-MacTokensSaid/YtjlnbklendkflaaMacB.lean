/- mac.Code, mac.Same, walked. -/
import Derived.Test.YtjlnbklendkflaaMacA
import Derived.Lib.Hide
import Derived.LoopTactic
import Derived.Outline
import Derived.Laws.Rows
import Derived.Laws.CopyOwn
import Derived.WalkKit
set_option linter.unusedVariables false
set_option linter.unusedSimpArgs false
namespace Go.Proofs.Ytjlnbklendkflaa
open Go.RowKit Go.Proofs.YtjlnbklendkflaaW.PrintWords Go.Proofs.YtjlnbklendkflaaW.PrintLast Go.Proofs.YtjlnbklendkflaaW.PrintMore
open Go.Proofs.Ytjlnbklendkflaa.PHashSums


theorem padded_calls (A : Option Addr) (c : Nat) (key : List Int) (x : Int) (w : World) (h : SrcB w (.slice A key.length c) key) (hl : key.length ≤ 100000) :
    Calls Try.prog 30 #[.slice A key.length c, .int .u8 x] w fun e w' => ∃ v, e = .returned v ∧ SrcB w' v (padB (keyOf key) x) ∧ Below w.heap.size w w' := by
  by_cases hk : 64 < key.length
  · have e : keyOf key = digest key := if_pos hk
    rw [e]
    exact padded_long A c key _ x w h hk hl rfl
  · have e : keyOf key = key := if_neg hk
    rw [e]
    exact padded_short A c key x w h (by omega)
/-- The code of a key and bytes. -/
def codeOf (key b : List Int) : List Int := digest (padB (keyOf key) 92 ++ digest (padB (keyOf key) 54 ++ b))
theorem padB_length (K : List Int) (x : Int) : (padB K x).length = 64 := by simp [padB]
section
variable {P : Program} {ops : Array Oper} {o : Oper} {a : Act} {w : World} {K : Act → World → Prop} {Q : Exit → Act → World → Prop} {E : Prop}
theorem step_store_row (hgd : o.guard = none) (ty : TypeId) (x y : Operand) (ho : o.op = .store ty x y)
    (g : Nat) (cells : Array Value) (hx : a.eval x = .pointer (some ⟨g, 0, none⟩)) (hy : a.eval y = .agg cells)
    (t : TypeId) (old : Array Value) (hg : w.heap[g]? = some (.cells old t (0, 0))) (hi : (P.info? ty).map (·.size) = some cells.size)
    (hold : old.size = cells.size) (h1 : cells.all (·.oneCell') = true) (h : K (a.put o.dst undef) (w.setRow g cells)) :
    if Region.wanted o (yielded ops a.tmps) = true then Oper.wp P o a w K Q else E := by
  have hw : Region.wanted o (yielded ops a.tmps) = true := by simp [Region.wanted, hgd]
  rw [if_pos hw]
  exact wp_store_row ty x y ho g cells hx hy t old hg hi hold h1 h
end
theorem arr_src {w : World} {g : Nat} {t : TypeId} {l : List Int} (h : w.heap[g]? = some (.cells (bytesA l) t (0, 0))) (c : Nat) : SrcB w (.slice (some ⟨g, 0, none⟩) l.length c) l := by
  refine .inr ⟨⟨g, 0, none⟩, c, rfl, fun j u hu => ?_⟩
  have e : Addr.add ⟨g, 0, none⟩ j = ⟨g, j, none⟩ := by unfold Addr.add; split <;> simp_all
  rw [e]
  exact bytes_cell h hu
set_option maxRecDepth 100000 in
set_option maxHeartbeats 8000000 in
theorem code_calls (A : Option Addr) (c : Nat) (key : List Int) (u : Value) (b : List Int) (w : World) (h : SrcB w (.slice A key.length c) key) (hu : SrcB w u b) (hl : key.length ≤ 90000) (hb : b.length ≤ 90000) :
    Calls Try.prog 18 #[.slice A key.length c, u] w fun e w' => e = .returned (.agg (bytesA (codeOf key b))) ∧ Below w.heap.size w w' := by
  have HS := Aside0.mk h
  have HU := Aside0.mk hu
  have hinfo : (Try.prog.info? 25).map (·.size) = some 32 := by kernel_rfl
  have HIN := Aside0.mk hinfo
  clear h hu hinfo
  go_enter Try.func18, Try.ntmps18
  go_wp2_with fail
  have HA := Aside0.mk ((Below.refl w.heap.size w).alloc (Nat.le_refl _) (Obj.cells #[.int .u8 0, .int .u8 0, .int .u8 0, .int .u8 0, .int .u8 0, .int .u8 0, .int .u8 0, .int .u8 0, .int .u8 0, .int .u8 0, .int .u8 0, .int .u8 0, .int .u8 0, .int .u8 0, .int .u8 0, .int .u8 0, .int .u8 0, .int .u8 0, .int .u8 0, .int .u8 0, .int .u8 0, .int .u8 0, .int .u8 0, .int .u8 0, .int .u8 0, .int .u8 0, .int .u8 0, .int .u8 0, .int .u8 0, .int .u8 0, .int .u8 0, .int .u8 0] 25))
  refine (padded_calls A c key 54 (w.alloc (Obj.cells #[.int .u8 0, .int .u8 0, .int .u8 0, .int .u8 0, .int .u8 0, .int .u8 0, .int .u8 0, .int .u8 0, .int .u8 0, .int .u8 0, .int .u8 0, .int .u8 0, .int .u8 0, .int .u8 0, .int .u8 0, .int .u8 0, .int .u8 0, .int .u8 0, .int .u8 0, .int .u8 0, .int .u8 0, .int .u8 0, .int .u8 0, .int .u8 0, .int .u8 0, .int .u8 0, .int .u8 0, .int .u8 0, .int .u8 0, .int .u8 0, .int .u8 0, .int .u8 0] 25)) (HS.out.below HA.out) (by omega)).mono ?_
  rintro e w1 ⟨v1, rfl, hs1, hb1⟩
  have HB1 := Aside0.mk (HA.out.trans (hb1.mono (by simp)))
  have HR1 := Aside0.mk (show ∃ cs : Array Value, w1.heap[w.heap.size]? = some (.cells cs 25 (0, 0)) ∧ cs.size = 32 from ⟨_, (hb1.block w.heap.size (by simp)).trans (blk_new w _), rfl⟩)
  have hc2 := both_calls v1 u _ b w1 hs1 (HU.out.below HB1.out) (by rw [padB_length]; omega)
  obtain ⟨ds, hds⟩ : ∃ ds, ds = digest (padB (keyOf key) 54 ++ b) := ⟨_, rfl⟩
  rw [← hds] at hc2
  have HC2 := Lib.hid hc2
  have HDS := Aside0.mk hds
  have HZ := Aside0.mk (show (bytesA ds).size = 32 by rw [bytesA_size, hds, digest_length])
  have HDL := Aside0.mk (show ds.length = 32 by rw [hds, digest_length])
  clear hs1 hb1 hc2 hds
  go_wp2_with fail
  refine HC2.out.mono ?_
  rintro e w2 ⟨rfl, hb2⟩
  have HB2 := Aside0.mk (HB1.out.trans (hb2.mono HB1.out.size))
  have HR2 := Aside0.mk (show ∃ cs : Array Value, w2.heap[w.heap.size]? = some (.cells cs 25 (0, 0)) ∧ cs.size = 32 by
    obtain ⟨cs, h1, h2⟩ := HR1.out
    exact ⟨cs, (hb2.block _ (blk_lt h1)).trans h1, h2⟩)
  clear hb2
  go_wp2_with (refine store_new rfl 25 (.tmp 5) (.tmp 9) rfl w2 _ (bytesA ds) 25 rfl rfl (by rw [HZ.out]; exact HIN.out) (by rw [HZ.out]; rfl) (bytesA_one ds) ?_; intro w3 hb3 hg3 hz3; have HB3 := Aside0.mk (HB2.out.trans (hb3.mono HB2.out.size)); have HG3 := Aside0.mk hg3; have HB23 := Aside0.mk hb3; have HC4 := Lib.hid (padded_calls A c key 92 w3.drew (HS.out.below HB3.out.drew) (by omega)); clear hb3 hg3 hz3)
  refine start_ (n := 5) (S := fun w' => True) (ds := [4]) #[false, false, false, false, false] (by kernel_rfl) rfl rfl trivial (fun hHeld => ?_)
  refine pure_ (i := 0) (N := some 10) (v := ?_) (a' := ?_) #[true, false, false, false, false] rfl rfl (by kernel_rfl) (fun _ _ _ h => h) (Or.inl ⟨by rfl, ?_⟩) ?_ ?_
  rotate_left
  · intro w'
    go_simp
    with_reducible rfl
  rotate_left
  · simp only [Act.put, List.setIfInBounds_toArray, List.set_cons_zero, List.set_cons_succ, i64_w, i32_w]
    rfl
  refine pure_ (i := 2) (N := some 12) (v := ?_) (a' := ?_) #[true, false, true, false, false] rfl rfl (by kernel_rfl) (fun _ _ _ h => h) (Or.inl ⟨by rfl, ?_⟩) ?_ ?_
  rotate_left
  · intro w'
    go_simp
    with_reducible rfl
  rotate_left
  · simp only [Act.put, List.setIfInBounds_toArray, List.set_cons_zero, List.set_cons_succ, i64_w, i32_w]
    rfl
  refine one_ (i := 1) (N := some 11) #[true, true, true, false, false] rfl rfl (by kernel_rfl) (by decide) (fun K hK => ?_)
  refine goes_ Try.func30 (by kernel_rfl) rfl #[.slice A key.length c, .int .u8 92] (by rfl) rfl rfl (by simp only [List.map_toArray, List.map_cons, List.map_nil]; rfl) ?_
  with_reducible refine (HC4.out).mono ?_
  rintro e w4 ⟨v4, rfl, hs4, hb4⟩
  have HB34 := Aside0.mk (show Below w3.heap.size w3 w4 from ⟨hb4.os, hb4.tape, hb4.output, hb4.size, hb4.block⟩)
  have HB4 := Aside0.mk (HB3.out.trans (HB34.out.mono HB3.out.size))
  have hc5 := both_calls v4 (.slice (some ⟨w2.heap.size, 0, none⟩) 32 32) _ ds w4 hs4 (by have h := arr_src ((HB34.out.block _ (blk_lt HG3.out)).trans HG3.out) 32; rw [HDL.out] at h; exact h) (by rw [padB_length, HDL.out]; omega)
  obtain ⟨es, hes⟩ : ∃ es, es = digest (padB (keyOf key) 92 ++ ds) := ⟨_, rfl⟩
  rw [← hes] at hc5
  have HC5 := Lib.hid hc5
  have HES := Aside0.mk hes
  have HEZ := Aside0.mk (show (bytesA es).size = 32 by rw [bytesA_size, hes, digest_length])
  clear hs4 hb4 hc5 hes
  refine ⟨_, rfl, ?_⟩
  refine hK.out _ _ trivial (fun hHeld => ?_)
  clear hK K
  refine norm_ (a' := ?_) ?_ ?_
  rotate_left
  · show Act.put _ (some 11) _ = _
    simp only [Act.put, List.setIfInBounds_toArray, List.set_cons_zero, List.set_cons_succ, i64_w, i32_w]
    rfl
  refine one_ (i := 3) (N := some 13) #[true, true, true, true, false] rfl rfl (by kernel_rfl) (by decide) (fun K hK => ?_)
  refine goes_ Try.func29 (by kernel_rfl) rfl #[v4, .slice (some ⟨w2.heap.size, 0, none⟩) 32 32] (by rfl) rfl rfl (by simp only [List.map_toArray, List.map_cons, List.map_nil]; rfl) ?_
  with_reducible refine (HC5.out).mono ?_
  rintro e w5 ⟨rfl, hb5⟩
  have HB5 := Aside0.mk (HB4.out.trans (hb5.mono HB4.out.size))
  obtain ⟨cs, hcs, hcz⟩ := HR2.out
  have HCS := Aside0.mk ((hb5.block _ (by have := blk_lt hcs; have := HB23.out.size; have := HB34.out.size; omega)).trans ((HB34.out.block _ (by have := blk_lt hcs; have := HB23.out.size; omega)).trans ((HB23.out.block _ (blk_lt hcs)).trans hcs)))
  have HCZ := Aside0.mk hcz
  clear hb5 hcs hcz
  refine ⟨_, rfl, ?_⟩
  refine hK.out _ _ trivial (fun hHeld => ?_)
  clear hK K
  refine norm_ (a' := ?_) ?_ ?_
  rotate_left
  · show Act.put _ (some 13) _ = _
    simp only [Act.put, List.setIfInBounds_toArray, List.set_cons_zero, List.set_cons_succ, i64_w, i32_w]
    rfl
  refine last_ (i := 4) (N := none) #[true, true, true, true, true] rfl rfl (by kernel_rfl) (by decide) (fun K hK => ?_)
  refine step_store_row rfl 25 (.tmp 4) (.tmp 13) rfl w.heap.size (bytesA es) rfl rfl 25 cs HCS.out (by rw [HEZ.out]; exact HIN.out) (by rw [HEZ.out]; exact HCZ.out) (bytesA_one es) ?_
  refine hK.out _ _ ?_
  clear hK K
  refine done_ (by kernel_rfl) ?_
  go_wp2
  refine bodyPost_ret (v := .agg (bytesA es)) (results_cell_row (p := 4) (ty := 25) rfl _ _ w.heap.size 25 (bytesA es) (0, 0) _ rfl (setRow_heap _ _ _ _ _ _ HCS.out) Try.underlying25 rfl (by rw [HEZ.out]; exact HIN.out)) rfl ⟨by rw [HES.out, HDS.out]; rfl, below_setRow HB5.out (Nat.le_refl _) _⟩
end Go.Proofs.Ytjlnbklendkflaa

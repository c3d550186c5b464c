/- The functions over points that are handed to play, walked. -/
import Derived.Test.YtnjdngjlbonieaaTierR
import Derived.Lib.Hide
import Derived.LoopTactic
import Derived.Outline
import Derived.Laws.Rows
import Derived.Laws.CopyOwn
import Derived.WalkKit
set_option linter.unusedVariables false
set_option linter.unusedSimpArgs false
namespace Go.Proofs.Ytnjdngjlbonieaa
open Go.RowKit Go.Proofs.YtnjdngjlbonieaaW.PrintWords Go.Proofs.YtnjdngjlbonieaaW.PrintLast Go.Proofs.YtnjdngjlbonieaaW.PrintMore
open Go.Proofs.Ytnjdngjlbonieaa.PTierForgets
attribute [local go_sem] max2_int min2_int max_two min_two max_three min_three max_four min_four

set_option maxRecDepth 100000 in
theorem idK_calls (p : S29) (w : World) : Calls Try.prog 40 #[.agg #[.int .i64 p.f0, .int .i64 p.f1]] w fun e w' => e = .returned (.agg #[.int .i64 p.f0, .int .i64 p.f1]) ∧ Below w.heap.size w w' := by
  have hu29 := Try.underlying29
  obtain ⟨W, hW⟩ : ∃ W, W = (w.alloc (.cells #[.int .i64 p.f0, .int .i64 p.f1] 29)).alloc (.cells #[.int .i64 p.f0, .int .i64 p.f1] 29) := ⟨_, rfl⟩
  have HB := Aside0.mk (show Below w.heap.size w W by rw [hW]; exact ((Below.refl w.heap.size w).alloc (Nat.le_refl _) _).alloc (by simp) _)
  have hc : W.heap[w.heap.size + 1]? = some (.cells #[.int .i64 p.f0, .int .i64 p.f1] 29 (0, 0)) := by rw [hW]; exact heap_alloc2_new w _ _
  have d0 : W.cell? ⟨w.heap.size + 1, 0, none⟩ = some (.int .i64 p.f0) := blk_cell hc 0
  have d1 : W.cell? ⟨w.heap.size + 1, 1, none⟩ = some (.int .i64 p.f1) := blk_cell hc 1
  go_enter Try.func40, Try.ntmps40
  go_wp2
  rw [← hW]
  exact bodyPost_ret (v := .agg #[.int .i64 p.f0, .int .i64 p.f1]) (by simp [results, Try.results40, go_sem, d0, d1]) rfl ⟨rfl, HB.out⟩
def valX (r0 r1 by_ : Int) (p : S29) : S29 := if (decide (r0 ≤ p.f0) && decide (p.f0 < r1)) = true then ⟨p.f0, bits BinOp.xor .i64 p.f1 by_⟩ else p
theorem valX_mk (r0 r1 by_ : Int) (p : S29) : mkP r0 r1 (valX r0 r1 by_ p) = mkP r0 r1 p := by
  unfold valX
  by_cases hb : (decide (r0 ≤ p.f0) && decide (p.f0 < r1)) = true
  · rw [if_pos hb]
    have h : r0 ≤ p.f0 ∧ p.f0 < r1 := by simpa using hb
    unfold mkP
    rw [if_pos h, if_pos h]
  · rw [if_neg hb]
set_option maxRecDepth 100000 in
set_option maxHeartbeats 4000000 in
theorem xor41_calls (p : S29) (r0 r1 by_ : Int) (bx bz : Nat) (w : World) (h0 : w.heap[bx]? = some (.cells #[.int .i64 r0, .int .i64 r1] 42 (0, 0))) (h1 : w.heap[bz]? = some (.cells #[.int .i64 by_] 2 (0, 0))) : Calls Try.prog 41 #[.agg #[.int .i64 p.f0, .int .i64 p.f1], .pointer (some ⟨bx, 0, none⟩), .pointer (some ⟨bz, 0, none⟩)] w fun e w' => e = .returned (.agg #[.int .i64 (valX r0 r1 by_ p).f0, .int .i64 (valX r0 r1 by_ p).f1]) ∧ Below w.heap.size w w' := by
  have hu29 := Try.underlying29
  have hu42 := Try.underlying42
  obtain ⟨W, hW⟩ : ∃ W, W = (w.alloc (.cells #[.int .i64 p.f0, .int .i64 p.f1] 29)).alloc (.cells #[.int .i64 0, .int .i64 0] 29) := ⟨_, rfl⟩
  obtain ⟨Q, hQ⟩ : ∃ Q, Q = w.heap.size := ⟨_, rfl⟩
  have HQ := Aside0.mk (show w.heap.size ≤ Q by rw [hQ]; exact Nat.le_refl _)
  have HB := Aside0.mk (show Below w.heap.size w W by rw [hW]; exact ((Below.refl w.heap.size w).alloc (Nat.le_refl _) _).alloc (by simp) _)
  have hz : W.heap[bz]? = some (.cells #[.int .i64 by_] 2 (0, 0)) := by rw [hW]; exact blk_alloc (blk_alloc h1 _) _
  have hx : W.heap[bx]? = some (.cells #[.int .i64 r0, .int .i64 r1] 42 (0, 0)) := by rw [hW]; exact blk_alloc (blk_alloc h0 _) _
  have hq : W.heap[Q]? = some (.cells #[.int .i64 p.f0, .int .i64 p.f1] 29 (0, 0)) := by rw [hW, hQ]; exact blk_alloc (blk_new w _) _
  have hr : W.heap[Q + 1]? = some (.cells #[.int .i64 0, .int .i64 0] 29 (0, 0)) := by rw [hW, hQ]; exact heap_alloc2_new w _ _
  have q0 : W.cell? ⟨Q, 0, none⟩ = some (.int .i64 p.f0) := blk_cell hq 0
  have x0 : W.cell? ⟨bx, 0, none⟩ = some (.int .i64 r0) := blk_cell hx 0
  have x1 : W.cell? ⟨bx, 1, none⟩ = some (.int .i64 r1) := blk_cell hx 1
  have HIN := Lib.hid (fun W => window_In.calls r0 r1 p.f0 _ W (wIn_is _ _ _))
  obtain ⟨tb, htb⟩ : ∃ tb, tb = (decide (r0 ≤ p.f0) && decide (p.f0 < r1)) := ⟨_, rfl⟩
  rw [← htb] at HIN
  have HTB := Aside0.mk htb
  have HZ := Aside0.mk hz
  have HQB := Aside0.mk hq
  have HRB := Aside0.mk hr
  clear hz hx hq hr h0 h1 htb
  go_enter Try.func41, Try.ntmps41
  go_upto_region 1 with (fail)
  rw [← hW, ← hQ]
  clear hW hQ
  go_wp2_with fail
  refine (HIN.out W).mono ?_
  rintro e w1 ⟨rfl, h1⟩
  have HB1 := Aside0.mk (HB.out.trans (h1.mono HB.out.size))
  have hz : w1.heap[bz]? = _ := (h1.block bz (blk_lt HZ.out)).trans HZ.out
  have hq : w1.heap[Q]? = _ := (h1.block Q (blk_lt HQB.out)).trans HQB.out
  have hr : w1.heap[Q + 1]? = _ := (h1.block (Q + 1) (blk_lt HRB.out)).trans HRB.out
  have q0 : w1.cell? ⟨Q, 0, none⟩ = some (.int .i64 p.f0) := blk_cell hq 0
  have q1 : w1.cell? ⟨Q, 1, none⟩ = some (.int .i64 p.f1) := blk_cell hq 1
  have x1 : w1.frozen? ⟨Q, 1, none⟩ = false := blk_frozen hq 1
  have z0 : w1.cell? ⟨bz, 0, none⟩ = some (.int .i64 by_) := blk_cell hz 0
  have HQ1 := Aside0.mk hq
  have HR1 := Aside0.mk hr
  clear hz hq hr HB HZ HQB HRB HIN h1
  cases tb with
  | true =>
    have HVX := Aside0.mk (show valX r0 r1 by_ p = ⟨p.f0, bits BinOp.xor .i64 p.f1 by_⟩ by unfold valX; rw [if_pos HTB.out.symm])
    go_upto_region 3 with (fail)
    obtain ⟨X, hX⟩ : ∃ X, X = bits BinOp.xor .i64 p.f1 by_ := ⟨_, rfl⟩
    rw [← hX] at HVX ⊢
    obtain ⟨Z, hZ⟩ : ∃ Z, Z = w1.setCell ⟨Q, 1, none⟩ (.int .i64 X) := ⟨_, rfl⟩
    rw [← hZ]
    have HALL := Aside0.mk (show Below w.heap.size w Z ∧ Z.heap[Q]? = some (.cells #[.int .i64 p.f0, .int .i64 X] 29 (0, 0)) ∧ Z.heap[Q + 1]? = some (.cells #[.int .i64 0, .int .i64 0] 29 (0, 0)) by
      rw [hZ]
      exact ⟨HB1.out.setCell (p := ⟨Q, 1, none⟩) HQ.out _, blk_set HQ1.out 1 _, blk_far HR1.out (p := ⟨Q, 1, none⟩) (by show Q ≠ Q + 1; omega) _⟩)
    clear hZ hX q0 q1 x1 z0 HQ1 HR1
    obtain ⟨HBZ, hq, hr⟩ := HALL.out
    have y0 : Z.cell? ⟨Q, 0, none⟩ = some (.int .i64 p.f0) := blk_cell hq 0
    have y1 : Z.cell? ⟨Q, 1, none⟩ = some (.int .i64 X) := blk_cell hq 1
    have e1 := blk_set hr 0 (.int .i64 p.f0)
    have e2 := blk_set e1 1 (.int .i64 X)
    have n0 : Z.cell? ⟨Q + 1, 0, none⟩ = some (.int .i64 0) := blk_cell hr 0
    have f0 : Z.frozen? ⟨Q + 1, 0, none⟩ = false := blk_frozen hr 0
    have n1 : (Z.setCell ⟨Q + 1, 0, none⟩ (.int .i64 p.f0)).cell? ⟨Q + 1, 1, none⟩ = some (.int .i64 0) := blk_cell e1 1
    have f1 : (Z.setCell ⟨Q + 1, 0, none⟩ (.int .i64 p.f0)).frozen? ⟨Q + 1, 1, none⟩ = false := blk_frozen e1 1
    have HBF := Aside0.mk (show Below w.heap.size w ((Z.setCell ⟨Q + 1, 0, none⟩ (.int .i64 p.f0)).setCell ⟨Q + 1, 1, none⟩ (.int .i64 X)) from (HBZ.setCell (p := ⟨Q + 1, 0, none⟩) (by have := HQ.out; show w.heap.size ≤ Q + 1; omega) _).setCell (p := ⟨Q + 1, 1, none⟩) (by have := HQ.out; show w.heap.size ≤ Q + 1; omega) _)
    have HE2 := Aside0.mk e2
    clear hq hr e1 e2 HBZ HALL
    go_wp2
    obtain ⟨Z2, hZ2⟩ : ∃ Z2, Z2 = ((Z.setCell ⟨Q + 1, 0, none⟩ (.int .i64 p.f0)).setCell ⟨Q + 1, 1, none⟩ (.int .i64 X)) := ⟨_, rfl⟩
    rw [← hZ2] at HBF HE2 ⊢
    have d0 : Z2.cell? ⟨Q + 1, 0, none⟩ = some (.int .i64 p.f0) := blk_cell HE2.out 0
    have d1 : Z2.cell? ⟨Q + 1, 1, none⟩ = some (.int .i64 X) := blk_cell HE2.out 1
    rw [HVX.out]
    exact bodyPost_ret (v := .agg #[.int .i64 p.f0, .int .i64 X]) (by simp [results, Try.results41, go_sem, d0, d1]) rfl ⟨rfl, HBF.out⟩
  | false =>
    have HVX := Aside0.mk (show valX r0 r1 by_ p = p by unfold valX; rw [if_neg (by rw [← HTB.out]; simp)])
    go_upto_region 3 with (fail)
    obtain ⟨Z, hZ⟩ : ∃ Z, Z = w1 := ⟨_, rfl⟩
    rw [← hZ]
    have HALL := Aside0.mk (show Below w.heap.size w Z ∧ Z.heap[Q]? = some (.cells #[.int .i64 p.f0, .int .i64 p.f1] 29 (0, 0)) ∧ Z.heap[Q + 1]? = some (.cells #[.int .i64 0, .int .i64 0] 29 (0, 0)) by
      rw [hZ]
      exact ⟨HB1.out, HQ1.out, HR1.out⟩)
    clear q0 q1 x1 z0 HQ1 HR1 HB1
    clear hZ
    obtain ⟨HBZ, hq, hr⟩ := HALL.out
    have y0 : Z.cell? ⟨Q, 0, none⟩ = some (.int .i64 p.f0) := blk_cell hq 0
    have y1 : Z.cell? ⟨Q, 1, none⟩ = some (.int .i64 p.f1) := blk_cell hq 1
    have e1 := blk_set hr 0 (.int .i64 p.f0)
    have e2 := blk_set e1 1 (.int .i64 p.f1)
    have n0 : Z.cell? ⟨Q + 1, 0, none⟩ = some (.int .i64 0) := blk_cell hr 0
    have f0 : Z.frozen? ⟨Q + 1, 0, none⟩ = false := blk_frozen hr 0
    have n1 : (Z.setCell ⟨Q + 1, 0, none⟩ (.int .i64 p.f0)).cell? ⟨Q + 1, 1, none⟩ = some (.int .i64 0) := blk_cell e1 1
    have f1 : (Z.setCell ⟨Q + 1, 0, none⟩ (.int .i64 p.f0)).frozen? ⟨Q + 1, 1, none⟩ = false := blk_frozen e1 1
    have HBF := Aside0.mk (show Below w.heap.size w ((Z.setCell ⟨Q + 1, 0, none⟩ (.int .i64 p.f0)).setCell ⟨Q + 1, 1, none⟩ (.int .i64 p.f1)) from (HBZ.setCell (p := ⟨Q + 1, 0, none⟩) (by have := HQ.out; show w.heap.size ≤ Q + 1; omega) _).setCell (p := ⟨Q + 1, 1, none⟩) (by have := HQ.out; show w.heap.size ≤ Q + 1; omega) _)
    have HE2 := Aside0.mk e2
    clear hq hr e1 e2 HBZ HALL
    go_wp2
    obtain ⟨Z2, hZ2⟩ : ∃ Z2, Z2 = ((Z.setCell ⟨Q + 1, 0, none⟩ (.int .i64 p.f0)).setCell ⟨Q + 1, 1, none⟩ (.int .i64 p.f1)) := ⟨_, rfl⟩
    rw [← hZ2] at HBF HE2 ⊢
    have d0 : Z2.cell? ⟨Q + 1, 0, none⟩ = some (.int .i64 p.f0) := blk_cell HE2.out 0
    have d1 : Z2.cell? ⟨Q + 1, 1, none⟩ = some (.int .i64 p.f1) := blk_cell HE2.out 1
    rw [HVX.out]
    exact bodyPost_ret (v := .agg #[.int .i64 p.f0, .int .i64 p.f1]) (by simp [results, Try.results41, go_sem, d0, d1]) rfl ⟨rfl, HBF.out⟩
theorem run40 (args : Array Value) (W : World) : (callFunc 40 args).run Try.prog W = .ok (.enter 40 args) W := by go_simp
theorem run41 (args : Array Value) (W : World) : (callFunc 41 args).run Try.prog W = .ok (.enter 41 args) W := by go_simp
end Go.Proofs.Ytnjdngjlbonieaa

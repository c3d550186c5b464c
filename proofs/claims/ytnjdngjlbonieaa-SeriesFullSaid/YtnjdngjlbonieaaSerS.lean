/- A series that is not there, walked. -/
import Derived.Test.YtnjdngjlbonieaaSerR
import Derived.Lib.Hide
import Derived.LoopTactic
import Derived.Outline
import Derived.Laws.Rows
import Derived.Laws.CopyOwn
import Derived.WalkKit
set_option linter.unusedVariables false
set_option linter.unusedSimpArgs false
namespace Go.Proofs.Ytnjdngjlbonieaa
open Go.RowKit Go.Proofs.YtnjdngjlbonieaaW.PrintWords Go.Proofs.YtnjdngjlbonieaaW.PrintLast Go.Proofs.YtnjdngjlbonieaaW.PrintMore
open Go.Proofs.Ytnjdngjlbonieaa.PRollWindows
attribute [local go_sem] max2_int min2_int max_two min_two max_three min_three max_four min_four

open RollOfPure
theorem nilp (W : World) : (binOp .eql 35 (.pointer none) (.pointer none)).run Try.prog W = .ok (.bool true) W := by go_simp
def TPostI (v : Value) (w : World) (e : Ending) (w' : World) : Prop := e = .returned v ∧ Below w.heap.size w w'
set_option maxRecDepth 100000 in
theorem len_nil (w : World) : Calls Try.prog 22 #[.pointer none] w (TPostI (.int .i64 0) w) := by
  have hn := nilp
  go_enter Try.func22, Try.ntmps22
  go_wp2
  go_ret
  exact ⟨rfl, Below.refl _ _⟩
set_option maxRecDepth 100000 in
theorem span_nil (a b : Int) (w : World) : Calls Try.prog 62 #[.pointer none, .agg #[.int .i64 a, .int .i64 b]] w (TPostI (.tuple #[.int .i64 0, .int .i64 0]) w) := by
  have hn := nilp
  have hu42 := Try.underlying42
  go_enter Try.func62, Try.ntmps62
  go_wp2
  go_ret2
  exact ⟨rfl, (Below.refl _ _).alloc (Nat.le_refl _) _⟩
set_option maxRecDepth 100000 in
theorem cut_nil (a b : Int) (w : World) : Calls Try.prog 23 #[.pointer none, .agg #[.int .i64 a, .int .i64 b]] w (TPostI (.int .i64 0) w) := by
  have hu42 := Try.underlying42
  have HB0 := Aside0.mk ((Below.refl w.heap.size w).alloc (Nat.le_refl _) (.cells #[.int .i64 a, .int .i64 b] 42))
  go_enter Try.func23, Try.ntmps23
  go_wp2_with fail
  refine (span_nil a b _).mono ?_
  rintro e w1 ⟨rfl, h1⟩
  have HB1 := Aside0.mk (HB0.out.trans (h1.mono HB0.out.size))
  clear h1
  go_wp2
  go_ret
  exact ⟨rfl, HB1.out⟩
set_option maxRecDepth 100000 in
theorem count_nil (a b : Int) (w : World) : Calls Try.prog 28 #[.pointer none, .agg #[.int .i64 a, .int .i64 b]] w (TPostI (.int .i64 0) w) := by
  have hu42 := Try.underlying42
  have HB0 := Aside0.mk ((Below.refl w.heap.size w).alloc (Nat.le_refl _) (.cells #[.int .i64 a, .int .i64 b] 42))
  go_enter Try.func28, Try.ntmps28
  go_wp2_with fail
  refine (span_nil a b _).mono ?_
  rintro e w1 ⟨rfl, h1⟩
  have HB1 := Aside0.mk (HB0.out.trans (h1.mono HB0.out.size))
  clear h1
  go_wp2
  go_ret
  exact ⟨rfl, HB1.out⟩
set_option maxRecDepth 100000 in
theorem get_nil (a b : Int) (w : World) : Calls Try.prog 20 #[.pointer none, .agg #[.int .i64 a, .int .i64 b]] w (TPostI (.slice none 0 0) w) := by
  have hu42 := Try.underlying42
  have HB0 := Aside0.mk ((Below.refl w.heap.size w).alloc (Nat.le_refl _) (.cells #[.int .i64 a, .int .i64 b] 42))
  go_enter Try.func20, Try.ntmps20
  go_wp2_with fail
  refine (span_nil a b _).mono ?_
  rintro e w1 ⟨rfl, h1⟩
  have HB1 := Aside0.mk (HB0.out.trans (h1.mono HB0.out.size))
  clear h1
  go_wp2
  go_ret
  exact ⟨rfl, HB1.out⟩
set_option maxRecDepth 100000 in
theorem free_nil (v : Value) (w : World) : Calls Try.prog 24 #[.pointer none, v] w (TPostI (.int .i64 0) w) := by
  have hn := nilp
  go_enter Try.func24, Try.ntmps24
  go_wp2
  go_ret
  exact ⟨rfl, Below.refl _ _⟩
set_option maxRecDepth 100000 in
theorem copy_nil (w : World) : Calls Try.prog 29 #[.pointer none] w (TPostI (.pointer none) w) := by
  have hn := nilp
  go_enter Try.func29, Try.ntmps29
  go_wp2
  go_ret
  exact ⟨rfl, Below.refl _ _⟩
set_option maxRecDepth 100000 in
set_option maxHeartbeats 8000000 in
theorem first_nil (w : World) : Calls Try.prog 25 #[.pointer none] w (TPostI (.tuple #[.agg #[.int .i64 0, .int .i64 0], .bool false]) w) := by
  have hu29 := Try.underlying29
  have HB0 := Aside0.mk ((Below.refl w.heap.size w).alloc (Nat.le_refl _) (.cells #[.int .i64 0, .int .i64 0] 29))
  go_enter Try.func25, Try.ntmps25
  go_wp2_with fail
  refine (len_nil _).mono ?_
  rintro e w1 ⟨rfl, h1⟩
  have HB1 := Aside0.mk (HB0.out.trans (h1.mono HB0.out.size))
  have hq : w1.heap[w.heap.size]? = some (.cells #[.int .i64 0, .int .i64 0] 29 (0, 0)) := (h1.block _ (by simp)).trans (blk_new w _)
  have hq1 := blk_set hq 0 (.int .i64 0)
  have hq2 := blk_set hq1 1 (.int .i64 0)
  have q0 : w1.cell? ⟨w.heap.size, 0, none⟩ = some (.int .i64 0) := blk_cell hq 0
  have x0 : w1.frozen? ⟨w.heap.size, 0, none⟩ = false := blk_frozen hq 0
  have q1 : (w1.setCell ⟨w.heap.size, 0, none⟩ (.int .i64 0)).cell? ⟨w.heap.size, 1, none⟩ = some (.int .i64 0) := blk_cell hq1 1
  have x1 : (w1.setCell ⟨w.heap.size, 0, none⟩ (.int .i64 0)).frozen? ⟨w.heap.size, 1, none⟩ = false := blk_frozen hq1 1
  have c0 : ((w1.setCell ⟨w.heap.size, 0, none⟩ (.int .i64 0)).setCell ⟨w.heap.size, 1, none⟩ (.int .i64 0)).cell? ⟨w.heap.size, 0, none⟩ = some (.int .i64 0) := blk_cell hq2 0
  have c1 : ((w1.setCell ⟨w.heap.size, 0, none⟩ (.int .i64 0)).setCell ⟨w.heap.size, 1, none⟩ (.int .i64 0)).cell? ⟨w.heap.size, 1, none⟩ = some (.int .i64 0) := blk_cell hq2 1
  have HB3 := Aside0.mk ((HB1.out.setCell (p := ⟨w.heap.size, 0, none⟩) (Nat.le_refl _) (.int .i64 0)).setCell (p := ⟨w.heap.size, 1, none⟩) (Nat.le_refl _) (.int .i64 0))
  clear h1 hq hq1 hq2
  go_wp2
  exact bodyPost_ret (v := .tuple #[.agg #[.int .i64 0, .int .i64 0], .bool false]) (by simp [results, Try.results25, go_sem, c0, c1]) rfl ⟨rfl, HB3.out⟩
set_option maxRecDepth 100000 in
set_option maxHeartbeats 8000000 in
theorem last_nil (w : World) : Calls Try.prog 26 #[.pointer none] w (TPostI (.tuple #[.agg #[.int .i64 0, .int .i64 0], .bool false]) w) := by
  have hu29 := Try.underlying29
  have HB0 := Aside0.mk ((Below.refl w.heap.size w).alloc (Nat.le_refl _) (.cells #[.int .i64 0, .int .i64 0] 29))
  go_enter Try.func26, Try.ntmps26
  go_wp2_with fail
  refine (len_nil _).mono ?_
  rintro e w1 ⟨rfl, h1⟩
  have HB1 := Aside0.mk (HB0.out.trans (h1.mono HB0.out.size))
  have hq : w1.heap[w.heap.size]? = some (.cells #[.int .i64 0, .int .i64 0] 29 (0, 0)) := (h1.block _ (by simp)).trans (blk_new w _)
  have hq1 := blk_set hq 0 (.int .i64 0)
  have hq2 := blk_set hq1 1 (.int .i64 0)
  have q0 : w1.cell? ⟨w.heap.size, 0, none⟩ = some (.int .i64 0) := blk_cell hq 0
  have x0 : w1.frozen? ⟨w.heap.size, 0, none⟩ = false := blk_frozen hq 0
  have q1 : (w1.setCell ⟨w.heap.size, 0, none⟩ (.int .i64 0)).cell? ⟨w.heap.size, 1, none⟩ = some (.int .i64 0) := blk_cell hq1 1
  have x1 : (w1.setCell ⟨w.heap.size, 0, none⟩ (.int .i64 0)).frozen? ⟨w.heap.size, 1, none⟩ = false := blk_frozen hq1 1
  have c0 : ((w1.setCell ⟨w.heap.size, 0, none⟩ (.int .i64 0)).setCell ⟨w.heap.size, 1, none⟩ (.int .i64 0)).cell? ⟨w.heap.size, 0, none⟩ = some (.int .i64 0) := blk_cell hq2 0
  have c1 : ((w1.setCell ⟨w.heap.size, 0, none⟩ (.int .i64 0)).setCell ⟨w.heap.size, 1, none⟩ (.int .i64 0)).cell? ⟨w.heap.size, 1, none⟩ = some (.int .i64 0) := blk_cell hq2 1
  have HB3 := Aside0.mk ((HB1.out.setCell (p := ⟨w.heap.size, 0, none⟩) (Nat.le_refl _) (.int .i64 0)).setCell (p := ⟨w.heap.size, 1, none⟩) (Nat.le_refl _) (.int .i64 0))
  clear h1 hq hq1 hq2
  go_wp2
  exact bodyPost_ret (v := .tuple #[.agg #[.int .i64 0, .int .i64 0], .bool false]) (by simp [results, Try.results26, go_sem, c0, c1]) rfl ⟨rfl, HB3.out⟩
end Go.Proofs.Ytnjdngjlbonieaa

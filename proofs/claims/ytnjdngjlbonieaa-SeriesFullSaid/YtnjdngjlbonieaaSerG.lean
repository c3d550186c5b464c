/- series.Len and Count, walked. -/
import Derived.Test.YtnjdngjlbonieaaSerF
import Derived.Lib.Hide
import Derived.LoopTactic
import Derived.Outline
import Derived.Laws.Rows
import Derived.Laws.CopyOwn
import Derived.WalkKit
set_option linter.unusedVariables false
set_option linter.unusedSimpArgs false
namespace Go.Proofs.Ytnjdngjlbonieaa
open Go.RowKit Go.Proofs.YtnjdngjlbonieaaW.PrintWords Go.Proofs.YtnjdngjlbonieaaW.PrintLast Go.Proofs.YtnjdngjlbonieaaW.PrintMore
open Go.Proofs.Ytnjdngjlbonieaa.PRollWindows
attribute [local go_sem] max2_int min2_int max_two min_two max_three min_three max_four min_four

open RollOfPure
set_option maxRecDepth 100000 in
set_option maxHeartbeats 8000000 in
theorem len_calls (p n ca : Nat) (A : Option Addr) (w : World) (hc : w.cell? ⟨p, 0, none⟩ = some (.slice A n ca)) :
    Calls Try.prog 22 #[.pointer (some ⟨p, 0, none⟩)] w fun e w' => e = .returned (.int .i64 (n : Int)) ∧ Below w.heap.size w w' := by
  have hu91 := Try.underlying91
  go_enter Try.func22, Try.ntmps22
  go_wp2
  go_ret
  exact ⟨rfl, Below.refl _ _⟩
def CntPost (l : List S29) (fr tt : Int) (w : World) (e : Ending) (w' : World) : Prop := ∃ i k : Nat, ((tt ≤ fr ∧ i = 0 ∧ k = 0) ∨ (fr < tt ∧ IsPos l fr i ∧ IsPos l tt k)) ∧ e = .returned (.int .i64 ((k : Int) - (i : Int))) ∧ Below w.heap.size w w'
set_option maxRecDepth 100000 in
set_option maxHeartbeats 8000000 in
theorem count_calls (p : Nat) (A : Option Addr) (ca : Nat) (l : List S29) (fr tt : Int) (hp : l.Pairwise (fun x y => x.f0 < y.f0)) (w : World) (hc : w.cell? ⟨p, 0, none⟩ = some (.slice A l.length ca)) (h : Kd.C k29 w A l.length l) (hl : l.length ≤ 1000) :
    Calls Try.prog 28 #[.pointer (some ⟨p, 0, none⟩), .agg #[.int .i64 fr, .int .i64 tt]] w (CntPost l fr tt w) := by
  have hu42 := Try.underlying42
  have hsp := fun W hc2 hC => span_calls p A ca l fr tt hp W hc2 hC hl
  have HSP := Lib.hid hsp
  have HL := Aside0.mk h
  have HC := Aside0.mk hc
  clear h hp hc hsp
  go_enter Try.func28, Try.ntmps28
  go_wp2_with fail
  refine (HSP.out _ (bread_alloc HC.out _) (Kd.C_alloc HL.out _)).mono ?_
  rintro e w1 ⟨i, k, hik, rfl, h1⟩
  have HIK := Aside0.mk hik
  have HB0 := Aside0.mk ((Below.refl w.heap.size w).alloc (Nat.le_refl _) (.cells #[.int .i64 fr, .int .i64 tt] 42))
  have HB1 := Aside0.mk (HB0.out.trans (h1.mono HB0.out.size))
  have hle : i ≤ k ∧ k ≤ l.length := by
    rcases hik with ⟨_, h1, h2⟩ | ⟨h0, h1, h2⟩
    · omega
    · exact ⟨pos_le h0 h1 h2, h2.1⟩
  have hA : wrap64 ((k : Int) - (i : Int)) = (k : Int) - (i : Int) := by unfold wrap64; omega
  clear h1 hik HB0
  go_wp2
  go_ret
  exact ⟨i, k, HIK.out, by first | rfl | (rw [← hA]; rfl) | simp, HB1.out⟩
end Go.Proofs.Ytnjdngjlbonieaa

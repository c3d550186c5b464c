/- The law SlotsTurn, whole: of any names, and any number, its walk returns true, and what was before it stays. -/
import Derived.Test.YtdbhejckpkifoaaSlotJ
import Derived.Lib.Hide
import Derived.LoopTactic
import Derived.Outline
import Derived.Laws.Rows
import Derived.Laws.CopyOwn
import Derived.WalkKit
set_option linter.unusedVariables false
set_option linter.unusedSimpArgs false
namespace Go.Proofs.Ytdbhejckpkifoaa
open Go.RowKit Go.Proofs.YtdbhejckpkifoaaW.PrintWords Go.Proofs.YtdbhejckpkifoaaW.PrintLast Go.Proofs.YtdbhejckpkifoaaW.PrintMore
open Go.Proofs.Ytdbhejckpkifoaa.PSlotsBack
attribute [local go_sem] max2_int min2_int max_two min_two max_three min_three max_four min_four

set_option maxRecDepth 100000 in
set_option maxHeartbeats 8000000 in
theorem sturn_wide (A : Option Addr) (ca k : Nat) (n : Int) (w : World) (hl : ¬ k ≤ 20) :
    Calls Try.prog 4 #[.slice A k ca, .int .u64 n] w fun e w' => e = .returned (.bool true) ∧ Below w.heap.size w w' := by
  have d1 : decide (20 < (k : Int)) = true := decide_eq_true (by omega)
  go_enter Try.func4, Try.ntmps4
  go_wp2_with fail
  refine (lives24_calls _).mono ?_
  rintro e w1 ⟨rfl, h1⟩
  have H1 := Aside0.mk h1
  clear h1
  go_wp2_with fail
  refine (lives24_calls _).mono ?_
  rintro e w2 ⟨rfl, h2⟩
  have H2 := Aside0.mk (H1.out.trans (h2.mono H1.out.size))
  clear h2
  go_wp2
  go_ret
  exact ⟨rfl, H2.out⟩
theorem wf_u64_pos {x : Int} (h : (Lit.int .u64 x).wf = true) : 0 ≤ x := by
  simp [Lit.wf, IntKind.min, IntKind.max, IntKind.bits, IntKind.signed] at h
  omega
theorem slotsTurn_walk (A0 : Option Addr) (len0 cap0 : Nat) (l0 : List ByteArray) (a1 : Int) (W : World)
    (hr0 : ReadsRow (fun (p : ByteArray) c => c = [.string p]) 1 W A0 len0 l0) (hc0 : len0 ≤ cap0) (hq0 : ∀ p ∈ l0, p.size ≤ maxLen) (w1 : (Lit.int .u64 a1).wf = true) :
    Calls Try.prog 4 #[.slice A0 len0 cap0, .int .u64 a1] W fun e w' => e = .returned (.bool true) ∧ Below W.heap.size W w' := by
  have e0 := hr0.1
  subst e0
  by_cases hl : l0.length ≤ 20
  · exact sturn_main A0 cap0 l0 a1 W hr0 hl (wf_u64_pos w1)
  · exact sturn_wide A0 cap0 l0.length a1 W hl
end Go.Proofs.Ytdbhejckpkifoaa

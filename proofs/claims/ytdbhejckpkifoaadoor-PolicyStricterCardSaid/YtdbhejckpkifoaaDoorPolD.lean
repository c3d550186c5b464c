/- The law PolicyWider, in the form that its row asks for. -/
import Derived.Test.YtdbhejckpkifoaaDoorPolC
import Derived.Lib.Hide
import Derived.LoopTactic
import Derived.Outline
import Derived.Laws.Rows
import Derived.Laws.CopyOwn
import Derived.WalkKit
set_option linter.unusedVariables false
set_option linter.unusedSimpArgs false
namespace Go.Proofs.YtdbhejckpkifoaaDoor
open Go.RowKit Go.Proofs.YtdbhejckpkifoaaDoorW.PrintWords Go.Proofs.YtdbhejckpkifoaaDoorW.PrintLast Go.Proofs.YtdbhejckpkifoaaDoorW.PrintMore
attribute [local go_sem] max2_int min2_int max_two min_two max_three min_three max_four min_four

theorem wf_i64 {x : Int} (h : (Lit.int .i64 x).wf = true) : -9223372036854775808 ≤ x ∧ x ≤ 9223372036854775807 := by
  simp [Lit.wf, IntKind.min, IntKind.max, IntKind.bits, IntKind.signed] at h
  omega
theorem policyWider_walk (a b c fr to_ now : Int) (W : World) (wa : (Lit.int .i64 a).wf = true) (wb : (Lit.int .i64 b).wf = true) (wc : (Lit.int .i64 c).wf = true) (wfr : (Lit.int .i64 fr).wf = true) (wto : (Lit.int .i64 to_).wf = true) (wn : (Lit.int .i64 now).wf = true) (hT : Tab W) :
    Calls Tryd.prog 4 #[.agg #[.int .i64 a, .int .i64 b, .int .i64 c], .agg #[.int .i64 fr, .int .i64 to_], .int .i64 now] W fun e w' => e = .returned (.bool true) ∧ Below W.heap.size W w' :=
  wider_calls a b c fr to_ now W hT (wf_i64 wn)
end Go.Proofs.YtdbhejckpkifoaaDoor

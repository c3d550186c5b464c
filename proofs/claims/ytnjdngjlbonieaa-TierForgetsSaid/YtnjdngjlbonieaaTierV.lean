/- TierForgets, as its row asks it. -/
import Derived.Test.YtnjdngjlbonieaaTierT
import Derived.Test.YtnjdngjlbonieaaTierW
import Derived.Lib.Hide
import Derived.LoopTactic
import Derived.Outline
import Derived.Laws.Rows
import Derived.Laws.CopyOwn
import Derived.WalkKit
set_option linter.unusedVariables false
set_option linter.unusedSimpArgs false
namespace Go.Proofs.Ytnjdngjlbonieaa
open Go.RowKit Go.Proofs.YtnjdngjlbonieaaW.PrintWords Go.Proofs.YtnjdngjlbonieaaW.PrintLast Go.Proofs.YtnjdngjlbonieaaW.PrintMore
open Go.Proofs.Ytnjdngjlbonieaa.PTierForgets
attribute [local go_sem] max2_int min2_int max_two min_two max_three min_three max_four min_four

theorem TierForgetsWalk.walk (A1 : Option Addr) (cap1 : Nat) (L1 : List ActT) (A2 : Option Addr) (cap2 : Nat) (L2 : List ActT) (a b c : Int) (W : World) (h1 : SrcT A1 L1 W) (h2 : SrcT A2 L2 W) (_ : (Lit.int .i64 a).wf = true) (_ : (Lit.int .i64 b).wf = true) (_ : (Lit.int .i64 c).wf = true) :
    Calls Try.prog 9 #[.slice A1 L1.length cap1, .slice A2 L2.length cap2, .agg #[.int .i64 a, .int .i64 b], .int .i64 c] W fun e w' => e = .returned (.bool true) ∧ Below W.heap.size W w' := law9_calls A1 cap1 L1 A2 cap2 L2 a b c W h1 h2
end Go.Proofs.Ytnjdngjlbonieaa

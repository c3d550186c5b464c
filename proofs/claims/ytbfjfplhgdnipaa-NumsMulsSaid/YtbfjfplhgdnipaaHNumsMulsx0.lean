-- printed by a program of this session, over callees that were proved by hand
import Derived.Test.YtbfjfplhgdnipaaProg
import Derived.Test.YtbfjfplhgdnipaaHand
import Derived.Below
import Derived.Deep.Draws
import Derived.Deep.AppendLies
import Derived.Maps.AppendAt
import Derived.OwnWalk
import Derived.Laws.BytesArg
import Derived.Laws.MakeOwn
import Derived.Laws.OwnMore
import Derived.Deep.OwnRows
import Derived.Tactics
import Derived.Lib.ConvBytes
import Derived.Laws.Slices
import Derived.WalkKit
import Derived.KernelRfl
import Derived.RowKit3
import Derived.Deep.LoopGhost
import Derived.Deep.QuietTactic
import Derived.BigQuiet
import Derived.WideLaws
import Derived.Deep.DeepCutAuto
import Derived.Deep.CutBlock
import Derived.Deep.RegionHeld3
import Derived.Laws.Rows
import Derived.Lib.AppendStr
import Derived.ArgAppend
import Derived.Laws.IdiomCopy
import Derived.OrdersHeld
import Derived.Laws.BitsLemmas
import Derived.RowKit
import Derived.Test.YtbfjfplhgdnipaaWWords
import Derived.Test.YtbfjfplhgdnipaaWLast
import Derived.Test.YtbfjfplhgdnipaaWTab
import Derived.Test.YtbfjfplhgdnipaaWFour
import Derived.Test.YtbfjfplhgdnipaaWQPut
import Derived.Test.YtbfjfplhgdnipaaWApart
import Derived.Test.YtbfjfplhgdnipaaWArr
import Derived.Test.YtbfjfplhgdnipaaWZeros
import Derived.Test.YtbfjfplhgdnipaaWFoot
import Derived.Test.YtbfjfplhgdnipaaWKept
import Derived.Test.YtbfjfplhgdnipaaWShare
import Derived.Test.YtbfjfplhgdnipaaWN
import Derived.Test.YtbfjfplhgdnipaaWFootNe
import Derived.Test.YtbfjfplhgdnipaaWAt
import Derived.Test.YtbfjfplhgdnipaaWEqStruct
import Derived.Test.YtbfjfplhgdnipaaWRepsOne
import Derived.Test.YtbfjfplhgdnipaaWInv
import Derived.Test.YtbfjfplhgdnipaaWInvWords
import Derived.Test.YtbfjfplhgdnipaaWGuard
import Derived.Test.YtbfjfplhgdnipaaWNEv
import Derived.Test.YtbfjfplhgdnipaaWMore
namespace Go.Proofs.Ytbfjfplhgdnipaa.HNumsMuls
open Go.RowKit Go.Proofs.YtbfjfplhgdnipaaW.PrintWords Go.Proofs.YtbfjfplhgdnipaaW.PrintLast Go.Proofs.YtbfjfplhgdnipaaW.PrintMore
attribute [local go_sem] max2_int min2_int max_two min_two max_three min_three max_four min_four   -- for this text's walks alone
set_option linter.unusedVariables false
set_option linter.unusedSimpArgs false



def errW : Option Int → Value
  | none => .nilIface
  | some c => .iface 0 (.int .i64 c)
theorem errW_none : errW none = .nilIface := rfl
theorem errW_some (c : Int) : errW (some c) = .iface 0 (.int .i64 c) := rfl

-- the values' own types

end Go.Proofs.Ytbfjfplhgdnipaa.HNumsMuls

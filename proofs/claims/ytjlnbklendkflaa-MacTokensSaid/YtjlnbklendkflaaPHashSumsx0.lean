-- PRINTED BY print.sh 35421559b90ae4d0a3588c463048766b98c2df88dd9212a6774a882060cdf62d: not written by this session
import Derived.Test.YtjlnbklendkflaaProg
import Derived.Below
import Derived.Deep.Draws
import Derived.Deep.AppendLies
import Derived.Maps.AppendAt
import Derived.OwnWalk
import Derived.Laws.BytesArg
import Derived.Laws.MakeOwn
import Derived.Laws.OwnMore
import Derived.Deep.OwnRows
import Derived.Tactics
import Derived.Lib.ConvBytes
import Derived.Laws.Slices
import Derived.WalkKit
import Derived.KernelRfl
import Derived.RowKit3
import Derived.Deep.LoopGhost
import Derived.Deep.QuietTactic
import Derived.BigQuiet
import Derived.WideLaws
import Derived.Deep.DeepCutAuto
import Derived.Deep.CutBlock
import Derived.Deep.RegionHeld3
import Derived.Laws.Rows
import Derived.Lib.AppendStr
import Derived.ArgAppend
import Derived.Laws.IdiomCopy
import Derived.OrdersHeld
import Derived.Laws.BitsLemmas
import Derived.RowKit
import Derived.Test.YtjlnbklendkflaaWWords
import Derived.Test.YtjlnbklendkflaaWLast
import Derived.Test.YtjlnbklendkflaaWTab
import Derived.Test.YtjlnbklendkflaaWFour
import Derived.Test.YtjlnbklendkflaaWQPut
import Derived.Test.YtjlnbklendkflaaWApart
import Derived.Test.YtjlnbklendkflaaWArr
import Derived.Test.YtjlnbklendkflaaWZeros
import Derived.Test.YtjlnbklendkflaaWFoot
import Derived.Test.YtjlnbklendkflaaWKept
import Derived.Test.YtjlnbklendkflaaWShare
import Derived.Test.YtjlnbklendkflaaWN
import Derived.Test.YtjlnbklendkflaaWFootNe
import Derived.Test.YtjlnbklendkflaaWAt
import Derived.Test.YtjlnbklendkflaaWEqStruct
import Derived.Test.YtjlnbklendkflaaWRepsOne
import Derived.Test.YtjlnbklendkflaaWInv
import Derived.Test.YtjlnbklendkflaaWInvWords
import Derived.Test.YtjlnbklendkflaaWGuard
import Derived.Test.YtjlnbklendkflaaWNEv
import Derived.Test.YtjlnbklendkflaaWMore
namespace Go.Proofs.Ytjlnbklendkflaa.PHashSums
open Go.RowKit Go.Proofs.YtjlnbklendkflaaW.PrintWords Go.Proofs.YtjlnbklendkflaaW.PrintLast Go.Proofs.YtjlnbklendkflaaW.PrintMore
attribute [local go_sem] max2_int min2_int max_two min_two max_three min_three max_four min_four   -- for this text's walks alone
set_option linter.unusedVariables false
set_option linter.unusedSimpArgs false



def errW : Option Int → Value
  | none => .nilIface
  | some c => .iface 0 (.int .i64 c)
theorem errW_none : errW none = .nilIface := rfl
theorem errW_some (c : Int) : errW (some c) = .iface 0 (.int .i64 c) := rfl

theorem info48 : (Try.prog.info? 48).map (fun i => (i.zero, i.size, i.bytes)) = some (some (.int .u64 0), 1, 8) := by kernel_rfl
-- the values' own types

end Go.Proofs.Ytjlnbklendkflaa.PHashSums

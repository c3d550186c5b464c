-- PRINTED BY print.sh 35421559b90ae4d0a3588c463048766b98c2df88dd9212a6774a882060cdf62d: not written by this session
import Derived.Test.YtdbhejckpkifoaaDoorProg
import Derived.Below
import Derived.Deep.Draws
import Derived.Deep.AppendLies
import Derived.Maps.AppendAt
import Derived.OwnWalk
import Derived.Laws.BytesArg
import Derived.Laws.MakeOwn
import Derived.Laws.OwnMore
import Derived.Deep.OwnRows
import Derived.Tactics
import Derived.Lib.ConvBytes
import Derived.Laws.Slices
import Derived.WalkKit
import Derived.KernelRfl
import Derived.RowKit3
import Derived.Deep.LoopGhost
import Derived.Deep.QuietTactic
import Derived.BigQuiet
import Derived.WideLaws
import Derived.Deep.DeepCutAuto
import Derived.Deep.CutBlock
import Derived.Deep.RegionHeld3
import Derived.Laws.Rows
import Derived.Lib.AppendStr
import Derived.ArgAppend
import Derived.Laws.IdiomCopy
import Derived.OrdersHeld
import Derived.Laws.BitsLemmas
import Derived.RowKit
import Derived.Test.YtdbhejckpkifoaaDoorWWords
import Derived.Test.YtdbhejckpkifoaaDoorWLast
import Derived.Test.YtdbhejckpkifoaaDoorWTab
import Derived.Test.YtdbhejckpkifoaaDoorWFour
import Derived.Test.YtdbhejckpkifoaaDoorWQPut
import Derived.Test.YtdbhejckpkifoaaDoorWApart
import Derived.Test.YtdbhejckpkifoaaDoorWArr
import Derived.Test.YtdbhejckpkifoaaDoorWZeros
import Derived.Test.YtdbhejckpkifoaaDoorWFoot
import Derived.Test.YtdbhejckpkifoaaDoorWKept
import Derived.Test.YtdbhejckpkifoaaDoorWShare
import Derived.Test.YtdbhejckpkifoaaDoorWN
import Derived.Test.YtdbhejckpkifoaaDoorWFootNe
import Derived.Test.YtdbhejckpkifoaaDoorWAt
import Derived.Test.YtdbhejckpkifoaaDoorWEqStruct
import Derived.Test.YtdbhejckpkifoaaDoorWRepsOne
import Derived.Test.YtdbhejckpkifoaaDoorWInv
import Derived.Test.YtdbhejckpkifoaaDoorWInvWords
import Derived.Test.YtdbhejckpkifoaaDoorWGuard
import Derived.Test.YtdbhejckpkifoaaDoorWNEv
import Derived.Test.YtdbhejckpkifoaaDoorWMore
namespace Go.Proofs.YtdbhejckpkifoaaDoor.PPolicyWider
open Go.RowKit Go.Proofs.YtdbhejckpkifoaaDoorW.PrintWords Go.Proofs.YtdbhejckpkifoaaDoorW.PrintLast Go.Proofs.YtdbhejckpkifoaaDoorW.PrintMore
attribute [local go_sem] max2_int min2_int max_two min_two max_three min_three max_four min_four   -- for this text's walks alone
set_option linter.unusedVariables false
set_option linter.unusedSimpArgs false



def errW : Option Int → Value
  | none => .nilIface
  | some c => .iface 0 (.int .i64 c)
theorem errW_none : errW none = .nilIface := rfl
theorem errW_some (c : Int) : errW (some c) = .iface 0 (.int .i64 c) := rfl

theorem info2 : (Tryd.prog.info? 2).map (fun i => (i.zero, i.size, i.bytes)) = some (some (.int .i64 0), 1, 8) := by kernel_rfl
-- the values' own types

end Go.Proofs.YtdbhejckpkifoaaDoor.PPolicyWider

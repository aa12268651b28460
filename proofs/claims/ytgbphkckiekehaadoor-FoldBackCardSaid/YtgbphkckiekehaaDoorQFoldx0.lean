-- Written by the kit's print.py at this session's call, over functions of my choice (no statement's print; not a text of print.sh)
import Derived.Test.YtgbphkckiekehaaDoorProg
import Derived.Below
import Derived.Deep.Draws
import Derived.Deep.AppendLies
import Derived.Maps.AppendAt
import Derived.OwnWalk
import Derived.Laws.BytesArg
import Derived.Laws.MakeOwn
import Derived.Laws.OwnMore
import Derived.Deep.OwnRows
import Derived.Tactics
import Derived.Lib.ConvBytes
import Derived.Laws.Slices
import Derived.WalkKit
import Derived.KernelRfl
import Derived.RowKit3
import Derived.Deep.LoopGhost
import Derived.Deep.QuietTactic
import Derived.BigQuiet
import Derived.WideLaws
import Derived.Deep.DeepCutAuto
import Derived.Deep.CutBlock
import Derived.Deep.RegionHeld3
import Derived.Laws.Rows
import Derived.Lib.AppendStr
import Derived.ArgAppend
import Derived.Laws.IdiomCopy
import Derived.OrdersHeld
import Derived.Laws.BitsLemmas
import Derived.RowKit
import Derived.Test.YtgbphkckiekehaaDoorWWords
import Derived.Test.YtgbphkckiekehaaDoorWLast
import Derived.Test.YtgbphkckiekehaaDoorWTab
import Derived.Test.YtgbphkckiekehaaDoorWFour
import Derived.Test.YtgbphkckiekehaaDoorWQPut
import Derived.Test.YtgbphkckiekehaaDoorWApart
import Derived.Test.YtgbphkckiekehaaDoorWArr
import Derived.Test.YtgbphkckiekehaaDoorWZeros
import Derived.Test.YtgbphkckiekehaaDoorWFoot
import Derived.Test.YtgbphkckiekehaaDoorWKept
import Derived.Test.YtgbphkckiekehaaDoorWShare
import Derived.Test.YtgbphkckiekehaaDoorWN
import Derived.Test.YtgbphkckiekehaaDoorWFootNe
import Derived.Test.YtgbphkckiekehaaDoorWAt
import Derived.Test.YtgbphkckiekehaaDoorWEqStruct
import Derived.Test.YtgbphkckiekehaaDoorWRepsOne
import Derived.Test.YtgbphkckiekehaaDoorWInv
import Derived.Test.YtgbphkckiekehaaDoorWInvWords
import Derived.Test.YtgbphkckiekehaaDoorWGuard
import Derived.Test.YtgbphkckiekehaaDoorWNEv
import Derived.Test.YtgbphkckiekehaaDoorWMore
namespace Go.Proofs.YtgbphkckiekehaaDoor.QFold
open Go.RowKit Go.Proofs.YtgbphkckiekehaaDoorW.PrintWords Go.Proofs.YtgbphkckiekehaaDoorW.PrintLast Go.Proofs.YtgbphkckiekehaaDoorW.PrintMore
attribute [local go_sem] max2_int min2_int max_two min_two max_three min_three max_four min_four   -- for this text's walks alone
set_option linter.unusedVariables false
set_option linter.unusedSimpArgs false



def errW : Option Int → Value
  | none => .nilIface
  | some c => .iface 0 (.int .i64 c)
theorem errW_none : errW none = .nilIface := rfl
theorem errW_some (c : Int) : errW (some c) = .iface 0 (.int .i64 c) := rfl

theorem info3 : (Tryd.prog.info? 3).map (fun i => (i.zero, i.size, i.bytes)) = some (some (.int .i64 0), 1, 8) := by kernel_rfl
theorem info5 : (Tryd.prog.info? 5).map (fun i => (i.zero, i.size, i.bytes)) = some (some (.int .u8 0), 1, 1) := by kernel_rfl
theorem info21 : (Tryd.prog.info? 21).map (fun i => (i.zero, i.size, i.bytes)) = some (some (.int .i32 0), 1, 4) := by kernel_rfl
-- the values' own types

end Go.Proofs.YtgbphkckiekehaaDoor.QFold

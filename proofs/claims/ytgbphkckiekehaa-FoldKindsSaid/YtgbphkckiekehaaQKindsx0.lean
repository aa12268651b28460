-- Written by the kit's print.py at this session's call, over functions of my choice (no statement's print; not a text of print.sh)
import Derived.Test.YtgbphkckiekehaaProg
import Derived.Below
import Derived.Deep.Draws
import Derived.Deep.AppendLies
import Derived.Maps.AppendAt
import Derived.OwnWalk
import Derived.Laws.BytesArg
import Derived.Laws.MakeOwn
import Derived.Laws.OwnMore
import Derived.Deep.OwnRows
import Derived.Tactics
import Derived.Lib.ConvBytes
import Derived.Laws.Slices
import Derived.WalkKit
import Derived.KernelRfl
import Derived.RowKit3
import Derived.Deep.LoopGhost
import Derived.Deep.QuietTactic
import Derived.BigQuiet
import Derived.WideLaws
import Derived.Deep.DeepCutAuto
import Derived.Deep.CutBlock
import Derived.Deep.RegionHeld3
import Derived.Laws.Rows
import Derived.Lib.AppendStr
import Derived.ArgAppend
import Derived.Laws.IdiomCopy
import Derived.OrdersHeld
import Derived.Laws.BitsLemmas
import Derived.RowKit
import Derived.Test.YtgbphkckiekehaaWWords
import Derived.Test.YtgbphkckiekehaaWLast
import Derived.Test.YtgbphkckiekehaaWTab
import Derived.Test.YtgbphkckiekehaaWFour
import Derived.Test.YtgbphkckiekehaaWQPut
import Derived.Test.YtgbphkckiekehaaWApart
import Derived.Test.YtgbphkckiekehaaWArr
import Derived.Test.YtgbphkckiekehaaWZeros
import Derived.Test.YtgbphkckiekehaaWFoot
import Derived.Test.YtgbphkckiekehaaWKept
import Derived.Test.YtgbphkckiekehaaWShare
import Derived.Test.YtgbphkckiekehaaWN
import Derived.Test.YtgbphkckiekehaaWFootNe
import Derived.Test.YtgbphkckiekehaaWAt
import Derived.Test.YtgbphkckiekehaaWEqStruct
import Derived.Test.YtgbphkckiekehaaWRepsOne
import Derived.Test.YtgbphkckiekehaaWInv
import Derived.Test.YtgbphkckiekehaaWInvWords
import Derived.Test.YtgbphkckiekehaaWGuard
import Derived.Test.YtgbphkckiekehaaWNEv
import Derived.Test.YtgbphkckiekehaaWMore
namespace Go.Proofs.Ytgbphkckiekehaa.QKinds
open Go.RowKit Go.Proofs.YtgbphkckiekehaaW.PrintWords Go.Proofs.YtgbphkckiekehaaW.PrintLast Go.Proofs.YtgbphkckiekehaaW.PrintMore
attribute [local go_sem] max2_int min2_int max_two min_two max_three min_three max_four min_four   -- for this text's walks alone
set_option linter.unusedVariables false
set_option linter.unusedSimpArgs false



def errW : Option Int → Value
  | none => .nilIface
  | some c => .iface 0 (.int .i64 c)
theorem errW_none : errW none = .nilIface := rfl
theorem errW_some (c : Int) : errW (some c) = .iface 0 (.int .i64 c) := rfl

theorem info5 : (Try.prog.info? 5).map (fun i => (i.zero, i.size, i.bytes)) = some (some (.int .u8 0), 1, 1) := by kernel_rfl
theorem info21 : (Try.prog.info? 21).map (fun i => (i.zero, i.size, i.bytes)) = some (some (.int .i32 0), 1, 4) := by kernel_rfl
-- the values' own types

end Go.Proofs.Ytgbphkckiekehaa.QKinds

-- Printed by a program of this session (wip/tools): not by hand, and not by the kit's print.sh
import Derived.Test.YtgppbcgbnlobbaaProg
import Derived.Below
import Derived.Deep.Draws
import Derived.Deep.AppendLies
import Derived.Maps.AppendAt
import Derived.OwnWalk
import Derived.Laws.BytesArg
import Derived.Laws.MakeOwn
import Derived.Laws.OwnMore
import Derived.Deep.OwnRows
import Derived.Tactics
import Derived.Lib.ConvBytes
import Derived.Laws.Slices
import Derived.WalkKit
import Derived.KernelRfl
import Derived.RowKit3
import Derived.Deep.LoopGhost
import Derived.Deep.QuietTactic
import Derived.BigQuiet
import Derived.WideLaws
import Derived.Deep.DeepCutAuto
import Derived.Deep.CutBlock
import Derived.Deep.RegionHeld3
import Derived.Laws.Rows
import Derived.Lib.AppendStr
import Derived.ArgAppend
import Derived.Laws.IdiomCopy
import Derived.OrdersHeld
import Derived.Laws.BitsLemmas
import Derived.RowKit
import Derived.Lib.SlBytesConst
import Derived.Test.YtgppbcgbnlobbaaRdNew
import Derived.Test.YtgppbcgbnlobbaaStr
import Derived.Test.YtgppbcgbnlobbaaWWords
import Derived.Test.YtgppbcgbnlobbaaWLast
import Derived.Test.YtgppbcgbnlobbaaWTab
import Derived.Test.YtgppbcgbnlobbaaWFour
import Derived.Test.YtgppbcgbnlobbaaWQPut
import Derived.Test.YtgppbcgbnlobbaaWApart
import Derived.Test.YtgppbcgbnlobbaaWArr
import Derived.Test.YtgppbcgbnlobbaaWZeros
import Derived.Test.YtgppbcgbnlobbaaWFoot
import Derived.Test.YtgppbcgbnlobbaaWKept
import Derived.Test.YtgppbcgbnlobbaaWShare
import Derived.Test.YtgppbcgbnlobbaaWN
import Derived.Test.YtgppbcgbnlobbaaWFootNe
import Derived.Test.YtgppbcgbnlobbaaWAt
import Derived.Test.YtgppbcgbnlobbaaWEqStruct
import Derived.Test.YtgppbcgbnlobbaaWRepsOne
import Derived.Test.YtgppbcgbnlobbaaWInv
import Derived.Test.YtgppbcgbnlobbaaWInvWords
import Derived.Test.YtgppbcgbnlobbaaWGuard
import Derived.Test.YtgppbcgbnlobbaaWNEv
import Derived.Test.YtgppbcgbnlobbaaWMore
namespace Go.Proofs.Ytgppbcgbnlobbaa.QF
open Go.RowKit Go.Proofs.YtgppbcgbnlobbaaW.PrintWords Go.Proofs.YtgppbcgbnlobbaaW.PrintLast Go.Proofs.YtgppbcgbnlobbaaW.PrintMore
attribute [local go_sem] max2_int min2_int max_two min_two max_three min_three max_four min_four   -- for this text's walks alone
set_option linter.unusedVariables false
set_option linter.unusedSimpArgs false



def errW : Option Int → Value
  | none => .nilIface
  | some c => .iface 0 (.int .i64 c)
theorem errW_none : errW none = .nilIface := rfl
theorem errW_some (c : Int) : errW (some c) = .iface 0 (.int .i64 c) := rfl

theorem info3 : (Try.prog.info? 3).map (fun i => (i.zero, i.size, i.bytes)) = some (some (.int .i64 0), 1, 8) := by kernel_rfl
theorem info5 : (Try.prog.info? 5).map (fun i => (i.zero, i.size, i.bytes)) = some (some (.int .u8 0), 1, 1) := by kernel_rfl
-- the values' own types

end Go.Proofs.Ytgppbcgbnlobbaa.QF

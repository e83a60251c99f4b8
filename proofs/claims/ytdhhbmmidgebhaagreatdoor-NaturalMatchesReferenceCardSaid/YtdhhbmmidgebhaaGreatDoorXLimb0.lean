/- Written by a program of this session (xprint.sh), out of the translation: Lean functions that tell what Go functions of the program tell, and the proofs that they do, over the given callees; no condition but what each theorem states. -/
import Derived.Test.YtdhhbmmidgebhaaGreatDoorProg
import Derived.Below
import Derived.Deep.Draws
import Derived.Deep.AppendLies
import Derived.Maps.AppendAt
import Derived.OwnWalk
import Derived.Laws.BytesArg
import Derived.Laws.MakeOwn
import Derived.Laws.OwnMore
import Derived.Deep.OwnRows
import Derived.Tactics
import Derived.Lib.ConvBytes
import Derived.Laws.Slices
import Derived.WalkKit
import Derived.KernelRfl
import Derived.RowKit3
import Derived.Deep.LoopGhost
import Derived.Deep.QuietTactic
import Derived.BigQuiet
import Derived.WideLaws
import Derived.Deep.DeepCutAuto
import Derived.Deep.CutBlock
import Derived.Deep.RegionHeld3
import Derived.Laws.Rows
import Derived.Lib.AppendStr
import Derived.ArgAppend
import Derived.Laws.IdiomCopy
import Derived.OrdersHeld
import Derived.Laws.BitsLemmas
import Derived.RowKit
import Derived.Test.YtdhhbmmidgebhaaGreatDoorNatOps
import Derived.Test.YtdhhbmmidgebhaaGreatDoorWWords
import Derived.Test.YtdhhbmmidgebhaaGreatDoorWLast
import Derived.Test.YtdhhbmmidgebhaaGreatDoorWTab
import Derived.Test.YtdhhbmmidgebhaaGreatDoorWFour
import Derived.Test.YtdhhbmmidgebhaaGreatDoorWQPut
import Derived.Test.YtdhhbmmidgebhaaGreatDoorWApart
import Derived.Test.YtdhhbmmidgebhaaGreatDoorWArr
import Derived.Test.YtdhhbmmidgebhaaGreatDoorWZeros
import Derived.Test.YtdhhbmmidgebhaaGreatDoorWFoot
import Derived.Test.YtdhhbmmidgebhaaGreatDoorWKept
import Derived.Test.YtdhhbmmidgebhaaGreatDoorWShare
import Derived.Test.YtdhhbmmidgebhaaGreatDoorWN
import Derived.Test.YtdhhbmmidgebhaaGreatDoorWFootNe
import Derived.Test.YtdhhbmmidgebhaaGreatDoorWAt
import Derived.Test.YtdhhbmmidgebhaaGreatDoorWEqStruct
import Derived.Test.YtdhhbmmidgebhaaGreatDoorWRepsOne
import Derived.Test.YtdhhbmmidgebhaaGreatDoorWInv
import Derived.Test.YtdhhbmmidgebhaaGreatDoorWInvWords
import Derived.Test.YtdhhbmmidgebhaaGreatDoorWGuard
import Derived.Test.YtdhhbmmidgebhaaGreatDoorWNEv
import Derived.Test.YtdhhbmmidgebhaaGreatDoorWMore
namespace Go.Proofs.YtdhhbmmidgebhaaGreatDoor.XLimb
open Go.RowKit Go.Proofs.YtdhhbmmidgebhaaGreatDoorW.PrintWords Go.Proofs.YtdhhbmmidgebhaaGreatDoorW.PrintLast Go.Proofs.YtdhhbmmidgebhaaGreatDoorW.PrintMore
attribute [local go_sem] max2_int min2_int max_two min_two max_three min_three max_four min_four   -- for this text's walks alone
set_option linter.unusedVariables false
set_option linter.unusedSimpArgs false



def errW : Option Int → Value
  | none => .nilIface
  | some c => .iface 0 (.int .i64 c)
theorem errW_none : errW none = .nilIface := rfl
theorem errW_some (c : Int) : errW (some c) = .iface 0 (.int .i64 c) := rfl

theorem info3 : (Tryz.prog.info? 3).map (fun i => (i.zero, i.size, i.bytes)) = some (some (.int .i64 0), 1, 8) := by kernel_rfl
-- the values' own types

end Go.Proofs.YtdhhbmmidgebhaaGreatDoor.XLimb

/- The texts of this claim, laid together by a program of this session (bundle.py). -/
import Derived.Test.YtmapgmibbceooaaGreatDoorBSpl1
import Derived.Test.YtmapgmibbceooaaGreatDoorProg
import Derived.Below
import Derived.Deep.Draws
import Derived.Deep.AppendLies
import Derived.Maps.AppendAt
import Derived.OwnWalk
import Derived.Laws.BytesArg
import Derived.Laws.MakeOwn
import Derived.Laws.OwnMore
import Derived.Deep.OwnRows
import Derived.Tactics
import Derived.Lib.ConvBytes
import Derived.Laws.Slices
import Derived.WalkKit
import Derived.KernelRfl
import Derived.RowKit3
import Derived.Deep.LoopGhost
import Derived.Deep.QuietTactic
import Derived.BigQuiet
import Derived.WideLaws
import Derived.Deep.DeepCutAuto
import Derived.Deep.CutBlock
import Derived.Deep.RegionHeld3
import Derived.Laws.Rows
import Derived.Lib.AppendStr
import Derived.ArgAppend
import Derived.Laws.IdiomCopy
import Derived.OrdersHeld
import Derived.Laws.BitsLemmas
import Derived.RowKit
section -- XRef0
/- Written by a program of this session (xprint.sh), out of the translation: Lean functions that tell what Go functions of the program tell, and the proofs that they do, over the given callees; no condition but what each theorem states. -/
namespace Go.Proofs.YtmapgmibbceooaaGreatDoor.XRef
open Go.RowKit Go.Proofs.YtmapgmibbceooaaGreatDoorW.PrintWords Go.Proofs.YtmapgmibbceooaaGreatDoorW.PrintLast Go.Proofs.YtmapgmibbceooaaGreatDoorW.PrintMore
attribute [local go_sem] max2_int min2_int max_two min_two max_three min_three max_four min_four   -- for this text's walks alone
set_option linter.unusedVariables false
set_option linter.unusedSimpArgs false
def errW : Option Int → Value
  | none => .nilIface
  | some c => .iface 0 (.int .i64 c)
theorem errW_none : errW none = .nilIface := rfl
theorem errW_some (c : Int) : errW (some c) = .iface 0 (.int .i64 c) := rfl
end Go.Proofs.YtmapgmibbceooaaGreatDoor.XRef
end

/- The texts of this claim, laid together by a program of this session (bundle.py). -/
import Derived.Test.YtmapgmibbceooaaGreatDoorBSpl1
import Derived.Test.YtmapgmibbceooaaGreatDoorBSpl15
import Derived.Test.YtmapgmibbceooaaGreatDoorBSpl19
import Derived.Test.YtmapgmibbceooaaGreatDoorProg
import Derived.Below
import Derived.Deep.Draws
import Derived.Deep.AppendLies
import Derived.Maps.AppendAt
import Derived.OwnWalk
import Derived.Laws.BytesArg
import Derived.Laws.MakeOwn
import Derived.Laws.OwnMore
import Derived.Deep.OwnRows
import Derived.Tactics
import Derived.Lib.ConvBytes
import Derived.Laws.Slices
import Derived.WalkKit
import Derived.KernelRfl
import Derived.RowKit3
import Derived.Deep.LoopGhost
import Derived.Deep.QuietTactic
import Derived.BigQuiet
import Derived.WideLaws
import Derived.Deep.DeepCutAuto
import Derived.Deep.CutBlock
import Derived.Deep.RegionHeld3
import Derived.Laws.Rows
import Derived.Lib.AppendStr
import Derived.ArgAppend
import Derived.Laws.IdiomCopy
import Derived.OrdersHeld
import Derived.Laws.BitsLemmas
import Derived.RowKit
section -- NatRefA
namespace Go.Proofs.YtmapgmibbceooaaGreatDoor
open Go.RowKit Go.Proofs.YtmapgmibbceooaaGreatDoorW.PrintWords Go.Proofs.YtmapgmibbceooaaGreatDoorW.PrintMore Go.Proofs.YtmapgmibbceooaaGreatDoorW.PrintLast
open Go.Lib (decDigits)
set_option linter.unusedVariables false
set_option linter.unusedSimpArgs false
def dv : List Int → Int
  | [] => 0
  | x :: r => x + 10 * dv r
def Dg (l : List Int) : Prop := ∀ x ∈ l, 0 ≤ x ∧ x < 10
theorem Dg.tail {x : Int} {l : List Int} (h : Dg (x :: l)) : Dg l := fun y hy => h y (List.mem_cons_of_mem _ hy)
theorem Dg.cons {x : Int} {l : List Int} (h0 : 0 ≤ x) (h1 : x < 10) (h : Dg l) : Dg (x :: l) := by
  intro y hy
  rcases List.mem_cons.1 hy with rfl | hy
  · exact ⟨h0, h1⟩
  · exact h y hy
theorem Dg.append {a b : List Int} (ha : Dg a) (hb : Dg b) : Dg (a ++ b) := fun x hx => (List.mem_append.1 hx).elim (ha x) (hb x)
/-- The bytes that text lays: the last digit comes first. -/
def bytesOf (l : List Int) : List UInt8 := (l.map fun x => UInt8.ofNat (x + 48).toNat).reverse
def dsL (l : List UInt8) : List Int := l.reverse.map fun c => ((c.toNat - 48 : Nat) : Int)
def ds (a : ByteArray) : List Int := dsL a.data.toList
end Go.Proofs.YtmapgmibbceooaaGreatDoor
end
section -- XRefd0
/- Written by a program of this session (xprint.sh), out of the translation: Lean functions that tell what Go functions of the program tell, and the proofs that they do, over the given callees; no condition but what each theorem states. -/
namespace Go.Proofs.YtmapgmibbceooaaGreatDoor.XRefd
open Go.RowKit Go.Proofs.YtmapgmibbceooaaGreatDoorW.PrintWords Go.Proofs.YtmapgmibbceooaaGreatDoorW.PrintLast Go.Proofs.YtmapgmibbceooaaGreatDoorW.PrintMore
attribute [local go_sem] max2_int min2_int max_two min_two max_three min_three max_four min_four   -- for this text's walks alone
set_option linter.unusedVariables false
set_option linter.unusedSimpArgs false
def errW : Option Int → Value
  | none => .nilIface
  | some c => .iface 0 (.int .i64 c)
theorem errW_none : errW none = .nilIface := rfl
theorem errW_some (c : Int) : errW (some c) = .iface 0 (.int .i64 c) := rfl
end Go.Proofs.YtmapgmibbceooaaGreatDoor.XRefd
end

/- The texts of this claim, laid together by a program of this session (bundle.py). -/
import Derived.Test.YthpomhboogcigaaGreatDoorBLOr1
section -- WStep
namespace Go.Proofs.YthpomhboogcigaaGreatDoor
open Go.RowKit Go.Proofs.YthpomhboogcigaaGreatDoorW.PrintWords
class Later (w W : World) : Prop where
  below : Below w.heap.size w W
instance (w : World) : Later w w := ⟨Below.refl _ _⟩
instance (w W : World) (o : Obj) [h : Later w W] : Later w (W.alloc o) := ⟨below_alloc h.below o⟩
instance (w W : World) (n : Nat) [h : Later w W] : Later w (W.drewN n) := ⟨pw_below_drewN h.below n⟩
instance (w W : World) [h : Later w W] : Later w W.drew := ⟨below_drew1 h.below⟩
theorem RK {α : Type} {d : Kd α} {e : Nat} {w w1 : World} {base : Nat} {ok : Nat → Prop} {v : Value} {xs : List α} [l : Later w w1] (h : d.R e w base ok v xs) : d.R e w1 base ok v xs := Kd.R_below h l.below
theorem BK {w W w1 : World} [l : Later W w1] (h : Below w.heap.size w W) : Below w.heap.size w w1 := below_step h l.below
theorem CK {α : Type} {d : Kd α} {w w1 : World} {A : Option Addr} {n : Nat} {xs : List α} [l : Later w w1] (h : d.C w A n xs) : d.C w1 A n xs := Kd.C_below h l.below
end Go.Proofs.YthpomhboogcigaaGreatDoor
end

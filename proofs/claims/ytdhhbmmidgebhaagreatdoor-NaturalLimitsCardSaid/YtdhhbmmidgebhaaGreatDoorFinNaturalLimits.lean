/- The law NaturalLimits: both tell the same plain functions. -/
import Derived.Test.YtdhhbmmidgebhaaGreatDoorXLim1
namespace Go.Proofs.YtdhhbmmidgebhaaGreatDoor
open Go.RowKit Go.Proofs.YtdhhbmmidgebhaaGreatDoorW.PrintWords Go.Proofs.YtdhhbmmidgebhaaGreatDoorW.PrintMore Go.Proofs.YtdhhbmmidgebhaaGreatDoorW.PrintLast
set_option linter.unusedVariables false
set_option linter.unusedSimpArgs false

theorem few1 (a : ByteArray) : observatorylaw03_few.f [a] = some (decide (a.size ≤ 80)) := by
  unfold observatorylaw03_few.f
  rw [if_pos (by simp)]
  simp
theorem limits_j0 (k : Nat) (a b : ByteArray) (x : Bool) : XLim.observatorylaw03_NaturalLimits.j0 (k + 1) a b true x = some true := by
  simp only [XLim.observatorylaw03_NaturalLimits.j0]
  cases x
  case true => rfl
  rw [if_neg (by decide)]
  simp only [Option.bind_some, natural_Add.f, natural_Sub.f, natural_Mul.f, natural_Compare.f, observatoryref03_Add.f, observatoryref03_Sub.f, observatoryref03_Mul.f, observatoryref03_Compare.f, if_true, beq_self_eq_true]
theorem pureNaturalLimits : XLim.observatorylaw03_NaturalLimits.Pure := by
  intro a b _ _
  refine ⟨98 + 1, ?_⟩
  unfold XLim.observatorylaw03_NaturalLimits.f observatorylaw03_head.f
  simp only [Option.bind_some, few1, limits_j0, ite_self]
theorem finNaturalLimits (a0 a1 : ByteArray) (w : World) (hL : Laid w) (w0 : a0.size ≤ 140737488351232) (w1 : a1.size ≤ 140737488351232) :
    Calls Tryz.prog 4 #[.string a0, .string a1] w fun e w' => e = .returned (.bool true) ∧ Below w.heap.size w w' :=
  XLim.observatorylaw03_NaturalLimits.walk pureNaturalLimits a0 a1 w hL w0 w1
end Go.Proofs.YtdhhbmmidgebhaaGreatDoor

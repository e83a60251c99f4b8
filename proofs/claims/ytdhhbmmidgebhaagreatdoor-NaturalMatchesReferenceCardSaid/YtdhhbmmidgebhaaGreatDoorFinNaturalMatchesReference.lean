/- The law NaturalMatchesReference: both tell the same plain functions. -/
import Derived.OpenShut
import Derived.Test.YtdhhbmmidgebhaaGreatDoorXMat1
namespace Go.Proofs.YtdhhbmmidgebhaaGreatDoor
open Go.RowKit Go.Proofs.YtdhhbmmidgebhaaGreatDoorW.PrintWords Go.Proofs.YtdhhbmmidgebhaaGreatDoorW.PrintMore Go.Proofs.YtdhhbmmidgebhaaGreatDoorW.PrintLast
set_option linter.unusedVariables false
set_option linter.unusedSimpArgs false

theorem pureNaturalMatchesReference : XMat.observatorylaw03_NaturalMatchesReference.Pure := by
  intro a b n _ _ hn
  have hn' : n ≤ 9223372036854775807 := (bounds_i64 hn).2
  refine ⟨98 + 1 + 1, ?_⟩
  unfold XMat.observatorylaw03_NaturalMatchesReference.f observatorylaw03_head.f
  simp only [Option.bind_some, few2, natural_Add.f, natural_Sub.f, natural_Mul.f, observatoryref03_Add.f, observatoryref03_Sub.f, observatoryref03_Mul.f]
  by_cases hf : (decide (a.size ≤ 80) && decide (b.size ≤ 80)) = true
  case neg => rw [if_neg hf]
  rw [if_pos hf]
  simp only [if_true, beq_self_eq_true, XMat.observatorylaw03_NaturalMatchesReference.j0, XMat.observatorylaw03_NaturalMatchesReference.j1, Option.bind_some, natural_Div.f, natural_Gcd.f, natural_Int.f, natural_Valid.f, natural_Compare.f,
    observatoryref03_Div.f, observatoryref03_Gcd.f, observatoryref03_Int.f, observatoryref03_Valid.f, observatoryref03_Compare.f]
  rw [show natural_Of.f n = some (ofS n) from if_pos hn', show observatoryref03_Of.f n = some (ofS n) from if_pos hn']
  simp only [Option.bind_some, if_true]
theorem finNaturalMatchesReference (a0 a1 : ByteArray) (a2 : Int) (w : World) (hL : Laid w) (w0 : a0.size ≤ 140737488351232) (w1 : a1.size ≤ 140737488351232) (w2 : (Lit.int .i64 a2).wf = true) :
    Calls Tryz.prog 3 #[.string a0, .string a1, .int .i64 a2] w fun e w' => e = .returned (.bool true) ∧ Below w.heap.size w w' :=
  XMat.observatorylaw03_NaturalMatchesReference.walk pureNaturalMatchesReference a0 a1 a2 w hL w0 w1 w2
end Go.Proofs.YtdhhbmmidgebhaaGreatDoor

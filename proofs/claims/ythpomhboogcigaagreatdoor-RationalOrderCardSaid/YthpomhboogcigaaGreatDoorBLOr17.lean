/- The texts of this claim, laid together by a program of this session (bundle.py). -/
import Derived.Test.YthpomhboogcigaaGreatDoorProg
import Derived.Lib.SmallJoins
import Derived.WalkKit
import Derived.ProofKit
import Derived.OpenShut
import Derived.ShutString
section -- RatRow
namespace Go.Proofs.YthpomhboogcigaaGreatDoor
open Go.ChangeShapes Go.WideShapes Go.ChangeAt Go.RowKit
open Go.Joins
set_option linter.unusedVariables false
set_option maxRecDepth 100000 in
theorem open_rat {H : Type} {enc : TypeId × Value → H} {w : World} {base : Nat} {spare : Nat → Bool} {held : Bool} {r : Reach} {b0 : Nat} {v : Value} {d : DataW H} {p : List MemPlace} (hv : Value.okWide Tryz.prog w r b0 24 v) (h : DataW.Trod enc Tryz.prog w base spare held 24 v d p) :
    ∃ (a : Bool) (b c : ByteArray), v = .agg #[.bool a, .string b, .string c] ∧ d = .agg [.lit (.bool a), .lit (.string b.data.toList), .lit (.string c.data.toList)] ∧ p = [] ∧ b.size ≤ maxLen ∧ c.size ≤ maxLen := by
  obtain ⟨c0, c1, c2, y0, y1, y2, m, rfl, rfl, rfl, hy0, hy1, hy2⟩ := open_agg3 Tryz.underlying24 (by kernel_rfl) (by kernel_rfl) hv h
  obtain ⟨a, e0, rfl⟩ := DataW.trod_bool Tryz.underlying4 hy0
  obtain ⟨b, e1, rfl, wb⟩ := DataW.trod_string Tryz.underlying22 hy1
  obtain ⟨c, e2, rfl, wc⟩ := DataW.trod_string Tryz.underlying22 hy2
  simp only [List.cons.injEq, and_true] at e0 e1 e2
  subst e0 e1 e2
  exact ⟨a, b, c, rfl, rfl, rfl, wb, wc⟩
set_option maxRecDepth 100000 in
theorem shut_rat {H : Type} {enc : TypeId × Value → H} {w : World} {base : Nat} {spare : Nat → Bool} {held : Bool} {a : Bool} {b c : ByteArray} (hb : b.size ≤ maxLen) (hc : c.size ≤ maxLen) :
    DataW.Trod enc Tryz.prog w base spare held 24 (.agg #[.bool a, .string b, .string c]) (.agg [.lit (.bool a), .lit (.string b.data.toList), .lit (.string c.data.toList)]) [] :=
  shut_agg3 (v0 := .bool a) (v1 := .string b) (v2 := .string c) (y0 := (.lit (.bool a), [])) (y1 := (.lit (.string b.data.toList), [])) (y2 := (.lit (.string c.data.toList), [])) Tryz.underlying24 (by kernel_rfl) (by kernel_rfl)
    ⟨1, by simp [DataW.trod, Tryz.underlying4]⟩ ⟨1, by simp [DataW.trod, Tryz.underlying22, hb]⟩ ⟨1, by simp [DataW.trod, Tryz.underlying22, hc]⟩
end Go.Proofs.YthpomhboogcigaaGreatDoor
end

/- head of observatorylaw03: the chapter's examples are as they should be. -/
import Derived.Test.YtdhhbmmidgebhaaGreatDoorNatZ
import Derived.KernelRfl
namespace Go.Proofs.YtdhhbmmidgebhaaGreatDoor
open Go.RowKit Go.Proofs.YtdhhbmmidgebhaaGreatDoorW.PrintWords Go.Proofs.YtdhhbmmidgebhaaGreatDoorW.PrintMore Go.Proofs.YtdhhbmmidgebhaaGreatDoorW.PrintLast
set_option linter.unusedVariables false
set_option linter.unusedSimpArgs false

def observatorylaw03_head.f : Option Bool := some true
theorem head0 (w : World) (hL : Laid w) : Calls Tryz.prog 7 #[.string ⟨#[57, 57, 57]⟩, .string ⟨#[49]⟩] w fun e w' => e = .returned (.tuple #[.string ⟨#[49, 48, 48, 48]⟩, .int .i64 (0)]) ∧ Below w.heap.size w w' :=
  natural_Add.calls ⟨#[57, 57, 57]⟩ ⟨#[49]⟩ ⟨#[49, 48, 48, 48]⟩ (0) w hL (show natural_Add.f ⟨#[57, 57, 57]⟩ ⟨#[49]⟩ = some (⟨#[49, 48, 48, 48]⟩, (0)) by kernel_rfl)
theorem head1 (w : World) (hL : Laid w) : Calls Tryz.prog 9 #[.string ⟨#[49, 48, 48, 48]⟩, .string ⟨#[49]⟩] w fun e w' => e = .returned (.tuple #[.string ⟨#[57, 57, 57]⟩, .int .i64 (0)]) ∧ Below w.heap.size w w' :=
  natural_Sub.calls ⟨#[49, 48, 48, 48]⟩ ⟨#[49]⟩ ⟨#[57, 57, 57]⟩ (0) w hL (show natural_Sub.f ⟨#[49, 48, 48, 48]⟩ ⟨#[49]⟩ = some (⟨#[57, 57, 57]⟩, (0)) by kernel_rfl)
theorem head2 (w : World) (hL : Laid w) : Calls Tryz.prog 9 #[.string ⟨#[49]⟩, .string ⟨#[50]⟩] w fun e w' => e = .returned (.tuple #[.string ⟨#[]⟩, .int .i64 (9)]) ∧ Below w.heap.size w w' :=
  natural_Sub.calls ⟨#[49]⟩ ⟨#[50]⟩ ⟨#[]⟩ (9) w hL (show natural_Sub.f ⟨#[49]⟩ ⟨#[50]⟩ = some (⟨#[]⟩, (9)) by kernel_rfl)
theorem head3 (w : World) (hL : Laid w) : Calls Tryz.prog 11 #[.string ⟨#[49, 50, 51, 52, 53, 54, 55, 56, 57, 48, 49, 50, 51, 52, 53, 54, 55, 56, 57, 48]⟩, .string ⟨#[49, 48]⟩] w fun e w' => e = .returned (.tuple #[.string ⟨#[49, 50, 51, 52, 53, 54, 55, 56, 57, 48, 49, 50, 51, 52, 53, 54, 55, 56, 57, 48, 48]⟩, .int .i64 (0)]) ∧ Below w.heap.size w w' :=
  natural_Mul.calls ⟨#[49, 50, 51, 52, 53, 54, 55, 56, 57, 48, 49, 50, 51, 52, 53, 54, 55, 56, 57, 48]⟩ ⟨#[49, 48]⟩ ⟨#[49, 50, 51, 52, 53, 54, 55, 56, 57, 48, 49, 50, 51, 52, 53, 54, 55, 56, 57, 48, 48]⟩ (0) w hL (show natural_Mul.f ⟨#[49, 50, 51, 52, 53, 54, 55, 56, 57, 48, 49, 50, 51, 52, 53, 54, 55, 56, 57, 48]⟩ ⟨#[49, 48]⟩ = some (⟨#[49, 50, 51, 52, 53, 54, 55, 56, 57, 48, 49, 50, 51, 52, 53, 54, 55, 56, 57, 48, 48]⟩, (0)) by kernel_rfl)
theorem head4 (w : World) (hL : Laid w) : Calls Tryz.prog 13 #[.string ⟨#[49, 48, 48, 48]⟩, .string ⟨#[55]⟩] w fun e w' => e = .returned (.tuple #[.string ⟨#[49, 52, 50]⟩, .string ⟨#[54]⟩, .int .i64 (0)]) ∧ Below w.heap.size w w' :=
  natural_Div.calls ⟨#[49, 48, 48, 48]⟩ ⟨#[55]⟩ ⟨#[49, 52, 50]⟩ ⟨#[54]⟩ (0) w hL (show natural_Div.f ⟨#[49, 48, 48, 48]⟩ ⟨#[55]⟩ = some (⟨#[49, 52, 50]⟩, ⟨#[54]⟩, (0)) by kernel_rfl)
theorem head5 (w : World) (hL : Laid w) : Calls Tryz.prog 13 #[.string ⟨#[55]⟩, .string ⟨#[48]⟩] w fun e w' => e = .returned (.tuple #[.string ⟨#[]⟩, .string ⟨#[]⟩, .int .i64 (14)]) ∧ Below w.heap.size w w' :=
  natural_Div.calls ⟨#[55]⟩ ⟨#[48]⟩ ⟨#[]⟩ ⟨#[]⟩ (14) w hL (show natural_Div.f ⟨#[55]⟩ ⟨#[48]⟩ = some (⟨#[]⟩, ⟨#[]⟩, (14)) by kernel_rfl)
theorem head6 (w : World) (hL : Laid w) : Calls Tryz.prog 15 #[.string ⟨#[49, 50]⟩, .string ⟨#[49, 56]⟩] w fun e w' => e = .returned (.tuple #[.string ⟨#[54]⟩, .int .i64 (0)]) ∧ Below w.heap.size w w' :=
  natural_Gcd.calls ⟨#[49, 50]⟩ ⟨#[49, 56]⟩ ⟨#[54]⟩ (0) w hL (show natural_Gcd.f ⟨#[49, 50]⟩ ⟨#[49, 56]⟩ = some (⟨#[54]⟩, (0)) by kernel_rfl)
theorem head7 (w : World) (hL : Laid w) : Calls Tryz.prog 15 #[.string ⟨#[48]⟩, .string ⟨#[53]⟩] w fun e w' => e = .returned (.tuple #[.string ⟨#[53]⟩, .int .i64 (0)]) ∧ Below w.heap.size w w' :=
  natural_Gcd.calls ⟨#[48]⟩ ⟨#[53]⟩ ⟨#[53]⟩ (0) w hL (show natural_Gcd.f ⟨#[48]⟩ ⟨#[53]⟩ = some (⟨#[53]⟩, (0)) by kernel_rfl)
theorem head8 (w : World) (hL : Laid w) : Calls Tryz.prog 17 #[.int .i64 (-1)] w fun e w' => e = .returned (.tuple #[.string ⟨#[]⟩, .int .i64 (9)]) ∧ Below w.heap.size w w' :=
  natural_Of.calls (-1) ⟨#[]⟩ (9) w hL (show natural_Of.f (-1) = some (⟨#[]⟩, (9)) by kernel_rfl)
theorem head9 (w : World) (hL : Laid w) : Calls Tryz.prog 19 #[.string ⟨#[49, 48, 48, 48, 48, 48, 48, 48, 48, 48, 48, 48, 49]⟩] w fun e w' => e = .returned (.tuple #[.int .i64 (0), .int .i64 (9)]) ∧ Below w.heap.size w w' :=
  natural_Int.calls ⟨#[49, 48, 48, 48, 48, 48, 48, 48, 48, 48, 48, 48, 49]⟩ (0) (9) w hL (show natural_Int.f ⟨#[49, 48, 48, 48, 48, 48, 48, 48, 48, 48, 48, 48, 49]⟩ = some ((0), (9)) by kernel_rfl)
theorem head10 (w : World) (hL : Laid w) : Calls Tryz.prog 19 #[.string ⟨#[48, 48, 55]⟩] w fun e w' => e = .returned (.tuple #[.int .i64 (0), .int .i64 (1)]) ∧ Below w.heap.size w w' :=
  natural_Int.calls ⟨#[48, 48, 55]⟩ (0) (1) w hL (show natural_Int.f ⟨#[48, 48, 55]⟩ = some ((0), (1)) by kernel_rfl)
theorem head11 (w : World) (hL : Laid w) : Calls Tryz.prog 23 #[.string ⟨#[57]⟩, .string ⟨#[49, 48]⟩] w fun e w' => e = .returned (.int .i64 (-1)) ∧ Below w.heap.size w w' :=
  natural_Compare.calls ⟨#[57]⟩ ⟨#[49, 48]⟩ (-1) w hL (show natural_Compare.f ⟨#[57]⟩ ⟨#[49, 48]⟩ = some (-1) by kernel_rfl)
theorem head12 (w : World) (hL : Laid w) : Calls Tryz.prog 23 #[.string ⟨#[48, 55]⟩, .string ⟨#[56]⟩] w fun e w' => e = .returned (.int .i64 (0)) ∧ Below w.heap.size w w' :=
  natural_Compare.calls ⟨#[48, 55]⟩ ⟨#[56]⟩ (0) w hL (show natural_Compare.f ⟨#[48, 55]⟩ ⟨#[56]⟩ = some (0) by kernel_rfl)
set_option maxHeartbeats 4000000 in
set_option maxRecDepth 100000 in
theorem observatorylaw03_head.calls (r : Bool) (w : World) (hL : Laid w) (h : observatorylaw03_head.f = some r) :
    Calls Tryz.prog 5 #[] w fun e w' => e = .returned (.bool r) ∧ Below w.heap.size w w' := by
  injection h with h
  subst h
  have HL := Lib.hid hL
  have HB0 := Aside0.mk (Below.refl w.heap.size w)
  clear hL
  go_enter Tryz.func5, Tryz.ntmps5
  go_wp2_with fail
  refine (head0 _ (HL.out.below HB0.out)).mono ?_
  rintro e w1 ⟨rfl, hb⟩
  have HB1 := Aside0.mk (below_step HB0.out hb)
  clear hb
  go_wp2_with fail
  refine (head1 _ (HL.out.below HB1.out)).mono ?_
  rintro e w2 ⟨rfl, hb⟩
  have HB2 := Aside0.mk (below_step HB1.out hb)
  clear hb
  go_wp2_with fail
  refine (head2 _ (HL.out.below HB2.out)).mono ?_
  rintro e w3 ⟨rfl, hb⟩
  have HB3 := Aside0.mk (below_step HB2.out hb)
  clear hb
  go_wp2_with fail
  refine (head3 _ (HL.out.below HB3.out)).mono ?_
  rintro e w4 ⟨rfl, hb⟩
  have HB4 := Aside0.mk (below_step HB3.out hb)
  clear hb
  go_wp2_with fail
  refine (head4 _ (HL.out.below HB4.out)).mono ?_
  rintro e w5 ⟨rfl, hb⟩
  have HB5 := Aside0.mk (below_step HB4.out hb)
  clear hb
  go_wp2_with fail
  refine (head5 _ (HL.out.below HB5.out)).mono ?_
  rintro e w6 ⟨rfl, hb⟩
  have HB6 := Aside0.mk (below_step HB5.out hb)
  clear hb
  go_wp2_with fail
  refine (head6 _ (HL.out.below HB6.out)).mono ?_
  rintro e w7 ⟨rfl, hb⟩
  have HB7 := Aside0.mk (below_step HB6.out hb)
  clear hb
  go_wp2_with fail
  refine (head7 _ (HL.out.below HB7.out)).mono ?_
  rintro e w8 ⟨rfl, hb⟩
  have HB8 := Aside0.mk (below_step HB7.out hb)
  clear hb
  go_wp2_with fail
  refine (head8 _ (HL.out.below HB8.out)).mono ?_
  rintro e w9 ⟨rfl, hb⟩
  have HB9 := Aside0.mk (below_step HB8.out hb)
  clear hb
  go_wp2_with fail
  refine (head9 _ (HL.out.below HB9.out)).mono ?_
  rintro e w10 ⟨rfl, hb⟩
  have HB10 := Aside0.mk (below_step HB9.out hb)
  clear hb
  go_wp2_with fail
  refine (head10 _ (HL.out.below HB10.out)).mono ?_
  rintro e w11 ⟨rfl, hb⟩
  have HB11 := Aside0.mk (below_step HB10.out hb)
  clear hb
  go_wp2_with fail
  refine (head11 _ (HL.out.below HB11.out)).mono ?_
  rintro e w12 ⟨rfl, hb⟩
  have HB12 := Aside0.mk (below_step HB11.out hb)
  clear hb
  go_wp2_with fail
  refine (head12 _ (HL.out.below HB12.out)).mono ?_
  rintro e w13 ⟨rfl, hb⟩
  have HB13 := Aside0.mk (below_step HB12.out hb)
  clear hb
  go_wp2_with fail
  go_ret
  exact ⟨rfl, HB13.out⟩
#print axioms observatorylaw03_head.calls
end Go.Proofs.YtdhhbmmidgebhaaGreatDoor

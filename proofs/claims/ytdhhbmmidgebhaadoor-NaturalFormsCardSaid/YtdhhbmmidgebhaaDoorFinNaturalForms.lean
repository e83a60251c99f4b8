/- The law NaturalForms: for every two strings it returns true, where the library's tables are laid. -/
import Derived.Test.YtdhhbmmidgebhaaDoorNatFew
namespace Go.Proofs.YtdhhbmmidgebhaaDoor
open Go.RowKit Go.Proofs.YtdhhbmmidgebhaaDoorW.PrintWords Go.Proofs.YtdhhbmmidgebhaaDoorW.PrintMore Go.Proofs.YtdhhbmmidgebhaaDoorW.PrintLast
set_option linter.unusedVariables false
set_option linter.unusedSimpArgs false
set_option maxHeartbeats 4000000 in
set_option maxRecDepth 100000 in
theorem forms_far (a b : ByteArray) (hf : (decide (a.size ≤ 80) && decide (b.size ≤ 80)) = false) (w : World) (hL : Laid w) :
    Calls Tryd.prog 8 #[.string a, .string b] w fun e w' => e = .returned (.bool true) ∧ Below w.heap.size w w' := by
  have K0 := Lib.hid (head_at)
  have K1 := Lib.hid (few2_at hf)
  have HL := Lib.hid hL
  have HB0 := Aside0.mk (Below.refl w.heap.size w)
  clear hL hf
  go_enter Tryd.func8, Tryd.ntmps8
  go_wp2_with fail
  refine (K0.out _ (HL.out.below HB0.out)).mono ?_
  rintro e w1 ⟨rfl, hb⟩
  have HB1 := Aside0.mk (below_step HB0.out hb)
  clear hb
  go_wp2_with fail
  refine (K1.out _ (HL.out.below HB1.out)).mono ?_
  rintro e w2 ⟨rfl, hb⟩
  have HB2 := Aside0.mk (below_step HB1.out hb)
  clear hb
  go_wp2_with fail
  go_ret
  exact ⟨by simp, HB2.out⟩
set_option maxHeartbeats 4000000 in
set_option maxRecDepth 100000 in
theorem forms_bad1 (a b : ByteArray) (hf : (decide (a.size ≤ 80) && decide (b.size ≤ 80)) = true) (e1 : addS a b = (⟨#[]⟩, 1)) (e2 : subS a b = (⟨#[]⟩, 1)) (e3 : mulS a b = (⟨#[]⟩, 1)) (e4 : divS a b = (⟨#[]⟩, ⟨#[]⟩, 1)) (e5 : gcdS a b = (⟨#[]⟩, 1)) (ha : validS a = false) (w : World) (hL : Laid w) :
    Calls Tryd.prog 8 #[.string a, .string b] w fun e w' => e = .returned (.bool true) ∧ Below w.heap.size w w' := by
  have K0 := Lib.hid (head_at)
  have K1 := Lib.hid (few2_at hf)
  have K2 := Lib.hid (add_at e1)
  have K3 := Lib.hid (sub_at e2)
  have K4 := Lib.hid (mul_at e3)
  have K5 := Lib.hid (div_at e4)
  have K6 := Lib.hid (gcd_at e5)
  have K7 := Lib.hid (valid_at ha)
  have HL := Lib.hid hL
  have HB0 := Aside0.mk (Below.refl w.heap.size w)
  clear hL hf e1 e2 e3 e4 e5 ha
  go_enter Tryd.func8, Tryd.ntmps8
  simp only [List.append]
  go_wp2_with fail
  refine (K0.out _ (HL.out.below HB0.out)).mono ?_
  rintro e w1 ⟨rfl, hb⟩
  have HB1 := Aside0.mk (below_step HB0.out hb)
  clear hb
  go_wp2_with fail
  refine (K1.out _ (HL.out.below HB1.out)).mono ?_
  rintro e w2 ⟨rfl, hb⟩
  have HB2 := Aside0.mk (below_step HB1.out hb)
  clear hb
  go_wp2_with fail
  refine (K2.out _ (HL.out.below HB2.out)).mono ?_
  rintro e w3 ⟨rfl, hb⟩
  have HB3 := Aside0.mk (below_step HB2.out hb)
  clear hb
  go_wp2_with fail
  refine (K3.out _ (HL.out.below HB3.out)).mono ?_
  rintro e w4 ⟨rfl, hb⟩
  have HB4 := Aside0.mk (below_step HB3.out hb)
  clear hb
  go_wp2_with fail
  refine (K4.out _ (HL.out.below HB4.out)).mono ?_
  rintro e w5 ⟨rfl, hb⟩
  have HB5 := Aside0.mk (below_step HB4.out hb)
  clear hb
  go_wp2_with fail
  refine (K5.out _ (HL.out.below HB5.out)).mono ?_
  rintro e w6 ⟨rfl, hb⟩
  have HB6 := Aside0.mk (below_step HB5.out hb)
  clear hb
  go_wp2_with fail
  refine (K6.out _ (HL.out.below HB6.out)).mono ?_
  rintro e w7 ⟨rfl, hb⟩
  have HB7 := Aside0.mk (below_step HB6.out hb)
  clear hb
  go_wp2_with fail
  refine (K7.out _ (HL.out.below HB7.out)).mono ?_
  rintro e w8 ⟨rfl, hb⟩
  have HB8 := Aside0.mk (below_step HB7.out hb)
  clear hb
  go_wp2_with fail
  go_ret
  exact ⟨by simp, HB8.out⟩
set_option maxHeartbeats 4000000 in
set_option maxRecDepth 100000 in
theorem forms_bad2 (a b : ByteArray) (hf : (decide (a.size ≤ 80) && decide (b.size ≤ 80)) = true) (e1 : addS a b = (⟨#[]⟩, 1)) (e2 : subS a b = (⟨#[]⟩, 1)) (e3 : mulS a b = (⟨#[]⟩, 1)) (e4 : divS a b = (⟨#[]⟩, ⟨#[]⟩, 1)) (e5 : gcdS a b = (⟨#[]⟩, 1)) (ha : validS a = true) (hb : validS b = false) (w : World) (hL : Laid w) :
    Calls Tryd.prog 8 #[.string a, .string b] w fun e w' => e = .returned (.bool true) ∧ Below w.heap.size w w' := by
  have K0 := Lib.hid (head_at)
  have K1 := Lib.hid (few2_at hf)
  have K2 := Lib.hid (add_at e1)
  have K3 := Lib.hid (sub_at e2)
  have K4 := Lib.hid (mul_at e3)
  have K5 := Lib.hid (div_at e4)
  have K6 := Lib.hid (gcd_at e5)
  have K7 := Lib.hid (valid_at ha)
  have K8 := Lib.hid (valid_at hb)
  have HL := Lib.hid hL
  have HB0 := Aside0.mk (Below.refl w.heap.size w)
  clear hL hf e1 e2 e3 e4 e5 ha hb
  go_enter Tryd.func8, Tryd.ntmps8
  simp only [List.append]
  go_wp2_with fail
  refine (K0.out _ (HL.out.below HB0.out)).mono ?_
  rintro e w1 ⟨rfl, hb⟩
  have HB1 := Aside0.mk (below_step HB0.out hb)
  clear hb
  go_wp2_with fail
  refine (K1.out _ (HL.out.below HB1.out)).mono ?_
  rintro e w2 ⟨rfl, hb⟩
  have HB2 := Aside0.mk (below_step HB1.out hb)
  clear hb
  go_wp2_with fail
  refine (K2.out _ (HL.out.below HB2.out)).mono ?_
  rintro e w3 ⟨rfl, hb⟩
  have HB3 := Aside0.mk (below_step HB2.out hb)
  clear hb
  go_wp2_with fail
  refine (K3.out _ (HL.out.below HB3.out)).mono ?_
  rintro e w4 ⟨rfl, hb⟩
  have HB4 := Aside0.mk (below_step HB3.out hb)
  clear hb
  go_wp2_with fail
  refine (K4.out _ (HL.out.below HB4.out)).mono ?_
  rintro e w5 ⟨rfl, hb⟩
  have HB5 := Aside0.mk (below_step HB4.out hb)
  clear hb
  go_wp2_with fail
  refine (K5.out _ (HL.out.below HB5.out)).mono ?_
  rintro e w6 ⟨rfl, hb⟩
  have HB6 := Aside0.mk (below_step HB5.out hb)
  clear hb
  go_wp2_with fail
  refine (K6.out _ (HL.out.below HB6.out)).mono ?_
  rintro e w7 ⟨rfl, hb⟩
  have HB7 := Aside0.mk (below_step HB6.out hb)
  clear hb
  go_wp2_with fail
  refine (K7.out _ (HL.out.below HB7.out)).mono ?_
  rintro e w8 ⟨rfl, hb⟩
  have HB8 := Aside0.mk (below_step HB7.out hb)
  clear hb
  go_wp2_with fail
  refine (K8.out _ (HL.out.below HB8.out)).mono ?_
  rintro e w9 ⟨rfl, hb⟩
  have HB9 := Aside0.mk (below_step HB8.out hb)
  clear hb
  go_wp2_with fail
  go_ret
  exact ⟨by simp, HB9.out⟩
set_option maxHeartbeats 4000000 in
set_option maxRecDepth 100000 in
theorem forms_a (a b S D P Q R C : ByteArray) (hf : (decide (a.size ≤ 80) && decide (b.size ≤ 80)) = true) (e1 : addS a b = (S, 0)) (e2 : subS a b = (D, 0)) (e3 : mulS a b = (P, 0)) (e4 : divS a b = (Q, R, 0)) (e5 : gcdS a b = (C, 0)) (va : validS a = true) (vb : validS b = true) (vs : validS S = true) (vd : validS D = true) (vp : validS P = true) (vq : validS Q = true) (vr : validS R = true) (vc : validS C = true) (hl : (a.toList == [48] || b.toList == [48] || (P.size : Int) == wrap64 ((a.size : Int) + (b.size : Int)) || (P.size : Int) == wrap64 (wrap64 ((a.size : Int) + (b.size : Int)) - 1)) = true) (w : World) (hL : Laid w) :
    Calls Tryd.prog 8 #[.string a, .string b] w fun e w' => e = .returned (.bool true) ∧ Below w.heap.size w w' := by
  have K0 := Lib.hid (head_at)
  have K1 := Lib.hid (few2_at hf)
  have K2 := Lib.hid (add_at e1)
  have K3 := Lib.hid (sub_at e2)
  have K4 := Lib.hid (mul_at e3)
  have K5 := Lib.hid (div_at e4)
  have K6 := Lib.hid (gcd_at e5)
  have K7 := Lib.hid (valid_at va)
  have K8 := Lib.hid (valid_at vb)
  have K9 := Lib.hid (valid_at vs)
  have K10 := Lib.hid (valid_at vd)
  have K11 := Lib.hid (valid_at vp)
  have K12 := Lib.hid (valid_at vq)
  have K13 := Lib.hid (valid_at vr)
  have K14 := Lib.hid (valid_at vc)
  have KZ := Lib.hid hl
  have HL := Lib.hid hL
  have HB0 := Aside0.mk (Below.refl w.heap.size w)
  clear hL hf e1 e2 e3 e4 e5 va vb vs vd vp vq vr vc hl
  go_enter Tryd.func8, Tryd.ntmps8
  simp only [List.append]
  go_wp2_with fail
  refine (K0.out _ (HL.out.below HB0.out)).mono ?_
  rintro e w1 ⟨rfl, hb⟩
  have HB1 := Aside0.mk (below_step HB0.out hb)
  clear hb
  go_wp2_with fail
  refine (K1.out _ (HL.out.below HB1.out)).mono ?_
  rintro e w2 ⟨rfl, hb⟩
  have HB2 := Aside0.mk (below_step HB1.out hb)
  clear hb
  go_wp2_with fail
  refine (K2.out _ (HL.out.below HB2.out)).mono ?_
  rintro e w3 ⟨rfl, hb⟩
  have HB3 := Aside0.mk (below_step HB2.out hb)
  clear hb
  go_wp2_with fail
  refine (K3.out _ (HL.out.below HB3.out)).mono ?_
  rintro e w4 ⟨rfl, hb⟩
  have HB4 := Aside0.mk (below_step HB3.out hb)
  clear hb
  go_wp2_with fail
  refine (K4.out _ (HL.out.below HB4.out)).mono ?_
  rintro e w5 ⟨rfl, hb⟩
  have HB5 := Aside0.mk (below_step HB4.out hb)
  clear hb
  go_wp2_with fail
  refine (K5.out _ (HL.out.below HB5.out)).mono ?_
  rintro e w6 ⟨rfl, hb⟩
  have HB6 := Aside0.mk (below_step HB5.out hb)
  clear hb
  go_wp2_with fail
  refine (K6.out _ (HL.out.below HB6.out)).mono ?_
  rintro e w7 ⟨rfl, hb⟩
  have HB7 := Aside0.mk (below_step HB6.out hb)
  clear hb
  go_wp2_with fail
  refine (K7.out _ (HL.out.below HB7.out)).mono ?_
  rintro e w8 ⟨rfl, hb⟩
  have HB8 := Aside0.mk (below_step HB7.out hb)
  clear hb
  go_wp2_with fail
  refine (K8.out _ (HL.out.below HB8.out)).mono ?_
  rintro e w9 ⟨rfl, hb⟩
  have HB9 := Aside0.mk (below_step HB8.out hb)
  clear hb
  go_wp2_with fail
  refine (K9.out _ (HL.out.below HB9.out)).mono ?_
  rintro e w10 ⟨rfl, hb⟩
  have HB10 := Aside0.mk (below_step HB9.out hb)
  clear hb
  go_wp2_with fail
  refine (K10.out _ (HL.out.below HB10.out)).mono ?_
  rintro e w11 ⟨rfl, hb⟩
  have HB11 := Aside0.mk (below_step HB10.out hb)
  clear hb
  go_wp2_with fail
  refine (K11.out _ (HL.out.below HB11.out)).mono ?_
  rintro e w12 ⟨rfl, hb⟩
  have HB12 := Aside0.mk (below_step HB11.out hb)
  clear hb
  go_wp2_with fail
  refine (K12.out _ (HL.out.below HB12.out)).mono ?_
  rintro e w13 ⟨rfl, hb⟩
  have HB13 := Aside0.mk (below_step HB12.out hb)
  clear hb
  go_wp2_with fail
  refine (K13.out _ (HL.out.below HB13.out)).mono ?_
  rintro e w14 ⟨rfl, hb⟩
  have HB14 := Aside0.mk (below_step HB13.out hb)
  clear hb
  go_wp2_with fail
  refine (K14.out _ (HL.out.below HB14.out)).mono ?_
  rintro e w15 ⟨rfl, hb⟩
  have HB15 := Aside0.mk (below_step HB14.out hb)
  clear hb
  go_wp2_with fail
  all_goals (go_ret; exact ⟨by first | rfl | exact congrArg (fun x => Ending.returned (Value.bool x)) KZ.out, HB15.out⟩)
set_option maxHeartbeats 4000000 in
set_option maxRecDepth 100000 in
theorem forms_b (a b S D P Q R C : ByteArray) (hf : (decide (a.size ≤ 80) && decide (b.size ≤ 80)) = true) (e1 : addS a b = (S, 0)) (e2 : subS a b = (⟨#[]⟩, 9)) (e3 : mulS a b = (P, 0)) (e4 : divS a b = (Q, R, 0)) (e5 : gcdS a b = (C, 0)) (va : validS a = true) (vb : validS b = true) (vs : validS S = true) (vp : validS P = true) (vq : validS Q = true) (vr : validS R = true) (vc : validS C = true) (hl : (a.toList == [48] || b.toList == [48] || (P.size : Int) == wrap64 ((a.size : Int) + (b.size : Int)) || (P.size : Int) == wrap64 (wrap64 ((a.size : Int) + (b.size : Int)) - 1)) = true) (w : World) (hL : Laid w) :
    Calls Tryd.prog 8 #[.string a, .string b] w fun e w' => e = .returned (.bool true) ∧ Below w.heap.size w w' := by
  have K0 := Lib.hid (head_at)
  have K1 := Lib.hid (few2_at hf)
  have K2 := Lib.hid (add_at e1)
  have K3 := Lib.hid (sub_at e2)
  have K4 := Lib.hid (mul_at e3)
  have K5 := Lib.hid (div_at e4)
  have K6 := Lib.hid (gcd_at e5)
  have K7 := Lib.hid (valid_at va)
  have K8 := Lib.hid (valid_at vb)
  have K9 := Lib.hid (valid_at vs)
  have K10 := Lib.hid (valid_at vp)
  have K11 := Lib.hid (valid_at vq)
  have K12 := Lib.hid (valid_at vr)
  have K13 := Lib.hid (valid_at vc)
  have KZ := Lib.hid hl
  have HL := Lib.hid hL
  have HB0 := Aside0.mk (Below.refl w.heap.size w)
  clear hL hf e1 e2 e3 e4 e5 va vb vs vp vq vr vc hl
  go_enter Tryd.func8, Tryd.ntmps8
  simp only [List.append]
  go_wp2_with fail
  refine (K0.out _ (HL.out.below HB0.out)).mono ?_
  rintro e w1 ⟨rfl, hb⟩
  have HB1 := Aside0.mk (below_step HB0.out hb)
  clear hb
  go_wp2_with fail
  refine (K1.out _ (HL.out.below HB1.out)).mono ?_
  rintro e w2 ⟨rfl, hb⟩
  have HB2 := Aside0.mk (below_step HB1.out hb)
  clear hb
  go_wp2_with fail
  refine (K2.out _ (HL.out.below HB2.out)).mono ?_
  rintro e w3 ⟨rfl, hb⟩
  have HB3 := Aside0.mk (below_step HB2.out hb)
  clear hb
  go_wp2_with fail
  refine (K3.out _ (HL.out.below HB3.out)).mono ?_
  rintro e w4 ⟨rfl, hb⟩
  have HB4 := Aside0.mk (below_step HB3.out hb)
  clear hb
  go_wp2_with fail
  refine (K4.out _ (HL.out.below HB4.out)).mono ?_
  rintro e w5 ⟨rfl, hb⟩
  have HB5 := Aside0.mk (below_step HB4.out hb)
  clear hb
  go_wp2_with fail
  refine (K5.out _ (HL.out.below HB5.out)).mono ?_
  rintro e w6 ⟨rfl, hb⟩
  have HB6 := Aside0.mk (below_step HB5.out hb)
  clear hb
  go_wp2_with fail
  refine (K6.out _ (HL.out.below HB6.out)).mono ?_
  rintro e w7 ⟨rfl, hb⟩
  have HB7 := Aside0.mk (below_step HB6.out hb)
  clear hb
  go_wp2_with fail
  refine (K7.out _ (HL.out.below HB7.out)).mono ?_
  rintro e w8 ⟨rfl, hb⟩
  have HB8 := Aside0.mk (below_step HB7.out hb)
  clear hb
  go_wp2_with fail
  refine (K8.out _ (HL.out.below HB8.out)).mono ?_
  rintro e w9 ⟨rfl, hb⟩
  have HB9 := Aside0.mk (below_step HB8.out hb)
  clear hb
  go_wp2_with fail
  refine (K9.out _ (HL.out.below HB9.out)).mono ?_
  rintro e w10 ⟨rfl, hb⟩
  have HB10 := Aside0.mk (below_step HB9.out hb)
  clear hb
  go_wp2_with fail
  refine (K10.out _ (HL.out.below HB10.out)).mono ?_
  rintro e w11 ⟨rfl, hb⟩
  have HB11 := Aside0.mk (below_step HB10.out hb)
  clear hb
  go_wp2_with fail
  refine (K11.out _ (HL.out.below HB11.out)).mono ?_
  rintro e w12 ⟨rfl, hb⟩
  have HB12 := Aside0.mk (below_step HB11.out hb)
  clear hb
  go_wp2_with fail
  refine (K12.out _ (HL.out.below HB12.out)).mono ?_
  rintro e w13 ⟨rfl, hb⟩
  have HB13 := Aside0.mk (below_step HB12.out hb)
  clear hb
  go_wp2_with fail
  refine (K13.out _ (HL.out.below HB13.out)).mono ?_
  rintro e w14 ⟨rfl, hb⟩
  have HB14 := Aside0.mk (below_step HB13.out hb)
  clear hb
  go_wp2_with fail
  all_goals (go_ret; exact ⟨by first | rfl | exact congrArg (fun x => Ending.returned (Value.bool x)) KZ.out, HB14.out⟩)
set_option maxHeartbeats 4000000 in
set_option maxRecDepth 100000 in
theorem forms_c (a b S D P Q R C : ByteArray) (hf : (decide (a.size ≤ 80) && decide (b.size ≤ 80)) = true) (e1 : addS a b = (S, 0)) (e2 : subS a b = (D, 0)) (e3 : mulS a b = (P, 0)) (e4 : divS a b = (⟨#[]⟩, ⟨#[]⟩, 14)) (e5 : gcdS a b = (C, 0)) (va : validS a = true) (vb : validS b = true) (vs : validS S = true) (vd : validS D = true) (vp : validS P = true) (vc : validS C = true) (hl : (a.toList == [48] || b.toList == [48] || (P.size : Int) == wrap64 ((a.size : Int) + (b.size : Int)) || (P.size : Int) == wrap64 (wrap64 ((a.size : Int) + (b.size : Int)) - 1)) = true) (w : World) (hL : Laid w) :
    Calls Tryd.prog 8 #[.string a, .string b] w fun e w' => e = .returned (.bool true) ∧ Below w.heap.size w w' := by
  have K0 := Lib.hid (head_at)
  have K1 := Lib.hid (few2_at hf)
  have K2 := Lib.hid (add_at e1)
  have K3 := Lib.hid (sub_at e2)
  have K4 := Lib.hid (mul_at e3)
  have K5 := Lib.hid (div_at e4)
  have K6 := Lib.hid (gcd_at e5)
  have K7 := Lib.hid (valid_at va)
  have K8 := Lib.hid (valid_at vb)
  have K9 := Lib.hid (valid_at vs)
  have K10 := Lib.hid (valid_at vd)
  have K11 := Lib.hid (valid_at vp)
  have K12 := Lib.hid (valid_at vc)
  have KZ := Lib.hid hl
  have HL := Lib.hid hL
  have HB0 := Aside0.mk (Below.refl w.heap.size w)
  clear hL hf e1 e2 e3 e4 e5 va vb vs vd vp vc hl
  go_enter Tryd.func8, Tryd.ntmps8
  simp only [List.append]
  go_wp2_with fail
  refine (K0.out _ (HL.out.below HB0.out)).mono ?_
  rintro e w1 ⟨rfl, hb⟩
  have HB1 := Aside0.mk (below_step HB0.out hb)
  clear hb
  go_wp2_with fail
  refine (K1.out _ (HL.out.below HB1.out)).mono ?_
  rintro e w2 ⟨rfl, hb⟩
  have HB2 := Aside0.mk (below_step HB1.out hb)
  clear hb
  go_wp2_with fail
  refine (K2.out _ (HL.out.below HB2.out)).mono ?_
  rintro e w3 ⟨rfl, hb⟩
  have HB3 := Aside0.mk (below_step HB2.out hb)
  clear hb
  go_wp2_with fail
  refine (K3.out _ (HL.out.below HB3.out)).mono ?_
  rintro e w4 ⟨rfl, hb⟩
  have HB4 := Aside0.mk (below_step HB3.out hb)
  clear hb
  go_wp2_with fail
  refine (K4.out _ (HL.out.below HB4.out)).mono ?_
  rintro e w5 ⟨rfl, hb⟩
  have HB5 := Aside0.mk (below_step HB4.out hb)
  clear hb
  go_wp2_with fail
  refine (K5.out _ (HL.out.below HB5.out)).mono ?_
  rintro e w6 ⟨rfl, hb⟩
  have HB6 := Aside0.mk (below_step HB5.out hb)
  clear hb
  go_wp2_with fail
  refine (K6.out _ (HL.out.below HB6.out)).mono ?_
  rintro e w7 ⟨rfl, hb⟩
  have HB7 := Aside0.mk (below_step HB6.out hb)
  clear hb
  go_wp2_with fail
  refine (K7.out _ (HL.out.below HB7.out)).mono ?_
  rintro e w8 ⟨rfl, hb⟩
  have HB8 := Aside0.mk (below_step HB7.out hb)
  clear hb
  go_wp2_with fail
  refine (K8.out _ (HL.out.below HB8.out)).mono ?_
  rintro e w9 ⟨rfl, hb⟩
  have HB9 := Aside0.mk (below_step HB8.out hb)
  clear hb
  go_wp2_with fail
  refine (K9.out _ (HL.out.below HB9.out)).mono ?_
  rintro e w10 ⟨rfl, hb⟩
  have HB10 := Aside0.mk (below_step HB9.out hb)
  clear hb
  go_wp2_with fail
  refine (K10.out _ (HL.out.below HB10.out)).mono ?_
  rintro e w11 ⟨rfl, hb⟩
  have HB11 := Aside0.mk (below_step HB10.out hb)
  clear hb
  go_wp2_with fail
  refine (K11.out _ (HL.out.below HB11.out)).mono ?_
  rintro e w12 ⟨rfl, hb⟩
  have HB12 := Aside0.mk (below_step HB11.out hb)
  clear hb
  go_wp2_with fail
  refine (K12.out _ (HL.out.below HB12.out)).mono ?_
  rintro e w13 ⟨rfl, hb⟩
  have HB13 := Aside0.mk (below_step HB12.out hb)
  clear hb
  go_wp2_with fail
  all_goals (go_ret; exact ⟨by first | rfl | exact congrArg (fun x => Ending.returned (Value.bool x)) KZ.out, HB13.out⟩)
theorem prod_len {a b : ByteArray} (ha : validS a = true) (hb : validS b = true) (m0 : valS a ≠ 0) (n0 : valS b ≠ 0) : (decS (valS a * valS b)).size = a.size + b.size ∨ (decS (valS a * valS b)).size = a.size + b.size - 1 := by
  have a1 := dec_len_valS ha
  have b1 := dec_len_valS hb
  have la := dec_len_pos (valS a)
  have lb := dec_len_pos (valS b)
  have hi : valS a * valS b < tp (a.size + b.size) := tp_mul_lt (by rw [← a1]; exact dec_lt _) (by rw [← b1]; exact dec_lt _)
  have lo : tp ((a.size - 1) + (b.size - 1)) ≤ valS a * valS b := by
    rw [tp_add, ← a1, ← b1]
    exact Nat.mul_le_mul (dec_ge m0) (dec_ge n0)
  have h1 := dec_len_le hi (by omega)
  have h2 := tp_lt (Nat.lt_of_le_of_lt lo (dec_lt _))
  rw [size_decS]
  omega
theorem last_ok {a b : ByteArray} (ha : validS a = true) (hb : validS b = true) (fa : a.size ≤ 80) (fb : b.size ≤ 80) : (a.toList == [48] || b.toList == [48] || ((decS (valS a * valS b)).size : Int) == wrap64 ((a.size : Int) + (b.size : Int)) || ((decS (valS a * valS b)).size : Int) == wrap64 (wrap64 ((a.size : Int) + (b.size : Int)) - 1)) = true := by
  rw [zero_iff ha, zero_iff hb]
  by_cases m0 : valS a = 0
  · rw [decide_eq_true m0]; rfl
  by_cases n0 : valS b = 0
  · rw [decide_eq_true n0, Bool.or_true]; rfl
  have h := prod_len ha hb m0 n0
  have p1 := dec_len_pos (valS a)
  rw [dec_len_valS ha] at p1
  generalize (decS (valS a * valS b)).size = z at h
  have w1 : wrap64 ((a.size : Int) + (b.size : Int)) = ((a.size + b.size : Nat) : Int) := by unfold wrap64; omega
  have w2 : wrap64 (((a.size + b.size : Nat) : Int) - 1) = ((a.size + b.size - 1 : Nat) : Int) := by unfold wrap64; omega
  rw [w1, w2, decide_eq_false m0, decide_eq_false n0]
  rcases h with h | h
  · rw [h, beq_self_eq_true]; rfl
  · rw [h, beq_self_eq_true, Bool.or_true]
theorem finNaturalForms (a b : ByteArray) (w : World) (hL : Laid w) (_w0 : a.size ≤ 140737488351232) (_w1 : b.size ≤ 140737488351232) :
    Calls Tryd.prog 8 #[.string a, .string b] w fun e w' => e = .returned (.bool true) ∧ Below w.heap.size w w' := by
  cases hf : (decide (a.size ≤ 80) && decide (b.size ≤ 80))
  · exact forms_far a b hf w hL
  cases ha : validS a
  · exact forms_bad1 a b hf (by unfold addS; rw [ha]; rfl) (by unfold subS; rw [ha]; rfl) (by unfold mulS; rw [ha]; rfl) (by unfold divS; rw [ha]; rfl) (by unfold gcdS; rw [ha]; rfl) ha w hL
  cases hb : validS b
  · exact forms_bad2 a b hf (by unfold addS; rw [ha, hb]; rfl) (by unfold subS; rw [ha, hb]; rfl) (by unfold mulS; rw [ha, hb]; rfl) (by unfold divS; rw [ha, hb]; rfl) (by unfold gcdS; rw [ha, hb]; rfl) ha hb w hL
  have hf' := hf
  simp only [Bool.and_eq_true, decide_eq_true_eq] at hf'
  obtain ⟨fa, fb⟩ := hf'
  have la := val_lt ha fa
  have lb := val_lt hb fb
  have lg : Nat.gcd (valS a) (valS b) < tp 81 := Nat.lt_of_le_of_lt (gcd_le _ _) (tp_add_lt la lb)
  have lm : valS a * valS b < tp 160 := tp_mul_lt (m := 80) (n := 80) la lb
  obtain ⟨p1, q1, _⟩ := lim_ok (tp_add_lt la lb) (by decide) (by decide)
  obtain ⟨p2, q2, _⟩ := lim_ok lm (by decide) (by decide)
  obtain ⟨p3, q3, _⟩ := lim_ok lg (by decide) (by decide)
  obtain ⟨_, q4, _⟩ := lim_ok (Nat.lt_of_le_of_lt (Nat.div_le_self (valS a) (valS b)) la) (by decide) (by decide)
  obtain ⟨_, q6, _⟩ := lim_ok (Nat.lt_of_le_of_lt (Nat.mod_le (valS a) (valS b)) la) (by decide) (by decide)
  obtain ⟨_, q5, _⟩ := lim_ok (Nat.lt_of_le_of_lt (Nat.sub_le (valS a) (valS b)) la) (by decide) (by decide)
  have hl := last_ok ha hb fa fb
  by_cases h0 : valS b = 0
  · exact forms_c a b _ _ _ noS noS _ hf (by rw [add_ok ha hb, p1]) (sub_ok ha hb (by omega)) (by rw [mul_ok ha hb, p2]) (by unfold divS; rw [ha, hb, if_pos h0]; rfl) (by rw [gcd_ok ha hb, p3]) ha hb q1 q5 q2 q3 hl w hL
  by_cases hlt : valS a < valS b
  · exact forms_b a b _ noS _ _ _ _ hf (by rw [add_ok ha hb, p1]) (sub_lt ha hb hlt) (by rw [mul_ok ha hb, p2]) (div_ok ha hb h0) (by rw [gcd_ok ha hb, p3]) ha hb q1 q2 q4 q6 q3 hl w hL
  · exact forms_a a b _ _ _ _ _ _ hf (by rw [add_ok ha hb, p1]) (sub_ok ha hb hlt) (by rw [mul_ok ha hb, p2]) (div_ok ha hb h0) (by rw [gcd_ok ha hb, p3]) ha hb q1 q5 q2 q4 q6 q3 hl w hL
end Go.Proofs.YtdhhbmmidgebhaaDoor

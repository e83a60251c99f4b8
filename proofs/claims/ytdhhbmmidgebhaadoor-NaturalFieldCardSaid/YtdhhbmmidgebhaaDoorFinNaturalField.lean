/- The law NaturalField: for every three strings it returns true, where the library's tables are laid. -/
import Derived.Test.YtdhhbmmidgebhaaDoorNatFew
namespace Go.Proofs.YtdhhbmmidgebhaaDoor
open Go.RowKit Go.Proofs.YtdhhbmmidgebhaaDoorW.PrintWords Go.Proofs.YtdhhbmmidgebhaaDoorW.PrintMore Go.Proofs.YtdhhbmmidgebhaaDoorW.PrintLast
set_option linter.unusedVariables false
set_option linter.unusedSimpArgs false
set_option maxHeartbeats 4000000 in
set_option maxRecDepth 100000 in
theorem field_far (a b c : ByteArray) (hf : (decide (a.size ≤ 80) && (decide (b.size ≤ 80) && decide (c.size ≤ 80))) = false) (w : World) (hL : Laid w) :
    Calls Tryd.prog 3 #[.string a, .string b, .string c] w fun e w' => e = .returned (.bool true) ∧ Below w.heap.size w w' := by
  have K0 := Lib.hid (head_at)
  have K1 := Lib.hid (few3_at hf)
  have HL := Lib.hid hL
  have HB0 := Aside0.mk (Below.refl w.heap.size w)
  clear hL hf
  go_enter Tryd.func3, Tryd.ntmps3
  go_wp2_with fail
  refine (K0.out _ (HL.out.below HB0.out)).mono ?_
  rintro e w1 ⟨rfl, hb⟩
  have HB1 := Aside0.mk (below_step HB0.out hb)
  clear hb
  go_wp2_with fail
  refine (K1.out _ (HL.out.below HB1.out)).mono ?_
  rintro e w2 ⟨rfl, hb⟩
  have HB2 := Aside0.mk (below_step HB1.out hb)
  clear hb
  go_wp2_with fail
  go_ret
  exact ⟨by simp, HB2.out⟩
set_option maxHeartbeats 4000000 in
set_option maxRecDepth 100000 in
theorem field_bad1 (a b c : ByteArray) (hf : (decide (a.size ≤ 80) && (decide (b.size ≤ 80) && decide (c.size ≤ 80))) = true) (ha : validS a = false) (w : World) (hL : Laid w) :
    Calls Tryd.prog 3 #[.string a, .string b, .string c] w fun e w' => e = .returned (.bool true) ∧ Below w.heap.size w w' := by
  have K0 := Lib.hid (head_at)
  have K1 := Lib.hid (few3_at hf)
  have K2 := Lib.hid (valid_at ha)
  have HL := Lib.hid hL
  have HB0 := Aside0.mk (Below.refl w.heap.size w)
  clear hL hf ha
  go_enter Tryd.func3, Tryd.ntmps3
  go_wp2_with fail
  refine (K0.out _ (HL.out.below HB0.out)).mono ?_
  rintro e w1 ⟨rfl, hb⟩
  have HB1 := Aside0.mk (below_step HB0.out hb)
  clear hb
  go_wp2_with fail
  refine (K1.out _ (HL.out.below HB1.out)).mono ?_
  rintro e w2 ⟨rfl, hb⟩
  have HB2 := Aside0.mk (below_step HB1.out hb)
  clear hb
  go_wp2_with fail
  refine (K2.out _ (HL.out.below HB2.out)).mono ?_
  rintro e w3 ⟨rfl, hb⟩
  have HB3 := Aside0.mk (below_step HB2.out hb)
  clear hb
  go_wp2_with fail
  go_ret
  exact ⟨by simp, HB3.out⟩
set_option maxHeartbeats 4000000 in
set_option maxRecDepth 100000 in
theorem field_bad2 (a b c : ByteArray) (hf : (decide (a.size ≤ 80) && (decide (b.size ≤ 80) && decide (c.size ≤ 80))) = true) (ha : validS a = true) (hb : validS b = false) (w : World) (hL : Laid w) :
    Calls Tryd.prog 3 #[.string a, .string b, .string c] w fun e w' => e = .returned (.bool true) ∧ Below w.heap.size w w' := by
  have K0 := Lib.hid (head_at)
  have K1 := Lib.hid (few3_at hf)
  have K2 := Lib.hid (valid_at ha)
  have K3 := Lib.hid (valid_at hb)
  have HL := Lib.hid hL
  have HB0 := Aside0.mk (Below.refl w.heap.size w)
  clear hL hf ha hb
  go_enter Tryd.func3, Tryd.ntmps3
  go_wp2_with fail
  refine (K0.out _ (HL.out.below HB0.out)).mono ?_
  rintro e w1 ⟨rfl, hb⟩
  have HB1 := Aside0.mk (below_step HB0.out hb)
  clear hb
  go_wp2_with fail
  refine (K1.out _ (HL.out.below HB1.out)).mono ?_
  rintro e w2 ⟨rfl, hb⟩
  have HB2 := Aside0.mk (below_step HB1.out hb)
  clear hb
  go_wp2_with fail
  refine (K2.out _ (HL.out.below HB2.out)).mono ?_
  rintro e w3 ⟨rfl, hb⟩
  have HB3 := Aside0.mk (below_step HB2.out hb)
  clear hb
  go_wp2_with fail
  refine (K3.out _ (HL.out.below HB3.out)).mono ?_
  rintro e w4 ⟨rfl, hb⟩
  have HB4 := Aside0.mk (below_step HB3.out hb)
  clear hb
  go_wp2_with fail
  go_ret
  exact ⟨by simp, HB4.out⟩
set_option maxHeartbeats 4000000 in
set_option maxRecDepth 100000 in
theorem field_bad3 (a b c : ByteArray) (hf : (decide (a.size ≤ 80) && (decide (b.size ≤ 80) && decide (c.size ≤ 80))) = true) (ha : validS a = true) (hb : validS b = true) (hc : validS c = false) (w : World) (hL : Laid w) :
    Calls Tryd.prog 3 #[.string a, .string b, .string c] w fun e w' => e = .returned (.bool true) ∧ Below w.heap.size w w' := by
  have K0 := Lib.hid (head_at)
  have K1 := Lib.hid (few3_at hf)
  have K2 := Lib.hid (valid_at ha)
  have K3 := Lib.hid (valid_at hb)
  have K4 := Lib.hid (valid_at hc)
  have HL := Lib.hid hL
  have HB0 := Aside0.mk (Below.refl w.heap.size w)
  clear hL hf ha hb hc
  go_enter Tryd.func3, Tryd.ntmps3
  go_wp2_with fail
  refine (K0.out _ (HL.out.below HB0.out)).mono ?_
  rintro e w1 ⟨rfl, hb⟩
  have HB1 := Aside0.mk (below_step HB0.out hb)
  clear hb
  go_wp2_with fail
  refine (K1.out _ (HL.out.below HB1.out)).mono ?_
  rintro e w2 ⟨rfl, hb⟩
  have HB2 := Aside0.mk (below_step HB1.out hb)
  clear hb
  go_wp2_with fail
  refine (K2.out _ (HL.out.below HB2.out)).mono ?_
  rintro e w3 ⟨rfl, hb⟩
  have HB3 := Aside0.mk (below_step HB2.out hb)
  clear hb
  go_wp2_with fail
  refine (K3.out _ (HL.out.below HB3.out)).mono ?_
  rintro e w4 ⟨rfl, hb⟩
  have HB4 := Aside0.mk (below_step HB3.out hb)
  clear hb
  go_wp2_with fail
  refine (K4.out _ (HL.out.below HB4.out)).mono ?_
  rintro e w5 ⟨rfl, hb⟩
  have HB5 := Aside0.mk (below_step HB4.out hb)
  clear hb
  go_wp2_with fail
  go_ret
  exact ⟨by simp, HB5.out⟩
set_option maxHeartbeats 4000000 in
set_option maxRecDepth 100000 in
theorem field_good (a b c AB BC ABC P R PR AC SM : ByteArray) (hf : (decide (a.size ≤ 80) && (decide (b.size ≤ 80) && decide (c.size ≤ 80))) = true) (ha : validS a = true) (hb : validS b = true) (hc : validS c = true) (e1 : addS a b = (AB, 0)) (e2 : addS b a = (AB, 0)) (e3 : addS b c = (BC, 0)) (e4 : addS AB c = (ABC, 0)) (e5 : addS a BC = (ABC, 0)) (e6 : mulS a b = (P, 0)) (e7 : mulS b a = (P, 0)) (e8 : mulS b c = (R, 0)) (e9 : mulS P c = (PR, 0)) (e10 : mulS a R = (PR, 0)) (e11 : mulS a c = (AC, 0)) (e12 : mulS a BC = (SM, 0)) (e13 : addS P AC = (SM, 0)) (e14 : addS a ⟨#[48]⟩ = (a, 0)) (e15 : mulS a ⟨#[49]⟩ = (a, 0)) (w : World) (hL : Laid w) :
    Calls Tryd.prog 3 #[.string a, .string b, .string c] w fun e w' => e = .returned (.bool true) ∧ Below w.heap.size w w' := by
  have K0 := Lib.hid (head_at)
  have K1 := Lib.hid (few3_at hf)
  have K2 := Lib.hid (valid_at ha)
  have K3 := Lib.hid (valid_at hb)
  have K4 := Lib.hid (valid_at hc)
  have K5 := Lib.hid (add_at e1)
  have K6 := Lib.hid (add_at e2)
  have K7 := Lib.hid (add_at e3)
  have K8 := Lib.hid (add_at e4)
  have K9 := Lib.hid (add_at e5)
  have K10 := Lib.hid (mul_at e6)
  have K11 := Lib.hid (mul_at e7)
  have K12 := Lib.hid (mul_at e8)
  have K13 := Lib.hid (mul_at e9)
  have K14 := Lib.hid (mul_at e10)
  have K15 := Lib.hid (mul_at e11)
  have K16 := Lib.hid (mul_at e12)
  have K17 := Lib.hid (add_at e13)
  have K18 := Lib.hid (add_at e14)
  have K19 := Lib.hid (mul_at e15)
  have HL := Lib.hid hL
  have HB0 := Aside0.mk (Below.refl w.heap.size w)
  clear hL hf ha hb hc e1 e2 e3 e4 e5 e6 e7 e8 e9 e10 e11 e12 e13 e14 e15
  go_enter Tryd.func3, Tryd.ntmps3
  go_wp2_with fail
  refine (K0.out _ (HL.out.below HB0.out)).mono ?_
  rintro e w1 ⟨rfl, hb⟩
  have HB1 := Aside0.mk (below_step HB0.out hb)
  clear hb
  go_wp2_with fail
  refine (K1.out _ (HL.out.below HB1.out)).mono ?_
  rintro e w2 ⟨rfl, hb⟩
  have HB2 := Aside0.mk (below_step HB1.out hb)
  clear hb
  go_wp2_with fail
  refine (K2.out _ (HL.out.below HB2.out)).mono ?_
  rintro e w3 ⟨rfl, hb⟩
  have HB3 := Aside0.mk (below_step HB2.out hb)
  clear hb
  go_wp2_with fail
  refine (K3.out _ (HL.out.below HB3.out)).mono ?_
  rintro e w4 ⟨rfl, hb⟩
  have HB4 := Aside0.mk (below_step HB3.out hb)
  clear hb
  go_wp2_with fail
  refine (K4.out _ (HL.out.below HB4.out)).mono ?_
  rintro e w5 ⟨rfl, hb⟩
  have HB5 := Aside0.mk (below_step HB4.out hb)
  clear hb
  go_wp2_with fail
  refine (K5.out _ (HL.out.below HB5.out)).mono ?_
  rintro e w6 ⟨rfl, hb⟩
  have HB6 := Aside0.mk (below_step HB5.out hb)
  clear hb
  go_wp2_with fail
  refine (K6.out _ (HL.out.below HB6.out)).mono ?_
  rintro e w7 ⟨rfl, hb⟩
  have HB7 := Aside0.mk (below_step HB6.out hb)
  clear hb
  go_wp2_with fail
  refine (K7.out _ (HL.out.below HB7.out)).mono ?_
  rintro e w8 ⟨rfl, hb⟩
  have HB8 := Aside0.mk (below_step HB7.out hb)
  clear hb
  go_wp2_with fail
  refine (K8.out _ (HL.out.below HB8.out)).mono ?_
  rintro e w9 ⟨rfl, hb⟩
  have HB9 := Aside0.mk (below_step HB8.out hb)
  clear hb
  go_wp2_with fail
  refine (K9.out _ (HL.out.below HB9.out)).mono ?_
  rintro e w10 ⟨rfl, hb⟩
  have HB10 := Aside0.mk (below_step HB9.out hb)
  clear hb
  go_wp2_with fail
  refine (K10.out _ (HL.out.below HB10.out)).mono ?_
  rintro e w11 ⟨rfl, hb⟩
  have HB11 := Aside0.mk (below_step HB10.out hb)
  clear hb
  go_wp2_with fail
  refine (K11.out _ (HL.out.below HB11.out)).mono ?_
  rintro e w12 ⟨rfl, hb⟩
  have HB12 := Aside0.mk (below_step HB11.out hb)
  clear hb
  go_wp2_with fail
  refine (K12.out _ (HL.out.below HB12.out)).mono ?_
  rintro e w13 ⟨rfl, hb⟩
  have HB13 := Aside0.mk (below_step HB12.out hb)
  clear hb
  go_wp2_with fail
  refine (K13.out _ (HL.out.below HB13.out)).mono ?_
  rintro e w14 ⟨rfl, hb⟩
  have HB14 := Aside0.mk (below_step HB13.out hb)
  clear hb
  go_wp2_with fail
  refine (K14.out _ (HL.out.below HB14.out)).mono ?_
  rintro e w15 ⟨rfl, hb⟩
  have HB15 := Aside0.mk (below_step HB14.out hb)
  clear hb
  go_wp2_with fail
  refine (K15.out _ (HL.out.below HB15.out)).mono ?_
  rintro e w16 ⟨rfl, hb⟩
  have HB16 := Aside0.mk (below_step HB15.out hb)
  clear hb
  go_wp2_with fail
  refine (K16.out _ (HL.out.below HB16.out)).mono ?_
  rintro e w17 ⟨rfl, hb⟩
  have HB17 := Aside0.mk (below_step HB16.out hb)
  clear hb
  go_wp2_with fail
  refine (K17.out _ (HL.out.below HB17.out)).mono ?_
  rintro e w18 ⟨rfl, hb⟩
  have HB18 := Aside0.mk (below_step HB17.out hb)
  clear hb
  go_wp2_with fail
  refine (K18.out _ (HL.out.below HB18.out)).mono ?_
  rintro e w19 ⟨rfl, hb⟩
  have HB19 := Aside0.mk (below_step HB18.out hb)
  clear hb
  go_wp2_with fail
  refine (K19.out _ (HL.out.below HB19.out)).mono ?_
  rintro e w20 ⟨rfl, hb⟩
  have HB20 := Aside0.mk (below_step HB19.out hb)
  clear hb
  go_wp2_with fail
  go_ret
  exact ⟨by simp, HB20.out⟩
theorem one_ok : validS ⟨#[49]⟩ = true ∧ valS ⟨#[49]⟩ = 1 ∧ validS ⟨#[48]⟩ = true ∧ valS ⟨#[48]⟩ = 0 := by decide +kernel
theorem finNaturalField (a b c : ByteArray) (w : World) (hL : Laid w) (_w0 : a.size ≤ 140737488351232) (_w1 : b.size ≤ 140737488351232) (_w2 : c.size ≤ 140737488351232) :
    Calls Tryd.prog 3 #[.string a, .string b, .string c] w fun e w' => e = .returned (.bool true) ∧ Below w.heap.size w w' := by
  cases hf : (decide (a.size ≤ 80) && (decide (b.size ≤ 80) && decide (c.size ≤ 80)))
  · exact field_far a b c hf w hL
  cases ha : validS a
  · exact field_bad1 a b c hf ha w hL
  cases hb : validS b
  · exact field_bad2 a b c hf ha hb w hL
  cases hc : validS c
  · exact field_bad3 a b c hf ha hb hc w hL
  have hf' := hf
  simp only [Bool.and_eq_true, decide_eq_true_eq] at hf'
  obtain ⟨fa, fb, fc⟩ := hf'
  have la := val_lt ha fa
  have lb := val_lt hb fb
  have lc := val_lt hc fc
  obtain ⟨v1, v2, v3, v4⟩ := one_ok
  obtain ⟨p1, q1, _⟩ := lim_ok (tp_add_lt la lb) (by decide) (by decide)
  obtain ⟨p2, q2, _⟩ := lim_ok (tp_add_lt lb lc) (by decide) (by decide)
  obtain ⟨p3, q3, _⟩ := lim_ok (tp_add_lt (tp_add_lt la lb) (Nat.lt_of_lt_of_le lc (tp_mono (by decide)))) (by decide) (by decide)
  obtain ⟨p4, q4, _⟩ := lim_ok (tp_mul_lt la lb) (by decide) (by decide)
  obtain ⟨p5, q5, _⟩ := lim_ok (tp_mul_lt lb lc) (by decide) (by decide)
  obtain ⟨p6, q6, _⟩ := lim_ok (tp_mul_lt (tp_mul_lt la lb) lc) (by decide) (by decide)
  obtain ⟨p7, q7, _⟩ := lim_ok (tp_mul_lt la lc) (by decide) (by decide)
  obtain ⟨p8, q8, _⟩ := lim_ok (tp_mul_lt la (tp_add_lt lb lc)) (by decide) (by decide)
  have pa := limS_of_le (dec_le_valS ha (Nat.le_refl _))
  have da := decS_valS ha
  exact field_good a b c (decS (valS a + valS b)) (decS (valS b + valS c)) (decS (valS a + valS b + valS c)) (decS (valS a * valS b)) (decS (valS b * valS c)) (decS (valS a * valS b * valS c)) (decS (valS a * valS c)) (decS (valS a * (valS b + valS c))) hf ha hb hc
    (by rw [add_ok ha hb, p1]) (by rw [add_ok hb ha, Nat.add_comm, p1]) (by rw [add_ok hb hc, p2]) (by rw [add_ok q1 hc, valS_decS, p3]) (by rw [add_ok ha q2, valS_decS, ← Nat.add_assoc, p3])
    (by rw [mul_ok ha hb, p4]) (by rw [mul_ok hb ha, Nat.mul_comm, p4]) (by rw [mul_ok hb hc, p5]) (by rw [mul_ok q4 hc, valS_decS, p6]) (by rw [mul_ok ha q5, valS_decS, ← Nat.mul_assoc, p6]) (by rw [mul_ok ha hc, p7])
    (by rw [mul_ok ha q2, valS_decS, p8]) (by rw [add_ok q4 q7, valS_decS, valS_decS, ← Nat.mul_add, p8]) (by rw [add_ok ha v3, v4, Nat.add_zero, pa, da]) (by rw [mul_ok ha v1, v2, Nat.mul_one, pa, da]) w hL
end Go.Proofs.YtdhhbmmidgebhaaDoor

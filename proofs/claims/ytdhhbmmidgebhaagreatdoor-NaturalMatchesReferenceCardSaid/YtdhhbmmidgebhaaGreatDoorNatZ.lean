/- Div of package natural: what it tells, as a given callee. -/
import Derived.Test.YtdhhbmmidgebhaaGreatDoorNatY
namespace Go.Proofs.YtdhhbmmidgebhaaGreatDoor
open Go.RowKit Go.Proofs.YtdhhbmmidgebhaaGreatDoorW.PrintWords Go.Proofs.YtdhhbmmidgebhaaGreatDoorW.PrintMore Go.Proofs.YtdhhbmmidgebhaaGreatDoorW.PrintLast
set_option linter.unusedVariables false
set_option linter.unusedSimpArgs false

theorem op_div (m n : Nat) (h0 : 0 < n) (hm : (limbs m).length ≤ 1000) (hn : (limbs n).length ≤ 1000) (W : World) (base : Nat) (v1 v2 : Value) (h1 : Kd.R (Kd.int .i64) 3 W base (fun _ => True) v1 (limbs m)) (h2 : Kd.R (Kd.int .i64) 3 W base (fun _ => True) v2 (limbs n)) :
    Calls Tryz.prog 36 #[v1, v2] W fun e W' => ∃ u1 u2, e = .returned (.tuple #[u1, u2]) ∧ IsN W' u1 (m / n) ∧ IsN W' u2 (m % n) ∧ Below W.heap.size W W' := by
  obtain ⟨A1, c1, rfl, l1, r1⟩ := Kd.R_reads h1
  obtain ⟨A2, c2, rfl, l2, r2⟩ := Kd.R_reads h2
  obtain ⟨K, hK⟩ := div_ev m n h0 hm hn
  refine (XLimb.natural_limbs_div.calls K A1 c1 _ A2 c2 _ _ _ W r1 l1 r2 l2 (hK K (Nat.le_refl _))).mono ?_
  rintro e W' ⟨u1, u2, rfl, g1, g2, hb⟩
  exact ⟨u1, u2, rfl, IsN.of_R g1, IsN.of_R g2, hb⟩
theorem zero_iff {a : ByteArray} (h : validS a = true) : (a.toList == [48]) = decide (valS a = 0) := by
  rw [Bool.eq_iff_iff, beq_iff_eq, decide_eq_true_eq, Lib.toList_data]
  constructor
  · intro e; unfold valS; rw [e]; rfl
  · intro e
    have := congrArg (fun x : ByteArray => x.data.toList) (decS_valS h)
    simp only [e] at this
    rw [← this]
    show Lib.decDigits 0 = _
    exact dec_zero
set_option maxHeartbeats 4000000 in
theorem natural_Div.calls (a0 : ByteArray) (a1 : ByteArray) (r1 : ByteArray) (r2 : ByteArray) (r3 : Int) (w : World) (hL : Laid w) (h : natural_Div.f a0 a1 = some (r1, r2, r3)) :
    Calls Tryz.prog 13 #[.string a0, .string a1] w fun e w' => e = .returned (.tuple #[.string r1, .string r2, .int .i64 r3]) ∧ Below w.heap.size w w' := by
  injection h with h
  have HL := Lib.hid hL
  clear hL
  cases ha : validS a0 with
  | false =>
    have e : divS a0 a1 = (noS, noS, 1) := by unfold divS; rw [ha]; rfl
    rw [e] at h
    simp only [Prod.mk.injEq] at h
    obtain ⟨rfl, rfl, rfl⟩ := h
    have HA := Lib.hid ha
    clear ha e
    go_enter Tryz.func13, Tryz.ntmps13
    go_wp2_with fail
    refine (valid_any a0 _ HL.out).mono ?_
    rintro e w1 ⟨rfl, hb1⟩
    rw [HA.out]
    have HB1 := Aside0.mk hb1
    clear hb1
    go_wp2_with fail
    go_ret3
    exact ⟨rfl, HB1.out⟩
  | true =>
  cases hb : validS a1 with
  | false =>
    have e : divS a0 a1 = (noS, noS, 1) := by unfold divS; rw [ha, hb]; rfl
    rw [e] at h
    simp only [Prod.mk.injEq] at h
    obtain ⟨rfl, rfl, rfl⟩ := h
    have HA := Lib.hid ha
    have HV := Lib.hid hb
    clear ha hb e
    go_enter Tryz.func13, Tryz.ntmps13
    go_wp2_with fail
    refine (valid_any a0 _ HL.out).mono ?_
    rintro e w1 ⟨rfl, hb1⟩
    rw [HA.out]
    have HB1 := Aside0.mk hb1
    clear hb1
    go_wp2_with fail
    refine (valid_any a1 _ (HL.out.below HB1.out)).mono ?_
    rintro e w2 ⟨rfl, hb2⟩
    rw [HV.out]
    have HB2 := Aside0.mk (below_step HB1.out hb2)
    clear hb2
    go_wp2_with fail
    go_ret3
    exact ⟨rfl, HB2.out⟩
  | true =>
    have hz := zero_iff hb
    by_cases h0 : valS a1 = 0
    · have e : divS a0 a1 = (noS, noS, 14) := by unfold divS; rw [ha, hb, if_pos (c := valS a1 = 0) h0]; rfl
      rw [e] at h
      simp only [Prod.mk.injEq] at h
      obtain ⟨rfl, rfl, rfl⟩ := h
      rw [h0] at hz
      have hz' : (a1.toList == [48]) = true := hz.trans rfl
      have HA := Lib.hid ha
      have HV := Lib.hid hb
      clear ha hb e hz h0
      go_enter Tryz.func13, Tryz.ntmps13
      go_wp2_with fail
      refine (valid_any a0 _ HL.out).mono ?_
      rintro e w1 ⟨rfl, hb1⟩
      rw [HA.out]
      have HB1 := Aside0.mk hb1
      clear hb1
      go_wp2_with fail
      refine (valid_any a1 _ (HL.out.below HB1.out)).mono ?_
      rintro e w2 ⟨rfl, hb2⟩
      rw [HV.out]
      have HB2 := Aside0.mk (below_step HB1.out hb2)
      clear hb2
      go_wp2_with fail
      go_ret3
      exact ⟨rfl, HB2.out⟩
    · have e : divS a0 a1 = (decS (valS a0 / valS a1), decS (valS a0 % valS a1), 0) := by unfold divS; rw [ha, hb, if_neg (c := valS a1 = 0) h0]; rfl
      rw [e] at h
      simp only [Prod.mk.injEq] at h
      obtain ⟨rfl, rfl, rfl⟩ := h
      have hz' : (a1.toList == [48]) = false := by rw [hz]; exact decide_eq_false h0
      have hq := limS_of_le (dec_le_valS ha (m := valS a0 / valS a1) (Nat.div_le_self _ _))
      have hm := limS_of_le (dec_le_valS ha (m := valS a0 % valS a1) (Nat.mod_le _ _))
      have lq := Nat.le_trans (limbs_mono (Nat.div_le_self (valS a0) (valS a1))) (limbs_len_valS ha)
      have lm := Nat.le_trans (limbs_mono (Nat.mod_le (valS a0) (valS a1))) (limbs_len_valS ha)
      have HOP := Lib.hid (op_div (valS a0) (valS a1) (Nat.pos_of_ne_zero h0) (Nat.le_trans (limbs_len_valS ha) (by decide)) (Nat.le_trans (limbs_len_valS hb) (by decide)))
      have RA := Lib.hid (fun W => read_calls a0 ha W)
      have RB := Lib.hid (fun W => read_calls a1 hb W)
      have TQ := Lib.hid (fun v W hL hv => text_any (valS a0 / valS a1) (by omega) v W hL hv)
      have TM := Lib.hid (fun v W hL hv => text_any (valS a0 % valS a1) (by omega) v W hL hv)
      rw [hq] at TQ
      rw [hm] at TM
      have HA := Lib.hid ha
      have HV := Lib.hid hb
      clear ha hb e hz h0 hq hm lq lm
      generalize valS a0 / valS a1 = q at *
      generalize valS a0 % valS a1 = r at *
      generalize hsq : decS q = sq at *
      generalize hsr : decS r = sr at *
      clear hsq hsr
      go_enter Tryz.func13, Tryz.ntmps13
      go_wp2_with fail
      refine (valid_any a0 _ HL.out).mono ?_
      rintro e w1 ⟨rfl, hb1⟩
      rw [HA.out]
      have HB1 := Aside0.mk hb1
      clear hb1
      go_wp2_with fail
      refine (valid_any a1 _ (HL.out.below HB1.out)).mono ?_
      rintro e w2 ⟨rfl, hb2⟩
      rw [HV.out]
      have HB2 := Aside0.mk (below_step HB1.out hb2)
      clear hb2
      go_wp2_with fail
      refine (RA.out _).mono ?_
      rintro e w3 ⟨v3, rfl, hr3, hb3⟩
      have HR3 := Aside0.mk (Kd.R_lower hr3 HB2.out.size)
      have HB3 := Aside0.mk (below_step HB2.out hb3)
      clear hb3 hr3
      go_wp2_with fail
      refine (RB.out _).mono ?_
      rintro e w4 ⟨v4, rfl, hr4, hb4⟩
      have HR4 := Aside0.mk (Kd.R_lower hr4 HB3.out.size)
      have HR3' := Aside0.mk (Kd.R_below HR3.out hb4)
      have HB4 := Aside0.mk (below_step HB3.out hb4)
      clear hb4 hr4
      go_wp2_with fail
      refine (HOP.out _ _ _ _ HR3'.out HR4.out).mono ?_
      rintro e w5 ⟨u1, u2, rfl, hn1, hn2, hb5⟩
      have HB5 := Aside0.mk (below_step HB4.out hb5)
      have HN1 := Aside0.mk hn1
      have HN2 := Aside0.mk hn2
      clear hb5 hn1 hn2
      go_wp2_with fail
      refine (TQ.out _ _ (HL.out.below HB5.out) HN1.out).mono ?_
      rintro e w6 ⟨rfl, hb6⟩
      have HB6 := Aside0.mk (below_step HB5.out hb6)
      have HN2' := Aside0.mk (HN2.out.below hb6)
      clear hb6
      go_wp2_with fail
      refine (TM.out _ _ (HL.out.below HB6.out) HN2'.out).mono ?_
      rintro e w7 ⟨rfl, hb7⟩
      have HB7 := Aside0.mk (below_step HB6.out hb7)
      clear hb7
      go_wp2_with fail
      go_ret3
      exact ⟨rfl, HB7.out⟩
#print axioms natural_Div.calls
end Go.Proofs.YtdhhbmmidgebhaaGreatDoor

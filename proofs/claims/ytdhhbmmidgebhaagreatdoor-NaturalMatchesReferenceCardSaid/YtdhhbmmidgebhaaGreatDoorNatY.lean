/- Compare, Sub, Div, Of, Int of package natural: what they tell, as given callees. -/
import Derived.Test.YtdhhbmmidgebhaaGreatDoorNatX
import Derived.WideLaws
import Derived.WalkSpells
namespace Go.Proofs.YtdhhbmmidgebhaaGreatDoor
open Go.RowKit Go.Proofs.YtdhhbmmidgebhaaGreatDoorW.PrintWords Go.Proofs.YtdhhbmmidgebhaaGreatDoorW.PrintMore Go.Proofs.YtdhhbmmidgebhaaGreatDoorW.PrintLast
set_option linter.unusedVariables false
set_option linter.unusedSimpArgs false

def cmpS (a b : ByteArray) : Int := if validS a && validS b then cmpI (valS a) (valS b) else 0
def subS (a b : ByteArray) : ByteArray × Int := if validS a && validS b then (if valS a < valS b then (noS, 9) else (decS (valS a - valS b), 0)) else (noS, 1)
def divS (a b : ByteArray) : ByteArray × ByteArray × Int := if validS a && validS b then (if valS b = 0 then (noS, noS, 14) else (decS (valS a / valS b), decS (valS a % valS b), 0)) else (noS, noS, 1)
def ofS (n : Int) : ByteArray × Int := if n < 0 then (noS, 9) else (decS n.toNat, 0)
def intS (a : ByteArray) : Int × Int := if validS a then (if valS a ≤ 1000000000000 then (valS a, 0) else (0, 9)) else (0, 1)
def natural_Compare.f (a b : ByteArray) : Option Int := some (cmpS a b)
def natural_Sub.f (a b : ByteArray) : Option (ByteArray × Int) := some (subS a b)
def natural_Div.f (a b : ByteArray) : Option (ByteArray × ByteArray × Int) := some (divS a b)
def natural_Of.f (n : Int) : Option (ByteArray × Int) := if n ≤ 9223372036854775807 then some (ofS n) else none
def natural_Int.f (a : ByteArray) : Option (Int × Int) := some (intS a)

/-! ### Compare -/
theorem op_compare (m n : Nat) (hm : (limbs m).length ≤ 1000) (hn : (limbs n).length ≤ 1000) (W : World) (base : Nat) (v1 v2 : Value) (h1 : Kd.R (Kd.int .i64) 3 W base (fun _ => True) v1 (limbs m)) (h2 : Kd.R (Kd.int .i64) 3 W base (fun _ => True) v2 (limbs n)) :
    Calls Tryz.prog 44 #[v1, v2] W fun e W' => e = .returned (.int .i64 (cmpI m n)) ∧ Below W.heap.size W W' := by
  obtain ⟨A1, c1, rfl, l1, r1⟩ := Kd.R_reads h1
  obtain ⟨A2, c2, rfl, l2, r2⟩ := Kd.R_reads h2
  refine (XLimb.natural_limbs_compare.calls 10000 A1 c1 _ A2 c2 _ _ W r1 l1 r2 l2 (compare_ev m n (by omega) (by omega) 10000 (by omega))).mono ?_
  rintro e W' ⟨rfl, hd⟩
  exact ⟨rfl, hd.below⟩
set_option maxHeartbeats 2000000 in
theorem natural_Compare.calls (a0 : ByteArray) (a1 : ByteArray) (r : Int) (w : World) (hL : Laid w) (h : natural_Compare.f a0 a1 = some r) :
    Calls Tryz.prog 23 #[.string a0, .string a1] w fun e w' => e = .returned (.int .i64 r) ∧ Below w.heap.size w w' := by
  injection h with h
  subst h
  have HL := Lib.hid hL
  clear hL
  cases ha : validS a0 with
  | false =>
    have e : cmpS a0 a1 = 0 := by unfold cmpS; rw [ha]; rfl
    rw [e]
    have HA := Lib.hid ha
    clear ha e
    go_enter Tryz.func23, Tryz.ntmps23
    go_wp2_with fail
    refine (valid_any a0 _ HL.out).mono ?_
    rintro e w1 ⟨rfl, hb1⟩
    rw [HA.out]
    have HB1 := Aside0.mk hb1
    clear hb1
    go_wp2_with fail
    go_ret
    exact ⟨rfl, HB1.out⟩
  | true =>
  cases hb : validS a1 with
  | false =>
    have e : cmpS a0 a1 = 0 := by unfold cmpS; rw [ha, hb]; rfl
    rw [e]
    have HA := Lib.hid ha
    have HV := Lib.hid hb
    clear ha hb e
    go_enter Tryz.func23, Tryz.ntmps23
    go_wp2_with fail
    refine (valid_any a0 _ HL.out).mono ?_
    rintro e w1 ⟨rfl, hb1⟩
    rw [HA.out]
    have HB1 := Aside0.mk hb1
    clear hb1
    go_wp2_with fail
    refine (valid_any a1 _ (HL.out.below HB1.out)).mono ?_
    rintro e w2 ⟨rfl, hb2⟩
    rw [HV.out]
    have HB2 := Aside0.mk (below_step HB1.out hb2)
    clear hb2
    go_wp2_with fail
    go_ret
    exact ⟨rfl, HB2.out⟩
  | true =>
    have e : cmpS a0 a1 = cmpI (valS a0) (valS a1) := by unfold cmpS; rw [ha, hb]; rfl
    rw [e]
    have HA := Lib.hid ha
    have HV := Lib.hid hb
    have HOP := Lib.hid (op_compare (valS a0) (valS a1) (Nat.le_trans (limbs_len_valS ha) (by decide)) (Nat.le_trans (limbs_len_valS hb) (by decide)))
    have RA := Lib.hid (fun W => read_calls a0 ha W)
    have RB := Lib.hid (fun W => read_calls a1 hb W)
    clear ha hb e
    generalize cmpI (valS a0) (valS a1) = c at *
    go_enter Tryz.func23, Tryz.ntmps23
    go_wp2_with fail
    refine (valid_any a0 _ HL.out).mono ?_
    rintro e w1 ⟨rfl, hb1⟩
    rw [HA.out]
    have HB1 := Aside0.mk hb1
    clear hb1
    go_wp2_with fail
    refine (valid_any a1 _ (HL.out.below HB1.out)).mono ?_
    rintro e w2 ⟨rfl, hb2⟩
    rw [HV.out]
    have HB2 := Aside0.mk (below_step HB1.out hb2)
    clear hb2
    go_wp2_with fail
    refine (RA.out _).mono ?_
    rintro e w3 ⟨v3, rfl, hr3, hb3⟩
    have HR3 := Aside0.mk (Kd.R_lower hr3 HB2.out.size)
    have HB3 := Aside0.mk (below_step HB2.out hb3)
    clear hb3 hr3
    go_wp2_with fail
    refine (RB.out _).mono ?_
    rintro e w4 ⟨v4, rfl, hr4, hb4⟩
    have HR4 := Aside0.mk (Kd.R_lower hr4 HB3.out.size)
    have HR3' := Aside0.mk (Kd.R_below HR3.out hb4)
    have HB4 := Aside0.mk (below_step HB3.out hb4)
    clear hb4 hr4
    go_wp2_with fail
    refine (HOP.out _ _ _ _ HR3'.out HR4.out).mono ?_
    rintro e w5 ⟨rfl, hb5⟩
    have HB5 := Aside0.mk (below_step HB4.out hb5)
    clear hb5
    go_wp2_with fail
    go_ret
    exact ⟨rfl, HB5.out⟩

/-! ### Sub -/
theorem cmpI_lt {m n : Nat} (h : m < n) : cmpI m n = -1 := by unfold cmpI; rw [if_pos (by omega)]
theorem cmpI_ge {m n : Nat} (h : ¬ m < n) : 0 ≤ cmpI m n := by unfold cmpI; rw [if_neg (by omega)]; split <;> omega
theorem limS_of_le {m : Nat} (h : (Lib.decDigits m).length ≤ 1000) : limS m = (decS m, 0) := by unfold limS; rw [if_neg (by omega)]
theorem dec_le_valS {a : ByteArray} (h : validS a = true) {m : Nat} (hm : m ≤ valS a) : (Lib.decDigits m).length ≤ 1000 := by
  have := dec_mono hm
  rw [dec_len_valS h] at this
  have h2 := (validL_iff.1 h).2.1
  rw [size_list] at h2
  omega
set_option maxHeartbeats 2000000 in
theorem natural_Sub.calls (a0 : ByteArray) (a1 : ByteArray) (r1 : ByteArray) (r2 : Int) (w : World) (hL : Laid w) (h : natural_Sub.f a0 a1 = some (r1, r2)) :
    Calls Tryz.prog 9 #[.string a0, .string a1] w fun e w' => e = .returned (.tuple #[.string r1, .int .i64 r2]) ∧ Below w.heap.size w w' := by
  injection h with h
  have HL := Lib.hid hL
  clear hL
  have CC := Lib.hid (fun W hW => natural_Compare.calls a0 a1 _ W hW rfl)
  have CB := Lib.hid (fun W hW r hr hop => both_sub a0 a1 W hW r hr hop)
  cases ha : validS a0 with
  | false =>
    have e : subS a0 a1 = (noS, 1) := by unfold subS; rw [ha]; rfl
    rw [e] at h
    simp only [Prod.mk.injEq] at h
    obtain ⟨rfl, rfl⟩ := h
    have CB2 := Lib.hid (fun W hW => CB.out W hW 0 (by rw [limbs_zero]; simp) (fun z => by rw [ha] at z; cases z))
    rw [ha] at CB2
    have HA := Lib.hid ha
    clear ha e
    go_enter Tryz.func9, Tryz.ntmps9
    go_wp2_with fail
    refine (valid_any a0 _ HL.out).mono ?_
    rintro e w1 ⟨rfl, hb1⟩
    rw [HA.out]
    have HB1 := Aside0.mk hb1
    clear hb1
    go_wp2_with fail
    refine (CB2.out _ (HL.out.below HB1.out)).mono ?_
    rintro e w2 ⟨rfl, hb2⟩
    have HB2 := Aside0.mk (below_step HB1.out hb2)
    clear hb2
    go_wp2_with fail
    go_ret2
    exact ⟨by simp [noS], HB2.out⟩
  | true =>
  cases hb : validS a1 with
  | false =>
    have e : subS a0 a1 = (noS, 1) := by unfold subS; rw [ha, hb]; rfl
    rw [e] at h
    simp only [Prod.mk.injEq] at h
    obtain ⟨rfl, rfl⟩ := h
    have CB2 := Lib.hid (fun W hW => CB.out W hW 0 (by rw [limbs_zero]; simp) (fun _ z => by rw [hb] at z; cases z))
    rw [ha, hb] at CB2
    have HA := Lib.hid ha
    have HV := Lib.hid hb
    clear ha hb e
    go_enter Tryz.func9, Tryz.ntmps9
    go_wp2_with fail
    refine (valid_any a0 _ HL.out).mono ?_
    rintro e w1 ⟨rfl, hb1⟩
    rw [HA.out]
    have HB1 := Aside0.mk hb1
    clear hb1
    go_wp2_with fail
    refine (valid_any a1 _ (HL.out.below HB1.out)).mono ?_
    rintro e w2 ⟨rfl, hb2⟩
    rw [HV.out]
    have HB2 := Aside0.mk (below_step HB1.out hb2)
    clear hb2
    go_wp2_with fail
    refine (CB2.out _ (HL.out.below HB2.out)).mono ?_
    rintro e w3 ⟨rfl, hb3⟩
    have HB3 := Aside0.mk (below_step HB2.out hb3)
    clear hb3
    go_wp2_with fail
    go_ret2
    exact ⟨by simp [noS], HB3.out⟩
  | true =>
    have ec : cmpS a0 a1 = cmpI (valS a0) (valS a1) := by unfold cmpS; rw [ha, hb]; rfl
    by_cases hlt : valS a0 < valS a1
    · have e : subS a0 a1 = (noS, 9) := by unfold subS; rw [ha, hb, if_pos hlt]; rfl
      rw [e] at h
      simp only [Prod.mk.injEq] at h
      obtain ⟨rfl, rfl⟩ := h
      have EC := Lib.hid (ec.trans (cmpI_lt hlt))
      have HA := Lib.hid ha
      have HV := Lib.hid hb
      clear ha hb e ec hlt CB
      go_enter Tryz.func9, Tryz.ntmps9
      go_wp2_with fail
      refine (valid_any a0 _ HL.out).mono ?_
      rintro e w1 ⟨rfl, hb1⟩
      rw [HA.out]
      have HB1 := Aside0.mk hb1
      clear hb1
      go_wp2_with fail
      refine (valid_any a1 _ (HL.out.below HB1.out)).mono ?_
      rintro e w2 ⟨rfl, hb2⟩
      rw [HV.out]
      have HB2 := Aside0.mk (below_step HB1.out hb2)
      clear hb2
      go_wp2_with fail
      refine (CC.out _ (HL.out.below HB2.out)).mono ?_
      rintro e w3 ⟨rfl, hb3⟩
      rw [EC.out]
      have HB3 := Aside0.mk (below_step HB2.out hb3)
      clear hb3
      go_wp2_with fail
      go_ret2
      exact ⟨by simp [noS], HB3.out⟩
    · have hd := dec_le_valS ha (m := valS a0 - valS a1) (by omega)
      have e : subS a0 a1 = limS (valS a0 - valS a1) := by rw [limS_of_le hd]; unfold subS; rw [ha, hb, if_neg hlt]; rfl
      rw [e] at h
      have h1 := congrArg Prod.fst h
      have h2 := congrArg Prod.snd h
      simp only at h1 h2
      subst h1 h2
      have hg := cmpI_ge hlt
      rw [← ec] at hg
      have CB2 := Lib.hid (fun W hW => CB.out W hW (valS a0 - valS a1) (Nat.le_trans (limbs_mono (Nat.sub_le _ _)) (Nat.le_trans (limbs_len_valS ha) (by decide))) (fun _ _ W base v1 v2 g1 g2 => op_sub _ _ (Nat.le_trans (limbs_len_valS ha) (by decide)) (Nat.le_trans (limbs_len_valS hb) (by decide)) (by omega) W base v1 v2 g1 g2))
      rw [ha, hb] at CB2
      have HA := Lib.hid ha
      have HV := Lib.hid hb
      have hg' : ¬ cmpS a0 a1 < 0 := by omega
      clear ha hb e ec hlt CB hd hg h
      generalize cmpS a0 a1 = c at *
      generalize limS (valS a0 - valS a1) = q at *
      go_enter Tryz.func9, Tryz.ntmps9
      go_wp2_with fail
      refine (valid_any a0 _ HL.out).mono ?_
      rintro e w1 ⟨rfl, hb1⟩
      rw [HA.out]
      have HB1 := Aside0.mk hb1
      clear hb1
      go_wp2_with fail
      refine (valid_any a1 _ (HL.out.below HB1.out)).mono ?_
      rintro e w2 ⟨rfl, hb2⟩
      rw [HV.out]
      have HB2 := Aside0.mk (below_step HB1.out hb2)
      clear hb2
      go_wp2_with fail
      refine (CC.out _ (HL.out.below HB2.out)).mono ?_
      rintro e w3 ⟨rfl, hb3⟩
      have HB3 := Aside0.mk (below_step HB2.out hb3)
      clear hb3
      go_wp2_with fail
      refine (CB2.out _ (HL.out.below HB3.out)).mono ?_
      rintro e w4 ⟨rfl, hb4⟩
      have HB4 := Aside0.mk (below_step HB3.out hb4)
      clear hb4
      go_wp2_with fail
      go_ret2
      exact ⟨by simp, HB4.out⟩

/-! ### Of -/
theorem natural_Of.calls (a0 : Int) (r1 : ByteArray) (r2 : Int) (w : World) (hL : Laid w) (h : natural_Of.f a0 = some (r1, r2)) :
    Calls Tryz.prog 17 #[.int .i64 a0] w fun e w' => e = .returned (.tuple #[.string r1, .int .i64 r2]) ∧ Below w.heap.size w w' := by
  unfold natural_Of.f at h
  split at h
  case isFalse => cases h
  rename_i hm
  injection h with h
  have HL := Lib.hid hL
  clear hL
  by_cases hn : a0 < 0
  · have e : ofS a0 = (noS, 9) := by unfold ofS; rw [if_pos hn]
    rw [e] at h
    simp only [Prod.mk.injEq] at h
    obtain ⟨rfl, rfl⟩ := h
    clear e hm
    go_enter Tryz.func17, Tryz.ntmps17
    go_wp2_with fail
    go_ret2
    exact ⟨rfl, Below.refl _ _⟩
  · have e : ofS a0 = (decS a0.toNat, 0) := by unfold ofS; rw [if_neg hn]
    rw [e] at h
    simp only [Prod.mk.injEq] at h
    obtain ⟨rfl, rfl⟩ := h
    have hi : strconv_Itoa.f a0 = some (decS a0.toNat) := by unfold strconv_Itoa.f; rw [if_pos (by omega), itoa_nat (by omega)]; rfl
    have HI := Lib.hid (fun W hW => strconv_Itoa.calls a0 _ W hW hi)
    clear e hm hi
    go_enter Tryz.func17, Tryz.ntmps17
    go_wp2_with fail
    refine (HI.out _ HL.out).mono ?_
    rintro e w1 ⟨rfl, hb1⟩
    have HB1 := Aside0.mk hb1
    clear hb1
    go_wp2_with fail
    go_ret2
    exact ⟨rfl, HB1.out⟩

/-! ### Int -/
set_option maxHeartbeats 2000000 in
theorem natural_Int.calls (a0 : ByteArray) (r1 : Int) (r2 : Int) (w : World) (hL : Laid w) (h : natural_Int.f a0 = some (r1, r2)) :
    Calls Tryz.prog 19 #[.string a0] w fun e w' => e = .returned (.tuple #[.int .i64 r1, .int .i64 r2]) ∧ Below w.heap.size w w' := by
  injection h with h
  have HL := Lib.hid hL
  clear hL
  cases ha : validS a0 with
  | false =>
    have e : intS a0 = (0, 1) := by unfold intS; rw [ha]; rfl
    rw [e] at h
    simp only [Prod.mk.injEq] at h
    obtain ⟨rfl, rfl⟩ := h
    have HA := Lib.hid ha
    clear ha e
    go_enter Tryz.func19, Tryz.ntmps19
    go_wp2_with fail
    refine (valid_any a0 _ HL.out).mono ?_
    rintro e w1 ⟨rfl, hb1⟩
    rw [HA.out]
    have HB1 := Aside0.mk hb1
    clear hb1
    go_wp2_with fail
    go_ret2
    exact ⟨rfl, HB1.out⟩
  | true =>
    obtain ⟨g1, g2, g3, g4⟩ := validL_iff.1 ha
    rw [size_list] at g1 g2
    have HA := Lib.hid ha
    by_cases hbig : num a0.data.toList < 9223372036854775808
    · have AT := Lib.hid (fun W => strconv_Atoi.ok g3 g1 hbig (by omega) W)
      have hv1 : ((valS a0 : Nat) : Int) ≤ 9223372036854775807 := by show ((num a0.data.toList : Nat) : Int) ≤ _; omega
      by_cases hmx : valS a0 ≤ 1000000000000
      · have e : intS a0 = (((valS a0 : Nat) : Int), 0) := by unfold intS; rw [ha, if_pos hmx]; rfl
        rw [e] at h
        simp only [Prod.mk.injEq] at h
        obtain ⟨rfl, rfl⟩ := h
        have hm1 : ¬ (1000000000000 : Int) < (valS a0 : Nat) := by omega
        clear ha e hbig hmx g1 g2 g3 g4
        generalize valS a0 = v at *
        go_enter Tryz.func19, Tryz.ntmps19
        go_wp2_with fail
        refine (valid_any a0 _ HL.out).mono ?_
        rintro e w1 ⟨rfl, hb1⟩
        rw [HA.out]
        have HB1 := Aside0.mk hb1
        clear hb1
        go_wp2_with fail
        refine (AT.out _).mono ?_
        rintro e w2 ⟨rfl, hb2⟩
        have HB2 := Aside0.mk (below_step HB1.out hb2)
        clear hb2
        go_wp2_with fail
        go_ret2
        exact ⟨rfl, HB2.out⟩
      · have e : intS a0 = (0, 9) := by unfold intS; rw [ha, if_neg hmx]; rfl
        rw [e] at h
        simp only [Prod.mk.injEq] at h
        obtain ⟨rfl, rfl⟩ := h
        have hm1 : (1000000000000 : Int) < (valS a0 : Nat) := by omega
        clear ha e hbig hmx g1 g2 g3 g4
        generalize valS a0 = v at *
        go_enter Tryz.func19, Tryz.ntmps19
        go_wp2_with fail
        refine (valid_any a0 _ HL.out).mono ?_
        rintro e w1 ⟨rfl, hb1⟩
        rw [HA.out]
        have HB1 := Aside0.mk hb1
        clear hb1
        go_wp2_with fail
        refine (AT.out _).mono ?_
        rintro e w2 ⟨rfl, hb2⟩
        have HB2 := Aside0.mk (below_step HB1.out hb2)
        clear hb2
        go_wp2_with fail
        go_ret2
        exact ⟨rfl, HB2.out⟩
    · have hne : a0.data.toList ≠ [] := by intro e; have := size_list a0; rw [e] at this; simp at this; omega
      have hr : Lib.atoiAll a0.data.toList = .range := by rw [atoi_digits g3 hne, if_neg hbig]
      have AT := Lib.hid (fun (W : World) tp p (hv : W.var? Tryz.prog "strconv.ErrRange" = some #[.iface tp p]) => Tryz.strconv_Atoi_range_var a0 (by omega) hr tp p W hv)
      have e : intS a0 = (0, 9) := by unfold intS; rw [ha, if_neg (c := valS a0 ≤ 1000000000000) (by show ¬ num a0.data.toList ≤ _; omega)]; rfl
      rw [e] at h
      simp only [Prod.mk.injEq] at h
      obtain ⟨rfl, rfl⟩ := h
      clear ha e hbig g1 g2 g3 g4 hne hr
      generalize Lib.atoiSat a0.data.toList = v at *
      go_enter Tryz.func19, Tryz.ntmps19
      go_wp2_with fail
      refine (valid_any a0 _ HL.out).mono ?_
      rintro e w1 ⟨rfl, hb1⟩
      rw [HA.out]
      have HB1 := Aside0.mk hb1
      clear hb1
      go_wp2_with fail
      obtain ⟨tp, p, hv⟩ := (HL.out.below HB1.out).rng
      refine (AT.out _ tp p hv).mono ?_
      rintro e w2 ⟨N, rfl, _, _, hb2⟩
      have HB2 := Aside0.mk (below_step HB1.out hb2)
      clear hb2 hv
      go_wp2_with fail
      go_ret2
      exact ⟨rfl, HB2.out⟩
#print axioms natural_Int.calls
end Go.Proofs.YtdhhbmmidgebhaaGreatDoor

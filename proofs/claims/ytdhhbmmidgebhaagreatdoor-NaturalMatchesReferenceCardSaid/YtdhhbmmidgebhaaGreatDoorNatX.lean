/- both over its four operations; the exported functions of package natural: what they tell, as given callees. -/
import Derived.Test.YtdhhbmmidgebhaaGreatDoorNatRead
import Derived.Test.YtdhhbmmidgebhaaGreatDoorNatText
import Derived.Test.YtdhhbmmidgebhaaGreatDoorNatPure
import Derived.WalkLawsBesides
namespace Go.Proofs.YtdhhbmmidgebhaaGreatDoor
open Go.RowKit Go.Proofs.YtdhhbmmidgebhaaGreatDoorW.PrintWords Go.Proofs.YtdhhbmmidgebhaaGreatDoorW.PrintMore Go.Proofs.YtdhhbmmidgebhaaGreatDoorW.PrintLast
set_option linter.unusedVariables false
set_option linter.unusedSimpArgs false

/-- A slice that reads as the limbs of m. -/
def IsN (w : World) (v : Value) (m : Nat) : Prop := ∃ A c, v = .slice A (limbs m).length c ∧ (limbs m).length ≤ c ∧ Kd.C (Kd.int .i64) w A (limbs m).length (limbs m)
theorem IsN.of_R {w : World} {base : Nat} {ok : Nat → Prop} {v : Value} {m : Nat} (h : Kd.R (Kd.int .i64) 3 w base ok v (limbs m)) : IsN w v m := by
  obtain ⟨A, c, e, hl, hr⟩ := Kd.R_reads h
  exact ⟨A, c, e, hl, hr⟩
theorem IsN.below {w w' : World} {v : Value} {m : Nat} (h : IsN w v m) (hb : Below w.heap.size w w') : IsN w' v m := by
  obtain ⟨A, c, e, hl, hr⟩ := h
  exact ⟨A, c, e, hl, Kd.C_below hr hb⟩

/-! ### Gcd's own operation -/
theorem gcd_ev : ∀ (n m : Nat), (limbs m).length ≤ 1000 → (limbs n).length ≤ 1000 → Evt (fun k => XLimb.natural_Gcd_1.l0 k (limbs m) (limbs n)) (limbs (Nat.gcd m n)) := by
  intro n
  induction n using Nat.strongRecOn with
  | _ n ih =>
  intro m hm hn
  by_cases h0 : n = 0
  · subst h0
    refine ⟨1, fun k hk => ?_⟩
    obtain ⟨k, rfl⟩ : ∃ m, k = m + 1 := ⟨k - 1, by omega⟩
    simp only [XLimb.natural_Gcd_1.l0]
    rw [limbs_zero, if_neg (by simp), Nat.gcd_zero_right]
  · have hlt := Nat.mod_lt m (Nat.pos_of_ne_zero h0)
    obtain ⟨K1, h1⟩ := div_ev m n (Nat.pos_of_ne_zero h0) hm hn
    obtain ⟨K2, h2⟩ := ih (m % n) hlt n hn (Nat.le_trans (limbs_mono (Nat.le_of_lt hlt)) hn)
    refine ⟨K1 + K2 + 1, fun k hk => ?_⟩
    obtain ⟨k, rfl⟩ : ∃ m, k = m + 1 := ⟨k - 1, by omega⟩
    simp only [XLimb.natural_Gcd_1.l0]
    have hl : 0 < (limbs n).length := List.length_pos_iff.2 (fun z => h0 (limbs_nil.1 z))
    have h1' : XLimb.natural_limbs_div.f k (limbs m) (limbs n) = some (limbs (m / n), limbs (m % n)) := h1 k (by omega)
    rw [if_pos (by omega), h1']
    simp only [Option.bind_some]
    rw [Nat.gcd_comm m n, Nat.gcd_rec n m]
    have := h2 k (by omega)
    rwa [Nat.gcd_comm] at this

/-! ### what the operations come to, in one form -/
theorem op_add (m n : Nat) (hm : (limbs m).length ≤ 1000) (hn : (limbs n).length ≤ 1000) (W : World) (base : Nat) (v1 v2 : Value) (h1 : Kd.R (Kd.int .i64) 3 W base (fun _ => True) v1 (limbs m)) (h2 : Kd.R (Kd.int .i64) 3 W base (fun _ => True) v2 (limbs n)) :
    Calls Tryz.prog 27 #[v1, v2] W fun e W' => ∃ v, e = .returned v ∧ IsN W' v (m + n) ∧ Below W.heap.size W W' := by
  obtain ⟨A1, c1, rfl, l1, r1⟩ := Kd.R_reads h1
  obtain ⟨A2, c2, rfl, l2, r2⟩ := Kd.R_reads h2
  refine (natural_limbs_add.calls A1 c1 _ A2 c2 _ _ W r1 l1 r2 l2 (add_limbs (limbs_good m) (limbs_good n) (by omega) (by omega) (lv_limbs m) (lv_limbs n))).mono ?_
  rintro e W' ⟨v, rfl, hr, hb⟩
  exact ⟨v, rfl, IsN.of_R hr, hb⟩
theorem op_sub (m n : Nat) (hm : (limbs m).length ≤ 1000) (hn : (limbs n).length ≤ 1000) (hle : n ≤ m) (W : World) (base : Nat) (v1 v2 : Value) (h1 : Kd.R (Kd.int .i64) 3 W base (fun _ => True) v1 (limbs m)) (h2 : Kd.R (Kd.int .i64) 3 W base (fun _ => True) v2 (limbs n)) :
    Calls Tryz.prog 30 #[v1, v2] W fun e W' => ∃ v, e = .returned v ∧ IsN W' v (m - n) ∧ Below W.heap.size W W' := by
  obtain ⟨A1, c1, rfl, l1, r1⟩ := Kd.R_reads h1
  obtain ⟨A2, c2, rfl, l2, r2⟩ := Kd.R_reads h2
  refine (natural_limbs_sub.calls A1 c1 _ A2 c2 _ _ W r1 l1 r2 l2 (sub_limbs (limbs_good m) (limbs_good n) (by omega) (by omega) (lv_limbs m) (lv_limbs n) hle)).mono ?_
  rintro e W' ⟨v, rfl, hr, hb⟩
  exact ⟨v, rfl, IsN.of_R hr, hb⟩
theorem op_mul (m n : Nat) (hm : (limbs m).length ≤ 1000) (hn : (limbs n).length ≤ 1000) (W : World) (base : Nat) (v1 v2 : Value) (h1 : Kd.R (Kd.int .i64) 3 W base (fun _ => True) v1 (limbs m)) (h2 : Kd.R (Kd.int .i64) 3 W base (fun _ => True) v2 (limbs n)) :
    Calls Tryz.prog 33 #[v1, v2] W fun e W' => ∃ v, e = .returned v ∧ IsN W' v (m * n) ∧ Below W.heap.size W W' := by
  obtain ⟨A1, c1, rfl, l1, r1⟩ := Kd.R_reads h1
  obtain ⟨A2, c2, rfl, l2, r2⟩ := Kd.R_reads h2
  refine (XLimb.natural_limbs_mul.calls 10000 A1 c1 _ A2 c2 _ _ W r1 l1 r2 l2 (mul_some m n hm hn)).mono ?_
  rintro e W' ⟨v, rfl, hr, hb⟩
  exact ⟨v, rfl, IsN.of_R hr, hb⟩
theorem op_gcd (m n : Nat) (hm : (limbs m).length ≤ 1000) (hn : (limbs n).length ≤ 1000) (W : World) (base : Nat) (v1 v2 : Value) (h1 : Kd.R (Kd.int .i64) 3 W base (fun _ => True) v1 (limbs m)) (h2 : Kd.R (Kd.int .i64) 3 W base (fun _ => True) v2 (limbs n)) :
    Calls Tryz.prog 39 #[v1, v2] W fun e W' => ∃ v, e = .returned v ∧ IsN W' v (Nat.gcd m n) ∧ Below W.heap.size W W' := by
  obtain ⟨A1, c1, rfl, l1, r1⟩ := Kd.R_reads h1
  obtain ⟨A2, c2, rfl, l2, r2⟩ := Kd.R_reads h2
  obtain ⟨K, hK⟩ := gcd_ev n m hm hn
  refine (XLimb.natural_Gcd_1.calls K (fun _ => True) A1 c1 _ (fun _ => True) A2 c2 _ _ W (Kd.R_V h1) (Kd.R_V h2) (hK K (Nat.le_refl _))).mono ?_
  rintro e W' ⟨v, rfl, hr, hb⟩
  obtain ⟨A, c, e, hl, hf⟩ := hr
  exact ⟨v, rfl, ⟨A, c, e, hl, Kd.F_now hf⟩, hb⟩

theorem valid_any (a : ByteArray) (W : World) (hL : Laid W) : Calls Tryz.prog 21 #[.string a] W fun e w' => e = .returned (.bool (validS a)) ∧ Below W.heap.size W w' := natural_Valid.calls a _ W hL rfl
theorem text_any (m : Nat) (hm : (limbs m).length ≤ 1000000) (v : Value) (W : World) (hL : Laid W) (hv : IsN W v m) : Calls Tryz.prog 37 #[v] W fun e w' => e = .returned (.tuple #[.string (limS m).1, .int .i64 (limS m).2]) ∧ Below W.heap.size W w' := by
  obtain ⟨A, c, rfl, hl, hr⟩ := hv
  exact text_calls m A c W hL hr hm

set_option maxHeartbeats 2000000 in
theorem both_add (a b : ByteArray) (w : World) (hL : Laid w) (r : Nat) (hr : (limbs r).length ≤ 1000000)
    (hop : validS a = true → validS b = true → ∀ (W : World) (base : Nat) (v1 v2 : Value), Kd.R (Kd.int .i64) 3 W base (fun _ => True) v1 (limbs (valS a)) → Kd.R (Kd.int .i64) 3 W base (fun _ => True) v2 (limbs (valS b)) →
      Calls Tryz.prog 27 #[v1, v2] W fun e W' => ∃ v, e = .returned v ∧ IsN W' v r ∧ Below W.heap.size W W') :
    Calls Tryz.prog 26 #[.string a, .string b, .func (.func 27) #[] #[]] w fun e w' => e = .returned (.tuple #[.string (if validS a && validS b then (limS r).1 else noS), .int .i64 (if validS a && validS b then (limS r).2 else 1)]) ∧ Below w.heap.size w w' := by
  have HL := Lib.hid hL
  clear hL
  cases ha : validS a with
  | false =>
    have HA := Lib.hid ha
    clear ha hop
    go_enter Tryz.func26, Tryz.ntmps26
    go_wp2_with fail
    refine (valid_any a _ HL.out).mono ?_
    rintro e w1 ⟨rfl, hb1⟩
    rw [HA.out]
    have HB1 := Aside0.mk hb1
    clear hb1
    go_wp2_with fail
    go_ret2
    exact ⟨by simp [noS], HB1.out⟩
  | true =>
  cases hb : validS b with
  | false =>
    have HA := Lib.hid ha
    have HV := Lib.hid hb
    clear ha hb hop
    go_enter Tryz.func26, Tryz.ntmps26
    go_wp2_with fail
    refine (valid_any a _ HL.out).mono ?_
    rintro e w1 ⟨rfl, hb1⟩
    rw [HA.out]
    have HB1 := Aside0.mk hb1
    clear hb1
    go_wp2_with fail
    refine (valid_any b _ (HL.out.below HB1.out)).mono ?_
    rintro e w2 ⟨rfl, hb2⟩
    rw [HV.out]
    have HB2 := Aside0.mk (below_step HB1.out hb2)
    clear hb2
    go_wp2_with fail
    go_ret2
    exact ⟨by simp [noS], HB2.out⟩
  | true =>
    have HA := Lib.hid ha
    have HV := Lib.hid hb
    have HOP := Lib.hid (hop ha hb)
    have RA := Lib.hid (fun W => read_calls a ha W)
    have RB := Lib.hid (fun W => read_calls b hb W)
    clear ha hb hop
    go_enter Tryz.func26, Tryz.ntmps26
    go_wp2_with fail
    refine (valid_any a _ HL.out).mono ?_
    rintro e w1 ⟨rfl, hb1⟩
    rw [HA.out]
    have HB1 := Aside0.mk hb1
    clear hb1
    go_wp2_with fail
    refine (valid_any b _ (HL.out.below HB1.out)).mono ?_
    rintro e w2 ⟨rfl, hb2⟩
    rw [HV.out]
    have HB2 := Aside0.mk (below_step HB1.out hb2)
    clear hb2
    go_wp2_with fail
    refine (RA.out _).mono ?_
    rintro e w3 ⟨v3, rfl, hr3, hb3⟩
    have HR3 := Aside0.mk (Kd.R_lower hr3 HB2.out.size)
    have HB3 := Aside0.mk (below_step HB2.out hb3)
    clear hb3 hr3
    go_wp2_with fail
    refine (RB.out _).mono ?_
    rintro e w4 ⟨v4, rfl, hr4, hb4⟩
    have HR4 := Aside0.mk (Kd.R_lower hr4 HB3.out.size)
    have HR3' := Aside0.mk (Kd.R_below HR3.out hb4)
    have HB4 := Aside0.mk (below_step HB3.out hb4)
    clear hb4 hr4
    go_wp2_with fail
    refine (HOP.out _ _ _ _ HR3'.out HR4.out).mono ?_
    rintro e w5 ⟨v5, rfl, hn5, hb5⟩
    have HB5 := Aside0.mk (below_step HB4.out hb5)
    have HN5 := Aside0.mk hn5
    clear hb5 hn5
    go_wp2_with fail
    refine (text_any r hr _ _ (HL.out.below HB5.out) HN5.out).mono ?_
    rintro e w6 ⟨rfl, hb6⟩
    have HB6 := Aside0.mk (below_step HB5.out hb6)
    clear hb6
    go_wp2_with fail
    go_ret2
    exact ⟨by simp, HB6.out⟩

set_option maxHeartbeats 2000000 in
theorem both_sub (a b : ByteArray) (w : World) (hL : Laid w) (r : Nat) (hr : (limbs r).length ≤ 1000000)
    (hop : validS a = true → validS b = true → ∀ (W : World) (base : Nat) (v1 v2 : Value), Kd.R (Kd.int .i64) 3 W base (fun _ => True) v1 (limbs (valS a)) → Kd.R (Kd.int .i64) 3 W base (fun _ => True) v2 (limbs (valS b)) →
      Calls Tryz.prog 30 #[v1, v2] W fun e W' => ∃ v, e = .returned v ∧ IsN W' v r ∧ Below W.heap.size W W') :
    Calls Tryz.prog 26 #[.string a, .string b, .func (.func 30) #[] #[]] w fun e w' => e = .returned (.tuple #[.string (if validS a && validS b then (limS r).1 else noS), .int .i64 (if validS a && validS b then (limS r).2 else 1)]) ∧ Below w.heap.size w w' := by
  have HL := Lib.hid hL
  clear hL
  cases ha : validS a with
  | false =>
    have HA := Lib.hid ha
    clear ha hop
    go_enter Tryz.func26, Tryz.ntmps26
    go_wp2_with fail
    refine (valid_any a _ HL.out).mono ?_
    rintro e w1 ⟨rfl, hb1⟩
    rw [HA.out]
    have HB1 := Aside0.mk hb1
    clear hb1
    go_wp2_with fail
    go_ret2
    exact ⟨by simp [noS], HB1.out⟩
  | true =>
  cases hb : validS b with
  | false =>
    have HA := Lib.hid ha
    have HV := Lib.hid hb
    clear ha hb hop
    go_enter Tryz.func26, Tryz.ntmps26
    go_wp2_with fail
    refine (valid_any a _ HL.out).mono ?_
    rintro e w1 ⟨rfl, hb1⟩
    rw [HA.out]
    have HB1 := Aside0.mk hb1
    clear hb1
    go_wp2_with fail
    refine (valid_any b _ (HL.out.below HB1.out)).mono ?_
    rintro e w2 ⟨rfl, hb2⟩
    rw [HV.out]
    have HB2 := Aside0.mk (below_step HB1.out hb2)
    clear hb2
    go_wp2_with fail
    go_ret2
    exact ⟨by simp [noS], HB2.out⟩
  | true =>
    have HA := Lib.hid ha
    have HV := Lib.hid hb
    have HOP := Lib.hid (hop ha hb)
    have RA := Lib.hid (fun W => read_calls a ha W)
    have RB := Lib.hid (fun W => read_calls b hb W)
    clear ha hb hop
    go_enter Tryz.func26, Tryz.ntmps26
    go_wp2_with fail
    refine (valid_any a _ HL.out).mono ?_
    rintro e w1 ⟨rfl, hb1⟩
    rw [HA.out]
    have HB1 := Aside0.mk hb1
    clear hb1
    go_wp2_with fail
    refine (valid_any b _ (HL.out.below HB1.out)).mono ?_
    rintro e w2 ⟨rfl, hb2⟩
    rw [HV.out]
    have HB2 := Aside0.mk (below_step HB1.out hb2)
    clear hb2
    go_wp2_with fail
    refine (RA.out _).mono ?_
    rintro e w3 ⟨v3, rfl, hr3, hb3⟩
    have HR3 := Aside0.mk (Kd.R_lower hr3 HB2.out.size)
    have HB3 := Aside0.mk (below_step HB2.out hb3)
    clear hb3 hr3
    go_wp2_with fail
    refine (RB.out _).mono ?_
    rintro e w4 ⟨v4, rfl, hr4, hb4⟩
    have HR4 := Aside0.mk (Kd.R_lower hr4 HB3.out.size)
    have HR3' := Aside0.mk (Kd.R_below HR3.out hb4)
    have HB4 := Aside0.mk (below_step HB3.out hb4)
    clear hb4 hr4
    go_wp2_with fail
    refine (HOP.out _ _ _ _ HR3'.out HR4.out).mono ?_
    rintro e w5 ⟨v5, rfl, hn5, hb5⟩
    have HB5 := Aside0.mk (below_step HB4.out hb5)
    have HN5 := Aside0.mk hn5
    clear hb5 hn5
    go_wp2_with fail
    refine (text_any r hr _ _ (HL.out.below HB5.out) HN5.out).mono ?_
    rintro e w6 ⟨rfl, hb6⟩
    have HB6 := Aside0.mk (below_step HB5.out hb6)
    clear hb6
    go_wp2_with fail
    go_ret2
    exact ⟨by simp, HB6.out⟩

set_option maxHeartbeats 2000000 in
theorem both_mul (a b : ByteArray) (w : World) (hL : Laid w) (r : Nat) (hr : (limbs r).length ≤ 1000000)
    (hop : validS a = true → validS b = true → ∀ (W : World) (base : Nat) (v1 v2 : Value), Kd.R (Kd.int .i64) 3 W base (fun _ => True) v1 (limbs (valS a)) → Kd.R (Kd.int .i64) 3 W base (fun _ => True) v2 (limbs (valS b)) →
      Calls Tryz.prog 33 #[v1, v2] W fun e W' => ∃ v, e = .returned v ∧ IsN W' v r ∧ Below W.heap.size W W') :
    Calls Tryz.prog 26 #[.string a, .string b, .func (.func 33) #[] #[]] w fun e w' => e = .returned (.tuple #[.string (if validS a && validS b then (limS r).1 else noS), .int .i64 (if validS a && validS b then (limS r).2 else 1)]) ∧ Below w.heap.size w w' := by
  have HL := Lib.hid hL
  clear hL
  cases ha : validS a with
  | false =>
    have HA := Lib.hid ha
    clear ha hop
    go_enter Tryz.func26, Tryz.ntmps26
    go_wp2_with fail
    refine (valid_any a _ HL.out).mono ?_
    rintro e w1 ⟨rfl, hb1⟩
    rw [HA.out]
    have HB1 := Aside0.mk hb1
    clear hb1
    go_wp2_with fail
    go_ret2
    exact ⟨by simp [noS], HB1.out⟩
  | true =>
  cases hb : validS b with
  | false =>
    have HA := Lib.hid ha
    have HV := Lib.hid hb
    clear ha hb hop
    go_enter Tryz.func26, Tryz.ntmps26
    go_wp2_with fail
    refine (valid_any a _ HL.out).mono ?_
    rintro e w1 ⟨rfl, hb1⟩
    rw [HA.out]
    have HB1 := Aside0.mk hb1
    clear hb1
    go_wp2_with fail
    refine (valid_any b _ (HL.out.below HB1.out)).mono ?_
    rintro e w2 ⟨rfl, hb2⟩
    rw [HV.out]
    have HB2 := Aside0.mk (below_step HB1.out hb2)
    clear hb2
    go_wp2_with fail
    go_ret2
    exact ⟨by simp [noS], HB2.out⟩
  | true =>
    have HA := Lib.hid ha
    have HV := Lib.hid hb
    have HOP := Lib.hid (hop ha hb)
    have RA := Lib.hid (fun W => read_calls a ha W)
    have RB := Lib.hid (fun W => read_calls b hb W)
    clear ha hb hop
    go_enter Tryz.func26, Tryz.ntmps26
    go_wp2_with fail
    refine (valid_any a _ HL.out).mono ?_
    rintro e w1 ⟨rfl, hb1⟩
    rw [HA.out]
    have HB1 := Aside0.mk hb1
    clear hb1
    go_wp2_with fail
    refine (valid_any b _ (HL.out.below HB1.out)).mono ?_
    rintro e w2 ⟨rfl, hb2⟩
    rw [HV.out]
    have HB2 := Aside0.mk (below_step HB1.out hb2)
    clear hb2
    go_wp2_with fail
    refine (RA.out _).mono ?_
    rintro e w3 ⟨v3, rfl, hr3, hb3⟩
    have HR3 := Aside0.mk (Kd.R_lower hr3 HB2.out.size)
    have HB3 := Aside0.mk (below_step HB2.out hb3)
    clear hb3 hr3
    go_wp2_with fail
    refine (RB.out _).mono ?_
    rintro e w4 ⟨v4, rfl, hr4, hb4⟩
    have HR4 := Aside0.mk (Kd.R_lower hr4 HB3.out.size)
    have HR3' := Aside0.mk (Kd.R_below HR3.out hb4)
    have HB4 := Aside0.mk (below_step HB3.out hb4)
    clear hb4 hr4
    go_wp2_with fail
    refine (HOP.out _ _ _ _ HR3'.out HR4.out).mono ?_
    rintro e w5 ⟨v5, rfl, hn5, hb5⟩
    have HB5 := Aside0.mk (below_step HB4.out hb5)
    have HN5 := Aside0.mk hn5
    clear hb5 hn5
    go_wp2_with fail
    refine (text_any r hr _ _ (HL.out.below HB5.out) HN5.out).mono ?_
    rintro e w6 ⟨rfl, hb6⟩
    have HB6 := Aside0.mk (below_step HB5.out hb6)
    clear hb6
    go_wp2_with fail
    go_ret2
    exact ⟨by simp, HB6.out⟩

set_option maxHeartbeats 2000000 in
theorem both_gcd (a b : ByteArray) (w : World) (hL : Laid w) (r : Nat) (hr : (limbs r).length ≤ 1000000)
    (hop : validS a = true → validS b = true → ∀ (W : World) (base : Nat) (v1 v2 : Value), Kd.R (Kd.int .i64) 3 W base (fun _ => True) v1 (limbs (valS a)) → Kd.R (Kd.int .i64) 3 W base (fun _ => True) v2 (limbs (valS b)) →
      Calls Tryz.prog 39 #[v1, v2] W fun e W' => ∃ v, e = .returned v ∧ IsN W' v r ∧ Below W.heap.size W W') :
    Calls Tryz.prog 26 #[.string a, .string b, .func (.func 39) #[] #[]] w fun e w' => e = .returned (.tuple #[.string (if validS a && validS b then (limS r).1 else noS), .int .i64 (if validS a && validS b then (limS r).2 else 1)]) ∧ Below w.heap.size w w' := by
  have HL := Lib.hid hL
  clear hL
  cases ha : validS a with
  | false =>
    have HA := Lib.hid ha
    clear ha hop
    go_enter Tryz.func26, Tryz.ntmps26
    go_wp2_with fail
    refine (valid_any a _ HL.out).mono ?_
    rintro e w1 ⟨rfl, hb1⟩
    rw [HA.out]
    have HB1 := Aside0.mk hb1
    clear hb1
    go_wp2_with fail
    go_ret2
    exact ⟨by simp [noS], HB1.out⟩
  | true =>
  cases hb : validS b with
  | false =>
    have HA := Lib.hid ha
    have HV := Lib.hid hb
    clear ha hb hop
    go_enter Tryz.func26, Tryz.ntmps26
    go_wp2_with fail
    refine (valid_any a _ HL.out).mono ?_
    rintro e w1 ⟨rfl, hb1⟩
    rw [HA.out]
    have HB1 := Aside0.mk hb1
    clear hb1
    go_wp2_with fail
    refine (valid_any b _ (HL.out.below HB1.out)).mono ?_
    rintro e w2 ⟨rfl, hb2⟩
    rw [HV.out]
    have HB2 := Aside0.mk (below_step HB1.out hb2)
    clear hb2
    go_wp2_with fail
    go_ret2
    exact ⟨by simp [noS], HB2.out⟩
  | true =>
    have HA := Lib.hid ha
    have HV := Lib.hid hb
    have HOP := Lib.hid (hop ha hb)
    have RA := Lib.hid (fun W => read_calls a ha W)
    have RB := Lib.hid (fun W => read_calls b hb W)
    clear ha hb hop
    go_enter Tryz.func26, Tryz.ntmps26
    go_wp2_with fail
    refine (valid_any a _ HL.out).mono ?_
    rintro e w1 ⟨rfl, hb1⟩
    rw [HA.out]
    have HB1 := Aside0.mk hb1
    clear hb1
    go_wp2_with fail
    refine (valid_any b _ (HL.out.below HB1.out)).mono ?_
    rintro e w2 ⟨rfl, hb2⟩
    rw [HV.out]
    have HB2 := Aside0.mk (below_step HB1.out hb2)
    clear hb2
    go_wp2_with fail
    refine (RA.out _).mono ?_
    rintro e w3 ⟨v3, rfl, hr3, hb3⟩
    have HR3 := Aside0.mk (Kd.R_lower hr3 HB2.out.size)
    have HB3 := Aside0.mk (below_step HB2.out hb3)
    clear hb3 hr3
    go_wp2_with fail
    refine (RB.out _).mono ?_
    rintro e w4 ⟨v4, rfl, hr4, hb4⟩
    have HR4 := Aside0.mk (Kd.R_lower hr4 HB3.out.size)
    have HR3' := Aside0.mk (Kd.R_below HR3.out hb4)
    have HB4 := Aside0.mk (below_step HB3.out hb4)
    clear hb4 hr4
    go_wp2_with fail
    refine (HOP.out _ _ _ _ HR3'.out HR4.out).mono ?_
    rintro e w5 ⟨v5, rfl, hn5, hb5⟩
    have HB5 := Aside0.mk (below_step HB4.out hb5)
    have HN5 := Aside0.mk hn5
    clear hb5 hn5
    go_wp2_with fail
    refine (text_any r hr _ _ (HL.out.below HB5.out) HN5.out).mono ?_
    rintro e w6 ⟨rfl, hb6⟩
    have HB6 := Aside0.mk (below_step HB5.out hb6)
    clear hb6
    go_wp2_with fail
    go_ret2
    exact ⟨by simp, HB6.out⟩

/-! ### Add, Mul, Gcd -/
def addS (a b : ByteArray) : ByteArray × Int := if validS a && validS b then limS (valS a + valS b) else (noS, 1)
def mulS (a b : ByteArray) : ByteArray × Int := if validS a && validS b then limS (valS a * valS b) else (noS, 1)
def gcdS (a b : ByteArray) : ByteArray × Int := if validS a && validS b then limS (Nat.gcd (valS a) (valS b)) else (noS, 1)
def natural_Add.f (a b : ByteArray) : Option (ByteArray × Int) := some (addS a b)
def natural_Mul.f (a b : ByteArray) : Option (ByteArray × Int) := some (mulS a b)
def natural_Gcd.f (a b : ByteArray) : Option (ByteArray × Int) := some (gcdS a b)
theorem if_fst {c : Bool} {p : ByteArray × Int} : (if c = true then p else (noS, 1)) = (if c = true then p.1 else noS, if c = true then p.2 else 1) := by cases c <;> rfl
theorem len_add (a b : ByteArray) : (limbs (if validS a && validS b then valS a + valS b else 0)).length ≤ 1000000 := by
  split
  · rename_i h
    simp only [Bool.and_eq_true] at h
    have x := limbs_len_valS h.1
    have y := limbs_len_valS h.2
    have : valS a + valS b < 1000000000 * (valS a + valS b + 1) := by omega
    have hle : (limbs (valS a + valS b)).length ≤ 113 := by
      apply limbs_length_le
      have p := limbs_lt (valS a)
      have q := limbs_lt (valS b)
      have p' := bp_mono x
      have q' := bp_mono y
      rw [show (113 : Nat) = 112 + 1 from rfl, bp_succ]
      have := bp_pos 112
      generalize bp 112 = t at *
      omega
    omega
  · rw [limbs_zero]; simp
theorem len_mul (a b : ByteArray) : (limbs (if validS a && validS b then valS a * valS b else 0)).length ≤ 1000000 := by
  split
  · rename_i h
    simp only [Bool.and_eq_true] at h
    have x := limbs_len_valS h.1
    have y := limbs_len_valS h.2
    have := limbs_mul_len (valS a) (valS b)
    omega
  · rw [limbs_zero]; simp
theorem gcd_le (m n : Nat) : Nat.gcd m n ≤ m + n := by
  by_cases h : m = 0
  · subst h; rw [Nat.gcd_zero_left]; omega
  · have := Nat.le_of_dvd (Nat.pos_of_ne_zero h) (Nat.gcd_dvd_left m n); omega
theorem len_gcd (a b : ByteArray) : (limbs (if validS a && validS b then Nat.gcd (valS a) (valS b) else 0)).length ≤ 1000000 := by
  have := len_add a b
  split
  · rename_i h
    rw [if_pos h] at this
    exact Nat.le_trans (limbs_mono (gcd_le _ _)) this
  · rw [limbs_zero]; simp

set_option maxHeartbeats 1000000 in
theorem natural_Add.calls (a0 : ByteArray) (a1 : ByteArray) (r1 : ByteArray) (r2 : Int) (w : World) (hL : Laid w) (h : natural_Add.f a0 a1 = some (r1, r2)) :
    Calls Tryz.prog 7 #[.string a0, .string a1] w fun e w' => e = .returned (.tuple #[.string r1, .int .i64 r2]) ∧ Below w.heap.size w w' := by
  have C := both_add a0 a1 w hL (if validS a0 && validS a1 then valS a0 + valS a1 else 0) (len_add a0 a1) (fun ha hb W base v1 v2 h1 h2 => by
    rw [ha, hb]
    exact op_add _ _ (Nat.le_trans (limbs_len_valS ha) (by decide)) (Nat.le_trans (limbs_len_valS hb) (by decide)) W base v1 v2 h1 h2)
  have hr : (if validS a0 && validS a1 then (limS (if validS a0 && validS a1 then valS a0 + valS a1 else 0)).1 else noS) = r1 ∧ (if validS a0 && validS a1 then (limS (if validS a0 && validS a1 then valS a0 + valS a1 else 0)).2 else 1) = r2 := by
    unfold natural_Add.f addS at h
    rw [if_fst] at h
    simp only [Option.some.injEq, Prod.mk.injEq] at h
    obtain ⟨h1, h2⟩ := h
    rw [← h1, ← h2]
    cases validS a0 && validS a1 <;> simp
  rw [hr.1, hr.2] at C
  have HC := Lib.hid C
  clear C hr h hL
  go_enter Tryz.func7, Tryz.ntmps7
  go_wp2_with fail
  refine HC.out.mono ?_
  rintro e w1 ⟨rfl, hb1⟩
  have HB1 := Aside0.mk hb1
  clear hb1
  go_wp2_with fail
  go_ret2
  exact ⟨rfl, HB1.out⟩

set_option maxHeartbeats 1000000 in
theorem natural_Mul.calls (a0 : ByteArray) (a1 : ByteArray) (r1 : ByteArray) (r2 : Int) (w : World) (hL : Laid w) (h : natural_Mul.f a0 a1 = some (r1, r2)) :
    Calls Tryz.prog 11 #[.string a0, .string a1] w fun e w' => e = .returned (.tuple #[.string r1, .int .i64 r2]) ∧ Below w.heap.size w w' := by
  have C := both_mul a0 a1 w hL (if validS a0 && validS a1 then valS a0 * valS a1 else 0) (len_mul a0 a1) (fun ha hb W base v1 v2 h1 h2 => by
    rw [ha, hb]
    exact op_mul _ _ (Nat.le_trans (limbs_len_valS ha) (by decide)) (Nat.le_trans (limbs_len_valS hb) (by decide)) W base v1 v2 h1 h2)
  have hr : (if validS a0 && validS a1 then (limS (if validS a0 && validS a1 then valS a0 * valS a1 else 0)).1 else noS) = r1 ∧ (if validS a0 && validS a1 then (limS (if validS a0 && validS a1 then valS a0 * valS a1 else 0)).2 else 1) = r2 := by
    unfold natural_Mul.f mulS at h
    rw [if_fst] at h
    simp only [Option.some.injEq, Prod.mk.injEq] at h
    obtain ⟨h1, h2⟩ := h
    rw [← h1, ← h2]
    cases validS a0 && validS a1 <;> simp
  rw [hr.1, hr.2] at C
  have HC := Lib.hid C
  clear C hr h hL
  go_enter Tryz.func11, Tryz.ntmps11
  go_wp2_with fail
  refine HC.out.mono ?_
  rintro e w1 ⟨rfl, hb1⟩
  have HB1 := Aside0.mk hb1
  clear hb1
  go_wp2_with fail
  go_ret2
  exact ⟨rfl, HB1.out⟩

set_option maxHeartbeats 1000000 in
theorem natural_Gcd.calls (a0 : ByteArray) (a1 : ByteArray) (r1 : ByteArray) (r2 : Int) (w : World) (hL : Laid w) (h : natural_Gcd.f a0 a1 = some (r1, r2)) :
    Calls Tryz.prog 15 #[.string a0, .string a1] w fun e w' => e = .returned (.tuple #[.string r1, .int .i64 r2]) ∧ Below w.heap.size w w' := by
  have C := both_gcd a0 a1 w hL (if validS a0 && validS a1 then Nat.gcd (valS a0) (valS a1) else 0) (len_gcd a0 a1) (fun ha hb W base v1 v2 h1 h2 => by
    rw [ha, hb]
    exact op_gcd _ _ (Nat.le_trans (limbs_len_valS ha) (by decide)) (Nat.le_trans (limbs_len_valS hb) (by decide)) W base v1 v2 h1 h2)
  have hr : (if validS a0 && validS a1 then (limS (if validS a0 && validS a1 then Nat.gcd (valS a0) (valS a1) else 0)).1 else noS) = r1 ∧ (if validS a0 && validS a1 then (limS (if validS a0 && validS a1 then Nat.gcd (valS a0) (valS a1) else 0)).2 else 1) = r2 := by
    unfold natural_Gcd.f gcdS at h
    rw [if_fst] at h
    simp only [Option.some.injEq, Prod.mk.injEq] at h
    obtain ⟨h1, h2⟩ := h
    rw [← h1, ← h2]
    cases validS a0 && validS a1 <;> simp
  rw [hr.1, hr.2] at C
  have HC := Lib.hid C
  clear C hr h hL
  go_enter Tryz.func15, Tryz.ntmps15
  go_wp2_with fail
  refine HC.out.mono ?_
  rintro e w1 ⟨rfl, hb1⟩
  have HB1 := Aside0.mk hb1
  clear hb1
  go_wp2_with fail
  go_ret2
  exact ⟨rfl, HB1.out⟩
#print axioms natural_Gcd.calls
end Go.Proofs.YtdhhbmmidgebhaaGreatDoor

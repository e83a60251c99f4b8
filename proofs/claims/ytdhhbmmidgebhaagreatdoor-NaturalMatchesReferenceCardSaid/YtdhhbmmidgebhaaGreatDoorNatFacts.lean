/- Plain: what the given callees tell of valid numbers within bounds. -/
import Derived.Test.YtdhhbmmidgebhaaGreatDoorNatZ
namespace Go.Proofs.YtdhhbmmidgebhaaGreatDoor
open Go.RowKit Go.Proofs.YtdhhbmmidgebhaaGreatDoorW.PrintWords Go.Proofs.YtdhhbmmidgebhaaGreatDoorW.PrintMore Go.Proofs.YtdhhbmmidgebhaaGreatDoorW.PrintLast
set_option linter.unusedVariables false
set_option linter.unusedSimpArgs false

theorem val_lt {a : ByteArray} (hv : validS a = true) {n : Nat} (h : a.size ≤ n) : valS a < tp n := by
  have := num_lt (validL_iff.1 hv).2.2.1
  rw [size_list] at this
  exact Nat.lt_of_lt_of_le this (tp_mono h)
theorem lim_ok {m n : Nat} (h : m < tp n) (h1 : 1 ≤ n) (h2 : n ≤ 1000) : limS m = (decS m, 0) ∧ validS (decS m) = true ∧ (decS m).size ≤ n := by
  have := dec_len_le h h1
  exact ⟨limS_of_le (by omega), validS_decS (by omega), by rw [size_decS]; exact this⟩
theorem tp_add_lt {a b n : Nat} (ha : a < tp n) (hb : b < tp n) : a + b < tp (n + 1) := by show _ < 10 * tp n; omega
theorem tp_mul_lt {a b m n : Nat} (ha : a < tp m) (hb : b < tp n) : a * b < tp (m + n) := by
  rw [tp_add]
  by_cases h : a = 0
  · subst h; rw [Nat.zero_mul]; exact Nat.mul_pos (tp_pos m) (tp_pos n)
  · calc a * b < a * tp n := Nat.mul_lt_mul_of_pos_left hb (Nat.pos_of_ne_zero h)
      _ ≤ tp m * tp n := Nat.mul_le_mul_right _ (Nat.le_of_lt ha)
theorem add_ok {a b : ByteArray} (ha : validS a = true) (hb : validS b = true) : addS a b = limS (valS a + valS b) := by unfold addS; rw [ha, hb]; rfl
theorem mul_ok {a b : ByteArray} (ha : validS a = true) (hb : validS b = true) : mulS a b = limS (valS a * valS b) := by unfold mulS; rw [ha, hb]; rfl
theorem gcd_ok {a b : ByteArray} (ha : validS a = true) (hb : validS b = true) : gcdS a b = limS (Nat.gcd (valS a) (valS b)) := by unfold gcdS; rw [ha, hb]; rfl
theorem sub_ok {a b : ByteArray} (ha : validS a = true) (hb : validS b = true) (h : ¬ valS a < valS b) : subS a b = (decS (valS a - valS b), 0) := by unfold subS; rw [ha, hb, if_neg h]; rfl
theorem sub_lt {a b : ByteArray} (ha : validS a = true) (hb : validS b = true) (h : valS a < valS b) : subS a b = (noS, 9) := by unfold subS; rw [ha, hb, if_pos h]; rfl
theorem div_ok {a b : ByteArray} (ha : validS a = true) (hb : validS b = true) (h : ¬ valS b = 0) : divS a b = (decS (valS a / valS b), decS (valS a % valS b), 0) := by unfold divS; rw [ha, hb, if_neg (c := valS b = 0) h]; rfl
theorem cmp_ok {a b : ByteArray} (ha : validS a = true) (hb : validS b = true) : cmpS a b = cmpI (valS a) (valS b) := by unfold cmpS; rw [ha, hb]; rfl
theorem cmpI_cases (m n : Int) : (m < n ∧ cmpI m n = -1) ∨ (m = n ∧ cmpI m n = 0) ∨ (n < m ∧ cmpI m n = 1) := by
  unfold cmpI
  rcases Int.lt_trichotomy m n with h | h | h
  · left; exact ⟨h, if_pos h⟩
  · right; left; exact ⟨h, by rw [if_neg (by omega), if_neg (by omega)]⟩
  · right; right; exact ⟨h, by rw [if_neg (by omega), if_pos h]⟩
theorem toList_eq {a b : ByteArray} : (a.toList == b.toList) = decide (a = b) := by
  rw [Bool.eq_iff_iff, beq_iff_eq, decide_eq_true_eq, Lib.toList_data, Lib.toList_data]
  constructor
  · intro h; cases a with | mk x => cases b with | mk y => exact congrArg _ (Array.toList_inj.1 h)
  · intro h; rw [h]
theorem eq_iff_val {a b : ByteArray} (ha : validS a = true) (hb : validS b = true) : a = b ↔ valS a = valS b := ⟨fun h => by rw [h], valS_inj ha hb⟩
theorem dec_inj {m n : Nat} (h : decS m = decS n) : m = n := by rw [← valS_decS m, ← valS_decS n, h]
end Go.Proofs.YtdhhbmmidgebhaaGreatDoor

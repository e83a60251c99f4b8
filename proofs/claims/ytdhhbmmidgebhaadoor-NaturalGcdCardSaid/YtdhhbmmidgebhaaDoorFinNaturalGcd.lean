/- The law NaturalGcd: plain arithmetic over what the given callees tell. -/
import Derived.Test.YtdhhbmmidgebhaaDoorXGcd1
namespace Go.Proofs.YtdhhbmmidgebhaaDoor
open Go.RowKit Go.Proofs.YtdhhbmmidgebhaaDoorW.PrintWords Go.Proofs.YtdhhbmmidgebhaaDoorW.PrintMore Go.Proofs.YtdhhbmmidgebhaaDoorW.PrintLast
set_option linter.unusedVariables false
set_option linter.unusedSimpArgs false

theorem list_eq {a b : ByteArray} : a.toList = b.toList ↔ a = b := by
  have := toList_eq (a := a) (b := b)
  rw [Bool.eq_iff_iff, beq_iff_eq, decide_eq_true_eq] at this
  exact this
theorem zero_list {a : ByteArray} (h : validS a = true) : a.toList = ([48] : List UInt8) ↔ valS a = 0 := by
  have := zero_iff h
  rw [Bool.eq_iff_iff, beq_iff_eq, decide_eq_true_eq] at this
  exact this
theorem pureNaturalGcd : XGcd.observatorylaw03_NaturalGcd.Pure := by
  intro d x y _ _ _
  refine ⟨98 + 1 + 1, ?_⟩
  unfold XGcd.observatorylaw03_NaturalGcd.f observatorylaw03_head.f
  simp only [Option.bind_some, few3, natural_Valid.f]
  by_cases hf : (decide (d.size ≤ 80) && (decide (x.size ≤ 80) && decide (y.size ≤ 80))) = true
  case neg => rw [if_neg hf]; simp only [XGcd.observatorylaw03_NaturalGcd.j0]; rfl
  rw [if_pos hf]
  by_cases f1 : (d.size : Int) > 40
  · rw [if_pos f1]; simp only [XGcd.observatorylaw03_NaturalGcd.j0]; rfl
  rw [if_neg f1]
  by_cases f2 : (x.size : Int) > 40
  · rw [if_pos f2]; simp only [XGcd.observatorylaw03_NaturalGcd.j0]; rfl
  rw [if_neg f2]
  by_cases f3 : (y.size : Int) > 40
  · rw [if_pos f3]; simp only [XGcd.observatorylaw03_NaturalGcd.j0]; rfl
  rw [if_neg f3]
  cases hd : validS d
  · rw [if_neg (by simp)]; simp only [XGcd.observatorylaw03_NaturalGcd.j0]; rfl
  cases hx : validS x
  · rw [if_pos rfl, if_neg (by simp)]; simp only [XGcd.observatorylaw03_NaturalGcd.j0]; rfl
  cases hy : validS y
  · rw [if_pos rfl, if_pos rfl]; simp only [XGcd.observatorylaw03_NaturalGcd.j0]; rfl
  rw [if_pos rfl, if_pos rfl]
  have ld := val_lt hd (n := 40) (by omega)
  have lx := val_lt hx (n := 40) (by omega)
  have ly := val_lt hy (n := 40) (by omega)
  have lg : Nat.gcd (valS x) (valS y) < tp 41 := Nat.lt_of_le_of_lt (gcd_le _ _) (tp_add_lt lx ly)
  have ldx : valS d * valS x < tp 80 := tp_mul_lt ld lx
  have ldy : valS d * valS y < tp 80 := tp_mul_lt ld ly
  have ldg : valS d * Nat.gcd (valS x) (valS y) < tp 81 := tp_mul_lt ld lg
  have lgg : Nat.gcd (valS d * valS x) (valS d * valS y) < tp 81 := by rw [Nat.gcd_mul_left]; exact ldg
  obtain ⟨g1, g2, _⟩ := lim_ok lg (by decide) (by decide)
  obtain ⟨x1, x2, _⟩ := lim_ok ldx (by decide) (by decide)
  obtain ⟨y1, y2, _⟩ := lim_ok ldy (by decide) (by decide)
  obtain ⟨u1, u2, _⟩ := lim_ok ldg (by decide) (by decide)
  obtain ⟨v1, v2, _⟩ := lim_ok lgg (by decide) (by decide)
  simp only [XGcd.observatorylaw03_NaturalGcd.j0, natural_Gcd.f, natural_Mul.f, Option.bind_some]
  rw [if_neg (by simp), gcd_ok hx hy, g1]
  simp only []
  rw [mul_ok hd hx, x1, mul_ok hd hy, y1, mul_ok hd g2, valS_decS, u1]
  simp only []
  rw [gcd_ok x2 y2, valS_decS, valS_decS, v1]
  simp only [if_true]
  rw [Nat.gcd_mul_left, show (((decS (valS d * Nat.gcd (valS x) (valS y))).toList != (decS (valS d * Nat.gcd (valS x) (valS y))).toList)) = false by simp]
  simp only [XGcd.observatorylaw03_NaturalGcd.j1, natural_Div.f, Option.bind_some]
  rw [if_neg (by simp)]
  by_cases h0 : Nat.gcd (valS x) (valS y) = 0
  · have z := (zero_list g2).2 (by rw [valS_decS]; exact h0)
    have zx : valS x = 0 := Nat.eq_zero_of_gcd_eq_zero_left h0
    have zy : valS y = 0 := Nat.eq_zero_of_gcd_eq_zero_right h0
    rw [if_pos z, if_pos ((zero_list hx).2 zx), zero_iff hy, zy]
    rfl
  · have z : ¬ (decS (Nat.gcd (valS x) (valS y))).toList = ([48] : List UInt8) := fun e => h0 (by have := (zero_list g2).1 e; rwa [valS_decS] at this)
    have n0 : ¬ valS (decS (Nat.gcd (valS x) (valS y))) = 0 := by rw [valS_decS]; exact h0
    rw [if_neg z, div_ok hx g2 n0, div_ok hy g2 n0, valS_decS]
    simp only [if_true]
    rw [Nat.mod_eq_zero_of_dvd (Nat.gcd_dvd_left _ _), Nat.mod_eq_zero_of_dvd (Nat.gcd_dvd_right _ _)]
    have e0 : (decS 0).toList = ([48] : List UInt8) := (zero_list (validS_decS (by rw [dec_zero]; decide))).2 (valS_decS 0)
    rw [e0]
    simp
theorem finNaturalGcd (a0 a1 a2 : ByteArray) (w : World) (hL : Laid w) (w0 : a0.size ≤ 140737488351232) (w1 : a1.size ≤ 140737488351232) (w2 : a2.size ≤ 140737488351232) :
    Calls Tryd.prog 6 #[.string a0, .string a1, .string a2] w fun e w' => e = .returned (.bool true) ∧ Below w.heap.size w w' :=
  XGcd.observatorylaw03_NaturalGcd.walk pureNaturalGcd a0 a1 a2 w hL w0 w1 w2
end Go.Proofs.YtdhhbmmidgebhaaDoor

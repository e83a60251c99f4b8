/- The law NaturalInts: plain arithmetic over what the given callees tell. -/
import Derived.Test.YtdhhbmmidgebhaaDoorXInt2
namespace Go.Proofs.YtdhhbmmidgebhaaDoor
open Go.RowKit Go.Proofs.YtdhhbmmidgebhaaDoorW.PrintWords Go.Proofs.YtdhhbmmidgebhaaDoorW.PrintMore Go.Proofs.YtdhhbmmidgebhaaDoorW.PrintLast
set_option linter.unusedVariables false
set_option linter.unusedSimpArgs false

theorem ofS_nat (m : Nat) : ofS (m : Int) = (decS m, 0) := by unfold ofS; rw [if_neg (by omega)]; rfl
theorem of_some {m : Nat} (h : m ≤ 1000000000000) : natural_Of.f (m : Int) = some (decS m, 0) := by unfold natural_Of.f; rw [if_pos (by omega), ofS_nat]
theorem int_le {m : Nat} (h : m ≤ 1000000000000) (hv : validS (decS m) = true) : natural_Int.f (decS m) = some ((m : Int), 0) := by unfold natural_Int.f intS; rw [if_pos hv, valS_decS, if_pos h]
theorem int_gt {m : Nat} (h : ¬ m ≤ 1000000000000) (hv : validS (decS m) = true) : natural_Int.f (decS m) = some (0, 9) := by unfold natural_Int.f intS; rw [if_pos hv, valS_decS, if_neg h]
theorem w64 {x : Int} (h : 0 ≤ x) (h1 : x ≤ 9000000000000000000) : wrap64 x = x := by unfold wrap64; omega
theorem small_ok {m : Nat} (h : m ≤ 2000000000000) : limS m = (decS m, 0) ∧ validS (decS m) = true := by
  have t : m < tp 13 := Nat.lt_of_le_of_lt h (by decide)
  obtain ⟨a, b, _⟩ := lim_ok t (by decide) (by decide)
  exact ⟨a, b⟩
theorem ints_j6 (k m n : Nat) (b : Bool) (h : b = false → m < 1000000 ∧ n < 1000000) : XInt.observatorylaw03_NaturalInts.j6 (k + 1) m n true (decS m) (decS n) b = some true := by
  simp only [XInt.observatorylaw03_NaturalInts.j6]
  cases b
  case true => rfl
  obtain ⟨hm, hn⟩ := h rfl
  have hmn : m * n ≤ 999999 * 999999 := Nat.mul_le_mul (by omega) (by omega)
  obtain ⟨_, vm⟩ := small_ok (m := m) (by omega)
  obtain ⟨_, vn⟩ := small_ok (m := n) (by omega)
  obtain ⟨l, v⟩ := small_ok (m := m * n) (by omega)
  rw [if_neg (by simp), show natural_Mul.f (decS m) (decS n) = some (decS (m * n), 0) from by unfold natural_Mul.f; rw [mul_ok vm vn, valS_decS, valS_decS, l]]
  simp only [Option.bind_some]
  rw [int_le (by omega) v]
  simp only [Option.bind_some, if_true]
  rw [w64 (by rw [← Int.natCast_mul]; omega) (by rw [← Int.natCast_mul]; omega), Int.natCast_mul, beq_self_eq_true]
theorem ints_j5 (k m n : Nat) : XInt.observatorylaw03_NaturalInts.j5 (k + 1 + 1) m n true (decS m) (decS n) = some true := by
  simp only [XInt.observatorylaw03_NaturalInts.j5]
  by_cases h : (m : Int) ≥ 1000000
  · rw [if_pos h]; exact ints_j6 k m n true (by simp)
  · rw [if_neg h]; exact ints_j6 k m n _ (by rw [decide_eq_false_iff_not]; omega)
theorem ints_j4' (k m n q r : Nat) (hm : m ≤ 1000000000000) (hn : n ≤ 1000000000000) (h : (n : Int) > 0) (hq : q ≤ m) (hr : r ≤ m) (et : Int.tdiv (m : Int) n = q) (em : Int.tmod (m : Int) n = r) (hD : natural_Div.f (decS m) (decS n) = some (decS q, decS r, 0)) :
    XInt.observatorylaw03_NaturalInts.j4 (k + 1 + 1 + 1) m n true (decS m) (decS n) false = some true := by
  simp only [XInt.observatorylaw03_NaturalInts.j4]
  obtain ⟨_, vq⟩ := small_ok (m := q) (by omega)
  obtain ⟨_, vr⟩ := small_ok (m := r) (by omega)
  rw [if_neg (by simp), if_pos h]
  refine Option.bind_eq_some_iff.2 ⟨_, hD, ?_⟩
  refine Option.bind_eq_some_iff.2 ⟨_, int_le (by omega) vq, ?_⟩
  refine Option.bind_eq_some_iff.2 ⟨_, int_le (by omega) vr, ?_⟩
  dsimp only
  rw [if_pos rfl, if_neg (by omega), et, em, w64 (Int.natCast_nonneg q) (by omega), if_pos rfl, if_pos rfl]
  exact ints_j5 k m n
theorem div_some {m n : Nat} (hm : m ≤ 1000000000000) (hn : n ≤ 1000000000000) (h : n ≠ 0) : natural_Div.f (decS m) (decS n) = some (decS (m / n), decS (m % n), 0) := by
  obtain ⟨_, vm⟩ := small_ok (m := m) (Nat.le_trans hm (by decide))
  obtain ⟨_, vn⟩ := small_ok (m := n) (Nat.le_trans hn (by decide))
  unfold natural_Div.f
  rw [div_ok vm vn (by rw [valS_decS]; exact h), valS_decS, valS_decS]
theorem ints_j4 (k m n : Nat) (hm : m ≤ 1000000000000) (hn : n ≤ 1000000000000) : XInt.observatorylaw03_NaturalInts.j4 (k + 1 + 1 + 1) m n true (decS m) (decS n) false = some true := by
  by_cases h : (n : Int) > 0
  · exact ints_j4' k m n (m / n) (m % n) hm hn h (Nat.div_le_self _ _) (Nat.mod_le _ _) (Int.ofNat_tdiv m n).symm (Int.ofNat_tmod m n).symm (div_some hm hn (by omega))
  simp only [XInt.observatorylaw03_NaturalInts.j4]
  rw [if_neg (by simp), if_neg h]
  exact ints_j5 k m n
theorem ints_j3 (k m n : Nat) (hm : m ≤ 1000000000000) (hn : n ≤ 1000000000000) : XInt.observatorylaw03_NaturalInts.j3 (k + 1 + 1 + 1 + 1) m n true (decS m) (decS n) false = some true := by
  simp only [XInt.observatorylaw03_NaturalInts.j3]
  rw [if_neg (by simp)]
  obtain ⟨_, vm⟩ := small_ok (m := m) (by omega)
  obtain ⟨_, vn⟩ := small_ok (m := n) (by omega)
  by_cases h : m < n
  · rw [show natural_Sub.f (decS m) (decS n) = some (noS, 9) from by unfold natural_Sub.f; rw [sub_lt vm vn (by rw [valS_decS, valS_decS]; exact h)]]
    simp only [Option.bind_some, natural_Int.f]
    rw [decide_eq_false (show ¬ (m : Int) ≥ n by omega), if_neg (by decide), if_neg (by decide)]
    exact ints_j4 k m n hm hn
  · obtain ⟨_, v⟩ := small_ok (m := m - n) (by omega)
    rw [show natural_Sub.f (decS m) (decS n) = some (decS (m - n), 0) from by unfold natural_Sub.f; rw [sub_ok vm vn (by rw [valS_decS, valS_decS]; exact h), valS_decS, valS_decS]]
    simp only [Option.bind_some]
    rw [int_le (by omega) v]
    simp only [Option.bind_some]
    rw [decide_eq_true (show (m : Int) ≥ n by omega), if_neg (by decide), if_pos trivial, if_pos (by rw [w64 (by omega) (by omega)]; omega)]
    exact ints_j4 k m n hm hn
theorem ints_j2 (k m n : Nat) (hm : m ≤ 1000000000000) (hn : n ≤ 1000000000000) : XInt.observatorylaw03_NaturalInts.j2 (k + 1 + 1 + 1 + 1 + 1) m n true (decS m) (decS n) false = some true := by
  simp only [XInt.observatorylaw03_NaturalInts.j2]
  rw [if_neg (by simp)]
  obtain ⟨_, vm⟩ := small_ok (m := m) (by omega)
  obtain ⟨_, vn⟩ := small_ok (m := n) (by omega)
  obtain ⟨l, v⟩ := small_ok (m := m + n) (by omega)
  have hw : wrap64 ((m : Int) + n) = ((m + n : Nat) : Int) := by rw [w64 (by omega) (by omega)]; omega
  rw [show natural_Add.f (decS m) (decS n) = some (decS (m + n), 0) from by unfold natural_Add.f; rw [add_ok vm vn, valS_decS, valS_decS, l]]
  simp only [Option.bind_some, hw]
  by_cases h : m + n ≤ 1000000000000
  · rw [int_le h v]
    simp only [Option.bind_some, if_true]
    rw [if_pos (by omega), if_neg (by omega)]
    exact ints_j3 k m n hm hn
  · rw [int_gt h v]
    simp only [Option.bind_some, if_true]
    rw [if_neg (by omega), if_pos (by omega)]
    exact ints_j3 k m n hm hn
theorem ints_j1 (k m n : Nat) (hm : m ≤ 1000000000000) (hn : n ≤ 1000000000000) : XInt.observatorylaw03_NaturalInts.j1 (k + 1 + 1 + 1 + 1 + 1 + 1) m n true (decS m) (decS n) false = some true := by
  simp only [XInt.observatorylaw03_NaturalInts.j1]
  obtain ⟨_, vm⟩ := small_ok (m := m) (by omega)
  obtain ⟨_, vn⟩ := small_ok (m := n) (by omega)
  rw [if_neg (by simp), show natural_Compare.f (decS m) (decS n) = some (cmpI m n) from by unfold natural_Compare.f; rw [cmp_ok vm vn, valS_decS, valS_decS]]
  simp only [Option.bind_some]
  have c1 : decide (cmpI m n < 0) = decide ((m : Int) < n) := by
    rcases cmpI_cases m n with ⟨h, e⟩ | ⟨h, e⟩ | ⟨h, e⟩ <;> rw [e, decide_eq_decide] <;> omega
  have c2 : decide (cmpI m n > 0) = decide ((m : Int) > n) := by
    rcases cmpI_cases m n with ⟨h, e⟩ | ⟨h, e⟩ | ⟨h, e⟩ <;> rw [e, decide_eq_decide] <;> omega
  rw [c1, c2, bne_self_eq_false, bne_self_eq_false, if_neg (by simp)]
  exact ints_j2 k m n hm hn
theorem pureNaturalInts : XInt.observatorylaw03_NaturalInts.Pure := by
  intro x y _ _
  refine ⟨92 + 1 + 1 + 1 + 1 + 1 + 1 + 1, ?_⟩
  unfold XInt.observatorylaw03_NaturalInts.f observatorylaw03_head.f
  simp only [Option.bind_some]
  by_cases h1 : x < 0
  · rw [if_pos h1]; simp only [XInt.observatorylaw03_NaturalInts.j0]; rfl
  rw [if_neg h1]
  by_cases h2 : x > 1000000000000
  · rw [if_pos h2]; simp only [XInt.observatorylaw03_NaturalInts.j0]; rfl
  rw [if_neg h2]
  by_cases h3 : y < 0
  · rw [if_pos h3]; simp only [XInt.observatorylaw03_NaturalInts.j0]; rfl
  rw [if_neg h3]
  by_cases h4 : y > 1000000000000
  · rw [decide_eq_true h4]; simp only [XInt.observatorylaw03_NaturalInts.j0]; rfl
  rw [decide_eq_false h4]
  obtain ⟨m, rfl⟩ := Int.eq_ofNat_of_zero_le (show 0 ≤ x by omega)
  obtain ⟨n, rfl⟩ := Int.eq_ofNat_of_zero_le (show 0 ≤ y by omega)
  have hm : m ≤ 1000000000000 := by omega
  have hn : n ≤ 1000000000000 := by omega
  obtain ⟨_, vm⟩ := small_ok (m := m) (by omega)
  simp only [XInt.observatorylaw03_NaturalInts.j0]
  rw [if_neg (by simp), of_some hm, of_some hn]
  simp only [Option.bind_some]
  rw [int_le hm vm]
  simp only [Option.bind_some, if_true]
  rw [bne_self_eq_false]
  exact ints_j1 92 m n hm hn
theorem finNaturalInts (a0 a1 : Int) (w : World) (hL : Laid w) (w0 : (Lit.int .i64 a0).wf = true) (w1 : (Lit.int .i64 a1).wf = true) :
    Calls Tryd.prog 7 #[.int .i64 a0, .int .i64 a1] w fun e w' => e = .returned (.bool true) ∧ Below w.heap.size w w' :=
  XInt.observatorylaw03_NaturalInts.walk pureNaturalInts a0 a1 w hL w0 w1
end Go.Proofs.YtdhhbmmidgebhaaDoor

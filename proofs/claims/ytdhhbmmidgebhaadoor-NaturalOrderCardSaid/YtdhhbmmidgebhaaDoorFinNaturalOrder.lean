/- The law NaturalOrder: plain arithmetic over what the given callees tell. -/
import Derived.Test.YtdhhbmmidgebhaaDoorXLaw1
import Derived.Test.YtdhhbmmidgebhaaDoorNatFacts
namespace Go.Proofs.YtdhhbmmidgebhaaDoor
open Go.RowKit Go.Proofs.YtdhhbmmidgebhaaDoorW.PrintWords Go.Proofs.YtdhhbmmidgebhaaDoorW.PrintMore Go.Proofs.YtdhhbmmidgebhaaDoorW.PrintLast
set_option linter.unusedVariables false
set_option linter.unusedSimpArgs false

theorem few_loop (l : List ByteArray) (hl : l.length ≤ 1000) : ∀ (d i k : Nat), i + d = l.length → d < k → XLaw.observatoryref03_Few.l0 k l (i : Int) = some ((l.drop i).all fun a => decide (a.size ≤ 80))
  | 0, i, k, hi, hk => by
    obtain ⟨k, rfl⟩ : ∃ m, k = m + 1 := ⟨k - 1, by omega⟩
    simp only [XLaw.observatoryref03_Few.l0]
    rw [if_neg (by omega), List.drop_of_length_le (by omega)]
    rfl
  | d + 1, i, k, hi, hk => by
    obtain ⟨k, rfl⟩ : ∃ m, k = m + 1 := ⟨k - 1, by omega⟩
    have hw : wrap64 ((i : Int) + 1) = ((i + 1 : Nat) : Int) := by unfold wrap64; omega
    have hr : rdOf ByteArray.empty l (i : Int) = l[i]'(by omega) := by simp [rdOf, List.getElem?_eq_getElem (show i < l.length by omega)]
    simp only [XLaw.observatoryref03_Few.l0]
    rw [if_pos (by omega), if_pos (by omega), hr, List.drop_eq_getElem_cons (show i < l.length by omega), List.all_cons]
    by_cases h : ((l[i]'(by omega)).size : Int) > 80
    · rw [if_pos h, decide_eq_false (by omega)]; rfl
    · rw [if_neg h, decide_eq_true (show (l[i]'(by omega)).size ≤ 80 by omega), hw, few_loop l hl d (i + 1) k (by omega) (by omega)]; rfl
theorem few_ev (l : List ByteArray) (hl : l.length ≤ 1000) (k : Nat) (hk : l.length < k) : XLaw.observatorylaw03_few.f k l = some (l.all fun a => decide (a.size ≤ 80)) := by
  unfold XLaw.observatorylaw03_few.f XLaw.observatoryref03_Few.f
  have := few_loop l hl l.length 0 k (by omega) hk
  rw [show ((0 : Nat) : Int) = 0 from rfl, List.drop_zero] at this
  rw [this]; rfl

theorem pureNaturalOrder : XLaw.observatorylaw03_NaturalOrder.Pure := by
  intro a b c _ _ _
  refine ⟨98 + 1 + 1, ?_⟩
  unfold XLaw.observatorylaw03_NaturalOrder.f observatorylaw03_head.f
  simp only [Option.bind_some]
  rw [few_ev _ (by simp) _ (by simp)]
  simp only [Option.bind_some, natural_Valid.f]
  by_cases hf : ([a, b, c].all fun a => decide (a.size ≤ 80)) = true
  case neg =>
    rw [if_neg hf]
    simp only [XLaw.observatorylaw03_NaturalOrder.j0]
    rfl
  rw [if_pos hf]
  cases ha : validS a
  · rw [if_neg (by simp)]; simp only [XLaw.observatorylaw03_NaturalOrder.j0]; rfl
  cases hb : validS b
  · rw [if_pos rfl, if_neg (by simp)]; simp only [XLaw.observatorylaw03_NaturalOrder.j0]; rfl
  cases hc : validS c
  · rw [if_pos rfl, if_pos rfl]; simp only [XLaw.observatorylaw03_NaturalOrder.j0]; rfl
  rw [if_pos rfl, if_pos rfl]
  simp only [List.all_cons, List.all_nil, Bool.and_true, Bool.and_eq_true, decide_eq_true_eq] at hf
  obtain ⟨fa, fb, fc⟩ := hf
  have la := val_lt ha fa
  have lb := val_lt hb fb
  have lc := val_lt hc fc
  obtain ⟨p1, p2, _⟩ := lim_ok (tp_add_lt la lc) (by decide) (by decide)
  obtain ⟨q1, q2, _⟩ := lim_ok (tp_add_lt lb lc) (by decide) (by decide)
  have hab : (a = b) ↔ valS a = valS b := eq_iff_val ha hb
  have last : XLaw.observatorylaw03_NaturalOrder.j1 (98 + 1) a b c true (cmpI (valS a) (valS b)) false = some true := by
    simp only [XLaw.observatorylaw03_NaturalOrder.j1, natural_Add.f, natural_Sub.f, natural_Compare.f, Option.bind_some]
    rw [if_neg (by simp), add_ok ha hc, add_ok hb hc, p1, q1, if_pos rfl]
    simp only []
    rw [if_pos trivial, if_pos trivial, cmp_ok p2 q2, valS_decS, valS_decS]
    have e : cmpI ((valS a + valS c : Nat) : Int) ((valS b + valS c : Nat) : Int) = cmpI (valS a) (valS b) := by
      unfold cmpI
      by_cases h1 : (valS a : Int) < valS b
      · rw [if_pos h1, if_pos (by omega)]
      · rw [if_neg h1, if_neg (by omega)]
        by_cases h2 : (valS b : Int) < valS a
        · rw [if_pos h2, if_pos (by omega)]
        · rw [if_neg h2, if_neg (by omega)]
    rw [if_pos e, sub_ok p2 hc (by rw [valS_decS]; omega), valS_decS, Nat.add_sub_cancel]
    simp only []
    rw [if_pos trivial, toList_eq, decS_valS ha]
    simp
  simp only [XLaw.observatorylaw03_NaturalOrder.j0, natural_Compare.f, Option.bind_some]
  rw [if_neg (by simp), cmp_ok ha hb, cmp_ok hb hc, cmp_ok ha hc, cmp_ok hb ha, toList_eq]
  rcases cmpI_cases (valS a) (valS b) with ⟨h1, e1⟩ | ⟨h1, e1⟩ | ⟨h1, e1⟩ <;> rcases cmpI_cases (valS b) (valS c) with ⟨h2, e2⟩ | ⟨h2, e2⟩ | ⟨h2, e2⟩ <;> rcases cmpI_cases (valS a) (valS c) with ⟨h3, e3⟩ | ⟨h3, e3⟩ | ⟨h3, e3⟩ <;> rcases cmpI_cases (valS b) (valS a) with ⟨h4, e4⟩ | ⟨h4, e4⟩ | ⟨h4, e4⟩ <;> first | (exfalso; omega) | skip
  all_goals
    rw [e1] at last
    have hd : decide (a = b) = decide (valS a = valS b) := by rw [decide_eq_decide]; exact hab
    rw [e1, e2, e3, e4, hd]
  all_goals
    have w1 : wrap64 1 = 1 := by unfold wrap64; omega
    have w0 : wrap64 0 = 0 := by unfold wrap64; omega
    have w2 : wrap64 (-1) = -1 := by unfold wrap64; omega
  all_goals first
    | (have hz : decide (valS a = valS b) = true := decide_eq_true (by omega)
       rw [hz]; simpa [w1, w0, w2] using last)
    | (have hz : decide (valS a = valS b) = false := decide_eq_false (by omega)
       rw [hz]; simpa [w1, w0, w2] using last)
theorem finNaturalOrder (a0 a1 a2 : ByteArray) (w : World) (hL : Laid w) (w0 : a0.size ≤ 140737488351232) (w1 : a1.size ≤ 140737488351232) (w2 : a2.size ≤ 140737488351232) :
    Calls Tryd.prog 4 #[.string a0, .string a1, .string a2] w fun e w' => e = .returned (.bool true) ∧ Below w.heap.size w w' :=
  XLaw.observatorylaw03_NaturalOrder.walk pureNaturalOrder a0 a1 a2 w hL w0 w1 w2
end Go.Proofs.YtdhhbmmidgebhaaDoor

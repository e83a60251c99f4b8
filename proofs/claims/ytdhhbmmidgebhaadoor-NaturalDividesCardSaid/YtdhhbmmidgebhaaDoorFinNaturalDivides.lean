/- The law NaturalDivides: plain arithmetic over what the given callees tell. -/
import Derived.Test.YtdhhbmmidgebhaaDoorXDvs1
namespace Go.Proofs.YtdhhbmmidgebhaaDoor
open Go.RowKit Go.Proofs.YtdhhbmmidgebhaaDoorW.PrintWords Go.Proofs.YtdhhbmmidgebhaaDoorW.PrintMore Go.Proofs.YtdhhbmmidgebhaaDoorW.PrintLast
set_option linter.unusedVariables false
set_option linter.unusedSimpArgs false

theorem pureNaturalDivides : XDvs.observatorylaw03_NaturalDivides.Pure := by
  intro q b r _ _ _
  refine ⟨98 + 1, ?_⟩
  unfold XDvs.observatorylaw03_NaturalDivides.f observatorylaw03_head.f
  simp only [Option.bind_some, few3, natural_Valid.f]
  by_cases hf : (decide (q.size ≤ 80) && (decide (b.size ≤ 80) && decide (r.size ≤ 80))) = true
  case neg =>
    rw [if_neg hf]
    simp only [XDvs.observatorylaw03_NaturalDivides.j0]
    rfl
  rw [if_pos hf]
  cases hq : validS q
  · rw [if_neg (by simp)]; simp only [XDvs.observatorylaw03_NaturalDivides.j0]; rfl
  cases hb : validS b
  · rw [if_pos rfl, if_neg (by simp)]; simp only [XDvs.observatorylaw03_NaturalDivides.j0]; rfl
  cases hr : validS r
  · rw [if_pos rfl, if_pos rfl, if_neg (by simp)]; simp only [XDvs.observatorylaw03_NaturalDivides.j0]; rfl
  rw [if_pos rfl, if_pos rfl, if_pos rfl, zero_iff hb]
  simp only [XDvs.observatorylaw03_NaturalDivides.j0]
  by_cases h0 : valS b = 0
  · rw [if_pos (decide_eq_true h0)]
  rw [if_neg (show ¬ decide (valS b = 0) = true from by rw [decide_eq_false h0]; decide)]
  simp only [Bool.and_eq_true, decide_eq_true_eq] at hf
  obtain ⟨fq, fb, fr⟩ := hf
  have lq := val_lt hq fq
  have lb := val_lt hb fb
  have lr := val_lt hr fr
  have lqb : valS q * valS b < tp 160 := tp_mul_lt (m := 80) (n := 80) lq lb
  have lr' : valS r < tp 160 := Nat.lt_of_lt_of_le lr (tp_mono (by decide))
  have ls : valS q * valS b + valS r < tp 161 := tp_add_lt (n := 160) lqb lr'
  generalize hS : valS q * valS b + valS r = s at *
  have hp := Nat.pos_of_ne_zero h0
  have hdm := Nat.div_add_mod s (valS b)
  have lx : s / valS b < tp 161 := Nat.lt_of_le_of_lt (Nat.div_le_self _ _) ls
  have ly : s % valS b < tp 161 := Nat.lt_of_le_of_lt (Nat.mod_le _ _) ls
  have lxb : s / valS b * valS b < tp 161 := by rw [Nat.mul_comm]; omega
  obtain ⟨m1, m2, _⟩ := lim_ok lqb (by decide) (by decide)
  obtain ⟨a1, a2, _⟩ := lim_ok ls (by decide) (by decide)
  obtain ⟨x1, x2, _⟩ := lim_ok lx (by decide) (by decide)
  obtain ⟨y1, y2, _⟩ := lim_ok ly (by decide) (by decide)
  obtain ⟨z1, z2, _⟩ := lim_ok lxb (by decide) (by decide)
  simp only [natural_Mul.f, natural_Add.f, natural_Div.f, natural_Compare.f, Option.bind_some]
  rw [mul_ok hq hb, m1]
  simp only []
  rw [add_ok m2 hr, valS_decS, hS, a1]
  simp only []
  rw [div_ok a2 hb h0, valS_decS]
  simp only []
  rw [mul_ok x2 hb, valS_decS, z1]
  simp only []
  rw [add_ok z2 y2, valS_decS, valS_decS, show s / valS b * valS b + s % valS b = s by rw [Nat.mul_comm]; exact hdm, a1]
  simp only [if_true]
  rw [cmp_ok y2 hb, cmp_ok hr hb, valS_decS]
  have hlt := Nat.mod_lt s hp
  rw [if_neg (by rw [cmpI_lt hlt]; decide)]
  by_cases hrb : valS r < valS b
  · rw [if_neg (by rw [cmpI_lt hrb]; decide)]
    have e1 : s / valS b = valS q := by rw [← hS, Nat.mul_comm, Nat.mul_add_div hp, Nat.div_eq_of_lt hrb]; rfl
    have e2 : s % valS b = valS r := by rw [← hS, Nat.mul_comm, Nat.mul_add_mod, Nat.mod_eq_of_lt hrb]
    rw [e1, e2, decS_valS hq, decS_valS hr]
    simp
  · rw [if_pos (cmpI_ge hrb)]
theorem finNaturalDivides (a0 a1 a2 : ByteArray) (w : World) (hL : Laid w) (w0 : a0.size ≤ 140737488351232) (w1 : a1.size ≤ 140737488351232) (w2 : a2.size ≤ 140737488351232) :
    Calls Tryd.prog 5 #[.string a0, .string a1, .string a2] w fun e w' => e = .returned (.bool true) ∧ Below w.heap.size w w' :=
  XDvs.observatorylaw03_NaturalDivides.walk pureNaturalDivides a0 a1 a2 w hL w0 w1 w2
end Go.Proofs.YtdhhbmmidgebhaaDoor

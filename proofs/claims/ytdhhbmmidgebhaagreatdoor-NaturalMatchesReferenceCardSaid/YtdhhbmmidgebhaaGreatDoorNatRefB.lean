/- Plain: what the reference implementation's functions tell, second part: products, order, quotients, common divisors, ints. -/
import Derived.Test.YtdhhbmmidgebhaaGreatDoorNatRefA
namespace Go.Proofs.YtdhhbmmidgebhaaGreatDoor
open Go.RowKit Go.Proofs.YtdhhbmmidgebhaaGreatDoorW.PrintWords Go.Proofs.YtdhhbmmidgebhaaGreatDoorW.PrintMore Go.Proofs.YtdhhbmmidgebhaaGreatDoorW.PrintLast
open Go.Lib (decDigits)
set_option linter.unusedVariables false
set_option linter.unusedSimpArgs false

theorem ds_dg {a : ByteArray} (h : ∀ c ∈ a.data.toList, isDig c = true) : Dg (ds a) := dsL_dg h
theorem ring_div (v n R x Q r Y : Nat) (h : 10 * R + x = Y) (hd : n * Q + r = Y) : (v * n + R) * 10 + x = (v * 10 + Q) * n + r := by
  have : v * 10 * n = v * n * 10 := by rw [Nat.mul_assoc, Nat.mul_comm 10 n, Nat.mul_assoc]
  rw [Nat.add_mul, Nat.add_mul, this, Nat.mul_comm Q n]; omega
theorem w_id {x : Int} (h : 0 ≤ x) (h1 : x ≤ 9000000000000000000) : wrap64 x = x := by unfold wrap64; omega
theorem w_succ {i : Nat} (h : i ≤ 9000000000000000) : wrap64 ((i : Int) + 1) = ((i + 1 : Nat) : Int) := by unfold wrap64; omega
theorem w_add {i j : Nat} (h : i + j ≤ 9000000000000000) : wrap64 ((i : Int) + (j : Int)) = ((i + j : Nat) : Int) := by unfold wrap64; omega
theorem w_carry {x : Int} (h : 0 ≤ x) (h1 : x ≤ 9223372036854775807) : wrap64 (Int.tdiv x 10) = x / 10 := by rw [Int.tdiv_eq_ediv_of_nonneg h]; unfold wrap64; omega
theorem m_digit {x : Int} (h : 0 ≤ x) : (Int.tmod x 10) % 256 = x % 10 := by rw [Int.tmod_eq_emod_of_nonneg h]; omega
theorem tp20 : 9223372036854775807 < tp 20 := by decide
theorem tp_succ (n : Nat) : tp (n + 1) = 10 * tp n := rfl
attribute [local irreducible] tp dv at0 ds dsL num
/-! ### products -/
theorem dv_set : ∀ (l : List Int) (j : Nat) (x : Int), j < l.length → dv (l.set j x) = dv l + tp j * (x - at0 l j)
  | [], j, x, h => by simp at h
  | y :: l, 0, x, h => by simp only [List.set_cons_zero, dv, tp, at0, List.getD_cons_zero]; omega
  | y :: l, j + 1, x, h => by
    have ih := dv_set l j x (by simpa using h)
    have e : at0 (y :: l) (j + 1) = at0 l j := by simp [at0]
    simp only [List.set_cons_succ, dv, ih, e, tp]
    grind
theorem ring_in (S T p q D E x : Int) : S + T * (x + p * q - x) + p * (10 * T * D) + E = S + p * (T * (q + 10 * D)) + E := by grind
theorem ring_carry (D T x c u X : Int) : D + T * (x + c - 10 * u + 10 * 0) + 10 * T * (u + X) = D + T * (c + (x + 10 * X)) := by grind
theorem tp_int (n : Nat) : ((tp (n + 1) : Nat) : Int) = 10 * (tp n : Int) := by simp only [tp]; omega
theorem rmul_in (a b : ByteArray) (ha : ∀ c ∈ a.data.toList, isDig c = true) (hb : ∀ c ∈ b.data.toList, isDig c = true) (sa : a.size ≤ 1000) (sb : b.size ≤ 1000) (i L F M : Nat) (E T : Int) (hi : i < a.size) (hL : L = a.size + b.size + 1) (hM : M ≤ 1000000000)
    (H : ∀ (s : List Int) (k : Nat), s.length = L → (∀ x ∈ s, 0 ≤ x ∧ x ≤ M) → dv s + E = T → F ≤ k → XRef.observatoryref03_mul.l0 k a b s ((i + 1 : Nat) : Int) = some (decS T.toNat)) :
    ∀ (d j k : Nat) (s : List Int), j + d = b.size → s.length = L → (∀ x ∈ s, 0 ≤ x ∧ x + 81 * d ≤ M) → dv s + at0 (ds a) i * (tp (i + j) * dv ((ds b).drop j)) + E = T → F + d + 1 ≤ k →
    XRef.observatoryref03_mul.l1 k a b s (i : Int) (j : Int) = some (decS T.toNat)
  | 0, j, k, s, hj, hs, hx, hT, hk => by
    obtain ⟨k, rfl⟩ : ∃ m, k = m + 1 := ⟨k - 1, by omega⟩
    have hw : Aside0 (wrap64 ((i : Int) + 1) = ((i + 1 : Nat) : Int)) := Aside0.mk (w_succ (by omega))
    simp only [XRef.observatoryref03_mul.l1]
    rw [if_neg (by omega), hw.out]
    refine H s k hs (fun x h => ?_) ?_ (by omega)
    · have := hx x h; omega
    · rw [List.drop_of_length_le (by rw [ds_len]; omega)] at hT
      simpa [dv] using hT
  | d + 1, j, k, s, hj, hs, hx, hT, hk => by
    obtain ⟨k, rfl⟩ : ∃ m, k = m + 1 := ⟨k - 1, by omega⟩
    have hw : Aside0 (wrap64 ((j : Int) + 1) = ((j + 1 : Nat) : Int)) := Aside0.mk (w_succ (by omega))
    have hij : Aside0 (wrap64 ((i : Int) + (j : Int)) = ((i + j : Nat) : Int)) := Aside0.mk (w_add (by omega))
    have da := at0_dg (ds_dg ha) i
    have db := at0_dg (ds_dg hb) j
    have eb := dv_drop (ds b) j
    have hlt : i + j < s.length := by omega
    have hm := hx _ (List.getElem_mem hlt)
    rw [← at0_eq hlt] at hm
    simp only [XRef.observatoryref03_mul.l1]
    rw [if_pos (by omega), hij.out, if_pos (by omega), if_pos (by omega), rat a ha (by omega) i (by omega), rat b hb (by omega) j (by omega), rd_nat]
    simp only [Option.bind_some]
    generalize hp : at0 (ds a) i = p at *
    generalize hq : at0 (ds b) j = q at *
    have hpq : p * q ≤ 9 * 9 := Int.mul_le_mul (by omega) (by omega) (by omega) (by omega)
    have hpq0 : 0 ≤ p * q := Int.mul_nonneg (by omega) (by omega)
    have hw1 : Aside0 (wrap64 (at0 s (i + j) + wrap64 (p * q)) = at0 s (i + j) + p * q) := Aside0.mk (by rw [w_id hpq0 (by omega), w_id (by omega) (by omega)])
    rw [hw1.out, hw.out, show (((i + j : Nat) : Int)).toNat = i + j by omega]
    refine rmul_in a b ha hb sa sb i L F M E T hi hL hM H d (j + 1) k _ (by omega) (by simpa using hs) ?_ ?_ (by omega)
    · intro x h
      rcases List.mem_or_eq_of_mem_set h with h | h
      · have := hx x h; omega
      · omega
    · rw [hp, dv_set s (i + j) _ hlt, show i + (j + 1) = (i + j) + 1 by omega, ← hT, eb, tp_int]
      exact ring_in _ _ _ _ _ _ _
theorem rmul_carry (s : List Int) (L : Nat) (T : Int) (hs : s.length = L) (hL : L ≤ 2001) (hL1 : 1 ≤ L) (hx : ∀ x ∈ s, 0 ≤ x ∧ x ≤ 1000000000) (hT : T < tp L) : ∀ (d i k : Nat) (c : Int) (done : List Int), i + d = L → done.length = i → Dg done → 0 ≤ c → c ≤ 1000000000 → d + 11001 ≤ k →
    dv done + tp i * (c + dv (s.drop i)) = T → XRef.observatoryref03_mul.l2 k s (done ++ List.replicate d 0) c (i : Int) = some (decS T.toNat)
  | 0, i, k, c, done, hi, hl, hg, c0, c1, hk, hE => by
    obtain ⟨k, rfl⟩ : ∃ m, k = m + 1 := ⟨k - 1, by omega⟩
    have hiL : i = L := by omega
    subst hiL
    have hn := dv_nonneg hg
    rw [List.drop_of_length_le (by omega)] at hE
    simp only [dv, Int.add_zero] at hE
    have hc : c = 0 := by
      by_cases h : c = 0
      · exact h
      · have : (tp i : Int) * 1 ≤ tp i * c := Int.mul_le_mul_of_nonneg_left (by omega) (by omega)
        omega
    subst hc
    simp only [XRef.observatoryref03_mul.l2]
    rw [if_neg (by omega), List.replicate_zero, List.append_nil, rtext _ hg (by omega) (by omega) _ (by omega), show dv done = T by omega]
    rfl
  | d + 1, i, k, c, done, hi, hl, hg, c0, c1, hk, hE => by
    obtain ⟨k, rfl⟩ : ∃ m, k = m + 1 := ⟨k - 1, by omega⟩
    have hw : Aside0 (wrap64 ((i : Int) + 1) = ((i + 1 : Nat) : Int)) := Aside0.mk (w_succ (by omega))
    have hlt : i < s.length := by omega
    have hm := hx _ (List.getElem_mem hlt)
    rw [← at0_eq hlt] at hm
    have es := dv_drop s i
    simp only [XRef.observatoryref03_mul.l2]
    rw [if_pos (by omega), if_pos (by omega), if_pos (by simp; omega), rd_nat, hw.out]
    generalize hx0 : at0 s i = x at *
    have hn : Aside0 (wrap64 (x + c) = x + c) := Aside0.mk (w_id (by omega) (by omega))
    have hmm : (Int.tmod (x + c) 10) % 256 = (x + c) % 10 := m_digit (by omega)
    have hq : Aside0 (wrap64 (Int.tdiv (x + c) 10) = (x + c) / 10) := Aside0.mk (w_carry (by omega) (by omega))
    rw [hn.out, hmm, hq.out, show ((i : Int)).toNat = done.length + 0 by omega, List.set_append_right _ _ (by omega), show done.length + 0 - done.length = 0 by omega, List.replicate_succ, List.set_cons_zero]
    rw [show done ++ (x + c) % 10 :: List.replicate d 0 = (done ++ [(x + c) % 10]) ++ List.replicate d 0 by simp]
    refine rmul_carry s L T hs hL hL1 hx hT d (i + 1) k _ _ (by omega) (by simp; omega) (hg.append (Dg.cons (by omega) (by omega) (by intro y hy; simp at hy))) (by omega) (by omega) (by omega) ?_
    have hdm : (x + c) % 10 = x + c - 10 * ((x + c) / 10) := by omega
    rw [dv_append, hl, ← hE, es, tp_int]
    simp only [dv]
    rw [hdm]
    exact ring_carry _ _ _ _ _ _
theorem rmul_out (a b : ByteArray) (ha : ∀ c ∈ a.data.toList, isDig c = true) (hb : ∀ c ∈ b.data.toList, isDig c = true) (sa : a.size ≤ 1000) (sb : b.size ≤ 1000) (L : Nat) (T : Int) (hL : L = a.size + b.size + 1) (hTL : T < tp L) :
    ∀ (d i k : Nat) (s : List Int), i + d = a.size → s.length = L → (∀ x ∈ s, 0 ≤ x ∧ x + 81000 * d ≤ 1000000000) → dv s + tp i * (dv ((ds a).drop i) * dv (ds b)) = T → 1002 * d + 20000 ≤ k →
    XRef.observatoryref03_mul.l0 k a b s (i : Int) = some (decS T.toNat)
  | 0, i, k, s, hi, hs, hx, hT, hk => by
    obtain ⟨k, rfl⟩ : ∃ m, k = m + 1 := ⟨k - 1, by omega⟩
    simp only [XRef.observatoryref03_mul.l0]
    rw [if_neg (by omega), if_pos (by omega), if_pos (by omega)]
    have := rmul_carry s L T hs (by omega) (by omega) (fun x h => by have := hx x h; omega) hTL L 0 k 0 [] (by omega) rfl (by intro x h; simp at h) (by decide) (by decide) (by omega) (by
      rw [List.drop_of_length_le (by rw [ds_len]; omega)] at hT
      simp only [dv, tp, Int.zero_mul, Int.mul_zero, Int.add_zero] at hT
      simp only [dv, tp, List.drop_zero]; omega)
    rw [show ((0 : Nat) : Int) = 0 from rfl, List.nil_append] at this
    rw [show ((s.length : Int)).toNat = L by omega]
    exact this
  | d + 1, i, k, s, hi, hs, hx, hT, hk => by
    obtain ⟨k, rfl⟩ : ∃ m, k = m + 1 := ⟨k - 1, by omega⟩
    simp only [XRef.observatoryref03_mul.l0]
    rw [if_pos (by omega)]
    have := rmul_in a b ha hb sa sb i L (1002 * d + 20000) (1000000000 - 81000 * d) (tp (i + 1) * (dv ((ds a).drop (i + 1)) * dv (ds b))) T (by omega) hL (by omega)
      (fun s' k' h1 h2 h3 h4 => rmul_out a b ha hb sa sb L T hL hTL d (i + 1) k' s' (by omega) h1 (fun x h => by have := h2 x h; omega) h3 h4) b.size 0 k s (by omega) hs (fun x h => by have := hx x h; omega)
      (by
        rw [← hT, List.drop_zero, Nat.add_zero, dv_drop (ds a) i]
        simp only [tp]
        grind) (by omega)
    exact this
theorem rmul (a b : ByteArray) (ha : validS a = true) (hb : validS b = true) (k : Nat) (hk : 2000000 ≤ k) : XRef.observatoryref03_mul.f k a b = some (decS (valS a * valS b)) := by
  obtain ⟨a1, a2, a3, _⟩ := validL_iff.1 ha
  obtain ⟨b1, b2, b3, _⟩ := validL_iff.1 hb
  rw [size_list] at a1 a2 b1 b2
  have hl : Aside0 (wrap64 ((wrap64 ((a.size : Int) + (b.size : Int))) + 1) = ((a.size + b.size + 1 : Nat) : Int)) := Aside0.mk (by rw [w_add (by omega), w_succ (by omega)])
  unfold XRef.observatoryref03_mul.f
  rw [hl.out, if_pos (by omega), if_pos (by omega), show (((a.size + b.size + 1 : Nat) : Int)).toNat = a.size + b.size + 1 by omega]
  have hz : ∀ n, dv (List.replicate n 0) = 0 := by
    intro n
    induction n with
    | zero => simp [dv]
    | succ n ih => rw [List.replicate_succ]; simp only [dv, ih]; rfl
  have hlt : valS a * valS b < tp (a.size + b.size) := tp_mul_lt (val_lt ha (Nat.le_refl _)) (val_lt hb (Nat.le_refl _))
  have hlt' := tp_mono (show a.size + b.size ≤ a.size + b.size + 1 by omega)
  have := rmul_out a b a3 b3 a2 b2 (a.size + b.size + 1) ((valS a * valS b : Nat) : Int) rfl (by omega) a.size 0 k (List.replicate (a.size + b.size + 1) 0) (by omega) (by simp) (fun x h => by rw [(List.mem_replicate.1 h).2]; omega)
    (by rw [hz, List.drop_zero, ds_dv, ds_dv]; simp [tp]) (by omega)
  rw [show ((0 : Nat) : Int) = 0 from rfl] at this
  rw [this]
  rfl

/-! ### order -/
theorem less_lists : ∀ (l m : List UInt8), (∀ c ∈ l, isDig c = true) → (∀ c ∈ m, isDig c = true) → l.length = m.length → Op.bytesLess l m = decide (num l < num m)
  | [], [], _, _, _ => by rw [decide_eq_false (Nat.lt_irrefl _)]; rfl
  | [], _ :: _, _, _, h => by simp at h
  | _ :: _, [], _, _, h => by simp at h
  | x :: l, y :: m, hl, hm, h => by
    have h' : l.length = m.length := by simpa using h
    have ih := less_lists l m (fun c hc => hl c (List.mem_cons_of_mem _ hc)) (fun c hc => hm c (List.mem_cons_of_mem _ hc)) h'
    have ll := num_lt (fun c hc => hl c (List.mem_cons_of_mem _ hc))
    have lm := num_lt (fun c hc => hm c (List.mem_cons_of_mem _ hc))
    have dx := hl x List.mem_cons_self
    have dy := hm y List.mem_cons_self
    simp only [isDig, decide_eq_true_eq] at dx dy
    show (decide (x < y) || (x == y && Op.bytesLess l m)) = _
    rw [ih, num_cons, num_cons, h']
    rw [h'] at ll
    rcases Nat.lt_trichotomy x.toNat y.toNat with q | q | q
    · have e1 : decide (x < y) = true := decide_eq_true (UInt8.lt_iff_toNat_lt.2 q)
      have : (x.toNat - 48 + 1) * tp m.length ≤ (y.toNat - 48) * tp m.length := Nat.mul_le_mul_right _ (by omega)
      rw [Nat.succ_mul] at this
      rw [e1, Bool.true_or]
      exact (decide_eq_true (by omega)).symm
    · have e0 : x = y := UInt8.toNat_inj.1 q
      subst e0
      have e1 : decide (x < x) = false := decide_eq_false (by rw [UInt8.lt_iff_toNat_lt]; omega)
      rw [e1, beq_self_eq_true, Bool.false_or, Bool.true_and]
      congr 1
      rw [eq_iff_iff]; omega
    · have e1 : decide (x < y) = false := decide_eq_false (by rw [UInt8.lt_iff_toNat_lt]; omega)
      have e2 : (x == y) = false := beq_eq_false_iff_ne.2 (fun e => by rw [e] at q; omega)
      have : (y.toNat - 48 + 1) * tp m.length ≤ (x.toNat - 48) * tp m.length := Nat.mul_le_mul_right _ (by omega)
      rw [Nat.succ_mul] at this
      rw [e1, e2, Bool.false_and, Bool.or_false]
      exact (decide_eq_false (by omega)).symm
theorem decS_list (n : Nat) : (decS n).toList = decDigits n := by rw [Lib.toList_data]; rfl
theorem rless (x y : Nat) : XRef.observatoryref03_less.f (decS x) (decS y) = some (decide (x < y)) := by
  unfold XRef.observatoryref03_less.f
  rw [size_decS, size_decS]
  by_cases h : (decDigits x).length = (decDigits y).length
  · rw [if_pos (by omega), decS_list, decS_list, less_lists _ _ (dec_digits x) (dec_digits y) h, num_dec, num_dec]
  · rw [if_neg (by omega)]
    congr 1
    rw [decide_eq_decide]
    by_cases hxy : x < y
    · have := dec_mono (Nat.le_of_lt hxy); omega
    · have := dec_mono (show y ≤ x by omega); omega

/-! ### quotients -/
theorem digit_piece : ∀ n : Fin 10, (⟨#[48, 49, 50, 51, 52, 53, 54, 55, 56, 57]⟩ : ByteArray).extract n.val (n.val + 1) = ⟨#[UInt8.ofNat (48 + n.val)]⟩ := by decide +kernel
theorem decS_digits (n : Nat) : ∀ c ∈ (decS n).data.toList, isDig c = true := dec_digits n
theorem dec_len10 {X n : Nat} (h : X < 10 * n) : (decDigits X).length ≤ (decDigits n).length + 1 := by
  refine dec_len_le ?_ (by omega)
  have := dec_lt n
  rw [tp_succ]; omega
theorem rdiv_in (a : ByteArray) (n : Nat) (hn : 0 < n) (hn1 : (decDigits n).length ≤ 1000) (q : ByteArray) (hq : q.size ≤ 1000) (i : Nat) (hi : i ≤ 1000) (F : Nat) (r : ByteArray × ByteArray) : ∀ (m X c k : Nat), X / n = m → c + m ≤ 9 → X < 10 * n →
    (∀ k, F ≤ k → XRef.observatoryref03_div.l0 k a (decS n) (q ++ ⟨#[UInt8.ofNat (48 + (c + m))]⟩) (decS (X % n)) ((i + 1 : Nat) : Int) = some r) → F + m + 1 ≤ k → 13100 + m ≤ k →
    XRef.observatoryref03_div.l1 k a (decS n) q (decS X) (i : Int) (c : Int) = some r
  | 0, X, c, k, hm, hc, hX, H, hk, hk2 => by
    obtain ⟨k, rfl⟩ : ∃ m, k = m + 1 := ⟨k - 1, by omega⟩
    have hlt : X < n := by
      rcases Nat.div_eq_zero_iff.1 hm with h | h
      · omega
      · exact h
    have hwc : Aside0 (wrap64 ((c : Int) + 1) = ((c + 1 : Nat) : Int)) := Aside0.mk (w_succ (by omega))
    have hwi : Aside0 (wrap64 ((i : Int) + 1) = ((i + 1 : Nat) : Int)) := Aside0.mk (w_succ (by omega))
    have hp := digit_piece ⟨c, by omega⟩
    simp only [XRef.observatoryref03_div.l1]
    rw [rless, decide_eq_true hlt, Option.bind_some, if_pos rfl, hwc.out, hwi.out, if_pos (by omega), if_pos (by omega), if_pos (by omega), show ((c : Int)).toNat = c by omega, show (((c + 1 : Nat) : Int)).toNat = c + 1 by omega, hp]
    have hs1 : (⟨#[UInt8.ofNat (48 + c)]⟩ : ByteArray).size = 1 := rfl
    rw [if_pos (by rw [hs1]; omega)]
    have := H k (by omega)
    rw [Nat.mod_eq_of_lt hlt, Nat.add_zero] at this
    exact this
  | m + 1, X, c, k, hm, hc, hX, H, hk, hk2 => by
    obtain ⟨k, rfl⟩ : ∃ m, k = m + 1 := ⟨k - 1, by omega⟩
    have hge : n ≤ X := by
      by_cases h : n ≤ X
      · exact h
      · rw [Nat.div_eq_of_lt (by omega)] at hm; omega
    have hwc : Aside0 (wrap64 ((c : Int) + 1) = ((c + 1 : Nat) : Int)) := Aside0.mk (w_succ (by omega))
    simp only [XRef.observatoryref03_div.l1]
    rw [rless, decide_eq_false (by omega)]
    simp only [Option.bind_some]
    have lX := dec_len10 hX
    rw [if_neg (by decide), rsub (decS X) (decS n) (by rw [size_decS]; exact dec_len_pos X) (by rw [size_decS]; omega) (decS_digits X) (by rw [size_decS]; omega) (decS_digits n) (by rw [valS_decS, valS_decS]; exact hge) k (by omega)]
    simp only [Option.bind_some]
    rw [valS_decS, valS_decS, hwc.out]
    have e1 : (X - n) / n = m := by
      have := Nat.add_div_right (X - n) hn
      rw [Nat.sub_add_cancel hge, hm] at this; omega
    refine rdiv_in a n hn hn1 q hq i hi F r m (X - n) (c + 1) k e1 (by omega) (by omega) (fun k' hk' => ?_) (by omega) (by omega)
    have := H k' hk'
    rw [← Nat.mod_eq_sub_mod hge, show c + 1 + m = c + (m + 1) by omega]
    exact this
theorem app_list (a b : ByteArray) : (a ++ b).data.toList = a.data.toList ++ b.data.toList := by simp
theorem rdiv_out (a : ByteArray) (n : Nat) (hn : 0 < n) (hn1 : (decDigits n).length ≤ 1000) (ha : ∀ c ∈ a.data.toList, isDig c = true) (a1 : 1 ≤ a.size) (a2 : a.size ≤ 1000) : ∀ (d i k : Nat) (q : ByteArray) (R : Nat), i + d = a.size → q.size = i → (∀ c ∈ q.data.toList, isDig c = true) → R < n →
    num (a.data.toList.take i) = valS q * n + R → 20 * d + 20000 ≤ k → XRef.observatoryref03_div.l0 k a (decS n) q (decS R) (i : Int) = some (decS (valS a / n), decS (valS a % n))
  | 0, i, k, q, R, hi, hq, hd, hR, hv, hk => by
    obtain ⟨k, rfl⟩ : ∃ m, k = m + 1 := ⟨k - 1, by omega⟩
    simp only [XRef.observatoryref03_div.l0]
    rw [if_neg (by omega), rtrimmed q (by omega) (by omega) hd k (by omega)]
    simp only [Option.bind_some]
    rw [List.take_of_length_le (by rw [size_list]; omega)] at hv
    have hv' : valS a = n * valS q + R := by rw [Nat.mul_comm]; exact hv
    rw [hv', Nat.mul_add_div hn, Nat.div_eq_of_lt hR, Nat.mul_add_mod, Nat.mod_eq_of_lt hR, Nat.add_zero]
  | d + 1, i, k, q, R, hi, hq, hd, hR, hv, hk => by
    obtain ⟨k, rfl⟩ : ∃ m, k = m + 1 := ⟨k - 1, by omega⟩
    have hwi : Aside0 (wrap64 ((i : Int) + 1) = ((i + 1 : Nat) : Int)) := Aside0.mk (w_succ (by omega))
    have hil : i < a.data.toList.length := by rw [size_list]; omega
    have hx : (a.extract i (i + 1)).data.toList = [a.data.toList[i]'hil] := by
      rw [extract_list, List.take_succ_eq_append_getElem hil, List.drop_append_of_le_length (by rw [List.length_take]; omega), List.drop_of_length_le (by rw [List.length_take]; omega), List.nil_append]
    have hxs : (a.extract i (i + 1)).size = 1 := by rw [← size_list, hx]; rfl
    have hc := ha _ (List.getElem_mem hil)
    have hc' := hc
    simp only [isDig, decide_eq_true_eq] at hc'
    generalize hcc : a.data.toList[i]'hil = x at *
    have lR := dec_mono (Nat.le_of_lt hR)
    have hl2 : (decS R ++ a.extract i (i + 1)).data.toList = decDigits R ++ [x] := by rw [app_list, hx]; rfl
    have hs2 : (decS R ++ a.extract i (i + 1)).size = (decDigits R).length + 1 := by rw [← size_list, hl2, List.length_append]; rfl
    have hv2 : valS (decS R ++ a.extract i (i + 1)) = 10 * R + (x.toNat - 48) := by
      unfold valS
      rw [hl2, num_append, num_dec, num_cons, num_nil]; simp only [List.length_singleton, List.length_nil, tp]; omega
    simp only [XRef.observatoryref03_div.l0]
    rw [if_pos (by omega), hwi.out, if_pos (by omega), if_pos (by omega), if_pos (by omega), show ((i : Int)).toNat = i by omega, show (((i + 1 : Nat) : Int)).toNat = i + 1 by omega]
    rw [if_pos (by rw [hxs, size_decS]; omega), rtrimmed _ (by omega) (by omega) (by
      rw [hl2]; intro c h
      rcases List.mem_append.1 h with h | h
      · exact dec_digits R c h
      · rw [List.mem_singleton.1 h]; exact hc) k (by omega), hv2]
    simp only [Option.bind_some]
    generalize hY : 10 * R + (x.toNat - 48) = Y
    have hdm := Nat.div_add_mod Y n
    have hml := Nat.mod_lt Y hn
    have hq9 : Y / n ≤ 9 := by
      have : Y / n < 10 := Nat.div_lt_of_lt_mul (by omega)
      omega
    have hdig : (UInt8.ofNat (48 + Y / n)).toNat = 48 + Y / n := dig_nat (by omega)
    have hYt : Y < 10 * n := by omega
    rw [show (0 : Int) = ((0 : Nat) : Int) from rfl]
    refine rdiv_in a n hn hn1 q (by omega) i (by omega) (20 * d + 20000) _ (Y / n) Y 0 k rfl (by omega) hYt (fun k' hk' => ?_) (by omega) (by omega)
    have hq2 : (q ++ (⟨#[UInt8.ofNat (48 + (0 + Y / n))]⟩ : ByteArray)).data.toList = q.data.toList ++ [UInt8.ofNat (48 + Y / n)] := by rw [app_list, Nat.zero_add]
    have hx1 : num [x] = x.toNat - 48 := by rw [num_cons, num_nil]; simp [tp]
    have hx2 : num [UInt8.ofNat (48 + Y / n)] = Y / n := by rw [num_cons, num_nil, hdig]; simp [tp]
    have ht1 : ∀ z : UInt8, tp ([z] : List UInt8).length = 10 := fun z => by simp [tp]
    refine rdiv_out a n hn hn1 ha a1 a2 d (i + 1) k' _ (Y % n) (by omega) (by rw [← size_list, hq2, List.length_append, size_list, List.length_singleton]; omega) (by
      rw [hq2]; intro c h
      rcases List.mem_append.1 h with h | h
      · exact hd c h
      · rw [List.mem_singleton.1 h]; simp only [isDig, hdig, decide_eq_true_eq]; omega) hml ?_ (by omega)
    unfold valS
    rw [hq2, num_append, hx2, ht1, List.take_succ_eq_append_getElem hil, hcc, num_append, hx1, ht1, hv]
    exact ring_div _ _ _ _ _ _ _ hY hdm
end Go.Proofs.YtdhhbmmidgebhaaGreatDoor

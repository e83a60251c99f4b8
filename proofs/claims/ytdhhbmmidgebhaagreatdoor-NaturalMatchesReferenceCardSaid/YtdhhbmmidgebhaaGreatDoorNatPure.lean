/- Plain: what the printed loops of compare, mul and div tell at canonical limbs. -/
import Derived.Test.YtdhhbmmidgebhaaGreatDoorXLimb1
import Derived.Test.YtdhhbmmidgebhaaGreatDoorXLimb2
import Derived.Test.YtdhhbmmidgebhaaGreatDoorNatPlain
namespace Go.Proofs.YtdhhbmmidgebhaaGreatDoor
open Go.RowKit Go.Proofs.YtdhhbmmidgebhaaGreatDoorW.PrintWords Go.Proofs.YtdhhbmmidgebhaaGreatDoorW.PrintMore Go.Proofs.YtdhhbmmidgebhaaGreatDoorW.PrintLast
set_option linter.unusedVariables false
set_option linter.unusedSimpArgs false

/-- With enough rounds g answers r. -/
def Evt {α : Type} (g : Nat → Option α) (r : α) : Prop := ∃ K, ∀ k, K ≤ k → g k = some r

theorem rd_nat (l : List Int) (i : Nat) : rd l (i : Int) = at0 l i := by simp [rd, at0]
theorem at0_eq {l : List Int} {i : Nat} (h : i < l.length) : at0 l i = l[i] := by simp [at0, List.getElem?_eq_getElem h]
theorem lv_drop (l : List Int) {i : Nat} (h : i < l.length) : lv (l.drop i) = at0 l i + 1000000000 * lv (l.drop (i + 1)) := by
  rw [List.drop_eq_getElem_cons h, lv_cons, at0_eq h]
theorem lv_take_succ (l : List Int) {i : Nat} (h : i < l.length) : lv (l.take (i + 1)) = lv (l.take i) + bp i * at0 l i := by
  rw [List.take_succ_eq_append_getElem h, lv_append, List.length_take, Nat.min_eq_left (by omega), at0_eq h]
  simp [lv]

/-! ### trimmed -/
theorem trim_loop (l : List Int) : ∀ (n k : Nat), n ≤ l.length → l.length ≤ 9000000000000000000 → n < k → XLimb.natural_limbs_trimmed.l0 k l (n : Int) = some (trimZ (l.take n))
  | 0, k, h0, hm, hk => by
    obtain ⟨k, rfl⟩ : ∃ m, k = m + 1 := ⟨k - 1, by omega⟩
    simp only [XLimb.natural_limbs_trimmed.l0]
    rw [if_neg (by omega), if_pos (by omega), if_pos (by omega)]
    simp [trimZ]
  | n + 1, k, h0, hm, hk => by
    obtain ⟨k, rfl⟩ : ∃ m, k = m + 1 := ⟨k - 1, by omega⟩
    have hw : wrap64 (((n + 1 : Nat) : Int) - 1) = (n : Int) := by unfold wrap64; omega
    have hs : l.take (n + 1) = l.take n ++ [l[n]'(by omega)] := by rw [List.take_succ_eq_append_getElem (by omega)]
    have hr : rd l (n : Int) = l[n]'(by omega) := by simp [rd, List.getElem?_eq_getElem (show n < l.length by omega)]
    simp only [XLimb.natural_limbs_trimmed.l0]
    rw [if_pos (by omega), hw, if_pos (by omega), if_pos (by omega), hr]
    by_cases e : l[n]'(by omega) = 0
    · rw [if_pos e, trim_loop l n k (by omega) hm (by omega), hs, e, trimZ_snoc_zero]
    · rw [if_neg e, if_pos (by omega), if_pos (by omega), hs, trimZ_snoc _ e, ← hs]
      simp
theorem trim_ev (l : List Int) (h : l.length ≤ 9000000000000000000) (k : Nat) (hk : l.length < k) : XLimb.natural_limbs_trimmed.f k l = some (trimZ l) := by
  unfold XLimb.natural_limbs_trimmed.f
  rw [trim_loop l l.length k (Nat.le_refl _) h hk, List.take_length]

/-! ### compare -/
def cmpI (m n : Int) : Int := if m < n then -1 else if n < m then 1 else 0
theorem cmp_loop (a b : List Int) (ga : Good a) (gb : Good b) (hl : a.length = b.length) (hm : a.length ≤ 9000000000000000000) : ∀ (n k : Nat), n ≤ a.length → n < k → lv (a.drop n) = lv (b.drop n) →
    XLimb.natural_limbs_compare.l0 k a b ((n : Int) - 1) = some (cmpI (lv a) (lv b))
  | 0, k, h0, hk, hd => by
    obtain ⟨k, rfl⟩ : ∃ m, k = m + 1 := ⟨k - 1, by omega⟩
    simp only [XLimb.natural_limbs_compare.l0]
    rw [if_neg (by omega)]
    simp only [List.drop_zero] at hd
    rw [hd]; simp [cmpI]
  | n + 1, k, h0, hk, hd => by
    obtain ⟨k, rfl⟩ : ∃ m, k = m + 1 := ⟨k - 1, by omega⟩
    have hi : ((n + 1 : Nat) : Int) - 1 = (n : Int) := by omega
    have hw : wrap64 ((n : Int) - 1) = (n : Int) - 1 := by unfold wrap64; omega
    simp only [XLimb.natural_limbs_compare.l0]
    rw [hi, if_pos (by omega), if_pos (by omega), if_pos (by omega), if_pos (by omega), rd_nat, rd_nat]
    have da := lv_drop a (i := n) (by omega)
    have db := lv_drop b (i := n) (by omega)
    by_cases e : at0 a n = at0 b n
    · rw [if_pos e, hw]
      exact cmp_loop a b ga gb hl hm n k (by omega) (by omega) (by rw [da, db, e, hd])
    · rw [if_neg e]
      have sa : lv a = lv (a.take n) + bp n * lv (a.drop n) := by
        conv => lhs; rw [← List.take_append_drop n a]
        rw [lv_append, List.length_take, Nat.min_eq_left (by omega)]
      have sb : lv b = lv (b.take n) + bp n * lv (b.drop n) := by
        conv => lhs; rw [← List.take_append_drop n b]
        rw [lv_append, List.length_take, Nat.min_eq_left (by omega)]
      have ta := lv_nonneg (ga.take n)
      have tb := lv_nonneg (gb.take n)
      have ua := lv_lt (ga.take n)
      have ub := lv_lt (gb.take n)
      rw [List.length_take, Nat.min_eq_left (by omega)] at ua ub
      have hp := bp_pos n
      by_cases h : at0 a n < at0 b n
      · rw [if_pos h]
        have : bp n * (lv (a.drop n) + 1) ≤ bp n * lv (b.drop n) := Int.mul_le_mul_of_nonneg_left (by omega) (by omega)
        have e2 : bp n * (lv (a.drop n) + 1) = bp n * lv (a.drop n) + bp n := by grind
        have : lv a < lv b := by omega
        simp [cmpI, this]
      · rw [if_neg h]
        have : bp n * (lv (b.drop n) + 1) ≤ bp n * lv (a.drop n) := Int.mul_le_mul_of_nonneg_left (by omega) (by omega)
        have e2 : bp n * (lv (b.drop n) + 1) = bp n * lv (b.drop n) + bp n := by grind
        have : lv b < lv a := by omega
        have h2 : ¬ lv a < lv b := by omega
        simp [cmpI, this, h2]
theorem limbs_len_lt {m n : Nat} (h : (limbs m).length < (limbs n).length) : m < n := by
  have h1 := limbs_lt m
  have hn : n ≠ 0 := by rintro rfl; rw [limbs_zero] at h; simp at h
  have h2 := limbs_ge hn
  have h3 := bp_mono (show (limbs m).length ≤ (limbs n).length - 1 by omega)
  omega
theorem compare_ev (m n : Nat) (hm : (limbs m).length ≤ 1000000) (hn : (limbs n).length ≤ 1000000) (k : Nat) (hk : (limbs m).length < k) : XLimb.natural_limbs_compare.f k (limbs m) (limbs n) = some (cmpI m n) := by
  unfold XLimb.natural_limbs_compare.f
  by_cases e : ((limbs m).length : Int) = ((limbs n).length : Int)
  · rw [if_pos e]
    have hw : wrap64 (((limbs m).length : Int) - 1) = ((limbs m).length : Int) - 1 := by unfold wrap64; omega
    rw [hw, cmp_loop _ _ (limbs_good m) (limbs_good n) (by omega) (by omega) _ k (Nat.le_refl _) hk (by rw [List.drop_of_length_le (Nat.le_refl _), List.drop_of_length_le (by omega)]), lv_limbs, lv_limbs]
  · rw [if_neg e]
    by_cases h : ((limbs m).length : Int) < ((limbs n).length : Int)
    · rw [if_pos h]
      have := limbs_len_lt (m := m) (n := n) (by omega)
      simp [cmpI, show (m : Int) < n by omega]
    · rw [if_neg h]
      have := limbs_len_lt (m := n) (n := m) (by omega)
      simp [cmpI, show (n : Int) < m by omega, show ¬ (m : Int) < n by omega]

/-! ### mul -/
theorem add_limbs {a b : List Int} {m n : Nat} (ga : Good a) (gb : Good b) (la : a.length ≤ 1000000) (lb : b.length ≤ 1000000) (ha : lv a = m) (hb : lv b = n) : natural_limbs_add.f a b = some (limbs (m + n)) := by
  unfold natural_limbs_add.f
  rw [if_pos (by simp [okB_iff, ga, gb, la, lb]), ha, hb]
  congr 2 <;> omega
theorem times_limbs {a : List Int} {m : Nat} {q : Int} (ga : Good a) (la : a.length ≤ 1000000) (ha : lv a = m) (q0 : 0 ≤ q) (q1 : q < 1000000000) : natural_limbs_times.f a q = some (limbs (q.toNat * m)) := by
  unfold natural_limbs_times.f
  rw [if_pos (by simp [okB_iff, ga, la, q0, q1]), ha]
  congr 1
  rw [show q * (m : Int) = ((q.toNat * m : Nat) : Int) by rw [Int.natCast_mul]; congr 1; omega]
  rfl
theorem sub_limbs {a b : List Int} {m n : Nat} (ga : Good a) (gb : Good b) (la : a.length ≤ 1000000) (lb : b.length ≤ 1000000) (ha : lv a = m) (hb : lv b = n) (h : n ≤ m) : natural_limbs_sub.f a b = some (limbs (m - n)) := by
  unfold natural_limbs_sub.f
  rw [if_pos (by simp [okB_iff, ga, gb, la, lb, ha, hb]; omega), ha, hb]
  congr 2 <;> omega
theorem limbs_mul_len (m n : Nat) : (limbs (m * n)).length ≤ (limbs m).length + (limbs n).length := by
  apply limbs_length_le
  have a := limbs_lt m
  have b := limbs_lt n
  rw [bp_add, Int.natCast_mul]
  have p := bp_pos (limbs n).length
  by_cases e : m = 0
  · subst e
    have := Int.mul_pos (bp_pos (limbs 0).length) p
    simp; exact this
  · calc (m : Int) * n < m * bp (limbs n).length := Int.mul_lt_mul_of_pos_left b (by omega)
      _ ≤ bp (limbs m).length * bp (limbs n).length := Int.mul_le_mul_of_nonneg_right (by omega) (by omega)
theorem limbs_mono {m n : Nat} (h : m ≤ n) : (limbs m).length ≤ (limbs n).length := limbs_length_le (by have := limbs_lt n; omega)
theorem mul_loop (m n : Nat) (hm : (limbs m).length ≤ 1000) (hn : (limbs n).length ≤ 1000) : ∀ (d i k : Nat) (t : Nat), i + d = (limbs n).length → d + 3000 < k → (lv ((limbs n).take i)) = t →
    XLimb.natural_limbs_mul.l0 k (limbs m) (limbs n) (limbs (m * t)) ((limbs n).length : Int) (i : Int) = some (limbs (m * n))
  | 0, i, k, t, hi, hk, ht => by
    obtain ⟨k, rfl⟩ : ∃ m, k = m + 1 := ⟨k - 1, by omega⟩
    have he : t = n := by
      rw [List.take_of_length_le (by omega), lv_limbs] at ht; omega
    subst he
    have := limbs_mul_len m t
    simp only [XLimb.natural_limbs_mul.l0]
    rw [if_neg (by omega), trim_ev _ (by omega) _ (by omega), trimZ_limbs_self]
    rfl
  | d + 1, i, k, t, hi, hk, ht => by
    obtain ⟨k, rfl⟩ : ∃ m, k = m + 1 := ⟨k - 1, by omega⟩
    have hil : i < (limbs n).length := by omega
    have hq := at0_good (limbs_good n) i
    have hw : wrap64 ((i : Int) + 1) = ((i + 1 : Nat) : Int) := by unfold wrap64; omega
    have htn : t ≤ n := by
      have e := lv_append ((limbs n).take i) ((limbs n).drop i)
      rw [List.take_append_drop, lv_limbs, ht] at e
      have := Int.mul_nonneg (Int.le_of_lt (bp_pos ((limbs n).take i).length)) (lv_nonneg (l := (limbs n).drop i) (fun x hx => limbs_good n x (List.mem_of_mem_drop hx)))
      omega
    have hs := lv_take_succ (limbs n) hil
    have l1 := limbs_mul_len m t
    have l1' := limbs_mono htn
    have l2 : (limbs ((at0 (limbs n) i).toNat * m)).length ≤ 1 + (limbs m).length := by
      apply limbs_length_le
      rw [bp_add, Int.natCast_mul]
      have a := limbs_lt m
      have : ((at0 (limbs n) i).toNat : Int) * m ≤ 1000000000 * m := Int.mul_le_mul_of_nonneg_right (by omega) (by omega)
      show _ < 1000000000 * 1 * _
      omega
    simp only [XLimb.natural_limbs_mul.l0]
    rw [if_pos (by omega), if_pos (by omega), if_pos (by omega)]
    simp only [Option.bind_some, Int.toNat_natCast]
    rw [if_pos (by omega), rd_nat, times_limbs (limbs_good m) (by omega) (lv_limbs m) hq.1 hq.2]
    simp only [Option.bind_some]
    rw [if_pos (by rw [List.length_replicate]; omega)]
    have hv : lv (List.replicate i 0 ++ limbs ((at0 (limbs n) i).toNat * m)) = ((bp i * ((at0 (limbs n) i) * m)).toNat : Int) := by
      rw [lv_append, lv_replicate, lv_limbs, List.length_replicate, Int.natCast_mul]
      have := Int.mul_nonneg (Int.le_of_lt (bp_pos i)) (Int.mul_nonneg hq.1 (Int.natCast_nonneg m))
      rw [show (((at0 (limbs n) i).toNat : Int)) = at0 (limbs n) i by omega]
      omega
    rw [add_limbs (limbs_good _) ((Good.zeros i).append (limbs_good _)) (by omega) (by rw [List.length_append, List.length_replicate]; omega) (lv_limbs _) hv]
    simp only [Option.bind_some]
    have hnext : m * t + (bp i * ((at0 (limbs n) i) * m)).toNat = m * (lv ((limbs n).take (i + 1))).toNat := by
      have p0 : 0 ≤ bp i * at0 (limbs n) i := Int.mul_nonneg (Int.le_of_lt (bp_pos i)) hq.1
      have p1 : 0 ≤ bp i * (at0 (limbs n) i * m) := Int.mul_nonneg (Int.le_of_lt (bp_pos i)) (Int.mul_nonneg hq.1 (Int.natCast_nonneg m))
      have e : ((m * t + (bp i * ((at0 (limbs n) i) * m)).toNat : Nat) : Int) = ((m * (lv ((limbs n).take (i + 1))).toNat : Nat) : Int) := by
        rw [Int.natCast_add, Int.natCast_mul, Int.natCast_mul, Int.toNat_of_nonneg p1, Int.toNat_of_nonneg (by rw [hs, ht]; omega), hs, ht]
        grind
      exact Int.ofNat.inj e
    rw [hnext, hw]
    exact mul_loop m n hm hn d (i + 1) k _ (by omega) (by omega) (by have := lv_nonneg ((limbs_good n).take (i + 1)); omega)
theorem mul_some (m n : Nat) (hm : (limbs m).length ≤ 1000) (hn : (limbs n).length ≤ 1000) : XLimb.natural_limbs_mul.f 10000 (limbs m) (limbs n) = some (limbs (m * n)) := by
  unfold XLimb.natural_limbs_mul.f
  have := mul_loop m n hm hn (limbs n).length 0 10000 0 (by omega) (by omega) (by simp [lv])
  rwa [Nat.mul_zero, limbs_zero] at this

/-! ### div -/
theorem bp_succ (n : Nat) : bp (n + 1) = 1000000000 * bp n := rfl
theorem limbs_len_succ {R n : Nat} (h : R < 1000000000 * n) : (limbs R).length ≤ (limbs n).length + 1 := by
  apply limbs_length_le
  have a := limbs_lt n
  rw [bp_succ]
  omega
theorem Good.cons {x : Int} {l : List Int} (h0 : 0 ≤ x) (h1 : x < 1000000000) (h : Good l) : Good (x :: l) := by
  intro y hy
  rcases List.mem_cons.1 hy with rfl | hy
  · exact ⟨h0, h1⟩
  · exact h y hy
theorem mid_wrap (low high : Nat) (h1 : low < high) (h2 : high ≤ 999999999) : wrap64 (Int.tdiv (wrap64 ((wrap64 ((low : Int) + (high : Int))) + 1)) 2) = (((low + high + 1) / 2 : Nat) : Int) := by
  have hw1 : wrap64 ((low : Int) + (high : Int)) = (low : Int) + high := by unfold wrap64; omega
  have hw2 : wrap64 (((low : Int) + (high : Int)) + 1) = (low : Int) + high + 1 := by unfold wrap64; omega
  rw [hw1, hw2, Int.tdiv_eq_ediv_of_nonneg (by omega)]
  unfold wrap64; omega
theorem pred_wrap (mid : Nat) (h0 : 1 ≤ mid) (h : mid ≤ 999999999) : wrap64 ((mid : Int) - 1) = ((mid - 1 : Nat) : Int) := by unfold wrap64; omega
theorem search_ev (m n R : Nat) (q : List Int) (j : Nat) (res : Option (List Int × List Int)) (hn : 0 < n) (hnl : (limbs n).length ≤ 1000) (hRl : (limbs R).length ≤ 2000) (hj : j < q.length)
    (hc : ∃ K, ∀ k, K ≤ k → XLimb.natural_limbs_div.l0 k (limbs m) (limbs n) (q.set j ((R / n : Nat) : Int)) (limbs (R % n)) ((j : Int) - 1) = res) (hjm : j ≤ 1000000) :
    ∀ (d low high : Nat), high - low = d → 1 ≤ low → low ≤ high → high ≤ 999999999 → low * n ≤ R → R < (high + 1) * n →
      ∃ K, ∀ k, K ≤ k → XLimb.natural_limbs_div.l1 k (limbs m) (limbs n) q (limbs R) (j : Int) (low : Int) (high : Int) = res := by
  intro d
  induction d using Nat.strongRecOn with
  | _ d ih =>
  intro low high hd h1 hlh hh hl hu
  by_cases e : low < high
  · have hmid := mid_wrap low high e hh
    obtain ⟨mid, hmid'⟩ : ∃ mid, mid = (low + high + 1) / 2 := ⟨_, rfl⟩
    rw [← hmid'] at hmid
    have hml : (limbs (mid * n)).length ≤ 1001 := by
      have := limbs_len_succ (R := mid * n) (n := n) (Nat.mul_lt_mul_of_pos_right (by omega) hn)
      omega
    by_cases hle : mid * n ≤ R
    · obtain ⟨K, hK⟩ := ih (high - mid) (by omega) mid high rfl (by omega) (by omega) hh hle hu
      refine ⟨K + 5000, fun k hk => ?_⟩
      obtain ⟨k, rfl⟩ : ∃ m, k = m + 1 := ⟨k - 1, by omega⟩
      simp only [XLimb.natural_limbs_div.l1]
      rw [if_pos (by omega), hmid, times_limbs (limbs_good n) (by omega) (lv_limbs n) (by omega) (by omega), Int.toNat_natCast]
      simp only [Option.bind_some]
      rw [compare_ev _ _ (by omega) (by omega) k (by omega)]
      simp only [Option.bind_some]
      rw [if_pos (by unfold cmpI; split <;> (try split) <;> omega)]
      exact hK k (by omega)
    · have hm1 := pred_wrap mid (by omega) (by omega)
      obtain ⟨K, hK⟩ := ih (mid - 1 - low) (by omega) low (mid - 1) rfl h1 (by omega) (by omega) hl (by rw [show mid - 1 + 1 = mid by omega]; omega)
      refine ⟨K + 5000, fun k hk => ?_⟩
      obtain ⟨k, rfl⟩ : ∃ m, k = m + 1 := ⟨k - 1, by omega⟩
      simp only [XLimb.natural_limbs_div.l1]
      rw [if_pos (by omega), hmid, times_limbs (limbs_good n) (by omega) (lv_limbs n) (by omega) (by omega), Int.toNat_natCast]
      simp only [Option.bind_some]
      rw [compare_ev _ _ (by omega) (by omega) k (by omega)]
      simp only [Option.bind_some]
      rw [if_neg (by unfold cmpI; split <;> (try split) <;> omega), hm1]
      exact hK k (by omega)
  · have el : low = high := by omega
    subst el
    have hdiv : R / n = low := by
      apply Nat.div_eq_of_lt_le
      · exact hl
      · exact hu
    have hmod : R - low * n = R % n := by
      have := Nat.div_add_mod R n
      rw [hdiv, Nat.mul_comm] at this; omega
    have hml : (limbs (low * n)).length ≤ 2000 := Nat.le_trans (limbs_mono hl) hRl
    have hw : wrap64 ((j : Int) - 1) = (j : Int) - 1 := by unfold wrap64; omega
    obtain ⟨K, hK⟩ := hc
    refine ⟨K + 1, fun k hk => ?_⟩
    obtain ⟨k, rfl⟩ : ∃ m, k = m + 1 := ⟨k - 1, by omega⟩
    simp only [XLimb.natural_limbs_div.l1]
    rw [if_neg (by omega), times_limbs (limbs_good n) (by omega) (lv_limbs n) (by omega) (by omega), Int.toNat_natCast]
    simp only [Option.bind_some]
    rw [sub_limbs (limbs_good R) (limbs_good _) (by omega) (by omega) (lv_limbs R) (lv_limbs _) hl]
    simp only [Option.bind_some]
    rw [if_pos (by omega), if_pos (by omega), hw, Int.toNat_natCast, hmod]
    have := hK k (by omega)
    rwa [hdiv] at this

theorem div_loop (m n : Nat) (hn : 0 < n) (hml : (limbs m).length ≤ 1000) (hnl : (limbs n).length ≤ 1000) : ∀ (j : Nat) (qs : List Int) (D : Nat), j + qs.length = (limbs m).length → Good qs → lv ((limbs m).drop j) = D → lv qs = ((D / n : Nat) : Int) →
    ∃ K, ∀ k, K ≤ k → XLimb.natural_limbs_div.l0 k (limbs m) (limbs n) (List.replicate j 0 ++ qs) (limbs (D % n)) ((j : Int) - 1) = some (limbs (m / n), limbs (m % n))
  | 0, qs, D, hl, hg, hD, hq => by
    have hDm : D = m := by rw [List.drop_zero, lv_limbs] at hD; omega
    subst hDm
    refine ⟨2000, fun k hk => ?_⟩
    obtain ⟨k, rfl⟩ : ∃ m, k = m + 1 := ⟨k - 1, by omega⟩
    simp only [XLimb.natural_limbs_div.l0, List.replicate_zero, List.nil_append]
    rw [if_neg (by omega), trim_ev _ (by omega) _ (by omega), trimZ_limbs hg, hq]
    rfl
  | j + 1, qs, D, hl, hg, hD, hq => by
    have hjl : j < (limbs m).length := by omega
    have ha := at0_good (limbs_good m) j
    obtain ⟨a, haa⟩ : ∃ a : Nat, at0 (limbs m) j = (a : Int) := ⟨(at0 (limbs m) j).toNat, by omega⟩
    have hd := lv_drop (limbs m) hjl
    rw [hD, haa] at hd
    have hx : ((j + 1 : Nat) : Int) - 1 = (j : Int) := by omega
    have hw : wrap64 ((j : Int) - 1) = (j : Int) - 1 := by unfold wrap64; omega
    obtain ⟨R, hR⟩ : ∃ R, R = a + 1000000000 * (D % n) := ⟨_, rfl⟩
    have hRu : R < 1000000000 * n := by have := Nat.mod_lt D hn; omega
    have hDl : (limbs (D % n)).length ≤ 1000 := Nat.le_trans (limbs_mono (Nat.le_of_lt (Nat.mod_lt D hn))) hnl
    have hRl : (limbs R).length ≤ 1001 := by
      have := limbs_len_succ hRu
      omega
    have hD' : (a + 1000000000 * D) = R + n * (1000000000 * (D / n)) := by
      have := Nat.div_add_mod D n
      have e : n * (1000000000 * (D / n)) = 1000000000 * (n * (D / n)) := by rw [Nat.mul_left_comm]
      omega
    have hdiv : (a + 1000000000 * D) / n = R / n + 1000000000 * (D / n) := by rw [hD', Nat.add_mul_div_left _ _ hn]
    have hmod : (a + 1000000000 * D) % n = R % n := by rw [hD', Nat.add_mul_mod_self_left]
    have hrep : (List.replicate (j + 1) (0 : Int) ++ qs) = List.replicate j 0 ++ (0 :: qs) := by rw [List.replicate_succ']; simp
    have ht : trimZ ([rd (limbs m) (j : Int)] ++ limbs (D % n)) = limbs R := by
      rw [rd_nat, haa, List.singleton_append, trimZ_limbs (Good.cons (by omega) (by omega) (limbs_good _)), lv_cons, lv_limbs]
      congr 1; omega
    have hq0 : R / n < 1000000000 := (Nat.div_lt_iff_lt_mul hn).2 hRu
    by_cases hlt : R < n
    · have hz : R / n = 0 := Nat.div_eq_of_lt hlt
      obtain ⟨K, hK⟩ := div_loop m n hn hml hnl j (0 :: qs) (a + 1000000000 * D) (by simp; omega) (Good.cons (by decide) (by decide) hg) (by omega) (by rw [lv_cons, hq, hdiv, hz]; omega)
      refine ⟨K + 5000, fun k hk => ?_⟩
      obtain ⟨k, rfl⟩ : ∃ m, k = m + 1 := ⟨k - 1, by omega⟩
      simp only [XLimb.natural_limbs_div.l0]
      rw [hx, if_pos (by omega), if_pos (by omega), if_pos (by omega)]
      simp only [Option.bind_some]
      rw [if_pos (by simp; omega), trim_ev _ (by simp; omega) _ (by simp; omega), ht]
      simp only [Option.bind_some]
      rw [compare_ev _ _ (by omega) (by omega) k (by omega)]
      simp only [Option.bind_some]
      rw [if_pos (by unfold cmpI; rw [if_pos (by omega)]; omega), hw, hrep]
      have := hK k (by omega)
      rwa [hmod, Nat.mod_eq_of_lt hlt] at this
    · have hset : (List.replicate (j + 1) (0 : Int) ++ qs).set j ((R / n : Nat) : Int) = List.replicate j 0 ++ (((R / n : Nat) : Int) :: qs) := by
        rw [hrep, List.set_append_right _ _ (by simp)]; simp
      obtain ⟨K, hK⟩ := div_loop m n hn hml hnl j (((R / n : Nat) : Int) :: qs) (a + 1000000000 * D) (by simp; omega) (Good.cons (Int.natCast_nonneg _) (Int.ofNat_lt.2 hq0) hg) (by omega) (by rw [lv_cons, hq, hdiv]; omega)
      rw [hmod] at hK
      obtain ⟨K2, hK2⟩ := search_ev m n R (List.replicate (j + 1) 0 ++ qs) j (some (limbs (m / n), limbs (m % n))) hn hnl (by omega) (by simp; omega) ⟨K, fun k hk => by rw [hset]; exact hK k hk⟩ (by omega) _ 1 999999999 rfl (by omega) (by omega) (by omega) (by omega) (by omega)
      refine ⟨K2 + 5000, fun k hk => ?_⟩
      obtain ⟨k, rfl⟩ : ∃ m, k = m + 1 := ⟨k - 1, by omega⟩
      simp only [XLimb.natural_limbs_div.l0]
      rw [hx, if_pos (by omega), if_pos (by omega), if_pos (by omega)]
      simp only [Option.bind_some]
      rw [if_pos (by simp; omega), trim_ev _ (by simp; omega) _ (by simp; omega), ht]
      simp only [Option.bind_some]
      rw [compare_ev _ _ (by omega) (by omega) k (by omega)]
      simp only [Option.bind_some]
      rw [if_neg (by unfold cmpI; split <;> (try split) <;> omega)]
      exact hK2 k (by omega)
theorem div_ev (m n : Nat) (hn : 0 < n) (hml : (limbs m).length ≤ 1000) (hnl : (limbs n).length ≤ 1000) : Evt (fun k => XLimb.natural_limbs_div.f k (limbs m) (limbs n)) (limbs (m / n), limbs (m % n)) := by
  obtain ⟨K, hK⟩ := div_loop m n hn hml hnl (limbs m).length [] 0 (by simp) (fun x hx => absurd hx (by simp)) (by rw [List.drop_length]; rfl) (by simp [lv])
  refine ⟨K, fun k hk => ?_⟩
  have hw : wrap64 (((limbs m).length : Int) - 1) = ((limbs m).length : Int) - 1 := by unfold wrap64; omega
  simp only [XLimb.natural_limbs_div.f]
  rw [if_pos (by omega), if_pos (by omega), hw, Int.toNat_natCast]
  have := hK k hk
  rwa [List.append_nil, Nat.zero_mod, limbs_zero] at this
end Go.Proofs.YtdhhbmmidgebhaaGreatDoor

/- Plain: the printed loop of read tells the canonical limbs; read's contract. -/
import Derived.Test.YtdhhbmmidgebhaaGreatDoorXRead1
import Derived.Test.YtdhhbmmidgebhaaGreatDoorNatLib
namespace Go.Proofs.YtdhhbmmidgebhaaGreatDoor
open Go.RowKit Go.Proofs.YtdhhbmmidgebhaaGreatDoorW.PrintWords Go.Proofs.YtdhhbmmidgebhaaGreatDoorW.PrintMore Go.Proofs.YtdhhbmmidgebhaaGreatDoorW.PrintLast
set_option linter.unusedVariables false
set_option linter.unusedSimpArgs false

theorem rtrim_loop (l : List Int) : ∀ (n k : Nat), n ≤ l.length → l.length ≤ 9000000000000000000 → n < k → XRead.natural_limbs_trimmed.l0 k l (n : Int) = some (trimZ (l.take n))
  | 0, k, h0, hm, hk => by
    obtain ⟨k, rfl⟩ : ∃ m, k = m + 1 := ⟨k - 1, by omega⟩
    simp only [XRead.natural_limbs_trimmed.l0]
    rw [if_neg (by omega), if_pos (by omega), if_pos (by omega)]
    simp [trimZ]
  | n + 1, k, h0, hm, hk => by
    obtain ⟨k, rfl⟩ : ∃ m, k = m + 1 := ⟨k - 1, by omega⟩
    have hw : wrap64 (((n + 1 : Nat) : Int) - 1) = (n : Int) := by unfold wrap64; omega
    have hs : l.take (n + 1) = l.take n ++ [l[n]'(by omega)] := by rw [List.take_succ_eq_append_getElem (by omega)]
    have hr : rd l (n : Int) = l[n]'(by omega) := by simp [rd, List.getElem?_eq_getElem (show n < l.length by omega)]
    simp only [XRead.natural_limbs_trimmed.l0]
    rw [if_pos (by omega), hw, if_pos (by omega), if_pos (by omega), hr]
    by_cases e : l[n]'(by omega) = 0
    · rw [if_pos e, rtrim_loop l n k (by omega) hm (by omega), hs, e, trimZ_snoc_zero]
    · rw [if_neg e, if_pos (by omega), if_pos (by omega), hs, trimZ_snoc _ e, ← hs]
      simp
theorem rtrim_ev (l : List Int) (h : l.length ≤ 9000000000000000000) (k : Nat) (hk : l.length < k) : XRead.natural_limbs_trimmed.f k l = some (trimZ l) := by
  unfold XRead.natural_limbs_trimmed.f
  rw [rtrim_loop l l.length k (Nat.le_refl _) h hk, List.take_length]

theorem extract_list (a : ByteArray) (i j : Nat) : (a.extract i j).data.toList = (a.data.toList.take j).drop i := by
  rw [ByteArray.data_extract, Array.toList_extract, List.extract_eq_take_drop, List.drop_take]
theorem atoi_piece {a : ByteArray} (h : ∀ c ∈ a.data.toList, isDig c = true) (i j : Nat) (hij : i < j) (hj : j ≤ a.size) (h9 : j - i ≤ 9) :
    strconv_Atoi.f (a.extract i j) = some (((num ((a.data.toList.take j).drop i) : Nat) : Int), none) ∧ num ((a.data.toList.take j).drop i) < 1000000000 := by
  have hl : ((a.data.toList.take j).drop i).length = j - i := by
    rw [List.length_drop, List.length_take, size_list, Nat.min_eq_left hj]
  have hd : ∀ c ∈ (a.data.toList.take j).drop i, isDig c = true := fun c hc => h c (List.mem_of_mem_take (List.mem_of_mem_drop hc))
  have hs : (a.extract i j).size = j - i := by rw [← size_list, extract_list, hl]
  constructor
  · unfold strconv_Atoi.f
    rw [if_pos]
    · unfold valS; rw [extract_list]
    · rw [extract_list, hs]
      simp only [Bool.and_eq_true, List.all_eq_true, decide_eq_true_eq]
      exact ⟨⟨hd, by omega⟩, by omega⟩
  · have := num_lt hd
    rw [hl] at this
    have m := tp_mono h9
    have : tp 9 = 1000000000 := by decide
    omega
theorem num_drop_step (l : List UInt8) (i e : Nat) (hie : i ≤ e) (he : e ≤ l.length) : num (l.drop i) = num ((l.take e).drop i) * tp (l.length - e) + num (l.drop e) := by
  have : l.drop i = (l.take e).drop i ++ l.drop e := by
    conv => lhs; rw [← List.take_append_drop e l]
    rw [List.drop_append_of_le_length (by rw [List.length_take]; omega)]
  rw [this, num_append, List.length_drop]
theorem read_loop (a : ByteArray) (h : ∀ c ∈ a.data.toList, isDig c = true) (hs : a.size ≤ 1000) : ∀ (e j : Nat) (out : List Int), e + 9 * j = a.size → out.length = j → Good out → lv out = (num (a.data.toList.drop e) : Nat) →
    ∃ K, ∀ k, K ≤ k → XRead.natural_read.l0 k a out (e : Int) = some (limbs (valS a)) := by
  intro e
  induction e using Nat.strongRecOn with
  | _ e ih =>
  intro j out hej hol hg hlv
  by_cases h0 : e = 0
  · subst h0
    refine ⟨3000, fun k hk => ?_⟩
    obtain ⟨k, rfl⟩ : ∃ m, k = m + 1 := ⟨k - 1, by omega⟩
    simp only [XRead.natural_read.l0]
    rw [if_neg (by omega), rtrim_ev _ (by omega) _ (by omega), trimZ_limbs hg, hlv]
    rfl
  · have hw : wrap64 ((e : Int) - 9) = (e : Int) - 9 := by unfold wrap64; omega
    by_cases h9 : e ≤ 9
    · have hmx : mx 0 ((e : Int) - 9) = ((0 : Nat) : Int) := by unfold mx; split <;> omega
      obtain ⟨hp, hlt⟩ := atoi_piece h 0 e (by omega) (by omega) (by omega)
      have hn := num_drop_step a.data.toList 0 e (by omega) (by rw [size_list]; omega)
      refine ⟨5000, fun k hk => ?_⟩
      obtain ⟨k, rfl⟩ : ∃ m, k = m + 1 := ⟨k - 1, by omega⟩
      simp only [XRead.natural_read.l0]
      rw [if_pos (by omega), hw, hmx, if_pos (by omega), if_pos (by omega), if_pos (by omega), Int.toNat_natCast, Int.toNat_natCast, hp]
      simp only [Option.bind_some]
      rw [if_pos (by omega)]
      obtain ⟨k, rfl⟩ : ∃ m, k = m + 1 := ⟨k - 1, by omega⟩
      simp only [XRead.natural_read.l0]
      have hg2 : Good (out ++ [((num ((a.data.toList.take e).drop 0) : Nat) : Int)]) := hg.append (Good.cons (Int.natCast_nonneg _) (by omega) (fun x hx => absurd hx (by simp)))
      rw [if_neg (by omega), rtrim_ev _ (by simp; omega) _ (by simp; omega), trimZ_limbs hg2, lv_append, hlv, lv_cons, hol, bp_tp]
      simp only [Option.bind_some]
      congr 2
      unfold valS
      rw [List.drop_zero] at hn
      rw [hn, size_list, show a.size - e = 9 * j by omega]
      generalize num ((a.data.toList.take e).drop 0) = x
      generalize num (a.data.toList.drop e) = y
      generalize tp (9 * j) = z
      have e1 : (y : Int) + (z : Int) * ((x : Int) + 1000000000 * lv []) = ((x * z + y : Nat) : Int) := by
        show (y : Int) + (z : Int) * ((x : Int) + 1000000000 * 0) = _
        rw [Int.natCast_add, Int.natCast_mul]; grind
      rw [e1, Int.toNat_natCast]
    · have hmx : mx 0 ((e : Int) - 9) = ((e - 9 : Nat) : Int) := by unfold mx; split <;> omega
      obtain ⟨hp, hlt⟩ := atoi_piece h (e - 9) e (by omega) (by omega) (by omega)
      have hn := num_drop_step a.data.toList (e - 9) e (by omega) (by rw [size_list]; omega)
      have hg2 : Good (out ++ [((num ((a.data.toList.take e).drop (e - 9)) : Nat) : Int)]) := hg.append (Good.cons (Int.natCast_nonneg _) (by omega) (fun x hx => absurd hx (by simp)))
      obtain ⟨K, hK⟩ := ih (e - 9) (by omega) (j + 1) _ (by omega) (by simp [hol]) hg2 (by
        rw [lv_append, hlv, lv_cons, hol, bp_tp, hn, size_list, show a.size - e = 9 * j by omega]
        generalize num ((a.data.toList.take e).drop (e - 9)) = x
        generalize num (a.data.toList.drop e) = y
        generalize tp (9 * j) = z
        show (y : Int) + (z : Int) * ((x : Int) + 1000000000 * 0) = _
        rw [Int.natCast_add, Int.natCast_mul]; grind)
      refine ⟨K + 1, fun k hk => ?_⟩
      obtain ⟨k, rfl⟩ : ∃ m, k = m + 1 := ⟨k - 1, by omega⟩
      simp only [XRead.natural_read.l0]
      rw [if_pos (by omega), hw, hmx, if_pos (by omega), if_pos (by omega), if_pos (by omega), Int.toNat_natCast, Int.toNat_natCast, hp]
      simp only [Option.bind_some]
      rw [if_pos (by omega), show (e : Int) - 9 = ((e - 9 : Nat) : Int) by omega]
      exact hK k (by omega)
/-- read: the canonical limbs of what the string spells. -/
theorem read_calls (a0 : ByteArray) (h : validS a0 = true) (w : World) :
    Calls Tryz.prog 35 #[.string a0] w fun e w' => ∃ v0_ : Value, e = .returned (v0_) ∧ Kd.R (Kd.int .i64) 3 w' w.heap.size (fun _ => True) v0_ (limbs (valS a0)) ∧ Below w.heap.size w w' := by
  obtain ⟨h1, h2, h3, h4⟩ := validL_iff.1 h
  obtain ⟨K, hK⟩ := read_loop a0 h3 (by rw [size_list] at h2; exact h2) a0.size 0 [] (by omega) rfl (fun x hx => absurd hx (by simp)) (by rw [← size_list, List.drop_length]; rfl)
  exact XRead.natural_read.calls K a0 _ w (hK K (Nat.le_refl _))
theorem limbs_len_valS {a : ByteArray} (h : validS a = true) : (limbs (valS a)).length ≤ 112 := by
  obtain ⟨h1, h2, h3, h4⟩ := validL_iff.1 h
  apply limbs_length_le
  rw [bp_tp]
  have := num_lt h3
  have m := tp_mono (show a.data.toList.length ≤ 9 * 112 by omega)
  unfold valS
  omega
end Go.Proofs.YtdhhbmmidgebhaaGreatDoor

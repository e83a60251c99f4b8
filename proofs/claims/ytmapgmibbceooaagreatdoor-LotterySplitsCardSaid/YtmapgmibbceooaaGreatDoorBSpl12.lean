/- The texts of this claim, laid together by a program of this session (bundle.py). -/
import Derived.Test.YtmapgmibbceooaaGreatDoorBSpl10
section -- LotLaw
namespace Go.Proofs.YtmapgmibbceooaaGreatDoor
set_option linter.unusedVariables false
set_option linter.unusedSimpArgs false
set_option linter.unusedSectionVars false
theorem ix_append_left {a b : List Int} {i : Nat} (h : i < a.length) : ix (a ++ b) i = ix a i := by
  unfold ix; simp [List.getElem?_append_left h]
theorem ix_append_right {a b : List Int} {i : Nat} (h : a.length ≤ i) : ix (a ++ b) i = ix b (i - a.length) := by
  unfold ix; simp [List.getElem?_append_right h]
theorem ix_take {l : List Int} {n i : Nat} (h : i < n) : ix (l.take n) i = ix l i := by
  unfold ix; simp [List.getElem?_take, h]
theorem ix_drop (l : List Int) (n i : Nat) : ix (l.drop n) i = ix l (n + i) := by
  unfold ix; simp [List.getElem?_drop]
theorem split_at (l : List Int) {k : Nat} (h : k < l.length) : l = l.take k ++ [ix l k] ++ l.drop (k + 1) := by
  rw [← take_snoc l h, List.take_append_drop]
theorem mem_split {l : List Int} {k : Nat} (h : k < l.length) {x : Int} : x ∈ l ↔ x ∈ l.take k ∨ x = ix l k ∨ x ∈ l.drop (k + 1) := by
  rw [show x ∈ l ↔ x ∈ l.take k ++ [ix l k] ++ l.drop (k + 1) by rw [← split_at l h]]
  simp [or_assoc]
def moreO (owners : List Int) (k : Nat) : List Int := owners.take (k + 1) ++ [ix owners k] ++ owners.drop (k + 1)
def moreM (merits : List Int) (k : Nat) (x y : Int) : List Int := merits.take k ++ [x, y] ++ merits.drop (k + 1)
section
variable {shares owners merits : List Int} (V : OkReq shares owners merits) {k : Nat} (hk : k < owners.length) {x y : Int}
theorem length_moreO (hk : k < owners.length) : (moreO owners k).length = owners.length + 1 := by simp [moreO]; omega
theorem length_moreM (hk : k < merits.length) : (moreM merits k x y).length = merits.length + 1 := by simp [moreM]; omega
theorem mem_moreO (hk : k < owners.length) (z : Int) : z ∈ moreO owners k ↔ z ∈ owners := by
  rw [mem_split hk, moreO, take_snoc _ hk]
  simp only [List.mem_append, List.mem_singleton]
  constructor
  · rintro (((h | h) | h) | h)
    · exact Or.inl h
    · exact Or.inr (Or.inl h)
    · exact Or.inr (Or.inl h)
    · exact Or.inr (Or.inr h)
  · rintro (h | h | h)
    · exact Or.inl (Or.inl (Or.inl h))
    · exact Or.inl (Or.inr h)
    · exact Or.inr h
include V hk
theorem more_valid (ho : owners.length ≤ 199) (hx : 1 ≤ x ∧ x ≤ 10000) (hy : 1 ≤ y ∧ y ≤ 10000) : OkReq shares (moreO owners k) (moreM merits k x y) := by
  have hkm : k < merits.length := by rw [← V.om]; exact hk
  refine ⟨V.s0, V.s1, by rw [length_moreO hk]; omega, by rw [length_moreO hk, length_moreM hkm, V.om], V.sh, fun z hz => V.ow z ((mem_moreO hk z).1 hz), fun z hz => ?_⟩
  unfold moreM at hz
  simp only [List.mem_append, List.mem_cons, List.not_mem_nil, or_false] at hz
  rcases hz with (h | h | h) | h
  · exact V.me z (List.mem_of_mem_take h)
  · subst h; exact hx
  · subst h; exact hy
  · exact V.me z (List.mem_of_mem_drop h)
theorem own_more {o : Int} (h : o ≠ ix owners k) : ownM (moreO owners k) (moreM merits k x y) o = ownM owners merits o := by
  have hkm : k < merits.length := by rw [← V.om]; exact hk
  have e1 : ownM owners merits o = ownM (owners.take k) (merits.take k) o ++ ownM (owners.drop (k + 1)) (merits.drop (k + 1)) o := by
    conv => lhs; rw [split_at owners hk, split_at merits hkm]
    rw [own_append _ _ _ _ _ (by simp [V.om]), own_append _ _ _ _ _ (by simp [V.om]), own_single, if_neg (Ne.symm h), List.append_nil]
  rw [e1]
  unfold moreO moreM
  rw [take_snoc _ hk, List.append_assoc (owners.take k), own_append _ _ _ _ _ (by simp [V.om]), own_append _ _ _ _ _ (by simp [V.om])]
  rw [own_ne ([ix owners k] ++ [ix owners k]) _ o (by simpa using h), List.append_nil]
theorem totals_more : totals shares (moreO owners k) = totals shares owners := totals_congr fun i _ => mem_moreO hk _
theorem split_tickets {i : Nat} (hi : i < owners.length) (h : ix owners i ≠ ix owners k) : ix (ticketsL shares (moreO owners k) (moreM merits k x y)) (if k < i then i + 1 else i) = ix (ticketsL shares owners merits) i := by
  have hlen := length_moreO hk
  have hat : ix (moreO owners k) (if k < i then i + 1 else i) = ix owners i := by
    unfold moreO
    have l1 : (owners.take (k + 1)).length = k + 1 := by simp; omega
    by_cases hki : k < i
    · rw [if_pos hki, ix_append_right (by simp; omega), ix_drop]
      congr 1; simp; omega
    · rw [if_neg hki, List.append_assoc, ix_append_left (by omega), ix_take (by omega)]
  have hrank : rank (moreO owners k) (if k < i then i + 1 else i) = rank owners i := by
    unfold rank
    rw [hat]
    unfold moreO
    by_cases hki : k < i
    · rw [if_pos hki, List.append_assoc, List.take_append, List.take_append]
      have l1 : (owners.take (k + 1)).length = k + 1 := by simp; omega
      rw [List.take_of_length_le (show (owners.take (k + 1)).length ≤ i + 1 by omega), List.take_of_length_le (show [ix owners k].length ≤ i + 1 - (owners.take (k + 1)).length by rw [l1, List.length_singleton]; omega)]
      rw [List.count_append, List.count_append, List.count_eq_zero_of_not_mem (l := [ix owners k]) (by simpa using h)]
      have e2 : owners.take i = owners.take (k + 1) ++ (owners.drop (k + 1)).take (i - (k + 1)) := by
        rw [← List.take_add]; congr 1; omega
      conv => rhs; rw [e2, List.count_append]
      rw [l1, List.length_singleton, Nat.zero_add]
      congr 3
      omega
    · rw [if_neg hki, List.append_assoc, List.take_append_of_le_length (by simp; omega), List.take_take, Nat.min_eq_left (by omega)]
  have hlt : (if k < i then i + 1 else i) < (moreO owners k).length := by split <;> omega
  unfold ticketsL
  rw [ix_deal _ _ hlt, ix_deal _ _ hi, hrank, hat]
  unfold seatsF
  rw [own_more V hk h, totals_more V hk]
end
/-- The merit of a request lies in the list of its partner at its rank. -/
theorem ix_own (owners merits : List Int) (hl : owners.length = merits.length) {k : Nat} (hk : k < owners.length) : ix (ownM owners merits (ix owners k)) (rank owners k) = ix merits k := by
  have hkm : k < merits.length := by omega
  have e : ownM owners merits (ix owners k) = ownM (owners.take k) (merits.take k) (ix owners k) ++ ([ix merits k] ++ ownM (owners.drop (k + 1)) (merits.drop (k + 1)) (ix owners k)) := by
    have := own_append (owners.take k ++ [ix owners k]) (owners.drop (k + 1)) (merits.take k ++ [ix merits k]) (merits.drop (k + 1)) (ix owners k) (by simp [hl])
    rw [← split_at owners hk, ← split_at merits hkm, own_append _ _ _ _ _ (by simp [hl]), own_single, if_pos rfl, List.append_assoc] at this
    exact this
  have hlen : (ownM (owners.take k) (merits.take k) (ix owners k)).length = rank owners k := by
    rw [length_own _ _ _ (by simp [hl])]; rfl
  rw [e, ix_append_right (by omega), hlen, Nat.sub_self]; rfl
section
variable {shares owners merits : List Int} (V : OkReq shares owners merits)
include V
end
end Go.Proofs.YtmapgmibbceooaaGreatDoor
end

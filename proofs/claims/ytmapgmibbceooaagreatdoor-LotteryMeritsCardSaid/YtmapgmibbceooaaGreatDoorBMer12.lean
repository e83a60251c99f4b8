/- The texts of this claim, laid together by a program of this session (bundle.py). -/
import Derived.Test.YtmapgmibbceooaaGreatDoorBMer10
section -- LotLaw
namespace Go.Proofs.YtmapgmibbceooaaGreatDoor
set_option linter.unusedVariables false
set_option linter.unusedSimpArgs false
set_option linter.unusedSectionVars false
theorem ix_append_left {a b : List Int} {i : Nat} (h : i < a.length) : ix (a ++ b) i = ix a i := by
  unfold ix; simp [List.getElem?_append_left h]
theorem ix_append_right {a b : List Int} {i : Nat} (h : a.length ≤ i) : ix (a ++ b) i = ix b (i - a.length) := by
  unfold ix; simp [List.getElem?_append_right h]
theorem split_at (l : List Int) {k : Nat} (h : k < l.length) : l = l.take k ++ [ix l k] ++ l.drop (k + 1) := by
  rw [← take_snoc l h, List.take_append_drop]
section
variable {shares owners merits : List Int} (V : OkReq shares owners merits) {k : Nat} (hk : k < owners.length) {x y : Int}
include V hk
end
theorem own_congr {owners m1 m2 : List Int} (o : Int) (h1 : owners.length = m1.length) (h2 : owners.length = m2.length) (h : ∀ i, i < owners.length → ix owners i = o → ix m1 i = ix m2 i) : ownM owners m1 o = ownM owners m2 o := by
  induction owners generalizing m1 m2 with
  | nil => simp [ownM]
  | cons x owners ih =>
    cases m1 with
    | nil => simp at h1
    | cons a m1 =>
      cases m2 with
      | nil => simp at h2
      | cons b m2 =>
        have t := ih (m1 := m1) (m2 := m2) (by simpa using h1) (by simpa using h2) (fun i hi e => by
          have := h (i + 1) (by simp; omega) (by rw [ix_cons_succ]; exact e)
          rwa [ix_cons_succ, ix_cons_succ] at this)
        have t0 := h 0 (by simp)
        rw [ix_cons_zero, ix_cons_zero, ix_cons_zero] at t0
        unfold ownM at t ⊢
        rw [List.zip_cons_cons, List.zip_cons_cons, List.filter_cons, List.filter_cons]
        by_cases e : x = o
        · simp only [e, BEq.rfl, if_true, List.map_cons, t, t0 e]
        · simp only [beq_eq_false_iff_ne.2 e, Bool.false_eq_true, if_false, t]
/-- The merit of a request lies in the list of its partner at its rank. -/
theorem ix_own (owners merits : List Int) (hl : owners.length = merits.length) {k : Nat} (hk : k < owners.length) : ix (ownM owners merits (ix owners k)) (rank owners k) = ix merits k := by
  have hkm : k < merits.length := by omega
  have e : ownM owners merits (ix owners k) = ownM (owners.take k) (merits.take k) (ix owners k) ++ ([ix merits k] ++ ownM (owners.drop (k + 1)) (merits.drop (k + 1)) (ix owners k)) := by
    have := own_append (owners.take k ++ [ix owners k]) (owners.drop (k + 1)) (merits.take k ++ [ix merits k]) (merits.drop (k + 1)) (ix owners k) (by simp [hl])
    rw [← split_at owners hk, ← split_at merits hkm, own_append _ _ _ _ _ (by simp [hl]), own_single, if_pos rfl, List.append_assoc] at this
    exact this
  have hlen : (ownM (owners.take k) (merits.take k) (ix owners k)).length = rank owners k := by
    rw [length_own _ _ _ (by simp [hl])]; rfl
  rw [e, ix_append_right (by omega), hlen, Nat.sub_self]; rfl
theorem rank_onto (owners : List Int) (o : Int) : ∀ n, n ≤ owners.length → ∀ r, r < (owners.take n).count o → ∃ i, i < n ∧ ix owners i = o ∧ rank owners i = r
  | 0, _, r, h => absurd h (by simp)
  | n + 1, hn, r, h => by
    rw [count_succ owners o (by omega)] at h
    by_cases hr : r < (owners.take n).count o
    · obtain ⟨i, hi, e⟩ := rank_onto owners o n (by omega) r hr
      exact ⟨i, by omega, e⟩
    · by_cases e : ix owners n = o
      · rw [if_pos e] at h
        exact ⟨n, by omega, e, by unfold rank; rw [e]; omega⟩
      · rw [if_neg e] at h; omega
section
variable {shares owners merits : List Int} (V : OkReq shares owners merits)
include V
/-- A request with a greater merit does not have fewer tickets; those of other partners have the same. -/
theorem merit_up {more : List Int} (hl : more.length = merits.length) {k : Nat} (hk : k < owners.length) (hup : ix merits k ≤ ix more k) (hrest : ∀ i, i ≠ k → ix more i = ix merits i) (hpos : ∀ i, i < more.length → 1 ≤ ix more i) :
    ix (ticketsL shares owners merits) k ≤ ix (ticketsL shares owners more) k ∧ ∀ i, i < owners.length → ix owners i ≠ ix owners k → ix (ticketsL shares owners merits) i = ix (ticketsL shares owners more) i := by
  have hom : owners.length = more.length := by rw [hl, V.om]
  constructor
  · unfold ticketsL
    rw [ix_deal _ _ hk, ix_deal _ _ hk]
    unfold seatsF
    have hr := rank_lt owners hk
    have hn : ∀ m : List Int, owners.length = m.length → (∀ i, i < m.length → 1 ≤ ix m i) → ∀ r, 0 ≤ ix (ownM owners m (ix owners k)) r := by
      intro m hm h1 r
      by_cases hlt : r < (ownM owners m (ix owners k)).length
      · obtain ⟨i, hi, e⟩ := mem_ix.1 (own_mem (ix_mem hlt))
        have := h1 i hi; omega
      · rw [ix_ge (by omega)]; exact Int.le_refl _
    refine run_mono (by rw [length_own _ _ _ V.om, length_own _ _ _ hom]) (hn merits V.om (fun i hi => (V.me _ (ix_mem hi)).1)) (hn more hom hpos) _ (by rw [length_own _ _ _ V.om]; exact hr) ?_ ?_
    · rw [ix_own _ _ V.om hk, ix_own _ _ hom hk]; exact hup
    · intro j hj hne
      rw [length_own _ _ _ V.om] at hj
      obtain ⟨i, hi, e1, e2⟩ := rank_onto owners (ix owners k) owners.length (Nat.le_refl _) j (by rw [List.take_length]; exact hj)
      have hik : i ≠ k := fun h => hne (by rw [← e2, h])
      have a1 := ix_own owners merits V.om hi
      have a2 := ix_own owners more hom hi
      rw [e1, e2] at a1 a2
      rw [a1, a2, hrest i hik]; exact Int.le_refl _
  · intro i hi hne
    unfold ticketsL
    rw [ix_deal _ _ hi, ix_deal _ _ hi]
    unfold seatsF
    rw [own_congr (ix owners i) V.om hom (fun j hj e => (hrest j (fun h => hne (by rw [← e, h]))).symm)]
/-- All merits of a partner multiplied by a factor: the same tickets. -/
theorem merit_scale {sc : List Int} (hl : sc.length = merits.length) (o c : Int) (hc : 0 < c) (h1 : ∀ i, i < owners.length → ix owners i = o → ix sc i = c * ix merits i) (h2 : ∀ i, i < owners.length → ix owners i ≠ o → ix sc i = ix merits i) :
    ticketsL shares owners sc = ticketsL shares owners merits := by
  have hos : owners.length = sc.length := by rw [hl, V.om]
  refine ext_ix (by rw [length_tickets, length_tickets]) fun i hi => ?_
  rw [length_tickets] at hi
  unfold ticketsL
  rw [ix_deal _ _ hi, ix_deal _ _ hi]
  unfold seatsF
  by_cases e : ix owners i = o
  · have : ownM owners sc (ix owners i) = (ownM owners merits (ix owners i)).map (c * ·) := by
      refine ext_ix (by rw [List.length_map, length_own _ _ _ hos, length_own _ _ _ V.om]) fun r hr => ?_
      rw [length_own _ _ _ hos] at hr
      obtain ⟨j, hj, e1, e2⟩ := rank_onto owners (ix owners i) owners.length (Nat.le_refl _) r (by rw [List.take_length]; exact hr)
      have a1 := ix_own owners merits V.om hj
      have a2 := ix_own owners sc hos hj
      rw [e1, e2] at a1 a2
      rw [ix_map_mul, a1, a2, h1 j hj (by rw [e1, e])]
    rw [this, run_scale c hc]
  · rw [own_congr (ix owners i) hos V.om (fun j hj e' => h2 j hj (by rw [e']; exact e))]
end
end Go.Proofs.YtmapgmibbceooaaGreatDoor
end

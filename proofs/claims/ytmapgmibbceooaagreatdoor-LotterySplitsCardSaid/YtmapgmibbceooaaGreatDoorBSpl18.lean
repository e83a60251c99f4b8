/- The texts of this claim, laid together by a program of this session (bundle.py). -/
import Derived.Test.YtmapgmibbceooaaGreatDoorBSpl14
import Derived.Test.YtmapgmibbceooaaGreatDoorBSpl16
import Derived.Test.YtmapgmibbceooaaGreatDoorBSpl17
section -- LotRef
namespace Go.Proofs.YtmapgmibbceooaaGreatDoor
open Go.RowKit Go.Proofs.YtmapgmibbceooaaGreatDoorW.PrintWords Go.Proofs.YtmapgmibbceooaaGreatDoorW.PrintMore Go.Proofs.YtmapgmibbceooaaGreatDoorW.PrintLast
set_option linter.unusedVariables false
set_option linter.unusedSimpArgs false
theorem rd_ix (l : List Int) (i : Nat) : rd l (i : Int) = ix l i := by simp [rd, ix]
theorem ws_i {i : Nat} (h : i ≤ 9000000000000000000) : wrap64 ((i : Int) + 1) = ((i + 1 : Nat) : Int) := by unfold wrap64; omega
def fewL (s o m : List Int) : Bool := decide (s.length ≤ 20) && ((decide (o.length ≤ 30) || decide (200 < o.length)) && (decide (o.length ≤ 210) && decide (m.length ≤ 210)))
theorem few_f (s o m : List Int) : XLotR.observatoryref29_Few.f s o m = some (fewL s o m) := by
  unfold XLotR.observatoryref29_Few.f fewL
  have e : decide ((m.length : Int) ≤ 210) = decide (m.length ≤ 210) := by rw [decide_eq_decide]; omega
  by_cases h1 : s.length ≤ 20
  · rw [if_pos (by omega), decide_eq_true h1, e]
    by_cases h2 : o.length ≤ 30
    · rw [if_pos (by omega), if_pos (by omega), decide_eq_true h2, decide_eq_true (show o.length ≤ 210 by omega)]; simp
    · rw [if_neg (by omega), decide_eq_false h2]
      by_cases h3 : 200 < o.length
      · rw [if_pos (by omega), decide_eq_true h3]
        by_cases h4 : o.length ≤ 210
        · rw [if_pos (by omega), decide_eq_true h4]; simp
        · rw [if_neg (by omega), decide_eq_false h4]; simp
      · rw [if_neg (by omega), decide_eq_false h3]; simp
  · rw [if_neg (by omega), decide_eq_false h1]; rfl
theorem ints_loop (a b : List Int) (h : a.length = b.length) (hl : a.length ≤ 1000) : ∀ (d i k : Nat), i + d = a.length → d < k → (∀ j, j < i → ix a j = ix b j) → XLotR.observatoryref29_Ints.l0 k a b (i : Int) = some (decide (a = b))
  | 0, i, k, hi, hk, hs => by
    obtain ⟨k, rfl⟩ : ∃ m, k = m + 1 := ⟨k - 1, by omega⟩
    simp only [XLotR.observatoryref29_Ints.l0]
    rw [if_neg (by omega), decide_eq_true (ext_ix h (fun j hj => hs j (by omega)))]
  | d + 1, i, k, hi, hk, hs => by
    obtain ⟨k, rfl⟩ : ∃ m, k = m + 1 := ⟨k - 1, by omega⟩
    simp only [XLotR.observatoryref29_Ints.l0]
    rw [if_pos (by omega), if_pos (by omega), if_pos (by omega), rd_ix, rd_ix]
    by_cases e : ix a i = ix b i
    · rw [if_pos e, ws_i (by omega)]
      exact ints_loop a b h hl d (i + 1) k (by omega) (by omega) (fun j hj => by
        by_cases ej : j = i
        · subst ej; exact e
        · exact hs j (by omega))
    · rw [if_neg e, decide_eq_false (fun h => e (by rw [h]))]
theorem ints_f (a b : List Int) (hl : a.length ≤ 1000) : XLotR.observatoryref29_Ints.f 1001 a b = some (decide (a = b)) := by
  unfold XLotR.observatoryref29_Ints.f
  by_cases h : a.length = b.length
  · rw [if_pos (by omega)]; exact ints_loop a b h hl a.length 0 1001 (by omega) (by omega) (fun j hj => absurd hj (Nat.not_lt_zero _))
  · rw [if_neg (by omega), decide_eq_false (fun e => h (by rw [e]))]
def observatoryref29_Few.f (s o m : List Int) : Option Bool := some (fewL s o m)
theorem observatoryref29_Few.calls (A0 : Option Addr) (c0 : Nat) (l0 : List Int) (A1 : Option Addr) (c1 : Nat) (l1 : List Int) (A2 : Option Addr) (c2 : Nat) (l2 : List Int) (r : Bool) (w : World) (hr0 : Kd.C (Kd.int .i64) w A0 l0.length l0) (hc0 : l0.length ≤ c0) (hr1 : Kd.C (Kd.int .i64) w A1 l1.length l1) (hc1 : l1.length ≤ c1) (hr2 : Kd.C (Kd.int .i64) w A2 l2.length l2) (hc2 : l2.length ≤ c2) (h : observatoryref29_Few.f l0 l1 l2 = some r) :
    Calls Tryz.prog 11 #[.slice A0 l0.length c0, .slice A1 l1.length c1, .slice A2 l2.length c2] w fun e w' => e = .returned (.bool r) ∧ Below w.heap.size w w' := by
  refine (XLotR.observatoryref29_Few.calls A0 c0 l0 A1 c1 l1 A2 c2 l2 r w hr0 hc0 hr1 hc1 hr2 hc2 (by rw [few_f]; exact h)).mono ?_
  rintro e w' ⟨rfl, hd⟩
  exact ⟨rfl, hd.below⟩
def observatoryref29_Ints.f (a b : List Int) : Option Bool := if a.length ≤ 1000 then some (decide (a = b)) else none
theorem observatoryref29_Ints.calls (A0 : Option Addr) (c0 : Nat) (l0 : List Int) (A1 : Option Addr) (c1 : Nat) (l1 : List Int) (r : Bool) (w : World) (hr0 : Kd.C (Kd.int .i64) w A0 l0.length l0) (hc0 : l0.length ≤ c0) (hr1 : Kd.C (Kd.int .i64) w A1 l1.length l1) (hc1 : l1.length ≤ c1) (h : observatoryref29_Ints.f l0 l1 = some r) :
    Calls Tryz.prog 18 #[.slice A0 l0.length c0, .slice A1 l1.length c1] w fun e w' => e = .returned (.bool r) ∧ Below w.heap.size w w' := by
  unfold observatoryref29_Ints.f at h
  split at h
  case isFalse => cases h
  rename_i hl
  refine (XLotR.observatoryref29_Ints.calls 1001 A0 c0 l0 A1 c1 l1 r w hr0 hc0 hr1 hc1 (by rw [ints_f _ _ hl]; exact h)).mono ?_
  rintro e w' ⟨rfl, hd⟩
  exact ⟨rfl, hd.below⟩
theorem inB_ix {T : List Int} (h : inB 0 720 T = true) (i : Nat) : 0 ≤ ix T i ∧ ix T i ≤ 720 := by
  by_cases hi : i < T.length
  · exact inB_iff.1 h _ (ix_mem hi)
  · rw [ix_ge (by omega)]; decide
theorem rlist_loop (l : List Int) (hl : l.length ≤ 1000) : ∀ (d i k : Nat), i + d = l.length → d < k → inB 0 720 (l.take i) = true → XLotR.observatoryref29_List.l0 k l (sumL (l.take i)) (i : Int) = some (listS l)
  | 0, i, k, hi, hk, hv => by
    obtain ⟨k, rfl⟩ : ∃ m, k = m + 1 := ⟨k - 1, by omega⟩
    rw [List.take_of_length_le (by omega)] at hv
    simp only [XLotR.observatoryref29_List.l0]
    rw [if_neg (by omega), List.take_of_length_le (by omega)]
    unfold listS
    rw [hv, Bool.true_and]
    by_cases h2 : l.length ≤ 200
    · rw [if_pos (by omega)]
      by_cases h1 : 1 ≤ l.length
      · rw [decide_eq_true ⟨h1, h2⟩, Bool.true_and]
      · have : l = [] := List.length_eq_zero_iff.1 (by omega)
        subst this; rfl
    · rw [if_neg (by omega), decide_eq_false (fun h => h2 h.2)]; rfl
  | d + 1, i, k, hi, hk, hv => by
    obtain ⟨k, rfl⟩ : ∃ m, k = m + 1 := ⟨k - 1, by omega⟩
    have hs := sum_take_succ l (k := i) (by omega)
    have b1 := sum_bd hv
    have hlen : (l.take i).length = i := by simp; omega
    rw [hlen] at b1
    simp only [XLotR.observatoryref29_List.l0]
    rw [if_pos (by omega), if_pos (by omega), rd_ix]
    have bad : ¬ (0 ≤ ix l i ∧ ix l i ≤ 720) → listS l = false := fun h => by
      unfold listS
      have : inB 0 720 l = false := by
        cases e : inB 0 720 l with
        | false => rfl
        | true => exact absurd (inB_iff.1 e _ (ix_mem (show i < l.length by omega))) h
      rw [this]; simp
    by_cases h1 : ix l i < 0
    · rw [if_pos h1, bad (by omega)]
    · rw [if_neg h1]
      by_cases h2 : ix l i > 720
      · rw [if_pos h2, bad (by omega)]
      · rw [if_neg h2, ← hs, show wrap64 (sumL (l.take (i + 1))) = sumL (l.take (i + 1)) by unfold wrap64; omega, ws_i (by omega)]
        refine rlist_loop l hl d (i + 1) k (by omega) (by omega) ?_
        rw [inB_iff, take_snoc l (show i < l.length by omega)]
        intro x hx
        rcases List.mem_append.1 hx with hx | hx
        · exact inB_iff.1 hv x hx
        · have := List.mem_singleton.1 hx; omega
theorem rlist_f (l : List Int) (hl : l.length ≤ 1000) (k : Nat) (hk : 1000 < k) : XLotR.observatoryref29_List.f k l = some (listS l) :=
  rlist_loop l hl l.length 0 k (by omega) (by omega) (by simp [inB])
theorem listS_iff {l : List Int} : listS l = true ↔ (1 ≤ l.length ∧ l.length ≤ 200) ∧ inB 0 720 l = true ∧ sumL l = 720 := by
  unfold listS; simp only [Bool.and_eq_true, decide_eq_true_eq, beq_iff_eq]
def observatoryref29_List.f (l : List Int) : Option Bool := if l.length ≤ 1000 then some (listS l) else none
theorem observatoryref29_List.calls (A0 : Option Addr) (c0 : Nat) (l0 : List Int) (r : Bool) (w : World) (hr0 : Kd.C (Kd.int .i64) w A0 l0.length l0) (hc0 : l0.length ≤ c0) (h : observatoryref29_List.f l0 = some r) :
    Calls Tryz.prog 21 #[.slice A0 l0.length c0] w fun e w' => e = .returned (.bool r) ∧ Below w.heap.size w w' := by
  unfold observatoryref29_List.f at h
  split at h
  case isFalse => cases h
  rename_i hl
  refine (XLotR.observatoryref29_List.calls 1500 A0 c0 l0 r w hr0 hc0 (by rw [rlist_f _ hl 1500 (by omega)]; exact h)).mono ?_
  rintro e w' ⟨rfl, hd⟩
  exact ⟨rfl, hd.below⟩
end Go.Proofs.YtmapgmibbceooaaGreatDoor
end
section -- LotRefT
namespace Go.Proofs.YtmapgmibbceooaaGreatDoor
open Go.RowKit Go.Proofs.YtmapgmibbceooaaGreatDoorW.PrintWords Go.Proofs.YtmapgmibbceooaaGreatDoorW.PrintMore Go.Proofs.YtmapgmibbceooaaGreatDoorW.PrintLast
set_option linter.unusedVariables false
set_option linter.unusedSimpArgs false
theorem wid {x : Int} (h : -9000000000000000000 ≤ x ∧ x ≤ 9000000000000000000) : wrap64 x = x := by unfold wrap64; omega
end Go.Proofs.YtmapgmibbceooaaGreatDoor
end

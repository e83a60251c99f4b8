/- The texts of this claim, laid together by a program of this session (bundle.py). -/
import Derived.Test.YtmapgmibbceooaaGreatDoorBMat14
import Derived.Test.YtmapgmibbceooaaGreatDoorBMat16
import Derived.Test.YtmapgmibbceooaaGreatDoorBMat17
section -- LotRef
namespace Go.Proofs.YtmapgmibbceooaaGreatDoor
open Go.RowKit Go.Proofs.YtmapgmibbceooaaGreatDoorW.PrintWords Go.Proofs.YtmapgmibbceooaaGreatDoorW.PrintMore Go.Proofs.YtmapgmibbceooaaGreatDoorW.PrintLast
set_option linter.unusedVariables false
set_option linter.unusedSimpArgs false
theorem rd_ix (l : List Int) (i : Nat) : rd l (i : Int) = ix l i := by simp [rd, ix]
theorem ws_i {i : Nat} (h : i ≤ 9000000000000000000) : wrap64 ((i : Int) + 1) = ((i + 1 : Nat) : Int) := by unfold wrap64; omega
def fewL (s o m : List Int) : Bool := decide (s.length ≤ 20) && ((decide (o.length ≤ 30) || decide (200 < o.length)) && (decide (o.length ≤ 210) && decide (m.length ≤ 210)))
theorem few_f (s o m : List Int) : XLotR.observatoryref29_Few.f s o m = some (fewL s o m) := by
  unfold XLotR.observatoryref29_Few.f fewL
  have e : decide ((m.length : Int) ≤ 210) = decide (m.length ≤ 210) := by rw [decide_eq_decide]; omega
  by_cases h1 : s.length ≤ 20
  · rw [if_pos (by omega), decide_eq_true h1, e]
    by_cases h2 : o.length ≤ 30
    · rw [if_pos (by omega), if_pos (by omega), decide_eq_true h2, decide_eq_true (show o.length ≤ 210 by omega)]; simp
    · rw [if_neg (by omega), decide_eq_false h2]
      by_cases h3 : 200 < o.length
      · rw [if_pos (by omega), decide_eq_true h3]
        by_cases h4 : o.length ≤ 210
        · rw [if_pos (by omega), decide_eq_true h4]; simp
        · rw [if_neg (by omega), decide_eq_false h4]; simp
      · rw [if_neg (by omega), decide_eq_false h3]; simp
  · rw [if_neg (by omega), decide_eq_false h1]; rfl
theorem ints_loop (a b : List Int) (h : a.length = b.length) (hl : a.length ≤ 1000) : ∀ (d i k : Nat), i + d = a.length → d < k → (∀ j, j < i → ix a j = ix b j) → XLotR.observatoryref29_Ints.l0 k a b (i : Int) = some (decide (a = b))
  | 0, i, k, hi, hk, hs => by
    obtain ⟨k, rfl⟩ : ∃ m, k = m + 1 := ⟨k - 1, by omega⟩
    simp only [XLotR.observatoryref29_Ints.l0]
    rw [if_neg (by omega), decide_eq_true (ext_ix h (fun j hj => hs j (by omega)))]
  | d + 1, i, k, hi, hk, hs => by
    obtain ⟨k, rfl⟩ : ∃ m, k = m + 1 := ⟨k - 1, by omega⟩
    simp only [XLotR.observatoryref29_Ints.l0]
    rw [if_pos (by omega), if_pos (by omega), if_pos (by omega), rd_ix, rd_ix]
    by_cases e : ix a i = ix b i
    · rw [if_pos e, ws_i (by omega)]
      exact ints_loop a b h hl d (i + 1) k (by omega) (by omega) (fun j hj => by
        by_cases ej : j = i
        · subst ej; exact e
        · exact hs j (by omega))
    · rw [if_neg e, decide_eq_false (fun h => e (by rw [h]))]
theorem ints_f (a b : List Int) (hl : a.length ≤ 1000) : XLotR.observatoryref29_Ints.f 1001 a b = some (decide (a = b)) := by
  unfold XLotR.observatoryref29_Ints.f
  by_cases h : a.length = b.length
  · rw [if_pos (by omega)]; exact ints_loop a b h hl a.length 0 1001 (by omega) (by omega) (fun j hj => absurd hj (Nat.not_lt_zero _))
  · rw [if_neg (by omega), decide_eq_false (fun e => h (by rw [e]))]
theorem in_loop (l : List Int) (x : Int) (hl : l.length ≤ 1000) : ∀ (d i k : Nat), i + d = l.length → d < k → XLotR.observatorylaw29_in.l0 k l x (i : Int) = some ((l.drop i).contains x)
  | 0, i, k, hi, hk => by
    obtain ⟨k, rfl⟩ : ∃ m, k = m + 1 := ⟨k - 1, by omega⟩
    simp only [XLotR.observatorylaw29_in.l0]
    rw [if_neg (by omega), List.drop_of_length_le (by omega)]; rfl
  | d + 1, i, k, hi, hk => by
    obtain ⟨k, rfl⟩ : ∃ m, k = m + 1 := ⟨k - 1, by omega⟩
    simp only [XLotR.observatorylaw29_in.l0]
    rw [if_pos (by omega), if_pos (by omega), rd_ix, List.drop_eq_getElem_cons (show i < l.length by omega), List.contains_cons, ix_lt (show i < l.length by omega)]
    by_cases e : l[i]'(by omega) = x
    · rw [if_pos e, e]; simp
    · rw [if_neg e, ws_i (by omega), in_loop l x hl d (i + 1) k (by omega) (by omega), beq_eq_false_iff_ne.2 (Ne.symm e), Bool.false_or]
def observatoryref29_Few.f (s o m : List Int) : Option Bool := some (fewL s o m)
theorem observatoryref29_Few.calls (A0 : Option Addr) (c0 : Nat) (l0 : List Int) (A1 : Option Addr) (c1 : Nat) (l1 : List Int) (A2 : Option Addr) (c2 : Nat) (l2 : List Int) (r : Bool) (w : World) (hr0 : Kd.C (Kd.int .i64) w A0 l0.length l0) (hc0 : l0.length ≤ c0) (hr1 : Kd.C (Kd.int .i64) w A1 l1.length l1) (hc1 : l1.length ≤ c1) (hr2 : Kd.C (Kd.int .i64) w A2 l2.length l2) (hc2 : l2.length ≤ c2) (h : observatoryref29_Few.f l0 l1 l2 = some r) :
    Calls Tryz.prog 11 #[.slice A0 l0.length c0, .slice A1 l1.length c1, .slice A2 l2.length c2] w fun e w' => e = .returned (.bool r) ∧ Below w.heap.size w w' := by
  refine (XLotR.observatoryref29_Few.calls A0 c0 l0 A1 c1 l1 A2 c2 l2 r w hr0 hc0 hr1 hc1 hr2 hc2 (by rw [few_f]; exact h)).mono ?_
  rintro e w' ⟨rfl, hd⟩
  exact ⟨rfl, hd.below⟩
def observatoryref29_Ints.f (a b : List Int) : Option Bool := if a.length ≤ 1000 then some (decide (a = b)) else none
theorem observatoryref29_Ints.calls (A0 : Option Addr) (c0 : Nat) (l0 : List Int) (A1 : Option Addr) (c1 : Nat) (l1 : List Int) (r : Bool) (w : World) (hr0 : Kd.C (Kd.int .i64) w A0 l0.length l0) (hc0 : l0.length ≤ c0) (hr1 : Kd.C (Kd.int .i64) w A1 l1.length l1) (hc1 : l1.length ≤ c1) (h : observatoryref29_Ints.f l0 l1 = some r) :
    Calls Tryz.prog 18 #[.slice A0 l0.length c0, .slice A1 l1.length c1] w fun e w' => e = .returned (.bool r) ∧ Below w.heap.size w w' := by
  unfold observatoryref29_Ints.f at h
  split at h
  case isFalse => cases h
  rename_i hl
  refine (XLotR.observatoryref29_Ints.calls 1001 A0 c0 l0 A1 c1 l1 r w hr0 hc0 hr1 hc1 (by rw [ints_f _ _ hl]; exact h)).mono ?_
  rintro e w' ⟨rfl, hd⟩
  exact ⟨rfl, hd.below⟩
theorem inB_ix {T : List Int} (h : inB 0 720 T = true) (i : Nat) : 0 ≤ ix T i ∧ ix T i ≤ 720 := by
  by_cases hi : i < T.length
  · exact inB_iff.1 h _ (ix_mem hi)
  · rw [ix_ge (by omega)]; decide
theorem rlist_loop (l : List Int) (hl : l.length ≤ 1000) : ∀ (d i k : Nat), i + d = l.length → d < k → inB 0 720 (l.take i) = true → XLotR.observatoryref29_List.l0 k l (sumL (l.take i)) (i : Int) = some (listS l)
  | 0, i, k, hi, hk, hv => by
    obtain ⟨k, rfl⟩ : ∃ m, k = m + 1 := ⟨k - 1, by omega⟩
    rw [List.take_of_length_le (by omega)] at hv
    simp only [XLotR.observatoryref29_List.l0]
    rw [if_neg (by omega), List.take_of_length_le (by omega)]
    unfold listS
    rw [hv, Bool.true_and]
    by_cases h2 : l.length ≤ 200
    · rw [if_pos (by omega)]
      by_cases h1 : 1 ≤ l.length
      · rw [decide_eq_true ⟨h1, h2⟩, Bool.true_and]
      · have : l = [] := List.length_eq_zero_iff.1 (by omega)
        subst this; rfl
    · rw [if_neg (by omega), decide_eq_false (fun h => h2 h.2)]; rfl
  | d + 1, i, k, hi, hk, hv => by
    obtain ⟨k, rfl⟩ : ∃ m, k = m + 1 := ⟨k - 1, by omega⟩
    have hs := sum_take_succ l (k := i) (by omega)
    have b1 := sum_bd hv
    have hlen : (l.take i).length = i := by simp; omega
    rw [hlen] at b1
    simp only [XLotR.observatoryref29_List.l0]
    rw [if_pos (by omega), if_pos (by omega), rd_ix]
    have bad : ¬ (0 ≤ ix l i ∧ ix l i ≤ 720) → listS l = false := fun h => by
      unfold listS
      have : inB 0 720 l = false := by
        cases e : inB 0 720 l with
        | false => rfl
        | true => exact absurd (inB_iff.1 e _ (ix_mem (show i < l.length by omega))) h
      rw [this]; simp
    by_cases h1 : ix l i < 0
    · rw [if_pos h1, bad (by omega)]
    · rw [if_neg h1]
      by_cases h2 : ix l i > 720
      · rw [if_pos h2, bad (by omega)]
      · rw [if_neg h2, ← hs, show wrap64 (sumL (l.take (i + 1))) = sumL (l.take (i + 1)) by unfold wrap64; omega, ws_i (by omega)]
        refine rlist_loop l hl d (i + 1) k (by omega) (by omega) ?_
        rw [inB_iff, take_snoc l (show i < l.length by omega)]
        intro x hx
        rcases List.mem_append.1 hx with hx | hx
        · exact inB_iff.1 hv x hx
        · have := List.mem_singleton.1 hx; omega
theorem rlist_f (l : List Int) (hl : l.length ≤ 1000) (k : Nat) (hk : 1000 < k) : XLotR.observatoryref29_List.f k l = some (listS l) :=
  rlist_loop l hl l.length 0 k (by omega) (by omega) (by simp [inB])
theorem listS_iff {l : List Int} : listS l = true ↔ (1 ≤ l.length ∧ l.length ≤ 200) ∧ inB 0 720 l = true ∧ sumL l = 720 := by
  unfold listS; simp only [Bool.and_eq_true, decide_eq_true_eq, beq_iff_eq]
theorem rwin_loop (l : List Int) (h : listS l = true) (draw : Int) (h0 : 0 ≤ draw) (h1 : draw ≤ 719) : ∀ (d i k : Nat), i + d = l.length → d < k → (∀ j, j < i → sumL (l.take (j + 1)) ≤ draw) → XLotR.observatoryref29_Winner.l0 k l (draw - sumL (l.take i)) (i : Int) = some (winI l draw, 0)
  | 0, i, k, hi, hk, hs => by
    obtain ⟨⟨a, b⟩, c, e⟩ := listS_iff.1 h
    exfalso
    have := hs (i - 1) (by omega)
    rw [show i - 1 + 1 = l.length by omega, List.take_length] at this
    omega
  | d + 1, i, k, hi, hk, hs => by
    obtain ⟨k, rfl⟩ : ∃ m, k = m + 1 := ⟨k - 1, by omega⟩
    obtain ⟨⟨a, b⟩, c, e⟩ := listS_iff.1 h
    have hst := sum_take_succ l (k := i) (by omega)
    have b1 := sum_take_bd c i
    have b2 := sum_take_bd c (i + 1)
    simp only [XLotR.observatoryref29_Winner.l0]
    rw [if_pos (by omega), if_pos (by omega), rd_ix]
    by_cases hc : draw - sumL (l.take i) ≥ ix l i
    · rw [if_pos hc, show draw - sumL (l.take i) - ix l i = draw - sumL (l.take (i + 1)) by omega, show wrap64 (draw - sumL (l.take (i + 1))) = draw - sumL (l.take (i + 1)) by unfold wrap64; omega, ws_i (by omega)]
      exact rwin_loop l h draw h0 h1 d (i + 1) k (by omega) (by omega) (fun j hj => by
        by_cases ej : j = i
        · subst ej; omega
        · exact hs j (by omega))
    · rw [if_neg hc]
      unfold winI
      rw [firstP_hit l.length 0 i (by omega) (by omega) (fun j _ hj => decide_eq_false (by have := hs j hj; omega)) (decide_eq_true (by omega))]
theorem rwin_f (l : List Int) (hl : l.length ≤ 1000) (draw : Int) : XLotR.observatoryref29_Winner.f 1500 l draw = some (winS l draw) := by
  unfold XLotR.observatoryref29_Winner.f winS
  rw [rlist_f l hl 1500 (by omega)]
  simp only [Option.bind_some, XLotR.observatoryref29_Winner.j0]
  cases h : listS l with
  | false => rfl
  | true =>
    rw [if_pos rfl]
    by_cases h0 : draw < 0
    · rw [if_pos h0, if_pos trivial, decide_eq_false (by omega)]; rfl
    · rw [if_neg h0]
      by_cases h1 : draw > 719
      · rw [decide_eq_true h1, if_pos rfl, decide_eq_false (by omega)]; rfl
      · rw [decide_eq_false h1, if_neg (by simp), decide_eq_true (show 0 ≤ draw ∧ draw ≤ 719 by omega)]
        have := rwin_loop l h draw (by omega) (by omega) l.length 0 1499 (by omega) (by omega) (fun j hj => absurd hj (Nat.not_lt_zero _))
        rw [List.take_zero, sumL, Int.sub_zero] at this
        exact this
def observatoryref29_Winner.f (l : List Int) (d : Int) : Option (Int × Int) := if l.length ≤ 1000 then some (winS l d) else none
theorem observatoryref29_Winner.calls (A0 : Option Addr) (c0 : Nat) (l0 : List Int) (a1 : Int) (r1 r2 : Int) (w : World) (hr0 : Kd.C (Kd.int .i64) w A0 l0.length l0) (hc0 : l0.length ≤ c0) (h : observatoryref29_Winner.f l0 a1 = some (r1, r2)) :
    Calls Tryz.prog 15 #[.slice A0 l0.length c0, .int .i64 a1] w fun e w' => e = .returned (.tuple #[.int .i64 r1, .int .i64 r2]) ∧ Below w.heap.size w w' := by
  unfold observatoryref29_Winner.f at h
  split at h
  case isFalse => cases h
  rename_i hl
  refine (XLotR.observatoryref29_Winner.calls 1500 A0 c0 l0 a1 r1 r2 w hr0 hc0 (by rw [rwin_f _ hl]; exact h)).mono ?_
  rintro e w' ⟨rfl, hd⟩
  exact ⟨rfl, hd.below⟩
def observatoryref29_List.f (l : List Int) : Option Bool := if l.length ≤ 1000 then some (listS l) else none
theorem observatoryref29_List.calls (A0 : Option Addr) (c0 : Nat) (l0 : List Int) (r : Bool) (w : World) (hr0 : Kd.C (Kd.int .i64) w A0 l0.length l0) (hc0 : l0.length ≤ c0) (h : observatoryref29_List.f l0 = some r) :
    Calls Tryz.prog 21 #[.slice A0 l0.length c0] w fun e w' => e = .returned (.bool r) ∧ Below w.heap.size w w' := by
  unfold observatoryref29_List.f at h
  split at h
  case isFalse => cases h
  rename_i hl
  refine (XLotR.observatoryref29_List.calls 1500 A0 c0 l0 r w hr0 hc0 (by rw [rlist_f _ hl 1500 (by omega)]; exact h)).mono ?_
  rintro e w' ⟨rfl, hd⟩
  exact ⟨rfl, hd.below⟩
end Go.Proofs.YtmapgmibbceooaaGreatDoor
end
section -- LotRefT
namespace Go.Proofs.YtmapgmibbceooaaGreatDoor
open Go.RowKit Go.Proofs.YtmapgmibbceooaaGreatDoorW.PrintWords Go.Proofs.YtmapgmibbceooaaGreatDoorW.PrintMore Go.Proofs.YtmapgmibbceooaaGreatDoorW.PrintLast
set_option linter.unusedVariables false
set_option linter.unusedSimpArgs false
theorem rv_merits (s o m : List Int) (hs : s.length ≤ 16) (ho : o.length ≤ 200) (hm : o.length = m.length) : ∀ (d i k : Nat), i + d = o.length → d < k →
    XLotR.observatoryref29_Valid.l1 k s o m (i : Int) = some (inB 0 ((s.length : Int) - 1) (o.drop i) && inB 1 10000 (m.drop i))
  | 0, i, k, hi, hk => by
    obtain ⟨k, rfl⟩ : ∃ m, k = m + 1 := ⟨k - 1, by omega⟩
    simp only [XLotR.observatoryref29_Valid.l1]
    rw [if_neg (by omega), List.drop_of_length_le (show o.length ≤ i by omega), List.drop_of_length_le (show m.length ≤ i by omega)]; rfl
  | d + 1, i, k, hi, hk => by
    obtain ⟨k, rfl⟩ : ∃ m, k = m + 1 := ⟨k - 1, by omega⟩
    have ih := rv_merits s o m hs ho hm d (i + 1) k (by omega) (by omega)
    simp only [XLotR.observatoryref29_Valid.l1]
    rw [if_pos (by omega), if_pos (by omega), rd_ix, rd_ix, List.drop_eq_getElem_cons (show i < o.length by omega), List.drop_eq_getElem_cons (show i < m.length by omega)]
    unfold inB at ih ⊢
    rw [List.all_cons, List.all_cons, ix_lt (show i < o.length by omega), ix_lt (show i < m.length by omega)]
    by_cases h1 : o[i]'(by omega) < 0
    · rw [if_pos h1, decide_eq_false (by omega)]; rfl
    · rw [if_neg h1]
      by_cases h2 : o[i]'(by omega) ≥ (s.length : Int)
      · rw [if_pos h2, decide_eq_false (by omega)]; rfl
      · rw [if_neg h2, if_pos (by omega), decide_eq_true (show 0 ≤ o[i]'(by omega) ∧ o[i]'(by omega) ≤ (s.length : Int) - 1 by omega)]
        by_cases h3 : m[i]'(by omega) < 1
        · rw [if_pos h3, decide_eq_false (show ¬ (1 ≤ m[i]'(by omega) ∧ m[i]'(by omega) ≤ 10000) by omega)]; simp
        · rw [if_neg h3]
          by_cases h4 : m[i]'(by omega) > 10000
          · rw [if_pos h4, decide_eq_false (show ¬ (1 ≤ m[i]'(by omega) ∧ m[i]'(by omega) ≤ 10000) by omega)]; simp
          · rw [if_neg h4, ws_i (by omega), ih, decide_eq_true (show 1 ≤ m[i]'(by omega) ∧ m[i]'(by omega) ≤ 10000 by omega), Bool.true_and, Bool.true_and]
theorem rv_shares (s o m : List Int) (hs : s.length ≤ 16) (ho : o.length ≤ 200) (hm : o.length = m.length) : ∀ (d i k : Nat), i + d = s.length → d + 300 < k →
    XLotR.observatoryref29_Valid.l0 k s o m (i : Int) = some (inB 1 1000 (s.drop i) && (inB 0 ((s.length : Int) - 1) o && inB 1 10000 m))
  | 0, i, k, hi, hk => by
    obtain ⟨k, rfl⟩ : ∃ m, k = m + 1 := ⟨k - 1, by omega⟩
    have := rv_merits s o m hs ho hm o.length 0 k (by omega) (by omega)
    simp only [XLotR.observatoryref29_Valid.l0]
    rw [if_neg (by omega), List.drop_of_length_le (show s.length ≤ i by omega)]
    rw [List.drop_zero, List.drop_zero] at this
    exact this
  | d + 1, i, k, hi, hk => by
    obtain ⟨k, rfl⟩ : ∃ m, k = m + 1 := ⟨k - 1, by omega⟩
    have ih := rv_shares s o m hs ho hm d (i + 1) k (by omega) (by omega)
    simp only [XLotR.observatoryref29_Valid.l0]
    rw [if_pos (by omega), if_pos (by omega), rd_ix, List.drop_eq_getElem_cons (show i < s.length by omega)]
    rw [show inB 1 1000 (s[i]'(by omega) :: s.drop (i + 1)) = (decide (1 ≤ s[i]'(by omega) ∧ s[i]'(by omega) ≤ 1000) && inB 1 1000 (s.drop (i + 1))) from rfl, ix_lt (show i < s.length by omega)]
    by_cases h1 : s[i]'(by omega) < 1
    · rw [if_pos h1, decide_eq_false (by omega)]; rfl
    · rw [if_neg h1]
      by_cases h2 : s[i]'(by omega) > 1000
      · rw [if_pos h2, decide_eq_false (by omega)]; rfl
      · rw [if_neg h2, ws_i (by omega), ih, decide_eq_true (show 1 ≤ s[i]'(by omega) ∧ s[i]'(by omega) ≤ 1000 by omega), Bool.true_and]
theorem rvalid29 (s o m : List Int) (k : Nat) (hk : 400 ≤ k) : XLotR.observatoryref29_Valid.f k s o m = some (okReq s o m) := by
  obtain ⟨k, rfl⟩ : ∃ m, k = m + 1 := ⟨k - 1, by omega⟩
  unfold XLotR.observatoryref29_Valid.f okReq
  simp only [XLotR.observatoryref29_Valid.j0]
  by_cases c1 : 1 ≤ s.length
  · rw [if_neg (show ¬ (s.length : Int) < 1 by omega)]
    by_cases c2 : s.length ≤ 16
    · rw [if_neg (show ¬ (s.length : Int) > 16 by omega), decide_eq_true ⟨c1, c2⟩]
      by_cases c3 : o.length ≤ 200
      · rw [if_neg (show ¬ (o.length : Int) > 200 by omega), decide_eq_true c3]
        by_cases c4 : o.length = m.length
        · have e : ((m.length : Int) != (o.length : Int)) = false := by simp [c4]
          rw [e, if_neg (by simp), decide_eq_true c4]
          have := rv_shares s o m c2 c3 c4 s.length 0 k (by omega) (by omega)
          rw [List.drop_zero] at this
          exact this
        · have e : ((m.length : Int) != (o.length : Int)) = true := by simp; omega
          rw [e, if_pos rfl, decide_eq_false c4]; rfl
      · rw [if_pos (show (o.length : Int) > 200 by omega), if_pos trivial, decide_eq_false c3]; rfl
    · rw [if_pos (show (s.length : Int) > 16 by omega), if_pos trivial, decide_eq_false (show ¬ (1 ≤ s.length ∧ s.length ≤ 16) by omega)]; rfl
  · rw [if_pos (show (s.length : Int) < 1 by omega), if_pos trivial, decide_eq_false (show ¬ (1 ≤ s.length ∧ s.length ≤ 16) by omega)]; rfl
theorem rvalid28_loop (l : List Int) (hl : l.length ≤ 200) (hv : inB 0 1000000000 l = true) : ∀ (d i k : Nat), i + d = l.length → d < k → XLotR.observatoryref28_Valid.l0 k l (i : Int) = some true
  | 0, i, k, hi, hk => by
    obtain ⟨k, rfl⟩ : ∃ m, k = m + 1 := ⟨k - 1, by omega⟩
    simp only [XLotR.observatoryref28_Valid.l0]
    rw [if_neg (by omega)]
  | d + 1, i, k, hi, hk => by
    obtain ⟨k, rfl⟩ : ∃ m, k = m + 1 := ⟨k - 1, by omega⟩
    have := inB_iff.1 hv _ (ix_mem (show i < l.length by omega))
    simp only [XLotR.observatoryref28_Valid.l0]
    rw [if_pos (by omega), if_pos (by omega), rd_ix, if_neg (by omega), if_neg (by omega), ws_i (by omega)]
    exact rvalid28_loop l hl hv d (i + 1) k (by omega) (by omega)
theorem rvalid28 (l : List Int) (h1 : 1 ≤ l.length) (hl : l.length ≤ 200) (hv : inB 0 1000000000 l = true) (k : Nat) (hk : 300 ≤ k) : XLotR.observatoryref28_Valid.f k l = some true := by
  obtain ⟨k, rfl⟩ : ∃ m, k = m + 1 := ⟨k - 1, by omega⟩
  unfold XLotR.observatoryref28_Valid.f
  rw [if_neg (by omega), decide_eq_false (by omega)]
  simp only [XLotR.observatoryref28_Valid.j0]
  rw [if_neg (by simp)]
  exact rvalid28_loop l hl hv l.length 0 k (by omega) (by omega)
theorem mul_bd {a b : Int} (ha : 0 ≤ a ∧ a ≤ 1000000000) (hb : 0 ≤ b ∧ b ≤ 1000) : 0 ≤ a * (b + 1) ∧ a * (b + 1) ≤ 1001000000000 := by
  refine ⟨Int.mul_nonneg (by omega) (by omega), ?_⟩
  have := Int.mul_le_mul ha.2 (show b + 1 ≤ 1001 by omega) (by omega) (by omega); omega
theorem wid {x : Int} (h : -9000000000000000000 ≤ x ∧ x ≤ 9000000000000000000) : wrap64 x = x := by unfold wrap64; omega
theorem rshare_in (T : Int) (t : Int) (ws ss : List Int) (hl : ss.length = ws.length) (hn : 1 ≤ ws.length) (hn1 : ws.length ≤ 200) (hw : ∀ i, 0 ≤ ix ws i ∧ ix ws i ≤ 1000000000) (hs : ∀ i, 0 ≤ ix ss i ∧ ix ss i ≤ 1000) : ∀ (d i k : Nat), i + d = ws.length →
    XLotR.observatoryref28_Share.l1 (k + d) T ws ss t (bestL ws ss i : Nat) (i : Int) = XLotR.observatoryref28_Share.l1 k T ws ss t (bestL ws ss ws.length : Nat) (ws.length : Int)
  | 0, i, k, hi => by rw [show i = ws.length by omega]; rfl
  | d + 1, i, k, hi => by
    have hb : bestL ws ss i < ws.length := by
      by_cases h0 : 0 < i
      · have := best_lt ws ss i h0; omega
      · have : i = 0 := by omega
        subst this; simp only [bestL]; omega
    have ih := rshare_in T t ws ss hl hn hn1 hw hs d (i + 1) k (by omega)
    rw [show k + (d + 1) = (k + d) + 1 by omega]
    have m1 := mul_bd (hw i) (hs (bestL ws ss i))
    have m2 := mul_bd (hw (bestL ws ss i)) (hs i)
    have s1 := hs i
    have s2 := hs (bestL ws ss i)
    conv => lhs; simp only [XLotR.observatoryref28_Share.l1]
    rw [if_pos (by omega), if_pos (by omega), if_pos (by omega), if_pos (by omega), if_pos (by omega), if_pos (by omega)]
    rw [rd_ix, rd_ix, rd_ix, rd_ix, wid (x := ix ss (bestL ws ss i) + 1) (by omega), wid (x := ix ss i + 1) (by omega), wid (x := ix ws i * (ix ss (bestL ws ss i) + 1)) (by omega), wid (x := ix ws (bestL ws ss i) * (ix ss i + 1)) (by omega), ws_i (by omega)]
    rw [← ih]
    by_cases hc : ix ws i * (ix ss (bestL ws ss i) + 1) > ix ws (bestL ws ss i) * (ix ss i + 1)
    · rw [if_pos hc, show bestL ws ss (i + 1) = i by simp only [bestL]; rw [if_pos hc]]
    · rw [if_neg hc, show bestL ws ss (i + 1) = bestL ws ss i by simp only [bestL]; rw [if_neg hc]]
theorem rshare_out (total : Nat) (ht : total ≤ 720) (ws : List Int) (hn : 1 ≤ ws.length) (hn1 : ws.length ≤ 200) (hw : ∀ i, 0 ≤ ix ws i ∧ ix ws i ≤ 1000000000) (hp : ∃ p, 0 < ix ws p) : ∀ (d j k : Nat), j + d = total → d * (ws.length + 1) < k →
    XLotR.observatoryref28_Share.l0 k (total : Int) ws (runL ws j) (j : Int) = some (runL ws total, 0)
  | 0, j, k, hj, hk => by
    obtain ⟨k, rfl⟩ : ∃ m, k = m + 1 := ⟨k - 1, by omega⟩
    simp only [XLotR.observatoryref28_Share.l0]
    rw [if_neg (by omega), show j = total by omega]
  | d + 1, j, k, hj, hk => by
    have hmul : (d + 1) * (ws.length + 1) = d * (ws.length + 1) + ws.length + 1 := by rw [Nat.add_mul]; omega
    obtain ⟨k, rfl⟩ : ∃ m, k = ((m + 1) + (ws.length - 1)) + 1 := ⟨k - ws.length - 1, by omega⟩
    have ih := rshare_out total ht ws hn hn1 hw hp d (j + 1) k (by omega) (by omega)
    have hs : ∀ i, 0 ≤ ix (runL ws j) i ∧ ix (runL ws j) i ≤ 1000 := fun i => ⟨run_nonneg ws j i, by have := run_le ws j i; omega⟩
    have hb := best_lt ws (runL ws j) ws.length (by omega)
    obtain ⟨p, hp⟩ := hp
    have hbp := best_pos ws hp j
    have hin := rshare_in (total : Int) (j : Int) ws (runL ws j) (length_run ws j) hn hn1 hw hs (ws.length - 1) 1 (k + 1) (by omega)
    have hb1 : bestL ws (runL ws j) 1 = 0 := by simp [bestL]
    rw [hb1] at hin
    conv => lhs; simp only [XLotR.observatoryref28_Share.l0]
    rw [if_pos (by omega)]
    rw [show ((0 : Nat) : Int) = 0 from rfl, show ((1 : Nat) : Int) = 1 from rfl] at hin
    rw [hin]
    conv => lhs; simp only [XLotR.observatoryref28_Share.l1]
    have s2 := hs (bestL ws (runL ws j) ws.length)
    rw [if_neg (by omega), if_pos (by omega), if_pos (by omega), rd_ix, rd_ix, if_neg (by omega), if_pos (by rw [length_run]; omega), ws_i (by omega), wid (by omega), Int.toNat_natCast]
    exact ih
theorem rshare (total : Nat) (ht : total ≤ 720) (ws : List Int) (hn : 1 ≤ ws.length) (hn1 : ws.length ≤ 200) (hv : inB 0 1000000000 ws = true) (hp : ∃ p, 0 < ix ws p) (k : Nat) (hk : 145000 ≤ k) : XLotR.observatoryref28_Share.f k (total : Int) ws = some (runL ws total, 0) := by
  obtain ⟨k, rfl⟩ : ∃ m, k = m + 1 := ⟨k - 1, by omega⟩
  unfold XLotR.observatoryref28_Share.f
  rw [rvalid28 ws hn hn1 hv _ (by omega)]
  simp only [Option.bind_some, if_true, XLotR.observatoryref28_Share.j0]
  rw [if_neg (by omega), decide_eq_false (by omega), if_neg (by simp), if_pos (by omega), Int.toNat_natCast, if_pos (by omega)]
  have hw : ∀ i, 0 ≤ ix ws i ∧ ix ws i ≤ 1000000000 := fun i => by
    by_cases h : i < ws.length
    · exact inB_iff.1 hv _ (ix_mem h)
    · rw [ix_ge (by omega)]; decide
  have hm : total * (ws.length + 1) ≤ 720 * 201 := Nat.mul_le_mul ht (by omega)
  exact rshare_out total ht ws hn hn1 hw hp total 0 k (by omega) (by omega)
theorem rpart_in (s o acc : List Int) (i : Nat) (hi : i < s.length) (ho : o.length ≤ 200) : ∀ (d j k : Nat), j + d = o.length →
    XLotR.observatoryref29_Partners.l1 (k + d) s o acc (i : Int) (if (i : Int) ∈ o.take j then ix s i else 0) (j : Int) = XLotR.observatoryref29_Partners.l1 k s o acc (i : Int) (if (i : Int) ∈ o then ix s i else 0) (o.length : Int)
  | 0, j, k, hj => by rw [show j = o.length by omega, List.take_length]; rfl
  | d + 1, j, k, hj => by
    have ih := rpart_in s o acc i hi ho d (j + 1) k (by omega)
    rw [show k + (d + 1) = (k + d) + 1 by omega]
    conv => lhs; simp only [XLotR.observatoryref29_Partners.l1]
    rw [if_pos (by omega), if_pos (by omega), rd_ix, ws_i (by omega), ← ih, take_snoc o (show j < o.length by omega)]
    by_cases e : ix o j = (i : Int)
    · rw [if_pos e, if_pos (by omega), if_pos (by omega), rd_ix, if_pos (List.mem_append_right _ (List.mem_singleton.2 e.symm))]
    · rw [if_neg e]
      by_cases h : (i : Int) ∈ o.take j
      · rw [if_pos h, if_pos (List.mem_append_left _ h)]
      · rw [if_neg h, if_neg (fun x => by
          rcases List.mem_append.1 x with y | y
          · exact h y
          · exact e (List.mem_singleton.1 y).symm)]
theorem rpart_out {s o m : List Int} (V : OkReq s o m) (hne : 0 < o.length) : ∀ (d i k : Nat), i + d = s.length → d * (o.length + 2) + 145000 < k →
    XLotR.observatoryref29_Partners.l0 k s o ((wts s o).take i) (i : Int) = some (totals s o)
  | 0, i, k, hi, hk => by
    obtain ⟨k, rfl⟩ : ∃ m, k = m + 1 := ⟨k - 1, by omega⟩
    simp only [XLotR.observatoryref29_Partners.l0]
    have hp : ∃ p, 0 < ix (wts s o) p := by
      have hm := ix_mem hne
      obtain ⟨h0, h1, h2⟩ := owner_nat V hm
      exact ⟨_, wts_pos V h1 (by rw [h2]; exact hm)⟩
    have h0 := V.s0
    have h1 := V.s1
    have := rshare 720 (by omega) (wts s o) (by rw [length_wts]; exact h0) (by rw [length_wts]; omega) (wts_ok V) hp k (by omega)
    rw [if_neg (by omega), List.take_of_length_le (by rw [length_wts]; omega), show (720 : Int) = ((720 : Nat) : Int) from rfl, this, totals_run]
    simp only [Option.bind_some]
  | d + 1, i, k, hi, hk => by
    have hmul : (d + 1) * (o.length + 2) = d * (o.length + 2) + o.length + 2 := by rw [Nat.add_mul]; omega
    obtain ⟨k, rfl⟩ : ∃ m, k = ((m + 1) + o.length) + 1 := ⟨k - o.length - 2, by omega⟩
    have h1 := V.s1
    have ih := rpart_out V hne d (i + 1) k (by omega) (by omega)
    have hin := rpart_in s o ((wts s o).take i) i (by omega) V.o1 o.length 0 (k + 1) (by omega)
    rw [List.take_zero, if_neg (by simp)] at hin
    conv => lhs; simp only [XLotR.observatoryref29_Partners.l0]
    rw [if_pos (by omega)]
    rw [show ((0 : Nat) : Int) = 0 from rfl] at hin
    rw [hin]
    conv => lhs; simp only [XLotR.observatoryref29_Partners.l1]
    rw [if_neg (by omega), if_pos (by simp; rw [length_wts]; omega), ws_i (by omega)]
    have e : (wts s o).take i ++ [if (i : Int) ∈ o then ix s i else 0] = (wts s o).take (i + 1) := by
      rw [take_snoc _ (by rw [length_wts]; omega), ix_wts]
      by_cases h : (i : Int) ∈ o
      · rw [if_pos h, if_pos ⟨by omega, h⟩]
      · rw [if_neg h, if_neg (fun x => h x.2)]
    rw [e]; exact ih
def outQ (T owners : List Int) (x : Int) (j : Nat) : List Int := (List.range owners.length).map fun i => if ix owners i < x ∨ (ix owners i = x ∧ i < j) then ix T i else 0
theorem outQ_length (T owners : List Int) (x : Int) (j : Nat) : (outQ T owners x j).length = owners.length := by simp [outQ]
theorem ix_outQ (T owners : List Int) (x : Int) (j : Nat) {i : Nat} (h : i < owners.length) : ix (outQ T owners x j) i = if ix owners i < x ∨ (ix owners i = x ∧ i < j) then ix T i else 0 := by
  rw [ix_lt (by rw [outQ_length]; exact h)]; simp [outQ]
theorem outQ_hit (T owners : List Int) {j : Nat} (h : j < owners.length) : (outQ T owners (ix owners j) j).set j (ix T j) = outQ T owners (ix owners j) (j + 1) := by
  refine ext_ix (by rw [List.length_set, outQ_length, outQ_length]) fun i hi => ?_
  rw [List.length_set, outQ_length] at hi
  rw [ix_set _ _ _ _ (by rw [outQ_length]; exact h), ix_outQ _ _ _ _ hi, ix_outQ _ _ _ _ hi]
  by_cases e : i = j
  · subst e; rw [if_pos rfl, if_pos (Or.inr ⟨rfl, by omega⟩)]
  · rw [if_neg e]
    by_cases h1 : ix owners i < ix owners j ∨ (ix owners i = ix owners j ∧ i < j)
    · rw [if_pos h1, if_pos (h1.imp id (fun x => ⟨x.1, by omega⟩))]
    · rw [if_neg h1, if_neg (fun x => h1 (x.imp id (fun y => ⟨y.1, by omega⟩)))]
theorem outQ_miss (T owners : List Int) {x : Int} {j : Nat} (h : j < owners.length) (e : ix owners j ≠ x) : outQ T owners x j = outQ T owners x (j + 1) := by
  refine ext_ix (by rw [outQ_length, outQ_length]) fun i hi => ?_
  rw [outQ_length] at hi
  rw [ix_outQ _ _ _ _ hi, ix_outQ _ _ _ _ hi]
  by_cases h1 : ix owners i < x ∨ (ix owners i = x ∧ i < j)
  · rw [if_pos h1, if_pos (h1.imp id (fun y => ⟨y.1, by omega⟩))]
  · rw [if_neg h1, if_neg (fun y => h1 (y.imp id (fun z => ⟨z.1, by
      have : i ≠ j := fun e2 => by subst e2; exact e z.1
      omega⟩)))]
theorem outQ_next (T owners : List Int) (x : Int) : outQ T owners x owners.length = outQ T owners (x + 1) 0 := by
  refine ext_ix (by rw [outQ_length, outQ_length]) fun i hi => ?_
  rw [outQ_length] at hi
  rw [ix_outQ _ _ _ _ hi, ix_outQ _ _ _ _ hi]
  by_cases h1 : ix owners i < x + 1
  · rw [if_pos (show ix owners i < x ∨ (ix owners i = x ∧ i < owners.length) by omega), if_pos (Or.inl h1)]
  · rw [if_neg (show ¬ (ix owners i < x ∨ (ix owners i = x ∧ i < owners.length)) by omega), if_neg (show ¬ (ix owners i < x + 1 ∨ (ix owners i = x + 1 ∧ i < 0)) by omega)]
theorem outQ_absent (T owners : List Int) {x : Int} (h : x ∉ owners) : outQ T owners x 0 = outQ T owners (x + 1) 0 := by
  refine ext_ix (by rw [outQ_length, outQ_length]) fun i hi => ?_
  rw [outQ_length] at hi
  rw [ix_outQ _ _ _ _ hi, ix_outQ _ _ _ _ hi]
  have hne : ix owners i ≠ x := fun e => h (by rw [← e]; exact ix_mem hi)
  by_cases h1 : ix owners i < x
  · rw [if_pos (Or.inl h1), if_pos (Or.inl (by omega))]
  · rw [if_neg (show ¬ (ix owners i < x ∨ (ix owners i = x ∧ i < 0)) by omega), if_neg (show ¬ (ix owners i < x + 1 ∨ (ix owners i = x + 1 ∧ i < 0)) by omega)]
theorem rt_gather {s o m : List Int} (V : OkReq s o m) (tot out : List Int) (x : Nat) : ∀ (d j k : Nat), j + d = o.length →
    XLotR.observatoryref29_Tickets.l1 (k + d) s o m tot out (x : Int) (ownM (o.take j) (m.take j) (x : Int)) (j : Int) = XLotR.observatoryref29_Tickets.l1 k s o m tot out (x : Int) (ownM o m (x : Int)) (o.length : Int)
  | 0, j, k, hj => by
    have := V.om
    rw [show j = o.length by omega, List.take_length, List.take_of_length_le (by omega)]; rfl
  | d + 1, j, k, hj => by
    have hom := V.om
    have ho := V.o1
    have ih := rt_gather V tot out x d (j + 1) k (by omega)
    have hl : (ownM (o.take j) (m.take j) (x : Int)).length ≤ 200 := by
      rw [length_own _ _ _ (by simp [hom])]
      have := List.count_le_length (a := (x : Int)) (l := o.take j)
      simp at this; omega
    rw [show k + (d + 1) = (k + d) + 1 by omega]
    conv => lhs; simp only [XLotR.observatoryref29_Tickets.l1]
    rw [if_pos (by omega), if_pos (by omega), rd_ix, rd_ix, ws_i (by omega), ← ih, take_snoc o (show j < o.length by omega), take_snoc m (show j < m.length by omega), own_append _ _ _ _ _ (by simp [hom]), own_single]
    by_cases e : ix o j = (x : Int)
    · rw [if_pos e, if_pos e, if_pos (by omega), if_pos (by omega)]
    · rw [if_neg e, if_neg e, List.append_nil]
theorem rt_deal {s o m : List Int} (V : OkReq s o m) (tot : List Int) (x : Nat) : ∀ (d j k : Nat), j + d = o.length →
    XLotR.observatoryref29_Tickets.l2 (k + d) s o m tot (outQ (ticketsL s o m) o (x : Int) j) (x : Int) (seatsF s o m (x : Int)) ((o.take j).count (x : Int) : Nat) (j : Int) = XLotR.observatoryref29_Tickets.l2 k s o m tot (outQ (ticketsL s o m) o (x : Int) o.length) (x : Int) (seatsF s o m (x : Int)) (o.count (x : Int) : Nat) (o.length : Int)
  | 0, j, k, hj => by rw [show j = o.length by omega, List.take_length]; rfl
  | d + 1, j, k, hj => by
    have ho := V.o1
    have ih := rt_deal V tot x d (j + 1) k (by omega)
    have hcs := count_succ o (x : Int) (k := j) (by omega)
    have hcl := count_take_le o (x : Int) (j + 1)
    have hcl2 : o.count (x : Int) ≤ o.length := List.count_le_length
    rw [show k + (d + 1) = (k + d) + 1 by omega]
    conv => lhs; simp only [XLotR.observatoryref29_Tickets.l2]
    rw [if_pos (by omega), if_pos (by omega), rd_ix, rd_ix]
    by_cases e : ix o j = (x : Int)
    · rw [if_pos e] at hcs ⊢
      rw [if_pos (by omega), if_pos (by rw [length_seats V]; omega), if_pos (by rw [outQ_length]; omega), ws_i (by omega), ws_i (by omega), Int.toNat_natCast, ← ih, hcs]
      have ht := ix_tickets s o m (i := j) (by omega)
      rw [e, show rank o j = (o.take j).count (x : Int) by unfold rank; rw [e]] at ht
      rw [← ht]
      have hh := outQ_hit (ticketsL s o m) o (j := j) (by omega)
      rw [e] at hh
      rw [hh]
    · rw [if_neg e, Nat.add_zero] at hcs
      have hcs' : (o.take (j + 1)).count (x : Int) = (o.take j).count (x : Int) := hcs
      rw [if_neg e, ws_i (by omega), ← ih, hcs', outQ_miss _ _ (by omega) e]
theorem rt_out {s o m : List Int} (V : OkReq s o m) (hne : 0 < o.length) : ∀ (d x k : Nat), x + d = s.length → d * (2 * o.length + 4) + 150000 < k →
    XLotR.observatoryref29_Tickets.l0 k s o m (totals s o) (outQ (ticketsL s o m) o (x : Int) 0) (x : Int) = some (ticketsL s o m, 0)
  | 0, x, k, hx, hk => by
    obtain ⟨k, rfl⟩ : ∃ m, k = m + 1 := ⟨k - 1, by omega⟩
    simp only [XLotR.observatoryref29_Tickets.l0]
    rw [if_neg (by omega)]
    have : outQ (ticketsL s o m) o (x : Int) 0 = ticketsL s o m := ext_ix (by rw [outQ_length, length_tickets]) fun i hi => by
      rw [outQ_length] at hi
      have := V.ow _ (ix_mem hi)
      rw [ix_outQ _ _ _ _ hi, if_pos (Or.inl (by omega))]
    rw [this]
  | d + 1, x, k, hx, hk => by
    have hmul : (d + 1) * (2 * o.length + 4) = d * (2 * o.length + 4) + 2 * o.length + 4 := by rw [Nat.add_mul]; omega
    have h1 := V.s1
    have ho := V.o1
    obtain ⟨k, rfl⟩ : ∃ m, k = ((m + 1) + o.length) + 1 := ⟨k - o.length - 2, by omega⟩
    have hg := rt_gather V (totals s o) (outQ (ticketsL s o m) o (x : Int) 0) x o.length 0 (k + 1) (by omega)
    rw [List.take_zero, List.take_zero, show ownM [] [] (x : Int) = [] from rfl, show ((0 : Nat) : Int) = 0 from rfl] at hg
    conv => lhs; simp only [XLotR.observatoryref29_Tickets.l0]
    rw [if_pos (by omega), hg]
    conv => lhs; simp only [XLotR.observatoryref29_Tickets.l1]
    rw [if_neg (by omega)]
    have hol := length_own o m (x : Int) V.om
    by_cases hm : (x : Int) ∈ o
    · have hpos := List.count_pos_iff.2 hm
      have hcl : o.count (x : Int) ≤ o.length := List.count_le_length
      obtain ⟨T, hT, hT1⟩ := totals_bd V x
      have hlt : (totals s o).length = s.length := by rw [totals_run, length_run, length_wts]
      have hsh := rshare T hT1 (ownM o m (x : Int)) (by omega) (by omega) (own_ok V _) ⟨0, by have := V.me _ (own_mem (ix_mem (show 0 < (ownM o m (x : Int)).length by omega))); omega⟩ k (by omega)
      rw [if_neg (by omega), if_pos (by omega), if_pos (by omega), rd_ix, hT, hsh]
      simp only [Option.bind_some]
      rw [← seats_run s o m hT]
      obtain ⟨k, rfl⟩ : ∃ m, k = (m + 1) + o.length := ⟨k - o.length - 1, by omega⟩
      have hd := rt_deal V (totals s o) x o.length 0 (k + 1) (by omega)
      rw [List.take_zero, show (([] : List Int).count (x : Int)) = 0 from rfl, show ((0 : Nat) : Int) = 0 from rfl] at hd
      rw [hd]
      conv => lhs; simp only [XLotR.observatoryref29_Tickets.l2]
      rw [if_neg (by omega), ws_i (by omega), outQ_next]
      exact rt_out V hne d (x + 1) k (by omega) (by omega)
    · have hz : o.count (x : Int) = 0 := List.count_eq_zero_of_not_mem hm
      rw [if_pos (by omega), ws_i (by omega), outQ_absent _ _ hm]
      exact rt_out V hne d (x + 1) k (by omega) (by omega)
theorem rtickets (s o m : List Int) : XLotR.observatoryref29_Tickets.f 200000 s o m = some (ticketsS s o m) := by
  unfold XLotR.observatoryref29_Tickets.f ticketsS
  rw [rvalid29 s o m _ (by omega)]
  simp only [Option.bind_some]
  cases hk : okReq s o m with
  | false => rfl
  | true =>
    have V := okReq_iff.1 hk
    have h1 := V.s1
    have ho := V.o1
    rw [if_pos rfl, if_pos rfl]
    by_cases h0 : o.length = 0
    · rw [if_pos (by omega), show ticketsL s o m = [] from List.length_eq_zero_iff.1 (by rw [length_tickets, h0])]
    · rw [if_neg (by omega)]
      have hm : s.length * (o.length + 2) ≤ 16 * 202 := Nat.mul_le_mul h1 (by omega)
      have hm2 : s.length * (2 * o.length + 4) ≤ 16 * 404 := Nat.mul_le_mul h1 (by omega)
      have hp := rpart_out V (by omega) s.length 0 200000 (by omega) (by omega)
      rw [List.take_zero] at hp
      rw [show XLotR.observatoryref29_Partners.f 200000 s o = some (totals s o) from hp]
      simp only [Option.bind_some]
      rw [if_pos (by omega), Int.toNat_natCast, if_pos (by omega)]
      have hq := rt_out V (by omega) s.length 0 200000 (by omega) (by omega)
      have e : outQ (ticketsL s o m) o ((0 : Nat) : Int) 0 = List.replicate o.length 0 := ext_ix (by rw [outQ_length, List.length_replicate]) fun i hi => by
        rw [outQ_length] at hi
        have := V.ow _ (ix_mem hi)
        rw [ix_outQ _ _ _ _ hi, ix_replicate, if_neg (by omega)]
      rw [e] at hq
      exact hq
def observatoryref29_Tickets.f (l0 l1 l2 : List Int) : Option (List Int × Int) := some (ticketsS l0 l1 l2)
theorem observatoryref29_Tickets.calls (A0 : Option Addr) (c0 : Nat) (l0 : List Int) (A1 : Option Addr) (c1 : Nat) (l1 : List Int) (A2 : Option Addr) (c2 : Nat) (l2 : List Int) (r1 : List Int) (r2 : Int) (w : World) (hr0 : Kd.C (Kd.int .i64) w A0 l0.length l0) (hc0 : l0.length ≤ c0) (hr1 : Kd.C (Kd.int .i64) w A1 l1.length l1) (hc1 : l1.length ≤ c1) (hr2 : Kd.C (Kd.int .i64) w A2 l2.length l2) (hc2 : l2.length ≤ c2) (h : observatoryref29_Tickets.f l0 l1 l2 = some (r1, r2)) :
    Calls Tryz.prog 13 #[.slice A0 l0.length c0, .slice A1 l1.length c1, .slice A2 l2.length c2] w fun e w' => ∃ v0_ : Value, e = .returned (.tuple #[v0_, .int .i64 r2]) ∧ Kd.R (Kd.int .i64) 3 w' w.heap.size (fun _ => True) v0_ r1 ∧ Below w.heap.size w w' :=
  XLotR.observatoryref29_Tickets.calls 200000 A0 c0 l0 A1 c1 l1 A2 c2 l2 r1 r2 w hr0 hc0 hr1 hc1 hr2 hc2 (by rw [rtickets]; exact h)
end Go.Proofs.YtmapgmibbceooaaGreatDoor
end

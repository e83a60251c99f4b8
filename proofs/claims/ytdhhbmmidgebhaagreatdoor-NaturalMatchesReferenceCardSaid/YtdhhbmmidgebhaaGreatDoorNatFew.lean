/- few of observatorylaw03 as a given callee: whether all strings have at most 80 bytes. -/
import Derived.Test.YtdhhbmmidgebhaaGreatDoorNatHead
import Derived.Test.YtdhhbmmidgebhaaGreatDoorNatFacts
namespace Go.Proofs.YtdhhbmmidgebhaaGreatDoor
open Go.RowKit Go.Proofs.YtdhhbmmidgebhaaGreatDoorW.PrintWords Go.Proofs.YtdhhbmmidgebhaaGreatDoorW.PrintMore Go.Proofs.YtdhhbmmidgebhaaGreatDoorW.PrintLast
set_option linter.unusedVariables false
set_option linter.unusedSimpArgs false

theorem few_loop (l : List ByteArray) (hl : l.length ≤ 1000) : ∀ (d i k : Nat), i + d = l.length → d < k → XBase.observatoryref03_Few.l0 k l (i : Int) = some ((l.drop i).all fun a => decide (a.size ≤ 80))
  | 0, i, k, hi, hk => by
    obtain ⟨k, rfl⟩ : ∃ m, k = m + 1 := ⟨k - 1, by omega⟩
    simp only [XBase.observatoryref03_Few.l0]
    rw [if_neg (by omega), List.drop_of_length_le (by omega)]
    rfl
  | d + 1, i, k, hi, hk => by
    obtain ⟨k, rfl⟩ : ∃ m, k = m + 1 := ⟨k - 1, by omega⟩
    have hw : wrap64 ((i : Int) + 1) = ((i + 1 : Nat) : Int) := by unfold wrap64; omega
    have hr : rdOf ByteArray.empty l (i : Int) = l[i]'(by omega) := by simp [rdOf, List.getElem?_eq_getElem (show i < l.length by omega)]
    simp only [XBase.observatoryref03_Few.l0]
    rw [if_pos (by omega), if_pos (by omega), hr, List.drop_eq_getElem_cons (show i < l.length by omega), List.all_cons]
    by_cases h : ((l[i]'(by omega)).size : Int) > 80
    · rw [if_pos h, decide_eq_false (by omega)]; rfl
    · rw [if_neg h, decide_eq_true (show (l[i]'(by omega)).size ≤ 80 by omega), hw, few_loop l hl d (i + 1) k (by omega) (by omega)]; rfl
def observatorylaw03_few.f (l : List ByteArray) : Option Bool := if l.length ≤ 1000 then some (l.all fun a => decide (a.size ≤ 80)) else none
theorem observatorylaw03_few.calls (A0 : Option Addr) (c0 : Nat) (l0 : List ByteArray) (r : Bool) (w : World) (hr0 : Kd.C Kd.string w A0 l0.length l0) (hc0 : l0.length ≤ c0) (h : observatorylaw03_few.f l0 = some r) :
    Calls Tryz.prog 6 #[.slice A0 l0.length c0] w fun e w' => e = .returned (.bool r) ∧ Below w.heap.size w w' := by
  unfold observatorylaw03_few.f at h
  split at h
  case isFalse => cases h
  rename_i hl
  have e : XBase.observatorylaw03_few.f (l0.length + 1) l0 = some r := by
    rw [← h]
    unfold XBase.observatorylaw03_few.f XBase.observatoryref03_Few.f
    have := few_loop l0 hl l0.length 0 (l0.length + 1) (by omega) (by omega)
    rw [show ((0 : Nat) : Int) = 0 from rfl, List.drop_zero] at this
    rw [this]; rfl
  refine (XBase.observatorylaw03_few.calls (l0.length + 1) A0 c0 l0 r w hr0 hc0 e).mono ?_
  rintro e w' ⟨rfl, hd⟩
  exact ⟨rfl, hd.below⟩
theorem few3 (a b c : ByteArray) : observatorylaw03_few.f [a, b, c] = some (decide (a.size ≤ 80) && (decide (b.size ≤ 80) && decide (c.size ≤ 80))) := by
  unfold observatorylaw03_few.f
  rw [if_pos (by simp)]
  simp
theorem few2 (a b : ByteArray) : observatorylaw03_few.f [a, b] = some (decide (a.size ≤ 80) && decide (b.size ≤ 80)) := by
  unfold observatorylaw03_few.f
  rw [if_pos (by simp)]
  simp
end Go.Proofs.YtdhhbmmidgebhaaGreatDoor
namespace Go.Proofs.YtdhhbmmidgebhaaGreatDoor
open Go.RowKit Go.Proofs.YtdhhbmmidgebhaaGreatDoorW.PrintWords Go.Proofs.YtdhhbmmidgebhaaGreatDoorW.PrintMore Go.Proofs.YtdhhbmmidgebhaaGreatDoorW.PrintLast
set_option linter.unusedVariables false
/-! ### contracts at known answers, for walks in a straight line -/
theorem C_strs3 (a b c : ByteArray) (w : World) (T : TypeId) : Kd.C Kd.string (w.alloc (.cells #[.string a, .string b, .string c] T)) (some ⟨w.heap.size, 0, none⟩) 3 [a, b, c] := by
  have hc : ∀ j v, (#[Value.string a, .string b, .string c] : Array Value)[j]? = some v → (w.alloc (.cells #[.string a, .string b, .string c] T)).cell? ⟨w.heap.size, j, none⟩ = some v := by
    intro j v h
    rw [World.cell?_alloc_at _ _ _ _ rfl]; exact h
  refine ⟨rfl, by decide, fun _ => ⟨_, rfl, fun j p hj => ⟨[.string p], rfl, rfl, fun i u hu => ?_⟩⟩⟩
  have hi : i = 0 := by
    rcases i with _ | i
    · rfl
    · simp at hu
  subst hi
  have hu' : u = .string p := by simpa using hu.symm
  subst hu'
  have e : (Addr.add ⟨w.heap.size, 0, none⟩ (j * Kd.string.sz + 0)) = ⟨w.heap.size, j, none⟩ := by
    unfold Addr.add
    rw [show j * Kd.string.sz + 0 = j by show j * 1 + 0 = j; omega]
    by_cases hj0 : j = 0
    · rw [if_pos hj0, hj0]
    · rw [if_neg hj0]; simp
  rw [e]
  apply hc
  rcases j with _ | _ | _ | j <;> simp at hj ⊢ <;> exact hj
theorem C_strs2 (a b : ByteArray) (w : World) (T : TypeId) : Kd.C Kd.string (w.alloc (.cells #[.string a, .string b] T)) (some ⟨w.heap.size, 0, none⟩) 2 [a, b] := by
  have hc : ∀ j v, (#[Value.string a, .string b] : Array Value)[j]? = some v → (w.alloc (.cells #[.string a, .string b] T)).cell? ⟨w.heap.size, j, none⟩ = some v := by
    intro j v h
    rw [World.cell?_alloc_at _ _ _ _ rfl]; exact h
  refine ⟨rfl, by decide, fun _ => ⟨_, rfl, fun j p hj => ⟨[.string p], rfl, rfl, fun i u hu => ?_⟩⟩⟩
  have hi : i = 0 := by
    rcases i with _ | i
    · rfl
    · simp at hu
  subst hi
  have hu' : u = .string p := by simpa using hu.symm
  subst hu'
  have e : (Addr.add ⟨w.heap.size, 0, none⟩ (j * Kd.string.sz + 0)) = ⟨w.heap.size, j, none⟩ := by
    unfold Addr.add
    rw [show j * Kd.string.sz + 0 = j by show j * 1 + 0 = j; omega]
    by_cases hj0 : j = 0
    · rw [if_pos hj0, hj0]
    · rw [if_neg hj0]; simp
  rw [e]
  apply hc
  rcases j with _ | _ | j <;> simp at hj ⊢ <;> exact hj
theorem few3_at {a b c : ByteArray} {r : Bool} (h : (decide (a.size ≤ 80) && (decide (b.size ≤ 80) && decide (c.size ≤ 80))) = r) (W : World) (hL : Laid W) :
    Calls Tryz.prog 6 #[.slice (some ⟨W.heap.size, 0, none⟩) 3 3] (W.alloc (.cells #[.string a, .string b, .string c] 22)) fun e w' => e = .returned (.bool r) ∧ Below W.heap.size W w' := by
  refine (observatorylaw03_few.calls (some ⟨W.heap.size, 0, none⟩) 3 [a, b, c] r _ (C_strs3 a b c W _) (Nat.le_refl 3) (by rw [few3, h])).mono ?_
  rintro e w' ⟨rfl, hb⟩
  exact ⟨rfl, below_step (below_alloc (Below.refl _ _) _) hb⟩
theorem few2_at {a b : ByteArray} {r : Bool} (h : (decide (a.size ≤ 80) && decide (b.size ≤ 80)) = r) (W : World) (hL : Laid W) :
    Calls Tryz.prog 6 #[.slice (some ⟨W.heap.size, 0, none⟩) 2 2] (W.alloc (.cells #[.string a, .string b] 22)) fun e w' => e = .returned (.bool r) ∧ Below W.heap.size W w' := by
  refine (observatorylaw03_few.calls (some ⟨W.heap.size, 0, none⟩) 2 [a, b] r _ (C_strs2 a b W _) (Nat.le_refl 2) (by rw [few2, h])).mono ?_
  rintro e w' ⟨rfl, hb⟩
  exact ⟨rfl, below_step (below_alloc (Below.refl _ _) _) hb⟩
theorem head_at (W : World) (hL : Laid W) : Calls Tryz.prog 5 #[] W fun e w' => e = .returned (.bool true) ∧ Below W.heap.size W w' := observatorylaw03_head.calls true W hL rfl
theorem valid_at {a : ByteArray} {r : Bool} (h : validS a = r) (W : World) (hL : Laid W) : Calls Tryz.prog 21 #[.string a] W fun e w' => e = .returned (.bool r) ∧ Below W.heap.size W w' := natural_Valid.calls a r W hL (by rw [← h]; rfl)
theorem add_at {a b r : ByteArray} {n : Int} (h : addS a b = (r, n)) (W : World) (hL : Laid W) : Calls Tryz.prog 7 #[.string a, .string b] W fun e w' => e = .returned (.tuple #[.string r, .int .i64 n]) ∧ Below W.heap.size W w' := natural_Add.calls a b r n W hL (by rw [← h]; rfl)
theorem sub_at {a b r : ByteArray} {n : Int} (h : subS a b = (r, n)) (W : World) (hL : Laid W) : Calls Tryz.prog 9 #[.string a, .string b] W fun e w' => e = .returned (.tuple #[.string r, .int .i64 n]) ∧ Below W.heap.size W w' := natural_Sub.calls a b r n W hL (by rw [← h]; rfl)
theorem mul_at {a b r : ByteArray} {n : Int} (h : mulS a b = (r, n)) (W : World) (hL : Laid W) : Calls Tryz.prog 11 #[.string a, .string b] W fun e w' => e = .returned (.tuple #[.string r, .int .i64 n]) ∧ Below W.heap.size W w' := natural_Mul.calls a b r n W hL (by rw [← h]; rfl)
theorem gcd_at {a b r : ByteArray} {n : Int} (h : gcdS a b = (r, n)) (W : World) (hL : Laid W) : Calls Tryz.prog 15 #[.string a, .string b] W fun e w' => e = .returned (.tuple #[.string r, .int .i64 n]) ∧ Below W.heap.size W w' := natural_Gcd.calls a b r n W hL (by rw [← h]; rfl)
theorem div_at {a b q r : ByteArray} {n : Int} (h : divS a b = (q, r, n)) (W : World) (hL : Laid W) : Calls Tryz.prog 13 #[.string a, .string b] W fun e w' => e = .returned (.tuple #[.string q, .string r, .int .i64 n]) ∧ Below W.heap.size W w' := natural_Div.calls a b q r n W hL (by rw [← h]; rfl)
theorem cmp_at {a b : ByteArray} {n : Int} (h : cmpS a b = n) (W : World) (hL : Laid W) : Calls Tryz.prog 23 #[.string a, .string b] W fun e w' => e = .returned (.int .i64 n) ∧ Below W.heap.size W w' := natural_Compare.calls a b n W hL (by rw [← h]; rfl)
end Go.Proofs.YtdhhbmmidgebhaaGreatDoor

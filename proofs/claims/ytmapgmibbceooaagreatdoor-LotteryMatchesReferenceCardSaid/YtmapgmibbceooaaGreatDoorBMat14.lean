/- The texts of this claim, laid together by a program of this session (bundle.py). -/
import Derived.Test.YtmapgmibbceooaaGreatDoorBMat11
import Derived.Test.YtmapgmibbceooaaGreatDoorBMat12
import Derived.Test.YtmapgmibbceooaaGreatDoorBMat13
import Derived.Maps.OwnRows
import Derived.Maps.GroupsBeside
import Derived.Maps.RangeWalk
import Derived.Maps.Views
section -- LotGroup
namespace Go.Proofs.YtmapgmibbceooaaGreatDoor
open Go.RowKit Go.Proofs.YtmapgmibbceooaaGreatDoorW.PrintWords Go.Proofs.YtmapgmibbceooaaGreatDoorW.PrintMore Go.Proofs.YtmapgmibbceooaaGreatDoorW.PrintLast
open Go.Maps
open Go.ChangeShapes (lits)
set_option linter.unusedVariables false
set_option linter.unusedSimpArgs false
def idxO (owners : List Int) (o : Int) : Nat → List Int
  | 0 => []
  | n + 1 => idxO owners o n ++ (if ix owners n = o then [(n : Int)] else [])
theorem idx_hit {owners : List Int} {o : Int} {n : Nat} (h : ix owners n = o) : idxO owners o (n + 1) = idxO owners o n ++ [(n : Int)] := by simp only [idxO, h, if_true]
theorem idx_miss {owners : List Int} {o : Int} {n : Nat} (h : ix owners n ≠ o) : idxO owners o (n + 1) = idxO owners o n := by simp only [idxO, h, if_false, List.append_nil]
theorem idx_length (owners : List Int) (o : Int) : ∀ n, n ≤ owners.length → (idxO owners o n).length = (owners.take n).count o
  | 0, _ => by simp [idxO]
  | n + 1, h => by
    have ih := idx_length owners o n (by omega)
    rw [count_succ owners o (by omega)]
    by_cases e : ix owners n = o
    · rw [idx_hit e, if_pos e, List.length_append, ih]; rfl
    · rw [idx_miss e, if_neg e, ih]; rfl
theorem idx_le (owners : List Int) (o : Int) : ∀ n, (idxO owners o n).length ≤ n
  | 0 => by simp [idxO]
  | n + 1 => by
    have ih := idx_le owners o n
    by_cases e : ix owners n = o
    · rw [idx_hit e, List.length_append]; simp; omega
    · rw [idx_miss e]; omega
theorem idx_at (owners : List Int) (o : Int) : ∀ n, n ≤ owners.length → ∀ j, j < (idxO owners o n).length → ∃ i, i < n ∧ ix (idxO owners o n) j = (i : Int) ∧ ix owners i = o ∧ rank owners i = j
  | 0, _, j, h => absurd h (by simp [idxO])
  | n + 1, hn, j, h => by
    have hl := idx_length owners o n (by omega)
    by_cases e : ix owners n = o
    · rw [idx_hit e] at h ⊢
      by_cases hj : j < (idxO owners o n).length
      · obtain ⟨i, h1, h2, h3⟩ := idx_at owners o n (by omega) j hj
        exact ⟨i, by omega, by rw [ix_append_left hj, h2], h3⟩
      · have ej : j = (idxO owners o n).length := by simp at h; omega
        refine ⟨n, by omega, by rw [ix_append_right (by omega), ej, Nat.sub_self]; rfl, e, ?_⟩
        unfold rank; rw [e, ej, hl]
    · rw [idx_miss e] at h ⊢
      obtain ⟨i, h1, h2, h3⟩ := idx_at owners o n (by omega) j h
      exact ⟨i, by omega, h2, h3⟩
theorem lits_inj {a b : List Int} (h : (lits (H := Unit) .i64 a) = lits .i64 b) : a = b := by
  unfold lits at h
  induction a generalizing b with
  | nil => cases b with | nil => rfl | cons y b => simp at h
  | cons x a ih =>
    cases b with
    | nil => simp at h
    | cons y b =>
      simp only [List.map_cons, List.cons.injEq] at h
      obtain ⟨h1, h2⟩ := h
      rw [ih h2]
      injection h1 with h1
      injection h1 with _ h1
      rw [h1]
/-- The map behind k rounds. -/
def Gk (owners : List Int) : Nat → DataW Unit
  | 0 => .map []
  | k + 1 => (Gk owners k).put (.int .i64 (ix owners k)) (.slice (lits .i64 (idxO owners (ix owners k) (k + 1))) [])
theorem Gk_isMap (owners : List Int) : ∀ k, IsMap (Gk owners k)
  | 0 => isMap_empty
  | k + 1 => IsMap.put (Gk_isMap owners k) _ _
theorem Gk_at (owners : List Int) (o : Int) : ∀ k, (idxO owners o k = [] ∧ (∀ z, (Gk owners k).atKey (.int .i64 o) z = z) ∧ Maps.has (Gk owners k) (.int .i64 o) = false) ∨ (idxO owners o k ≠ [] ∧ (∀ z, (Gk owners k).atKey (.int .i64 o) z = .slice (lits .i64 (idxO owners o k)) []) ∧ Maps.has (Gk owners k) (.int .i64 o) = true)
  | 0 => Or.inl ⟨rfl, fun z => rfl, rfl⟩
  | k + 1 => by
    by_cases e : ix owners k = o
    · refine Or.inr ⟨by rw [idx_hit e]; simp, fun z => ?_, ?_⟩
      · show ((Gk owners k).put _ _).atKey _ z = _
        rw [e]; exact atKey_put_same (Gk_isMap owners k) (k := .int .i64 o) (show WideAt.IsKeyLit (.int .i64 o) from trivial) _ _
      · show Maps.has ((Gk owners k).put _ _) _ = true
        rw [e]; exact has_put_same (Gk_isMap owners k) (k := .int .i64 o) (show WideAt.IsKeyLit (.int .i64 o) from trivial) _
    · have hne : (Lit.int .i64 o) ≠ .int .i64 (ix owners k) := fun h => by injection h with _ h; exact e h.symm
      rw [idx_miss e]
      rcases Gk_at owners o k with ⟨h1, h2, h3⟩ | ⟨h1, h2, h3⟩
      · exact Or.inl ⟨h1, fun z => (atKey_put_other hne _ _).trans (h2 z), (has_put_other hne _).trans h3⟩
      · exact Or.inr ⟨h1, fun z => (atKey_put_other hne _ _).trans (h2 z), (has_put_other hne _).trans h3⟩
/-- What the look-up finds. -/
theorem Gk_found {owners : List Int} {o : Int} {k : Nat} {w : World} {base : Nat} {e : TypeId} {v : Value} {zs : List Int} (ho : w.ownsInts base e .i64 v zs) (hat : (Gk owners k).atKey (.int .i64 o) .nil = rowDatum .i64 v zs) : zs = idxO owners o k := by
  rcases Gk_at owners o k with ⟨h1, h2, _⟩ | ⟨h1, h2, _⟩
  · rw [h2 .nil] at hat
    rcases ho.datum (H := Unit) with ⟨_, h⟩ | h
    · rw [h, h1]
    · rw [h] at hat; cases hat
  · rw [h2 .nil] at hat
    rcases ho.datum (H := Unit) with ⟨h, _⟩ | h
    · rw [h] at hat; cases hat
    · rw [h] at hat
      injection hat with hat
      exact (lits_inj hat).symm
theorem Gk_step {owners : List Int} {k : Nat} {w : World} {base : Nat} {e : TypeId} {v : Value} (ho : w.ownsInts base e .i64 v (idxO owners (ix owners k) k ++ [(k : Int)])) :
    Gk owners (k + 1) = (Gk owners k).put (.int .i64 (ix owners k)) (rowDatum .i64 v (idxO owners (ix owners k) k ++ [(k : Int)])) := by
  rw [ho.datum_pos (by simp), ← idx_hit rfl]; rfl
theorem groups_empty {P : Program} {k : TypeId} {e : TypeId} {q : IntKind} {w : World} {b base : Nat} (hb : w.heap[b]? = some (.map #[] 0)) (hbb : b < base) : w.ownsGroups (H := Unit) P k base e q b 0 (.map []) := by
  have h := World.ownsGroups_made (H := Unit) w P k e q
  obtain ⟨es, clock, h1, F, h2, h3, h4, h5, h6⟩ := h
  obtain ⟨rfl, rfl⟩ : es = #[] ∧ clock = 0 := by
    rw [(MapKept.heap_alloc w _).1] at h1
    cases h1; exact ⟨rfl, rfl⟩
  exact ⟨#[], 0, hb, ⟨by simp, F.stamped, by simp⟩, Nat.le_refl _, rfl, hbb, by simp, by simp⟩
theorem ranges_move {H : Type} {P : Program} {k : TypeId} {R : Value → Option (DataW H × List MemPlace)} {w w' : World} {b r n : Nat} {D : DataW H} {left : Lit → Bool} {cnt : Nat} (h : w.ranges P k R b r n D left cnt) (hb : w'.heap[b]? = w.heap[b]?) (hr : w'.heap[r]? = w.heap[r]?) : w'.ranges P k R b r n D left cnt := by
  obtain ⟨es, clock, since, seen, c0, h1, F, h2, h3, h4, h5⟩ := h
  exact ⟨es, clock, since, seen, c0, hb.trans h1, F, h2, h3, hr.trans h4, h5⟩
theorem groups_ownsMap {w : World} {P : Program} {k : TypeId} {base : Nat} {e : TypeId} {q : IntKind} {b n : Nat} {D : DataW Unit} (h : w.ownsGroups P k base e q b n D) : w.ownsMap P k (rowElem w base e q) b n D := by
  obtain ⟨es, clock, hb, F, hs, hD, _⟩ := h
  exact ⟨es, clock, hb, F, hs, hD⟩
def outP (T owners : List Int) (left : Lit → Bool) (o : Int) (j : Nat) : List Int :=
  (List.range owners.length).map fun i => if left (.int .i64 (ix owners i)) = true ∧ ¬ (ix owners i = o ∧ rank owners i < j) then 0 else ix T i
theorem outP_length (T owners : List Int) (left : Lit → Bool) (o : Int) (j : Nat) : (outP T owners left o j).length = owners.length := by simp [outP]
theorem ix_outP (T owners : List Int) (left : Lit → Bool) (o : Int) (j : Nat) {i : Nat} (h : i < owners.length) : ix (outP T owners left o j) i = if left (.int .i64 (ix owners i)) = true ∧ ¬ (ix owners i = o ∧ rank owners i < j) then 0 else ix T i := by
  rw [ix_lt (by rw [outP_length]; exact h)]; simp [outP]
theorem outP_start (T owners : List Int) (o : Int) (left : Lit → Bool) (h : ∀ i, i < owners.length → left (.int .i64 (ix owners i)) = true) : outP T owners left o 0 = List.replicate owners.length 0 := by
  refine ext_ix (by rw [outP_length, List.length_replicate]) fun i hi => ?_
  rw [outP_length] at hi
  rw [ix_outP _ _ _ _ _ hi, ix_replicate, if_pos ⟨h i hi, fun x => absurd x.2 (Nat.not_lt_zero _)⟩]
theorem outP_zero (T owners : List Int) (left : Lit → Bool) (o o' : Int) : outP T owners left o 0 = outP T owners left o' 0 := by
  refine ext_ix (by rw [outP_length, outP_length]) fun i hi => ?_
  rw [outP_length] at hi
  rw [ix_outP _ _ _ _ _ hi, ix_outP _ _ _ _ _ hi]
  simp
theorem outP_end (T owners : List Int) (left : Lit → Bool) (o : Int) (hl : T.length = owners.length) (h : ∀ kl, left kl = false) : outP T owners left o 0 = T := by
  refine ext_ix (by rw [outP_length, hl]) fun i hi => ?_
  rw [outP_length] at hi
  rw [ix_outP _ _ _ _ _ hi, if_neg (fun x => by rw [h] at x; exact absurd x.1 (by simp))]
theorem outP_step (T owners : List Int) (left : Lit → Bool) {i : Nat} (h : i < owners.length) : (outP T owners left (ix owners i) (rank owners i)).set i (ix T i) = outP T owners left (ix owners i) (rank owners i + 1) := by
  refine ext_ix (by rw [List.length_set, outP_length, outP_length]) fun j hj => ?_
  rw [List.length_set, outP_length] at hj
  rw [ix_set _ _ _ _ (by rw [outP_length]; exact h), ix_outP _ _ _ _ _ hj, ix_outP _ _ _ _ _ hj]
  by_cases e : j = i
  · subst e
    rw [if_pos rfl, if_neg (fun x => x.2 ⟨rfl, by omega⟩)]
  · rw [if_neg e]
    by_cases h1 : ix owners j = ix owners i ∧ rank owners j < rank owners i
    · rw [if_neg (fun x => x.2 h1), if_neg (fun x => x.2 ⟨h1.1, by omega⟩)]
    · by_cases h2 : ix owners j = ix owners i ∧ rank owners j < rank owners i + 1
      · exfalso
        have h3 : rank owners j = rank owners i := by have := h2.2; have : ¬ rank owners j < rank owners i := fun x => h1 ⟨h2.1, x⟩; omega
        rcases Nat.lt_or_gt_of_ne e with hlt | hgt
        · have a := count_succ owners (ix owners i) (k := j) (by omega)
          rw [if_pos h2.1] at a
          have b : (owners.take (j + 1)).count (ix owners i) ≤ (owners.take i).count (ix owners i) := by
            have : owners.take (j + 1) = (owners.take i).take (j + 1) := by rw [List.take_take, Nat.min_eq_left (by omega)]
            rw [this]; exact count_take_le _ _ _
          unfold rank at h3
          rw [h2.1] at h3
          omega
        · have a := count_succ owners (ix owners i) (k := i) (by omega)
          rw [if_pos rfl] at a
          have b : (owners.take (i + 1)).count (ix owners i) ≤ (owners.take j).count (ix owners i) := by
            have : owners.take (i + 1) = (owners.take j).take (i + 1) := by rw [List.take_take, Nat.min_eq_left (by omega)]
            rw [this]; exact count_take_le _ _ _
          unfold rank at h3
          rw [h2.1] at h3
          omega
      · by_cases h4 : left (.int .i64 (ix owners j)) = true
        · rw [if_pos ⟨h4, h1⟩, if_pos ⟨h4, h2⟩]
        · rw [if_neg (fun x => h4 x.1), if_neg (fun x => h4 x.1)]
theorem outP_done (T owners : List Int) (left : Lit → Bool) (o o' : Int) (n : Nat) (hn : ∀ i, i < owners.length → ix owners i = o → rank owners i < n) : outP T owners left o n = outP T owners (fun z => left z && !z.sameKey (.int .i64 o)) o' 0 := by
  refine ext_ix (by rw [outP_length, outP_length]) fun i hi => ?_
  rw [outP_length] at hi
  rw [ix_outP _ _ _ _ _ hi, ix_outP _ _ _ _ _ hi]
  by_cases e : ix owners i = o
  · have hs : (Lit.int .i64 (ix owners i)).sameKey (.int .i64 o) = true := by rw [e]; simp [Lit.sameKey]
    rw [if_neg (fun x => x.2 ⟨e, hn i hi e⟩), if_neg (fun x => by rw [hs] at x; simp at x)]
  · have hs : (Lit.int .i64 (ix owners i)).sameKey (.int .i64 o) = false := sameKey_ne (fun h => by injection h with _ h; exact e h)
    rw [hs]
    by_cases h4 : left (.int .i64 (ix owners i)) = true
    · rw [if_pos ⟨h4, fun x => e x.1⟩, if_pos ⟨by rw [h4]; rfl, by simp⟩]
    · rw [if_neg (fun x => h4 x.1), if_neg (fun x => by have := x.1; simp at this; exact h4 this)]
/-- The partners' weights behind k rounds. -/
theorem wts_step (shares owners : List Int) {k : Nat} (hk : k < owners.length) (h0 : 0 ≤ ix owners k) (h1 : ix owners k < shares.length) : (wts shares (owners.take k)).set (ix owners k).toNat (ix shares (ix owners k).toNat) = wts shares (owners.take (k + 1)) := by
  refine ext_ix (by rw [List.length_set, length_wts, length_wts]) fun i hi => ?_
  rw [List.length_set, length_wts] at hi
  rw [ix_set _ _ _ _ (by rw [length_wts]; omega), ix_wts, ix_wts, take_snoc _ hk]
  by_cases e : i = (ix owners k).toNat
  · have : (i : Int) ∈ owners.take k ++ [ix owners k] := List.mem_append_right _ (List.mem_singleton.2 (by omega))
    rw [if_pos e, if_pos ⟨hi, this⟩, e]
  · rw [if_neg e]
    by_cases h : (i : Int) ∈ owners.take k
    · rw [if_pos ⟨hi, h⟩, if_pos ⟨hi, List.mem_append_left _ h⟩]
    · rw [if_neg (fun x => h x.2), if_neg (fun x => by
        rcases List.mem_append.1 x.2 with y | y
        · exact h y
        · have := List.mem_singleton.1 y; omega)]
theorem wts_start (shares : List Int) (owners : List Int) : wts shares (owners.take 0) = List.replicate shares.length 0 := by
  refine ext_ix (by rw [length_wts, List.length_replicate]) fun i hi => ?_
  rw [ix_wts, ix_replicate, if_neg (fun x => by simp at x)]
end Go.Proofs.YtmapgmibbceooaaGreatDoor
end
section -- LotTick
namespace Go.Proofs.YtmapgmibbceooaaGreatDoor
open Go.RowKit Go.Proofs.YtmapgmibbceooaaGreatDoorW.PrintWords Go.Proofs.YtmapgmibbceooaaGreatDoorW.PrintMore Go.Proofs.YtmapgmibbceooaaGreatDoorW.PrintLast
open Go.Maps
open Go.ChangeShapes (lits)
set_option linter.unusedVariables false
set_option linter.unusedSimpArgs false
theorem valid_f (s o m : List Int) (hs : s.length ≤ 9223372036854775807) (ho : o.length ≤ 9223372036854775807) (hm : m.length ≤ 9223372036854775807) : XLotV.lottery_valid.f 1 s o m = some (okReq s o m) := by
  unfold XLotV.lottery_valid.f lottery_within.f okReq
  rw [if_pos (by simp)]
  simp only [Option.bind_some, XLotV.lottery_valid.j0]
  have h1 : inB 1 16 [(s.length : Int)] = decide (1 ≤ s.length ∧ s.length ≤ 16) := by
    simp only [inB, List.all_cons, List.all_nil, Bool.and_true, decide_eq_decide]; omega
  rw [h1]
  by_cases c1 : 1 ≤ s.length ∧ s.length ≤ 16
  · rw [decide_eq_true c1, if_pos rfl]
    by_cases c2 : (o.length : Int) > 200
    · rw [if_pos c2, if_pos trivial, decide_eq_false (show ¬ o.length ≤ 200 by omega)]; rfl
    · rw [if_neg c2, decide_eq_true (show o.length ≤ 200 by omega)]
      by_cases c3 : o.length = m.length
      · have e : ((o.length : Int) != (m.length : Int)) = false := by simp [c3]
        have e1 : lottery_within.f 1 1000 s = some (inB 1 1000 s) := if_pos hs
        have e2 : ∀ x, lottery_within.f 0 x o = some (inB 0 x o) := fun x => if_pos ho
        have e3 : lottery_within.f 1 10000 m = some (inB 1 10000 m) := if_pos hm
        rw [e, if_neg (by simp), decide_eq_true c3]
        simp only [e1, e2, e3, Option.bind_some, Bool.true_and]
        rw [show wrap64 ((s.length : Int) - 1) = (s.length : Int) - 1 by unfold wrap64; omega]
        cases inB 1 1000 s <;> cases inB 0 ((s.length : Int) - 1) o <;> simp
      · have e : ((o.length : Int) != (m.length : Int)) = true := by simp; omega
        rw [e, if_pos rfl, decide_eq_false c3]; rfl
  · rw [decide_eq_false c1, if_neg (by simp), if_pos trivial]; rfl
theorem valid_calls (A0 : Option Addr) (c0 : Nat) (l0 : List Int) (A1 : Option Addr) (c1 : Nat) (l1 : List Int) (A2 : Option Addr) (c2 : Nat) (l2 : List Int) (w : World) (hr0 : Kd.C (Kd.int .i64) w A0 l0.length l0) (hc0 : l0.length ≤ c0) (hr1 : Kd.C (Kd.int .i64) w A1 l1.length l1) (hc1 : l1.length ≤ c1) (hr2 : Kd.C (Kd.int .i64) w A2 l2.length l2) (hc2 : l2.length ≤ c2) :
    Calls Tryz.prog 25 #[.slice A0 l0.length c0, .slice A1 l1.length c1, .slice A2 l2.length c2] w fun e w' => e = .returned (.bool (okReq l0 l1 l2)) ∧ Below w.heap.size w w' :=
  XLotV.lottery_valid.calls 1 A0 c0 l0 A1 c1 l1 A2 c2 l2 _ w hr0 hc0 hr1 hc1 hr2 hc2 (valid_f _ _ _ (Kd.C_max hr0) (Kd.C_max hr1) (Kd.C_max hr2))
/-- Nothing to deal: an error, or no requests. -/
theorem tickets_none (A0 : Option Addr) (c0 : Nat) (l0 : List Int) (A1 : Option Addr) (c1 : Nat) (l1 : List Int) (A2 : Option Addr) (c2 : Nat) (l2 : List Int) (w : World) (hr0 : Kd.C (Kd.int .i64) w A0 l0.length l0) (hc0 : l0.length ≤ c0) (hr1 : Kd.C (Kd.int .i64) w A1 l1.length l1) (hc1 : l1.length ≤ c1) (hr2 : Kd.C (Kd.int .i64) w A2 l2.length l2) (hc2 : l2.length ≤ c2)
    (hn : okReq l0 l1 l2 = true → l1.length = 0) :
    Calls Tryz.prog 12 #[.slice A0 l0.length c0, .slice A1 l1.length c1, .slice A2 l2.length c2] w fun e w' => e = .returned (.tuple #[.slice none 0 0, .int .i64 (if okReq l0 l1 l2 then 0 else 1)]) ∧ Below w.heap.size w w' := by
  have hv := Lib.hid (valid_calls A0 c0 l0 A1 c1 l1 A2 c2 l2 w hr0 hc0 hr1 hc1 hr2 hc2)
  clear hr0 hr1 hr2
  cases hk : okReq l0 l1 l2 with
  | false =>
    rw [hk] at hv
    clear hk hn
    go_enter Tryz.func12, Tryz.ntmps12
    go_wp2_with fail
    refine (hv.out).mono ?_
    rintro e w1 ⟨rfl, hb⟩
    have HB1 := Aside0.mk hb
    clear hb
    go_wp2
    go_ret2
    exact ⟨rfl, HB1.out⟩
  | true =>
    have hn0 := hn hk
    have hn1 : (l1.length : Int) = 0 := by omega
    rw [hk] at hv
    have HN := Lib.hid hn0
    clear hk hn hn0
    go_enter Tryz.func12, Tryz.ntmps12
    go_wp2_with fail
    refine (hv.out).mono ?_
    rintro e w1 ⟨rfl, hb⟩
    have HB1 := Aside0.mk hb
    clear hb
    go_wp2
    go_ret2
    exact ⟨rfl, HB1.out⟩
/-- What stands while the requests are gathered. -/
structure GInv (base b : Nat) (w0 : World) (shares owners : List Int) (wv : Value) (k : Nat) (W : World) : Prop where
  groups : W.ownsGroups Tryz.prog 3 base 3 .i64 b k (Gk owners k)
  row : Kd.R (Kd.int .i64) 3 W w0.heap.size (fun j => j < base ∧ j ≠ b) wv (wts shares (owners.take k))
  below : Below w0.heap.size w0 W
  size : base ≤ W.heap.size
  bb : w0.heap.size ≤ b
  lt : b < base
theorem law_int : Keyed Tryz.prog 3 := int_keyed Tryz.underlying3
theorem zero_ints (w : World) : (zeroValue 22).run Tryz.prog w = .ok (.slice none 0 0) w := by kernel_rfl
theorem Gk_zero (owners : List Int) : Gk owners 0 = .map [] := rfl
theorem totals_run (shares owners : List Int) : totals shares owners = runL (wts shares owners) 720 := rfl
theorem wts_ok {shares owners merits : List Int} (V : OkReq shares owners merits) : inB 0 1000000000 (wts shares owners) = true := by
  rw [inB_iff]
  intro x hx
  obtain ⟨i, hi, rfl⟩ := mem_ix.1 hx
  rw [length_wts] at hi
  have := wts_nonneg V i
  refine ⟨this, ?_⟩
  rw [ix_wts]
  split
  · have := V.sh _ (ix_mem hi); omega
  · decide
theorem wts_max {shares owners merits : List Int} (V : OkReq shares owners merits) (hne : 0 < owners.length) : ¬ (maxL (wts shares owners) = 0 ∧ 0 < 720) := by
  rintro ⟨h, _⟩
  rw [maxL_zero (fun x hx => (inB_iff.1 (wts_ok V) x hx).1)] at h
  have hm := ix_mem hne
  obtain ⟨h0, h1, h2⟩ := owner_nat V hm
  have := wts_pos V h1 (by rw [h2]; exact hm)
  rw [h] at this; omega
theorem own_ok {shares owners merits : List Int} (V : OkReq shares owners merits) (o : Int) : inB 0 1000000000 (ownM owners merits o) = true := by
  rw [inB_iff]
  intro x hx
  have := V.me x (own_mem hx)
  omega
theorem own_max {shares owners merits : List Int} (V : OkReq shares owners merits) {o : Int} (h : 0 < (ownM owners merits o).length) (T : Nat) : ¬ (maxL (ownM owners merits o) = 0 ∧ 0 < T) := by
  rintro ⟨h1, _⟩
  rw [maxL_zero (fun x hx => (inB_iff.1 (own_ok V o) x hx).1)] at h1
  have := V.me _ (own_mem (ix_mem h))
  rw [h1] at this; omega
theorem has_owner (owners : List Int) {i : Nat} (h : i < owners.length) : Maps.has (Gk owners owners.length) (.int .i64 (ix owners i)) = true := by
  rcases Gk_at owners (ix owners i) owners.length with ⟨h1, _⟩ | ⟨_, _, h3⟩
  · exfalso
    have := idx_length owners (ix owners i) owners.length (Nat.le_refl _)
    rw [h1, List.take_length, List.length_nil] at this
    have := List.count_pos_iff.2 (ix_mem h)
    omega
  · exact h3
theorem invK (key : Value) (kl : Lit) (h : keyOf Tryz.prog 3 key = some kl) : ∃ x, key = .int .i64 x := by
  obtain ⟨x, e, _⟩ := Maps.keyOf_int_inv Tryz.underlying3 h
  exact ⟨x, e⟩
theorem invV (w : World) (base : Nat) (v : Value) (y : DataW Unit × List MemPlace) (h : rowElem w base 3 .i64 v = some y) : ∃ c : Option Addr × Nat × Nat, v = .slice c.1 c.2.1 c.2.2 := by
  obtain ⟨zs, ho, _⟩ := rowElem_inv h
  obtain ⟨A, c, e⟩ := own_slice ho.1
  exact ⟨(A, zs.length, c), e⟩
/-- What an entry of the map holds. -/
theorem entry_is {owners : List Int} {n : Nat} {w3 : World} {base : Nat} {x : Int} {A : Option Addr} {l cp : Nat} {kl : Lit} {y : DataW Unit × List MemPlace} (hkey : keyOf Tryz.prog 3 (.int .i64 x) = some kl) (hR : rowElem w3 base 3 .i64 (.slice A l cp) = some y) (hat : ∀ zd, (Gk owners n).atKey kl zd = y.1) :
    kl = .int .i64 x ∧ ∃ gv, A = some ⟨gv, 0, none⟩ ∧ l = (idxO owners x n).length ∧ 0 < (idxO owners x n).length ∧ gv < w3.heap.size ∧ ∀ j, j < (idxO owners x n).length → w3.cell? ⟨gv, j, none⟩ = some (.int .i64 (ix (idxO owners x n) j)) := by
  obtain ⟨x', e1, e2, _⟩ := Maps.keyOf_int_inv Tryz.underlying3 hkey
  injection e1 with _ e1
  subst e1
  refine ⟨e2, ?_⟩
  subst e2
  obtain ⟨zs, ho, rfl⟩ := rowElem_inv hR
  have hz := Gk_found ho (hat .nil)
  subst hz
  have hh := has_true_of_atKey hat
  have hpos : 0 < (idxO owners x n).length := by
    rcases Gk_at owners x n with ⟨_, _, h3⟩ | ⟨h1, _, _⟩
    · rw [h3] at hh; cases hh
    · exact List.length_pos_iff.2 h1
  rcases ho.1.2 with ⟨h1, h2⟩ | ⟨g, cap, cur, h1, hg, hh2, _⟩
  · omega
  · injection h1 with h1 h2 h3
    refine ⟨g, h1, h2, hpos, (ho.1.lt g (by rw [h1]; rfl)).2, fun j hj => ?_⟩
    have ho1 := ho.1
    rw [h1, h2] at ho1
    have := ho1.cellAt j (by omega)
    rw [this]
    simp [List.getElem?_map, List.getElem?_eq_getElem hj, ix_lt hj]
/-- What stands while the tickets are dealt. -/
structure DInv (wB w3 : World) (r : Nat) (outv : Value) (T owners : List Int) (left : Lit → Bool) (o : Int) (j : Nat) (W : World) : Prop where
  keep : Below w3.heap.size w3 W
  out : Kd.R (Kd.int .i64) 3 W wB.heap.size (fun q => w3.heap.size ≤ q ∧ q ≠ r) outv (outP T owners left o j)
theorem cells_of {w : World} {A : Option Addr} {l : List Int} (hr : Kd.C (Kd.int .i64) w A l.length l) (h : 0 < l.length) : ∃ ad, A = some ad := by
  obtain ⟨ad, e, _⟩ := Kd.at_int hr 0 (by omega) (by omega)
  exact ⟨ad, e⟩
theorem cells_at {w : World} {ad : Addr} {l : List Int} {n : Nat} (hr : Kd.C (Kd.int .i64) w (some ad) n l) {i : Nat} (h : i < n) : w.cell? (ad.add i) = some (.int .i64 (ix l i)) := by
  obtain ⟨ad', e, hx⟩ := Kd.at_int hr (i : Int) (by omega) (by omega)
  injection e with e
  subst e
  rw [show rd l (i : Int) = ix l i by simp [rd, ix]] at hx
  exact hx
theorem grown_of_below {w w' : World} (h : Below w.heap.size w w') : w.grownBy w' none := ⟨h.os, h.tape, h.output, h.size, fun k hk _ => h.block k hk⟩
theorem seats_run (shares owners merits : List Int) {t T : Nat} (h : ix (totals shares owners) t = (T : Int)) : seatsF shares owners merits (t : Int) = runL (ownM owners merits (t : Int)) T := by
  unfold seatsF
  rw [Int.toNat_natCast, h, Int.toNat_natCast]
theorem ix_tickets (shares owners merits : List Int) {i : Nat} (h : i < owners.length) : ix (ticketsL shares owners merits) i = ix (seatsF shares owners merits (ix owners i)) (rank owners i) := ix_deal _ _ h
theorem totals_bd {shares owners merits : List Int} (V : OkReq shares owners merits) (t : Nat) : ∃ T : Nat, ix (totals shares owners) t = (T : Int) ∧ T ≤ 720 := by
  have h0 := tot_nonneg V t
  have h1 := run_le (wts shares owners) 720 t
  exact ⟨(ix (totals shares owners) t).toNat, by omega, by unfold totals at *; omega⟩
attribute [local irreducible] runL wts totals ticketsL outP ownM idxO Gk seatsF
set_option maxHeartbeats 8000000 in
set_option maxRecDepth 100000 in
theorem tickets_some (A0 : Option Addr) (c0 : Nat) (shares : List Int) (A1 : Option Addr) (c1 : Nat) (owners : List Int) (A2 : Option Addr) (c2 : Nat) (merits : List Int) (w : World) (hr0 : Kd.C (Kd.int .i64) w A0 shares.length shares) (hc0 : shares.length ≤ c0) (hr1 : Kd.C (Kd.int .i64) w A1 owners.length owners) (hc1 : owners.length ≤ c1) (hr2 : Kd.C (Kd.int .i64) w A2 merits.length merits) (hc2 : merits.length ≤ c2)
    (hV : OkReq shares owners merits) (hne : 0 < owners.length) :
    Calls Tryz.prog 12 #[.slice A0 shares.length c0, .slice A1 owners.length c1, .slice A2 merits.length c2] w fun e w' => ∃ v, e = .returned (.tuple #[v, .int .i64 0]) ∧ Kd.R (Kd.int .i64) 3 w' w.heap.size (fun _ => True) v (ticketsL shares owners merits) ∧ Below w.heap.size w w' := by
  have hv := Lib.hid (valid_calls A0 c0 shares A1 c1 owners A2 c2 merits w hr0 hc0 hr1 hc1 hr2 hc2)
  rw [okReq_iff.2 hV] at hv
  have HR0 := Lib.hid (fun W (hb : Below w.heap.size w W) => Kd.C_below hr0 hb)
  have HR1 := Lib.hid (fun W (hb : Below w.heap.size w W) => Kd.C_below hr1 hb)
  have HR2 := Lib.hid (fun W (hb : Below w.heap.size w W) => Kd.C_below hr2 hb)
  have V := Lib.hid hV
  have hmm := @run_makeMap Tryz.prog
  obtain ⟨i0, hi, hz0, hz1, hz2⟩ := info_parts info_int'
  have hm0 : 1 ≤ shares.length := hV.s0
  have hm1 : shares.length ≤ 16 := hV.s1
  have hn1 : owners.length ≤ 200 := hV.o1
  have hne0 : ¬ (owners.length : Int) = 0 := by omega
  have hom := hV.om
  obtain ⟨ad0, rfl⟩ := cells_of hr0 (by omega)
  obtain ⟨ad1, rfl⟩ := cells_of hr1 hne
  obtain ⟨ad2, rfl⟩ := cells_of hr2 (by omega)
  have HX0 := Lib.hid (fun W (hb : Below w.heap.size w W) i (hi : i < shares.length) => cells_at (Kd.C_below hr0 hb) hi)
  have HX1 := Lib.hid (fun W (hb : Below w.heap.size w W) i (hi : i < owners.length) => cells_at (Kd.C_below hr1 hb) hi)
  have HX2 := Lib.hid (fun W (hb : Below w.heap.size w W) i (hi : i < merits.length) => cells_at (Kd.C_below hr2 hb) hi)
  clear hr0 hr1 hr2 hV HR0 HR1 HR2
  rw [← hom] at hv HX2 hc2
  rw [← hom]
  have HOM := Lib.hid hom
  clear hom
  generalize hmm' : shares.length = m at *
  generalize hnn : owners.length = n at *
  have HM := Lib.hid hmm'
  have HN := Lib.hid hnn
  clear hmm' hnn
  go_enter Tryz.func12, Tryz.ntmps12
  go_wp2_with fail
  refine (hv.out).mono ?_
  rintro e w1 ⟨rfl, hb⟩
  have HB1 := Lib.hid hb
  have HB1' := Lib.hid (below_alloc hb (.map #[] 0))
  clear hb
  go_wp2_with ((with_reducible refine gate_dst (N := 35) rfl ?_); refine Kd.R_make (Kd.int .i64) w.heap.size 3 rfl (N := 35) rfl 22 _ _ rfl (m : Int) rfl rfl Tryz.underlying22 (.int .i64 0) 8 info_int' rfl (by decide) (by decide) 0 (ok := fun j => j ≠ w1.heap.size) (okp := fun _ => False) rfl (fun _ hk => hk.elim) (by simp) (by omega) (by omega) HB1'.out HB1'.out.size ?_; intro v1 w2 ho1 hb1 hg1 hnew1; obtain ⟨AW, cW, e1⟩ := Kd.R_slice ho1; rw [List.length_replicate, Int.toNat_natCast] at e1; subst e1; have HO1 := Aside0.mk ho1; have HB2 := Lib.hid hb1; have HG2 := Lib.hid hg1; clear ho1 hb1 hg1 hnew1)
  obtain ⟨gw, cap, hv1, hgw1, hgw2, _⟩ := Kd.R_form HO1.out (by simp; omega)
  injection hv1 with hv1 hvl hv2
  clear hvl
  subst hv1
  subst hv2
  have hsz1 : (w1.alloc (.map #[] 0)).heap.size = w1.heap.size + 1 := by simp
  have HI := Lib.hid (show GInv w2.heap.size w1.heap.size w shares owners (.slice (some ⟨gw, 0, none⟩) m cW) 0 w2 from
    ⟨by rw [Gk_zero]; exact groups_empty ((HG2.out.block _ (by rw [hsz1]; omega) (by simp)).trans (MapKept.heap_alloc w1 _).1) (by have := HG2.out.size; omega),
     by rw [wts_start, HM.out]; exact Kd.R_mono (Kd.R_bound HO1.out) (fun j hj => ⟨hj.2.2.1, hj.1⟩), HB2.out, Nat.le_refl _, HB1.out.size, by have := HG2.out.size; omega⟩)
  clear hsz1
  generalize w2.heap.size = base at *
  generalize w1.heap.size = b at *
  go_loopw [38] (fun s38 W => ∃ k : Nat, k ≤ n ∧ s38 = .int .i64 k ∧ Aside0 (GInv base b w shares owners (.slice (some ⟨gw, 0, none⟩) m cW) k W)) (fun s38 _ => n - (intOf s38).toNat)
  case atStart => exact ⟨0, Nat.zero_le _, rfl, ⟨HI.out⟩⟩
  case round =>
    obtain ⟨k, hk, rfl, HP⟩ := hrel
    by_cases hlt : k < n
    · have hki : (k : Int) < (n : Int) := by omega
      have hx1 := HX1.out wr HP.out.below k hlt
      have hob := V.out.ow _ (ix_mem (l := owners) (k := k) (by rw [HN.out]; exact hlt))
      rw [HM.out] at hob
      have HWS := Lib.hid (wts_step shares owners (k := k) (by rw [HN.out]; exact hlt) hob.1 (by rw [HM.out]; omega))
      have HGK := Lib.hid (fun (w : World) (base : Nat) (e : TypeId) (v : Value) (zs : List Int) (ho : w.ownsInts base e .i64 v zs) hat => Gk_found (owners := owners) (o := ix owners k) (k := k) ho hat)
      have HGS := Lib.hid (fun (w : World) (base : Nat) (e : TypeId) (v : Value) ho => Gk_step (owners := owners) (k := k) (w := w) (base := base) (e := e) (v := v) ho)
      have hil := idx_le owners (ix owners k) k
      have HOG := Lib.hid HP.out.groups
      generalize ix owners k = o at *
      obtain ⟨ho0, ho1⟩ := hob
      obtain ⟨t, rfl⟩ : ∃ t : Nat, o = (t : Int) := ⟨o.toNat, by omega⟩
      simp only [Int.toNat_natCast] at HWS
      have hti : (t : Int) < (m : Int) := by omega
      have HWO := Lib.hid (show (Lit.int .i64 (t : Int)).wf = true from WalkArith.wf_i64 (by omega))
      have hbs : base ≤ wr.heap.size := HP.out.size
      go_wp2_with (first
        | (at_lookup; refine wpList_lookup_groups _ rfl _ _ 48 rfl 3 22 3 .i64 law_int Tryz.underlying48 (zero_ints _) base b k _ rfl HOG.out (by unfold maxLen; omega) _ _ rfl (keyOf_int_mk Tryz.underlying3 HWO.out) ?_; intro v zs hat hoi hzl hback; have hzs := HGK.out _ _ _ _ _ hoi hat; subst hzs; have HOI := Lib.hid hoi; have HBK := Lib.hid hback; clear hat hback)
        | (at_builtin; refine wpList_append_own_at _ rfl _ _ 22 rfl base 3 i0 (.int .i64 0) 1 8 Tryz.underlying22 hi hz0 hz1 hz2 rfl (by decide) _ _ _ rfl (HOI.out.1.alloc _) ⟨wr.heap.size, 0, none⟩ 1 1 [.int .i64 k] rfl rfl (cell_one_new _ _ _) (ints_oneCell .i64 [(k : Int)]) (by unfold maxLen; omega) (by omega) (by simp; omega) ?_; intro v' w4 hown' hgrow hnil hloc)
        | (at_mapUpdate; refine wpList_mapUpdate_back _ rfl _ _ _ 48 rfl HBK.out rfl rfl rfl ((World.grownBy_alloc _ _ _).trans hgrow) (HOI.out.appended hown' (WalkArith.wf_i64 (by omega))) (by simp; omega) (hloc.imp id (fun h => ⟨_, h, by simp⟩)) ?_; intro w5 hown5 hgrow5; have hall := (World.grownBy_alloc wr (.cells #[.int .i64 (k : Int)] 3) _).trans hgrow; have HB5 := Lib.hid (HP.out.below.groups HOI.out hall hgrow5 HP.out.below.size (Nat.le_trans HP.out.bb (Nat.le_of_lt HP.out.lt)) HP.out.bb); have HR5 := Lib.hid (Kd.R_grown (Kd.R_grown HP.out.row hall (fun j hj e => by have := (HOI.out.1.lt j e.symm).1; omega)) hgrow5 (fun j hj e => by injection e with e; exact hj.2 e)); have HZ5 := Lib.hid (Nat.le_trans HP.out.size (Nat.le_trans hall.size hgrow5.size)); have hx5 := HX0.out w5 HB5.out t (by omega); obtain ⟨hy5, hf5⟩ := Kd.R_celln (0 : Int) HR5.out (t : Int) (by omega) (by omega); simp only [Int.toNat_natCast] at hy5 hf5; have HG5 := Lib.hid (show w5.ownsGroups Tryz.prog 3 base 3 .i64 b (k + 1) (Gk owners (k + 1)) by rw [HGS.out _ _ _ _ (HOI.out.appended hown' (WalkArith.wf_i64 (by omega)))]; exact hown5); clear hown5 hgrow5 hall hown' hgrow)
        | go_in)
      generalize hxs : ix shares t = x at *
      have HXS := Lib.hid hxs
      clear hxs
      have hgb : ¬ gw = b := HP.out.row.1 gw rfl |>.2
      go_roundw
      case rel =>
        refine ⟨k + 1, by omega, by go_num, ⟨⟨?_, ?_, HB5.out.setCell hgw1 _, by simpa using HZ5.out, HP.out.bb, HP.out.lt⟩⟩⟩
        · refine HG5.out.kept (row := some gw) ⟨rfl, rfl, rfl, by simp, fun j _ hj => heap_setCell_other _ ⟨gw, t, none⟩ j _ (fun e => hj (by rw [e]))⟩ (fun e => hgb (by injection e with e; exact e.symm)) (HG5.out.rowsAbove (fun j e => by injection e with e; subst e; exact hgw2))
        · rw [← HWS.out]; exact Kd.R_putn HR5.out (t : Int) x
      case measure => simp [intOf]; omega
    · have hki : ¬ (k : Int) < (n : Int) := by omega
      have HPN := Lib.hid (show GInv base b w shares owners (.slice (some ⟨gw, 0, none⟩) m cW) n wr by
        have e : k = n := by omega
        rw [← e]; exact HP.out)
      clear HP HI
      have HW := Lib.hid (show Kd.R (Kd.int .i64) 3 wr w.heap.size (fun j => j < base ∧ j ≠ b) (.slice (some ⟨gw, 0, none⟩) m cW) (wts shares owners) by
        have := HPN.out.row
        rwa [← HN.out, List.take_length] at this)
      have hshare := apportion_Share.ok 720 (some ⟨gw, 0, none⟩) cW (wts shares owners) wr
      rw [length_wts, HM.out] at hshare
      have hshare2 := hshare (by have := (Kd.R_reads' HW.out).2.2; rwa [length_wts, HM.out] at this) hm0 (by omega) (wts_ok V.out) (by decide) (wts_max V.out (by rw [HN.out]; exact hne))
      have HSH := Lib.hid hshare2
      clear hshare hshare2
      go_wp2_with fail
      refine (HSH.out).mono ?_
      rintro e w3 ⟨v3, rfl, hr3, hb3⟩
      have HG3 := Lib.hid (HPN.out.groups.kept (grown_of_below hb3) (by simp) (fun _ _ _ x _ => Classical.em _))
      have HB3 := Lib.hid (HPN.out.below.trans (hb3.mono HPN.out.below.size))
      have HLT3 := Lib.hid (show wr.heap.size ≤ w3.heap.size from hb3.size)
      obtain ⟨AT, cT, hv3⟩ := Kd.R_slice hr3
      have hlt3 : (runL (wts shares owners) 720).length = m := by rw [length_run, length_wts, HM.out]
      rw [hlt3] at hv3
      subst hv3
      have HT3 := Lib.hid (Kd.R_reads' hr3).2.2
      have hlt4 : (totals shares owners).length = m := by rw [totals_run]; exact hlt3
      rw [← totals_run, hlt4] at HT3
      obtain ⟨adT, eT⟩ := cells_of (l := totals shares owners) (A := AT) (w := w3) (by rw [hlt4]; exact HT3.out) (by omega)
      subst eT
      have HLT4 := Lib.hid hlt4
      clear hr3 hb3 hlt3 hlt4
      go_wp2_with (first
        | ((with_reducible refine gate_dst (N := 69) rfl ?_); refine Kd.R_make (Kd.int .i64) w.heap.size 3 rfl (N := 69) rfl 22 _ _ rfl (n : Int) rfl rfl Tryz.underlying22 (.int .i64 0) 8 info_int' rfl (by decide) (by decide) 0 (ok := fun j => w3.heap.size ≤ j) (okp := fun _ => False) rfl (fun _ hk => hk.elim) (Nat.le_refl _) (by omega) (by omega) HB3.out HB3.out.size ?_; intro v4 w4 ho4 hb4 hg4 hnew4; obtain ⟨AO, cO, e4⟩ := Kd.R_slice ho4; rw [List.length_replicate, Int.toNat_natCast] at e4; subst e4; have HO4 := Aside0.mk ho4; have HB4 := Lib.hid hb4; have HG4 := Lib.hid hg4; have HM4 := Lib.hid ((groups_ownsMap HG3.out).kept hg4 (by simp)); clear ho4 hb4 hg4 hnew4)
        | (at_range; refine wpList_range_own _ rfl _ 48 rfl 3 22 law_int Tryz.underlying48 _ b n _ rfl HM4.out ?_; intro w5 hrg5 hg5 hs5; have HRG5 := Lib.hid hrg5; have HG5 := Lib.hid hg5; have HS5 := Lib.hid hs5; clear hrg5 hg5 hs5))
      go_frame
      obtain ⟨go, cap, hv1, hgo1, hgo2, _⟩ := Kd.R_form HO4.out (by simp; omega)
      injection hv1 with hv1 hvl hv2
      clear hvl
      subst hv1
      subst hv2
      have hgo3 : w3.heap.size ≤ go := HO4.out.1 go rfl
      have HD5 := Lib.hid (show DInv w w3 w4.heap.size (.slice (some ⟨go, 0, none⟩) n cO) (ticketsL shares owners merits) owners (Maps.has (Gk owners n)) 0 0 w5 from
        ⟨⟨HG5.out.os.trans HG4.out.os, HG5.out.tape.trans HG4.out.tape, HG5.out.output.trans HG4.out.output, Nat.le_trans HG4.out.size HG5.out.size, fun q hq => (HG5.out.block q (Nat.lt_of_lt_of_le hq HG4.out.size) (by simp)).trans (HG4.out.block q hq (by simp))⟩,
         by
          rw [outP_start _ _ _ _ (fun i hi => by have := has_owner owners hi; rwa [HN.out] at this), HN.out]
          exact Kd.R_mono (Kd.R_grown (Kd.R_bound HO4.out) HG5.out (fun q _ => by simp)) (fun q hq => ⟨hq.1, by have := hq.2.2.1; omega⟩)⟩)
      have hrs : w3.heap.size ≤ w4.heap.size := HG4.out.size
      have hgr : ¬ go = w4.heap.size := by omega
      have HBW3 := Lib.hid HB3.out.size
      clear HS5 HG5 HO4 hgo2 HM4 HB4
      generalize w4.heap.size = r at *
      go_loopw [15] (fun _ wr => ∃ (left : Lit → Bool) (cnt : Nat), Aside0 (wr.ranges Tryz.prog 3 (rowElem w3 base 3 .i64) b r n (Gk owners n) left cnt ∧ DInv w w3 r (.slice (some ⟨go, 0, none⟩) n cO) (ticketsL shares owners merits) owners left 0 0 wr)) (fun _ wr => wr.rangeLeft b r)
      case atStart => exact ⟨_, _, ⟨HRG5.out, HD5.out⟩⟩
      case round =>
        obtain ⟨left, cnt, HP⟩ := hrel
        go_wp2_with (first
          | (at_next; refine wpList_next_ranges _ rfl _ rfl 3 law_int (rowElem w3 base 3 .i64) (Value.int .i64) (fun p : Option Addr × Nat × Nat => Value.slice p.1 p.2.1 p.2.2) invK (fun v y hv => invV w3 base v y hv) b r n _ _ _ rfl HP.out.1 ?_ ?_))
        · intro _ hl0
          have HF := Lib.hid (show Kd.R (Kd.int .i64) 3 wr w.heap.size (fun _ => True) (.slice (some ⟨go, 0, none⟩) n cO) (ticketsL shares owners merits) by
            have := HP.out.2.out
            rw [outP_end _ _ _ _ (length_tickets _ _ _) hl0] at this
            exact Kd.R_mono this (fun _ _ => trivial))
          go_wp2
          go_ret2
          exact ⟨_, rfl, HF.out, HB3.out.trans (HP.out.2.keep.mono HBW3.out)⟩
        · intro x AV lV cv kl yd yp w6 cnt6 hkey hlx hR hat hrg6 hlt6 hg6 hs6 hen
          obtain ⟨rfl, gv, rfl, rfl, hpos, hgv, hcv⟩ := entry_is hkey hR hat
          have HIL := Lib.hid (idx_le owners x n)
          have HIDX := Lib.hid (idx_at owners x n (by rw [HN.out]; exact Nat.le_refl _))
          have HOL := Lib.hid (show (ownM owners merits x).length = (idxO owners x n).length by rw [length_own _ _ _ V.out.om, idx_length _ _ _ (by rw [HN.out]; exact Nat.le_refl _), ← HN.out, List.take_length])
          obtain ⟨i0', hi1, hi2, hi3, hi4⟩ := HIDX.out 0 hpos
          have hxo := V.out.ow _ (ix_mem (l := owners) (k := i0') (by rw [HN.out]; exact hi1))
          rw [hi3, HM.out] at hxo
          clear hi1 hi2 hi3 hi4 hkey hR hat
          have HEN := Lib.hid hen
          have hen' := hen
          clear hen
          generalize hlen : (idxO owners x n).length = len at *
          have HLEN := Lib.hid hlen
          clear hlen
          have HCV := Lib.hid hcv
          clear hcv
          obtain ⟨t, rfl⟩ : ∃ t : Nat, x = (t : Int) := ⟨x.toNat, by omega⟩
          have hti : (t : Int) < (m : Int) := by omega
          have htm : t < m := by omega
          have HRG6 := Lib.hid hrg6
          have HLT6 := Lib.hid hlt6
          have HG6 := Lib.hid hg6
          have HLX := Lib.hid hlx
          clear hrg6 hlt6 hg6 hs6 hlx hxo
          have hlen200 : len ≤ 200 := Nat.le_trans HIL.out hn1
          have HK6 := Lib.hid (show Below w3.heap.size w3 w6 from
            ⟨HG6.out.os.trans HP.out.2.keep.os, HG6.out.tape.trans HP.out.2.keep.tape, HG6.out.output.trans HP.out.2.keep.output, Nat.le_trans HP.out.2.keep.size HG6.out.size, fun q hq => (HG6.out.block q (Nat.lt_of_lt_of_le hq HP.out.2.keep.size) (fun e => by injection e with e; omega)).trans (HP.out.2.keep.block q hq)⟩)
          have HW6 := Lib.hid (show Below w.heap.size w w6 from HB3.out.trans (HK6.out.mono HBW3.out))
          have HO6 := Lib.hid (show Kd.R (Kd.int .i64) 3 w6 w.heap.size (fun q => w3.heap.size ≤ q ∧ q ≠ r) (.slice (some ⟨go, 0, none⟩) n cO) (outP (ticketsL shares owners merits) owners left (t : Int) 0) by
            rw [outP_zero _ _ _ (t : Int) 0]; exact Kd.R_grown HP.out.2.out HG6.out (fun q hq e => by injection e with e; exact hq.2 e))
          go_wp2
          go_loopw [17, 79] (fun s17 s79 W => ∃ k : Nat, k ≤ len ∧ s79 = .int .i64 k ∧ Aside0 (Below w6.heap.size w6 W ∧ Kd.R (Kd.int .i64) 3 W w6.heap.size (fun _ => True) s17 ((ownM owners merits (t : Int)).take k))) (fun _ s79 _ => len - (intOf s79).toNat)
          case atStart => exact ⟨0, Nat.zero_le _, rfl, ⟨Below.refl _ _, Kd.R_nil _ _ _ _ _⟩⟩
          case round =>
            obtain ⟨k, hk, rfl, HC⟩ := hrel
            by_cases hlt : k < len
            · have hki : (k : Int) < (len : Int) := by omega
              obtain ⟨i, hi1, hi2, hi3, hi4⟩ := HIDX.out k hlt
              have HW7 := Lib.hid (HW6.out.trans (HC.out.1.mono HW6.out.size))
              have hcx : wr.cell? ⟨gv, k, none⟩ = some (.int .i64 (i : Int)) := by
                rw [← hi2, ← HCV.out k hlt]
                exact (HK6.out.trans (HC.out.1.mono HK6.out.size)).cell (p := ⟨gv, k, none⟩) hgv
              have hmx := HX2.out wr HW7.out i hi1
              have hown := ix_own owners merits V.out.om (k := i) (by rw [HN.out]; exact hi1)
              rw [hi3, hi4] at hown
              have HST := Lib.hid (take_snoc (ownM owners merits (t : Int)) (k := k) (by rw [HOL.out]; exact hlt))
              rw [hown] at HST
              have hii : (i : Int) < (n : Int) := by omega
              clear hi2 hi3 hi4 hown
              generalize ix merits i = y at *
              go_wp2_with (first | ((with_reducible refine gate_builtin (b := .append) (xs := #[.tmp 83, .tmp 88]) rfl ?_); at_builtin; refine Kd.R_append (Kd.int .i64) (w0 := w6) w6.heap.size rfl (.tmp 83) (.tmp 88) 22 3 (.int .i64 0) 8 rfl Tryz.underlying22 info_int' rfl (by decide) (by omega) _ ((ownM owners merits (t : Int)).take k) y [.int .i64 y] (fun _ => True) (fun _ => False) rfl rfl rfl (fun _ hk => hk.elim) (fun _ _ => trivial) HC.out.2 HC.out.1 HC.out.1.size (by rw [List.length_take]; omega) ?_; intro v7 w8 ho hb hg hat; have HR8 := Lib.hid ho; have HB8 := Lib.hid hb; clear ho hb hg hat))
              go_roundw
              case rel => exact ⟨k + 1, by omega, by go_num, ⟨HB8.out, by rw [HST.out]; exact HR8.out⟩⟩
              case measure => simp [intOf]; omega
            · have hki : ¬ (k : Int) < (len : Int) := by omega
              have HVAL := Lib.hid (show Kd.R (Kd.int .i64) 3 wr w6.heap.size (fun _ => True) u17 (ownM owners merits (t : Int)) by
                have e : k = len := by omega
                have := HC.out.2
                rwa [e, ← HOL.out, List.take_length] at this)
              have hk3 := HK6.out.trans (HC.out.1.mono HK6.out.size)
              have htot := cells_at (Kd.C_below HT3.out hk3) htm
              obtain ⟨T, hT, hT1⟩ := totals_bd V.out t
              rw [hT] at htot
              have HSF := Lib.hid (seats_run shares owners merits hT)
              clear hT
              obtain ⟨AV, cV, hv17⟩ := Kd.R_slice HVAL.out
              rw [HOL.out] at hv17
              subst hv17
              have hvc := (Kd.R_reads' HVAL.out).2.2
              have hshare := apportion_Share.ok T AV cV (ownM owners merits (t : Int)) wr hvc (by rw [HOL.out]; omega) (by rw [HOL.out]; omega) (own_ok V.out _) hT1 (own_max V.out (by rw [HOL.out]; exact hpos) T)
              rw [HOL.out] at hshare
              have HSH2 := Lib.hid hshare
              have HK3 := Lib.hid hk3
              have HC1 := Lib.hid HC.out.1
              clear hshare hvc hk3 HC hT1 hen'
              go_wp2_with fail
              refine (HSH2.out).mono ?_
              rintro e w10 ⟨v10, rfl, hr10, hb10⟩
              have HB10 := Lib.hid hb10
              obtain ⟨AS, cS, hv10⟩ := Kd.R_slice hr10
              have hlenS : (runL (ownM owners merits (t : Int)) T).length = len := by rw [length_run, HOL.out]
              rw [hlenS] at hv10
              subst hv10
              have HSR := Lib.hid (Kd.R_bound hr10)
              obtain ⟨adS, cSx, hvS, hgS1, hgS2, _⟩ := Kd.R_form hr10 (by rw [hlenS]; exact hpos)
              injection hvS with hvS hvl hvS2
              clear hvl hlenS hr10 hb10
              subst hvS
              subst hvS2
              have HB610 := Lib.hid (HC1.out.trans (HB10.out.mono HC1.out.size))
              have HO10 := Lib.hid (Kd.R_below HO6.out HB610.out)
              have HK10 := Lib.hid (HK3.out.trans (HB10.out.mono HK3.out.size))
              have hgo6 : go < w6.heap.size := by
                have := HO6.out
                exact Kd.R_lt this go rfl
              have hgoS : ¬ adS = go := by have := HC1.out.size; omega
              go_wp2
              go_loopw [105] (fun s105 W => ∃ k : Nat, k ≤ len ∧ s105 = .int .i64 k ∧ Aside0 (w10.grownBy W (some go) ∧ Kd.R (Kd.int .i64) 3 W w.heap.size (fun q => w3.heap.size ≤ q ∧ q ≠ r) (.slice (some ⟨go, 0, none⟩) n cO) (outP (ticketsL shares owners merits) owners left (t : Int) k))) (fun s105 _ => len - (intOf s105).toNat)
              case atStart => exact ⟨0, Nat.zero_le _, rfl, ⟨⟨rfl, rfl, rfl, Nat.le_refl _, fun _ _ _ => rfl⟩, HO10.out⟩⟩
              case round =>
                obtain ⟨k, hk, rfl, HD⟩ := hrel
                by_cases hlt : k < len
                · have hki : (k : Int) < (len : Int) := by omega
                  obtain ⟨i, hi1, hi2, hi3, hi4⟩ := HIDX.out k hlt
                  have hii : (i : Int) < (n : Int) := by omega
                  have hcx : wr.cell? ⟨gv, k, none⟩ = some (.int .i64 (i : Int)) := by
                    rw [← hi2, ← HCV.out k hlt]
                    exact World.cell?_of_block (a := ⟨gv, k, none⟩) ((HD.out.1.block gv (Nat.lt_of_lt_of_le hgv HK10.out.size) (fun e => by injection e with e; omega)).trans (HK10.out.block gv hgv))
                  have hsr := Kd.R_grown HSR.out HD.out.1 (fun q hq e => by injection e with e; have := hq.2.1; have := HC1.out.size; omega)
                  have hsx := (Kd.R_celln (0 : Int) hsr (k : Int) (by omega) hki).1
                  obtain ⟨hox, hof⟩ := Kd.R_celln (0 : Int) HD.out.2 (i : Int) (by omega) hii
                  simp only [Int.toNat_natCast] at hsx hox hof
                  have htk := ix_tickets shares owners merits (i := i) (by rw [HN.out]; exact hi1)
                  rw [hi3, hi4, HSF.out] at htk
                  have hst := outP_step (ticketsL shares owners merits) owners left (i := i) (by rw [HN.out]; exact hi1)
                  rw [hi3, hi4, htk] at hst
                  have HST := Lib.hid hst
                  rw [show rdOf (0 : Int) (runL (ownM owners merits (t : Int)) T) (k : Int) = ix (runL (ownM owners merits (t : Int)) T) k by simp [rdOf, ix]] at hsx
                  clear hst htk hi2 hi3 hi4 hsr
                  generalize ix (runL (ownM owners merits (t : Int)) T) k = s at *
                  go_wp2
                  go_roundw
                  case rel =>
                    refine ⟨k + 1, by omega, by go_num, ⟨?_, ?_⟩⟩
                    · refine ⟨HD.out.1.os, HD.out.1.tape, HD.out.1.output, by simpa using HD.out.1.size, fun q hq hne => ?_⟩
                      exact (heap_setCell_other _ ⟨go, i, none⟩ q _ (fun e => hne (by rw [e]))).trans (HD.out.1.block q hq hne)
                    · rw [← HST.out]; exact Kd.R_putn HD.out.2 (i : Int) s
                  case measure => simp [intOf]; omega
                · have hki : ¬ (k : Int) < (len : Int) := by omega
                  have hoe := HD.out.2
                  rw [show k = len by omega, outP_done _ _ _ _ 0 len (fun i hi e => by
                    have := rank_lt owners hi
                    rw [e, ← length_own _ merits _ V.out.om, HOL.out] at this
                    exact this)] at hoe
                  have HOE := Lib.hid hoe
                  clear hoe
                  have hrlt := HRG6.out.lt
                  have hblt := HRG6.out.owns.lt
                  have hmv : ∀ q, q < w6.heap.size → q ≠ go → wr.heap[q]? = w6.heap[q]? := fun q hq hne => (HD.out.1.block q (Nat.lt_of_lt_of_le hq HB610.out.size) (fun e => hne (by injection e))).trans (HB610.out.block q hq)
                  have HRGE := Lib.hid (ranges_move HRG6.out (hmv b hblt (by have := HPN.out.lt; have := HPN.out.size; have := HLT3.out; omega)) (hmv r hrlt (fun e => hgr e.symm)))
                  have HKE := Lib.hid (show Below w3.heap.size w3 wr from ⟨HD.out.1.os.trans HK10.out.os, HD.out.1.tape.trans HK10.out.tape, HD.out.1.output.trans HK10.out.output, Nat.le_trans HK10.out.size HD.out.1.size, fun q hq => (HD.out.1.block q (Nat.lt_of_lt_of_le hq HK10.out.size) (fun e => by injection e with e; omega)).trans (HK10.out.block q hq)⟩)
                  clear hmv hrlt hblt
                  go_wp2
                  go_roundw
                  case rel => exact ⟨_, cnt6, ⟨HRGE.out, ⟨HKE.out, HOE.out⟩⟩⟩
                  case measure => rw [HRGE.out.left_eq, HP.out.1.left_eq]; exact HLT6.out
end Go.Proofs.YtmapgmibbceooaaGreatDoor
end
section -- LotTicks
namespace Go.Proofs.YtmapgmibbceooaaGreatDoor
open Go.RowKit Go.Proofs.YtmapgmibbceooaaGreatDoorW.PrintWords Go.Proofs.YtmapgmibbceooaaGreatDoorW.PrintMore Go.Proofs.YtmapgmibbceooaaGreatDoorW.PrintLast
set_option linter.unusedVariables false
set_option linter.unusedSimpArgs false
def lottery_Tickets.f (l0 l1 l2 : List Int) : Option (List Int × Int) := some (ticketsS l0 l1 l2)
theorem lottery_Tickets.calls (A0 : Option Addr) (c0 : Nat) (l0 : List Int) (A1 : Option Addr) (c1 : Nat) (l1 : List Int) (A2 : Option Addr) (c2 : Nat) (l2 : List Int) (r1 : List Int) (r2 : Int) (w : World) (hr0 : Kd.C (Kd.int .i64) w A0 l0.length l0) (hc0 : l0.length ≤ c0) (hr1 : Kd.C (Kd.int .i64) w A1 l1.length l1) (hc1 : l1.length ≤ c1) (hr2 : Kd.C (Kd.int .i64) w A2 l2.length l2) (hc2 : l2.length ≤ c2) (h : lottery_Tickets.f l0 l1 l2 = some (r1, r2)) :
    Calls Tryz.prog 12 #[.slice A0 l0.length c0, .slice A1 l1.length c1, .slice A2 l2.length c2] w fun e w' => ∃ v0_ : Value, e = .returned (.tuple #[v0_, .int .i64 r2]) ∧ Kd.R (Kd.int .i64) 3 w' w.heap.size (fun _ => True) v0_ r1 ∧ Below w.heap.size w w' := by
  injection h with h
  cases hk : okReq l0 l1 l2 with
  | false =>
    unfold ticketsS at h
    rw [hk] at h
    simp only [Bool.false_eq_true, if_false, Prod.mk.injEq] at h
    obtain ⟨rfl, rfl⟩ := h
    refine (tickets_none A0 c0 l0 A1 c1 l1 A2 c2 l2 w hr0 hc0 hr1 hc1 hr2 hc2 (fun h => by rw [hk] at h; cases h)).mono ?_
    rintro e w' ⟨rfl, hb⟩
    rw [hk]
    exact ⟨_, rfl, Kd.R_nil _ _ _ _ _, hb⟩
  | true =>
    unfold ticketsS at h
    rw [hk] at h
    simp only [if_true, Prod.mk.injEq] at h
    obtain ⟨rfl, rfl⟩ := h
    by_cases h0 : l1.length = 0
    · refine (tickets_none A0 c0 l0 A1 c1 l1 A2 c2 l2 w hr0 hc0 hr1 hc1 hr2 hc2 (fun _ => h0)).mono ?_
      rintro e w' ⟨rfl, hb⟩
      rw [hk]
      refine ⟨_, rfl, ?_, hb⟩
      rw [show ticketsL l0 l1 l2 = [] from List.length_eq_zero_iff.1 (by rw [length_tickets, h0])]
      exact Kd.R_nil _ _ _ _ _
    · exact tickets_some A0 c0 l0 A1 c1 l1 A2 c2 l2 w hr0 hc0 hr1 hc1 hr2 hc2 (okReq_iff.1 hk) (by omega)
def listS (l : List Int) : Bool := decide (1 ≤ l.length ∧ l.length ≤ 200) && (inB 0 720 l && (sumL l == 720))
theorem sum_bd {l : List Int} (h : inB 0 720 l = true) : 0 ≤ sumL l ∧ sumL l ≤ 720 * (l.length : Int) := by
  induction l with
  | nil => simp [sumL]
  | cons x l ih =>
    rw [inB_iff] at h ih
    have h1 := h x List.mem_cons_self
    have h2 := ih (fun y hy => h y (List.mem_cons_of_mem _ hy))
    simp only [sumL, List.length_cons]
    omega
theorem sum_take_bd {l : List Int} (h : inB 0 720 l = true) (k : Nat) : 0 ≤ sumL (l.take k) ∧ sumL (l.take k) ≤ 720 * (l.length : Int) := by
  have h1 := sum_bd (l := l.take k) (inB_iff.2 (fun x hx => inB_iff.1 h x (List.mem_of_mem_take hx)))
  have : (l.take k).length ≤ l.length := by simp; omega
  omega
theorem sum_take_succ (l : List Int) {k : Nat} (h : k < l.length) : sumL (l.take (k + 1)) = sumL (l.take k) + ix l k := by
  rw [take_snoc l h, sumL_append]; simp [sumL]
theorem list_loop (l : List Int) (hv : inB 0 720 l = true) (hl : l.length ≤ 200) : ∀ (d i k : Nat), i + d = l.length → d < k → XLotV.lottery_list.l0 k (sumL (l.take i)) l (l.length : Int) (i : Int) = some (sumL l == 720)
  | 0, i, k, hi, hk => by
    obtain ⟨k, rfl⟩ : ∃ m, k = m + 1 := ⟨k - 1, by omega⟩
    simp only [XLotV.lottery_list.l0]
    rw [if_neg (by omega), List.take_of_length_le (by omega)]
  | d + 1, i, k, hi, hk => by
    obtain ⟨k, rfl⟩ : ∃ m, k = m + 1 := ⟨k - 1, by omega⟩
    have hs := sum_take_succ l (k := i) (by omega)
    have b1 := sum_take_bd hv i
    have b2 := sum_take_bd hv (i + 1)
    simp only [XLotV.lottery_list.l0]
    rw [if_pos (by omega), if_pos (by omega), if_pos (by omega), show rd l (i : Int) = ix l i by simp [rd, ix], ← hs]
    rw [show wrap64 (sumL (l.take (i + 1))) = sumL (l.take (i + 1)) by unfold wrap64; omega, show wrap64 ((i : Int) + 1) = ((i + 1 : Nat) : Int) by unfold wrap64; omega]
    exact list_loop l hv hl d (i + 1) k (by omega) (by omega)
theorem list_f (l : List Int) (hl : l.length ≤ 9223372036854775807) : XLotV.lottery_list.f 300 l = some (listS l) := by
  unfold XLotV.lottery_list.f lottery_within.f listS
  have h1 : inB 1 200 [(l.length : Int)] = decide (1 ≤ l.length ∧ l.length ≤ 200) := by
    simp only [inB, List.all_cons, List.all_nil, Bool.and_true, decide_eq_decide]; omega
  rw [if_pos (by simp)]
  simp only [Option.bind_some, XLotV.lottery_list.j0]
  rw [h1]
  by_cases c1 : 1 ≤ l.length ∧ l.length ≤ 200
  · rw [decide_eq_true c1, if_pos rfl, if_pos hl]
    simp only [Option.bind_some, Bool.true_and]
    cases hv : inB 0 720 l with
    | false => rfl
    | true =>
      rw [if_neg (by simp)]
      have := list_loop l hv c1.2 l.length 0 299 (by omega) (by omega)
      rw [List.take_zero] at this
      exact this
  · rw [decide_eq_false c1, if_neg (by simp), if_pos trivial]; rfl
theorem list_calls (A0 : Option Addr) (c0 : Nat) (l0 : List Int) (w : World) (hr0 : Kd.C (Kd.int .i64) w A0 l0.length l0) (hc0 : l0.length ≤ c0) :
    Calls Tryz.prog 30 #[.slice A0 l0.length c0] w fun e w' => e = .returned (.bool (listS l0)) ∧ Below w.heap.size w w' :=
  XLotV.lottery_list.calls 300 A0 c0 l0 _ w hr0 hc0 (list_f _ (Kd.C_max hr0))
def lottery_list.f (l : List Int) : Option Bool := if l.length ≤ 9223372036854775807 then some (listS l) else none
theorem lottery_list.calls (A0 : Option Addr) (c0 : Nat) (l0 : List Int) (r : Bool) (w : World) (hr0 : Kd.C (Kd.int .i64) w A0 l0.length l0) (hc0 : l0.length ≤ c0) (h : lottery_list.f l0 = some r) :
    Calls Tryz.prog 30 #[.slice A0 l0.length c0] w fun e w' => e = .returned (.bool r) ∧ Below w.heap.size w w' := by
  unfold lottery_list.f at h
  split at h
  case isFalse => cases h
  injection h with h
  subst h
  exact list_calls A0 c0 l0 w hr0 hc0
/-- The request that a draw names. -/
def winI (l : List Int) (draw : Int) : Int := firstP (fun k => decide (sumL (l.take (k + 1)) > draw)) l.length 0
def winS (l : List Int) (draw : Int) : Int × Int := if listS l && decide (0 ≤ draw ∧ draw ≤ 719) then (winI l draw, 0) else (0, 1)
def lottery_Winner.f (l : List Int) (draw : Int) : Option (Int × Int) := some (winS l draw)
/-- What stands while the draw is sought: the cell of the sum, the cell of the draw. -/
structure WInv (bs bd : Nat) (w0 : World) (s d : Int) (W : World) : Prop where
  sum : W.heap[bs]? = some (.cells #[.int .i64 s] 3 (0, 0))
  draw : W.heap[bd]? = some (.cells #[.int .i64 d] 3 (0, 0))
  below : Below w0.heap.size w0 W
  bs0 : w0.heap.size ≤ bs
  bd0 : w0.heap.size ≤ bd
  ne : bs ≠ bd
set_option maxHeartbeats 1000000 in
theorem reached_calls (bs bd : Nat) (n s d : Int) (w0 w : World) (H : WInv bs bd w0 s d w) (hn : 0 ≤ n ∧ n ≤ 1000) (hs : 0 ≤ s ∧ s ≤ 1000000) :
    Calls Tryz.prog 32 #[.int .i64 n, .pointer (some ⟨bs, 0, none⟩), .pointer (some ⟨bd, 0, none⟩)] w fun e w' => e = .returned (.bool (decide (s + n > d))) ∧ WInv bs bd w0 (s + n) d w' := by
  have hc := cell_of_one H.sum
  have hcf := free_of_one H.sum
  have hd := cell_of_one H.draw
  have hne : ¬ bs = bd := H.ne
  have hne2 : ¬ bd = bs := fun e => hne e.symm
  have HH := Lib.hid H
  clear H
  obtain ⟨hn0, hn1⟩ := hn
  obtain ⟨hs0, hs1⟩ := hs
  have HK := Lib.hid (show WInv bs bd w0 (s + n) d (w.setCell ⟨bs, 0, none⟩ (.int .i64 (s + n))) from
    ⟨one_setCell HH.out.sum, (Below.heap_setCell w ⟨bs, 0, none⟩ (.int .i64 (s + n)) bd hne2).trans HH.out.draw, HH.out.below.setCell HH.out.bs0 _, HH.out.bs0, HH.out.bd0, HH.out.ne⟩)
  go_enter Tryz.func32, Tryz.ntmps32
  go_wp2
  go_ret
  exact ⟨rfl, HK.out⟩
theorem C_int1 (x : Int) (w : World) (T : TypeId) : Kd.C (Kd.int .i64) (w.alloc (.cells #[.int .i64 x] T)) (some ⟨w.heap.size, 0, none⟩) 1 [x] := by
  have hc : ∀ j v, (#[Value.int .i64 x] : Array Value)[j]? = some v → (w.alloc (.cells #[.int .i64 x] T)).cell? ⟨w.heap.size, j, none⟩ = some v := by
    intro j v h
    rw [World.cell?_alloc_at _ _ _ _ rfl]; exact h
  refine ⟨rfl, by decide, fun _ => ⟨_, rfl, fun j p hj => ⟨[.int .i64 p], rfl, rfl, fun i u hu => ?_⟩⟩⟩
  have hi : i = 0 := by
    rcases i with _ | i
    · rfl
    · simp at hu
  subst hi
  have hu' : u = .int .i64 p := by simpa using hu.symm
  subst hu'
  have e : (Addr.add ⟨w.heap.size, 0, none⟩ (j * (Kd.int .i64).sz + 0)) = ⟨w.heap.size, j, none⟩ := by
    unfold Addr.add
    rw [show j * (Kd.int .i64).sz + 0 = j by show j * 1 + 0 = j; omega]
    by_cases hj0 : j = 0
    · rw [if_pos hj0, hj0]
    · rw [if_neg hj0]; simp
  rw [e]
  apply hc
  rcases j with _ | j <;> simp at hj ⊢ <;> exact hj
theorem within_one (lo hi x : Int) (W : World) (T : TypeId) :
    Calls Tryz.prog 31 #[.int .i64 lo, .int .i64 hi, .slice (some ⟨W.heap.size, 0, none⟩) 1 1] (W.alloc (.cells #[.int .i64 x] T)) fun e w' => e = .returned (.bool (decide (lo ≤ x ∧ x ≤ hi))) ∧ Below W.heap.size W w' := by
  refine (lottery_within.calls lo hi (some ⟨W.heap.size, 0, none⟩) 1 [x] _ _ (C_int1 x W T) (Nat.le_refl 1) (show lottery_within.f lo hi [x] = some (decide (lo ≤ x ∧ x ≤ hi)) by unfold lottery_within.f; rw [if_pos (by simp)]; simp [inB])).mono ?_
  rintro e w' ⟨rfl, hb⟩
  exact ⟨rfl, below_step (below_alloc (Below.refl _ _) _) hb⟩
set_option maxHeartbeats 2000000 in
theorem lottery_Winner.calls (A0 : Option Addr) (c0 : Nat) (l0 : List Int) (a1 : Int) (r1 r2 : Int) (w : World) (hr0 : Kd.C (Kd.int .i64) w A0 l0.length l0) (hc0 : l0.length ≤ c0) (h : lottery_Winner.f l0 a1 = some (r1, r2)) :
    Calls Tryz.prog 14 #[.slice A0 l0.length c0, .int .i64 a1] w fun e w' => e = .returned (.tuple #[.int .i64 r1, .int .i64 r2]) ∧ Below w.heap.size w w' := by
  injection h with h
  unfold winS at h
  have hls := Lib.hid (list_calls A0 c0 l0 (w.alloc (.cells #[.int .i64 a1] 3)) (Kd.C_alloc hr0 _) hc0)
  cases hl : listS l0 with
  | false =>
    rw [hl] at h hls
    simp only [Bool.false_and, Bool.false_eq_true, if_false, Prod.mk.injEq] at h
    obtain ⟨rfl, rfl⟩ := h
    clear hl hr0
    go_enter Tryz.func14, Tryz.ntmps14
    go_wp2_with fail
    refine (hls.out).mono ?_
    rintro e w1 ⟨rfl, hb⟩
    have HB1 := Aside0.mk (below_step (below_alloc (Below.refl _ _) _) hb)
    clear hb
    go_wp2
    go_ret2
    exact ⟨rfl, HB1.out⟩
  | true =>
    rw [hl] at h hls
    have hdc : ∀ w1, Below (w.alloc (.cells #[.int .i64 a1] 3)).heap.size (w.alloc (.cells #[.int .i64 a1] 3)) w1 → w1.heap[w.heap.size]? = some (.cells #[.int .i64 a1] 3 (0, 0)) := fun w1 hb => (hb.block _ (by simp)).trans (heap_alloc_new w _)
    by_cases hd : 0 ≤ a1 ∧ a1 ≤ 719
    · rw [decide_eq_true hd] at h
      simp only [Bool.and_self, if_true, Prod.mk.injEq] at h
      obtain ⟨rfl, rfl⟩ := h
      have HWI := Lib.hid (fun W => within_one 0 719 a1 W 3)
      rw [decide_eq_true hd] at HWI
      unfold listS at hl
      simp only [Bool.and_eq_true, decide_eq_true_eq] at hl
      obtain ⟨⟨hl0, hl1⟩, hl2, hl3⟩ := hl
      have HRD := Lib.hid (fun W (hb : Below w.heap.size w W) => Kd.C_below hr0 hb)
      have HDC := Lib.hid hdc
      have HV := Lib.hid hl2
      clear hd hr0 hdc hl2 hl3
      generalize hnn : l0.length = n at *
      have HN := Lib.hid hnn
      clear hnn
      go_enter Tryz.func14, Tryz.ntmps14
      go_wp2_with fail
      refine (hls.out).mono ?_
      rintro e w1 ⟨rfl, hb⟩
      have HB1 := Aside0.mk (below_step (below_alloc (Below.refl _ _) _) hb)
      have HD1 := Lib.hid (HDC.out w1 hb)
      have hdcell := cell_of_one HD1.out
      clear hb
      go_wp2_with fail
      refine (HWI.out w1).mono ?_
      rintro e w2 ⟨rfl, hb⟩
      have HB2 := Aside0.mk (below_step HB1.out hb)
      have HD2 := Lib.hid ((hb.block _ (lt_of_block HD1.out)).trans HD1.out)
      clear hb hdcell
      have hlt2 := lt_of_block HD2.out
      have HI0 := Lib.hid (show WInv w2.heap.size w.heap.size w (sumL (l0.take 0)) a1 (w2.alloc (.cells #[.int .i64 0] 3)) from
        ⟨heap_alloc_new w2 _, (Below.heap_alloc w2 _ _ hlt2).trans HD2.out, below_alloc HB2.out _, HB2.out.size, Nat.le_refl _, by omega⟩)
      have hidx := idx_calls 32 #[.pointer (some ⟨w2.heap.size, 0, none⟩), .pointer (some ⟨w.heap.size, 0, none⟩)] (fun args w => enters_ Tryz.func32 (by kernel_rfl) rfl args w) A0 c0 l0
        (fun k => decide (sumL (l0.take (k + 1)) > a1)) (fun k W => WInv w2.heap.size w.heap.size w (sumL (l0.take k)) a1 W) (w2.alloc (.cells #[.int .i64 0] 3)) (by rw [HN.out]; omega) (fun k W hI => by rw [HN.out]; exact HRD.out W hI.below) HI0.out (fun k W hk hI => by
          have h1 := inB_iff.1 HV.out _ (ix_mem hk)
          have h2 := sum_take_bd HV.out k
          rw [HN.out] at h2
          rw [show rd l0 (k : Int) = ix l0 k by simp [rd, ix]]
          refine (reached_calls w2.heap.size w.heap.size (ix l0 k) (sumL (l0.take k)) a1 w W hI ⟨h1.1, by omega⟩ ⟨h2.1, by omega⟩).mono ?_
          rintro e W' ⟨rfl, hI'⟩
          rw [← sum_take_succ l0 hk] at hI' ⊢
          exact ⟨rfl, hI'⟩)
      rw [HN.out] at hidx
      have HIDX := Lib.hid hidx
      clear hidx
      go_wp2_with fail
      refine (HIDX.out).mono ?_
      rintro e w3 ⟨rfl, k, hI⟩
      have HB3 := Aside0.mk hI.below
      clear hI
      go_wp2
      go_ret2
      exact ⟨by rw [winI, HN.out]; rfl, HB3.out⟩
    · rw [decide_eq_false hd] at h
      simp only [Bool.and_false, Bool.false_eq_true, if_false, Prod.mk.injEq] at h
      obtain ⟨rfl, rfl⟩ := h
      have HWI := Lib.hid (fun W => within_one 0 719 a1 W 3)
      rw [decide_eq_false hd] at HWI
      have HDC := Lib.hid hdc
      clear hd hr0 hdc hl
      go_enter Tryz.func14, Tryz.ntmps14
      go_wp2_with fail
      refine (hls.out).mono ?_
      rintro e w1 ⟨rfl, hb⟩
      have HB1 := Aside0.mk (below_step (below_alloc (Below.refl _ _) _) hb)
      have hdcell := cell_of_one (HDC.out w1 hb)
      clear hb
      go_wp2_with fail
      refine (HWI.out w1).mono ?_
      rintro e w2 ⟨rfl, hb⟩
      have HB2 := Aside0.mk (below_step HB1.out hb)
      clear hb
      go_wp2
      go_ret2
      exact ⟨rfl, HB2.out⟩
end Go.Proofs.YtmapgmibbceooaaGreatDoor
end

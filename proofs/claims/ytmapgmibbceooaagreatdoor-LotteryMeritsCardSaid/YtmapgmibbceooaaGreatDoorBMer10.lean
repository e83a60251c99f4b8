/- The texts of this claim, laid together by a program of this session (bundle.py). -/
import Init
section -- LotPlain
namespace Go.Proofs.YtmapgmibbceooaaGreatDoor
set_option linter.unusedVariables false
set_option linter.unusedSimpArgs false
def ix (l : List Int) (i : Nat) : Int := l.getD i 0
theorem ix_lt {l : List Int} {i : Nat} (h : i < l.length) : ix l i = l[i] := by simp [ix, h]
theorem ix_ge {l : List Int} {i : Nat} (h : l.length ≤ i) : ix l i = 0 := by simp [ix, h]
theorem ix_set (l : List Int) (b i : Nat) (v : Int) (hb : b < l.length) : ix (l.set b v) i = if i = b then v else ix l i := by
  unfold ix
  by_cases h : i = b
  · subst h; rw [if_pos rfl]; simp [hb]
  · rw [if_neg h]; simp [List.getElem?_set, Ne.symm h]
theorem ix_cons_zero (x : Int) (l : List Int) : ix (x :: l) 0 = x := rfl
theorem ix_cons_succ (x : Int) (l : List Int) (i : Nat) : ix (x :: l) (i + 1) = ix l i := by simp [ix]
theorem ix_replicate (n i : Nat) : ix (List.replicate n 0) i = 0 := by
  unfold ix
  by_cases h : i < n
  · simp [List.getD, h]
  · simp [List.getD, List.getElem?_replicate, h]
theorem ext_ix {a b : List Int} (hl : a.length = b.length) (h : ∀ i, i < a.length → ix a i = ix b i) : a = b := by
  refine List.ext_getElem hl fun i h1 h2 => ?_
  have := h i h1
  rwa [ix_lt h1, ix_lt h2] at this
/-- The index of the first of n parties that no other one comes before. -/
def bestL (ws ss : List Int) : Nat → Nat
  | 0 => 0
  | n + 1 => if ix ws n * (ix ss (bestL ws ss n) + 1) > ix ws (bestL ws ss n) * (ix ss n + 1) then n else bestL ws ss n
def stepL (ws ss : List Int) : List Int := ss.set (bestL ws ss ws.length) (ix ss (bestL ws ss ws.length) + 1)
def runL (ws : List Int) : Nat → List Int
  | 0 => List.replicate ws.length 0
  | n + 1 => stepL ws (runL ws n)
theorem length_step (ws ss : List Int) : (stepL ws ss).length = ss.length := by simp [stepL]
theorem length_run (ws : List Int) : ∀ n, (runL ws n).length = ws.length
  | 0 => by simp [runL]
  | n + 1 => by rw [runL, length_step, length_run ws n]
theorem best_lt (ws ss : List Int) : ∀ n, 0 < n → bestL ws ss n < n
  | 0, h => absurd h (by omega)
  | n + 1, _ => by
    simp only [bestL]
    split
    · omega
    · by_cases h : 0 < n
      · have := best_lt ws ss n h; omega
      · have : n = 0 := by omega
        subst this; simp [bestL]
theorem cross_lt {a b c x y z : Int} (hx : 0 < x) (hy : 0 < y) (hz : 0 < z) (h1 : a * y ≤ b * x) (h2 : b * z < c * y) : a * z < c * x := by
  have e1 : a * y * z ≤ b * x * z := Int.mul_le_mul_of_nonneg_right h1 (by omega)
  have e2 : b * z * x < c * y * x := Int.mul_lt_mul_of_pos_right h2 hx
  have e3 : (a * z) * y < (c * x) * y := by
    have t1 : a * y * z = a * z * y := by rw [Int.mul_assoc, Int.mul_comm y z, ← Int.mul_assoc]
    have t2 : b * x * z = b * z * x := by rw [Int.mul_assoc, Int.mul_comm x z, ← Int.mul_assoc]
    have t3 : c * y * x = c * x * y := by rw [Int.mul_assoc, Int.mul_comm y x, ← Int.mul_assoc]
    omega
  exact Int.lt_of_mul_lt_mul_right e3 (by omega)
/-- No party comes before the best one; those ahead of it are strictly behind. -/
theorem best_max (ws ss : List Int) (hs : ∀ i, 0 ≤ ix ss i) : ∀ n i, i < n → ix ws i * (ix ss (bestL ws ss n) + 1) ≤ ix ws (bestL ws ss n) * (ix ss i + 1) ∧ (i < bestL ws ss n → ix ws i * (ix ss (bestL ws ss n) + 1) < ix ws (bestL ws ss n) * (ix ss i + 1))
  | 0, i, h => absurd h (by omega)
  | n + 1, i, h => by
    have ih := best_max ws ss hs n
    simp only [bestL]
    by_cases hc : ix ws n * (ix ss (bestL ws ss n) + 1) > ix ws (bestL ws ss n) * (ix ss n + 1)
    · rw [if_pos hc]
      by_cases hi : i = n
      · subst hi; exact ⟨Int.le_refl _, fun h => absurd h (by omega)⟩
      · have h1 := (ih i (by omega)).1
        have := hs i; have := hs n; have := hs (bestL ws ss n)
        have := cross_lt (by omega) (by omega) (by omega) h1 hc
        exact ⟨Int.le_of_lt this, fun _ => this⟩
    · rw [if_neg hc]
      by_cases hi : i = n
      · subst hi
        refine ⟨by omega, fun h => ?_⟩
        by_cases h0 : 0 < i
        · have := best_lt ws ss i h0; omega
        · have : i = 0 := by omega
          subst this; simp [bestL] at h
      · exact ih i (by omega)
theorem ix_step (ws ss : List Int) (hl : ss.length = ws.length) (hn : 0 < ws.length) (i : Nat) : ix (stepL ws ss) i = if i = bestL ws ss ws.length then ix ss i + 1 else ix ss i := by
  have hb := best_lt ws ss ws.length hn
  unfold stepL
  rw [ix_set _ _ _ _ (by omega)]
  by_cases h : i = bestL ws ss ws.length
  · rw [if_pos h, if_pos h, ← h]
  · rw [if_neg h, if_neg h]
theorem step_nil (ss : List Int) (hl : ss.length = 0) : stepL [] ss = ss := by
  have : ss = [] := List.length_eq_zero_iff.1 hl
  subst this; rfl
theorem run_nonneg (ws : List Int) : ∀ n i, 0 ≤ ix (runL ws n) i
  | 0, i => by rw [runL, ix_replicate]; exact Int.le_refl _
  | n + 1, i => by
    have := run_nonneg ws n i
    rw [runL]
    by_cases hn : 0 < ws.length
    · rw [ix_step _ _ (length_run ws n) hn]; split <;> omega
    · have hz : ws = [] := List.length_eq_zero_iff.1 (by omega)
      subst hz
      rw [step_nil _ (length_run _ _)]; exact this
theorem run_le (ws : List Int) : ∀ n i, ix (runL ws n) i ≤ n
  | 0, i => by rw [runL, ix_replicate]; exact Int.le_refl _
  | n + 1, i => by
    have := run_le ws n i
    rw [runL]
    by_cases hn : 0 < ws.length
    · rw [ix_step _ _ (length_run ws n) hn]; split <;> omega
    · have hz : ws = [] := List.length_eq_zero_iff.1 (by omega)
      subst hz
      rw [step_nil _ (length_run _ _)]; omega
def sumL : List Int → Int
  | [] => 0
  | x :: l => x + sumL l
theorem sumL_append (a b : List Int) : sumL (a ++ b) = sumL a + sumL b := by
  induction a with
  | nil => simp [sumL]
  | cons x a ih => simp only [List.cons_append, sumL, ih]; omega
theorem sumL_replicate (n : Nat) : sumL (List.replicate n 0) = 0 := by
  induction n with
  | zero => rfl
  | succ n ih => simp [List.replicate_succ, sumL, ih]
theorem sumL_set : ∀ (l : List Int) (b : Nat) (v : Int), b < l.length → sumL (l.set b v) = sumL l - ix l b + v
  | [], b, v, h => absurd h (by simp)
  | x :: l, 0, v, _ => by simp [sumL, ix]; omega
  | x :: l, b + 1, v, h => by
    have := sumL_set l b v (by simpa using h)
    rw [ix_cons_succ]
    simp only [List.set_cons_succ, sumL, this]; omega
theorem sum_run (ws : List Int) (hn : 0 < ws.length) : ∀ n : Nat, sumL (runL ws n) = n
  | 0 => by rw [runL, sumL_replicate]; rfl
  | n + 1 => by
    have hb := best_lt ws (runL ws n) ws.length hn
    rw [runL, stepL, sumL_set _ _ _ (by rw [length_run]; exact hb), sum_run ws hn n]; omega
/-- Lists of one length, each element no greater, one less: the sum is less. -/
theorem sum_lt : ∀ (a b : List Int), a.length = b.length → (∀ i, ix a i ≤ ix b i) → sumL a ≤ sumL b ∧ ((∃ i, ix a i < ix b i) → sumL a < sumL b)
  | [], [], _, _ => ⟨Int.le_refl _, fun ⟨i, h⟩ => absurd h (Int.lt_irrefl _)⟩
  | [], y :: b, h, _ => absurd h (by simp)
  | x :: a, [], h, _ => absurd h (by simp)
  | x :: a, y :: b, h, hle => by
    have ih := sum_lt a b (by simpa using h) (fun i => by have := hle (i + 1); rwa [ix_cons_succ, ix_cons_succ] at this)
    have h0 := hle 0
    rw [ix_cons_zero, ix_cons_zero] at h0
    refine ⟨by simp only [sumL]; omega, fun ⟨i, hi⟩ => ?_⟩
    cases i with
    | zero => rw [ix_cons_zero, ix_cons_zero] at hi; simp only [sumL]; omega
    | succ i => rw [ix_cons_succ, ix_cons_succ] at hi; have := ih.2 ⟨i, hi⟩; simp only [sumL]; omega
/-- The last seat of each party has the better quotient than the next one of every other party. -/
def Stable (ws ss : List Int) : Prop := ∀ i j, i < ws.length → j < ws.length → i ≠ j → 1 ≤ ix ss i → ix ws j * ix ss i < ix ws i * (ix ss j + 1) ∨ (ix ws j * ix ss i = ix ws i * (ix ss j + 1) ∧ i < j)
theorem stable_run (ws : List Int) (hw : ∀ i, 0 ≤ ix ws i) : ∀ n, Stable ws (runL ws n)
  | 0 => fun i j _ _ _ h => by rw [runL, ix_replicate] at h; omega
  | n + 1 => fun i j hi hj hij h1 => by
    have ih := stable_run ws hw n
    have hn : 0 < ws.length := by omega
    have hs := run_nonneg ws n
    have hmax := best_max ws (runL ws n) hs ws.length
    rw [runL] at h1 ⊢
    rw [ix_step _ _ (length_run ws n) hn] at h1 ⊢
    rw [ix_step _ _ (length_run ws n) hn]
    by_cases ei : i = bestL ws (runL ws n) ws.length
    · rw [if_pos ei, if_neg (fun h => hij (ei.trans h.symm))]
      obtain ⟨a, b⟩ := hmax j hj
      rw [← ei] at a b
      by_cases hlt : j < i
      · exact Or.inl (b hlt)
      · by_cases he : ix ws j * (ix (runL ws n) i + 1) = ix ws i * (ix (runL ws n) j + 1)
        · exact Or.inr ⟨he, by omega⟩
        · exact Or.inl (by omega)
    · rw [if_neg ei] at h1 ⊢
      by_cases ej : j = bestL ws (runL ws n) ws.length
      · rw [if_pos ej]
        have e : ix ws i * (ix (runL ws n) j + 1 + 1) = ix ws i * (ix (runL ws n) j + 1) + ix ws i := by rw [Int.mul_add, Int.mul_one]
        have := hw i
        rcases ih i j hi hj hij h1 with h | ⟨h, hl⟩
        · exact Or.inl (by omega)
        · by_cases h0 : ix ws i = 0
          · exact Or.inr ⟨by omega, hl⟩
          · exact Or.inl (by omega)
      · rw [if_neg ej]; exact ih i j hi hj hij h1
/-- Two stable lists: a party whose weight does not fall does not lose a seat to one whose weight does not rise. -/
theorem no_swap {ws ss ws' ss' : List Int} (hl : ws'.length = ws.length) (h : Stable ws ss) (h' : Stable ws' ss') (hs : ∀ i, 0 ≤ ix ss i) (hs' : ∀ i, 0 ≤ ix ss' i) (hw : ∀ i, 0 ≤ ix ws i)
    {i j : Nat} (hi : i < ws.length) (hj : j < ws.length) (a : ix ss' i < ix ss i) (b : ix ss j < ix ss' j) (c : ix ws i ≤ ix ws' i) (d : ix ws' j ≤ ix ws j) (d0 : 0 ≤ ix ws' j) : False := by
  have hij : i ≠ j := fun e => by subst e; omega
  have p := h i j hi hj hij (by have := hs' i; omega)
  have q := h' j i (by omega) (by omega) (Ne.symm hij) (by have := hs j; omega)
  have m1 : ix ws' j * (ix ss' i + 1) ≤ ix ws j * ix ss i := by
    have e1 : ix ws' j * (ix ss' i + 1) ≤ ix ws' j * ix ss i := Int.mul_le_mul_of_nonneg_left (by omega) d0
    have e2 : ix ws' j * ix ss i ≤ ix ws j * ix ss i := Int.mul_le_mul_of_nonneg_right d (hs i)
    omega
  have m2 : ix ws i * (ix ss j + 1) ≤ ix ws' i * ix ss' j := by
    have e1 : ix ws i * (ix ss j + 1) ≤ ix ws i * ix ss' j := Int.mul_le_mul_of_nonneg_left (by omega) (hw i)
    have e2 : ix ws i * ix ss' j ≤ ix ws' i * ix ss' j := Int.mul_le_mul_of_nonneg_right c (hs' j)
    omega
  rcases p with p | ⟨p, p'⟩ <;> rcases q with q | ⟨q, q'⟩ <;> omega
theorem run_mono {ws ws' : List Int} (hl : ws'.length = ws.length) (hw : ∀ i, 0 ≤ ix ws i) (hw' : ∀ i, 0 ≤ ix ws' i) (n : Nat) {i : Nat} (hi : i < ws.length) (c : ix ws i ≤ ix ws' i) (d : ∀ j, j < ws.length → j ≠ i → ix ws' j ≤ ix ws j) :
    ix (runL ws n) i ≤ ix (runL ws' n) i := by
  refine Classical.byContradiction fun hc => ?_
  have hn : 0 < ws.length := by omega
  by_cases hex : ∃ j, ix (runL ws n) j < ix (runL ws' n) j
  · obtain ⟨j, hj⟩ := hex
    have hjn : j < ws.length := by
      refine Classical.byContradiction fun hge => ?_
      rw [ix_ge (by rw [length_run]; omega), ix_ge (by rw [length_run]; omega)] at hj
      omega
    exact no_swap hl (stable_run ws hw n) (stable_run ws' hw' n) (run_nonneg ws n) (run_nonneg ws' n) hw hi hjn (by omega) hj c (d j hjn (fun e => by subst e; omega)) (hw' j)
  · have := (sum_lt (runL ws' n) (runL ws n) (by rw [length_run, length_run, hl]) (fun j => by
      refine Classical.byContradiction fun h => hex ⟨j, by omega⟩)).2 ⟨i, by omega⟩
    rw [sum_run ws hn, sum_run ws' (by omega)] at this
    omega
theorem ix_map_mul (c : Int) (ws : List Int) (i : Nat) : ix (ws.map (c * ·)) i = c * ix ws i := by
  unfold ix
  by_cases h : i < ws.length
  · simp [List.getD, h]
  · simp [List.getD, h]
theorem best_scale (c : Int) (hc : 0 < c) (ws ss : List Int) : ∀ n, bestL (ws.map (c * ·)) ss n = bestL ws ss n
  | 0 => rfl
  | n + 1 => by
    simp only [bestL, best_scale c hc ws ss n, ix_map_mul, Int.mul_assoc]
    have : (c * (ix ws n * (ix ss (bestL ws ss n) + 1)) > c * (ix ws (bestL ws ss n) * (ix ss n + 1))) ↔ (ix ws n * (ix ss (bestL ws ss n) + 1) > ix ws (bestL ws ss n) * (ix ss n + 1)) :=
      ⟨fun h => Int.lt_of_mul_lt_mul_left h (by omega), fun h => Int.mul_lt_mul_of_pos_left h hc⟩
    by_cases h : ix ws n * (ix ss (bestL ws ss n) + 1) > ix ws (bestL ws ss n) * (ix ss n + 1)
    · rw [if_pos h, if_pos (this.2 h)]
    · rw [if_neg h, if_neg (fun x => h (this.1 x))]
theorem run_scale (c : Int) (hc : 0 < c) (ws : List Int) : ∀ n, runL (ws.map (c * ·)) n = runL ws n
  | 0 => by simp [runL]
  | n + 1 => by
    rw [runL, runL, run_scale c hc ws n]
    unfold stepL
    rw [List.length_map, best_scale c hc]
end Go.Proofs.YtmapgmibbceooaaGreatDoor
end
section -- LotDeal
namespace Go.Proofs.YtmapgmibbceooaaGreatDoor
set_option linter.unusedVariables false
set_option linter.unusedSimpArgs false
set_option linter.unusedSectionVars false
theorem mem_ix {l : List Int} {o : Int} : o ∈ l ↔ ∃ k, k < l.length ∧ ix l k = o := by
  constructor
  · intro h
    obtain ⟨k, hk, e⟩ := List.getElem_of_mem h
    exact ⟨k, hk, by rw [ix_lt hk, e]⟩
  · rintro ⟨k, hk, rfl⟩
    rw [ix_lt hk]; exact List.getElem_mem hk
theorem ix_mem {l : List Int} {k : Nat} (h : k < l.length) : ix l k ∈ l := mem_ix.2 ⟨k, h, rfl⟩
/-- How many requests of the same partner lie ahead of a request. -/
def rank (owners : List Int) (k : Nat) : Nat := (owners.take k).count (ix owners k)
theorem take_snoc (l : List Int) {k : Nat} (h : k < l.length) : l.take (k + 1) = l.take k ++ [ix l k] := by
  rw [List.take_succ_eq_append_getElem h, ix_lt h]
theorem count_succ (owners : List Int) (o : Int) {k : Nat} (h : k < owners.length) : (owners.take (k + 1)).count o = (owners.take k).count o + if ix owners k = o then 1 else 0 := by
  rw [take_snoc _ h, List.count_append]
  by_cases e : ix owners k = o
  · rw [if_pos e, e, List.count_singleton_self]
  · rw [if_neg e, List.count_eq_zero_of_not_mem (l := [ix owners k]) (by simpa using fun h => e h.symm)]
theorem count_take_le (l : List Int) (o : Int) (k : Nat) : (l.take k).count o ≤ l.count o := (List.take_sublist k l).count_le o
theorem rank_lt (owners : List Int) {k : Nat} (h : k < owners.length) : rank owners k < owners.count (ix owners k) := by
  have := count_succ owners (ix owners k) h
  rw [if_pos rfl] at this
  have := count_take_le owners (ix owners k) (k + 1)
  unfold rank; omega
def dealL (sf : Int → List Int) (owners : List Int) : List Int := (List.range owners.length).map fun k => ix (sf (ix owners k)) (rank owners k)
theorem length_deal (sf : Int → List Int) (owners : List Int) : (dealL sf owners).length = owners.length := by simp [dealL]
theorem ix_deal (sf : Int → List Int) (owners : List Int) {k : Nat} (h : k < owners.length) : ix (dealL sf owners) k = ix (sf (ix owners k)) (rank owners k) := by
  rw [ix_lt (by rw [length_deal]; exact h)]; simp [dealL]
def ownM (owners merits : List Int) (o : Int) : List Int := ((owners.zip merits).filter fun p => p.1 == o).map (·.2)
theorem length_own : ∀ (owners merits : List Int) (o : Int), owners.length = merits.length → (ownM owners merits o).length = owners.count o
  | [], _, _, _ => by simp [ownM]
  | _ :: _, [], _, h => absurd h (by simp)
  | x :: owners, m :: merits, o, h => by
    have ih := length_own owners merits o (by simpa using h)
    unfold ownM at ih ⊢
    rw [List.zip_cons_cons, List.filter_cons, List.count_cons]
    by_cases e : x = o
    · simp only [beq_iff_eq, e, if_true, List.map_cons, List.length_cons, ih, BEq.rfl]
    · simp only [beq_eq_false_iff_ne.2 e, Bool.false_eq_true, if_false]; rw [ih]; simp
theorem own_append (a b : List Int) (c d : List Int) (o : Int) (h : a.length = c.length) : ownM (a ++ b) (c ++ d) o = ownM a c o ++ ownM b d o := by
  unfold ownM; rw [List.zip_append h, List.filter_append, List.map_append]
theorem own_single (x m o : Int) : ownM [x] [m] o = if x = o then [m] else [] := by
  unfold ownM
  by_cases e : x = o
  · simp [e]
  · simp [e]
theorem own_ne (ks : List Int) (ms : List Int) (o : Int) (h : o ∉ ks) : ownM ks ms o = [] := by
  unfold ownM
  rw [List.map_eq_nil_iff, List.filter_eq_nil_iff]
  intro p hp
  have := (List.of_mem_zip hp).1
  simp only [beq_iff_eq]
  intro e; subst e; exact h this
theorem own_mem {owners merits : List Int} {o x : Int} (h : x ∈ ownM owners merits o) : x ∈ merits := by
  unfold ownM at h
  obtain ⟨p, hp, rfl⟩ := List.mem_map.1 h
  exact (List.of_mem_zip (List.mem_filter.1 hp).1).2
def wts (shares owners : List Int) : List Int := (List.range shares.length).map fun (i : Nat) => if owners.contains (i : Int) then ix shares i else 0
theorem length_wts (shares owners : List Int) : (wts shares owners).length = shares.length := by simp [wts]
theorem ix_wts (shares owners : List Int) (i : Nat) : ix (wts shares owners) i = if i < shares.length ∧ (i : Int) ∈ owners then ix shares i else 0 := by
  by_cases h : i < shares.length
  · rw [ix_lt (by rw [length_wts]; exact h)]
    simp only [wts, List.getElem_map, List.getElem_range, List.contains_iff_mem, h, true_and]
  · rw [ix_ge (by rw [length_wts]; omega), if_neg (fun x => h x.1)]
def totals (shares owners : List Int) : List Int := runL (wts shares owners) 720
def seatsF (shares owners merits : List Int) (o : Int) : List Int := runL (ownM owners merits o) (ix (totals shares owners) o.toNat).toNat
def ticketsL (shares owners merits : List Int) : List Int := dealL (seatsF shares owners merits) owners
def inB (lo hi : Int) (l : List Int) : Bool := l.all fun x => decide (lo ≤ x ∧ x ≤ hi)
theorem inB_iff {lo hi : Int} {l : List Int} : inB lo hi l = true ↔ ∀ x ∈ l, lo ≤ x ∧ x ≤ hi := by simp [inB]
def okReq (shares owners merits : List Int) : Bool :=
  decide (1 ≤ shares.length ∧ shares.length ≤ 16) && (decide (owners.length ≤ 200) && (decide (owners.length = merits.length) && (inB 1 1000 shares && (inB 0 ((shares.length : Int) - 1) owners && inB 1 10000 merits))))
def ticketsS (shares owners merits : List Int) : List Int × Int := if okReq shares owners merits then (ticketsL shares owners merits, 0) else ([], 1)
structure OkReq (shares owners merits : List Int) : Prop where
  s0 : 1 ≤ shares.length
  s1 : shares.length ≤ 16
  o1 : owners.length ≤ 200
  om : owners.length = merits.length
  sh : ∀ x ∈ shares, 1 ≤ x ∧ x ≤ 1000
  ow : ∀ x ∈ owners, 0 ≤ x ∧ x ≤ (shares.length : Int) - 1
  me : ∀ x ∈ merits, 1 ≤ x ∧ x ≤ 10000
theorem okReq_iff {shares owners merits : List Int} : okReq shares owners merits = true ↔ OkReq shares owners merits := by
  unfold okReq
  simp only [Bool.and_eq_true, decide_eq_true_eq, inB_iff]
  exact ⟨fun ⟨⟨a, b⟩, c, d, e, f, g⟩ => ⟨a, b, c, d, e, f, g⟩, fun ⟨a, b, c, d, e, f, g⟩ => ⟨⟨a, b⟩, c, d, e, f, g⟩⟩
theorem length_tickets (s o m : List Int) : (ticketsL s o m).length = o.length := length_deal _ _
section
variable {shares owners merits : List Int} (V : OkReq shares owners merits)
include V
theorem wts_nonneg (i : Nat) : 0 ≤ ix (wts shares owners) i := by
  rw [ix_wts]
  by_cases h : i < shares.length ∧ (i : Int) ∈ owners
  · rw [if_pos h]; have := V.sh _ (ix_mem h.1); omega
  · rw [if_neg h]; exact Int.le_refl _
theorem wts_pos {i : Nat} (hi : i < shares.length) (h : (i : Int) ∈ owners) : 0 < ix (wts shares owners) i := by
  rw [ix_wts, if_pos ⟨hi, h⟩]; have := V.sh _ (ix_mem hi); omega
theorem owner_nat {o : Int} (h : o ∈ owners) : 0 ≤ o ∧ o.toNat < shares.length ∧ ((o.toNat : Nat) : Int) = o := by
  have := V.ow _ h; have := V.s0; omega
theorem tot_nonneg (i : Nat) : 0 ≤ ix (totals shares owners) i := run_nonneg _ _ _
end
end Go.Proofs.YtmapgmibbceooaaGreatDoor
end

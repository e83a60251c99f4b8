/- The texts of this claim, laid together by a program of this session (bundle.py). -/
import Init
section -- LotPlain
namespace Go.Proofs.YtmapgmibbceooaaGreatDoor
set_option linter.unusedVariables false
set_option linter.unusedSimpArgs false
def ix (l : List Int) (i : Nat) : Int := l.getD i 0
theorem ix_lt {l : List Int} {i : Nat} (h : i < l.length) : ix l i = l[i] := by simp [ix, h]
theorem ix_ge {l : List Int} {i : Nat} (h : l.length ≤ i) : ix l i = 0 := by simp [ix, h]
theorem ix_set (l : List Int) (b i : Nat) (v : Int) (hb : b < l.length) : ix (l.set b v) i = if i = b then v else ix l i := by
  unfold ix
  by_cases h : i = b
  · subst h; rw [if_pos rfl]; simp [hb]
  · rw [if_neg h]; simp [List.getElem?_set, Ne.symm h]
theorem ix_cons_zero (x : Int) (l : List Int) : ix (x :: l) 0 = x := rfl
theorem ix_cons_succ (x : Int) (l : List Int) (i : Nat) : ix (x :: l) (i + 1) = ix l i := by simp [ix]
theorem ix_replicate (n i : Nat) : ix (List.replicate n 0) i = 0 := by
  unfold ix
  by_cases h : i < n
  · simp [List.getD, h]
  · simp [List.getD, List.getElem?_replicate, h]
theorem ext_ix {a b : List Int} (hl : a.length = b.length) (h : ∀ i, i < a.length → ix a i = ix b i) : a = b := by
  refine List.ext_getElem hl fun i h1 h2 => ?_
  have := h i h1
  rwa [ix_lt h1, ix_lt h2] at this
/-- The index of the first of n parties that no other one comes before. -/
def bestL (ws ss : List Int) : Nat → Nat
  | 0 => 0
  | n + 1 => if ix ws n * (ix ss (bestL ws ss n) + 1) > ix ws (bestL ws ss n) * (ix ss n + 1) then n else bestL ws ss n
def stepL (ws ss : List Int) : List Int := ss.set (bestL ws ss ws.length) (ix ss (bestL ws ss ws.length) + 1)
def runL (ws : List Int) : Nat → List Int
  | 0 => List.replicate ws.length 0
  | n + 1 => stepL ws (runL ws n)
theorem length_step (ws ss : List Int) : (stepL ws ss).length = ss.length := by simp [stepL]
theorem length_run (ws : List Int) : ∀ n, (runL ws n).length = ws.length
  | 0 => by simp [runL]
  | n + 1 => by rw [runL, length_step, length_run ws n]
theorem best_lt (ws ss : List Int) : ∀ n, 0 < n → bestL ws ss n < n
  | 0, h => absurd h (by omega)
  | n + 1, _ => by
    simp only [bestL]
    split
    · omega
    · by_cases h : 0 < n
      · have := best_lt ws ss n h; omega
      · have : n = 0 := by omega
        subst this; simp [bestL]
theorem cross_lt {a b c x y z : Int} (hx : 0 < x) (hy : 0 < y) (hz : 0 < z) (h1 : a * y ≤ b * x) (h2 : b * z < c * y) : a * z < c * x := by
  have e1 : a * y * z ≤ b * x * z := Int.mul_le_mul_of_nonneg_right h1 (by omega)
  have e2 : b * z * x < c * y * x := Int.mul_lt_mul_of_pos_right h2 hx
  have e3 : (a * z) * y < (c * x) * y := by
    have t1 : a * y * z = a * z * y := by rw [Int.mul_assoc, Int.mul_comm y z, ← Int.mul_assoc]
    have t2 : b * x * z = b * z * x := by rw [Int.mul_assoc, Int.mul_comm x z, ← Int.mul_assoc]
    have t3 : c * y * x = c * x * y := by rw [Int.mul_assoc, Int.mul_comm y x, ← Int.mul_assoc]
    omega
  exact Int.lt_of_mul_lt_mul_right e3 (by omega)
/-- No party comes before the best one; those ahead of it are strictly behind. -/
theorem best_max (ws ss : List Int) (hs : ∀ i, 0 ≤ ix ss i) : ∀ n i, i < n → ix ws i * (ix ss (bestL ws ss n) + 1) ≤ ix ws (bestL ws ss n) * (ix ss i + 1) ∧ (i < bestL ws ss n → ix ws i * (ix ss (bestL ws ss n) + 1) < ix ws (bestL ws ss n) * (ix ss i + 1))
  | 0, i, h => absurd h (by omega)
  | n + 1, i, h => by
    have ih := best_max ws ss hs n
    simp only [bestL]
    by_cases hc : ix ws n * (ix ss (bestL ws ss n) + 1) > ix ws (bestL ws ss n) * (ix ss n + 1)
    · rw [if_pos hc]
      by_cases hi : i = n
      · subst hi; exact ⟨Int.le_refl _, fun h => absurd h (by omega)⟩
      · have h1 := (ih i (by omega)).1
        have := hs i; have := hs n; have := hs (bestL ws ss n)
        have := cross_lt (by omega) (by omega) (by omega) h1 hc
        exact ⟨Int.le_of_lt this, fun _ => this⟩
    · rw [if_neg hc]
      by_cases hi : i = n
      · subst hi
        refine ⟨by omega, fun h => ?_⟩
        by_cases h0 : 0 < i
        · have := best_lt ws ss i h0; omega
        · have : i = 0 := by omega
          subst this; simp [bestL] at h
      · exact ih i (by omega)
theorem ix_step (ws ss : List Int) (hl : ss.length = ws.length) (hn : 0 < ws.length) (i : Nat) : ix (stepL ws ss) i = if i = bestL ws ss ws.length then ix ss i + 1 else ix ss i := by
  have hb := best_lt ws ss ws.length hn
  unfold stepL
  rw [ix_set _ _ _ _ (by omega)]
  by_cases h : i = bestL ws ss ws.length
  · rw [if_pos h, if_pos h, ← h]
  · rw [if_neg h, if_neg h]
theorem step_nil (ss : List Int) (hl : ss.length = 0) : stepL [] ss = ss := by
  have : ss = [] := List.length_eq_zero_iff.1 hl
  subst this; rfl
theorem run_nonneg (ws : List Int) : ∀ n i, 0 ≤ ix (runL ws n) i
  | 0, i => by rw [runL, ix_replicate]; exact Int.le_refl _
  | n + 1, i => by
    have := run_nonneg ws n i
    rw [runL]
    by_cases hn : 0 < ws.length
    · rw [ix_step _ _ (length_run ws n) hn]; split <;> omega
    · have hz : ws = [] := List.length_eq_zero_iff.1 (by omega)
      subst hz
      rw [step_nil _ (length_run _ _)]; exact this
theorem run_le (ws : List Int) : ∀ n i, ix (runL ws n) i ≤ n
  | 0, i => by rw [runL, ix_replicate]; exact Int.le_refl _
  | n + 1, i => by
    have := run_le ws n i
    rw [runL]
    by_cases hn : 0 < ws.length
    · rw [ix_step _ _ (length_run ws n) hn]; split <;> omega
    · have hz : ws = [] := List.length_eq_zero_iff.1 (by omega)
      subst hz
      rw [step_nil _ (length_run _ _)]; omega
def sumL : List Int → Int
  | [] => 0
  | x :: l => x + sumL l
theorem sumL_append (a b : List Int) : sumL (a ++ b) = sumL a + sumL b := by
  induction a with
  | nil => simp [sumL]
  | cons x a ih => simp only [List.cons_append, sumL, ih]; omega
/-- A weight of 0 has no seat, if another weight is greater than 0. -/
theorem run_zero (ws : List Int) (hw : ∀ i, 0 ≤ ix ws i) {p i : Nat} (hp : 0 < ix ws p) (hi : ix ws i = 0) : ∀ n, ix (runL ws n) i = 0
  | 0 => by rw [runL, ix_replicate]
  | n + 1 => by
    have hpn : p < ws.length := Nat.lt_of_not_le fun h => by rw [ix_ge h] at hp; omega
    have hs := run_nonneg ws n
    have hmax := (best_max ws (runL ws n) hs ws.length p hpn).1
    have ih := run_zero ws hw hp hi n
    rw [runL, ix_step _ _ (length_run ws n) (by omega)]
    by_cases e : i = bestL ws (runL ws n) ws.length
    · rw [← e, hi, Int.zero_mul] at hmax
      have : 0 < ix ws p * (ix (runL ws n) i + 1) := Int.mul_pos hp (by have := hs i; omega)
      omega
    · rw [if_neg e]; exact ih
/-- The best one has a weight, if one has. -/
theorem best_pos (ws : List Int) {p : Nat} (hp : 0 < ix ws p) (n : Nat) : 0 < ix ws (bestL ws (runL ws n) ws.length) := by
  have hpn : p < ws.length := Nat.lt_of_not_le fun h => by rw [ix_ge h] at hp; omega
  have hs := run_nonneg ws n
  have hmax := (best_max ws (runL ws n) hs ws.length p hpn).1
  have h1 : 0 < ix ws p * (ix (runL ws n) (bestL ws (runL ws n) ws.length) + 1) := Int.mul_pos hp (by have := hs (bestL ws (runL ws n) ws.length); omega)
  have h2 := hs p
  exact Int.pos_of_mul_pos_left (a := ix ws (bestL ws (runL ws n) ws.length)) (b := ix (runL ws n) p + 1) (by omega) (by omega)
end Go.Proofs.YtmapgmibbceooaaGreatDoor
end
section -- LotDeal
namespace Go.Proofs.YtmapgmibbceooaaGreatDoor
set_option linter.unusedVariables false
set_option linter.unusedSimpArgs false
set_option linter.unusedSectionVars false
theorem mem_ix {l : List Int} {o : Int} : o ∈ l ↔ ∃ k, k < l.length ∧ ix l k = o := by
  constructor
  · intro h
    obtain ⟨k, hk, e⟩ := List.getElem_of_mem h
    exact ⟨k, hk, by rw [ix_lt hk, e]⟩
  · rintro ⟨k, hk, rfl⟩
    rw [ix_lt hk]; exact List.getElem_mem hk
theorem ix_mem {l : List Int} {k : Nat} (h : k < l.length) : ix l k ∈ l := mem_ix.2 ⟨k, h, rfl⟩
/-- How many requests of the same partner lie ahead of a request. -/
def rank (owners : List Int) (k : Nat) : Nat := (owners.take k).count (ix owners k)
theorem take_snoc (l : List Int) {k : Nat} (h : k < l.length) : l.take (k + 1) = l.take k ++ [ix l k] := by
  rw [List.take_succ_eq_append_getElem h, ix_lt h]
theorem count_succ (owners : List Int) (o : Int) {k : Nat} (h : k < owners.length) : (owners.take (k + 1)).count o = (owners.take k).count o + if ix owners k = o then 1 else 0 := by
  rw [take_snoc _ h, List.count_append]
  by_cases e : ix owners k = o
  · rw [if_pos e, e, List.count_singleton_self]
  · rw [if_neg e, List.count_eq_zero_of_not_mem (l := [ix owners k]) (by simpa using fun h => e h.symm)]
theorem count_take_le (l : List Int) (o : Int) (k : Nat) : (l.take k).count o ≤ l.count o := (List.take_sublist k l).count_le o
theorem rank_lt (owners : List Int) {k : Nat} (h : k < owners.length) : rank owners k < owners.count (ix owners k) := by
  have := count_succ owners (ix owners k) h
  rw [if_pos rfl] at this
  have := count_take_le owners (ix owners k) (k + 1)
  unfold rank; omega
def dealL (sf : Int → List Int) (owners : List Int) : List Int := (List.range owners.length).map fun k => ix (sf (ix owners k)) (rank owners k)
theorem length_deal (sf : Int → List Int) (owners : List Int) : (dealL sf owners).length = owners.length := by simp [dealL]
theorem ix_deal (sf : Int → List Int) (owners : List Int) {k : Nat} (h : k < owners.length) : ix (dealL sf owners) k = ix (sf (ix owners k)) (rank owners k) := by
  rw [ix_lt (by rw [length_deal]; exact h)]; simp [dealL]
def ownM (owners merits : List Int) (o : Int) : List Int := ((owners.zip merits).filter fun p => p.1 == o).map (·.2)
theorem length_own : ∀ (owners merits : List Int) (o : Int), owners.length = merits.length → (ownM owners merits o).length = owners.count o
  | [], _, _, _ => by simp [ownM]
  | _ :: _, [], _, h => absurd h (by simp)
  | x :: owners, m :: merits, o, h => by
    have ih := length_own owners merits o (by simpa using h)
    unfold ownM at ih ⊢
    rw [List.zip_cons_cons, List.filter_cons, List.count_cons]
    by_cases e : x = o
    · simp only [beq_iff_eq, e, if_true, List.map_cons, List.length_cons, ih, BEq.rfl]
    · simp only [beq_eq_false_iff_ne.2 e, Bool.false_eq_true, if_false]; rw [ih]; simp
theorem own_append (a b : List Int) (c d : List Int) (o : Int) (h : a.length = c.length) : ownM (a ++ b) (c ++ d) o = ownM a c o ++ ownM b d o := by
  unfold ownM; rw [List.zip_append h, List.filter_append, List.map_append]
theorem own_single (x m o : Int) : ownM [x] [m] o = if x = o then [m] else [] := by
  unfold ownM
  by_cases e : x = o
  · simp [e]
  · simp [e]
theorem own_ne (ks : List Int) (ms : List Int) (o : Int) (h : o ∉ ks) : ownM ks ms o = [] := by
  unfold ownM
  rw [List.map_eq_nil_iff, List.filter_eq_nil_iff]
  intro p hp
  have := (List.of_mem_zip hp).1
  simp only [beq_iff_eq]
  intro e; subst e; exact h this
theorem own_mem {owners merits : List Int} {o x : Int} (h : x ∈ ownM owners merits o) : x ∈ merits := by
  unfold ownM at h
  obtain ⟨p, hp, rfl⟩ := List.mem_map.1 h
  exact (List.of_mem_zip (List.mem_filter.1 hp).1).2
def wts (shares owners : List Int) : List Int := (List.range shares.length).map fun (i : Nat) => if owners.contains (i : Int) then ix shares i else 0
theorem length_wts (shares owners : List Int) : (wts shares owners).length = shares.length := by simp [wts]
theorem ix_wts (shares owners : List Int) (i : Nat) : ix (wts shares owners) i = if i < shares.length ∧ (i : Int) ∈ owners then ix shares i else 0 := by
  by_cases h : i < shares.length
  · rw [ix_lt (by rw [length_wts]; exact h)]
    simp only [wts, List.getElem_map, List.getElem_range, List.contains_iff_mem, h, true_and]
  · rw [ix_ge (by rw [length_wts]; omega), if_neg (fun x => h x.1)]
def totals (shares owners : List Int) : List Int := runL (wts shares owners) 720
def seatsF (shares owners merits : List Int) (o : Int) : List Int := runL (ownM owners merits o) (ix (totals shares owners) o.toNat).toNat
def ticketsL (shares owners merits : List Int) : List Int := dealL (seatsF shares owners merits) owners
def inB (lo hi : Int) (l : List Int) : Bool := l.all fun x => decide (lo ≤ x ∧ x ≤ hi)
theorem inB_iff {lo hi : Int} {l : List Int} : inB lo hi l = true ↔ ∀ x ∈ l, lo ≤ x ∧ x ≤ hi := by simp [inB]
def okReq (shares owners merits : List Int) : Bool :=
  decide (1 ≤ shares.length ∧ shares.length ≤ 16) && (decide (owners.length ≤ 200) && (decide (owners.length = merits.length) && (inB 1 1000 shares && (inB 0 ((shares.length : Int) - 1) owners && inB 1 10000 merits))))
def ticketsS (shares owners merits : List Int) : List Int × Int := if okReq shares owners merits then (ticketsL shares owners merits, 0) else ([], 1)
structure OkReq (shares owners merits : List Int) : Prop where
  s0 : 1 ≤ shares.length
  s1 : shares.length ≤ 16
  o1 : owners.length ≤ 200
  om : owners.length = merits.length
  sh : ∀ x ∈ shares, 1 ≤ x ∧ x ≤ 1000
  ow : ∀ x ∈ owners, 0 ≤ x ∧ x ≤ (shares.length : Int) - 1
  me : ∀ x ∈ merits, 1 ≤ x ∧ x ≤ 10000
theorem okReq_iff {shares owners merits : List Int} : okReq shares owners merits = true ↔ OkReq shares owners merits := by
  unfold okReq
  simp only [Bool.and_eq_true, decide_eq_true_eq, inB_iff]
  exact ⟨fun ⟨⟨a, b⟩, c, d, e, f, g⟩ => ⟨a, b, c, d, e, f, g⟩, fun ⟨a, b, c, d, e, f, g⟩ => ⟨⟨a, b⟩, c, d, e, f, g⟩⟩
theorem length_tickets (s o m : List Int) : (ticketsL s o m).length = o.length := length_deal _ _
section
variable {shares owners merits : List Int} (V : OkReq shares owners merits)
include V
theorem wts_nonneg (i : Nat) : 0 ≤ ix (wts shares owners) i := by
  rw [ix_wts]
  by_cases h : i < shares.length ∧ (i : Int) ∈ owners
  · rw [if_pos h]; have := V.sh _ (ix_mem h.1); omega
  · rw [if_neg h]; exact Int.le_refl _
theorem wts_pos {i : Nat} (hi : i < shares.length) (h : (i : Int) ∈ owners) : 0 < ix (wts shares owners) i := by
  rw [ix_wts, if_pos ⟨hi, h⟩]; have := V.sh _ (ix_mem hi); omega
theorem owner_nat {o : Int} (h : o ∈ owners) : 0 ≤ o ∧ o.toNat < shares.length ∧ ((o.toNat : Nat) : Int) = o := by
  have := V.ow _ h; have := V.s0; omega
theorem tot_nonneg (i : Nat) : 0 ≤ ix (totals shares owners) i := run_nonneg _ _ _
theorem length_seats {o : Int} : (seatsF shares owners merits o).length = owners.count o := by
  unfold seatsF; rw [length_run, length_own _ _ _ V.om]
end
end Go.Proofs.YtmapgmibbceooaaGreatDoor
end

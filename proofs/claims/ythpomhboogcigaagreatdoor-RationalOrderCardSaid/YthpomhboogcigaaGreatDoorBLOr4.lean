/- The texts of this claim, laid together by a program of this session (bundle.py). -/
import Init
section -- NatPlain
namespace Go.Proofs.YthpomhboogcigaaGreatDoor
/-- 1000000000 to the n. -/
def bp : Nat → Int
  | 0 => 1
  | n + 1 => 1000000000 * bp n
theorem bp_pos : ∀ n, 0 < bp n
  | 0 => by decide
  | n + 1 => by have := bp_pos n; unfold bp; omega
theorem bp_add (m : Nat) : ∀ n, bp (m + n) = bp m * bp n
  | 0 => by simp [bp]
  | n + 1 => by
    show 1000000000 * bp (m + n) = bp m * (1000000000 * bp n)
    rw [bp_add m n]; grind
theorem bp_mono {m n : Nat} (h : m ≤ n) : bp m ≤ bp n := by
  induction n with
  | zero => have : m = 0 := by omega
            subst this; exact Int.le_refl _
  | succ n ih =>
    by_cases e : m = n + 1
    · subst e; exact Int.le_refl _
    · have := ih (by omega)
      have := bp_pos n
      show _ ≤ 1000000000 * bp n
      omega
/-- The value of limbs, the least one first. -/
def lv : List Int → Int
  | [] => 0
  | x :: r => x + 1000000000 * lv r
theorem lv_cons (x : Int) (r : List Int) : lv (x :: r) = x + 1000000000 * lv r := rfl
theorem lv_append (a b : List Int) : lv (a ++ b) = lv a + bp a.length * lv b := by
  induction a with
  | nil => simp [lv, bp]
  | cons x a ih => simp only [List.cons_append, lv, List.length_cons, bp, ih]; grind
theorem lv_replicate (n : Nat) : lv (List.replicate n 0) = 0 := by
  induction n with
  | zero => rfl
  | succ n ih => simp [List.replicate_succ, lv, ih]
def Good (l : List Int) : Prop := ∀ x ∈ l, 0 ≤ x ∧ x < 1000000000
theorem Good.tail {x : Int} {l : List Int} (h : Good (x :: l)) : Good l := fun y hy => h y (List.mem_cons_of_mem _ hy)
theorem lv_nonneg {l : List Int} (h : Good l) : 0 ≤ lv l := by
  induction l with
  | nil => exact Int.le_refl _
  | cons x l ih => have := ih h.tail; have := h x List.mem_cons_self; unfold lv; omega
theorem lv_lt {l : List Int} (h : Good l) : lv l < bp l.length := by
  induction l with
  | nil => decide
  | cons x l ih => have := ih h.tail; have := h x List.mem_cons_self; simp only [lv, List.length_cons, bp]; omega
theorem Good.append {a b : List Int} (ha : Good a) (hb : Good b) : Good (a ++ b) := fun x hx => (List.mem_append.1 hx).elim (ha x) (hb x)
theorem Good.take {a : List Int} (ha : Good a) (n : Nat) : Good (a.take n) := fun x hx => ha x (List.mem_of_mem_take hx)
theorem Good.zeros (n : Nat) : Good (List.replicate n 0) := fun x hx => by rw [(List.mem_replicate.1 hx).2]; decide
/-- The canonical limbs of a number. -/
def limbs (m : Nat) : List Int := if h : m = 0 then [] else ((m % 1000000000 : Nat) : Int) :: limbs (m / 1000000000)
termination_by m
decreasing_by omega
theorem limbs_zero : limbs 0 = [] := by rw [limbs]; rfl
theorem limbs_pos {m : Nat} (h : m ≠ 0) : limbs m = ((m % 1000000000 : Nat) : Int) :: limbs (m / 1000000000) := by rw [limbs, dif_neg h]
theorem limbs_nil {m : Nat} : limbs m = [] ↔ m = 0 := by
  constructor
  · intro h
    by_cases e : m = 0
    · exact e
    · rw [limbs_pos e] at h; exact absurd h (by simp)
  · rintro rfl; exact limbs_zero
theorem limbs_good (m : Nat) : Good (limbs m) := by
  induction m using Nat.strongRecOn with
  | _ m ih =>
    by_cases e : m = 0
    · subst e; rw [limbs_zero]; exact fun x hx => absurd hx (by simp)
    · rw [limbs_pos e]
      intro x hx
      rcases List.mem_cons.1 hx with rfl | hx
      · omega
      · exact ih _ (by omega) x hx
theorem lv_limbs (m : Nat) : lv (limbs m) = m := by
  induction m using Nat.strongRecOn with
  | _ m ih =>
    by_cases e : m = 0
    · subst e; rw [limbs_zero]; rfl
    · rw [limbs_pos e]; unfold lv; rw [ih _ (by omega)]; omega
theorem limbs_lt (m : Nat) : (m : Int) < bp (limbs m).length := by
  have := lv_lt (limbs_good m)
  rwa [lv_limbs] at this
theorem limbs_length_le {m n : Nat} (h : (m : Int) < bp n) : (limbs m).length ≤ n := by
  induction n generalizing m with
  | zero => have : m = 0 := by unfold bp at h; omega
            subst this; rw [limbs_zero]; exact Nat.le_refl _
  | succ n ih =>
    by_cases e : m = 0
    · subst e; rw [limbs_zero]; exact Nat.zero_le _
    · rw [limbs_pos e]
      have := ih (m := m / 1000000000) (by unfold bp at h; omega)
      simp only [List.length_cons]; omega
theorem limbs_ge {m : Nat} (h : m ≠ 0) : bp ((limbs m).length - 1) ≤ m := by
  induction m using Nat.strongRecOn with
  | _ m ih =>
    rw [limbs_pos h]
    simp only [List.length_cons, Nat.add_sub_cancel]
    by_cases e : m / 1000000000 = 0
    · rw [e, limbs_zero]; show bp 0 ≤ _; unfold bp; omega
    · have := ih (m / 1000000000) (by omega) e
      have hl : (limbs (m / 1000000000)).length = ((limbs (m / 1000000000)).length - 1) + 1 := by
        have : (limbs (m / 1000000000)).length ≠ 0 := by
          intro z; exact e (limbs_nil.1 (List.length_eq_zero_iff.1 z))
        omega
      rw [hl]; unfold bp; omega
/-- Limbs without zeros at the end. -/
def trimZ : List Int → List Int
  | [] => []
  | x :: r => if x = 0 ∧ trimZ r = [] then [] else x :: trimZ r
theorem trimZ_limbs {l : List Int} (h : Good l) : trimZ l = limbs (lv l).toNat := by
  induction l with
  | nil => simp [trimZ, lv, limbs_zero]
  | cons x r ih =>
    have h0 := ih h.tail
    have hr := lv_nonneg h.tail
    have hx := h x List.mem_cons_self
    unfold trimZ
    rw [h0]
    by_cases e : x = 0 ∧ (lv r).toNat = 0
    · rw [if_pos ⟨e.1, limbs_nil.2 e.2⟩]
      have : (lv (x :: r)).toNat = 0 := by rw [lv_cons]; omega
      rw [this, limbs_zero]
    · rw [if_neg (fun z => e ⟨z.1, limbs_nil.1 z.2⟩)]
      have hn : (lv (x :: r)).toNat ≠ 0 := by rw [lv_cons]; omega
      rw [limbs_pos hn]
      have e1 : (lv (x :: r)).toNat % 1000000000 = x.toNat := by rw [lv_cons]; omega
      have e2 : (lv (x :: r)).toNat / 1000000000 = (lv r).toNat := by rw [lv_cons]; omega
      rw [e1, e2]
      congr 1; omega
theorem trimZ_snoc_zero (l : List Int) : trimZ (l ++ [0]) = trimZ l := by
  induction l with
  | nil => simp [trimZ]
  | cons x l ih => simp only [List.cons_append, trimZ, ih]
theorem trimZ_snoc (l : List Int) {x : Int} (hx : x ≠ 0) : trimZ (l ++ [x]) = l ++ [x] := by
  induction l with
  | nil => simp [trimZ, hx]
  | cons y l ih => simp only [List.cons_append, trimZ, ih]; simp
theorem trimZ_limbs_self (m : Nat) : trimZ (limbs m) = limbs m := by rw [trimZ_limbs (limbs_good m), lv_limbs]; simp
/-- What is carried into place k. -/
def car (f : Nat → Int) : Nat → Int
  | 0 => 0
  | k + 1 => (f k + car f k) / 1000000000
/-- The limb at place k. -/
def dg (f : Nat → Int) (k : Nat) : Int := (f k + car f k) % 1000000000
/-- n limbs, the first k of which are laid. -/
def rowAt (f : Nat → Int) (n k : Nat) : List Int := (List.range n).map fun i => if i < k then dg f i else 0
theorem rowAt_length (f : Nat → Int) (n k : Nat) : (rowAt f n k).length = n := by simp [rowAt]
theorem rowAt_zero (f : Nat → Int) (n : Nat) : rowAt f n 0 = List.replicate n 0 := by
  apply List.ext_getElem (by simp [rowAt])
  intro i h1 h2; simp [rowAt]
theorem rowAt_succ (f : Nat → Int) (n k : Nat) : (rowAt f n k).set k (dg f k) = rowAt f n (k + 1) := by
  apply List.ext_getElem (by simp [rowAt])
  intro i h1 h2
  rw [List.getElem_set]
  simp only [rowAt, List.getElem_map, List.getElem_range]
  by_cases e : k = i
  · subst e; rw [if_pos rfl, if_pos (by omega)]
  · rw [if_neg e]
    by_cases h : i < k
    · rw [if_pos h, if_pos (by omega)]
    · rw [if_neg h, if_neg (by omega)]
theorem rowAt_all (f : Nat → Int) (n : Nat) : rowAt f n n = (List.range n).map (dg f) := by
  apply List.map_congr_left
  intro i hi
  rw [if_pos (List.mem_range.1 hi)]
theorem car_bd {f : Nat → Int} (hf : ∀ i, -1000000000000000000 ≤ f i ∧ f i ≤ 1000000000000000000) : ∀ k, -2000000000 ≤ car f k ∧ car f k ≤ 2000000000
  | 0 => by simp [car]
  | k + 1 => by have := car_bd hf k; have := hf k; unfold car; omega
theorem dg_good (f : Nat → Int) (n : Nat) : Good ((List.range n).map (dg f)) := by
  intro x hx
  obtain ⟨i, _, rfl⟩ := List.mem_map.1 hx
  unfold dg; omega
theorem dg_value (f : Nat → Int) (n : Nat) : lv ((List.range n).map (dg f)) + bp n * car f n = lv ((List.range n).map f) := by
  induction n with
  | zero => simp [lv, car]
  | succ n ih =>
    rw [List.range_succ, List.map_append, List.map_append, lv_append, lv_append, ← ih]
    simp only [List.map_cons, List.map_nil, lv, List.length_map, List.length_range, bp, car, dg]
    have e := Int.mul_ediv_add_emod (f n + car f n) 1000000000
    generalize (f n + car f n) / 1000000000 = q at *
    generalize (f n + car f n) % 1000000000 = r at *
    generalize lv ((List.range n).map (dg f)) = A at *
    have : f n = 1000000000 * q + r - car f n := by omega
    rw [this]
    grind
theorem coll_limbs (f : Nat → Int) (n : Nat) (h0 : 0 ≤ lv ((List.range n).map f)) (h1 : lv ((List.range n).map f) < bp n) :
    trimZ ((List.range n).map (dg f)) = limbs (lv ((List.range n).map f)).toNat := by
  have v := dg_value f n
  have g := dg_good f n
  have l0 := lv_nonneg g
  have l1 := lv_lt g
  rw [List.length_map, List.length_range] at l1
  have hc : car f n = 0 := by
    have hp := bp_pos n
    rcases Int.lt_trichotomy (car f n) 0 with h | h | h
    · have : bp n * car f n ≤ bp n * (-1) := Int.mul_le_mul_of_nonneg_left (by omega) (by omega)
      omega
    · exact h
    · have : bp n * 1 ≤ bp n * car f n := Int.mul_le_mul_of_nonneg_left (by omega) (by omega)
      omega
  rw [hc] at v
  rw [trimZ_limbs g]
  congr 2; omega
/-- Limb i of l; 0 beyond the last one. -/
def at0 (l : List Int) (i : Nat) : Int := l.getD i 0
theorem lv_at0 (l : List Int) : ∀ n, l.length ≤ n → lv ((List.range n).map (at0 l)) = lv l := by
  induction l with
  | nil =>
    intro n _
    have : (List.range n).map (at0 []) = List.replicate n 0 := by
      apply List.ext_getElem (by simp)
      intro i h1 h2; simp [at0]
    rw [this, lv_replicate]; rfl
  | cons x l ih =>
    intro n hn
    obtain ⟨n, rfl⟩ : ∃ m, n = m + 1 := ⟨n - 1, by simp at hn; omega⟩
    rw [List.range_succ_eq_map, List.map_cons, List.map_map]
    have : (List.range n).map (at0 (x :: l) ∘ Nat.succ) = (List.range n).map (at0 l) := by
      apply List.map_congr_left
      intro i _; simp [at0]
    rw [this]
    show at0 (x :: l) 0 + _ = _
    rw [ih n (by simp at hn; omega)]
    simp [at0, lv]
theorem lv_map_add (f g : Nat → Int) (n : Nat) : lv ((List.range n).map fun i => f i + g i) = lv ((List.range n).map f) + lv ((List.range n).map g) := by
  induction n with
  | zero => rfl
  | succ n ih =>
    simp only [List.range_succ, List.map_append, lv_append, ih, List.map_cons, List.map_nil, lv, List.length_map, List.length_range]
    grind
theorem lv_map_sub (f g : Nat → Int) (n : Nat) : lv ((List.range n).map fun i => f i - g i) = lv ((List.range n).map f) - lv ((List.range n).map g) := by
  induction n with
  | zero => rfl
  | succ n ih =>
    simp only [List.range_succ, List.map_append, lv_append, ih, List.map_cons, List.map_nil, lv, List.length_map, List.length_range]
    grind
theorem lv_map_mul (q : Int) (f : Nat → Int) (n : Nat) : lv ((List.range n).map fun i => q * f i) = q * lv ((List.range n).map f) := by
  induction n with
  | zero => simp [lv]
  | succ n ih =>
    simp only [List.range_succ, List.map_append, lv_append, ih, List.map_cons, List.map_nil, lv, List.length_map, List.length_range]
    grind
theorem at0_good {l : List Int} (h : Good l) (i : Nat) : 0 ≤ at0 l i ∧ at0 l i < 1000000000 := by
  unfold at0
  rw [List.getD_eq_getElem?_getD]
  by_cases e : i < l.length
  · rw [List.getElem?_eq_getElem e]; exact h _ (List.getElem_mem e)
  · rw [List.getElem?_eq_none (by omega)]; decide
/-- More places than limbs: nothing is lost; fewer: only if what is left out is zero. -/
theorem lv_at0_short {l : List Int} (h : Good l) (n : Nat) (hv : lv l < bp n) : lv ((List.range n).map (at0 l)) = lv l := by
  by_cases hn : l.length ≤ n
  · exact lv_at0 l n hn
  · have hs : l = l.take n ++ l.drop n := (List.take_append_drop n l).symm
    have e1 : (List.range n).map (at0 l) = l.take n := by
      apply List.ext_getElem (by simp; omega)
      intro i h1 h2
      simp only [List.length_map, List.length_range] at h1
      simp [at0, List.getElem?_eq_getElem (show i < l.length by omega)]
    have hl : lv l = lv (l.take n) + bp n * lv (l.drop n) := by
      conv => lhs; rw [hs]
      rw [lv_append, List.length_take, Nat.min_eq_left (by omega)]
    have hg : Good (l.drop n) := fun x hx => h x (List.mem_of_mem_drop hx)
    have h0 := lv_nonneg hg
    have ht := lv_nonneg (h.take n)
    have : lv (l.drop n) = 0 := by
      rcases Int.lt_trichotomy (lv (l.drop n)) 0 with z | z | z
      · omega
      · exact z
      · have : bp n * 1 ≤ bp n * lv (l.drop n) := Int.mul_le_mul_of_nonneg_left (by omega) (by have := bp_pos n; omega)
        omega
    rw [e1, hl, this]; simp
def goodB (l : List Int) : Bool := l.all fun x => decide (0 ≤ x ∧ x < 1000000000)
theorem goodB_iff {l : List Int} : goodB l = true ↔ Good l := by simp [goodB, Good]
/-- A row that may be handed to the operations. -/
def okB (l : List Int) : Bool := goodB l && decide (l.length ≤ 1000000)
theorem okB_iff {l : List Int} : okB l = true ↔ Good l ∧ l.length ≤ 1000000 := by simp [okB, goodB_iff]
def natural_limbs_add.f (a b : List Int) : Option (List Int) := if okB a && okB b then some (limbs (lv a + lv b).toNat) else none
def natural_limbs_sub.f (a b : List Int) : Option (List Int) := if okB a && okB b && decide (lv b ≤ lv a) then some (limbs (lv a - lv b).toNat) else none
def natural_limbs_times.f (a : List Int) (q : Int) : Option (List Int) := if okB a && decide (0 ≤ q ∧ q < 1000000000) then some (limbs (q * lv a).toNat) else none
end Go.Proofs.YthpomhboogcigaaGreatDoor
end

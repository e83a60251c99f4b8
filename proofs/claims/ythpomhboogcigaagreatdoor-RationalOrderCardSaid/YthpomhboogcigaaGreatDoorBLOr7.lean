/- The texts of this claim, laid together by a program of this session (bundle.py). -/
import Derived.Test.YthpomhboogcigaaGreatDoorBLOr4
import Derived.Lib.ItoaNum
import Derived.Lib.AtoiAll
import Derived.Lib.SlTrimSet
import Derived.Lib.Repeat
section -- NatDec
namespace Go.Proofs.YthpomhboogcigaaGreatDoor
def isDig (c : UInt8) : Bool := decide (48 ≤ c.toNat ∧ c.toNat ≤ 57)
/-- 10 to the n. -/
def tp : Nat → Nat
  | 0 => 1
  | n + 1 => 10 * tp n
theorem tp_pos : ∀ n, 0 < tp n
  | 0 => by decide
  | n + 1 => by have := tp_pos n; unfold tp; omega
theorem tp_add (m : Nat) : ∀ n, tp (m + n) = tp m * tp n
  | 0 => by simp [tp]
  | n + 1 => by
    show 10 * tp (m + n) = tp m * (10 * tp n)
    rw [tp_add m n]; grind
theorem tp_mono {m n : Nat} (h : m ≤ n) : tp m ≤ tp n := by
  induction n with
  | zero => have : m = 0 := by omega
            subst this; exact Nat.le_refl _
  | succ n ih =>
    by_cases e : m = n + 1
    · subst e; exact Nat.le_refl _
    · have := ih (by omega)
      show _ ≤ 10 * tp n
      omega
theorem tp_lt {m n : Nat} (h : tp m < tp n) : m < n := by
  by_cases e : m < n
  · exact e
  · have := tp_mono (show n ≤ m by omega); omega
/-- The number that digits spell. -/
def num : List UInt8 → Nat
  | [] => 0
  | c :: r => (c.toNat - 48) * tp r.length + num r
theorem num_nil : num [] = 0 := rfl
theorem num_cons (c : UInt8) (r : List UInt8) : num (c :: r) = (c.toNat - 48) * tp r.length + num r := rfl
theorem num_append (a b : List UInt8) : num (a ++ b) = num a * tp b.length + num b := by
  induction a with
  | nil => rw [num_nil]; simp
  | cons c a ih => rw [List.cons_append, num_cons, num_cons, ih, List.length_append, tp_add]; grind
theorem num_lt {l : List UInt8} (h : ∀ c ∈ l, isDig c = true) : num l < tp l.length := by
  induction l with
  | nil => decide
  | cons c r ih =>
    have h0 := ih (fun x hx => h x (List.mem_cons_of_mem _ hx))
    have hc := h c List.mem_cons_self
    simp only [isDig, decide_eq_true_eq] at hc
    rw [num_cons, List.length_cons]
    have : (c.toNat - 48) * tp r.length ≤ 9 * tp r.length := Nat.mul_le_mul_right _ (by omega)
    show _ < 10 * tp r.length
    omega
/-- Digits of one length that spell one number are the same. -/
theorem num_inj {a b : List UInt8} (ha : ∀ c ∈ a, isDig c = true) (hb : ∀ c ∈ b, isDig c = true) (hl : a.length = b.length) (h : num a = num b) : a = b := by
  induction a generalizing b with
  | nil => exact (List.length_eq_zero_iff.1 hl.symm).symm
  | cons x a ih =>
    cases b with
    | nil => simp at hl
    | cons y b =>
      have hl' : a.length = b.length := by simpa using hl
      rw [num_cons, num_cons, hl'] at h
      have ua := num_lt (l := a) (fun c hc => ha c (List.mem_cons_of_mem _ hc))
      have ub := num_lt (l := b) (fun c hc => hb c (List.mem_cons_of_mem _ hc))
      rw [hl'] at ua
      have hx := ha x List.mem_cons_self
      have hy := hb y List.mem_cons_self
      simp only [isDig, decide_eq_true_eq] at hx hy
      have e1 : x.toNat - 48 = y.toNat - 48 := by
        have d1 : ((x.toNat - 48) * tp b.length + num a) / tp b.length = x.toNat - 48 := by
          rw [Nat.mul_comm, Nat.mul_add_div (tp_pos _), Nat.div_eq_of_lt ua]; rfl
        have d2 : ((y.toNat - 48) * tp b.length + num b) / tp b.length = y.toNat - 48 := by
          rw [Nat.mul_comm, Nat.mul_add_div (tp_pos _), Nat.div_eq_of_lt ub]; rfl
        rw [h, d2] at d1
        exact d1.symm
      have e2 : num a = num b := by rw [e1] at h; omega
      rw [ih (fun c hc => ha c (List.mem_cons_of_mem _ hc)) (fun c hc => hb c (List.mem_cons_of_mem _ hc)) hl' e2]
      congr 1
      exact UInt8.toNat_inj.1 (by omega)
/-- A natural number's string. -/
def validL (l : List UInt8) : Bool := decide (1 ≤ l.length) && decide (l.length ≤ 1000) && l.all isDig && (!(l.head? == some 48) || decide (l.length = 1))
theorem validL_iff {l : List UInt8} : validL l = true ↔ 1 ≤ l.length ∧ l.length ≤ 1000 ∧ (∀ c ∈ l, isDig c = true) ∧ (l.head? ≠ some 48 ∨ l.length = 1) := by
  unfold validL
  simp only [Bool.and_eq_true, Bool.or_eq_true, decide_eq_true_eq, List.all_eq_true, Bool.not_eq_true', beq_eq_false_iff_ne, ne_eq]
  constructor
  · rintro ⟨⟨⟨a, b⟩, c⟩, d⟩; exact ⟨a, b, c, d⟩
  · rintro ⟨a, b, c, d⟩; exact ⟨⟨⟨a, b⟩, c⟩, d⟩
open Go.Lib (decDigits decDigits_length nDigits)
theorem dec_small {n : Nat} (h : n < 10) : decDigits n = [UInt8.ofNat (48 + n)] := by rw [decDigits, dif_pos h]
theorem dec_big {n : Nat} (h : ¬ n < 10) : decDigits n = decDigits (n / 10) ++ [UInt8.ofNat (48 + n % 10)] := by rw [decDigits, dif_neg h]
theorem dig_nat {d : Nat} (h : d < 10) : (UInt8.ofNat (48 + d)).toNat = 48 + d := by
  rw [UInt8.toNat_ofNat']; omega
theorem dec_ne (n : Nat) : decDigits n ≠ [] := by
  by_cases h : n < 10
  · rw [dec_small h]; simp
  · rw [dec_big h]; simp
theorem dec_digits (n : Nat) : ∀ c ∈ decDigits n, isDig c = true := by
  induction n using Nat.strongRecOn with
  | _ n ih =>
    intro c hc
    by_cases h : n < 10
    · rw [dec_small h] at hc
      rw [List.mem_singleton.1 hc]
      simp only [isDig, dig_nat h, decide_eq_true_eq]; omega
    · rw [dec_big h] at hc
      rcases List.mem_append.1 hc with hc | hc
      · exact ih _ (by omega) c hc
      · rw [List.mem_singleton.1 hc]
        simp only [isDig, dig_nat (show n % 10 < 10 by omega), decide_eq_true_eq]; omega
theorem num_dec (n : Nat) : num (decDigits n) = n := by
  induction n using Nat.strongRecOn with
  | _ n ih =>
    by_cases h : n < 10
    · rw [dec_small h, num_cons, dig_nat h, num_nil]; simp [tp]
    · rw [dec_big h, num_append, ih _ (by omega), num_cons, dig_nat (show n % 10 < 10 by omega)]
      rw [num_nil]; simp only [List.length_singleton, List.length_nil, tp]; omega
theorem dec_head (n : Nat) (h : n ≠ 0) : (decDigits n).head? ≠ some 48 := by
  induction n using Nat.strongRecOn with
  | _ n ih =>
    by_cases h10 : n < 10
    · rw [dec_small h10]
      simp only [List.head?_cons, ne_eq, Option.some.injEq]
      intro e
      have := congrArg UInt8.toNat e
      rw [dig_nat h10] at this
      have h48 : (48 : UInt8).toNat = 48 := rfl
      omega
    · rw [dec_big h10, List.head?_append]
      have hi := ih (n / 10) (by omega) (by omega)
      cases e : (decDigits (n / 10)).head? with
      | none => exact absurd (List.head?_eq_none_iff.1 e) (dec_ne _)
      | some x => rw [e] at hi; simpa using hi
theorem dec_zero : decDigits 0 = [48] := by rw [dec_small (by decide)]; rfl
theorem dec_len_pos (n : Nat) : 1 ≤ (decDigits n).length := by
  have := dec_ne n
  cases h : decDigits n with
  | nil => exact absurd h this
  | cons _ _ => simp
theorem dec_lt (n : Nat) : n < tp (decDigits n).length := by
  have := num_lt (dec_digits n)
  rwa [num_dec] at this
theorem dec_ge {n : Nat} (h : n ≠ 0) : tp ((decDigits n).length - 1) ≤ n := by
  induction n using Nat.strongRecOn with
  | _ n ih =>
    by_cases h10 : n < 10
    · rw [dec_small h10]; show 1 ≤ n; omega
    · have := ih (n / 10) (by omega) (by omega)
      have hl := dec_len_pos (n / 10)
      rw [dec_big h10, List.length_append, List.length_singleton, Nat.add_sub_cancel]
      rw [show (decDigits (n / 10)).length = ((decDigits (n / 10)).length - 1) + 1 by omega]
      show 10 * _ ≤ n
      omega
/-- The digits of what a valid string spells are that string. -/
theorem dec_num' {l : List UInt8} (h1 : 1 ≤ l.length) (h3 : ∀ c ∈ l, isDig c = true) (h4 : l.head? ≠ some 48 ∨ l.length = 1) : decDigits (num l) = l := by
  refine num_inj (dec_digits _) h3 ?_ (num_dec _)
  have hu := num_lt h3
  cases l with
  | nil => simp at h1
  | cons c r =>
    by_cases e : c = 48
    · subst e
      have hr : r = [] := by
        rcases h4 with h4 | h4
        · simp at h4
        · simpa using h4
      subst hr
      show (decDigits 0).length = 1
      rw [dec_zero]; rfl
    · have hc := h3 c List.mem_cons_self
      simp only [isDig, decide_eq_true_eq] at hc
      have hc' : c.toNat ≠ 48 := fun z => e (UInt8.toNat_inj.1 z)
      have hlo : tp r.length ≤ num (c :: r) := by
        rw [num_cons]
        have : 1 * tp r.length ≤ (c.toNat - 48) * tp r.length := Nat.mul_le_mul_right _ (by omega)
        omega
      have hp := tp_pos r.length
      have a := dec_lt (num (c :: r))
      have b := dec_ge (n := num (c :: r)) (by omega)
      have i1 := tp_lt (Nat.lt_of_le_of_lt hlo a)
      have i2 := tp_lt (Nat.lt_of_le_of_lt b hu)
      simp only [List.length_cons] at i2 ⊢
      omega
theorem dec_num {l : List UInt8} (h : validL l = true) : decDigits (num l) = l := by
  obtain ⟨h1, h2, h3, h4⟩ := validL_iff.1 h
  exact dec_num' h1 h3 h4
/-- A limb's digits, filled with zeros to nine. -/
def pad9 (x : Nat) : List UInt8 := Go.Lib.repeatL [48] (9 - (decDigits x).length) ++ decDigits x
theorem repeat_digits (n : Nat) : ∀ c ∈ Go.Lib.repeatL [48] n, isDig c = true := by
  induction n with
  | zero => intro c hc; simp [Go.Lib.repeatL] at hc
  | succ n ih =>
    intro c hc
    rcases List.mem_append.1 (show c ∈ [48] ++ Go.Lib.repeatL [48] n from hc) with hc | hc
    · rw [List.mem_singleton.1 hc]; rfl
    · exact ih c hc
theorem num_repeat (n : Nat) : num (Go.Lib.repeatL [48] n) = 0 := by
  induction n with
  | zero => rfl
  | succ n ih =>
    show num (48 :: Go.Lib.repeatL [48] n) = 0
    rw [num_cons, ih]
    show (48 - 48) * _ + 0 = 0
    omega
theorem pad9_num (x : Nat) : num (pad9 x) = x := by
  unfold pad9
  rw [num_append, num_repeat, num_dec]; omega
theorem pad9_digits (x : Nat) : ∀ c ∈ pad9 x, isDig c = true := fun c hc => (List.mem_append.1 hc).elim (repeat_digits _ c) (dec_digits x c)
theorem dec9 {x : Nat} (h : x < 1000000000) : (decDigits x).length ≤ 9 := by
  by_cases e : x = 0
  · subst e; rw [decDigits_length]; decide +kernel
  · have a := dec_ge e
    have : tp 9 = 1000000000 := by decide
    have := tp_lt (m := (decDigits x).length - 1) (n := 9) (by omega)
    omega
theorem pad9_len {x : Nat} (h : x < 1000000000) : (pad9 x).length = 9 := by
  have := dec9 h
  unfold pad9
  rw [List.length_append, Go.Lib.repeatL_length, List.length_singleton]; omega
theorem dec_pad {D x : Nat} (hD : D ≠ 0) (hx : x < 1000000000) : decDigits (D * 1000000000 + x) = decDigits D ++ pad9 x := by
  have hn : num (decDigits D ++ pad9 x) = D * 1000000000 + x := by
    rw [num_append, num_dec, pad9_num, pad9_len hx]
    rfl
  rw [← hn]
  refine dec_num' ?_ ?_ (.inl ?_)
  · have := dec_len_pos D; rw [List.length_append]; omega
  · exact fun c hc => (List.mem_append.1 hc).elim (dec_digits D c) (pad9_digits x c)
  · rw [List.head?_append]
    have := dec_head D hD
    cases e : (decDigits D).head? with
    | none => exact absurd (List.head?_eq_none_iff.1 e) (dec_ne _)
    | some c => rw [e] at this; simpa using this
theorem dec_valid {n : Nat} (h : (decDigits n).length ≤ 1000) : validL (decDigits n) = true := by
  refine validL_iff.2 ⟨dec_len_pos n, h, dec_digits n, ?_⟩
  by_cases e : n = 0
  · subst e; right; rw [dec_zero]; rfl
  · exact .inl (dec_head n e)
theorem dec_len_le {n k : Nat} (h : n < tp k) (hk : 1 ≤ k) : (decDigits n).length ≤ k := by
  by_cases e : n = 0
  · subst e; rw [dec_zero]; exact hk
  · have := tp_lt (Nat.lt_of_le_of_lt (dec_ge e) h); omega
theorem dec_mono {m n : Nat} (h : m ≤ n) : (decDigits m).length ≤ (decDigits n).length := dec_len_le (by have := dec_lt n; omega) (dec_len_pos n)
theorem bp_tp : ∀ n, bp n = (tp (9 * n) : Int)
  | 0 => rfl
  | n + 1 => by
    rw [show 9 * (n + 1) = 9 * n + 9 by omega, tp_add]
    show 1000000000 * bp n = _
    rw [bp_tp n]
    have : tp 9 = 1000000000 := by decide
    rw [this]; omega
/-- What is given back beside no error. -/
def decS (n : Nat) : ByteArray := ⟨(decDigits n).toArray⟩
def valS (a : ByteArray) : Nat := num a.data.toList
def validS (a : ByteArray) : Bool := validL a.data.toList
def noS : ByteArray := ⟨#[]⟩
/-- A number, or ErrLimit. -/
def limS (n : Nat) : ByteArray × Int := if 1000 < (decDigits n).length then (noS, 2) else (decS n, 0)
theorem decS_valS {a : ByteArray} (h : validS a = true) : decS (valS a) = a := by
  obtain ⟨⟨l⟩⟩ := a
  unfold decS valS
  rw [dec_num h]
theorem valS_decS (n : Nat) : valS (decS n) = n := num_dec n
theorem validS_decS {n : Nat} (h : (decDigits n).length ≤ 1000) : validS (decS n) = true := dec_valid h
theorem size_decS (n : Nat) : (decS n).size = (decDigits n).length := rfl
theorem size_list (a : ByteArray) : a.data.toList.length = a.size := rfl
theorem dec_len_valS {a : ByteArray} (h : validS a = true) : (decDigits (valS a)).length = a.size := by
  have := congrArg (fun x : ByteArray => x.size) (decS_valS h)
  exact this
end Go.Proofs.YthpomhboogcigaaGreatDoor
namespace Go.Proofs.YthpomhboogcigaaGreatDoor
open Go.Lib (parseUint10 parseMag atoiAll NumEnd)
theorem parse_digits (l : List UInt8) (h : ∀ c ∈ l, isDig c = true) : ∀ acc, acc < 18446744073709551616 →
    parseUint10 acc l = if acc * tp l.length + num l < 18446744073709551616 then .ok (acc * tp l.length + num l) else .range := by
  induction l with
  | nil => intro acc ha; simp only [parseUint10, List.length_nil, tp, num_nil, Nat.mul_one, Nat.add_zero]; rw [if_pos ha]
  | cons c r ih =>
    intro acc ha
    have hc := h c List.mem_cons_self
    simp only [isDig, decide_eq_true_eq] at hc
    have hr := ih (fun x hx => h x (List.mem_cons_of_mem _ hx))
    have hp := tp_pos r.length
    have e : acc * tp (c :: r).length + num (c :: r) = (acc * 10 + (c.toNat - 48)) * tp r.length + num r := by
      rw [num_cons, List.length_cons, show tp (r.length + 1) = 10 * tp r.length from rfl, Nat.add_mul, Nat.mul_assoc]; omega
    rw [e, parseUint10, if_pos hc]
    have hge : acc * 10 + (c.toNat - 48) ≤ (acc * 10 + (c.toNat - 48)) * tp r.length := Nat.le_mul_of_pos_right _ hp
    by_cases h1 : 1844674407370955162 ≤ acc
    · rw [if_pos h1, if_neg (by omega)]
    · rw [if_neg h1]
      by_cases h2 : 18446744073709551616 ≤ acc * 10 + (c.toNat - 48)
      · rw [if_pos h2, if_neg (by omega)]
      · rw [if_neg h2, hr _ (by omega)]
theorem atoi_digits {l : List UInt8} (h : ∀ c ∈ l, isDig c = true) (h0 : l ≠ []) : atoiAll l = if num l < 9223372036854775808 then .ok (num l : Int) else .range := by
  cases l with
  | nil => exact absurd rfl h0
  | cons c r =>
    have hc := h c List.mem_cons_self
    simp only [isDig, decide_eq_true_eq] at hc
    unfold atoiAll
    simp only []
    rw [if_neg (by omega)]
    unfold parseMag
    rw [if_neg (by simp), parse_digits _ h 0 (by decide), Nat.zero_mul, Nat.zero_add]
    by_cases h1 : num (c :: r) < 18446744073709551616
    · rw [if_pos h1]
      simp only []
      by_cases h2 : num (c :: r) < 9223372036854775808
      · rw [if_neg (by omega), if_neg (by omega), if_pos h2, if_neg (by omega)]
      · rw [if_pos (by omega), if_neg h2]
    · rw [if_neg h1, if_neg (by omega)]
theorem digs_fin : ∀ n : Fin 256, ([48, 49, 50, 51, 52, 53, 54, 55, 56, 57] : List UInt8).contains (UInt8.ofNat n.val) = isDig (UInt8.ofNat n.val) := by decide +kernel
theorem dropWhile_nil (p : UInt8 → Bool) (l : List UInt8) : l.dropWhile p = [] ↔ ∀ c ∈ l, p c = true := by
  induction l with
  | nil => simp
  | cons c r ih =>
    rw [List.dropWhile_cons]
    by_cases h : p c = true
    · rw [if_pos h, ih]; simp [h]
    · rw [if_neg h]; simp [h]
/-- Trim by all digits leaves nothing: digits alone. -/
theorem trim_digits (l : List UInt8) : (Go.Lib.trimS l [48, 49, 50, 51, 52, 53, 54, 55, 56, 57] = []) ↔ ∀ c ∈ l, isDig c = true := by
  have hmem : ∀ c : UInt8, ([48, 49, 50, 51, 52, 53, 54, 55, 56, 57] : List UInt8).contains c = isDig c := by
    intro c
    have := digs_fin ⟨c.toNat, c.toNat_lt⟩
    simpa using this
  have hd : ∀ l : List UInt8, l.dropWhile (fun c => ([48, 49, 50, 51, 52, 53, 54, 55, 56, 57] : List UInt8).contains c) = [] ↔ ∀ c ∈ l, isDig c = true := by
    intro l
    rw [dropWhile_nil]
    simp only [hmem]
  unfold Go.Lib.trimS Go.Lib.trimLeftS Go.Lib.trimRightS
  rw [hd]
  constructor
  · intro h c hc
    by_cases e : (l.reverse.dropWhile (fun c => ([48, 49, 50, 51, 52, 53, 54, 55, 56, 57] : List UInt8).contains c)) = []
    · exact (hd l.reverse).1 e c (List.mem_reverse.2 hc)
    · exfalso
      obtain ⟨x, t, hx⟩ := List.exists_cons_of_ne_nil e
      have hxd : isDig x = true := h x (by rw [hx]; simp)
      have := List.head_dropWhile_not (fun c => ([48, 49, 50, 51, 52, 53, 54, 55, 56, 57] : List UInt8).contains c) (l := l.reverse) e
      simp only [hx, List.head_cons] at this
      rw [hmem, hxd] at this
      cases this
  · intro h c hc
    have hz : (l.reverse.dropWhile (fun c => ([48, 49, 50, 51, 52, 53, 54, 55, 56, 57] : List UInt8).contains c)) = [] := (hd l.reverse).2 (fun x hx => h x (List.mem_reverse.1 hx))
    rw [hz] at hc
    exact absurd hc (by simp)
end Go.Proofs.YthpomhboogcigaaGreatDoor
end

/- The reference implementation's functions tell the same plain functions: contracts as given callees. -/
import Derived.Test.YtdhhbmmidgebhaaGreatDoorNatRefB
import Derived.Test.YtdhhbmmidgebhaaGreatDoorNatHead
namespace Go.Proofs.YtdhhbmmidgebhaaGreatDoor
open Go.RowKit Go.Proofs.YtdhhbmmidgebhaaGreatDoorW.PrintWords Go.Proofs.YtdhhbmmidgebhaaGreatDoorW.PrintMore Go.Proofs.YtdhhbmmidgebhaaGreatDoorW.PrintLast
open Go.Lib (decDigits)
set_option linter.unusedVariables false
set_option linter.unusedSimpArgs false
attribute [local irreducible] tp dv at0 ds dsL num

theorem two_valid {α : Type} {k : Nat} (hk : 1010 ≤ k) (a b : ByteArray) (j : Bool → Option α) :
    ((XRef.observatoryref03_Valid.f k a).bind fun t => (if t = true then ((XRef.observatoryref03_Valid.f k b).bind fun u => j (!u)) else j true)) = j (!(validS a && validS b)) := by
  rw [rvalid a k hk, rvalid b k hk, Option.bind_some]
  cases validS a
  · rw [if_neg (by decide)]; rfl
  · rw [if_pos rfl, Option.bind_some, Bool.true_and]
theorem rwithin (n : Nat) : XRef.observatoryref03_within.f (decS n) = some (limS n) := by
  unfold XRef.observatoryref03_within.f limS
  rw [size_decS]
  by_cases h : 1000 < (decDigits n).length
  · rw [if_pos (by omega), if_pos h]; rfl
  · rw [if_neg (by omega), if_neg h]
theorem rAdd (a b : ByteArray) (k : Nat) (hk : 30000 ≤ k) : XRef.observatoryref03_Add.f k a b = some (addS a b) := by
  obtain ⟨k, rfl⟩ : ∃ m, k = m + 1 := ⟨k - 1, by omega⟩
  unfold XRef.observatoryref03_Add.f
  rw [two_valid (by omega) a b (fun x => XRef.observatoryref03_Add.j0 (k + 1) a b x)]
  simp only [XRef.observatoryref03_Add.j0]
  unfold addS
  cases ha : validS a
  · rfl
  cases hb : validS b
  · rfl
  rw [if_neg (by decide), radd a b ha hb k (by omega), Option.bind_some, rwithin, Option.bind_some]
  rfl
theorem rMul (a b : ByteArray) (k : Nat) (hk : 2000001 ≤ k) : XRef.observatoryref03_Mul.f k a b = some (mulS a b) := by
  obtain ⟨k, rfl⟩ : ∃ m, k = m + 1 := ⟨k - 1, by omega⟩
  unfold XRef.observatoryref03_Mul.f
  rw [two_valid (by omega) a b (fun x => XRef.observatoryref03_Mul.j0 (k + 1) a b x)]
  simp only [XRef.observatoryref03_Mul.j0]
  unfold mulS
  cases ha : validS a
  · rfl
  cases hb : validS b
  · rfl
  rw [if_neg (by decide), rmul a b ha hb k (by omega), Option.bind_some, rwithin, Option.bind_some]
  rfl
theorem rless' {a b : ByteArray} (ha : validS a = true) (hb : validS b = true) : XRef.observatoryref03_less.f a b = some (decide (valS a < valS b)) := by
  have := rless (valS a) (valS b)
  rw [decS_valS ha, decS_valS hb] at this
  exact this
theorem rSub (a b : ByteArray) (k : Nat) (hk : 30000 ≤ k) : XRef.observatoryref03_Sub.f k a b = some (subS a b) := by
  obtain ⟨k, rfl⟩ : ∃ m, k = m + 1 := ⟨k - 1, by omega⟩
  unfold XRef.observatoryref03_Sub.f
  rw [two_valid (by omega) a b (fun x => XRef.observatoryref03_Sub.j0 (k + 1) a b x)]
  simp only [XRef.observatoryref03_Sub.j0]
  unfold subS
  cases ha : validS a
  · rfl
  cases hb : validS b
  · rfl
  obtain ⟨a1, a2, a3, _⟩ := validL_iff.1 ha
  obtain ⟨b1, b2, b3, _⟩ := validL_iff.1 hb
  rw [size_list] at a1 a2 b1 b2
  rw [if_neg (by decide), rless' ha hb, Option.bind_some]
  by_cases h : valS a < valS b
  · rw [decide_eq_true h, if_pos rfl, if_pos (show (true && true) = true from rfl), if_pos h]; rfl
  · rw [decide_eq_false h, if_neg (by decide), rsub a b a1 (by omega) a3 b2 b3 (by omega) k (by omega), Option.bind_some, if_pos (show (true && true) = true from rfl), if_neg h]
theorem zero_list' {a : ByteArray} (h : validS a = true) : a.toList = ([48] : List UInt8) ↔ valS a = 0 := by
  have := zero_iff h
  rw [Bool.eq_iff_iff, beq_iff_eq, decide_eq_true_eq] at this
  exact this
theorem zero_str : (⟨#[48]⟩ : ByteArray) = decS 0 := by
  have h : validS ⟨#[48]⟩ = true := by decide
  have h2 : valS ⟨#[48]⟩ = 0 := by unfold valS; simp [num_cons, num_nil]
  rw [← h2, decS_valS h]
theorem rdiv (a b : ByteArray) (ha : validS a = true) (hb : validS b = true) (h0 : ¬ valS b = 0) (k : Nat) (hk : 50000 ≤ k) : XRef.observatoryref03_div.f k a b = some (decS (valS a / valS b), decS (valS a % valS b)) := by
  obtain ⟨a1, a2, a3, _⟩ := validL_iff.1 ha
  obtain ⟨b1, b2, b3, _⟩ := validL_iff.1 hb
  rw [size_list] at a1 a2 b1 b2
  unfold XRef.observatoryref03_div.f
  have := rdiv_out a (valS b) (by omega) (by rw [dec_len_valS hb]; omega) a3 a1 a2 a.size 0 k ⟨#[]⟩ 0 (by omega) rfl (by intro c h; simp at h) (by omega) (by unfold valS; simp [num_nil]) (by omega)
  rw [decS_valS hb, ← zero_str, show ((0 : Nat) : Int) = 0 from rfl] at this
  exact this
theorem rDiv (a b : ByteArray) (k : Nat) (hk : 60000 ≤ k) : XRef.observatoryref03_Div.f k a b = some (divS a b) := by
  obtain ⟨k, rfl⟩ : ∃ m, k = m + 1 := ⟨k - 1, by omega⟩
  unfold XRef.observatoryref03_Div.f
  rw [two_valid (by omega) a b (fun x => XRef.observatoryref03_Div.j0 (k + 1) a b x)]
  simp only [XRef.observatoryref03_Div.j0]
  unfold divS
  cases ha : validS a
  · rfl
  cases hb : validS b
  · rfl
  rw [if_neg (by decide)]
  by_cases h : valS b = 0
  · rw [if_pos ((zero_list' hb).2 h), if_pos (show (true && true) = true from rfl), if_pos h]; rfl
  · rw [if_neg (fun e => h ((zero_list' hb).1 e)), rdiv a b ha hb h k (by omega), Option.bind_some, if_pos (show (true && true) = true from rfl), if_neg h]
theorem rgcd_loop (y : Nat) : ∀ (x : Nat), (decDigits x).length ≤ 1000 → (decDigits y).length ≤ 1000 → ∃ K, ∀ k, K ≤ k → XRef.observatoryref03_Gcd.l0 k (decS x) (decS y) = some (decS (Nat.gcd y x), 0) := by
  induction y using Nat.strongRecOn with
  | _ y ih =>
    intro x hx hy
    have vy : validS (decS y) = true := validS_decS hy
    have vx : validS (decS x) = true := validS_decS hx
    by_cases h : y = 0
    · refine ⟨1, fun k hk => ?_⟩
      obtain ⟨k, rfl⟩ : ∃ m, k = m + 1 := ⟨k - 1, by omega⟩
      simp only [XRef.observatoryref03_Gcd.l0]
      rw [if_pos ((zero_list' vy).2 (by rw [valS_decS]; exact h)), h, Nat.gcd_zero_left]
    · have hlt := Nat.mod_lt x (Nat.pos_of_ne_zero h)
      obtain ⟨K, hK⟩ := ih (x % y) hlt y hy (by have := dec_mono (Nat.le_of_lt hlt); omega)
      refine ⟨K + 50001, fun k hk => ?_⟩
      obtain ⟨k, rfl⟩ : ∃ m, k = m + 1 := ⟨k - 1, by omega⟩
      simp only [XRef.observatoryref03_Gcd.l0]
      rw [if_neg (fun e => h (by have := (zero_list' vy).1 e; rw [valS_decS] at this; exact this)), rdiv _ _ vx vy (by rw [valS_decS]; exact h) k (by omega), Option.bind_some, valS_decS, valS_decS]
      rw [hK k (by omega), ← Nat.gcd_rec]
theorem rGcd (a b : ByteArray) : ∃ k, XRef.observatoryref03_Gcd.f k a b = some (gcdS a b) := by
  cases ha : validS a
  · refine ⟨2000, ?_⟩
    unfold XRef.observatoryref03_Gcd.f
    rw [two_valid (by omega) a b (fun x => XRef.observatoryref03_Gcd.j0 2000 a b x)]
    unfold gcdS
    rw [ha, show (2000 : Nat) = 1999 + 1 from rfl]
    simp only [XRef.observatoryref03_Gcd.j0]
    rfl
  cases hb : validS b
  · refine ⟨2000, ?_⟩
    unfold XRef.observatoryref03_Gcd.f
    rw [two_valid (by omega) a b (fun x => XRef.observatoryref03_Gcd.j0 2000 a b x)]
    unfold gcdS
    rw [ha, hb, show (2000 : Nat) = 1999 + 1 from rfl]
    simp only [XRef.observatoryref03_Gcd.j0]
    rfl
  obtain ⟨a1, a2, a3, _⟩ := validL_iff.1 ha
  obtain ⟨b1, b2, b3, _⟩ := validL_iff.1 hb
  rw [size_list] at a1 a2 b1 b2
  obtain ⟨K, hK⟩ := rgcd_loop (valS b) (valS a) (by rw [dec_len_valS ha]; omega) (by rw [dec_len_valS hb]; omega)
  refine ⟨K + 2000 + 1, ?_⟩
  unfold XRef.observatoryref03_Gcd.f
  rw [two_valid (by omega) a b (fun x => XRef.observatoryref03_Gcd.j0 (K + 2000 + 1) a b x), ha, hb]
  simp only [XRef.observatoryref03_Gcd.j0]
  rw [if_neg (by decide)]
  have := hK (K + 2000) (by omega)
  rw [decS_valS ha, decS_valS hb] at this
  rw [this, gcd_ok ha hb, Nat.gcd_comm]
  have hle : (decDigits (Nat.gcd (valS a) (valS b))).length ≤ 1000 := by
    by_cases h : valS a = 0
    · rw [h, Nat.gcd_zero_left, dec_len_valS hb]; omega
    · have := dec_mono (Nat.gcd_le_left (valS b) (Nat.pos_of_ne_zero h))
      rw [dec_len_valS ha] at this; omega
  rw [limS_of_le hle]
theorem rCompare (a b : ByteArray) (k : Nat) (hk : 2000 ≤ k) : XRef.observatoryref03_Compare.f k a b = some (cmpS a b) := by
  obtain ⟨k, rfl⟩ : ∃ m, k = m + 1 := ⟨k - 1, by omega⟩
  unfold XRef.observatoryref03_Compare.f cmpS
  rw [rvalid a _ (by omega), rvalid b _ (by omega), Option.bind_some]
  simp only [XRef.observatoryref03_Compare.j0]
  cases ha : validS a
  · rfl
  cases hb : validS b
  · rfl
  rw [if_pos rfl, Option.bind_some, if_pos rfl, toList_eq, rless' ha hb, Option.bind_some, Bool.and_self, if_pos rfl]
  have hv := eq_iff_val ha hb
  rcases cmpI_cases (valS a) (valS b) with ⟨h, e⟩ | ⟨h, e⟩ | ⟨h, e⟩
  · rw [e, decide_eq_false (fun q => by rw [hv] at q; omega), if_neg (by decide), decide_eq_true (show valS a < valS b by omega), if_pos rfl]
  · rw [e, decide_eq_true (hv.2 (by omega)), if_pos rfl]
  · rw [e, decide_eq_false (fun q => by rw [hv] at q; omega), if_neg (by decide), decide_eq_false (show ¬ valS a < valS b by omega), if_neg (by decide)]
/-! ### ints -/
theorem rof_loop : ∀ (d i k : Nat) (n : Nat) (out : List Int), n < tp d → i + d ≤ 30 → out.length = i → Dg out → d + 12000 ≤ k → 1 ≤ i → n ≤ 9223372036854775807 → ∃ R, Dg R ∧ dv R = n ∧ XRef.observatoryref03_Of.l0 k (n : Int) out (i : Int) = some (decS (dv (out ++ R)).toNat, 0)
  | 0, i, k, n, out, hn, hi, hl, hg, hk, h1, hb => by
    obtain ⟨k, rfl⟩ : ∃ m, k = m + 1 := ⟨k - 1, by omega⟩
    have hz : n = 0 := by simp [tp] at hn; omega
    subst hz
    refine ⟨[], by intro x hx; simp at hx, by simp [dv], ?_⟩
    simp only [XRef.observatoryref03_Of.l0]
    rw [if_neg (by omega), if_neg (by omega), rtext _ hg (by omega) (by omega) k (by omega), Option.bind_some, List.append_nil]
  | d + 1, i, k, n, out, hn, hi, hl, hg, hk, h1, hb => by
    by_cases hz : n = 0
    · obtain ⟨k, rfl⟩ : ∃ m, k = m + 1 := ⟨k - 1, by omega⟩
      subst hz
      refine ⟨[], by intro x hx; simp at hx, by simp [dv], ?_⟩
      simp only [XRef.observatoryref03_Of.l0]
      rw [if_neg (by omega), if_neg (by omega), rtext _ hg (by omega) (by omega) k (by omega), Option.bind_some, List.append_nil]
    obtain ⟨k, rfl⟩ : ∃ m, k = m + 1 := ⟨k - 1, by omega⟩
    rw [tp_succ] at hn
    obtain ⟨R, gR, eR, hR⟩ := rof_loop d (i + 1) k (n / 10) (out ++ [((n % 10 : Nat) : Int)]) (by omega) (by omega) (by simp; omega) (hg.append (Dg.cons (by omega) (by omega) (by intro x hx; simp at hx))) (by omega) (by omega) (by omega)
    refine ⟨((n % 10 : Nat) : Int) :: R, Dg.cons (by omega) (by omega) gR, by simp only [dv]; omega, ?_⟩
    simp only [XRef.observatoryref03_Of.l0]
    rw [if_neg (by omega), if_pos (by omega), if_pos (by omega), w_carry (x := (n : Int)) (by omega) (by omega), m_digit (x := (n : Int)) (by omega), w_succ (i := i) (by omega)]
    rw [List.append_assoc] at hR
    rw [show (n : Int) / 10 = ((n / 10 : Nat) : Int) by omega, show (n : Int) % 10 = ((n % 10 : Nat) : Int) by omega, hR]
    rfl
theorem rOf (n : Int) (hn : n ≤ 9223372036854775807) (k : Nat) (hk : 20000 ≤ k) : XRef.observatoryref03_Of.f k n = some (ofS n) := by
  obtain ⟨k, rfl⟩ : ∃ m, k = m + 1 := ⟨k - 1, by omega⟩
  unfold XRef.observatoryref03_Of.f ofS
  by_cases h : n < 0
  · rw [if_pos h, if_pos h]; rfl
  rw [if_neg h, if_neg h]
  obtain ⟨m, rfl⟩ := Int.eq_ofNat_of_zero_le (show 0 ≤ n by omega)
  have h20 := tp20
  have hm : m / 10 < tp 20 := by omega
  obtain ⟨R, gR, eR, hR⟩ := rof_loop 20 1 k (m / 10) [((m % 10 : Nat) : Int)] hm (by omega) rfl (Dg.cons (by omega) (by omega) (by intro x hx; simp at hx)) (by omega) (by omega) (by omega)
  simp only [XRef.observatoryref03_Of.l0]
  rw [if_pos trivial, if_pos (by simp), w_carry (x := (m : Int)) (by omega) (by omega), m_digit (x := (m : Int)) (by omega), show wrap64 ((0 : Int) + 1) = ((1 : Nat) : Int) from w_succ (i := 0) (by omega)]
  rw [show (m : Int) / 10 = ((m / 10 : Nat) : Int) by omega, show (m : Int) % 10 = ((m % 10 : Nat) : Int) by omega, List.nil_append, hR]
  have : (dv ([((m % 10 : Nat) : Int)] ++ R)).toNat = (m : Int).toNat := by
    rw [List.singleton_append]
    simp only [dv]; omega
  rw [this]
theorem rint_loop (a : ByteArray) (ha : ∀ c ∈ a.data.toList, isDig c = true) (sa : a.size ≤ 1000) (hv : valS a ≤ 1000000000000) : ∀ (d i k : Nat) (n : Nat), i + d = a.size → d < k → n = num (a.data.toList.take i) → XRef.observatoryref03_Int.l0 k a (n : Int) (i : Int) = some ((valS a : Int), 0)
  | 0, i, k, n, hi, hk, hn => by
    obtain ⟨k, rfl⟩ : ∃ m, k = m + 1 := ⟨k - 1, by omega⟩
    simp only [XRef.observatoryref03_Int.l0]
    rw [if_neg (by omega), hn, List.take_of_length_le (by rw [size_list]; omega)]
    rfl
  | d + 1, i, k, n, hi, hk, hn => by
    obtain ⟨k, rfl⟩ : ∃ m, k = m + 1 := ⟨k - 1, by omega⟩
    have hil : i < a.data.toList.length := by rw [size_list]; omega
    have hc := ha _ (List.getElem_mem hil)
    simp only [isDig, decide_eq_true_eq] at hc
    have ht : num (a.data.toList.take (i + 1)) = 10 * n + ((a.data.toList[i]'hil).toNat - 48) := by
      rw [List.take_succ_eq_append_getElem hil, num_append, ← hn, num_cons, num_nil]
      simp [tp]; omega
    have hle : num (a.data.toList.take (i + 1)) ≤ valS a := by
      have e := num_append (a.data.toList.take (i + 1)) (a.data.toList.drop (i + 1))
      rw [List.take_append_drop] at e
      have p : num (a.data.toList.take (i + 1)) * 1 ≤ num (a.data.toList.take (i + 1)) * tp (a.data.toList.drop (i + 1)).length := Nat.mul_le_mul_left _ (tp_pos _)
      show _ ≤ num a.data.toList
      omega
    simp only [XRef.observatoryref03_Int.l0]
    rw [if_pos (by omega), if_pos (by omega), bt_list (by omega), w_succ (i := i) (by omega)]
    generalize hx : (a.data.toList[i]'hil).toNat = x at *
    rw [show ((x : Int) - 48) % 256 = ((x - 48 : Nat) : Int) by omega, w_id (x := 10 * (n : Int)) (by omega) (by omega), w_id (x := 10 * (n : Int) + ((x - 48 : Nat) : Int)) (by omega) (by omega)]
    rw [show 10 * (n : Int) + ((x - 48 : Nat) : Int) = ((10 * n + (x - 48) : Nat) : Int) by omega]
    exact rint_loop a ha sa hv d (i + 1) k _ (by omega) (by omega) ht.symm
theorem tril : (⟨#[49, 48, 48, 48, 48, 48, 48, 48, 48, 48, 48, 48, 48]⟩ : ByteArray) = decS 1000000000000 := by
  have h : validS ⟨#[49, 48, 48, 48, 48, 48, 48, 48, 48, 48, 48, 48, 48]⟩ = true := by decide
  have h2 : valS ⟨#[49, 48, 48, 48, 48, 48, 48, 48, 48, 48, 48, 48, 48]⟩ = 1000000000000 := by unfold valS; simp [num_cons, num_nil, tp]
  rw [← h2, decS_valS h]
theorem rInt (a : ByteArray) : XRef.observatoryref03_Int.f 3000 a = some (intS a) := by
  unfold XRef.observatoryref03_Int.f intS
  rw [rvalid a _ (by omega), Option.bind_some]
  cases ha : validS a
  · rfl
  obtain ⟨a1, a2, a3, _⟩ := validL_iff.1 ha
  rw [size_list] at a1 a2
  have hl := rless 1000000000000 (valS a)
  rw [decS_valS ha, ← tril] at hl
  rw [if_pos rfl, if_pos rfl, hl, Option.bind_some]
  by_cases h : valS a ≤ 1000000000000
  · rw [if_pos h, decide_eq_false (by omega), if_neg (by decide)]
    have := rint_loop a a3 a2 h a.size 0 3000 0 (by omega) (by omega) (by rw [List.take_zero, num_nil])
    exact this
  · rw [if_neg h, decide_eq_true (by omega), if_pos rfl]
/-! ### as given callees -/
def observatoryref03_Valid.f (a : ByteArray) : Option Bool := some (validS a)
def observatoryref03_Add.f (a b : ByteArray) : Option (ByteArray × Int) := some (addS a b)
def observatoryref03_Sub.f (a b : ByteArray) : Option (ByteArray × Int) := some (subS a b)
def observatoryref03_Mul.f (a b : ByteArray) : Option (ByteArray × Int) := some (mulS a b)
def observatoryref03_Gcd.f (a b : ByteArray) : Option (ByteArray × Int) := some (gcdS a b)
def observatoryref03_Div.f (a b : ByteArray) : Option (ByteArray × ByteArray × Int) := some (divS a b)
def observatoryref03_Compare.f (a b : ByteArray) : Option Int := some (cmpS a b)
def observatoryref03_Of.f (n : Int) : Option (ByteArray × Int) := if n ≤ 9223372036854775807 then some (ofS n) else none
def observatoryref03_Int.f (a : ByteArray) : Option (Int × Int) := some (intS a)
theorem observatoryref03_Valid.calls (a0 : ByteArray) (r : Bool) (w : World) (h : observatoryref03_Valid.f a0 = some r) :
    Calls Tryz.prog 22 #[.string a0] w fun e w' => e = .returned (.bool r) ∧ Below w.heap.size w w' := by
  refine (XRef.observatoryref03_Valid.calls 2000 a0 r w (by rw [rvalid a0 _ (by omega)]; exact h)).mono ?_
  rintro e w' ⟨rfl, hd⟩; exact ⟨rfl, hd.below⟩
theorem observatoryref03_Compare.calls (a0 a1 : ByteArray) (r : Int) (w : World) (h : observatoryref03_Compare.f a0 a1 = some r) :
    Calls Tryz.prog 24 #[.string a0, .string a1] w fun e w' => e = .returned (.int .i64 r) ∧ Below w.heap.size w w' := by
  refine (XRef.observatoryref03_Compare.calls 2000 a0 a1 r w (by rw [rCompare a0 a1 _ (by omega)]; exact h)).mono ?_
  rintro e w' ⟨rfl, hd⟩; exact ⟨rfl, hd.below⟩
theorem observatoryref03_Add.calls (a0 a1 r1 : ByteArray) (r2 : Int) (w : World) (h : observatoryref03_Add.f a0 a1 = some (r1, r2)) :
    Calls Tryz.prog 8 #[.string a0, .string a1] w fun e w' => e = .returned (.tuple #[.string r1, .int .i64 r2]) ∧ Below w.heap.size w w' :=
  XRef.observatoryref03_Add.calls 30000 a0 a1 r1 r2 w (by rw [rAdd a0 a1 _ (by omega)]; exact h)
theorem observatoryref03_Sub.calls (a0 a1 r1 : ByteArray) (r2 : Int) (w : World) (h : observatoryref03_Sub.f a0 a1 = some (r1, r2)) :
    Calls Tryz.prog 10 #[.string a0, .string a1] w fun e w' => e = .returned (.tuple #[.string r1, .int .i64 r2]) ∧ Below w.heap.size w w' :=
  XRef.observatoryref03_Sub.calls 30000 a0 a1 r1 r2 w (by rw [rSub a0 a1 _ (by omega)]; exact h)
theorem observatoryref03_Mul.calls (a0 a1 r1 : ByteArray) (r2 : Int) (w : World) (h : observatoryref03_Mul.f a0 a1 = some (r1, r2)) :
    Calls Tryz.prog 12 #[.string a0, .string a1] w fun e w' => e = .returned (.tuple #[.string r1, .int .i64 r2]) ∧ Below w.heap.size w w' :=
  XRef.observatoryref03_Mul.calls 2000001 a0 a1 r1 r2 w (by rw [rMul a0 a1 _ (by omega)]; exact h)
theorem observatoryref03_Gcd.calls (a0 a1 r1 : ByteArray) (r2 : Int) (w : World) (h : observatoryref03_Gcd.f a0 a1 = some (r1, r2)) :
    Calls Tryz.prog 16 #[.string a0, .string a1] w fun e w' => e = .returned (.tuple #[.string r1, .int .i64 r2]) ∧ Below w.heap.size w w' := by
  obtain ⟨k, hk⟩ := rGcd a0 a1
  exact XRef.observatoryref03_Gcd.calls k a0 a1 r1 r2 w (by rw [hk]; exact h)
theorem observatoryref03_Div.calls (a0 a1 r1 r2 : ByteArray) (r3 : Int) (w : World) (h : observatoryref03_Div.f a0 a1 = some (r1, r2, r3)) :
    Calls Tryz.prog 14 #[.string a0, .string a1] w fun e w' => e = .returned (.tuple #[.string r1, .string r2, .int .i64 r3]) ∧ Below w.heap.size w w' :=
  XRef.observatoryref03_Div.calls 60000 a0 a1 r1 r2 r3 w (by rw [rDiv a0 a1 _ (by omega)]; exact h)
theorem observatoryref03_Of.calls (a0 : Int) (r1 : ByteArray) (r2 : Int) (w : World) (h : observatoryref03_Of.f a0 = some (r1, r2)) :
    Calls Tryz.prog 18 #[.int .i64 a0] w fun e w' => e = .returned (.tuple #[.string r1, .int .i64 r2]) ∧ Below w.heap.size w w' := by
  unfold observatoryref03_Of.f at h
  split at h
  case isFalse => cases h
  rename_i hn
  exact XRef.observatoryref03_Of.calls 20000 a0 r1 r2 w (by rw [rOf a0 hn _ (by omega)]; exact h)
theorem observatoryref03_Int.calls (a0 : ByteArray) (r1 r2 : Int) (w : World) (h : observatoryref03_Int.f a0 = some (r1, r2)) :
    Calls Tryz.prog 20 #[.string a0] w fun e w' => e = .returned (.tuple #[.int .i64 r1, .int .i64 r2]) ∧ Below w.heap.size w w' := by
  refine (XRef.observatoryref03_Int.calls 3000 a0 r1 r2 w (by rw [rInt]; exact h)).mono ?_
  rintro e w' ⟨rfl, hd⟩; exact ⟨rfl, hd.below⟩
end Go.Proofs.YtdhhbmmidgebhaaGreatDoor

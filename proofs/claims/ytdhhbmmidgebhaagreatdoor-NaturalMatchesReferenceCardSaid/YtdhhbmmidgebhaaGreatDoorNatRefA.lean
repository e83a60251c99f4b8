/- Plain: what the reference implementation's functions tell, first part: digits, text, sums, differences, products. -/
import Derived.Test.YtdhhbmmidgebhaaGreatDoorNatFacts
import Derived.Test.YtdhhbmmidgebhaaGreatDoorXRef1
namespace Go.Proofs.YtdhhbmmidgebhaaGreatDoor
open Go.RowKit Go.Proofs.YtdhhbmmidgebhaaGreatDoorW.PrintWords Go.Proofs.YtdhhbmmidgebhaaGreatDoorW.PrintMore Go.Proofs.YtdhhbmmidgebhaaGreatDoorW.PrintLast
open Go.Lib (decDigits)
set_option linter.unusedVariables false
set_option linter.unusedSimpArgs false

/-! ### validity -/
theorem bt_list {a : ByteArray} {i : Nat} (h : i < a.size) : bt a (i : Int) = ((a.data.toList[i]'h).toNat : Int) := by
  unfold bt
  rw [dif_pos (show ((i : Int)).toNat < a.size by omega)]
  rfl
theorem isDig_int (c : UInt8) : isDig c = (!decide ((c.toNat : Int) < 48) && !decide ((c.toNat : Int) > 57)) := by
  rw [Bool.eq_iff_iff]; unfold isDig; simp only [decide_eq_true_eq, Bool.and_eq_true, Bool.not_eq_true', decide_eq_false_iff_not]; omega
theorem rvalid_loop (a : ByteArray) (hs : a.size ≤ 1000) : ∀ (d i k : Nat), i + d = a.size → d < k → XRef.observatoryref03_Valid.l0 k a (i : Int) = some ((a.data.toList.drop i).all isDig)
  | 0, i, k, hi, hk => by
    obtain ⟨k, rfl⟩ : ∃ m, k = m + 1 := ⟨k - 1, by omega⟩
    simp only [XRef.observatoryref03_Valid.l0]
    rw [if_neg (by omega), List.drop_of_length_le (by rw [size_list]; omega)]; rfl
  | d + 1, i, k, hi, hk => by
    obtain ⟨k, rfl⟩ : ∃ m, k = m + 1 := ⟨k - 1, by omega⟩
    have hw : wrap64 ((i : Int) + 1) = ((i + 1 : Nat) : Int) := by unfold wrap64; omega
    have hl : i < a.data.toList.length := by rw [size_list]; omega
    simp only [XRef.observatoryref03_Valid.l0]
    rw [if_pos (by omega), if_pos (by omega), bt_list (by omega), hw, List.drop_eq_getElem_cons hl, List.all_cons, isDig_int, rvalid_loop a hs d (i + 1) k (by omega) (by omega)]
    by_cases h1 : ((a.data.toList[i]'hl).toNat : Int) < 48
    · rw [if_pos h1, decide_eq_true h1]; rfl
    · rw [if_neg h1, decide_eq_false h1]
      by_cases h2 : ((a.data.toList[i]'hl).toNat : Int) > 57
      · rw [if_pos h2, decide_eq_true h2]; rfl
      · rw [if_neg h2, decide_eq_false h2]; rfl
theorem rvalid (a : ByteArray) (k : Nat) (hk : 1010 ≤ k) : XRef.observatoryref03_Valid.f k a = some (validS a) := by
  obtain ⟨k, rfl⟩ : ∃ m, k = m + 1 := ⟨k - 1, by omega⟩
  unfold XRef.observatoryref03_Valid.f validS validL
  simp only [XRef.observatoryref03_Valid.j0]
  rw [size_list]
  by_cases h1 : (a.size : Int) < 1
  · rw [if_pos h1, decide_eq_false (show ¬ 1 ≤ a.size by omega)]; rfl
  rw [if_neg h1, decide_eq_true (show 1 ≤ a.size by omega)]
  by_cases h2 : (a.size : Int) > 1000
  · rw [if_pos h2, decide_eq_false (show ¬ a.size ≤ 1000 by omega)]; rfl
  rw [if_neg h2, decide_eq_true (show a.size ≤ 1000 by omega)]
  have hloop := rvalid_loop a (by omega) a.size 0 k (by omega) (by omega)
  rw [show ((0 : Nat) : Int) = 0 from rfl, List.drop_zero] at hloop
  rw [hloop]
  by_cases h3 : (a.size : Int) > 1
  · rw [if_pos h3, if_pos (by omega), decide_eq_false (show ¬ a.size = 1 by omega)]
    have hb := bt_list (a := a) (i := 0) (by omega)
    rw [show ((0 : Nat) : Int) = 0 from rfl] at hb
    have hh : (a.data.toList.head? == some 48) = (bt a 0 == 48) := by
      rw [hb, List.head?_eq_getElem?, List.getElem?_eq_getElem (by rw [size_list]; omega), Bool.eq_iff_iff, beq_iff_eq, beq_iff_eq, Option.some.injEq]
      constructor
      · intro h; rw [h]; rfl
      · intro h; exact UInt8.toNat_inj.1 (by have h48 : (48 : UInt8).toNat = 48 := rfl; omega)
    rw [hh]
    cases (bt a 0 == 48) <;> simp
  · rw [if_neg h3, decide_eq_true (show a.size = 1 by omega)]
    simp

/-! ### without leading zeros -/
theorem rtrimmed_loop (a : ByteArray) (hs : a.size ≤ 100000) (hd : ∀ c ∈ a.data.toList, isDig c = true) : ∀ (d i k : Nat), i + 1 + d = a.size → d < k →
    XRef.observatoryref03_trimmed.l0 k a (i : Int) = some (decS (num (a.data.toList.drop i)))
  | 0, i, k, hi, hk => by
    obtain ⟨k, rfl⟩ : ∃ m, k = m + 1 := ⟨k - 1, by omega⟩
    have hw : wrap64 ((i : Int) + 1) = ((i + 1 : Nat) : Int) := by unfold wrap64; omega
    have hl : (a.data.toList.drop i).length = 1 := by rw [List.length_drop, size_list]; omega
    simp only [XRef.observatoryref03_trimmed.l0]
    rw [hw, if_neg (by omega), if_pos (by omega), if_pos (by omega)]
    have hx : (a.extract i a.size).data.toList = a.data.toList.drop i := by rw [extract_list, ← size_list a, List.take_length]
    unfold decS
    rw [dec_num' (by omega) (fun c hc => hd c (List.mem_of_mem_drop hc)) (Or.inr hl), ← hx]
    rfl
  | d + 1, i, k, hi, hk => by
    obtain ⟨k, rfl⟩ : ∃ m, k = m + 1 := ⟨k - 1, by omega⟩
    have hw : wrap64 ((i : Int) + 1) = ((i + 1 : Nat) : Int) := by unfold wrap64; omega
    have hl : i < a.data.toList.length := by rw [size_list]; omega
    have hcons := List.drop_eq_getElem_cons hl
    simp only [XRef.observatoryref03_trimmed.l0]
    rw [hw, if_pos (by omega), if_pos (by omega), if_pos (by omega), bt_list (by omega)]
    by_cases h : ((a.data.toList[i]'hl).toNat : Int) = 48
    · rw [if_pos h, rtrimmed_loop a hs hd d (i + 1) k (by omega) (by omega), hcons, num_cons]
      rw [show (a.data.toList[i]'hl).toNat - 48 = 0 by omega, Nat.zero_mul, Nat.zero_add]
    · rw [if_neg h, if_pos (by omega)]
      have hx : (a.extract i a.size).data.toList = a.data.toList.drop i := by rw [extract_list, ← size_list a, List.take_length]
      unfold decS
      rw [dec_num' (by rw [hcons]; simp) (fun c hc => hd c (List.mem_of_mem_drop hc)) (Or.inl (by
        rw [hcons, List.head?_cons, ne_eq, Option.some.injEq]
        intro e; exact h (by rw [e]; rfl))), ← hx]
      rfl
theorem rtrimmed (a : ByteArray) (hs : a.size ≤ 100000) (h1 : 1 ≤ a.size) (hd : ∀ c ∈ a.data.toList, isDig c = true) (k : Nat) (hk : a.size ≤ k) : XRef.observatoryref03_trimmed.f k a = some (decS (valS a)) := by
  unfold XRef.observatoryref03_trimmed.f
  have := rtrimmed_loop a hs hd (a.size - 1) 0 k (by omega) (by omega)
  rw [show ((0 : Nat) : Int) = 0 from rfl, List.drop_zero] at this
  exact this

/-! ### digits from the last -/
def dv : List Int → Int
  | [] => 0
  | x :: r => x + 10 * dv r
def Dg (l : List Int) : Prop := ∀ x ∈ l, 0 ≤ x ∧ x < 10
theorem Dg.tail {x : Int} {l : List Int} (h : Dg (x :: l)) : Dg l := fun y hy => h y (List.mem_cons_of_mem _ hy)
theorem Dg.cons {x : Int} {l : List Int} (h0 : 0 ≤ x) (h1 : x < 10) (h : Dg l) : Dg (x :: l) := by
  intro y hy
  rcases List.mem_cons.1 hy with rfl | hy
  · exact ⟨h0, h1⟩
  · exact h y hy
theorem Dg.append {a b : List Int} (ha : Dg a) (hb : Dg b) : Dg (a ++ b) := fun x hx => (List.mem_append.1 hx).elim (ha x) (hb x)
theorem dv_nonneg {l : List Int} (h : Dg l) : 0 ≤ dv l := by
  induction l with
  | nil => exact Int.le_refl _
  | cons x l ih => have := ih h.tail; have := h x List.mem_cons_self; unfold dv; omega
theorem dv_lt {l : List Int} (h : Dg l) : dv l < tp l.length := by
  induction l with
  | nil => decide
  | cons x l ih => have := ih h.tail; have := h x List.mem_cons_self; simp only [dv, List.length_cons, tp]; omega
/-- The bytes that text lays: the last digit comes first. -/
def bytesOf (l : List Int) : List UInt8 := (l.map fun x => UInt8.ofNat (x + 48).toNat).reverse
theorem bytesOf_cons (x : Int) (l : List Int) : bytesOf (x :: l) = bytesOf l ++ [UInt8.ofNat (x + 48).toNat] := by simp [bytesOf]
theorem byte_dig {x : Int} (h0 : 0 ≤ x) (h1 : x < 10) : (UInt8.ofNat (x + 48).toNat).toNat = x.toNat + 48 := by
  rw [UInt8.toNat_ofNat']; omega
theorem bytesOf_digits {l : List Int} (h : Dg l) : ∀ c ∈ bytesOf l, isDig c = true := by
  intro c hc
  simp only [bytesOf, List.mem_reverse, List.mem_map] at hc
  obtain ⟨x, hx, rfl⟩ := hc
  have := h x hx
  simp only [isDig, byte_dig this.1 this.2, decide_eq_true_eq]; omega
theorem bytesOf_num {l : List Int} (h : Dg l) : (num (bytesOf l) : Int) = dv l := by
  induction l with
  | nil => rfl
  | cons x l ih =>
    have hx := h x List.mem_cons_self
    have := ih h.tail
    rw [bytesOf_cons, num_append, num_cons, byte_dig hx.1 hx.2, num_nil]
    simp only [List.length_singleton, List.length_nil, tp, dv]
    omega
theorem rtext_loop (l : List Int) (h : Dg l) (hl : l.length ≤ 5000) (h1 : 1 ≤ l.length) : ∀ (d i k : Nat), i + d = l.length → d + 5001 < k →
    XRef.observatoryref03_text.l0 k l (List.replicate d 0 ++ ((l.take i).map fun x => (x + 48) % 256).reverse) (i : Int) = some (decS (dv l).toNat)
  | 0, i, k, hi, hk => by
    obtain ⟨k, rfl⟩ : ∃ m, k = m + 1 := ⟨k - 1, by omega⟩
    simp only [XRef.observatoryref03_text.l0]
    rw [if_neg (by omega), List.replicate_zero, List.nil_append, List.take_of_length_le (by omega)]
    have hb : strOfNums ((l.map fun x => (x + 48) % 256).reverse) = ⟨(bytesOf l).toArray⟩ := by
      unfold strOfNums bytesOf
      rw [← List.map_reverse, ← List.map_reverse, List.map_map]
      congr 2
      apply List.map_congr_left
      intro x hx
      have := h x (List.mem_reverse.1 hx)
      show UInt8.ofNat ((x + 48) % 256).toNat = _
      rw [show (x + 48) % 256 = x + 48 by omega]
    have hz : (⟨(bytesOf l).toArray⟩ : ByteArray).size = l.length := by simp [ByteArray.size, bytesOf]
    rw [hb, rtrimmed _ (by omega) (by omega) (bytesOf_digits h) k (by omega)]
    show some (decS (num (bytesOf l))) = _
    congr 2
    have := bytesOf_num h
    omega
  | d + 1, i, k, hi, hk => by
    obtain ⟨k, rfl⟩ : ∃ m, k = m + 1 := ⟨k - 1, by omega⟩
    have hw : wrap64 ((i : Int) + 1) = ((i + 1 : Nat) : Int) := by unfold wrap64; omega
    have hj : wrap64 ((wrap64 ((l.length : Int) - 1)) - (i : Int)) = (d : Int) := by unfold wrap64; omega
    have hr : rd l (i : Int) = l[i]'(by omega) := by simp [rd, List.getElem?_eq_getElem (show i < l.length by omega)]
    simp only [XRef.observatoryref03_text.l0]
    rw [hj, hw, if_pos (by omega), if_pos (by omega), if_pos (by omega), if_pos (by simp; omega), hr]
    have ht : l.take (i + 1) = l.take i ++ [l[i]'(by omega)] := by rw [List.take_succ_eq_append_getElem (show i < l.length by omega)]
    have hset : (List.replicate (d + 1) (0 : Int) ++ ((l.take i).map fun x => (x + 48) % 256).reverse).set (d : Int).toNat ((l[i]'(by omega) + 48) % 256) = List.replicate d 0 ++ ((l.take (i + 1)).map fun x => (x + 48) % 256).reverse := by
      rw [ht, List.map_append, List.reverse_append, List.replicate_succ', List.append_assoc]
      rw [show (d : Int).toNat = (List.replicate d (0 : Int)).length + 0 by simp, List.set_append_right _ _ (by omega)]
      simp
    rw [hset]
    exact rtext_loop l h hl h1 d (i + 1) k (by omega) (by omega)
theorem rtext (l : List Int) (h : Dg l) (hl : l.length ≤ 5000) (h1 : 1 ≤ l.length) (k : Nat) (hk : 11000 ≤ k) : XRef.observatoryref03_text.f k l = some (decS (dv l).toNat) := by
  unfold XRef.observatoryref03_text.f
  rw [if_pos (by omega), if_pos (by omega)]
  have := rtext_loop l h hl h1 l.length 0 k (by omega) (by omega)
  rw [show ((0 : Nat) : Int) = 0 from rfl, List.take_zero, List.map_nil, List.reverse_nil, List.append_nil] at this
  rw [show ((l.length : Int)).toNat = l.length by omega]
  exact this

/-! ### the digits of a string, from the last -/
def dsL (l : List UInt8) : List Int := l.reverse.map fun c => ((c.toNat - 48 : Nat) : Int)
def ds (a : ByteArray) : List Int := dsL a.data.toList
theorem ds_len (a : ByteArray) : (ds a).length = a.size := by simp [ds, dsL]
theorem dsL_dg {l : List UInt8} (h : ∀ c ∈ l, isDig c = true) : Dg (dsL l) := by
  intro x hx
  simp only [dsL, List.mem_map, List.mem_reverse] at hx
  obtain ⟨c, hc, rfl⟩ := hx
  have := h c hc
  simp only [isDig, decide_eq_true_eq] at this
  omega
theorem dv_append (a b : List Int) : dv (a ++ b) = dv a + tp a.length * dv b := by
  induction a with
  | nil => simp [dv, tp]
  | cons x a ih => simp only [List.cons_append, dv, List.length_cons, tp, ih]; grind
theorem dsL_dv (l : List UInt8) : dv (dsL l) = num l := by
  induction l with
  | nil => rfl
  | cons c r ih =>
    rw [show dsL (c :: r) = dsL r ++ [((c.toNat - 48 : Nat) : Int)] by simp [dsL], dv_append, ih, num_cons]
    rw [show (dsL r).length = r.length by simp [dsL]]
    simp only [dv]
    grind
theorem ds_dv (a : ByteArray) : dv (ds a) = valS a := dsL_dv _
theorem dv_drop (l : List Int) (i : Nat) : dv (l.drop i) = at0 l i + 10 * dv (l.drop (i + 1)) := by
  by_cases h : i < l.length
  · rw [List.drop_eq_getElem_cons h, at0_eq h]; rfl
  · rw [List.drop_of_length_le (by omega), List.drop_of_length_le (by omega)]
    simp [at0, List.getElem?_eq_none (show l.length ≤ i by omega), dv]
theorem at0_dg {l : List Int} (h : Dg l) (i : Nat) : 0 ≤ at0 l i ∧ at0 l i < 10 := by
  by_cases hi : i < l.length
  · rw [at0_eq hi]; exact h _ (List.getElem_mem hi)
  · simp [at0, List.getElem?_eq_none (show l.length ≤ i by omega)]
theorem rat (a : ByteArray) (hd : ∀ c ∈ a.data.toList, isDig c = true) (hs : a.size ≤ 100000) (i : Nat) (hi : i ≤ 1000000) : XRef.observatoryref03_at.f a (i : Int) = some (at0 (ds a) i) := by
  unfold XRef.observatoryref03_at.f
  by_cases h : (i : Int) ≥ (a.size : Int)
  · rw [if_pos h]
    simp [at0, List.getElem?_eq_none (show (ds a).length ≤ i by rw [ds_len]; omega)]
  · have hj : wrap64 ((wrap64 ((a.size : Int) - 1)) - (i : Int)) = ((a.size - 1 - i : Nat) : Int) := by unfold wrap64; omega
    have hlt : a.size - 1 - i < a.data.toList.length := by rw [size_list]; omega
    rw [if_neg h, hj, if_pos (by omega), if_pos (by omega), bt_list (by omega), at0_eq (by rw [ds_len]; omega)]
    have hx : (ds a)[i]'(by rw [ds_len]; omega) = (((a.data.toList[a.size - 1 - i]'hlt).toNat - 48 : Nat) : Int) := by
      simp only [ds, dsL, List.getElem_map, List.getElem_reverse]
      rfl
    have hc := hd _ (List.getElem_mem hlt)
    simp only [isDig, decide_eq_true_eq] at hc
    rw [hx]
    congr 1
    omega
/-! ### sums -/
theorem radd_loop (a b : ByteArray) (ha : ∀ c ∈ a.data.toList, isDig c = true) (hb : ∀ c ∈ b.data.toList, isDig c = true) (s1 : 1 ≤ a.size) (sa : a.size ≤ 1000) (sb : b.size ≤ 1000) :
    ∀ (d i k : Nat) (c : Int) (out : List Int), a.size ≤ i + d → b.size ≤ i + d → i + d ≤ 1000 → out.length = i → 2 * d + 12000 ≤ k → Dg out → 0 ≤ c → c ≤ 1 → 1 ≤ i + d →
    ∃ R, Dg R ∧ dv R = c + dv ((ds a).drop i) + dv ((ds b).drop i) ∧ XRef.observatoryref03_add.l0 k a b out c (i : Int) = some (decS (dv (out ++ R)).toNat)
  | 0, i, k, c, out, h1, h2, h3, hl, hk, ho, c0, c1, hi => by
    obtain ⟨k, rfl⟩ : ∃ m, k = m + 1 + 1 + 1 + 1 := ⟨k - 4, by omega⟩
    have za : (ds a).drop i = [] := List.drop_of_length_le (by rw [ds_len]; omega)
    have zb : (ds b).drop i = [] := List.drop_of_length_le (by rw [ds_len]; omega)
    have ya : at0 (ds a) i = 0 := by simp [at0, List.getElem?_eq_none (show (ds a).length ≤ i by rw [ds_len]; omega)]
    have yb : at0 (ds b) i = 0 := by simp [at0, List.getElem?_eq_none (show (ds b).length ≤ i by rw [ds_len]; omega)]
    rw [za, zb]
    simp only [XRef.observatoryref03_add.l0]
    rw [if_neg (by omega), if_neg (by omega)]
    by_cases hc : c > 0
    · have : c = 1 := by omega
      subst this
      have hw : wrap64 ((i : Int) + 1) = ((i + 1 : Nat) : Int) := by unfold wrap64; omega
      refine ⟨[1], Dg.cons (by decide) (by decide) (by intro x hx; simp at hx), by simp [dv], ?_⟩
      simp only [XRef.observatoryref03_add.j1]
      rw [if_pos (by decide), rat a ha (by omega) i (by omega), rat b hb (by omega) i (by omega), ya, yb]
      simp only [Option.bind_some]
      rw [if_pos (by omega), hw, show wrap64 ((wrap64 ((0 : Int) + 0)) + 1) = 1 by unfold wrap64; omega, show (Int.tmod 1 10) % 256 = 1 by decide, show Int.tdiv 1 10 = 0 by decide, show wrap64 0 = 0 by unfold wrap64; omega]
      simp only [XRef.observatoryref03_add.l0]
      rw [if_neg (by omega), if_neg (by omega), show decide ((0 : Int) > 0) = false by decide]
      simp only [XRef.observatoryref03_add.j1]
      rw [if_neg (by decide), rtext _ (ho.append (Dg.cons (by decide) (by decide) (by intro x hx; simp at hx))) (by simp; omega) (by simp) _ (by omega)]
      rfl
    · have : c = 0 := by omega
      subst this
      refine ⟨[], by intro x hx; simp at hx, by simp [dv], ?_⟩
      simp only [XRef.observatoryref03_add.j1]
      rw [if_neg (by decide), rtext _ ho (by omega) (by omega) _ (by omega), List.append_nil]
      rfl
  | d + 1, i, k, c, out, h1, h2, h3, hl, hk, ho, c0, c1, hi => by
    by_cases hlow : a.size ≤ i + d ∧ b.size ≤ i + d ∧ 1 ≤ i + d
    · exact radd_loop a b ha hb s1 sa sb d i k c out hlow.1 hlow.2.1 (by omega) hl (by omega) ho c0 c1 hlow.2.2
    obtain ⟨k, rfl⟩ : ∃ m, k = m + 1 + 1 := ⟨k - 2, by omega⟩
    have hw : wrap64 ((i : Int) + 1) = ((i + 1 : Nat) : Int) := by unfold wrap64; omega
    have da := at0_dg (dsL_dg ha) i
    have db := at0_dg (dsL_dg hb) i
    have ea := dv_drop (ds a) i
    have eb := dv_drop (ds b) i
    rw [show dsL a.data.toList = ds a from rfl] at da
    rw [show dsL b.data.toList = ds b from rfl] at db
    have hn : wrap64 ((wrap64 (at0 (ds a) i + at0 (ds b) i)) + c) = at0 (ds a) i + at0 (ds b) i + c := by unfold wrap64; omega
    have hm : (Int.tmod (at0 (ds a) i + at0 (ds b) i + c) 10) % 256 = (at0 (ds a) i + at0 (ds b) i + c) % 10 := by
      rw [Int.tmod_eq_emod_of_nonneg (by omega)]; omega
    have hq : wrap64 (Int.tdiv (at0 (ds a) i + at0 (ds b) i + c) 10) = (at0 (ds a) i + at0 (ds b) i + c) / 10 := by
      rw [Int.tdiv_eq_ediv_of_nonneg (by omega)]; unfold wrap64; omega
    obtain ⟨R, gR, eR, hR⟩ := radd_loop a b ha hb s1 sa sb d (i + 1) k ((at0 (ds a) i + at0 (ds b) i + c) / 10) (out ++ [(at0 (ds a) i + at0 (ds b) i + c) % 10]) (by omega) (by omega) (by omega) (by simp; omega) (by omega)
      (ho.append (Dg.cons (by omega) (by omega) (by intro x hx; simp at hx))) (by omega) (by omega) (by omega)
    refine ⟨(at0 (ds a) i + at0 (ds b) i + c) % 10 :: R, Dg.cons (by omega) (by omega) gR, by simp only [dv]; omega, ?_⟩
    simp only [XRef.observatoryref03_add.l0]
    have hj : XRef.observatoryref03_add.j1 (k + 1) a b out c (i : Int) true = some (decS (dv (out ++ (at0 (ds a) i + at0 (ds b) i + c) % 10 :: R)).toNat) := by
      simp only [XRef.observatoryref03_add.j1]
      rw [if_pos (by decide), rat a ha (by omega) i (by omega), rat b hb (by omega) i (by omega)]
      simp only [Option.bind_some]
      rw [if_pos (by omega), hn, hm, hq, hw, hR, List.append_assoc]
      rfl
    by_cases q1 : (i : Int) < a.size
    · rw [if_pos q1]; exact hj
    · rw [if_neg q1]
      by_cases q2 : (i : Int) < b.size
      · rw [if_pos q2]; exact hj
      · omega
theorem radd (a b : ByteArray) (ha : validS a = true) (hb : validS b = true) (k : Nat) (hk : 20000 ≤ k) : XRef.observatoryref03_add.f k a b = some (decS (valS a + valS b)) := by
  obtain ⟨a1, a2, a3, _⟩ := validL_iff.1 ha
  obtain ⟨b1, b2, b3, _⟩ := validL_iff.1 hb
  rw [size_list] at a1 a2 b1 b2
  obtain ⟨R, gR, eR, hR⟩ := radd_loop a b a3 b3 a1 a2 b2 1000 0 k 0 [] (by omega) (by omega) (by omega) rfl (by omega) (by intro x hx; simp at hx) (by decide) (by decide) (by omega)
  unfold XRef.observatoryref03_add.f
  rw [show ((0 : Nat) : Int) = 0 from rfl] at hR
  rw [hR, List.nil_append, eR, List.drop_zero, List.drop_zero, ds_dv, ds_dv]
  congr 2
  omega
/-! ### differences -/
theorem rsub_loop (a b : ByteArray) (ha : ∀ c ∈ a.data.toList, isDig c = true) (hb : ∀ c ∈ b.data.toList, isDig c = true) (sa : a.size ≤ 1001) (sb : b.size ≤ 1000) (s1 : 1 ≤ a.size) :
    ∀ (d i k : Nat) (c : Int) (out : List Int), i + d = a.size → out.length = i → d + 11001 ≤ k → Dg out → 0 ≤ c → c ≤ 1 → dv ((ds b).drop i) + c ≤ dv ((ds a).drop i) →
    ∃ R, Dg R ∧ dv R = dv ((ds a).drop i) - dv ((ds b).drop i) - c ∧ XRef.observatoryref03_sub.l0 k a b out c (i : Int) = some (decS (dv (out ++ R)).toNat)
  | 0, i, k, c, out, hi, hl, hk, ho, c0, c1, hle => by
    obtain ⟨k, rfl⟩ : ∃ m, k = m + 1 := ⟨k - 1, by omega⟩
    have za : (ds a).drop i = [] := List.drop_of_length_le (by rw [ds_len]; omega)
    have zb : 0 ≤ dv ((ds b).drop i) := dv_nonneg (fun x hx => dsL_dg hb x (List.mem_of_mem_drop hx))
    rw [za] at hle ⊢
    simp only [dv] at hle ⊢
    refine ⟨[], by intro x hx; simp at hx, by simp only [dv]; omega, ?_⟩
    simp only [XRef.observatoryref03_sub.l0]
    rw [if_neg (by omega), rtext _ ho (by omega) (by omega) _ (by omega), List.append_nil]
    rfl
  | d + 1, i, k, c, out, hi, hl, hk, ho, c0, c1, hle => by
    obtain ⟨k, rfl⟩ : ∃ m, k = m + 1 := ⟨k - 1, by omega⟩
    have hw : wrap64 ((i : Int) + 1) = ((i + 1 : Nat) : Int) := by unfold wrap64; omega
    have da := at0_dg (dsL_dg ha) i
    have db := at0_dg (dsL_dg hb) i
    have ea := dv_drop (ds a) i
    have eb := dv_drop (ds b) i
    rw [show dsL a.data.toList = ds a from rfl] at da
    rw [show dsL b.data.toList = ds b from rfl] at db
    generalize hx : at0 (ds a) i = x at da ea
    generalize hy : at0 (ds b) i = y at db eb
    have hn : wrap64 ((wrap64 ((wrap64 (x - y)) - c)) + 10) = x - y - c + 10 := by unfold wrap64; omega
    have hm : (Int.tmod (x - y - c + 10) 10) % 256 = (x - y - c + 10) % 10 := by rw [Int.tmod_eq_emod_of_nonneg (by omega)]; omega
    have hq : wrap64 (1 - (wrap64 (Int.tdiv (x - y - c + 10) 10))) = 1 - (x - y - c + 10) / 10 := by
      rw [Int.tdiv_eq_ediv_of_nonneg (by omega)]; unfold wrap64; omega
    obtain ⟨R, gR, eR, hR⟩ := rsub_loop a b ha hb sa sb s1 d (i + 1) k (1 - (x - y - c + 10) / 10) (out ++ [(x - y - c + 10) % 10]) (by omega) (by simp; omega) (by omega)
      (ho.append (Dg.cons (by omega) (by omega) (by intro x hx; simp at hx))) (by omega) (by omega) (by omega)
    refine ⟨(x - y - c + 10) % 10 :: R, Dg.cons (by omega) (by omega) gR, by simp only [dv]; omega, ?_⟩
    simp only [XRef.observatoryref03_sub.l0]
    rw [if_pos (by omega), rat a ha (by omega) i (by omega), rat b hb (by omega) i (by omega), hx, hy]
    simp only [Option.bind_some]
    rw [if_pos (by omega), hn, hm, hq, hw, hR, List.append_assoc]
    rfl
theorem rsub (a b : ByteArray) (a1 : 1 ≤ a.size) (a2 : a.size ≤ 1001) (a3 : ∀ c ∈ a.data.toList, isDig c = true) (b2 : b.size ≤ 1000) (b3 : ∀ c ∈ b.data.toList, isDig c = true) (h : valS b ≤ valS a) (k : Nat) (hk : 13000 ≤ k) :
    XRef.observatoryref03_sub.f k a b = some (decS (valS a - valS b)) := by
  obtain ⟨R, gR, eR, hR⟩ := rsub_loop a b a3 b3 a2 b2 a1 a.size 0 k 0 [] (by omega) rfl (by omega) (by intro x hx; simp at hx) (by decide) (by decide) (by rw [List.drop_zero, List.drop_zero, ds_dv, ds_dv]; omega)
  unfold XRef.observatoryref03_sub.f
  rw [show ((0 : Nat) : Int) = 0 from rfl] at hR
  rw [hR, List.nil_append, eR, List.drop_zero, List.drop_zero, ds_dv, ds_dv]
  congr 2
  omega
end Go.Proofs.YtdhhbmmidgebhaaGreatDoor

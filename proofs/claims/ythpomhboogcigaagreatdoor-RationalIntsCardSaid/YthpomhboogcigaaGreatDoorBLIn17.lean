/- The texts of this claim, laid together by a program of this session (bundle.py). -/
import Derived.Test.YthpomhboogcigaaGreatDoorBLIn1
import Derived.Test.YthpomhboogcigaaGreatDoorBLIn10
import Derived.Test.YthpomhboogcigaaGreatDoorBLIn16
import Derived.Test.YthpomhboogcigaaGreatDoorProg
import Derived.Below
import Derived.Deep.Draws
import Derived.Deep.AppendLies
import Derived.Maps.AppendAt
import Derived.OwnWalk
import Derived.Laws.BytesArg
import Derived.Laws.MakeOwn
import Derived.Laws.OwnMore
import Derived.Deep.OwnRows
import Derived.Tactics
import Derived.Lib.ConvBytes
import Derived.Laws.Slices
import Derived.WalkKit
import Derived.KernelRfl
import Derived.RowKit3
import Derived.Deep.LoopGhost
import Derived.Deep.QuietTactic
import Derived.BigQuiet
import Derived.WideLaws
import Derived.Deep.DeepCutAuto
import Derived.Deep.CutBlock
import Derived.Deep.RegionHeld3
import Derived.Laws.Rows
import Derived.Lib.AppendStr
import Derived.ArgAppend
import Derived.Laws.IdiomCopy
import Derived.OrdersHeld
import Derived.Laws.BitsLemmas
import Derived.RowKit
section -- NatRefA
namespace Go.Proofs.YthpomhboogcigaaGreatDoor
open Go.RowKit Go.Proofs.YthpomhboogcigaaGreatDoorW.PrintWords Go.Proofs.YthpomhboogcigaaGreatDoorW.PrintMore Go.Proofs.YthpomhboogcigaaGreatDoorW.PrintLast
open Go.Lib (decDigits)
set_option linter.unusedVariables false
set_option linter.unusedSimpArgs false
theorem bt_list {a : ByteArray} {i : Nat} (h : i < a.size) : bt a (i : Int) = ((a.data.toList[i]'h).toNat : Int) := by
  unfold bt
  rw [dif_pos (show ((i : Int)).toNat < a.size by omega)]
  rfl
theorem isDig_int (c : UInt8) : isDig c = (!decide ((c.toNat : Int) < 48) && !decide ((c.toNat : Int) > 57)) := by
  rw [Bool.eq_iff_iff]; unfold isDig; simp only [decide_eq_true_eq, Bool.and_eq_true, Bool.not_eq_true', decide_eq_false_iff_not]; omega
theorem rvalid_loop (a : ByteArray) (hs : a.size ≤ 1000) : ∀ (d i k : Nat), i + d = a.size → d < k → XRef.observatoryref03_Valid.l0 k a (i : Int) = some ((a.data.toList.drop i).all isDig)
  | 0, i, k, hi, hk => by
    obtain ⟨k, rfl⟩ : ∃ m, k = m + 1 := ⟨k - 1, by omega⟩
    simp only [XRef.observatoryref03_Valid.l0]
    rw [if_neg (by omega), List.drop_of_length_le (by rw [size_list]; omega)]; rfl
  | d + 1, i, k, hi, hk => by
    obtain ⟨k, rfl⟩ : ∃ m, k = m + 1 := ⟨k - 1, by omega⟩
    have hw : wrap64 ((i : Int) + 1) = ((i + 1 : Nat) : Int) := by unfold wrap64; omega
    have hl : i < a.data.toList.length := by rw [size_list]; omega
    simp only [XRef.observatoryref03_Valid.l0]
    rw [if_pos (by omega), if_pos (by omega), bt_list (by omega), hw, List.drop_eq_getElem_cons hl, List.all_cons, isDig_int, rvalid_loop a hs d (i + 1) k (by omega) (by omega)]
    by_cases h1 : ((a.data.toList[i]'hl).toNat : Int) < 48
    · rw [if_pos h1, decide_eq_true h1]; rfl
    · rw [if_neg h1, decide_eq_false h1]
      by_cases h2 : ((a.data.toList[i]'hl).toNat : Int) > 57
      · rw [if_pos h2, decide_eq_true h2]; rfl
      · rw [if_neg h2, decide_eq_false h2]; rfl
theorem rvalid (a : ByteArray) (k : Nat) (hk : 1010 ≤ k) : XRef.observatoryref03_Valid.f k a = some (validS a) := by
  obtain ⟨k, rfl⟩ : ∃ m, k = m + 1 := ⟨k - 1, by omega⟩
  unfold XRef.observatoryref03_Valid.f validS validL
  simp only [XRef.observatoryref03_Valid.j0]
  rw [size_list]
  by_cases h1 : (a.size : Int) < 1
  · rw [if_pos h1, decide_eq_false (show ¬ 1 ≤ a.size by omega)]; rfl
  rw [if_neg h1, decide_eq_true (show 1 ≤ a.size by omega)]
  by_cases h2 : (a.size : Int) > 1000
  · rw [if_pos h2, decide_eq_false (show ¬ a.size ≤ 1000 by omega)]; rfl
  rw [if_neg h2, decide_eq_true (show a.size ≤ 1000 by omega)]
  have hloop := rvalid_loop a (by omega) a.size 0 k (by omega) (by omega)
  rw [show ((0 : Nat) : Int) = 0 from rfl, List.drop_zero] at hloop
  rw [hloop]
  by_cases h3 : (a.size : Int) > 1
  · rw [if_pos h3, if_pos (by omega), decide_eq_false (show ¬ a.size = 1 by omega)]
    have hb := bt_list (a := a) (i := 0) (by omega)
    rw [show ((0 : Nat) : Int) = 0 from rfl] at hb
    have hh : (a.data.toList.head? == some 48) = (bt a 0 == 48) := by
      rw [hb, List.head?_eq_getElem?, List.getElem?_eq_getElem (by rw [size_list]; omega), Bool.eq_iff_iff, beq_iff_eq, beq_iff_eq, Option.some.injEq]
      constructor
      · intro h; rw [h]; rfl
      · intro h; exact UInt8.toNat_inj.1 (by have h48 : (48 : UInt8).toNat = 48 := rfl; omega)
    rw [hh]
    cases (bt a 0 == 48) <;> simp
  · rw [if_neg h3, decide_eq_true (show a.size = 1 by omega)]
    simp
theorem rtrimmed_loop (a : ByteArray) (hs : a.size ≤ 100000) (hd : ∀ c ∈ a.data.toList, isDig c = true) : ∀ (d i k : Nat), i + 1 + d = a.size → d < k →
    XRef.observatoryref03_trimmed.l0 k a (i : Int) = some (decS (num (a.data.toList.drop i)))
  | 0, i, k, hi, hk => by
    obtain ⟨k, rfl⟩ : ∃ m, k = m + 1 := ⟨k - 1, by omega⟩
    have hw : wrap64 ((i : Int) + 1) = ((i + 1 : Nat) : Int) := by unfold wrap64; omega
    have hl : (a.data.toList.drop i).length = 1 := by rw [List.length_drop, size_list]; omega
    simp only [XRef.observatoryref03_trimmed.l0]
    rw [hw, if_neg (by omega), if_pos (by omega), if_pos (by omega)]
    have hx : (a.extract i a.size).data.toList = a.data.toList.drop i := by rw [extract_list, ← size_list a, List.take_length]
    unfold decS
    rw [dec_num' (by omega) (fun c hc => hd c (List.mem_of_mem_drop hc)) (Or.inr hl), ← hx]
    rfl
  | d + 1, i, k, hi, hk => by
    obtain ⟨k, rfl⟩ : ∃ m, k = m + 1 := ⟨k - 1, by omega⟩
    have hw : wrap64 ((i : Int) + 1) = ((i + 1 : Nat) : Int) := by unfold wrap64; omega
    have hl : i < a.data.toList.length := by rw [size_list]; omega
    have hcons := List.drop_eq_getElem_cons hl
    simp only [XRef.observatoryref03_trimmed.l0]
    rw [hw, if_pos (by omega), if_pos (by omega), if_pos (by omega), bt_list (by omega)]
    by_cases h : ((a.data.toList[i]'hl).toNat : Int) = 48
    · rw [if_pos h, rtrimmed_loop a hs hd d (i + 1) k (by omega) (by omega), hcons, num_cons]
      rw [show (a.data.toList[i]'hl).toNat - 48 = 0 by omega, Nat.zero_mul, Nat.zero_add]
    · rw [if_neg h, if_pos (by omega)]
      have hx : (a.extract i a.size).data.toList = a.data.toList.drop i := by rw [extract_list, ← size_list a, List.take_length]
      unfold decS
      rw [dec_num' (by rw [hcons]; simp) (fun c hc => hd c (List.mem_of_mem_drop hc)) (Or.inl (by
        rw [hcons, List.head?_cons, ne_eq, Option.some.injEq]
        intro e; exact h (by rw [e]; rfl))), ← hx]
      rfl
theorem rtrimmed (a : ByteArray) (hs : a.size ≤ 100000) (h1 : 1 ≤ a.size) (hd : ∀ c ∈ a.data.toList, isDig c = true) (k : Nat) (hk : a.size ≤ k) : XRef.observatoryref03_trimmed.f k a = some (decS (valS a)) := by
  unfold XRef.observatoryref03_trimmed.f
  have := rtrimmed_loop a hs hd (a.size - 1) 0 k (by omega) (by omega)
  rw [show ((0 : Nat) : Int) = 0 from rfl, List.drop_zero] at this
  exact this
def dv : List Int → Int
  | [] => 0
  | x :: r => x + 10 * dv r
def Dg (l : List Int) : Prop := ∀ x ∈ l, 0 ≤ x ∧ x < 10
theorem Dg.tail {x : Int} {l : List Int} (h : Dg (x :: l)) : Dg l := fun y hy => h y (List.mem_cons_of_mem _ hy)
theorem Dg.cons {x : Int} {l : List Int} (h0 : 0 ≤ x) (h1 : x < 10) (h : Dg l) : Dg (x :: l) := by
  intro y hy
  rcases List.mem_cons.1 hy with rfl | hy
  · exact ⟨h0, h1⟩
  · exact h y hy
theorem Dg.append {a b : List Int} (ha : Dg a) (hb : Dg b) : Dg (a ++ b) := fun x hx => (List.mem_append.1 hx).elim (ha x) (hb x)
theorem dv_nonneg {l : List Int} (h : Dg l) : 0 ≤ dv l := by
  induction l with
  | nil => exact Int.le_refl _
  | cons x l ih => have := ih h.tail; have := h x List.mem_cons_self; unfold dv; omega
/-- The bytes that text lays: the last digit comes first. -/
def bytesOf (l : List Int) : List UInt8 := (l.map fun x => UInt8.ofNat (x + 48).toNat).reverse
theorem bytesOf_cons (x : Int) (l : List Int) : bytesOf (x :: l) = bytesOf l ++ [UInt8.ofNat (x + 48).toNat] := by simp [bytesOf]
theorem byte_dig {x : Int} (h0 : 0 ≤ x) (h1 : x < 10) : (UInt8.ofNat (x + 48).toNat).toNat = x.toNat + 48 := by
  rw [UInt8.toNat_ofNat']; omega
theorem bytesOf_digits {l : List Int} (h : Dg l) : ∀ c ∈ bytesOf l, isDig c = true := by
  intro c hc
  simp only [bytesOf, List.mem_reverse, List.mem_map] at hc
  obtain ⟨x, hx, rfl⟩ := hc
  have := h x hx
  simp only [isDig, byte_dig this.1 this.2, decide_eq_true_eq]; omega
theorem bytesOf_num {l : List Int} (h : Dg l) : (num (bytesOf l) : Int) = dv l := by
  induction l with
  | nil => rfl
  | cons x l ih =>
    have hx := h x List.mem_cons_self
    have := ih h.tail
    rw [bytesOf_cons, num_append, num_cons, byte_dig hx.1 hx.2, num_nil]
    simp only [List.length_singleton, List.length_nil, tp, dv]
    omega
theorem rtext_loop (l : List Int) (h : Dg l) (hl : l.length ≤ 5000) (h1 : 1 ≤ l.length) : ∀ (d i k : Nat), i + d = l.length → d + 5001 < k →
    XRef.observatoryref03_text.l0 k l (List.replicate d 0 ++ ((l.take i).map fun x => (x + 48) % 256).reverse) (i : Int) = some (decS (dv l).toNat)
  | 0, i, k, hi, hk => by
    obtain ⟨k, rfl⟩ : ∃ m, k = m + 1 := ⟨k - 1, by omega⟩
    simp only [XRef.observatoryref03_text.l0]
    rw [if_neg (by omega), List.replicate_zero, List.nil_append, List.take_of_length_le (by omega)]
    have hb : strOfNums ((l.map fun x => (x + 48) % 256).reverse) = ⟨(bytesOf l).toArray⟩ := by
      unfold strOfNums bytesOf
      rw [← List.map_reverse, ← List.map_reverse, List.map_map]
      congr 2
      apply List.map_congr_left
      intro x hx
      have := h x (List.mem_reverse.1 hx)
      show UInt8.ofNat ((x + 48) % 256).toNat = _
      rw [show (x + 48) % 256 = x + 48 by omega]
    have hz : (⟨(bytesOf l).toArray⟩ : ByteArray).size = l.length := by simp [ByteArray.size, bytesOf]
    rw [hb, rtrimmed _ (by omega) (by omega) (bytesOf_digits h) k (by omega)]
    show some (decS (num (bytesOf l))) = _
    congr 2
    have := bytesOf_num h
    omega
  | d + 1, i, k, hi, hk => by
    obtain ⟨k, rfl⟩ : ∃ m, k = m + 1 := ⟨k - 1, by omega⟩
    have hw : wrap64 ((i : Int) + 1) = ((i + 1 : Nat) : Int) := by unfold wrap64; omega
    have hj : wrap64 ((wrap64 ((l.length : Int) - 1)) - (i : Int)) = (d : Int) := by unfold wrap64; omega
    have hr : rd l (i : Int) = l[i]'(by omega) := by simp [rd, List.getElem?_eq_getElem (show i < l.length by omega)]
    simp only [XRef.observatoryref03_text.l0]
    rw [hj, hw, if_pos (by omega), if_pos (by omega), if_pos (by omega), if_pos (by simp; omega), hr]
    have ht : l.take (i + 1) = l.take i ++ [l[i]'(by omega)] := by rw [List.take_succ_eq_append_getElem (show i < l.length by omega)]
    have hset : (List.replicate (d + 1) (0 : Int) ++ ((l.take i).map fun x => (x + 48) % 256).reverse).set (d : Int).toNat ((l[i]'(by omega) + 48) % 256) = List.replicate d 0 ++ ((l.take (i + 1)).map fun x => (x + 48) % 256).reverse := by
      rw [ht, List.map_append, List.reverse_append, List.replicate_succ', List.append_assoc]
      rw [show (d : Int).toNat = (List.replicate d (0 : Int)).length + 0 by simp, List.set_append_right _ _ (by omega)]
      simp
    rw [hset]
    exact rtext_loop l h hl h1 d (i + 1) k (by omega) (by omega)
theorem rtext (l : List Int) (h : Dg l) (hl : l.length ≤ 5000) (h1 : 1 ≤ l.length) (k : Nat) (hk : 11000 ≤ k) : XRef.observatoryref03_text.f k l = some (decS (dv l).toNat) := by
  unfold XRef.observatoryref03_text.f
  rw [if_pos (by omega), if_pos (by omega)]
  have := rtext_loop l h hl h1 l.length 0 k (by omega) (by omega)
  rw [show ((0 : Nat) : Int) = 0 from rfl, List.take_zero, List.map_nil, List.reverse_nil, List.append_nil] at this
  rw [show ((l.length : Int)).toNat = l.length by omega]
  exact this
def dsL (l : List UInt8) : List Int := l.reverse.map fun c => ((c.toNat - 48 : Nat) : Int)
def ds (a : ByteArray) : List Int := dsL a.data.toList
theorem ds_len (a : ByteArray) : (ds a).length = a.size := by simp [ds, dsL]
theorem dsL_dg {l : List UInt8} (h : ∀ c ∈ l, isDig c = true) : Dg (dsL l) := by
  intro x hx
  simp only [dsL, List.mem_map, List.mem_reverse] at hx
  obtain ⟨c, hc, rfl⟩ := hx
  have := h c hc
  simp only [isDig, decide_eq_true_eq] at this
  omega
theorem dv_append (a b : List Int) : dv (a ++ b) = dv a + tp a.length * dv b := by
  induction a with
  | nil => simp [dv, tp]
  | cons x a ih => simp only [List.cons_append, dv, List.length_cons, tp, ih]; grind
theorem dsL_dv (l : List UInt8) : dv (dsL l) = num l := by
  induction l with
  | nil => rfl
  | cons c r ih =>
    rw [show dsL (c :: r) = dsL r ++ [((c.toNat - 48 : Nat) : Int)] by simp [dsL], dv_append, ih, num_cons]
    rw [show (dsL r).length = r.length by simp [dsL]]
    simp only [dv]
    grind
theorem ds_dv (a : ByteArray) : dv (ds a) = valS a := dsL_dv _
theorem dv_drop (l : List Int) (i : Nat) : dv (l.drop i) = at0 l i + 10 * dv (l.drop (i + 1)) := by
  by_cases h : i < l.length
  · rw [List.drop_eq_getElem_cons h, at0_eq h]; rfl
  · rw [List.drop_of_length_le (by omega), List.drop_of_length_le (by omega)]
    simp [at0, List.getElem?_eq_none (show l.length ≤ i by omega), dv]
theorem at0_dg {l : List Int} (h : Dg l) (i : Nat) : 0 ≤ at0 l i ∧ at0 l i < 10 := by
  by_cases hi : i < l.length
  · rw [at0_eq hi]; exact h _ (List.getElem_mem hi)
  · simp [at0, List.getElem?_eq_none (show l.length ≤ i by omega)]
theorem rat (a : ByteArray) (hd : ∀ c ∈ a.data.toList, isDig c = true) (hs : a.size ≤ 100000) (i : Nat) (hi : i ≤ 1000000) : XRef.observatoryref03_at.f a (i : Int) = some (at0 (ds a) i) := by
  unfold XRef.observatoryref03_at.f
  by_cases h : (i : Int) ≥ (a.size : Int)
  · rw [if_pos h]
    simp [at0, List.getElem?_eq_none (show (ds a).length ≤ i by rw [ds_len]; omega)]
  · have hj : wrap64 ((wrap64 ((a.size : Int) - 1)) - (i : Int)) = ((a.size - 1 - i : Nat) : Int) := by unfold wrap64; omega
    have hlt : a.size - 1 - i < a.data.toList.length := by rw [size_list]; omega
    rw [if_neg h, hj, if_pos (by omega), if_pos (by omega), bt_list (by omega), at0_eq (by rw [ds_len]; omega)]
    have hx : (ds a)[i]'(by rw [ds_len]; omega) = (((a.data.toList[a.size - 1 - i]'hlt).toNat - 48 : Nat) : Int) := by
      simp only [ds, dsL, List.getElem_map, List.getElem_reverse]
      rfl
    have hc := hd _ (List.getElem_mem hlt)
    simp only [isDig, decide_eq_true_eq] at hc
    rw [hx]
    congr 1
    omega
theorem rsub_loop (a b : ByteArray) (ha : ∀ c ∈ a.data.toList, isDig c = true) (hb : ∀ c ∈ b.data.toList, isDig c = true) (sa : a.size ≤ 1001) (sb : b.size ≤ 1000) (s1 : 1 ≤ a.size) :
    ∀ (d i k : Nat) (c : Int) (out : List Int), i + d = a.size → out.length = i → d + 11001 ≤ k → Dg out → 0 ≤ c → c ≤ 1 → dv ((ds b).drop i) + c ≤ dv ((ds a).drop i) →
    ∃ R, Dg R ∧ dv R = dv ((ds a).drop i) - dv ((ds b).drop i) - c ∧ XRef.observatoryref03_sub.l0 k a b out c (i : Int) = some (decS (dv (out ++ R)).toNat)
  | 0, i, k, c, out, hi, hl, hk, ho, c0, c1, hle => by
    obtain ⟨k, rfl⟩ : ∃ m, k = m + 1 := ⟨k - 1, by omega⟩
    have za : (ds a).drop i = [] := List.drop_of_length_le (by rw [ds_len]; omega)
    have zb : 0 ≤ dv ((ds b).drop i) := dv_nonneg (fun x hx => dsL_dg hb x (List.mem_of_mem_drop hx))
    rw [za] at hle ⊢
    simp only [dv] at hle ⊢
    refine ⟨[], by intro x hx; simp at hx, by simp only [dv]; omega, ?_⟩
    simp only [XRef.observatoryref03_sub.l0]
    rw [if_neg (by omega), rtext _ ho (by omega) (by omega) _ (by omega), List.append_nil]
    rfl
  | d + 1, i, k, c, out, hi, hl, hk, ho, c0, c1, hle => by
    obtain ⟨k, rfl⟩ : ∃ m, k = m + 1 := ⟨k - 1, by omega⟩
    have hw : wrap64 ((i : Int) + 1) = ((i + 1 : Nat) : Int) := by unfold wrap64; omega
    have da := at0_dg (dsL_dg ha) i
    have db := at0_dg (dsL_dg hb) i
    have ea := dv_drop (ds a) i
    have eb := dv_drop (ds b) i
    rw [show dsL a.data.toList = ds a from rfl] at da
    rw [show dsL b.data.toList = ds b from rfl] at db
    generalize hx : at0 (ds a) i = x at da ea
    generalize hy : at0 (ds b) i = y at db eb
    have hn : wrap64 ((wrap64 ((wrap64 (x - y)) - c)) + 10) = x - y - c + 10 := by unfold wrap64; omega
    have hm : (Int.tmod (x - y - c + 10) 10) % 256 = (x - y - c + 10) % 10 := by rw [Int.tmod_eq_emod_of_nonneg (by omega)]; omega
    have hq : wrap64 (1 - (wrap64 (Int.tdiv (x - y - c + 10) 10))) = 1 - (x - y - c + 10) / 10 := by
      rw [Int.tdiv_eq_ediv_of_nonneg (by omega)]; unfold wrap64; omega
    obtain ⟨R, gR, eR, hR⟩ := rsub_loop a b ha hb sa sb s1 d (i + 1) k (1 - (x - y - c + 10) / 10) (out ++ [(x - y - c + 10) % 10]) (by omega) (by simp; omega) (by omega)
      (ho.append (Dg.cons (by omega) (by omega) (by intro x hx; simp at hx))) (by omega) (by omega) (by omega)
    refine ⟨(x - y - c + 10) % 10 :: R, Dg.cons (by omega) (by omega) gR, by simp only [dv]; omega, ?_⟩
    simp only [XRef.observatoryref03_sub.l0]
    rw [if_pos (by omega), rat a ha (by omega) i (by omega), rat b hb (by omega) i (by omega), hx, hy]
    simp only [Option.bind_some]
    rw [if_pos (by omega), hn, hm, hq, hw, hR, List.append_assoc]
    rfl
theorem rsub (a b : ByteArray) (a1 : 1 ≤ a.size) (a2 : a.size ≤ 1001) (a3 : ∀ c ∈ a.data.toList, isDig c = true) (b2 : b.size ≤ 1000) (b3 : ∀ c ∈ b.data.toList, isDig c = true) (h : valS b ≤ valS a) (k : Nat) (hk : 13000 ≤ k) :
    XRef.observatoryref03_sub.f k a b = some (decS (valS a - valS b)) := by
  obtain ⟨R, gR, eR, hR⟩ := rsub_loop a b a3 b3 a2 b2 a1 a.size 0 k 0 [] (by omega) rfl (by omega) (by intro x hx; simp at hx) (by decide) (by decide) (by rw [List.drop_zero, List.drop_zero, ds_dv, ds_dv]; omega)
  unfold XRef.observatoryref03_sub.f
  rw [show ((0 : Nat) : Int) = 0 from rfl] at hR
  rw [hR, List.nil_append, eR, List.drop_zero, List.drop_zero, ds_dv, ds_dv]
  congr 2
  omega
end Go.Proofs.YthpomhboogcigaaGreatDoor
end
section -- NatRefB
namespace Go.Proofs.YthpomhboogcigaaGreatDoor
open Go.RowKit Go.Proofs.YthpomhboogcigaaGreatDoorW.PrintWords Go.Proofs.YthpomhboogcigaaGreatDoorW.PrintMore Go.Proofs.YthpomhboogcigaaGreatDoorW.PrintLast
open Go.Lib (decDigits)
set_option linter.unusedVariables false
set_option linter.unusedSimpArgs false
theorem ring_div (v n R x Q r Y : Nat) (h : 10 * R + x = Y) (hd : n * Q + r = Y) : (v * n + R) * 10 + x = (v * 10 + Q) * n + r := by
  have : v * 10 * n = v * n * 10 := by rw [Nat.mul_assoc, Nat.mul_comm 10 n, Nat.mul_assoc]
  rw [Nat.add_mul, Nat.add_mul, this, Nat.mul_comm Q n]; omega
theorem w_succ {i : Nat} (h : i ≤ 9000000000000000) : wrap64 ((i : Int) + 1) = ((i + 1 : Nat) : Int) := by unfold wrap64; omega
theorem tp_succ (n : Nat) : tp (n + 1) = 10 * tp n := rfl
attribute [local irreducible] tp dv at0 ds dsL num
theorem less_lists : ∀ (l m : List UInt8), (∀ c ∈ l, isDig c = true) → (∀ c ∈ m, isDig c = true) → l.length = m.length → Op.bytesLess l m = decide (num l < num m)
  | [], [], _, _, _ => by rw [decide_eq_false (Nat.lt_irrefl _)]; rfl
  | [], _ :: _, _, _, h => by simp at h
  | _ :: _, [], _, _, h => by simp at h
  | x :: l, y :: m, hl, hm, h => by
    have h' : l.length = m.length := by simpa using h
    have ih := less_lists l m (fun c hc => hl c (List.mem_cons_of_mem _ hc)) (fun c hc => hm c (List.mem_cons_of_mem _ hc)) h'
    have ll := num_lt (fun c hc => hl c (List.mem_cons_of_mem _ hc))
    have lm := num_lt (fun c hc => hm c (List.mem_cons_of_mem _ hc))
    have dx := hl x List.mem_cons_self
    have dy := hm y List.mem_cons_self
    simp only [isDig, decide_eq_true_eq] at dx dy
    show (decide (x < y) || (x == y && Op.bytesLess l m)) = _
    rw [ih, num_cons, num_cons, h']
    rw [h'] at ll
    rcases Nat.lt_trichotomy x.toNat y.toNat with q | q | q
    · have e1 : decide (x < y) = true := decide_eq_true (UInt8.lt_iff_toNat_lt.2 q)
      have : (x.toNat - 48 + 1) * tp m.length ≤ (y.toNat - 48) * tp m.length := Nat.mul_le_mul_right _ (by omega)
      rw [Nat.succ_mul] at this
      rw [e1, Bool.true_or]
      exact (decide_eq_true (by omega)).symm
    · have e0 : x = y := UInt8.toNat_inj.1 q
      subst e0
      have e1 : decide (x < x) = false := decide_eq_false (by rw [UInt8.lt_iff_toNat_lt]; omega)
      rw [e1, beq_self_eq_true, Bool.false_or, Bool.true_and]
      congr 1
      rw [eq_iff_iff]; omega
    · have e1 : decide (x < y) = false := decide_eq_false (by rw [UInt8.lt_iff_toNat_lt]; omega)
      have e2 : (x == y) = false := beq_eq_false_iff_ne.2 (fun e => by rw [e] at q; omega)
      have : (y.toNat - 48 + 1) * tp m.length ≤ (x.toNat - 48) * tp m.length := Nat.mul_le_mul_right _ (by omega)
      rw [Nat.succ_mul] at this
      rw [e1, e2, Bool.false_and, Bool.or_false]
      exact (decide_eq_false (by omega)).symm
theorem decS_list (n : Nat) : (decS n).toList = decDigits n := by rw [Lib.toList_data]; rfl
theorem rless (x y : Nat) : XRef.observatoryref03_less.f (decS x) (decS y) = some (decide (x < y)) := by
  unfold XRef.observatoryref03_less.f
  rw [size_decS, size_decS]
  by_cases h : (decDigits x).length = (decDigits y).length
  · rw [if_pos (by omega), decS_list, decS_list, less_lists _ _ (dec_digits x) (dec_digits y) h, num_dec, num_dec]
  · rw [if_neg (by omega)]
    congr 1
    rw [decide_eq_decide]
    by_cases hxy : x < y
    · have := dec_mono (Nat.le_of_lt hxy); omega
    · have := dec_mono (show y ≤ x by omega); omega
theorem digit_piece : ∀ n : Fin 10, (⟨#[48, 49, 50, 51, 52, 53, 54, 55, 56, 57]⟩ : ByteArray).extract n.val (n.val + 1) = ⟨#[UInt8.ofNat (48 + n.val)]⟩ := by decide +kernel
theorem decS_digits (n : Nat) : ∀ c ∈ (decS n).data.toList, isDig c = true := dec_digits n
theorem dec_len10 {X n : Nat} (h : X < 10 * n) : (decDigits X).length ≤ (decDigits n).length + 1 := by
  refine dec_len_le ?_ (by omega)
  have := dec_lt n
  rw [tp_succ]; omega
theorem rdiv_in (a : ByteArray) (n : Nat) (hn : 0 < n) (hn1 : (decDigits n).length ≤ 1000) (q : ByteArray) (hq : q.size ≤ 1000) (i : Nat) (hi : i ≤ 1000) (F : Nat) (r : ByteArray × ByteArray) : ∀ (m X c k : Nat), X / n = m → c + m ≤ 9 → X < 10 * n →
    (∀ k, F ≤ k → XRef.observatoryref03_div.l0 k a (decS n) (q ++ ⟨#[UInt8.ofNat (48 + (c + m))]⟩) (decS (X % n)) ((i + 1 : Nat) : Int) = some r) → F + m + 1 ≤ k → 13100 + m ≤ k →
    XRef.observatoryref03_div.l1 k a (decS n) q (decS X) (i : Int) (c : Int) = some r
  | 0, X, c, k, hm, hc, hX, H, hk, hk2 => by
    obtain ⟨k, rfl⟩ : ∃ m, k = m + 1 := ⟨k - 1, by omega⟩
    have hlt : X < n := by
      rcases Nat.div_eq_zero_iff.1 hm with h | h
      · omega
      · exact h
    have hwc : Aside0 (wrap64 ((c : Int) + 1) = ((c + 1 : Nat) : Int)) := Aside0.mk (w_succ (by omega))
    have hwi : Aside0 (wrap64 ((i : Int) + 1) = ((i + 1 : Nat) : Int)) := Aside0.mk (w_succ (by omega))
    have hp := digit_piece ⟨c, by omega⟩
    simp only [XRef.observatoryref03_div.l1]
    rw [rless, decide_eq_true hlt, Option.bind_some, if_pos rfl, hwc.out, hwi.out, if_pos (by omega), if_pos (by omega), if_pos (by omega), show ((c : Int)).toNat = c by omega, show (((c + 1 : Nat) : Int)).toNat = c + 1 by omega, hp]
    have hs1 : (⟨#[UInt8.ofNat (48 + c)]⟩ : ByteArray).size = 1 := rfl
    rw [if_pos (by rw [hs1]; omega)]
    have := H k (by omega)
    rw [Nat.mod_eq_of_lt hlt, Nat.add_zero] at this
    exact this
  | m + 1, X, c, k, hm, hc, hX, H, hk, hk2 => by
    obtain ⟨k, rfl⟩ : ∃ m, k = m + 1 := ⟨k - 1, by omega⟩
    have hge : n ≤ X := by
      by_cases h : n ≤ X
      · exact h
      · rw [Nat.div_eq_of_lt (by omega)] at hm; omega
    have hwc : Aside0 (wrap64 ((c : Int) + 1) = ((c + 1 : Nat) : Int)) := Aside0.mk (w_succ (by omega))
    simp only [XRef.observatoryref03_div.l1]
    rw [rless, decide_eq_false (by omega)]
    simp only [Option.bind_some]
    have lX := dec_len10 hX
    rw [if_neg (by decide), rsub (decS X) (decS n) (by rw [size_decS]; exact dec_len_pos X) (by rw [size_decS]; omega) (decS_digits X) (by rw [size_decS]; omega) (decS_digits n) (by rw [valS_decS, valS_decS]; exact hge) k (by omega)]
    simp only [Option.bind_some]
    rw [valS_decS, valS_decS, hwc.out]
    have e1 : (X - n) / n = m := by
      have := Nat.add_div_right (X - n) hn
      rw [Nat.sub_add_cancel hge, hm] at this; omega
    refine rdiv_in a n hn hn1 q hq i hi F r m (X - n) (c + 1) k e1 (by omega) (by omega) (fun k' hk' => ?_) (by omega) (by omega)
    have := H k' hk'
    rw [← Nat.mod_eq_sub_mod hge, show c + 1 + m = c + (m + 1) by omega]
    exact this
theorem app_list (a b : ByteArray) : (a ++ b).data.toList = a.data.toList ++ b.data.toList := by simp
theorem rdiv_out (a : ByteArray) (n : Nat) (hn : 0 < n) (hn1 : (decDigits n).length ≤ 1000) (ha : ∀ c ∈ a.data.toList, isDig c = true) (a1 : 1 ≤ a.size) (a2 : a.size ≤ 1000) : ∀ (d i k : Nat) (q : ByteArray) (R : Nat), i + d = a.size → q.size = i → (∀ c ∈ q.data.toList, isDig c = true) → R < n →
    num (a.data.toList.take i) = valS q * n + R → 20 * d + 20000 ≤ k → XRef.observatoryref03_div.l0 k a (decS n) q (decS R) (i : Int) = some (decS (valS a / n), decS (valS a % n))
  | 0, i, k, q, R, hi, hq, hd, hR, hv, hk => by
    obtain ⟨k, rfl⟩ : ∃ m, k = m + 1 := ⟨k - 1, by omega⟩
    simp only [XRef.observatoryref03_div.l0]
    rw [if_neg (by omega), rtrimmed q (by omega) (by omega) hd k (by omega)]
    simp only [Option.bind_some]
    rw [List.take_of_length_le (by rw [size_list]; omega)] at hv
    have hv' : valS a = n * valS q + R := by rw [Nat.mul_comm]; exact hv
    rw [hv', Nat.mul_add_div hn, Nat.div_eq_of_lt hR, Nat.mul_add_mod, Nat.mod_eq_of_lt hR, Nat.add_zero]
  | d + 1, i, k, q, R, hi, hq, hd, hR, hv, hk => by
    obtain ⟨k, rfl⟩ : ∃ m, k = m + 1 := ⟨k - 1, by omega⟩
    have hwi : Aside0 (wrap64 ((i : Int) + 1) = ((i + 1 : Nat) : Int)) := Aside0.mk (w_succ (by omega))
    have hil : i < a.data.toList.length := by rw [size_list]; omega
    have hx : (a.extract i (i + 1)).data.toList = [a.data.toList[i]'hil] := by
      rw [extract_list, List.take_succ_eq_append_getElem hil, List.drop_append_of_le_length (by rw [List.length_take]; omega), List.drop_of_length_le (by rw [List.length_take]; omega), List.nil_append]
    have hxs : (a.extract i (i + 1)).size = 1 := by rw [← size_list, hx]; rfl
    have hc := ha _ (List.getElem_mem hil)
    have hc' := hc
    simp only [isDig, decide_eq_true_eq] at hc'
    generalize hcc : a.data.toList[i]'hil = x at *
    have lR := dec_mono (Nat.le_of_lt hR)
    have hl2 : (decS R ++ a.extract i (i + 1)).data.toList = decDigits R ++ [x] := by rw [app_list, hx]; rfl
    have hs2 : (decS R ++ a.extract i (i + 1)).size = (decDigits R).length + 1 := by rw [← size_list, hl2, List.length_append]; rfl
    have hv2 : valS (decS R ++ a.extract i (i + 1)) = 10 * R + (x.toNat - 48) := by
      unfold valS
      rw [hl2, num_append, num_dec, num_cons, num_nil]; simp only [List.length_singleton, List.length_nil, tp]; omega
    simp only [XRef.observatoryref03_div.l0]
    rw [if_pos (by omega), hwi.out, if_pos (by omega), if_pos (by omega), if_pos (by omega), show ((i : Int)).toNat = i by omega, show (((i + 1 : Nat) : Int)).toNat = i + 1 by omega]
    rw [if_pos (by rw [hxs, size_decS]; omega), rtrimmed _ (by omega) (by omega) (by
      rw [hl2]; intro c h
      rcases List.mem_append.1 h with h | h
      · exact dec_digits R c h
      · rw [List.mem_singleton.1 h]; exact hc) k (by omega), hv2]
    simp only [Option.bind_some]
    generalize hY : 10 * R + (x.toNat - 48) = Y
    have hdm := Nat.div_add_mod Y n
    have hml := Nat.mod_lt Y hn
    have hq9 : Y / n ≤ 9 := by
      have : Y / n < 10 := Nat.div_lt_of_lt_mul (by omega)
      omega
    have hdig : (UInt8.ofNat (48 + Y / n)).toNat = 48 + Y / n := dig_nat (by omega)
    have hYt : Y < 10 * n := by omega
    rw [show (0 : Int) = ((0 : Nat) : Int) from rfl]
    refine rdiv_in a n hn hn1 q (by omega) i (by omega) (20 * d + 20000) _ (Y / n) Y 0 k rfl (by omega) hYt (fun k' hk' => ?_) (by omega) (by omega)
    have hq2 : (q ++ (⟨#[UInt8.ofNat (48 + (0 + Y / n))]⟩ : ByteArray)).data.toList = q.data.toList ++ [UInt8.ofNat (48 + Y / n)] := by rw [app_list, Nat.zero_add]
    have hx1 : num [x] = x.toNat - 48 := by rw [num_cons, num_nil]; simp [tp]
    have hx2 : num [UInt8.ofNat (48 + Y / n)] = Y / n := by rw [num_cons, num_nil, hdig]; simp [tp]
    have ht1 : ∀ z : UInt8, tp ([z] : List UInt8).length = 10 := fun z => by simp [tp]
    refine rdiv_out a n hn hn1 ha a1 a2 d (i + 1) k' _ (Y % n) (by omega) (by rw [← size_list, hq2, List.length_append, size_list, List.length_singleton]; omega) (by
      rw [hq2]; intro c h
      rcases List.mem_append.1 h with h | h
      · exact hd c h
      · rw [List.mem_singleton.1 h]; simp only [isDig, hdig, decide_eq_true_eq]; omega) hml ?_ (by omega)
    unfold valS
    rw [hq2, num_append, hx2, ht1, List.take_succ_eq_append_getElem hil, hcc, num_append, hx1, ht1, hv]
    exact ring_div _ _ _ _ _ _ _ hY hdm
end Go.Proofs.YthpomhboogcigaaGreatDoor
end
section -- NatRefC
namespace Go.Proofs.YthpomhboogcigaaGreatDoor
open Go.RowKit Go.Proofs.YthpomhboogcigaaGreatDoorW.PrintWords Go.Proofs.YthpomhboogcigaaGreatDoorW.PrintMore Go.Proofs.YthpomhboogcigaaGreatDoorW.PrintLast
open Go.Lib (decDigits)
set_option linter.unusedVariables false
set_option linter.unusedSimpArgs false
attribute [local irreducible] tp dv at0 ds dsL num
theorem two_valid {α : Type} {k : Nat} (hk : 1010 ≤ k) (a b : ByteArray) (j : Bool → Option α) :
    ((XRef.observatoryref03_Valid.f k a).bind fun t => (if t = true then ((XRef.observatoryref03_Valid.f k b).bind fun u => j (!u)) else j true)) = j (!(validS a && validS b)) := by
  rw [rvalid a k hk, rvalid b k hk, Option.bind_some]
  cases validS a
  · rw [if_neg (by decide)]; rfl
  · rw [if_pos rfl, Option.bind_some, Bool.true_and]
theorem zero_list' {a : ByteArray} (h : validS a = true) : a.toList = ([48] : List UInt8) ↔ valS a = 0 := by
  have := zero_iff h
  rw [Bool.eq_iff_iff, beq_iff_eq, decide_eq_true_eq] at this
  exact this
theorem zero_str : (⟨#[48]⟩ : ByteArray) = decS 0 := by
  have h : validS ⟨#[48]⟩ = true := by decide
  have h2 : valS ⟨#[48]⟩ = 0 := by unfold valS; simp [num_cons, num_nil]
  rw [← h2, decS_valS h]
theorem rdiv (a b : ByteArray) (ha : validS a = true) (hb : validS b = true) (h0 : ¬ valS b = 0) (k : Nat) (hk : 50000 ≤ k) : XRef.observatoryref03_div.f k a b = some (decS (valS a / valS b), decS (valS a % valS b)) := by
  obtain ⟨a1, a2, a3, _⟩ := validL_iff.1 ha
  obtain ⟨b1, b2, b3, _⟩ := validL_iff.1 hb
  rw [size_list] at a1 a2 b1 b2
  unfold XRef.observatoryref03_div.f
  have := rdiv_out a (valS b) (by omega) (by rw [dec_len_valS hb]; omega) a3 a1 a2 a.size 0 k ⟨#[]⟩ 0 (by omega) rfl (by intro c h; simp at h) (by omega) (by unfold valS; simp [num_nil]) (by omega)
  rw [decS_valS hb, ← zero_str, show ((0 : Nat) : Int) = 0 from rfl] at this
  exact this
theorem rgcd_loop (y : Nat) : ∀ (x : Nat), (decDigits x).length ≤ 1000 → (decDigits y).length ≤ 1000 → ∃ K, ∀ k, K ≤ k → XRef.observatoryref03_Gcd.l0 k (decS x) (decS y) = some (decS (Nat.gcd y x), 0) := by
  induction y using Nat.strongRecOn with
  | _ y ih =>
    intro x hx hy
    have vy : validS (decS y) = true := validS_decS hy
    have vx : validS (decS x) = true := validS_decS hx
    by_cases h : y = 0
    · refine ⟨1, fun k hk => ?_⟩
      obtain ⟨k, rfl⟩ : ∃ m, k = m + 1 := ⟨k - 1, by omega⟩
      simp only [XRef.observatoryref03_Gcd.l0]
      rw [if_pos ((zero_list' vy).2 (by rw [valS_decS]; exact h)), h, Nat.gcd_zero_left]
    · have hlt := Nat.mod_lt x (Nat.pos_of_ne_zero h)
      obtain ⟨K, hK⟩ := ih (x % y) hlt y hy (by have := dec_mono (Nat.le_of_lt hlt); omega)
      refine ⟨K + 50001, fun k hk => ?_⟩
      obtain ⟨k, rfl⟩ : ∃ m, k = m + 1 := ⟨k - 1, by omega⟩
      simp only [XRef.observatoryref03_Gcd.l0]
      rw [if_neg (fun e => h (by have := (zero_list' vy).1 e; rw [valS_decS] at this; exact this)), rdiv _ _ vx vy (by rw [valS_decS]; exact h) k (by omega), Option.bind_some, valS_decS, valS_decS]
      rw [hK k (by omega), ← Nat.gcd_rec]
theorem rGcd (a b : ByteArray) : ∃ k, XRef.observatoryref03_Gcd.f k a b = some (gcdS a b) := by
  cases ha : validS a
  · refine ⟨2000, ?_⟩
    unfold XRef.observatoryref03_Gcd.f
    rw [two_valid (by omega) a b (fun x => XRef.observatoryref03_Gcd.j0 2000 a b x)]
    unfold gcdS
    rw [ha, show (2000 : Nat) = 1999 + 1 from rfl]
    simp only [XRef.observatoryref03_Gcd.j0]
    rfl
  cases hb : validS b
  · refine ⟨2000, ?_⟩
    unfold XRef.observatoryref03_Gcd.f
    rw [two_valid (by omega) a b (fun x => XRef.observatoryref03_Gcd.j0 2000 a b x)]
    unfold gcdS
    rw [ha, hb, show (2000 : Nat) = 1999 + 1 from rfl]
    simp only [XRef.observatoryref03_Gcd.j0]
    rfl
  obtain ⟨a1, a2, a3, _⟩ := validL_iff.1 ha
  obtain ⟨b1, b2, b3, _⟩ := validL_iff.1 hb
  rw [size_list] at a1 a2 b1 b2
  obtain ⟨K, hK⟩ := rgcd_loop (valS b) (valS a) (by rw [dec_len_valS ha]; omega) (by rw [dec_len_valS hb]; omega)
  refine ⟨K + 2000 + 1, ?_⟩
  unfold XRef.observatoryref03_Gcd.f
  rw [two_valid (by omega) a b (fun x => XRef.observatoryref03_Gcd.j0 (K + 2000 + 1) a b x), ha, hb]
  simp only [XRef.observatoryref03_Gcd.j0]
  rw [if_neg (by decide)]
  have := hK (K + 2000) (by omega)
  rw [decS_valS ha, decS_valS hb] at this
  rw [this, gcd_ok ha hb, Nat.gcd_comm]
  have hle : (decDigits (Nat.gcd (valS a) (valS b))).length ≤ 1000 := by
    by_cases h : valS a = 0
    · rw [h, Nat.gcd_zero_left, dec_len_valS hb]; omega
    · have := dec_mono (Nat.gcd_le_left (valS b) (Nat.pos_of_ne_zero h))
      rw [dec_len_valS ha] at this; omega
  rw [limS_of_le hle]
def observatoryref03_Valid.f (a : ByteArray) : Option Bool := some (validS a)
def observatoryref03_Gcd.f (a b : ByteArray) : Option (ByteArray × Int) := some (gcdS a b)
theorem observatoryref03_Valid.calls (a0 : ByteArray) (r : Bool) (w : World) (h : observatoryref03_Valid.f a0 = some r) :
    Calls Tryz.prog 43 #[.string a0] w fun e w' => e = .returned (.bool r) ∧ Below w.heap.size w w' := by
  refine (XRef.observatoryref03_Valid.calls 2000 a0 r w (by rw [rvalid a0 _ (by omega)]; exact h)).mono ?_
  rintro e w' ⟨rfl, hd⟩; exact ⟨rfl, hd.below⟩
theorem observatoryref03_Gcd.calls (a0 a1 r1 : ByteArray) (r2 : Int) (w : World) (h : observatoryref03_Gcd.f a0 a1 = some (r1, r2)) :
    Calls Tryz.prog 47 #[.string a0, .string a1] w fun e w' => e = .returned (.tuple #[.string r1, .int .i64 r2]) ∧ Below w.heap.size w w' := by
  obtain ⟨k, hk⟩ := rGcd a0 a1
  exact XRef.observatoryref03_Gcd.calls k a0 a1 r1 r2 w (by rw [hk]; exact h)
end Go.Proofs.YthpomhboogcigaaGreatDoor
end
section -- XRf0
/- Written by a program of this session (xprint.sh), out of the translation: Lean functions that tell what Go functions of the program tell, and the proofs that they do, over the given callees; no condition but what each theorem states. -/
namespace Go.Proofs.YthpomhboogcigaaGreatDoor.XRf
open Go.RowKit Go.Proofs.YthpomhboogcigaaGreatDoorW.PrintWords Go.Proofs.YthpomhboogcigaaGreatDoorW.PrintLast Go.Proofs.YthpomhboogcigaaGreatDoorW.PrintMore
attribute [local go_sem] max2_int min2_int max_two min_two max_three min_three max_four min_four   -- for this text's walks alone
set_option linter.unusedVariables false
set_option linter.unusedSimpArgs false
def errW : Option Int → Value
  | none => .nilIface
  | some c => .iface 0 (.int .i64 c)
theorem errW_none : errW none = .nilIface := rfl
theorem errW_some (c : Int) : errW (some c) = .iface 0 (.int .i64 c) := rfl
structure S24 where
  f0 : Bool
  f1 : ByteArray
  f2 : ByteArray
def z24 : S24 := ⟨false, (⟨#[]⟩ : ByteArray), (⟨#[]⟩ : ByteArray)⟩
end Go.Proofs.YthpomhboogcigaaGreatDoor.XRf
end
section -- XRf1
/- Written by a program of this session (xprint.sh), out of the translation: Lean functions that tell what Go functions of the program tell, and the proofs that they do, over the given callees; no condition but what each theorem states. -/
namespace Go.Proofs.YthpomhboogcigaaGreatDoor.XRf
open Go.RowKit Go.Proofs.YthpomhboogcigaaGreatDoorW.PrintWords Go.Proofs.YthpomhboogcigaaGreatDoorW.PrintLast Go.Proofs.YthpomhboogcigaaGreatDoorW.PrintMore
attribute [local go_sem] max2_int min2_int max_two min_two max_three min_three max_four min_four   -- for this text's walks alone
set_option linter.unusedVariables false
set_option linter.unusedSimpArgs false
def observatoryref04_Valid.j0 : Nat → Bool → Bool → ByteArray → ByteArray → Option (Bool)
  | 0, _, _, _, _ => none
  | k + 1, x19, x102000, x102001, x102002 => if x19 = true then (some false) else (if x102001.toList = ([48] : List UInt8) then (if x102002.toList = ([49] : List UInt8) then (some (!x102000)) else (some false)) else ((observatoryref03_Gcd.f x102001 x102002).bind fun bt104 => (some (bt104.1.toList == ([49] : List UInt8)))))
def observatoryref04_Valid.f (k : Nat) (a0_0 : Bool) (a0_1 : ByteArray) (a0_2 : ByteArray) : Option (Bool) := (observatoryref03_Valid.f a0_1).bind fun t102 => (if t102 = true then ((observatoryref03_Valid.f a0_2).bind fun t103 => (if t103 = true then (observatoryref04_Valid.j0 k (a0_2.toList == ([48] : List UInt8)) a0_0 a0_1 a0_2) else (observatoryref04_Valid.j0 k true a0_0 a0_1 a0_2))) else (observatoryref04_Valid.j0 k true a0_0 a0_1 a0_2))
set_option maxHeartbeats 8000000 in
set_option maxRecDepth 100000 in
theorem observatoryref04_Valid.calls (k : Nat) (a0_0 : Bool) (a0_1 : ByteArray) (a0_2 : ByteArray) (r : Bool) (w : World) (h : observatoryref04_Valid.f k a0_0 a0_1 a0_2 = some r) :
    Calls Tryz.prog 22 #[.agg #[.bool a0_0, .string a0_1, .string a0_2]] w fun e w' => e = .returned (.bool r) ∧ Below w.heap.size w w' := by
  have hu24 := Tryz.underlying24
  have HB := Aside0.mk (Below.refl w.heap.size w)
  have H : ((observatoryref03_Valid.f a0_1).bind fun t102 => (if t102 = true then ((observatoryref03_Valid.f a0_2).bind fun t103 => (if t103 = true then (observatoryref04_Valid.j0 k (a0_2.toList == ([48] : List UInt8)) a0_0 a0_1 a0_2) else (observatoryref04_Valid.j0 k true a0_0 a0_1 a0_2))) else (observatoryref04_Valid.j0 k true a0_0 a0_1 a0_2))) = some r := h
  clear h
  have HC2 := Aside0.mk H
  clear H
  go_enter Tryz.func22, Tryz.ntmps22
  go_upto_region 1 with (first | ((with_reducible refine gate_dst (N := 1) rfl ?_); refine box_event ?hg (N := 1) ?hd (cs := #[.bool a0_0, .string a0_1, .string a0_2]) (t := 24) ?hr ?_; (case hd => rfl); (case hg => rfl); (case hr => first | (go_simp; done) | (go_simp; rfl)); intro gb101 hg w3 hbox hb; have n0_ := Aside0.mk (below_step (by repeat (first | (with_reducible first | exact HB.out | apply below_alloc | apply pw_below_drewN | apply below_drew1) | exact HB.out)) hb); have n1_ := Aside0.mk (hbox); have n2_ := Aside0.mk ((by rw [hg]; exact (below_size (by repeat (first | (with_reducible first | exact HB.out | apply below_alloc | apply pw_below_drewN | apply below_drew1) | exact HB.out))) : w.heap.size ≤ gb101)); have n3_ := Aside0.mk ((by rw [hg]; exact (below_size (by repeat (first | (with_reducible first | exact HB.out | apply below_alloc | apply pw_below_drewN | apply below_drew1) | exact HB.out))) : w.heap.size ≤ gb101)); clear HB; have HB := n0_; have BK101 := n1_; have GW101 := n2_; have GE101 := n3_; clear n0_ n1_ n2_ n3_; clear hb hbox hg))
  (try simp only [Act.put, List.setIfInBounds_toArray, List.set_cons_zero, List.set_cons_succ])
  go_cut [19] (fun v19 wc => ∃ (kq : Nat) (x19_1 : Bool), v19 = .bool x19_1 ∧ Aside0 (observatoryref04_Valid.j0 kq x19_1 a0_0 a0_1 a0_2 = some r) ∧ Aside0 (kq ≤ k) ∧ Aside0 (wc.heap[gb101]? = some (.cells #[.bool a0_0, .string a0_1, .string a0_2] 24 (0, 0))) ∧ Aside0 (Below w.heap.size w wc))
  case first =>
    have H := HC2.out
    clear HC2
    replace H := Option.bind_eq_some_iff.mp H
    obtain ⟨t102, A40, H⟩ := H
    replace H : (if t102 = true then ((observatoryref03_Valid.f a0_2).bind fun t103 => (if t103 = true then (observatoryref04_Valid.j0 k (a0_2.toList == ([48] : List UInt8)) a0_0 a0_1 a0_2) else (observatoryref04_Valid.j0 k true a0_0 a0_1 a0_2))) else (observatoryref04_Valid.j0 k true a0_0 a0_1 a0_2)) = some r := H
    have A4 := Aside0.mk A40
    clear A40
    by_cases c5 : t102 = true
    · subst c5
      have H1 : ((observatoryref03_Valid.f a0_2).bind fun t103 => (if t103 = true then (observatoryref04_Valid.j0 k (a0_2.toList == ([48] : List UInt8)) a0_0 a0_1 a0_2) else (observatoryref04_Valid.j0 k true a0_0 a0_1 a0_2))) = some r := by rw [if_pos rfl] at H; exact H
      clear H
      have H := H1
      clear H1
      replace H := Option.bind_eq_some_iff.mp H
      obtain ⟨t103, A60, H⟩ := H
      replace H : (if t103 = true then (observatoryref04_Valid.j0 k (a0_2.toList == ([48] : List UInt8)) a0_0 a0_1 a0_2) else (observatoryref04_Valid.j0 k true a0_0 a0_1 a0_2)) = some r := H
      have A6 := Aside0.mk A60
      clear A60
      by_cases c7 : t103 = true
      · subst c7
        have H1 : (observatoryref04_Valid.j0 k (a0_2.toList == ([48] : List UInt8)) a0_0 a0_1 a0_2) = some r := by rw [if_pos rfl] at H; exact H
        clear H
        have H := H1
        clear H1
        have H' := Aside0.mk H
        clear H
        have hcz8_0 : w3.cell? ⟨gb101, 0, none⟩ = some (.bool a0_0) := (blk_cell BK101.out 0).trans rfl
        have hcz8_1 : w3.cell? ⟨gb101, 1, none⟩ = some (.string a0_1) := (blk_cell BK101.out 1).trans rfl
        have hcz8_2 : w3.cell? ⟨gb101, 2, none⟩ = some (.string a0_2) := (blk_cell BK101.out 2).trans rfl
        have hfz8_0 := blk_frozen BK101.out 0
        have hfz8_1 := blk_frozen BK101.out 1
        have hfz8_2 := blk_frozen BK101.out 2
        go_wp2_with (first | ((with_reducible refine gate_callee (f := 43) rfl ?_); refine goesL_ (some 7) rfl rfl Tryz.func43 (by kernel_rfl) rfl #[.string a0_1] rfl (by (try simp only [List.map_toArray, List.map_cons, List.map_nil]); first | done | rfl | (simp only [List.length_drop, List.length_take]; rfl)) ?_; (with_reducible refine (observatoryref03_Valid.calls a0_1 true _ A4.out).mono ?_); rintro e w9 ⟨rfl, hb⟩; refine ⟨_, rfl, ?_⟩; have n0_ := Aside0.mk (blk_below (g := gb101) (o := .cells #[.bool a0_0, .string a0_1, .string a0_2] 24 (0, 0)) (by (with_reducible repeat (first | refine blk_drewN ?_ _ | refine blk_drew ?_ | refine blk_alloc ?_ _)); exact BK101.out) hb); have n1_ := Aside0.mk (below_step (by repeat (first | (with_reducible first | exact HB.out | apply below_alloc | apply pw_below_drewN | apply below_drew1 | refine below_set ?_ GE101.out) | exact HB.out)) hb); clear BK101; clear HB; have BK101 := n0_; have HB := n1_; clear n0_ n1_; (try clear hb); (try clear hb2); (try clear hk); (try clear hi); have hcz10_0 : w9.cell? ⟨gb101, 0, none⟩ = some (.bool a0_0) := (blk_cell BK101.out 0).trans rfl; have hcz10_1 : w9.cell? ⟨gb101, 1, none⟩ = some (.string a0_1) := (blk_cell BK101.out 1).trans rfl; have hcz10_2 : w9.cell? ⟨gb101, 2, none⟩ = some (.string a0_2) := (blk_cell BK101.out 2).trans rfl; have hfz10_0 := blk_frozen BK101.out 0; have hfz10_1 := blk_frozen BK101.out 1; have hfz10_2 := blk_frozen BK101.out 2) | (go_at_call 43; (with_reducible refine (observatoryref03_Valid.calls a0_2 true _ A6.out).mono ?_); rintro e w11 ⟨rfl, hb⟩; have n0_ := Aside0.mk (blk_below (g := gb101) (o := .cells #[.bool a0_0, .string a0_1, .string a0_2] 24 (0, 0)) (by (with_reducible repeat (first | refine blk_drewN ?_ _ | refine blk_drew ?_ | refine blk_alloc ?_ _)); exact BK101.out) hb); have n1_ := Aside0.mk (below_step (by repeat (first | (with_reducible first | exact HB.out | apply below_alloc | apply pw_below_drewN | apply below_drew1 | refine below_set ?_ GE101.out) | exact HB.out)) hb); clear BK101; clear HB; have BK101 := n0_; have HB := n1_; clear n0_ n1_; (try clear hb); (try clear hb2); (try clear hk); (try clear hi); have hcz12_0 : w11.cell? ⟨gb101, 0, none⟩ = some (.bool a0_0) := (blk_cell BK101.out 0).trans rfl; have hcz12_1 : w11.cell? ⟨gb101, 1, none⟩ = some (.string a0_1) := (blk_cell BK101.out 1).trans rfl; have hcz12_2 : w11.cell? ⟨gb101, 2, none⟩ = some (.string a0_2) := (blk_cell BK101.out 2).trans rfl; have hfz12_0 := blk_frozen BK101.out 0; have hfz12_1 := blk_frozen BK101.out 1; have hfz12_2 := blk_frozen BK101.out 2))
        go_meet
        case rel => exact ⟨_, ((a0_2.toList == ([48] : List UInt8))), (by first | rfl | (simp; done) | (simp [*]; done)), H', ⟨by first | omega | exact Nat.le_refl _⟩, ⟨by (with_reducible repeat (first | refine blk_drewN ?_ _ | refine blk_drew ?_ | refine blk_alloc ?_ _)); exact BK101.out⟩, ⟨by repeat (first | (with_reducible first | exact HB.out | apply below_alloc | apply pw_below_drewN | apply below_drew1 | refine below_set ?_ GE101.out) | exact HB.out)⟩⟩
      · replace c7 := Bool.eq_false_iff.mpr c7
        subst c7
        have H1 : (observatoryref04_Valid.j0 k true a0_0 a0_1 a0_2) = some r := by rw [if_neg (show ¬ (false = true) by decide)] at H; exact H
        clear H
        have H := H1
        clear H1
        have H' := Aside0.mk H
        clear H
        have hcz13_0 : w3.cell? ⟨gb101, 0, none⟩ = some (.bool a0_0) := (blk_cell BK101.out 0).trans rfl
        have hcz13_1 : w3.cell? ⟨gb101, 1, none⟩ = some (.string a0_1) := (blk_cell BK101.out 1).trans rfl
        have hcz13_2 : w3.cell? ⟨gb101, 2, none⟩ = some (.string a0_2) := (blk_cell BK101.out 2).trans rfl
        have hfz13_0 := blk_frozen BK101.out 0
        have hfz13_1 := blk_frozen BK101.out 1
        have hfz13_2 := blk_frozen BK101.out 2
        go_wp2_with (first | ((with_reducible refine gate_callee (f := 43) rfl ?_); refine goesL_ (some 7) rfl rfl Tryz.func43 (by kernel_rfl) rfl #[.string a0_1] rfl (by (try simp only [List.map_toArray, List.map_cons, List.map_nil]); first | done | rfl | (simp only [List.length_drop, List.length_take]; rfl)) ?_; (with_reducible refine (observatoryref03_Valid.calls a0_1 true _ A4.out).mono ?_); rintro e w14 ⟨rfl, hb⟩; refine ⟨_, rfl, ?_⟩; have n0_ := Aside0.mk (blk_below (g := gb101) (o := .cells #[.bool a0_0, .string a0_1, .string a0_2] 24 (0, 0)) (by (with_reducible repeat (first | refine blk_drewN ?_ _ | refine blk_drew ?_ | refine blk_alloc ?_ _)); exact BK101.out) hb); have n1_ := Aside0.mk (below_step (by repeat (first | (with_reducible first | exact HB.out | apply below_alloc | apply pw_below_drewN | apply below_drew1 | refine below_set ?_ GE101.out) | exact HB.out)) hb); clear BK101; clear HB; have BK101 := n0_; have HB := n1_; clear n0_ n1_; (try clear hb); (try clear hb2); (try clear hk); (try clear hi); have hcz15_0 : w14.cell? ⟨gb101, 0, none⟩ = some (.bool a0_0) := (blk_cell BK101.out 0).trans rfl; have hcz15_1 : w14.cell? ⟨gb101, 1, none⟩ = some (.string a0_1) := (blk_cell BK101.out 1).trans rfl; have hcz15_2 : w14.cell? ⟨gb101, 2, none⟩ = some (.string a0_2) := (blk_cell BK101.out 2).trans rfl; have hfz15_0 := blk_frozen BK101.out 0; have hfz15_1 := blk_frozen BK101.out 1; have hfz15_2 := blk_frozen BK101.out 2) | (go_at_call 43; (with_reducible refine (observatoryref03_Valid.calls a0_2 false _ A6.out).mono ?_); rintro e w16 ⟨rfl, hb⟩; have n0_ := Aside0.mk (blk_below (g := gb101) (o := .cells #[.bool a0_0, .string a0_1, .string a0_2] 24 (0, 0)) (by (with_reducible repeat (first | refine blk_drewN ?_ _ | refine blk_drew ?_ | refine blk_alloc ?_ _)); exact BK101.out) hb); have n1_ := Aside0.mk (below_step (by repeat (first | (with_reducible first | exact HB.out | apply below_alloc | apply pw_below_drewN | apply below_drew1 | refine below_set ?_ GE101.out) | exact HB.out)) hb); clear BK101; clear HB; have BK101 := n0_; have HB := n1_; clear n0_ n1_; (try clear hb); (try clear hb2); (try clear hk); (try clear hi)))
        go_meet
        case rel => exact ⟨_, (true), (by first | rfl | (simp; done) | (simp [*]; done)), H', ⟨by first | omega | exact Nat.le_refl _⟩, ⟨by (with_reducible repeat (first | refine blk_drewN ?_ _ | refine blk_drew ?_ | refine blk_alloc ?_ _)); exact BK101.out⟩, ⟨by repeat (first | (with_reducible first | exact HB.out | apply below_alloc | apply pw_below_drewN | apply below_drew1 | refine below_set ?_ GE101.out) | exact HB.out)⟩⟩
    · replace c5 := Bool.eq_false_iff.mpr c5
      subst c5
      have H1 : (observatoryref04_Valid.j0 k true a0_0 a0_1 a0_2) = some r := by rw [if_neg (show ¬ (false = true) by decide)] at H; exact H
      clear H
      have H := H1
      clear H1
      have H' := Aside0.mk H
      clear H
      have hcz17_0 : w3.cell? ⟨gb101, 0, none⟩ = some (.bool a0_0) := (blk_cell BK101.out 0).trans rfl
      have hcz17_1 : w3.cell? ⟨gb101, 1, none⟩ = some (.string a0_1) := (blk_cell BK101.out 1).trans rfl
      have hcz17_2 : w3.cell? ⟨gb101, 2, none⟩ = some (.string a0_2) := (blk_cell BK101.out 2).trans rfl
      have hfz17_0 := blk_frozen BK101.out 0
      have hfz17_1 := blk_frozen BK101.out 1
      have hfz17_2 := blk_frozen BK101.out 2
      go_wp2_with (first | ((with_reducible refine gate_callee (f := 43) rfl ?_); refine goesL_ (some 7) rfl rfl Tryz.func43 (by kernel_rfl) rfl #[.string a0_1] rfl (by (try simp only [List.map_toArray, List.map_cons, List.map_nil]); first | done | rfl | (simp only [List.length_drop, List.length_take]; rfl)) ?_; (with_reducible refine (observatoryref03_Valid.calls a0_1 false _ A4.out).mono ?_); rintro e w18 ⟨rfl, hb⟩; refine ⟨_, rfl, ?_⟩; have n0_ := Aside0.mk (blk_below (g := gb101) (o := .cells #[.bool a0_0, .string a0_1, .string a0_2] 24 (0, 0)) (by (with_reducible repeat (first | refine blk_drewN ?_ _ | refine blk_drew ?_ | refine blk_alloc ?_ _)); exact BK101.out) hb); have n1_ := Aside0.mk (below_step (by repeat (first | (with_reducible first | exact HB.out | apply below_alloc | apply pw_below_drewN | apply below_drew1 | refine below_set ?_ GE101.out) | exact HB.out)) hb); clear BK101; clear HB; have BK101 := n0_; have HB := n1_; clear n0_ n1_; (try clear hb); (try clear hb2); (try clear hk); (try clear hi)))
      go_meet
      case rel => exact ⟨_, (true), (by first | rfl | (simp; done) | (simp [*]; done)), H', ⟨by first | omega | exact Nat.le_refl _⟩, ⟨by (with_reducible repeat (first | refine blk_drewN ?_ _ | refine blk_drew ?_ | refine blk_alloc ?_ _)); exact BK101.out⟩, ⟨by repeat (first | (with_reducible first | exact HB.out | apply below_alloc | apply pw_below_drewN | apply below_drew1 | refine below_set ?_ GE101.out) | exact HB.out)⟩⟩
  case rest =>
    clear HC2
    try clear c2
    try clear p2
    try clear c4
    try clear c5
    try clear c7
    try clear hcz10_0
    try clear hcz10_1
    try clear hcz10_2
    try clear hcz12_0
    try clear hcz12_1
    try clear hcz12_2
    try clear hcz13_0
    try clear hcz13_1
    try clear hcz13_2
    try clear hcz15_0
    try clear hcz15_1
    try clear hcz15_2
    try clear hcz17_0
    try clear hcz17_1
    try clear hcz17_2
    try clear hcz8_0
    try clear hcz8_1
    try clear hcz8_2
    try clear hfz10_0
    try clear hfz10_1
    try clear hfz10_2
    try clear hfz12_0
    try clear hfz12_1
    try clear hfz12_2
    try clear hfz13_0
    try clear hfz13_1
    try clear hfz13_2
    try clear hfz15_0
    try clear hfz15_1
    try clear hfz15_2
    try clear hfz17_0
    try clear hfz17_1
    try clear hfz17_2
    try clear hfz8_0
    try clear hfz8_1
    try clear hfz8_2
    obtain ⟨kq, x19_1, rfl, HA, HJ1, BK101, HB⟩ := hcut
    cases kq with
    | zero => exact absurd HA.out (by simp [observatoryref04_Valid.j0])
    | succ kj1 =>
      have H := HA.out
      clear HA
      simp only [observatoryref04_Valid.j0] at H
      by_cases c19 : x19_1 = true
      · subst c19
        have H1 : (some false) = some r := by rw [if_pos rfl] at H; exact H
        clear H
        have H := H1
        clear H1
        obtain rfl := Option.some.inj H
        go_wp2
        go_ret
        exact ⟨by first | rfl | (simp [errW_none, errW_some] <;> rfl) | (simp [*, errW_none, errW_some] <;> rfl), by repeat (first | (with_reducible first | exact HB.out | apply below_alloc | apply pw_below_drewN | apply below_drew1 | refine below_set ?_ GE101.out) | exact HB.out)⟩
      · replace c19 := Bool.eq_false_iff.mpr c19
        subst c19
        have H1 : (if a0_1.toList = ([48] : List UInt8) then (if a0_2.toList = ([49] : List UInt8) then (some (!a0_0)) else (some false)) else ((observatoryref03_Gcd.f a0_1 a0_2).bind fun bt104 => (some (bt104.1.toList == ([49] : List UInt8))))) = some r := by rw [if_neg (show ¬ (false = true) by decide)] at H; exact H
        clear H
        have H := H1
        clear H1
        by_cases c20 : a0_1.toList = ([48] : List UInt8)
        · rw [if_pos c20] at H
          have c20b0 : (a0_1.toList == ([48] : List UInt8)) = true := beq_iff_eq.mpr c20
          have c20b1 : (a0_1.toList != ([48] : List UInt8)) = false := bne_eq_false_iff_eq.mpr c20
          clear c20
          by_cases c21 : a0_2.toList = ([49] : List UInt8)
          · rw [if_pos c21] at H
            have c21b0 : (a0_2.toList == ([49] : List UInt8)) = true := beq_iff_eq.mpr c21
            have c21b1 : (a0_2.toList != ([49] : List UInt8)) = false := bne_eq_false_iff_eq.mpr c21
            clear c21
            obtain rfl := Option.some.inj H
            have hcz22_0 : wc.cell? ⟨gb101, 0, none⟩ = some (.bool a0_0) := (blk_cell BK101.out 0).trans rfl
            have hcz22_1 : wc.cell? ⟨gb101, 1, none⟩ = some (.string a0_1) := (blk_cell BK101.out 1).trans rfl
            have hcz22_2 : wc.cell? ⟨gb101, 2, none⟩ = some (.string a0_2) := (blk_cell BK101.out 2).trans rfl
            have hfz22_0 := blk_frozen BK101.out 0
            have hfz22_1 := blk_frozen BK101.out 1
            have hfz22_2 := blk_frozen BK101.out 2
            go_wp2
            go_ret
            exact ⟨by first | rfl | (simp [errW_none, errW_some] <;> rfl) | (simp [*, errW_none, errW_some] <;> rfl), by repeat (first | (with_reducible first | exact HB.out | apply below_alloc | apply pw_below_drewN | apply below_drew1 | refine below_set ?_ GE101.out) | exact HB.out)⟩
          · rw [if_neg c21] at H
            have c21b0 : (a0_2.toList == ([49] : List UInt8)) = false := beq_eq_false_iff_ne.mpr c21
            have c21b1 : (a0_2.toList != ([49] : List UInt8)) = true := bne_iff_ne.mpr c21
            obtain rfl := Option.some.inj H
            have hcz23_0 : wc.cell? ⟨gb101, 0, none⟩ = some (.bool a0_0) := (blk_cell BK101.out 0).trans rfl
            have hcz23_1 : wc.cell? ⟨gb101, 1, none⟩ = some (.string a0_1) := (blk_cell BK101.out 1).trans rfl
            have hcz23_2 : wc.cell? ⟨gb101, 2, none⟩ = some (.string a0_2) := (blk_cell BK101.out 2).trans rfl
            have hfz23_0 := blk_frozen BK101.out 0
            have hfz23_1 := blk_frozen BK101.out 1
            have hfz23_2 := blk_frozen BK101.out 2
            go_wp2
            go_ret
            exact ⟨by first | rfl | (simp [errW_none, errW_some] <;> rfl) | (simp [*, errW_none, errW_some] <;> rfl), by repeat (first | (with_reducible first | exact HB.out | apply below_alloc | apply pw_below_drewN | apply below_drew1 | refine below_set ?_ GE101.out) | exact HB.out)⟩
        · rw [if_neg c20] at H
          have c20b0 : (a0_1.toList == ([48] : List UInt8)) = false := beq_eq_false_iff_ne.mpr c20
          have c20b1 : (a0_1.toList != ([48] : List UInt8)) = true := bne_iff_ne.mpr c20
          replace H := Option.bind_eq_some_iff.mp H
          obtain ⟨⟨t104, t105⟩, A240, H⟩ := H
          replace H : (some (t104.toList == ([49] : List UInt8))) = some r := H
          have A24 := Aside0.mk A240
          clear A240
          obtain rfl := Option.some.inj H
          have hcz25_0 : wc.cell? ⟨gb101, 0, none⟩ = some (.bool a0_0) := (blk_cell BK101.out 0).trans rfl
          have hcz25_1 : wc.cell? ⟨gb101, 1, none⟩ = some (.string a0_1) := (blk_cell BK101.out 1).trans rfl
          have hcz25_2 : wc.cell? ⟨gb101, 2, none⟩ = some (.string a0_2) := (blk_cell BK101.out 2).trans rfl
          have hfz25_0 := blk_frozen BK101.out 0
          have hfz25_1 := blk_frozen BK101.out 1
          have hfz25_2 := blk_frozen BK101.out 2
          go_wp2_with (first | ((with_reducible refine gate_callee (f := 47) rfl ?_); refine goesL_ (some 36) rfl rfl Tryz.func47 (by kernel_rfl) rfl #[.string a0_1, .string a0_2] rfl (by (try simp only [List.map_toArray, List.map_cons, List.map_nil]); first | done | rfl | (simp only [List.length_drop, List.length_take]; rfl)) ?_; (with_reducible refine (observatoryref03_Gcd.calls a0_1 a0_2 t104 t105 _ A24.out).mono ?_); rintro e w26 ⟨rfl, hb⟩; refine ⟨_, rfl, ?_⟩; have n0_ := Aside0.mk (blk_below (g := gb101) (o := .cells #[.bool a0_0, .string a0_1, .string a0_2] 24 (0, 0)) (by (with_reducible repeat (first | refine blk_drewN ?_ _ | refine blk_drew ?_ | refine blk_alloc ?_ _)); exact BK101.out) hb); have n1_ := Aside0.mk (below_step (by repeat (first | (with_reducible first | exact HB.out | apply below_alloc | apply pw_below_drewN | apply below_drew1 | refine below_set ?_ GE101.out) | exact HB.out)) hb); clear BK101; clear HB; have BK101 := n0_; have HB := n1_; clear n0_ n1_; (try clear hb); (try clear hb2); (try clear hk); (try clear hi)))
          go_ret
          exact ⟨by first | rfl | (simp [errW_none, errW_some] <;> rfl) | (simp [*, errW_none, errW_some] <;> rfl), by repeat (first | (with_reducible first | exact HB.out | apply below_alloc | apply pw_below_drewN | apply below_drew1 | refine below_set ?_ GE101.out) | exact HB.out)⟩
mutual
def observatoryref04_Abs.j0 : Nat → Int → Option (ByteArray)
  | 0, _ => none
  | k + 1, x3 => if 0 ≤ (Int.tmod x3 10) then (if (Int.tmod x3 10) ≤ (IntKind.u64.wrap ((Int.tmod x3 10) + 1)) then (if (IntKind.u64.wrap ((Int.tmod x3 10) + 1)) ≤ 10 then (observatoryref04_Abs.l0 k (IntKind.u64.wrap (Int.tdiv x3 10)) ((⟨#[48, 49, 50, 51, 52, 53, 54, 55, 56, 57]⟩ : ByteArray).extract ((Int.tmod x3 10) : Int).toNat ((IntKind.u64.wrap ((Int.tmod x3 10) + 1)) : Int).toNat)) else (none)) else (none)) else (none)
def observatoryref04_Abs.l0 : Nat → Int → ByteArray → Option (ByteArray)
  | 0, _, _ => none
  | k + 1, x3, x4 => if x3 > 0 then (if 0 ≤ (Int.tmod x3 10) then (if (Int.tmod x3 10) ≤ (IntKind.u64.wrap ((Int.tmod x3 10) + 1)) then (if (IntKind.u64.wrap ((Int.tmod x3 10) + 1)) ≤ 10 then (if ((⟨#[48, 49, 50, 51, 52, 53, 54, 55, 56, 57]⟩ : ByteArray).extract ((Int.tmod x3 10) : Int).toNat ((IntKind.u64.wrap ((Int.tmod x3 10) + 1)) : Int).toNat).size + x4.size ≤ 9223372036854775807 then (observatoryref04_Abs.l0 k (IntKind.u64.wrap (Int.tdiv x3 10)) (((⟨#[48, 49, 50, 51, 52, 53, 54, 55, 56, 57]⟩ : ByteArray).extract ((Int.tmod x3 10) : Int).toNat ((IntKind.u64.wrap ((Int.tmod x3 10) + 1)) : Int).toNat) ++ x4)) else (none)) else (none)) else (none)) else (none)) else (some x4)
end
def observatoryref04_Abs.f (k : Nat) (a0 : Int) : Option (ByteArray) := if a0 < 0 then (observatoryref04_Abs.j0 k (IntKind.u64.wrap ((IntKind.u64.wrap (wrap64 (-(wrap64 (a0 + 1))))) + 1))) else (observatoryref04_Abs.j0 k (IntKind.u64.wrap (a0)))
set_option maxHeartbeats 8000000 in
set_option maxRecDepth 100000 in
theorem observatoryref04_Abs.calls (k : Nat) (a0 : Int) (r : ByteArray) (w : World) (h : observatoryref04_Abs.f k a0 = some r) :
    Calls Tryz.prog 36 #[.int .i64 a0] w fun e w' => e = .returned (.string r) ∧ Drawn0 w w' := by
  have H : (if a0 < 0 then (observatoryref04_Abs.j0 k (IntKind.u64.wrap ((IntKind.u64.wrap (wrap64 (-(wrap64 (a0 + 1))))) + 1))) else (observatoryref04_Abs.j0 k (IntKind.u64.wrap (a0)))) = some r := h
  clear h
  have HC2 := Aside0.mk H
  clear H
  go_enter Tryz.func36, Tryz.ntmps36
  go_upto_if 8 with (fail)
  go_cut [3] (fun v3 wc => ∃ (kq : Nat) (x3_1 : Int), v3 = .int .u64 x3_1 ∧ Aside0 (observatoryref04_Abs.j0 kq x3_1 = some r) ∧ Aside0 (kq ≤ k) ∧ Drawn0 w wc)
  case first =>
    have H := HC2.out
    clear HC2
    by_cases c3 : a0 < 0
    · rw [if_pos c3] at H
      have c3b0 : decide (a0 < 0) = true := decide_eq_true c3
      clear c3
      (first | rw [c3b0] | (simp only [i64_w, i32_w]; rw [c3b0]) | skip)
      have H' := Aside0.mk H
      clear H
      go_wp2
      go_meet
      case rel => exact ⟨_, (IntKind.u64.wrap ((IntKind.u64.wrap (wrap64 (-(wrap64 (a0 + 1))))) + 1)), (by first | rfl | (simp; done) | (simp [*]; done)), H', ⟨by first | omega | exact Nat.le_refl _⟩, by repeat (first | exact Drawn0.refl _ | apply Drawn0.step)⟩
    · rw [if_neg c3] at H
      have c3b0 : decide (a0 < 0) = false := decide_eq_false c3
      clear c3
      (first | rw [c3b0] | (simp only [i64_w, i32_w]; rw [c3b0]) | skip)
      have H' := Aside0.mk H
      clear H
      go_wp2
      go_meet
      case rel => exact ⟨_, (IntKind.u64.wrap (a0)), (by first | rfl | (simp; done) | (simp [*]; done)), H', ⟨by first | omega | exact Nat.le_refl _⟩, by repeat (first | exact Drawn0.refl _ | apply Drawn0.step)⟩
  case rest =>
    clear HC2
    try clear p2
    try clear c3
    try clear c3b0
    obtain ⟨kq, x3_1, rfl, HA, HJ1, ⟨mc1, rfl⟩⟩ := hcut
    cases kq with
    | zero => exact absurd HA.out (by simp [observatoryref04_Abs.j0])
    | succ kj1 =>
      have H := HA.out
      clear HA
      simp only [observatoryref04_Abs.j0] at H
      obtain ⟨ji4, hji4⟩ : ∃ j_ : Int, (Int.tmod x3_1 10) = j_ := ⟨_, rfl⟩
      replace H : (if 0 ≤ (ji4) then (if (ji4) ≤ (IntKind.u64.wrap ((ji4) + 1)) then (if (IntKind.u64.wrap ((ji4) + 1)) ≤ 10 then (observatoryref04_Abs.l0 kj1 (IntKind.u64.wrap (Int.tdiv x3_1 10)) ((⟨#[48, 49, 50, 51, 52, 53, 54, 55, 56, 57]⟩ : ByteArray).extract ((ji4) : Int).toNat ((IntKind.u64.wrap ((ji4) + 1)) : Int).toNat)) else (none)) else (none)) else (none)) = some r := by first | (rw [hji4] at H; exact H) | (simp only [hji4] at H ⊢; exact H)
      by_cases c5 : 0 ≤ (ji4)
      · rw [if_pos c5] at H
        have c5b0 := eq_true c5
        have c5b1 : decide (0 ≤ (ji4)) = true := decide_eq_true c5
        clear c5
        by_cases c6 : (ji4) ≤ (IntKind.u64.wrap ((ji4) + 1))
        · rw [if_pos c6] at H
          have c6b0 := eq_true c6
          have c6b1 : decide ((ji4) ≤ (IntKind.u64.wrap ((ji4) + 1))) = true := decide_eq_true c6
          by_cases c7 : (IntKind.u64.wrap ((ji4) + 1)) ≤ 10
          · rw [if_pos c7] at H
            have c7b0 := eq_true c7
            have c7b1 : decide ((IntKind.u64.wrap ((ji4) + 1)) ≤ 10) = true := decide_eq_true c7
            have H' := Aside0.mk H
            clear H
            go_wp2
            go_loopg [3, 4] kj1 (fun kq v3 v4 w' => ∃ (x3_2 : Int) (x4_2 : ByteArray), v3 = .int .u64 x3_2 ∧ v4 = .string x4_2 ∧ Aside0 (observatoryref04_Abs.l0 kq x3_2 x4_2 = some r) ∧ Aside0 (kq ≤ kj1) ∧ Drawn0 w w')
            case atStart => exact ⟨(IntKind.u64.wrap (Int.tdiv x3_1 10)), ((⟨#[48, 49, 50, 51, 52, 53, 54, 55, 56, 57]⟩ : ByteArray).extract ((ji4) : Int).toNat ((IntKind.u64.wrap ((ji4) + 1)) : Int).toNat), (by first | rfl | (simp; done) | (simp [*]; done)), (by first | rfl | (simp; done) | (simp only [← hji4] <;> (first | rfl | simp)) | (simp [*]; done)), H', ⟨Nat.le_refl _⟩, by repeat (first | exact Drawn0.refl _ | apply Drawn0.step)⟩
            case round =>
              clear H'
              try clear c1
              try clear p2
              try clear c3
              try clear c3b0
              try clear c5
              try clear c5b0
              try clear c5b1
              try clear c6
              try clear c6b0
              try clear c6b1
              try clear p6
              try clear c7
              try clear c7b0
              try clear c7b1
              try clear p2
              obtain ⟨x3_2, x4_2, rfl, rfl, HA, HK2, ⟨m2, rfl⟩⟩ := hrel
              cases gk with
              | zero => exact absurd HA.out (by simp [observatoryref04_Abs.l0])
              | succ k2 =>
                have H := HA.out
                clear HA
                simp only [observatoryref04_Abs.l0] at H
                by_cases c8 : x3_2 > 0
                · rw [if_pos c8] at H
                  have c8b0 : decide (0 < x3_2) = true := decide_eq_true c8
                  clear c8
                  obtain ⟨ji9, hji9⟩ : ∃ j_ : Int, (Int.tmod x3_2 10) = j_ := ⟨_, rfl⟩
                  replace H : (if 0 ≤ (ji9) then (if (ji9) ≤ (IntKind.u64.wrap ((ji9) + 1)) then (if (IntKind.u64.wrap ((ji9) + 1)) ≤ 10 then (if ((⟨#[48, 49, 50, 51, 52, 53, 54, 55, 56, 57]⟩ : ByteArray).extract ((ji9) : Int).toNat ((IntKind.u64.wrap ((ji9) + 1)) : Int).toNat).size + x4_2.size ≤ 9223372036854775807 then (observatoryref04_Abs.l0 k2 (IntKind.u64.wrap (Int.tdiv x3_2 10)) (((⟨#[48, 49, 50, 51, 52, 53, 54, 55, 56, 57]⟩ : ByteArray).extract ((ji9) : Int).toNat ((IntKind.u64.wrap ((ji9) + 1)) : Int).toNat) ++ x4_2)) else (none)) else (none)) else (none)) else (none)) = some r := by first | (rw [hji9] at H; exact H) | (simp only [hji9] at H ⊢; exact H)
                  by_cases c10 : 0 ≤ (ji9)
                  · rw [if_pos c10] at H
                    have c10b0 := eq_true c10
                    have c10b1 : decide (0 ≤ (ji9)) = true := decide_eq_true c10
                    clear c10
                    by_cases c11 : (ji9) ≤ (IntKind.u64.wrap ((ji9) + 1))
                    · rw [if_pos c11] at H
                      have c11b0 := eq_true c11
                      have c11b1 : decide ((ji9) ≤ (IntKind.u64.wrap ((ji9) + 1))) = true := decide_eq_true c11
                      by_cases c12 : (IntKind.u64.wrap ((ji9) + 1)) ≤ 10
                      · rw [if_pos c12] at H
                        have c12b0 := eq_true c12
                        have c12b1 : decide ((IntKind.u64.wrap ((ji9) + 1)) ≤ 10) = true := decide_eq_true c12
                        by_cases c13 : ((⟨#[48, 49, 50, 51, 52, 53, 54, 55, 56, 57]⟩ : ByteArray).extract ((ji9) : Int).toNat ((IntKind.u64.wrap ((ji9) + 1)) : Int).toNat).size + x4_2.size ≤ 9223372036854775807
                        · rw [if_pos c13] at H
                          have c13b0 := eq_true c13
                          have c13b1 : decide (((⟨#[48, 49, 50, 51, 52, 53, 54, 55, 56, 57]⟩ : ByteArray).extract ((ji9) : Int).toNat ((IntKind.u64.wrap ((ji9) + 1)) : Int).toNat).size + x4_2.size ≤ 9223372036854775807) = true := decide_eq_true c13
                          try have c13b2 : (9223372036854775807 < ((⟨#[48, 49, 50, 51, 52, 53, 54, 55, 56, 57]⟩ : ByteArray).extract ((ji9) : Int).toNat ((IntKind.u64.wrap ((ji9) + 1)) : Int).toNat).size + x4_2.size) = False := eq_false (Nat.not_lt.2 c13)
                          have H' := Aside0.mk H
                          clear H
                          go_wp2
                          go_roundg k2
                          case measure => have := HJ1.out; have := HK2.out; omega
                          case rel => exact ⟨(IntKind.u64.wrap (Int.tdiv x3_2 10)), (((⟨#[48, 49, 50, 51, 52, 53, 54, 55, 56, 57]⟩ : ByteArray).extract ((ji9) : Int).toNat ((IntKind.u64.wrap ((ji9) + 1)) : Int).toNat) ++ x4_2), (by first | rfl | (simp; done) | (simp [*]; done)), (by first | rfl | (simp; done) | (simp only [← hji9] <;> (first | rfl | simp)) | (simp [*]; done)), H', ⟨by have := HJ1.out; have := HK2.out; omega⟩, by repeat (first | exact Drawn0.refl _ | apply Drawn0.step)⟩
                        · rw [if_neg c13] at H
                          exact absurd H (by simp)
                      · rw [if_neg c12] at H
                        exact absurd H (by simp)
                    · rw [if_neg c11] at H
                      exact absurd H (by simp)
                  · rw [if_neg c10] at H
                    exact absurd H (by simp)
                · rw [if_neg c8] at H
                  have c8b0 : decide (0 < x3_2) = false := decide_eq_false c8
                  clear c8
                  obtain rfl := Option.some.inj H
                  go_wp2
                  go_ret
                  exact ⟨by first | rfl | (simp; done) | (simp only [← hji4] <;> (first | rfl | simp)) | (simp [*]; done), by repeat (first | exact Drawn0.refl _ | apply Drawn0.step)⟩
          · rw [if_neg c7] at H
            exact absurd H (by simp)
        · rw [if_neg c6] at H
          exact absurd H (by simp)
      · rw [if_neg c5] at H
        exact absurd H (by simp)
end Go.Proofs.YthpomhboogcigaaGreatDoor.XRf
end

/- The texts of this claim, laid together by a program of this session (bundle.py). -/
import Derived.Test.YthpomhboogcigaaGreatDoorBLBk16
import Derived.Test.YthpomhboogcigaaGreatDoorBLBk17
section -- RatAt
namespace Go.Proofs.YthpomhboogcigaaGreatDoor
open Go.RowKit Go.Proofs.YthpomhboogcigaaGreatDoorW.PrintWords Go.Proofs.YthpomhboogcigaaGreatDoorW.PrintMore Go.Proofs.YthpomhboogcigaaGreatDoorW.PrintLast
set_option linter.unusedVariables false
set_option linter.unusedSimpArgs false
/-- A world's later steps that touch no old block but one. -/
class LaterX (g : Nat) (W U : World) : Prop where
  far : ∀ (b : Nat) (o : Obj), b ≠ g → W.heap[b]? = some o → U.heap[b]? = some o
  low : ∀ w : World, w.heap.size ≤ g → Below w.heap.size w W → Below w.heap.size w U
instance (g : Nat) (W : World) : LaterX g W W := ⟨fun _ _ _ h => h, fun _ _ h => h⟩
instance (g : Nat) (W U : World) (o : Obj) [h : LaterX g W U] : LaterX g W (U.alloc o) := ⟨fun b x hne hx => blk_later (h.far b x hne hx), fun w hg hb => below_alloc (h.low w hg hb) o⟩
instance (g : Nat) (W U : World) (n : Nat) [h : LaterX g W U] : LaterX g W (U.drewN n) := ⟨fun b x hne hx => blk_later (h.far b x hne hx), fun w hg hb => pw_below_drewN (h.low w hg hb) n⟩
instance (g : Nat) (W U : World) [h : LaterX g W U] : LaterX g W U.drew := ⟨fun b x hne hx => blk_later (h.far b x hne hx), fun w hg hb => below_drew1 (h.low w hg hb)⟩
instance (g i : Nat) (v : Value) (W U : World) [h : LaterX g W U] : LaterX g W (U.setCell ⟨g, i, none⟩ v) := ⟨fun b x hne hx => (heap_setCell_other U ⟨g, i, none⟩ b v hne).trans (h.far b x hne hx), fun w hg hb => below_set (h.low w hg hb) hg⟩
theorem far3 {W U : World} {b g : Nat} {o : Obj} (h : W.heap[b]? = some o) (hne : b ≠ g) [l : LaterX g W U] : U.heap[b]? = some o := l.far b o hne h
theorem add_at {a : Bool} {b c : ByteArray} {a' : Bool} {b' c' : ByteArray} {x : Bool} {y z : ByteArray} {e : Int} (h : addR (a, b, c) (a', b', c') = ((x, y, z), e)) : rational_Add.f a b c a' b' c' = some (x, y, z, e) := by unfold rational_Add.f; rw [h]; rfl
theorem sub_at {a : Bool} {b c : ByteArray} {a' : Bool} {b' c' : ByteArray} {x : Bool} {y z : ByteArray} {e : Int} (h : subR (a, b, c) (a', b', c') = ((x, y, z), e)) : rational_Sub.f a b c a' b' c' = some (x, y, z, e) := by unfold rational_Sub.f; rw [h]; rfl
theorem mul_at {a : Bool} {b c : ByteArray} {a' : Bool} {b' c' : ByteArray} {x : Bool} {y z : ByteArray} {e : Int} (h : mulR (a, b, c) (a', b', c') = ((x, y, z), e)) : rational_Mul.f a b c a' b' c' = some (x, y, z, e) := by unfold rational_Mul.f; rw [h]; rfl
theorem div_at {a : Bool} {b c : ByteArray} {a' : Bool} {b' c' : ByteArray} {x : Bool} {y z : ByteArray} {e : Int} (h : divR (a, b, c) (a', b', c') = ((x, y, z), e)) : rational_Div.f a b c a' b' c' = some (x, y, z, e) := by unfold rational_Div.f; rw [h]; rfl
theorem eqR (x x' : Bool) (y y' z z' : ByteArray) : (x == x' && (y.toList == y'.toList && (z.toList == z'.toList))) = decide (((x, y, z) : R3) = (x', y', z')) := by
  rw [toList_eq, toList_eq, Bool.eq_iff_iff]
  simp [Prod.mk.injEq]
theorem neR (x x' : Bool) (y y' z z' : ByteArray) : (!(x == x') || (!(y.toList == y'.toList) || (!(z.toList == z'.toList)))) = !decide (((x, y, z) : R3) = (x', y', z')) := by
  rw [← eqR]
  cases (x == x') <;> cases (y.toList == y'.toList) <;> cases (z.toList == z'.toList) <;> rfl
def zeroR : R3 := (false, ⟨#[48]⟩, ⟨#[49]⟩)
theorem rep_zero : repR 0 = zeroR := by decide +kernel
theorem zero_VR : VR zeroR := validR_iff.1 (by decide +kernel)
theorem val_zero : valR zeroR = 0 := by rw [← rep_zero, val_rep]
/-- The answer for the number q, written out, with what is known of it. -/
theorem rep_parts {q : Rat} {m : Nat} (hz : SzR m q) (hv : VR (repR q)) : ∃ (x : Bool) (y z : ByteArray), repR q = (x, y, z) ∧ VR (x, y, z) ∧ valR (x, y, z) = q ∧ SzR m (valR (x, y, z)) := by
  refine ⟨(repR q).1, (repR q).2.1, (repR q).2.2, rfl, hv, val_rep q, ?_⟩
  rw [show valR ((repR q).1, (repR q).2.1, (repR q).2.2) = q from val_rep q]
  exact hz
/-- The sum of two numbers, written out. -/
theorem add_parts {a : Bool} {b c : ByteArray} {a' : Bool} {b' c' : ByteArray} (ha : VR (a, b, c)) (hb : VR (a', b', c')) {m n : Nat} (h1 : SzR m (valR (a, b, c))) (h2 : SzR n (valR (a', b', c'))) (hm : 1 ≤ m) (hn : m + n + 1 ≤ 1000) :
    ∃ (x : Bool) (y z : ByteArray), rational_Add.f a b c a' b' c' = some (x, y, z, 0) ∧ VR (x, y, z) ∧ valR (x, y, z) = valR (a, b, c) + valR (a', b', c') ∧ SzR (m + n + 1) (valR (x, y, z)) := by
  obtain ⟨e, hz, hv⟩ := add_fine ha hb h1 h2 hm hn
  obtain ⟨x, y, z, e', hv', hq, hz'⟩ := rep_parts hz hv
  exact ⟨x, y, z, add_at (by rw [e, e']), hv', hq, hz'⟩
theorem sub_parts {a : Bool} {b c : ByteArray} {a' : Bool} {b' c' : ByteArray} (ha : VR (a, b, c)) (hb : VR (a', b', c')) {m n : Nat} (h1 : SzR m (valR (a, b, c))) (h2 : SzR n (valR (a', b', c'))) (hm : 1 ≤ m) (hn : m + n + 1 ≤ 1000) :
    ∃ (x : Bool) (y z : ByteArray), rational_Sub.f a b c a' b' c' = some (x, y, z, 0) ∧ VR (x, y, z) ∧ valR (x, y, z) = valR (a, b, c) - valR (a', b', c') ∧ SzR (m + n + 1) (valR (x, y, z)) := by
  obtain ⟨e, hz, hv⟩ := sub_fine ha hb h1 h2 hm hn
  obtain ⟨x, y, z, e', hv', hq, hz'⟩ := rep_parts hz hv
  exact ⟨x, y, z, sub_at (by rw [e, e']), hv', hq, hz'⟩
theorem mul_parts {a : Bool} {b c : ByteArray} {a' : Bool} {b' c' : ByteArray} (ha : VR (a, b, c)) (hb : VR (a', b', c')) {m n : Nat} (h1 : SzR m (valR (a, b, c))) (h2 : SzR n (valR (a', b', c'))) (hm : 1 ≤ m) (hn : m + n ≤ 1000) :
    ∃ (x : Bool) (y z : ByteArray), rational_Mul.f a b c a' b' c' = some (x, y, z, 0) ∧ VR (x, y, z) ∧ valR (x, y, z) = valR (a, b, c) * valR (a', b', c') ∧ SzR (m + n) (valR (x, y, z)) := by
  obtain ⟨e, hz, hv⟩ := mul_fine ha hb h1 h2 hm hn
  obtain ⟨x, y, z, e', hv', hq, hz'⟩ := rep_parts hz hv
  exact ⟨x, y, z, mul_at (by rw [e, e']), hv', hq, hz'⟩
theorem div_parts {a : Bool} {b c : ByteArray} {a' : Bool} {b' c' : ByteArray} (ha : VR (a, b, c)) (hb : VR (a', b', c')) (h0 : valR (a', b', c') ≠ 0) {m n : Nat} (h1 : SzR m (valR (a, b, c))) (h2 : SzR n (valR (a', b', c'))) (hm : 1 ≤ m) (hn1 : 1 ≤ n) (hn : m + n ≤ 1000) :
    ∃ (x : Bool) (y z : ByteArray), rational_Div.f a b c a' b' c' = some (x, y, z, 0) ∧ VR (x, y, z) ∧ valR (x, y, z) = valR (a, b, c) * (valR (a', b', c'))⁻¹ ∧ SzR (m + n) (valR (x, y, z)) := by
  obtain ⟨e, hz, hv⟩ := div_fine ha hb h0 h1 h2 hm hn1 hn
  obtain ⟨x, y, z, e', hv', hq, hz'⟩ := rep_parts hz hv
  exact ⟨x, y, z, div_at (by rw [e, e']), hv', hq, hz'⟩
theorem div_zero {a : Bool} {b c : ByteArray} {a' : Bool} {b' c' : ByteArray} (ha : VR (a, b, c)) (hb : VR (a', b', c')) (h0 : valR (a', b', c') = 0) : rational_Div.f a b c a' b' c' = some (false, ⟨#[]⟩, ⟨#[]⟩, 14) := by
  refine div_at ?_
  unfold divR
  rw [validR_iff.2 ha, validR_iff.2 hb, if_pos (show (true && true) = true from rfl), if_pos ((zero_str0 hb.n).2 ((val_zero_iff hb).1 h0))]; rfl
end Go.Proofs.YthpomhboogcigaaGreatDoor
end
section -- FinRationalBack
namespace Go.Proofs.YthpomhboogcigaaGreatDoor
open Go.RowKit Go.Proofs.YthpomhboogcigaaGreatDoorW.PrintWords Go.Proofs.YthpomhboogcigaaGreatDoorW.PrintMore Go.Proofs.YthpomhboogcigaaGreatDoorW.PrintLast
set_option linter.unusedVariables false
set_option linter.unusedSimpArgs false
def fewB (x : XLBk.S24) : Bool := decide (x.f1.size ≤ 40) && decide (x.f2.size ≤ 40)
theorem few_loop (l : List XLBk.S24) (hl : l.length ≤ 100) : ∀ (d i k : Nat), i + d = l.length → d < k → XLBk.observatoryref04_Few.l0 k 40 l (i : Int) = some ((l.drop i).all fewB)
  | 0, i, k, hi, hk => by
    obtain ⟨k, rfl⟩ : ∃ m, k = m + 1 := ⟨k - 1, by omega⟩
    simp only [XLBk.observatoryref04_Few.l0]
    rw [if_neg (by omega), List.drop_eq_nil_of_le (by omega)]; rfl
  | d + 1, i, k, hi, hk => by
    obtain ⟨k, rfl⟩ : ∃ m, k = m + 1 := ⟨k - 1, by omega⟩
    have hr : XLBk.rd_T24 l (i : Int) = l[i]'(by omega) := by simp [XLBk.rd_T24, List.getElem?_eq_getElem (show i < l.length by omega)]
    have hw : wrap64 ((i : Int) + 1) = ((i + 1 : Nat) : Int) := by unfold wrap64; omega
    simp only [XLBk.observatoryref04_Few.l0]
    rw [if_pos (by omega), if_pos (by omega), hr, hw, few_loop l hl d (i + 1) k (by omega) (by omega), List.drop_eq_getElem_cons (show i < l.length by omega), List.all_cons]
    generalize l[i]'(by omega) = x
    unfold fewB
    by_cases h1 : x.f1.size ≤ 40
    · rw [if_neg (by omega), decide_eq_true h1]
      by_cases h2 : x.f2.size ≤ 40
      · rw [if_neg (by omega), decide_eq_true h2]; rfl
      · rw [if_pos (by omega), decide_eq_false h2]; rfl
    · rw [if_pos (by omega), decide_eq_false h1]; rfl
theorem few_f (k : Nat) (l : List XLBk.S24) (hl : l.length ≤ 100) (hk : l.length < k) : XLBk.observatorylaw04_few.f k l = some (l.all fewB) := by
  unfold XLBk.observatorylaw04_few.f XLBk.observatoryref04_Few.f
  have h := few_loop l hl l.length 0 k (by omega) hk
  rw [List.drop_zero] at h
  rw [show (0 : Int) = ((0 : Nat) : Int) from rfl, h]; rfl
theorem back_j1 (k : Nat) (a : Bool) (b c : ByteArray) (a' : Bool) (b' c' : ByteArray) (x : Bool) (y z : ByteArray) (V1 : VR (a, b, c)) (V2 : VR (a', b', c')) (V3 : VR (x, y, z)) (s1 : SzR 80 (valR (x, y, z))) (s2 : SzR 40 (valR (a', b', c'))) (hp : valR (x, y, z) = valR (a, b, c) * valR (a', b', c')) :
    XLBk.observatorylaw04_RationalBack.j1 (k + 1) true false a b c a' b' c' false ⟨#[48]⟩ ⟨#[49]⟩ x y z = some true := by
  simp only [XLBk.observatorylaw04_RationalBack.j1, eqR]
  rw [if_neg (by simp)]
  by_cases h0 : valR (a', b', c') = 0
  · have e : ((a', b', c') : R3) = (false, ⟨#[48]⟩, ⟨#[49]⟩) := V2.inj zero_VR (h0.trans val_zero.symm)
    have e' : ((x, y, z) : R3) = (false, ⟨#[48]⟩, ⟨#[49]⟩) := V3.inj zero_VR ((show valR (x, y, z) = 0 by rw [hp, h0]; grind).trans val_zero.symm)
    rw [div_zero V3 V2 h0]
    simp only [Option.bind_some]
    rw [decide_eq_true e, decide_eq_true e']
    simp
  · obtain ⟨u, v, w, e, hv, hq, _⟩ := div_parts V3 V2 h0 s1 s2 (by decide) (by decide) (by decide)
    have e1 : ¬ ((a', b', c') : R3) = (false, ⟨#[48]⟩, ⟨#[49]⟩) := fun h => h0 (by rw [h]; exact val_zero)
    have e2 : ((u, v, w) : R3) = (a, b, c) := hv.inj V1 (by rw [hq, hp]; grind)
    rw [e]
    simp only [Option.bind_some]
    rw [decide_eq_false e1, decide_eq_true e2]
    simp
theorem back_good (a : Bool) (b c : ByteArray) (a' : Bool) (b' c' : ByteArray) (V1 : VR (a, b, c)) (V2 : VR (a', b', c')) (s1 : SzR 40 (valR (a, b, c))) (s2 : SzR 40 (valR (a', b', c'))) :
    XLBk.observatorylaw04_RationalBack.j0 9 true false a b c a' b' c' = some true := by
  obtain ⟨x1, y1, z1, e1, v1, q1, t1⟩ := add_parts V1 V2 s1 s2 (by decide) (by decide)
  obtain ⟨x2, y2, z2, e2, v2, q2, _⟩ := sub_parts v1 V2 t1 s2 (by decide) (by decide)
  obtain ⟨x3, y3, z3, e3, v3, q3, _⟩ := sub_parts V1 V1 s1 s1 (by decide) (by decide)
  obtain ⟨x4, y4, z4, e4, v4, q4, t4⟩ := mul_parts V1 V2 s1 s2 (by decide) (by decide)
  have h2 : ((x2, y2, z2) : R3) = (a, b, c) := v2.inj V1 (by rw [q2, q1]; grind)
  have h3 : ((x3, y3, z3) : R3) = (false, ⟨#[48]⟩, ⟨#[49]⟩) := v3.inj zero_VR ((show valR (x3, y3, z3) = 0 by rw [q3]; grind).trans val_zero.symm)
  simp only [Prod.mk.injEq] at h2 h3
  obtain ⟨rfl, rfl, rfl⟩ := h2
  obtain ⟨rfl, rfl, rfl⟩ := h3
  have J := back_j1 7 x2 y2 z2 a' b' c' x4 y4 z4 V1 V2 v4 t4 s2 q4
  simp only [XLBk.observatorylaw04_RationalBack.j0, e1, e2, e3, e4, Option.bind_some, neR, decide_true, Bool.not_true, Bool.false_eq_true, if_false, if_true, XLBk.observatorylaw04_rat.f]
  exact J
theorem pureBack (a : Bool) (b c : ByteArray) (a' : Bool) (b' c' : ByteArray) : XLBk.observatorylaw04_RationalBack.f 9 a b c a' b' c' = some true := by
  unfold XLBk.observatorylaw04_RationalBack.f observatorylaw04_head.f
  rw [few_f 9 _ (by simp) (by simp)]
  simp only [Option.bind_some, rational_Valid.f]
  cases hf : List.all [(⟨a, b, c⟩ : XLBk.S24), ⟨a', b', c'⟩] fewB with
  | false => rw [if_neg (by simp)]; rfl
  | true =>
    rw [if_pos rfl]
    cases h1 : validR (a, b, c) with
    | false => rw [if_neg (by simp)]; rfl
    | true =>
      rw [if_pos rfl]
      cases h2 : validR (a', b', c') with
      | false => rfl
      | true =>
        have V1 := validR_iff.1 h1
        have V2 := validR_iff.1 h2
        simp only [List.all_cons, List.all_nil, fewB, Bool.and_true, Bool.and_eq_true, decide_eq_true_eq] at hf
        obtain ⟨⟨f1, f2⟩, f3, f4⟩ := hf
        exact back_good a b c a' b' c' V1 V2 (V1.sz f1 f2) (V2.sz f3 f4)
theorem finRationalBack (a : Bool) (b c : ByteArray) (a' : Bool) (b' c' : ByteArray) (w : World) (hL : Laid w) :
    Calls Tryz.prog 6 #[.agg #[.bool a, .string b, .string c], .agg #[.bool a', .string b', .string c']] w fun e w' => e = .returned (.bool true) ∧ Below w.heap.size w w' :=
  XLBk.observatorylaw04_RationalBack.calls 9 a b c a' b' c' true w hL (pureBack a b c a' b' c')
end Go.Proofs.YthpomhboogcigaaGreatDoor
end

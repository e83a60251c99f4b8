/- The texts of this claim, laid together by a program of this session (bundle.py). -/
import Derived.Test.YthpomhboogcigaaGreatDoorBLOr1
import Derived.Test.YthpomhboogcigaaGreatDoorBLOr12
import Derived.Test.YthpomhboogcigaaGreatDoorBLOr15
import Derived.Test.YthpomhboogcigaaGreatDoorProg
import Derived.Below
import Derived.Deep.Draws
import Derived.Deep.AppendLies
import Derived.Maps.AppendAt
import Derived.OwnWalk
import Derived.Laws.BytesArg
import Derived.Laws.MakeOwn
import Derived.Laws.OwnMore
import Derived.Deep.OwnRows
import Derived.Tactics
import Derived.Lib.ConvBytes
import Derived.Laws.Slices
import Derived.WalkKit
import Derived.KernelRfl
import Derived.RowKit3
import Derived.Deep.LoopGhost
import Derived.Deep.QuietTactic
import Derived.BigQuiet
import Derived.WideLaws
import Derived.Deep.DeepCutAuto
import Derived.Deep.CutBlock
import Derived.Deep.RegionHeld3
import Derived.Laws.Rows
import Derived.Lib.AppendStr
import Derived.ArgAppend
import Derived.Laws.IdiomCopy
import Derived.OrdersHeld
import Derived.Laws.BitsLemmas
import Derived.RowKit
section -- RatHeadF
namespace Go.Proofs.YthpomhboogcigaaGreatDoor
open Go.RowKit Go.Proofs.YthpomhboogcigaaGreatDoorW.PrintWords Go.Proofs.YthpomhboogcigaaGreatDoorW.PrintMore Go.Proofs.YthpomhboogcigaaGreatDoorW.PrintLast
set_option linter.unusedVariables false
def observatorylaw04_head.f : Option Bool := some true
theorem observatorylaw04_head.calls (r : Bool) (w : World) (hL : Laid w) (h : observatorylaw04_head.f = some r) :
    Calls Tryz.prog 11 #[] w fun e w' => e = .returned (.bool r) ∧ Below w.heap.size w w' := by
  unfold observatorylaw04_head.f at h
  injection h with h
  subst h
  exact rhead_calls w hL
end Go.Proofs.YthpomhboogcigaaGreatDoor
end
section -- RatAt
namespace Go.Proofs.YthpomhboogcigaaGreatDoor
open Go.RowKit Go.Proofs.YthpomhboogcigaaGreatDoorW.PrintWords Go.Proofs.YthpomhboogcigaaGreatDoorW.PrintMore Go.Proofs.YthpomhboogcigaaGreatDoorW.PrintLast
set_option linter.unusedVariables false
set_option linter.unusedSimpArgs false
/-- A world's later steps that touch no old block but one. -/
class LaterX (g : Nat) (W U : World) : Prop where
  far : ∀ (b : Nat) (o : Obj), b ≠ g → W.heap[b]? = some o → U.heap[b]? = some o
  low : ∀ w : World, w.heap.size ≤ g → Below w.heap.size w W → Below w.heap.size w U
instance (g : Nat) (W : World) : LaterX g W W := ⟨fun _ _ _ h => h, fun _ _ h => h⟩
instance (g : Nat) (W U : World) (o : Obj) [h : LaterX g W U] : LaterX g W (U.alloc o) := ⟨fun b x hne hx => blk_later (h.far b x hne hx), fun w hg hb => below_alloc (h.low w hg hb) o⟩
instance (g : Nat) (W U : World) (n : Nat) [h : LaterX g W U] : LaterX g W (U.drewN n) := ⟨fun b x hne hx => blk_later (h.far b x hne hx), fun w hg hb => pw_below_drewN (h.low w hg hb) n⟩
instance (g : Nat) (W U : World) [h : LaterX g W U] : LaterX g W U.drew := ⟨fun b x hne hx => blk_later (h.far b x hne hx), fun w hg hb => below_drew1 (h.low w hg hb)⟩
instance (g i : Nat) (v : Value) (W U : World) [h : LaterX g W U] : LaterX g W (U.setCell ⟨g, i, none⟩ v) := ⟨fun b x hne hx => (heap_setCell_other U ⟨g, i, none⟩ b v hne).trans (h.far b x hne hx), fun w hg hb => below_set (h.low w hg hb) hg⟩
theorem far3 {W U : World} {b g : Nat} {o : Obj} (h : W.heap[b]? = some o) (hne : b ≠ g) [l : LaterX g W U] : U.heap[b]? = some o := l.far b o hne h
theorem BKS {w W U : World} {g : Nat} (h : Below w.heap.size w W) (hg : w.heap.size ≤ g) [l : LaterX g W U] : Below w.heap.size w U := l.low w hg h
theorem blk3 {W : World} {g : Nat} {x y z : Value} (h : W.heap[g]? = some (.cells #[x, y, z] 24 (0, 0))) : W.cell? ⟨g, 0, none⟩ = some x ∧ W.cell? ⟨g, 1, none⟩ = some y ∧ W.cell? ⟨g, 2, none⟩ = some z := ⟨blk_cell h 0, blk_cell h 1, blk_cell h 2⟩
theorem add_at {a : Bool} {b c : ByteArray} {a' : Bool} {b' c' : ByteArray} {x : Bool} {y z : ByteArray} {e : Int} (h : addR (a, b, c) (a', b', c') = ((x, y, z), e)) : rational_Add.f a b c a' b' c' = some (x, y, z, e) := by unfold rational_Add.f; rw [h]; rfl
theorem sub_at {a : Bool} {b c : ByteArray} {a' : Bool} {b' c' : ByteArray} {x : Bool} {y z : ByteArray} {e : Int} (h : subR (a, b, c) (a', b', c') = ((x, y, z), e)) : rational_Sub.f a b c a' b' c' = some (x, y, z, e) := by unfold rational_Sub.f; rw [h]; rfl
theorem mul_at {a : Bool} {b c : ByteArray} {a' : Bool} {b' c' : ByteArray} {x : Bool} {y z : ByteArray} {e : Int} (h : mulR (a, b, c) (a', b', c') = ((x, y, z), e)) : rational_Mul.f a b c a' b' c' = some (x, y, z, e) := by unfold rational_Mul.f; rw [h]; rfl
theorem eqR (x x' : Bool) (y y' z z' : ByteArray) : (x == x' && (y.toList == y'.toList && (z.toList == z'.toList))) = decide (((x, y, z) : R3) = (x', y', z')) := by
  rw [toList_eq, toList_eq, Bool.eq_iff_iff]
  simp [Prod.mk.injEq]
def zeroR : R3 := (false, ⟨#[48]⟩, ⟨#[49]⟩)
theorem rep_zero : repR 0 = zeroR := by decide +kernel
theorem zero_VR : VR zeroR := validR_iff.1 (by decide +kernel)
theorem val_zero : valR zeroR = 0 := by rw [← rep_zero, val_rep]
/-- The answer for the number q, written out, with what is known of it. -/
theorem rep_parts {q : Rat} {m : Nat} (hz : SzR m q) (hv : VR (repR q)) : ∃ (x : Bool) (y z : ByteArray), repR q = (x, y, z) ∧ VR (x, y, z) ∧ valR (x, y, z) = q ∧ SzR m (valR (x, y, z)) := by
  refine ⟨(repR q).1, (repR q).2.1, (repR q).2.2, rfl, hv, val_rep q, ?_⟩
  rw [show valR ((repR q).1, (repR q).2.1, (repR q).2.2) = q from val_rep q]
  exact hz
/-- The sum of two numbers, written out. -/
theorem add_parts {a : Bool} {b c : ByteArray} {a' : Bool} {b' c' : ByteArray} (ha : VR (a, b, c)) (hb : VR (a', b', c')) {m n : Nat} (h1 : SzR m (valR (a, b, c))) (h2 : SzR n (valR (a', b', c'))) (hm : 1 ≤ m) (hn : m + n + 1 ≤ 1000) :
    ∃ (x : Bool) (y z : ByteArray), rational_Add.f a b c a' b' c' = some (x, y, z, 0) ∧ VR (x, y, z) ∧ valR (x, y, z) = valR (a, b, c) + valR (a', b', c') ∧ SzR (m + n + 1) (valR (x, y, z)) := by
  obtain ⟨e, hz, hv⟩ := add_fine ha hb h1 h2 hm hn
  obtain ⟨x, y, z, e', hv', hq, hz'⟩ := rep_parts hz hv
  exact ⟨x, y, z, add_at (by rw [e, e']), hv', hq, hz'⟩
theorem sub_parts {a : Bool} {b c : ByteArray} {a' : Bool} {b' c' : ByteArray} (ha : VR (a, b, c)) (hb : VR (a', b', c')) {m n : Nat} (h1 : SzR m (valR (a, b, c))) (h2 : SzR n (valR (a', b', c'))) (hm : 1 ≤ m) (hn : m + n + 1 ≤ 1000) :
    ∃ (x : Bool) (y z : ByteArray), rational_Sub.f a b c a' b' c' = some (x, y, z, 0) ∧ VR (x, y, z) ∧ valR (x, y, z) = valR (a, b, c) - valR (a', b', c') ∧ SzR (m + n + 1) (valR (x, y, z)) := by
  obtain ⟨e, hz, hv⟩ := sub_fine ha hb h1 h2 hm hn
  obtain ⟨x, y, z, e', hv', hq, hz'⟩ := rep_parts hz hv
  exact ⟨x, y, z, sub_at (by rw [e, e']), hv', hq, hz'⟩
theorem mul_parts {a : Bool} {b c : ByteArray} {a' : Bool} {b' c' : ByteArray} (ha : VR (a, b, c)) (hb : VR (a', b', c')) {m n : Nat} (h1 : SzR m (valR (a, b, c))) (h2 : SzR n (valR (a', b', c'))) (hm : 1 ≤ m) (hn : m + n ≤ 1000) :
    ∃ (x : Bool) (y z : ByteArray), rational_Mul.f a b c a' b' c' = some (x, y, z, 0) ∧ VR (x, y, z) ∧ valR (x, y, z) = valR (a, b, c) * valR (a', b', c') ∧ SzR (m + n) (valR (x, y, z)) := by
  obtain ⟨e, hz, hv⟩ := mul_fine ha hb h1 h2 hm hn
  obtain ⟨x, y, z, e', hv', hq, hz'⟩ := rep_parts hz hv
  exact ⟨x, y, z, mul_at (by rw [e, e']), hv', hq, hz'⟩
/-- The order, as what Compare tells. -/
def cq (p q : Rat) : Int := if p < q then -1 else if q < p then 1 else 0
theorem cq_cases (p q : Rat) : (p < q ∧ cq p q = -1 ∧ cq q p = 1) ∨ (p = q ∧ cq p q = 0 ∧ cq q p = 0) ∨ (q < p ∧ cq p q = 1 ∧ cq q p = -1) := by
  unfold cq; grind
theorem cq_sub (p q : Rat) : cq (p - q) 0 = cq p q := by unfold cq; grind
theorem cq_add (p q r : Rat) : cq (p + r) (q + r) = cq p q := by unfold cq; grind
theorem cq_mul (p q r : Rat) (h : 0 < r) : cq (p * r) (q * r) = cq p q := by
  have e1 : p * r < q * r ↔ p < q := Rat.mul_lt_mul_right h
  have e2 : q * r < p * r ↔ q < p := Rat.mul_lt_mul_right h
  unfold cq; simp only [e1, e2]
theorem cq_trans (p q r : Rat) (h1 : cq p q ≤ 0) (h2 : cq q r ≤ 0) : ¬ cq p r > 0 := by
  unfold cq at *; grind
theorem pos_of (r : Rat) (h : 0 ≤ r) (h0 : r ≠ 0) : 0 < r := by grind
theorem cmp_parts {a : Bool} {b c : ByteArray} {a' : Bool} {b' c' : ByteArray} (ha : VR (a, b, c)) (hb : VR (a', b', c')) : rational_Compare.f a b c a' b' c' = some (cq (valR (a, b, c)) (valR (a', b', c'))) := by
  unfold rational_Compare.f; rw [cmp_fine ha hb]; rfl
theorem eq_val {x y : R3} (hx : VR x) (hy : VR y) : (x = y) ↔ valR x = valR y := ⟨fun h => by rw [h], hx.inj hy⟩
end Go.Proofs.YthpomhboogcigaaGreatDoor
end
section -- XLOr0
/- Written by a program of this session (xprint.sh), out of the translation: Lean functions that tell what Go functions of the program tell, and the proofs that they do, over the given callees; no condition but what each theorem states. -/
namespace Go.Proofs.YthpomhboogcigaaGreatDoor.XLOr
open Go.RowKit Go.Proofs.YthpomhboogcigaaGreatDoorW.PrintWords Go.Proofs.YthpomhboogcigaaGreatDoorW.PrintLast Go.Proofs.YthpomhboogcigaaGreatDoorW.PrintMore
attribute [local go_sem] max2_int min2_int max_two min_two max_three min_three max_four min_four   -- for this text's walks alone
set_option linter.unusedVariables false
set_option linter.unusedSimpArgs false
def errW : Option Int → Value
  | none => .nilIface
  | some c => .iface 0 (.int .i64 c)
theorem errW_none : errW none = .nilIface := rfl
theorem errW_some (c : Int) : errW (some c) = .iface 0 (.int .i64 c) := rfl
structure S24 where
  f0 : Bool
  f1 : ByteArray
  f2 : ByteArray
def z24 : S24 := ⟨false, (⟨#[]⟩ : ByteArray), (⟨#[]⟩ : ByteArray)⟩
def k24 : Kd S24 := Kd.iso (Kd.pair Kd.bool (Kd.pair Kd.string Kd.string)) (fun x : S24 => (x.f0, x.f1, x.f2))
theorem k24_open {w : World} {x : S24} {cs : List Value} (h : k24.K w x cs) : cs = [.bool x.f0, .string x.f1, .string x.f2] := by
  obtain ⟨_, _, rfl, rfl, ⟨_, _, rfl, rfl, rfl⟩⟩ := h
  exact rfl
theorem k24_mkM (w : World) (base : Nat) (ok : Nat → Prop) (x : S24)  : k24.M w base ok x [.bool x.f0, .string x.f1, .string x.f2] := ⟨[.bool x.f0], [.string x.f1, .string x.f2], rfl, rfl, ⟨[.string x.f1], [.string x.f2], rfl, rfl, rfl⟩⟩
def rd_T24 (xs : List S24) (i : Int) : S24 := xs.getD i.toNat z24
theorem at_T24 {w : World} {A : Option Addr} {n : Nat} {xs : List S24} (h : Kd.C k24 w A n xs) (i : Int) (h0 : 0 ≤ i) (h1 : i < n) : ∃ ad , A = some ad ∧ w.cell? (ad.add (i.toNat * 3)) = some (.bool (rd_T24 xs i).f0) ∧ w.cell? ⟨(ad.add (i.toNat * 3)).block, (ad.add (i.toNat * 3)).off + 1, none⟩ = some (.string (rd_T24 xs i).f1) ∧ w.cell? ⟨(ad.add (i.toNat * 3)).block, (ad.add (i.toNat * 3)).off + 2, none⟩ = some (.string (rd_T24 xs i).f2) := by
  obtain ⟨ad, c, e, _, hK, hc0⟩ := Kd.C_get h z24 i h0 h1
  have hc : ∀ j u, c[j]? = some u → w.cell? (ad.add (i.toNat * 3 + j)) = some u := hc0
  obtain rfl := k24_open hK
  exact ⟨ad, e, hc 0 _ rfl, by rw [← add_field _ _ 1 (by omega)]; exact hc 1 _ rfl, by rw [← add_field _ _ 2 (by omega)]; exact hc 2 _ rfl⟩
end Go.Proofs.YthpomhboogcigaaGreatDoor.XLOr
end
section -- XLOr1
/- Written by a program of this session (xprint.sh), out of the translation: Lean functions that tell what Go functions of the program tell, and the proofs that they do, over the given callees; no condition but what each theorem states. -/
namespace Go.Proofs.YthpomhboogcigaaGreatDoor.XLOr
open Go.RowKit Go.Proofs.YthpomhboogcigaaGreatDoorW.PrintWords Go.Proofs.YthpomhboogcigaaGreatDoorW.PrintLast Go.Proofs.YthpomhboogcigaaGreatDoorW.PrintMore
attribute [local go_sem] max2_int min2_int max_two min_two max_three min_three max_four min_four   -- for this text's walks alone
set_option linter.unusedVariables false
set_option linter.unusedSimpArgs false
theorem eqA24 (d : Nat) (w : World) (x0 y0 : Bool) (x1 y1 : ByteArray) (x2 y2 : ByteArray) :
    (Op.equalIn (d + 2) 24 (.agg #[.bool x0, .string x1, .string x2]) (.agg #[.bool y0, .string y1, .string y2])).run Tryz.prog w = .ok (x0 == y0 && (x1.toList == y1.toList && (x2.toList == y2.toList))) w := by
  refine eqA_of Tryz.underlying24 (by kernel_rfl) ?_
  refine eqf_cons (by rfl) (by go_simp; rfl) (by go_simp; rfl) (by go_simp) ?_
  refine eqf_cons (by rfl) (by go_simp; rfl) (by go_simp; rfl) (by go_simp) ?_
  exact eqf_last (by rfl) (by go_simp; rfl) (by go_simp; rfl) (by go_simp)
end Go.Proofs.YthpomhboogcigaaGreatDoor.XLOr
end
section -- XLOr2
/- Written by a program of this session (xprint.sh), out of the translation: Lean functions that tell what Go functions of the program tell, and the proofs that they do, over the given callees; no condition but what each theorem states. -/
namespace Go.Proofs.YthpomhboogcigaaGreatDoor.XLOr
open Go.RowKit Go.Proofs.YthpomhboogcigaaGreatDoorW.PrintWords Go.Proofs.YthpomhboogcigaaGreatDoorW.PrintLast Go.Proofs.YthpomhboogcigaaGreatDoorW.PrintMore
attribute [local go_sem] max2_int min2_int max_two min_two max_three min_three max_four min_four   -- for this text's walks alone
set_option linter.unusedVariables false
set_option linter.unusedSimpArgs false
def observatoryref04_Few.l0 : Nat → Int → List (S24) → Int → Option (Bool)
  | 0, _, _, _ => none
  | k + 1, x0, x1, x5 => if x5 < (x1.length : Int) then (if 0 ≤ x5 then (if (((rd_T24 x1 x5).f1).size : Int) > x0 then (some false) else (if (((rd_T24 x1 x5).f2).size : Int) > x0 then (some false) else (observatoryref04_Few.l0 k x0 x1 (wrap64 (x5 + 1))))) else (none)) else (some true)
def observatoryref04_Few.f (k : Nat) (a0 : Int) (l1 : List (S24)) : Option (Bool) := observatoryref04_Few.l0 k a0 l1 0
set_option maxHeartbeats 8000000 in
set_option maxRecDepth 100000 in
theorem observatoryref04_Few.calls (k : Nat) (a0 : Int) (A1 : Option Addr) (c1 : Nat) (l1 : List (S24)) (r : Bool) (w : World) (hr1 : Kd.C k24 w A1 l1.length l1) (hc1 : l1.length ≤ c1) (h : observatoryref04_Few.f k a0 l1 = some r) :
    Calls Tryz.prog 38 #[.int .i64 a0, .slice A1 l1.length c1] w fun e w' => e = .returned (.bool r) ∧ Drawn0 w w' := by
  have HR1 := Aside0.mk hr1
  have HC1 := Aside0.mk hc1
  clear hr1 hc1
  have H : (observatoryref04_Few.l0 k a0 l1 0) = some r := h
  clear h
  have H' := Aside0.mk H
  clear H
  go_enter Tryz.func38, Tryz.ntmps38
  go_wp2
  go_loopg [5] k (fun kq v5 w' => ∃ (x5_1 : Int), v5 = .int .i64 x5_1 ∧ Aside0 (observatoryref04_Few.l0 kq a0 l1 x5_1 = some r) ∧ Aside0 (kq ≤ k) ∧ Drawn0 w w')
  case atStart => exact ⟨(0), (by first | rfl | (simp; done) | (simp [*]; done)), H', ⟨Nat.le_refl _⟩, by repeat (first | exact Drawn0.refl _ | apply Drawn0.step)⟩
  case round =>
    clear H'
    try clear c1
    try clear p2
    obtain ⟨x5_1, rfl, HA, HK1, ⟨m1, rfl⟩⟩ := hrel
    cases gk with
    | zero => exact absurd HA.out (by simp [observatoryref04_Few.l0])
    | succ k1 =>
      have H := HA.out
      clear HA
      simp only [observatoryref04_Few.l0] at H
      by_cases c3 : x5_1 < (l1.length : Int)
      · rw [if_pos c3] at H
        have c3b0 : decide (x5_1 < (l1.length : Int)) = true := decide_eq_true c3
        clear c3
        by_cases c4 : 0 ≤ x5_1
        · rw [if_pos c4] at H
          have c4b0 : decide (0 ≤ x5_1) = true := decide_eq_true c4
          clear c4
          by_cases c5 : (((rd_T24 l1 x5_1).f1).size : Int) > a0
          · rw [if_pos c5] at H
            have c5b0 : decide (a0 < (((rd_T24 l1 x5_1).f1).size : Int)) = true := decide_eq_true c5
            clear c5
            obtain rfl := Option.some.inj H
            have p101 : 0 ≤ (x5_1 : Int) := of_decide_eq_true (by first | (with_reducible assumption) | assumption)
            have q101 : x5_1 < (l1.length : Int) := of_decide_eq_true (by first | (with_reducible assumption) | assumption)
            obtain ⟨ad101, e101, hx101_0, hx101_1, hx101_2⟩ := at_T24 HR1.out x5_1 p101 q101
            cases e101
            replace p101 := eq_true p101
            replace q101 := eq_true q101
            go_wp2
            go_ret
            exact ⟨by first | rfl | (simp; done) | (simp [*]; done), by repeat (first | exact Drawn0.refl _ | apply Drawn0.step)⟩
          · rw [if_neg c5] at H
            have c5b0 : decide (a0 < (((rd_T24 l1 x5_1).f1).size : Int)) = false := decide_eq_false c5
            clear c5
            by_cases c6 : (((rd_T24 l1 x5_1).f2).size : Int) > a0
            · rw [if_pos c6] at H
              have c6b0 : decide (a0 < (((rd_T24 l1 x5_1).f2).size : Int)) = true := decide_eq_true c6
              clear c6
              obtain rfl := Option.some.inj H
              have p101 : 0 ≤ (x5_1 : Int) := of_decide_eq_true (by first | (with_reducible assumption) | assumption)
              have q101 : x5_1 < (l1.length : Int) := of_decide_eq_true (by first | (with_reducible assumption) | assumption)
              obtain ⟨ad101, e101, hx101_0, hx101_1, hx101_2⟩ := at_T24 HR1.out x5_1 p101 q101
              cases e101
              replace p101 := eq_true p101
              replace q101 := eq_true q101
              have p102 : 0 ≤ (x5_1 : Int) := of_decide_eq_true (by first | (with_reducible assumption) | assumption)
              have q102 : x5_1 < (l1.length : Int) := of_decide_eq_true (by first | (with_reducible assumption) | assumption)
              obtain ⟨ad102, e102, hx102_0, hx102_1, hx102_2⟩ := at_T24 HR1.out x5_1 p102 q102
              obtain rfl : ad101 = ad102 := (by injection e102)
              replace p102 := eq_true p102
              replace q102 := eq_true q102
              go_wp2
              go_ret
              exact ⟨by first | rfl | (simp; done) | (simp [*]; done), by repeat (first | exact Drawn0.refl _ | apply Drawn0.step)⟩
            · rw [if_neg c6] at H
              have c6b0 : decide (a0 < (((rd_T24 l1 x5_1).f2).size : Int)) = false := decide_eq_false c6
              clear c6
              have H' := Aside0.mk H
              clear H
              have p101 : 0 ≤ (x5_1 : Int) := of_decide_eq_true (by first | (with_reducible assumption) | assumption)
              have q101 : x5_1 < (l1.length : Int) := of_decide_eq_true (by first | (with_reducible assumption) | assumption)
              obtain ⟨ad101, e101, hx101_0, hx101_1, hx101_2⟩ := at_T24 HR1.out x5_1 p101 q101
              cases e101
              replace p101 := eq_true p101
              replace q101 := eq_true q101
              have p102 : 0 ≤ (x5_1 : Int) := of_decide_eq_true (by first | (with_reducible assumption) | assumption)
              have q102 : x5_1 < (l1.length : Int) := of_decide_eq_true (by first | (with_reducible assumption) | assumption)
              obtain ⟨ad102, e102, hx102_0, hx102_1, hx102_2⟩ := at_T24 HR1.out x5_1 p102 q102
              obtain rfl : ad101 = ad102 := (by injection e102)
              replace p102 := eq_true p102
              replace q102 := eq_true q102
              go_wp2
              go_roundg k1
              case measure => have := HK1.out; omega
              case rel => exact ⟨(wrap64 (x5_1 + 1)), (by first | rfl | (simp; done) | (simp [*]; done)), H', ⟨by have := HK1.out; omega⟩, by repeat (first | exact Drawn0.refl _ | apply Drawn0.step)⟩
        · rw [if_neg c4] at H
          exact absurd H (by simp)
      · rw [if_neg c3] at H
        have c3b0 : decide (x5_1 < (l1.length : Int)) = false := decide_eq_false c3
        clear c3
        obtain rfl := Option.some.inj H
        go_wp2
        go_ret
        exact ⟨by first | rfl | (simp; done) | (simp [*]; done), by repeat (first | exact Drawn0.refl _ | apply Drawn0.step)⟩
def observatorylaw04_few.f (k : Nat) (l0 : List (S24)) : Option (Bool) := (observatoryref04_Few.f k 40 l0).bind fun t103 => (some t103)
set_option maxHeartbeats 8000000 in
set_option maxRecDepth 100000 in
theorem observatorylaw04_few.calls (k : Nat) (A0 : Option Addr) (c0 : Nat) (l0 : List (S24)) (r : Bool) (w : World) (hr0 : Kd.C k24 w A0 l0.length l0) (hc0 : l0.length ≤ c0) (h : observatorylaw04_few.f k l0 = some r) :
    Calls Tryz.prog 12 #[.slice A0 l0.length c0] w fun e w' => e = .returned (.bool r) ∧ Drawn0 w w' := by
  have HR0 := Aside0.mk hr0
  have HC0 := Aside0.mk hc0
  clear hr0 hc0
  have H : ((observatoryref04_Few.f k 40 l0).bind fun t103 => (some t103)) = some r := h
  clear h
  replace H := Option.bind_eq_some_iff.mp H
  obtain ⟨t103, A20, H⟩ := H
  replace H : (some t103) = some r := H
  have A2 := Aside0.mk A20
  clear A20
  obtain rfl := Option.some.inj H
  go_enter Tryz.func12, Tryz.ntmps12
  go_wp2_with (first | ((with_reducible refine gate_callee (f := 38) rfl ?_); refine goesL_ (some 4) rfl rfl Tryz.func38 (by kernel_rfl) rfl #[.int .i64 40, .slice A0 l0.length c0] rfl (by (try simp only [List.map_toArray, List.map_cons, List.map_nil]); first | done | rfl | (simp only [List.length_drop, List.length_take]; rfl)) ?_; (with_reducible refine (observatoryref04_Few.calls k 40 _ _ l0 t103 _ ?side1 ?side2 A2.out).mono ?_); (case side1 => repeat (first | exact HR0.out | (with_reducible refine Kd.C_alloc ?_ _) | (with_reducible refine Kd.C_drewN ?_ _) | (with_reducible refine Kd.C_drew ?_))); (case side2 => exact HC0.out); rintro e w' ⟨rfl, ⟨nd, rfl⟩⟩; refine ⟨_, rfl, ?_⟩))
  go_ret
  exact ⟨by first | rfl | (simp; done) | (simp [*]; done), by repeat (first | exact Drawn0.refl _ | apply Drawn0.step)⟩
def observatorylaw04_rat.f (a0 : Bool) (a1 : ByteArray) (a2 : ByteArray) : Option (Bool × ByteArray × ByteArray) := some (a0, a1, a2)
set_option maxHeartbeats 8000000 in
set_option maxRecDepth 100000 in
theorem observatorylaw04_rat.calls (a0 : Bool) (a1 : ByteArray) (a2 : ByteArray) (r1 : Bool) (r2 : ByteArray) (r3 : ByteArray) (w : World) (h : observatorylaw04_rat.f a0 a1 a2 = some (r1, r2, r3)) :
    Calls Tryz.prog 35 #[.bool a0, .string a1, .string a2] w fun e w' => e = .returned (.agg #[.bool r1, .string r2, .string r3]) ∧ Below w.heap.size w w' := by
  have hu24 := Tryz.underlying24
  have HB := Aside0.mk (Below.refl w.heap.size w)
  have H : (some (a0, a1, a2)) = some (r1, r2, r3) := h
  clear h
  simp only [Option.some.injEq, Prod.mk.injEq] at H
  obtain ⟨rfl, rfl, rfl⟩ := H
  go_enter Tryz.func35, Tryz.ntmps35
  go_wp2_with (first | ((with_reducible refine gate_dst (N := 6) rfl ?_); refine box_event ?hg (N := 6) ?hd (cs := #[.bool false, .string (⟨#[]⟩ : ByteArray), .string (⟨#[]⟩ : ByteArray)]) (t := 24) ?hr ?_; (case hd => rfl); (case hg => rfl); (case hr => first | (go_simp; done) | (go_simp; rfl)); intro gb104 hg w4 hbox hb; have n0_ := Aside0.mk (below_step (by repeat (first | (with_reducible first | exact HB.out | apply below_alloc | apply pw_below_drewN | apply below_drew1) | exact HB.out)) hb); have n1_ := Aside0.mk (hbox); have n2_ := Aside0.mk ((by rw [hg]; exact (below_size (by repeat (first | (with_reducible first | exact HB.out | apply below_alloc | apply pw_below_drewN | apply below_drew1) | exact HB.out))) : w.heap.size ≤ gb104)); have n3_ := Aside0.mk ((by rw [hg]; exact (below_size (by repeat (first | (with_reducible first | exact HB.out | apply below_alloc | apply pw_below_drewN | apply below_drew1) | exact HB.out))) : w.heap.size ≤ gb104)); clear HB; have HB := n0_; have BK104 := n1_; have GW104 := n2_; have GE104 := n3_; clear n0_ n1_ n2_ n3_; clear hb hbox hg; have hcz5_0 : w4.cell? ⟨gb104, 0, none⟩ = some (.bool false) := (blk_cell BK104.out 0).trans rfl; have hcz5_1 : w4.cell? ⟨gb104, 1, none⟩ = some (.string (⟨#[]⟩ : ByteArray)) := (blk_cell BK104.out 1).trans rfl; have hcz5_2 : w4.cell? ⟨gb104, 2, none⟩ = some (.string (⟨#[]⟩ : ByteArray)) := (blk_cell BK104.out 2).trans rfl; have hfz5_0 := blk_frozen BK104.out 0; have hfz5_1 := blk_frozen BK104.out 1; have hfz5_2 := blk_frozen BK104.out 2))
  refine bodyPost_ret (results_cell_row rfl _ _ gb104 24 #[.bool a0, .string a1, .string a2] (0, 0) _ rfl (by (with_reducible repeat (first | refine blk_drewN ?_ _ | refine blk_drew ?_ | refine blk_alloc ?_ _)); refine blk_put (cs := #[.bool a0, .string a1, .string (⟨#[]⟩ : ByteArray)]) ?_ 2 _ rfl; (with_reducible repeat (first | refine blk_drewN ?_ _ | refine blk_drew ?_ | refine blk_alloc ?_ _)); refine blk_put (cs := #[.bool a0, .string (⟨#[]⟩ : ByteArray), .string (⟨#[]⟩ : ByteArray)]) ?_ 1 _ rfl; (with_reducible repeat (first | refine blk_drewN ?_ _ | refine blk_drew ?_ | refine blk_alloc ?_ _)); refine blk_put (cs := #[.bool false, .string (⟨#[]⟩ : ByteArray), .string (⟨#[]⟩ : ByteArray)]) ?_ 0 _ rfl; (with_reducible repeat (first | refine blk_drewN ?_ _ | refine blk_drew ?_ | refine blk_alloc ?_ _)); exact BK104.out) Tryz.underlying24 rfl (by kernel_rfl)) rfl ?_
  exact ⟨by first | rfl | (simp [errW_none, errW_some] <;> rfl) | (simp [*, errW_none, errW_some] <;> rfl), by repeat (first | (with_reducible first | exact HB.out | apply below_alloc | apply pw_below_drewN | apply below_drew1 | refine below_set ?_ GE104.out) | exact HB.out)⟩
end Go.Proofs.YthpomhboogcigaaGreatDoor.XLOr
end
section -- XLOr3
/- Written by a program of this session (xprint.sh), out of the translation: Lean functions that tell what Go functions of the program tell, and the proofs that they do, over the given callees; no condition but what each theorem states. -/
namespace Go.Proofs.YthpomhboogcigaaGreatDoor.XLOr
open Go.RowKit Go.Proofs.YthpomhboogcigaaGreatDoorW.PrintWords Go.Proofs.YthpomhboogcigaaGreatDoorW.PrintLast Go.Proofs.YthpomhboogcigaaGreatDoorW.PrintMore
attribute [local go_sem] max2_int min2_int max_two min_two max_three min_three max_four min_four   -- for this text's walks alone
set_option linter.unusedVariables false
set_option linter.unusedSimpArgs false
attribute [local go_sem high] eqA24
mutual
def observatorylaw04_RationalOrder.j0 : Nat → Bool → Bool → Bool → ByteArray → ByteArray → Bool → ByteArray → ByteArray → Bool → ByteArray → ByteArray → Option (Bool)
  | 0, _, _, _, _, _, _, _, _, _, _, _ => none
  | k + 1, x7, x42, x106000, x106001, x106002, x107000, x107001, x107002, x108000, x108001, x108002 => if x42 = true then (some x7) else ((observatorylaw04_rat.f false (⟨#[48]⟩ : ByteArray) (⟨#[49]⟩ : ByteArray)).bind fun bt116 => ((rational_Compare.f x106000 x106001 x106002 x107000 x107001 x107002).bind fun t120 => ((rational_Compare.f x107000 x107001 x107002 x108000 x108001 x108002).bind fun t121 => ((rational_Compare.f x107000 x107001 x107002 x106000 x106001 x106002).bind fun t122 => (if t122 = (wrap64 (-t120)) then (if ((t120 == 0) != (x106000 == x107000 && (x106001.toList == x107001.toList && (x106002.toList == x107002.toList)))) = true then (observatorylaw04_RationalOrder.j1 k x7 t120 true x106000 x106001 x106002 x107000 x107001 x107002 x108000 x108001 x108002 bt116.1 bt116.2.1 bt116.2.2) else (if t120 < (-1) then (observatorylaw04_RationalOrder.j1 k x7 t120 true x106000 x106001 x106002 x107000 x107001 x107002 x108000 x108001 x108002 bt116.1 bt116.2.1 bt116.2.2) else (if t120 > 1 then (observatorylaw04_RationalOrder.j1 k x7 t120 true x106000 x106001 x106002 x107000 x107001 x107002 x108000 x108001 x108002 bt116.1 bt116.2.1 bt116.2.2) else (if t120 ≤ 0 then (if t121 ≤ 0 then ((rational_Compare.f x106000 x106001 x106002 x108000 x108001 x108002).bind fun t123 => (observatorylaw04_RationalOrder.j1 k x7 t120 (decide (t123 > 0)) x106000 x106001 x106002 x107000 x107001 x107002 x108000 x108001 x108002 bt116.1 bt116.2.1 bt116.2.2)) else (observatorylaw04_RationalOrder.j1 k x7 t120 false x106000 x106001 x106002 x107000 x107001 x107002 x108000 x108001 x108002 bt116.1 bt116.2.1 bt116.2.2)) else (observatorylaw04_RationalOrder.j1 k x7 t120 false x106000 x106001 x106002 x107000 x107001 x107002 x108000 x108001 x108002 bt116.1 bt116.2.1 bt116.2.2))))) else (observatorylaw04_RationalOrder.j1 k x7 t120 true x106000 x106001 x106002 x107000 x107001 x107002 x108000 x108001 x108002 bt116.1 bt116.2.1 bt116.2.2))))))
def observatorylaw04_RationalOrder.j1 : Nat → Bool → Int → Bool → Bool → ByteArray → ByteArray → Bool → ByteArray → ByteArray → Bool → ByteArray → ByteArray → Bool → ByteArray → ByteArray → Option (Bool)
  | 0, _, _, _, _, _, _, _, _, _, _, _, _, _, _, _ => none
  | k + 1, x7, x9, x86, x106000, x106001, x106002, x107000, x107001, x107002, x108000, x108001, x108002, x120000, x120001, x120002 => if x86 = true then (none) else ((rational_Sub.f x106000 x106001 x106002 x107000 x107001 x107002).bind fun bt124 => ((rational_Add.f x106000 x106001 x106002 x108000 x108001 x108002).bind fun bt129 => ((rational_Add.f x107000 x107001 x107002 x108000 x108001 x108002).bind fun bt134 => ((rational_Mul.f x106000 x106001 x106002 x108000 x108001 x108002).bind fun bt139 => ((rational_Mul.f x107000 x107001 x107002 x108000 x108001 x108002).bind fun bt144 => (if bt124.2.2.2 = 0 then (if bt129.2.2.2 = 0 then (if bt134.2.2.2 = 0 then (if bt139.2.2.2 = 0 then (if bt144.2.2.2 = 0 then ((rational_Compare.f bt124.1 bt124.2.1 bt124.2.2.1 x120000 x120001 x120002).bind fun t149 => (if t149 = x9 then ((rational_Compare.f bt129.1 bt129.2.1 bt129.2.2.1 bt134.1 bt134.2.1 bt134.2.2.1).bind fun t150 => (if t150 = x9 then (if x7 = true then (if x108000 = true then (some true) else (if (x108000 == x120000 && (x108001.toList == x120001.toList && (x108002.toList == x120002.toList))) = true then (some true) else ((rational_Compare.f bt139.1 bt139.2.1 bt139.2.2.1 bt144.1 bt144.2.1 bt144.2.2.1).bind fun t151 => (some (t151 == x9))))) else (none)) else (none))) else (none))) else (none)) else (none)) else (none)) else (none)) else (none)))))))
end
def observatorylaw04_RationalOrder.f (k : Nat) (a0_0 : Bool) (a0_1 : ByteArray) (a0_2 : ByteArray) (a1_0 : Bool) (a1_1 : ByteArray) (a1_2 : ByteArray) (a2_0 : Bool) (a2_1 : ByteArray) (a2_2 : ByteArray) : Option (Bool) := (observatorylaw04_head.f).bind fun t108 => ((observatorylaw04_few.f k (([(⟨a0_0, a0_1, a0_2⟩ : S24), (⟨a1_0, a1_1, a1_2⟩ : S24), (⟨a2_0, a2_1, a2_2⟩ : S24)] : List (S24)))).bind fun t112 => (if t112 = true then ((rational_Valid.f a0_0 a0_1 a0_2).bind fun t113 => (if t113 = true then ((rational_Valid.f a1_0 a1_1 a1_2).bind fun t114 => (if t114 = true then ((rational_Valid.f a2_0 a2_1 a2_2).bind fun t115 => (observatorylaw04_RationalOrder.j0 k t108 (!t115) a0_0 a0_1 a0_2 a1_0 a1_1 a1_2 a2_0 a2_1 a2_2)) else (observatorylaw04_RationalOrder.j0 k t108 true a0_0 a0_1 a0_2 a1_0 a1_1 a1_2 a2_0 a2_1 a2_2))) else (observatorylaw04_RationalOrder.j0 k t108 true a0_0 a0_1 a0_2 a1_0 a1_1 a1_2 a2_0 a2_1 a2_2))) else (observatorylaw04_RationalOrder.j0 k t108 true a0_0 a0_1 a0_2 a1_0 a1_1 a1_2 a2_0 a2_1 a2_2)))
set_option maxHeartbeats 8000000 in
set_option maxRecDepth 100000 in
theorem observatorylaw04_RationalOrder.calls (k : Nat) (a0_0 : Bool) (a0_1 : ByteArray) (a0_2 : ByteArray) (a1_0 : Bool) (a1_1 : ByteArray) (a1_2 : ByteArray) (a2_0 : Bool) (a2_1 : ByteArray) (a2_2 : ByteArray) (r : Bool) (w : World) (hL : Laid w) (h : observatorylaw04_RationalOrder.f k a0_0 a0_1 a0_2 a1_0 a1_1 a1_2 a2_0 a2_1 a2_2 = some r) :
    Calls Tryz.prog 7 #[.agg #[.bool a0_0, .string a0_1, .string a0_2], .agg #[.bool a1_0, .string a1_1, .string a1_2], .agg #[.bool a2_0, .string a2_1, .string a2_2]] w fun e w' => e = .returned (.bool r) ∧ Below w.heap.size w w' := by
  have HLaid := Aside0.mk hL
  clear hL
  have hu24 := Tryz.underlying24
  have HB := Aside0.mk (Below.refl w.heap.size w)
  have H : ((observatorylaw04_head.f).bind fun t108 => ((observatorylaw04_few.f k (([(⟨a0_0, a0_1, a0_2⟩ : S24), (⟨a1_0, a1_1, a1_2⟩ : S24), (⟨a2_0, a2_1, a2_2⟩ : S24)] : List (S24)))).bind fun t112 => (if t112 = true then ((rational_Valid.f a0_0 a0_1 a0_2).bind fun t113 => (if t113 = true then ((rational_Valid.f a1_0 a1_1 a1_2).bind fun t114 => (if t114 = true then ((rational_Valid.f a2_0 a2_1 a2_2).bind fun t115 => (observatorylaw04_RationalOrder.j0 k t108 (!t115) a0_0 a0_1 a0_2 a1_0 a1_1 a1_2 a2_0 a2_1 a2_2)) else (observatorylaw04_RationalOrder.j0 k t108 true a0_0 a0_1 a0_2 a1_0 a1_1 a1_2 a2_0 a2_1 a2_2))) else (observatorylaw04_RationalOrder.j0 k t108 true a0_0 a0_1 a0_2 a1_0 a1_1 a1_2 a2_0 a2_1 a2_2))) else (observatorylaw04_RationalOrder.j0 k t108 true a0_0 a0_1 a0_2 a1_0 a1_1 a1_2 a2_0 a2_1 a2_2)))) = some r := h
  clear h
  replace H := Option.bind_eq_some_iff.mp H
  obtain ⟨t108, A40, H⟩ := H
  replace H : ((observatorylaw04_few.f k (([(⟨a0_0, a0_1, a0_2⟩ : S24), (⟨a1_0, a1_1, a1_2⟩ : S24), (⟨a2_0, a2_1, a2_2⟩ : S24)] : List (S24)))).bind fun t112 => (if t112 = true then ((rational_Valid.f a0_0 a0_1 a0_2).bind fun t113 => (if t113 = true then ((rational_Valid.f a1_0 a1_1 a1_2).bind fun t114 => (if t114 = true then ((rational_Valid.f a2_0 a2_1 a2_2).bind fun t115 => (observatorylaw04_RationalOrder.j0 k t108 (!t115) a0_0 a0_1 a0_2 a1_0 a1_1 a1_2 a2_0 a2_1 a2_2)) else (observatorylaw04_RationalOrder.j0 k t108 true a0_0 a0_1 a0_2 a1_0 a1_1 a1_2 a2_0 a2_1 a2_2))) else (observatorylaw04_RationalOrder.j0 k t108 true a0_0 a0_1 a0_2 a1_0 a1_1 a1_2 a2_0 a2_1 a2_2))) else (observatorylaw04_RationalOrder.j0 k t108 true a0_0 a0_1 a0_2 a1_0 a1_1 a1_2 a2_0 a2_1 a2_2))) = some r := H
  have A4 := Aside0.mk A40
  clear A40
  have HC5 := Aside0.mk H
  clear H
  go_enter Tryz.func7, Tryz.ntmps7
  go_upto_region 2 with (first | ((with_reducible refine gate_dst (N := 3) rfl ?_); refine box_event ?hg (N := 3) ?hd (cs := #[.bool a0_0, .string a0_1, .string a0_2]) (t := 24) ?hr ?_; (case hd => rfl); (case hg => rfl); (case hr => first | (go_simp; done) | (go_simp; rfl)); intro gb105 hg w6 hbox hb; have n0_ := Aside0.mk (below_step (BK HB.out) hb); have n1_ := Aside0.mk (hbox); have n2_ := Aside0.mk ((by rw [hg]; exact (below_size (BK HB.out)) : w.heap.size ≤ gb105)); have n3_ := Aside0.mk ((by rw [hg]; exact (below_size (BK HB.out)) : w.heap.size ≤ gb105)); clear HB; have HB := n0_; have BK105 := n1_; have GW105 := n2_; have GE105 := n3_; clear n0_ n1_ n2_ n3_; clear hb hbox hg) | ((with_reducible refine gate_dst (N := 4) rfl ?_); refine box_event ?hg (N := 4) ?hd (cs := #[.bool a1_0, .string a1_1, .string a1_2]) (t := 24) ?hr ?_; (case hd => rfl); (case hg => rfl); (case hr => first | (go_simp; done) | (go_simp; rfl)); intro gb106 hg w7 hbox hb; have n0_ := Aside0.mk (blk_below (blk_later BK105.out) hb); have n1_ := Aside0.mk (below_step (BK HB.out) hb); have n2_ := Aside0.mk (hbox); have n3_ := Aside0.mk ((by rw [hg]; exact (below_size (BK HB.out)) : w.heap.size ≤ gb106)); have n4_ := Aside0.mk ((by rw [hg]; exact (below_size (BK HB.out)) : w.heap.size ≤ gb106)); have n5_ := Aside0.mk ((by rw [hg]; exact Nat.ne_of_lt (blk_lt (blk_later BK105.out)) : gb105 ≠ gb106)); have n6_ := Aside0.mk ((by rw [hg]; exact Nat.ne_of_gt (blk_lt (blk_later BK105.out)) : gb106 ≠ gb105)); clear BK105; clear HB; have BK105 := n0_; have HB := n1_; have BK106 := n2_; have GW106 := n3_; have GE106 := n4_; have NB105_106 := n5_; have NB106_105 := n6_; clear n0_ n1_ n2_ n3_ n4_ n5_ n6_; clear hb hbox hg) | ((with_reducible refine gate_dst (N := 5) rfl ?_); refine box_event ?hg (N := 5) ?hd (cs := #[.bool a2_0, .string a2_1, .string a2_2]) (t := 24) ?hr ?_; (case hd => rfl); (case hg => rfl); (case hr => first | (go_simp; done) | (go_simp; rfl)); intro gb107 hg w8 hbox hb; have n0_ := Aside0.mk (blk_below (blk_later BK105.out) hb); have n1_ := Aside0.mk (blk_below (blk_later BK106.out) hb); have n2_ := Aside0.mk (below_step (BK HB.out) hb); have n3_ := Aside0.mk (hbox); have n4_ := Aside0.mk ((by rw [hg]; exact (below_size (BK HB.out)) : w.heap.size ≤ gb107)); have n5_ := Aside0.mk ((by rw [hg]; exact (below_size (BK HB.out)) : w.heap.size ≤ gb107)); have n6_ := Aside0.mk ((by rw [hg]; exact Nat.ne_of_lt (blk_lt (blk_later BK105.out)) : gb105 ≠ gb107)); have n7_ := Aside0.mk ((by rw [hg]; exact Nat.ne_of_gt (blk_lt (blk_later BK105.out)) : gb107 ≠ gb105)); have n8_ := Aside0.mk ((by rw [hg]; exact Nat.ne_of_lt (blk_lt (blk_later BK106.out)) : gb106 ≠ gb107)); have n9_ := Aside0.mk ((by rw [hg]; exact Nat.ne_of_gt (blk_lt (blk_later BK106.out)) : gb107 ≠ gb106)); clear BK105; clear BK106; clear HB; have BK105 := n0_; have BK106 := n1_; have HB := n2_; have BK107 := n3_; have GW107 := n4_; have GE107 := n5_; have NB105_107 := n6_; have NB107_105 := n7_; have NB106_107 := n8_; have NB107_106 := n9_; clear n0_ n1_ n2_ n3_ n4_ n5_ n6_ n7_ n8_ n9_; clear hb hbox hg) | ((with_reducible refine gate_callee (f := 11) rfl ?_); refine goesL_ (some 21) rfl rfl Tryz.func11 (by kernel_rfl) rfl #[] rfl (by (try simp only [List.map_toArray, List.map_cons, List.map_nil]); first | done | rfl | (simp only [List.length_drop, List.length_take]; rfl)) ?_; (with_reducible refine (observatorylaw04_head.calls  t108 _ ?side1 A4.out).mono ?_); (case side1 => exact Laid.below HLaid.out (BK HB.out)); rintro e w9 ⟨rfl, hb⟩; refine ⟨_, rfl, ?_⟩; have n0_ := Aside0.mk (blk_below (blk_later BK105.out) hb); have n1_ := Aside0.mk (blk_below (blk_later BK106.out) hb); have n2_ := Aside0.mk (blk_below (blk_later BK107.out) hb); have n3_ := Aside0.mk (below_step (BK HB.out) hb); clear BK105; clear BK106; clear BK107; clear HB; have BK105 := n0_; have BK106 := n1_; have BK107 := n2_; have HB := n3_; clear n0_ n1_ n2_ n3_; (try clear hb)))
  (try simp only [Act.put, List.setIfInBounds_toArray, List.set_cons_zero, List.set_cons_succ])
  go_cut [42] (fun v42 wc => ∃ (kq : Nat) (x42_4 : Bool), v42 = .bool x42_4 ∧ Aside0 (observatorylaw04_RationalOrder.j0 kq t108 x42_4 a0_0 a0_1 a0_2 a1_0 a1_1 a1_2 a2_0 a2_1 a2_2 = some r) ∧ Aside0 (kq ≤ k) ∧ Aside0 (wc.heap[gb105]? = some (.cells #[.bool a0_0, .string a0_1, .string a0_2] 24 (0, 0))) ∧ Aside0 (wc.heap[gb106]? = some (.cells #[.bool a1_0, .string a1_1, .string a1_2] 24 (0, 0))) ∧ Aside0 (wc.heap[gb107]? = some (.cells #[.bool a2_0, .string a2_1, .string a2_2] 24 (0, 0))) ∧ Aside0 (Below w.heap.size w wc))
  case first =>
    have H := HC5.out
    clear HC5
    obtain ⟨y109, hy109⟩ : ∃ y_ : List (S24), y_ = (([(⟨a0_0, a0_1, a0_2⟩ : S24), (⟨a1_0, a1_1, a1_2⟩ : S24), (⟨a2_0, a2_1, a2_2⟩ : S24)] : List (S24))) := ⟨_, rfl⟩
    replace H : ((observatorylaw04_few.f k y109).bind fun t112 => (if t112 = true then ((rational_Valid.f a0_0 a0_1 a0_2).bind fun t113 => (if t113 = true then ((rational_Valid.f a1_0 a1_1 a1_2).bind fun t114 => (if t114 = true then ((rational_Valid.f a2_0 a2_1 a2_2).bind fun t115 => (observatorylaw04_RationalOrder.j0 k t108 (!t115) a0_0 a0_1 a0_2 a1_0 a1_1 a1_2 a2_0 a2_1 a2_2)) else (observatorylaw04_RationalOrder.j0 k t108 true a0_0 a0_1 a0_2 a1_0 a1_1 a1_2 a2_0 a2_1 a2_2))) else (observatorylaw04_RationalOrder.j0 k t108 true a0_0 a0_1 a0_2 a1_0 a1_1 a1_2 a2_0 a2_1 a2_2))) else (observatorylaw04_RationalOrder.j0 k t108 true a0_0 a0_1 a0_2 a1_0 a1_1 a1_2 a2_0 a2_1 a2_2))) = some r := by first | (rw [hy109]; with_reducible exact H) | (have H2_ := (Option.bind_some _ _).symm.trans H; rw [hy109]; with_reducible exact H2_) | (have H2_ := (Option.bind_some _ _).symm.trans H; with_reducible exact H2_) | with_reducible exact H | (rw [hy109]; exact H) | exact H
    have Ny109 := Aside0.mk hy109
    clear hy109
    replace H := Option.bind_eq_some_iff.mp H
    obtain ⟨t112, A100, H⟩ := H
    replace H : (if t112 = true then ((rational_Valid.f a0_0 a0_1 a0_2).bind fun t113 => (if t113 = true then ((rational_Valid.f a1_0 a1_1 a1_2).bind fun t114 => (if t114 = true then ((rational_Valid.f a2_0 a2_1 a2_2).bind fun t115 => (observatorylaw04_RationalOrder.j0 k t108 (!t115) a0_0 a0_1 a0_2 a1_0 a1_1 a1_2 a2_0 a2_1 a2_2)) else (observatorylaw04_RationalOrder.j0 k t108 true a0_0 a0_1 a0_2 a1_0 a1_1 a1_2 a2_0 a2_1 a2_2))) else (observatorylaw04_RationalOrder.j0 k t108 true a0_0 a0_1 a0_2 a1_0 a1_1 a1_2 a2_0 a2_1 a2_2))) else (observatorylaw04_RationalOrder.j0 k t108 true a0_0 a0_1 a0_2 a1_0 a1_1 a1_2 a2_0 a2_1 a2_2)) = some r := H
    have A10 := Aside0.mk A100
    clear A100
    by_cases c11 : t112 = true
    · subst c11
      rw [if_pos rfl] at H
      replace H := Option.bind_eq_some_iff.mp H
      obtain ⟨t113, A120, H⟩ := H
      replace H : (if t113 = true then ((rational_Valid.f a1_0 a1_1 a1_2).bind fun t114 => (if t114 = true then ((rational_Valid.f a2_0 a2_1 a2_2).bind fun t115 => (observatorylaw04_RationalOrder.j0 k t108 (!t115) a0_0 a0_1 a0_2 a1_0 a1_1 a1_2 a2_0 a2_1 a2_2)) else (observatorylaw04_RationalOrder.j0 k t108 true a0_0 a0_1 a0_2 a1_0 a1_1 a1_2 a2_0 a2_1 a2_2))) else (observatorylaw04_RationalOrder.j0 k t108 true a0_0 a0_1 a0_2 a1_0 a1_1 a1_2 a2_0 a2_1 a2_2)) = some r := H
      have A12 := Aside0.mk A120
      clear A120
      by_cases c13 : t113 = true
      · subst c13
        rw [if_pos rfl] at H
        replace H := Option.bind_eq_some_iff.mp H
        obtain ⟨t114, A140, H⟩ := H
        replace H : (if t114 = true then ((rational_Valid.f a2_0 a2_1 a2_2).bind fun t115 => (observatorylaw04_RationalOrder.j0 k t108 (!t115) a0_0 a0_1 a0_2 a1_0 a1_1 a1_2 a2_0 a2_1 a2_2)) else (observatorylaw04_RationalOrder.j0 k t108 true a0_0 a0_1 a0_2 a1_0 a1_1 a1_2 a2_0 a2_1 a2_2)) = some r := H
        have A14 := Aside0.mk A140
        clear A140
        by_cases c15 : t114 = true
        · subst c15
          rw [if_pos rfl] at H
          replace H := Option.bind_eq_some_iff.mp H
          obtain ⟨t115, A160, H⟩ := H
          replace H : (observatorylaw04_RationalOrder.j0 k t108 (!t115) a0_0 a0_1 a0_2 a1_0 a1_1 a1_2 a2_0 a2_1 a2_2) = some r := H
          have A16 := Aside0.mk A160
          clear A160
          have H' := Aside0.mk H
          clear H
          have hnb17 := NB105_106.out
          have hnc17 := NB106_105.out
          have hnb18 := NB105_107.out
          have hnc18 := NB107_105.out
          obtain ⟨hcz19_0, hcz19_1, hcz19_2⟩ := blk3 BK105.out
          have hfz19_0 := blk_frozen BK105.out 0
          have hfz19_1 := blk_frozen BK105.out 1
          have hfz19_2 := blk_frozen BK105.out 2
          have hnb20 := NB106_107.out
          have hnc20 := NB107_106.out
          obtain ⟨hcz21_0, hcz21_1, hcz21_2⟩ := blk3 BK106.out
          have hfz21_0 := blk_frozen BK106.out 0
          have hfz21_1 := blk_frozen BK106.out 1
          have hfz21_2 := blk_frozen BK106.out 2
          obtain ⟨hcz22_0, hcz22_1, hcz22_2⟩ := blk3 BK107.out
          have hfz22_0 := blk_frozen BK107.out 0
          have hfz22_1 := blk_frozen BK107.out 1
          have hfz22_2 := blk_frozen BK107.out 2
          go_wp2_with (first | ((with_reducible refine gate_dst (N := 25) rfl ?_); refine Kd.R_lit k24 _ 24 ?hg (N := 25) ?hd (xs := ([(⟨a0_0, a0_1, a0_2⟩ : S24), (⟨a1_0, a1_1, a1_2⟩ : S24), (⟨a2_0, a2_1, a2_2⟩ : S24)] : List (S24))) (inner := [.bool a0_0, .string a0_1, .string a0_2, .bool a1_0, .string a1_1, .string a1_2, .bool a2_0, .string a2_1, .string a2_2]) (ok := fun _ => True) (okp := fun _ => True) ?hr ?hp (fun _ hk => hk) trivial (Below.refl _ _) (Nat.le_refl _) (by simp) ?_; (case hd => rfl); (case hg => rfl); (case hr => first | (go_simp; done) | (go_simp; rfl)); (case hp => exact (Reps.c3 (show Kd.M k24 _ _ _ (⟨a0_0, a0_1, a0_2⟩ : S24) [.bool a0_0, .string a0_1, .string a0_2] from (k24_mkM _ _ _ (⟨a0_0, a0_1, a0_2⟩ : S24) )) (Reps.c3 (show Kd.M k24 _ _ _ (⟨a1_0, a1_1, a1_2⟩ : S24) [.bool a1_0, .string a1_1, .string a1_2] from (k24_mkM _ _ _ (⟨a1_0, a1_1, a1_2⟩ : S24) )) (Reps.c3 (show Kd.M k24 _ _ _ (⟨a2_0, a2_1, a2_2⟩ : S24) [.bool a2_0, .string a2_1, .string a2_2] from (k24_mkM _ _ _ (⟨a2_0, a2_1, a2_2⟩ : S24) )) (Reps.none _ _))))); intro v110 w23 ho24 hb hg_ hnew_; clear hg_ hnew_; (first | rw [← Ny109.out] at ho24 | (simp only [Int.reduceToNat] at ho24; rw [← Ny109.out] at ho24)); have n0_ := Aside0.mk (Kd.R_lower (Kd.R_newB (Kd.R_newB (Kd.R_newB ho24 (g := gb105) (o := .cells #[.bool a0_0, .string a0_1, .string a0_2] 24 (0, 0)) (blk_later BK105.out)) (g := gb106) (o := .cells #[.bool a1_0, .string a1_1, .string a1_2] 24 (0, 0)) (blk_later BK106.out)) (g := gb107) (o := .cells #[.bool a2_0, .string a2_1, .string a2_2] 24 (0, 0)) (blk_later BK107.out)) (below_size (BK HB.out))); have n1_ := Aside0.mk (blk_below (blk_later BK105.out) hb); have n2_ := Aside0.mk (blk_below (blk_later BK106.out) hb); have n3_ := Aside0.mk (blk_below (blk_later BK107.out) hb); have n4_ := Aside0.mk (below_step (BK HB.out) hb); clear BK105; clear BK106; clear BK107; clear HB; have HO111 := n0_; have BK105 := n1_; have BK106 := n2_; have BK107 := n3_; have HB := n4_; clear n0_ n1_ n2_ n3_ n4_; clear hb ho24; obtain ⟨Ao25, co25, eo25⟩ := Kd.R_slice HO111.out; subst eo25) | ((with_reducible refine gate_callee (f := 12) rfl ?_); refine goesL_ (some 26) rfl rfl Tryz.func12 (by kernel_rfl) rfl #[.slice Ao25 y109.length co25] rfl (by (try simp only [List.map_toArray, List.map_cons, List.map_nil]); first | done | rfl | (simp only [List.length_drop, List.length_take]; rfl)) ?_; (with_reducible refine (observatorylaw04_few.calls k _ _ y109 true _ ?side1 ?side2 A10.out).mono ?_); (case side1 => exact CK (Kd.R_reads' HO111.out).2.2); (case side2 => exact (Kd.R_reads' HO111.out).2.1); rintro e w' ⟨rfl, ⟨nd, rfl⟩⟩; refine ⟨_, rfl, ?_⟩; obtain ⟨hcz26_0, hcz26_1, hcz26_2⟩ := blk3 BK105.out; have hfz26_0 := blk_frozen BK105.out 0; have hfz26_1 := blk_frozen BK105.out 1; have hfz26_2 := blk_frozen BK105.out 2) | (go_at_call 21; (with_reducible refine (rational_Valid.calls a0_0 a0_1 a0_2 true _ ?side1 A12.out).mono ?_); (case side1 => exact Laid.below HLaid.out (BK HB.out)); rintro e w27 ⟨rfl, hb⟩; have n0_ := Aside0.mk (Kd.R_below (RK HO111.out) hb); have n1_ := Aside0.mk (blk_below (blk_later BK105.out) hb); have n2_ := Aside0.mk (blk_below (blk_later BK106.out) hb); have n3_ := Aside0.mk (blk_below (blk_later BK107.out) hb); have n4_ := Aside0.mk (below_step (BK HB.out) hb); clear HO111; clear BK105; clear BK106; clear BK107; clear HB; have HO111 := n0_; have BK105 := n1_; have BK106 := n2_; have BK107 := n3_; have HB := n4_; clear n0_ n1_ n2_ n3_ n4_; (try clear hb); obtain ⟨hcz28_0, hcz28_1, hcz28_2⟩ := blk3 BK106.out; have hfz28_0 := blk_frozen BK106.out 0; have hfz28_1 := blk_frozen BK106.out 1; have hfz28_2 := blk_frozen BK106.out 2) | (go_at_call 21; (with_reducible refine (rational_Valid.calls a1_0 a1_1 a1_2 true _ ?side1 A14.out).mono ?_); (case side1 => exact Laid.below HLaid.out (BK HB.out)); rintro e w29 ⟨rfl, hb⟩; have n0_ := Aside0.mk (Kd.R_below (RK HO111.out) hb); have n1_ := Aside0.mk (blk_below (blk_later BK105.out) hb); have n2_ := Aside0.mk (blk_below (blk_later BK106.out) hb); have n3_ := Aside0.mk (blk_below (blk_later BK107.out) hb); have n4_ := Aside0.mk (below_step (BK HB.out) hb); clear HO111; clear BK105; clear BK106; clear BK107; clear HB; have HO111 := n0_; have BK105 := n1_; have BK106 := n2_; have BK107 := n3_; have HB := n4_; clear n0_ n1_ n2_ n3_ n4_; (try clear hb); obtain ⟨hcz30_0, hcz30_1, hcz30_2⟩ := blk3 BK107.out; have hfz30_0 := blk_frozen BK107.out 0; have hfz30_1 := blk_frozen BK107.out 1; have hfz30_2 := blk_frozen BK107.out 2) | (go_at_call 21; (with_reducible refine (rational_Valid.calls a2_0 a2_1 a2_2 t115 _ ?side1 A16.out).mono ?_); (case side1 => exact Laid.below HLaid.out (BK HB.out)); rintro e w31 ⟨rfl, hb⟩; have n0_ := Aside0.mk (Kd.R_below (RK HO111.out) hb); have n1_ := Aside0.mk (blk_below (blk_later BK105.out) hb); have n2_ := Aside0.mk (blk_below (blk_later BK106.out) hb); have n3_ := Aside0.mk (blk_below (blk_later BK107.out) hb); have n4_ := Aside0.mk (below_step (BK HB.out) hb); clear HO111; clear BK105; clear BK106; clear BK107; clear HB; have HO111 := n0_; have BK105 := n1_; have BK106 := n2_; have BK107 := n3_; have HB := n4_; clear n0_ n1_ n2_ n3_ n4_; (try clear hb)))
          go_meet
          case rel => exact ⟨_, (!t115), (by first | rfl | (simp; done) | (simp [*]; done)), H', ⟨by first | omega | exact Nat.le_refl _⟩, ⟨blk_later BK105.out⟩, ⟨blk_later BK106.out⟩, ⟨blk_later BK107.out⟩, ⟨by repeat (first | (with_reducible first | exact HB.out | apply below_alloc | apply pw_below_drewN | apply below_drew1 | refine below_set ?_ GE105.out | refine below_set ?_ GE106.out | refine below_set ?_ GE107.out) | exact HB.out)⟩⟩
        · replace c15 := Bool.eq_false_iff.mpr c15
          subst c15
          have H1 : (observatorylaw04_RationalOrder.j0 k t108 true a0_0 a0_1 a0_2 a1_0 a1_1 a1_2 a2_0 a2_1 a2_2) = some r := by rw [if_neg (show ¬ (false = true) by decide)] at H; exact H
          clear H
          have H := H1
          clear H1
          have H' := Aside0.mk H
          clear H
          have hnb32 := NB105_106.out
          have hnc32 := NB106_105.out
          have hnb33 := NB105_107.out
          have hnc33 := NB107_105.out
          obtain ⟨hcz34_0, hcz34_1, hcz34_2⟩ := blk3 BK105.out
          have hfz34_0 := blk_frozen BK105.out 0
          have hfz34_1 := blk_frozen BK105.out 1
          have hfz34_2 := blk_frozen BK105.out 2
          have hnb35 := NB106_107.out
          have hnc35 := NB107_106.out
          obtain ⟨hcz36_0, hcz36_1, hcz36_2⟩ := blk3 BK106.out
          have hfz36_0 := blk_frozen BK106.out 0
          have hfz36_1 := blk_frozen BK106.out 1
          have hfz36_2 := blk_frozen BK106.out 2
          obtain ⟨hcz37_0, hcz37_1, hcz37_2⟩ := blk3 BK107.out
          have hfz37_0 := blk_frozen BK107.out 0
          have hfz37_1 := blk_frozen BK107.out 1
          have hfz37_2 := blk_frozen BK107.out 2
          go_wp2_with (first | ((with_reducible refine gate_dst (N := 25) rfl ?_); refine Kd.R_lit k24 _ 24 ?hg (N := 25) ?hd (xs := ([(⟨a0_0, a0_1, a0_2⟩ : S24), (⟨a1_0, a1_1, a1_2⟩ : S24), (⟨a2_0, a2_1, a2_2⟩ : S24)] : List (S24))) (inner := [.bool a0_0, .string a0_1, .string a0_2, .bool a1_0, .string a1_1, .string a1_2, .bool a2_0, .string a2_1, .string a2_2]) (ok := fun _ => True) (okp := fun _ => True) ?hr ?hp (fun _ hk => hk) trivial (Below.refl _ _) (Nat.le_refl _) (by simp) ?_; (case hd => rfl); (case hg => rfl); (case hr => first | (go_simp; done) | (go_simp; rfl)); (case hp => exact (Reps.c3 (show Kd.M k24 _ _ _ (⟨a0_0, a0_1, a0_2⟩ : S24) [.bool a0_0, .string a0_1, .string a0_2] from (k24_mkM _ _ _ (⟨a0_0, a0_1, a0_2⟩ : S24) )) (Reps.c3 (show Kd.M k24 _ _ _ (⟨a1_0, a1_1, a1_2⟩ : S24) [.bool a1_0, .string a1_1, .string a1_2] from (k24_mkM _ _ _ (⟨a1_0, a1_1, a1_2⟩ : S24) )) (Reps.c3 (show Kd.M k24 _ _ _ (⟨a2_0, a2_1, a2_2⟩ : S24) [.bool a2_0, .string a2_1, .string a2_2] from (k24_mkM _ _ _ (⟨a2_0, a2_1, a2_2⟩ : S24) )) (Reps.none _ _))))); intro v110 w38 ho39 hb hg_ hnew_; clear hg_ hnew_; (first | rw [← Ny109.out] at ho39 | (simp only [Int.reduceToNat] at ho39; rw [← Ny109.out] at ho39)); have n0_ := Aside0.mk (Kd.R_lower (Kd.R_newB (Kd.R_newB (Kd.R_newB ho39 (g := gb105) (o := .cells #[.bool a0_0, .string a0_1, .string a0_2] 24 (0, 0)) (blk_later BK105.out)) (g := gb106) (o := .cells #[.bool a1_0, .string a1_1, .string a1_2] 24 (0, 0)) (blk_later BK106.out)) (g := gb107) (o := .cells #[.bool a2_0, .string a2_1, .string a2_2] 24 (0, 0)) (blk_later BK107.out)) (below_size (BK HB.out))); have n1_ := Aside0.mk (blk_below (blk_later BK105.out) hb); have n2_ := Aside0.mk (blk_below (blk_later BK106.out) hb); have n3_ := Aside0.mk (blk_below (blk_later BK107.out) hb); have n4_ := Aside0.mk (below_step (BK HB.out) hb); clear BK105; clear BK106; clear BK107; clear HB; have HO111 := n0_; have BK105 := n1_; have BK106 := n2_; have BK107 := n3_; have HB := n4_; clear n0_ n1_ n2_ n3_ n4_; clear hb ho39; obtain ⟨Ao40, co40, eo40⟩ := Kd.R_slice HO111.out; subst eo40) | ((with_reducible refine gate_callee (f := 12) rfl ?_); refine goesL_ (some 26) rfl rfl Tryz.func12 (by kernel_rfl) rfl #[.slice Ao40 y109.length co40] rfl (by (try simp only [List.map_toArray, List.map_cons, List.map_nil]); first | done | rfl | (simp only [List.length_drop, List.length_take]; rfl)) ?_; (with_reducible refine (observatorylaw04_few.calls k _ _ y109 true _ ?side1 ?side2 A10.out).mono ?_); (case side1 => exact CK (Kd.R_reads' HO111.out).2.2); (case side2 => exact (Kd.R_reads' HO111.out).2.1); rintro e w' ⟨rfl, ⟨nd, rfl⟩⟩; refine ⟨_, rfl, ?_⟩; obtain ⟨hcz41_0, hcz41_1, hcz41_2⟩ := blk3 BK105.out; have hfz41_0 := blk_frozen BK105.out 0; have hfz41_1 := blk_frozen BK105.out 1; have hfz41_2 := blk_frozen BK105.out 2) | (go_at_call 21; (with_reducible refine (rational_Valid.calls a0_0 a0_1 a0_2 true _ ?side1 A12.out).mono ?_); (case side1 => exact Laid.below HLaid.out (BK HB.out)); rintro e w42 ⟨rfl, hb⟩; have n0_ := Aside0.mk (Kd.R_below (RK HO111.out) hb); have n1_ := Aside0.mk (blk_below (blk_later BK105.out) hb); have n2_ := Aside0.mk (blk_below (blk_later BK106.out) hb); have n3_ := Aside0.mk (blk_below (blk_later BK107.out) hb); have n4_ := Aside0.mk (below_step (BK HB.out) hb); clear HO111; clear BK105; clear BK106; clear BK107; clear HB; have HO111 := n0_; have BK105 := n1_; have BK106 := n2_; have BK107 := n3_; have HB := n4_; clear n0_ n1_ n2_ n3_ n4_; (try clear hb); obtain ⟨hcz43_0, hcz43_1, hcz43_2⟩ := blk3 BK106.out; have hfz43_0 := blk_frozen BK106.out 0; have hfz43_1 := blk_frozen BK106.out 1; have hfz43_2 := blk_frozen BK106.out 2) | (go_at_call 21; (with_reducible refine (rational_Valid.calls a1_0 a1_1 a1_2 false _ ?side1 A14.out).mono ?_); (case side1 => exact Laid.below HLaid.out (BK HB.out)); rintro e w44 ⟨rfl, hb⟩; have n0_ := Aside0.mk (Kd.R_below (RK HO111.out) hb); have n1_ := Aside0.mk (blk_below (blk_later BK105.out) hb); have n2_ := Aside0.mk (blk_below (blk_later BK106.out) hb); have n3_ := Aside0.mk (blk_below (blk_later BK107.out) hb); have n4_ := Aside0.mk (below_step (BK HB.out) hb); clear HO111; clear BK105; clear BK106; clear BK107; clear HB; have HO111 := n0_; have BK105 := n1_; have BK106 := n2_; have BK107 := n3_; have HB := n4_; clear n0_ n1_ n2_ n3_ n4_; (try clear hb)))
          go_meet
          case rel => exact ⟨_, (true), (by first | rfl | (simp; done) | (simp [*]; done)), H', ⟨by first | omega | exact Nat.le_refl _⟩, ⟨blk_later BK105.out⟩, ⟨blk_later BK106.out⟩, ⟨blk_later BK107.out⟩, ⟨by repeat (first | (with_reducible first | exact HB.out | apply below_alloc | apply pw_below_drewN | apply below_drew1 | refine below_set ?_ GE105.out | refine below_set ?_ GE106.out | refine below_set ?_ GE107.out) | exact HB.out)⟩⟩
      · replace c13 := Bool.eq_false_iff.mpr c13
        subst c13
        have H1 : (observatorylaw04_RationalOrder.j0 k t108 true a0_0 a0_1 a0_2 a1_0 a1_1 a1_2 a2_0 a2_1 a2_2) = some r := by rw [if_neg (show ¬ (false = true) by decide)] at H; exact H
        clear H
        have H := H1
        clear H1
        have H' := Aside0.mk H
        clear H
        have hnb45 := NB105_106.out
        have hnc45 := NB106_105.out
        have hnb46 := NB105_107.out
        have hnc46 := NB107_105.out
        obtain ⟨hcz47_0, hcz47_1, hcz47_2⟩ := blk3 BK105.out
        have hfz47_0 := blk_frozen BK105.out 0
        have hfz47_1 := blk_frozen BK105.out 1
        have hfz47_2 := blk_frozen BK105.out 2
        have hnb48 := NB106_107.out
        have hnc48 := NB107_106.out
        obtain ⟨hcz49_0, hcz49_1, hcz49_2⟩ := blk3 BK106.out
        have hfz49_0 := blk_frozen BK106.out 0
        have hfz49_1 := blk_frozen BK106.out 1
        have hfz49_2 := blk_frozen BK106.out 2
        obtain ⟨hcz50_0, hcz50_1, hcz50_2⟩ := blk3 BK107.out
        have hfz50_0 := blk_frozen BK107.out 0
        have hfz50_1 := blk_frozen BK107.out 1
        have hfz50_2 := blk_frozen BK107.out 2
        go_wp2_with (first | ((with_reducible refine gate_dst (N := 25) rfl ?_); refine Kd.R_lit k24 _ 24 ?hg (N := 25) ?hd (xs := ([(⟨a0_0, a0_1, a0_2⟩ : S24), (⟨a1_0, a1_1, a1_2⟩ : S24), (⟨a2_0, a2_1, a2_2⟩ : S24)] : List (S24))) (inner := [.bool a0_0, .string a0_1, .string a0_2, .bool a1_0, .string a1_1, .string a1_2, .bool a2_0, .string a2_1, .string a2_2]) (ok := fun _ => True) (okp := fun _ => True) ?hr ?hp (fun _ hk => hk) trivial (Below.refl _ _) (Nat.le_refl _) (by simp) ?_; (case hd => rfl); (case hg => rfl); (case hr => first | (go_simp; done) | (go_simp; rfl)); (case hp => exact (Reps.c3 (show Kd.M k24 _ _ _ (⟨a0_0, a0_1, a0_2⟩ : S24) [.bool a0_0, .string a0_1, .string a0_2] from (k24_mkM _ _ _ (⟨a0_0, a0_1, a0_2⟩ : S24) )) (Reps.c3 (show Kd.M k24 _ _ _ (⟨a1_0, a1_1, a1_2⟩ : S24) [.bool a1_0, .string a1_1, .string a1_2] from (k24_mkM _ _ _ (⟨a1_0, a1_1, a1_2⟩ : S24) )) (Reps.c3 (show Kd.M k24 _ _ _ (⟨a2_0, a2_1, a2_2⟩ : S24) [.bool a2_0, .string a2_1, .string a2_2] from (k24_mkM _ _ _ (⟨a2_0, a2_1, a2_2⟩ : S24) )) (Reps.none _ _))))); intro v110 w51 ho52 hb hg_ hnew_; clear hg_ hnew_; (first | rw [← Ny109.out] at ho52 | (simp only [Int.reduceToNat] at ho52; rw [← Ny109.out] at ho52)); have n0_ := Aside0.mk (Kd.R_lower (Kd.R_newB (Kd.R_newB (Kd.R_newB ho52 (g := gb105) (o := .cells #[.bool a0_0, .string a0_1, .string a0_2] 24 (0, 0)) (blk_later BK105.out)) (g := gb106) (o := .cells #[.bool a1_0, .string a1_1, .string a1_2] 24 (0, 0)) (blk_later BK106.out)) (g := gb107) (o := .cells #[.bool a2_0, .string a2_1, .string a2_2] 24 (0, 0)) (blk_later BK107.out)) (below_size (BK HB.out))); have n1_ := Aside0.mk (blk_below (blk_later BK105.out) hb); have n2_ := Aside0.mk (blk_below (blk_later BK106.out) hb); have n3_ := Aside0.mk (blk_below (blk_later BK107.out) hb); have n4_ := Aside0.mk (below_step (BK HB.out) hb); clear BK105; clear BK106; clear BK107; clear HB; have HO111 := n0_; have BK105 := n1_; have BK106 := n2_; have BK107 := n3_; have HB := n4_; clear n0_ n1_ n2_ n3_ n4_; clear hb ho52; obtain ⟨Ao53, co53, eo53⟩ := Kd.R_slice HO111.out; subst eo53) | ((with_reducible refine gate_callee (f := 12) rfl ?_); refine goesL_ (some 26) rfl rfl Tryz.func12 (by kernel_rfl) rfl #[.slice Ao53 y109.length co53] rfl (by (try simp only [List.map_toArray, List.map_cons, List.map_nil]); first | done | rfl | (simp only [List.length_drop, List.length_take]; rfl)) ?_; (with_reducible refine (observatorylaw04_few.calls k _ _ y109 true _ ?side1 ?side2 A10.out).mono ?_); (case side1 => exact CK (Kd.R_reads' HO111.out).2.2); (case side2 => exact (Kd.R_reads' HO111.out).2.1); rintro e w' ⟨rfl, ⟨nd, rfl⟩⟩; refine ⟨_, rfl, ?_⟩; obtain ⟨hcz54_0, hcz54_1, hcz54_2⟩ := blk3 BK105.out; have hfz54_0 := blk_frozen BK105.out 0; have hfz54_1 := blk_frozen BK105.out 1; have hfz54_2 := blk_frozen BK105.out 2) | (go_at_call 21; (with_reducible refine (rational_Valid.calls a0_0 a0_1 a0_2 false _ ?side1 A12.out).mono ?_); (case side1 => exact Laid.below HLaid.out (BK HB.out)); rintro e w55 ⟨rfl, hb⟩; have n0_ := Aside0.mk (Kd.R_below (RK HO111.out) hb); have n1_ := Aside0.mk (blk_below (blk_later BK105.out) hb); have n2_ := Aside0.mk (blk_below (blk_later BK106.out) hb); have n3_ := Aside0.mk (blk_below (blk_later BK107.out) hb); have n4_ := Aside0.mk (below_step (BK HB.out) hb); clear HO111; clear BK105; clear BK106; clear BK107; clear HB; have HO111 := n0_; have BK105 := n1_; have BK106 := n2_; have BK107 := n3_; have HB := n4_; clear n0_ n1_ n2_ n3_ n4_; (try clear hb)))
        go_meet
        case rel => exact ⟨_, (true), (by first | rfl | (simp; done) | (simp [*]; done)), H', ⟨by first | omega | exact Nat.le_refl _⟩, ⟨blk_later BK105.out⟩, ⟨blk_later BK106.out⟩, ⟨blk_later BK107.out⟩, ⟨by repeat (first | (with_reducible first | exact HB.out | apply below_alloc | apply pw_below_drewN | apply below_drew1 | refine below_set ?_ GE105.out | refine below_set ?_ GE106.out | refine below_set ?_ GE107.out) | exact HB.out)⟩⟩
    · replace c11 := Bool.eq_false_iff.mpr c11
      subst c11
      have H1 : (observatorylaw04_RationalOrder.j0 k t108 true a0_0 a0_1 a0_2 a1_0 a1_1 a1_2 a2_0 a2_1 a2_2) = some r := by rw [if_neg (show ¬ (false = true) by decide)] at H; exact H
      clear H
      have H := H1
      clear H1
      have H' := Aside0.mk H
      clear H
      have hnb56 := NB105_106.out
      have hnc56 := NB106_105.out
      have hnb57 := NB105_107.out
      have hnc57 := NB107_105.out
      obtain ⟨hcz58_0, hcz58_1, hcz58_2⟩ := blk3 BK105.out
      have hfz58_0 := blk_frozen BK105.out 0
      have hfz58_1 := blk_frozen BK105.out 1
      have hfz58_2 := blk_frozen BK105.out 2
      have hnb59 := NB106_107.out
      have hnc59 := NB107_106.out
      obtain ⟨hcz60_0, hcz60_1, hcz60_2⟩ := blk3 BK106.out
      have hfz60_0 := blk_frozen BK106.out 0
      have hfz60_1 := blk_frozen BK106.out 1
      have hfz60_2 := blk_frozen BK106.out 2
      obtain ⟨hcz61_0, hcz61_1, hcz61_2⟩ := blk3 BK107.out
      have hfz61_0 := blk_frozen BK107.out 0
      have hfz61_1 := blk_frozen BK107.out 1
      have hfz61_2 := blk_frozen BK107.out 2
      go_wp2_with (first | ((with_reducible refine gate_dst (N := 25) rfl ?_); refine Kd.R_lit k24 _ 24 ?hg (N := 25) ?hd (xs := ([(⟨a0_0, a0_1, a0_2⟩ : S24), (⟨a1_0, a1_1, a1_2⟩ : S24), (⟨a2_0, a2_1, a2_2⟩ : S24)] : List (S24))) (inner := [.bool a0_0, .string a0_1, .string a0_2, .bool a1_0, .string a1_1, .string a1_2, .bool a2_0, .string a2_1, .string a2_2]) (ok := fun _ => True) (okp := fun _ => True) ?hr ?hp (fun _ hk => hk) trivial (Below.refl _ _) (Nat.le_refl _) (by simp) ?_; (case hd => rfl); (case hg => rfl); (case hr => first | (go_simp; done) | (go_simp; rfl)); (case hp => exact (Reps.c3 (show Kd.M k24 _ _ _ (⟨a0_0, a0_1, a0_2⟩ : S24) [.bool a0_0, .string a0_1, .string a0_2] from (k24_mkM _ _ _ (⟨a0_0, a0_1, a0_2⟩ : S24) )) (Reps.c3 (show Kd.M k24 _ _ _ (⟨a1_0, a1_1, a1_2⟩ : S24) [.bool a1_0, .string a1_1, .string a1_2] from (k24_mkM _ _ _ (⟨a1_0, a1_1, a1_2⟩ : S24) )) (Reps.c3 (show Kd.M k24 _ _ _ (⟨a2_0, a2_1, a2_2⟩ : S24) [.bool a2_0, .string a2_1, .string a2_2] from (k24_mkM _ _ _ (⟨a2_0, a2_1, a2_2⟩ : S24) )) (Reps.none _ _))))); intro v110 w62 ho63 hb hg_ hnew_; clear hg_ hnew_; (first | rw [← Ny109.out] at ho63 | (simp only [Int.reduceToNat] at ho63; rw [← Ny109.out] at ho63)); have n0_ := Aside0.mk (Kd.R_lower (Kd.R_newB (Kd.R_newB (Kd.R_newB ho63 (g := gb105) (o := .cells #[.bool a0_0, .string a0_1, .string a0_2] 24 (0, 0)) (blk_later BK105.out)) (g := gb106) (o := .cells #[.bool a1_0, .string a1_1, .string a1_2] 24 (0, 0)) (blk_later BK106.out)) (g := gb107) (o := .cells #[.bool a2_0, .string a2_1, .string a2_2] 24 (0, 0)) (blk_later BK107.out)) (below_size (BK HB.out))); have n1_ := Aside0.mk (blk_below (blk_later BK105.out) hb); have n2_ := Aside0.mk (blk_below (blk_later BK106.out) hb); have n3_ := Aside0.mk (blk_below (blk_later BK107.out) hb); have n4_ := Aside0.mk (below_step (BK HB.out) hb); clear BK105; clear BK106; clear BK107; clear HB; have HO111 := n0_; have BK105 := n1_; have BK106 := n2_; have BK107 := n3_; have HB := n4_; clear n0_ n1_ n2_ n3_ n4_; clear hb ho63; obtain ⟨Ao64, co64, eo64⟩ := Kd.R_slice HO111.out; subst eo64) | ((with_reducible refine gate_callee (f := 12) rfl ?_); refine goesL_ (some 26) rfl rfl Tryz.func12 (by kernel_rfl) rfl #[.slice Ao64 y109.length co64] rfl (by (try simp only [List.map_toArray, List.map_cons, List.map_nil]); first | done | rfl | (simp only [List.length_drop, List.length_take]; rfl)) ?_; (with_reducible refine (observatorylaw04_few.calls k _ _ y109 false _ ?side1 ?side2 A10.out).mono ?_); (case side1 => exact CK (Kd.R_reads' HO111.out).2.2); (case side2 => exact (Kd.R_reads' HO111.out).2.1); rintro e w' ⟨rfl, ⟨nd, rfl⟩⟩; refine ⟨_, rfl, ?_⟩))
      go_meet
      case rel => exact ⟨_, (true), (by first | rfl | (simp; done) | (simp [*]; done)), H', ⟨by first | omega | exact Nat.le_refl _⟩, ⟨blk_later BK105.out⟩, ⟨blk_later BK106.out⟩, ⟨blk_later BK107.out⟩, ⟨by repeat (first | (with_reducible first | exact HB.out | apply below_alloc | apply pw_below_drewN | apply below_drew1 | refine below_set ?_ GE105.out | refine below_set ?_ GE106.out | refine below_set ?_ GE107.out) | exact HB.out)⟩⟩
  case rest =>
    clear HC5
    try clear c1
    try clear c2
    try clear p2
    try clear c3
    try clear c4
    try clear c5
    try clear c7
    try clear c11
    try clear c12
    try clear c13
    try clear c15
    try clear c17
    try clear c18
    try clear c20
    try clear c32
    try clear c33
    try clear c35
    try clear c45
    try clear c46
    try clear c48
    try clear c56
    try clear c57
    try clear c59
    try clear hcz19_0
    try clear hcz19_1
    try clear hcz19_2
    try clear hcz21_0
    try clear hcz21_1
    try clear hcz21_2
    try clear hcz22_0
    try clear hcz22_1
    try clear hcz22_2
    try clear hcz26_0
    try clear hcz26_1
    try clear hcz26_2
    try clear hcz28_0
    try clear hcz28_1
    try clear hcz28_2
    try clear hcz30_0
    try clear hcz30_1
    try clear hcz30_2
    try clear hcz34_0
    try clear hcz34_1
    try clear hcz34_2
    try clear hcz36_0
    try clear hcz36_1
    try clear hcz36_2
    try clear hcz37_0
    try clear hcz37_1
    try clear hcz37_2
    try clear hcz41_0
    try clear hcz41_1
    try clear hcz41_2
    try clear hcz43_0
    try clear hcz43_1
    try clear hcz43_2
    try clear hcz47_0
    try clear hcz47_1
    try clear hcz47_2
    try clear hcz49_0
    try clear hcz49_1
    try clear hcz49_2
    try clear hcz50_0
    try clear hcz50_1
    try clear hcz50_2
    try clear hcz54_0
    try clear hcz54_1
    try clear hcz54_2
    try clear hcz58_0
    try clear hcz58_1
    try clear hcz58_2
    try clear hcz60_0
    try clear hcz60_1
    try clear hcz60_2
    try clear hcz61_0
    try clear hcz61_1
    try clear hcz61_2
    try clear hfz19_0
    try clear hfz19_1
    try clear hfz19_2
    try clear hfz21_0
    try clear hfz21_1
    try clear hfz21_2
    try clear hfz22_0
    try clear hfz22_1
    try clear hfz22_2
    try clear hfz26_0
    try clear hfz26_1
    try clear hfz26_2
    try clear hfz28_0
    try clear hfz28_1
    try clear hfz28_2
    try clear hfz30_0
    try clear hfz30_1
    try clear hfz30_2
    try clear hfz34_0
    try clear hfz34_1
    try clear hfz34_2
    try clear hfz36_0
    try clear hfz36_1
    try clear hfz36_2
    try clear hfz37_0
    try clear hfz37_1
    try clear hfz37_2
    try clear hfz41_0
    try clear hfz41_1
    try clear hfz41_2
    try clear hfz43_0
    try clear hfz43_1
    try clear hfz43_2
    try clear hfz47_0
    try clear hfz47_1
    try clear hfz47_2
    try clear hfz49_0
    try clear hfz49_1
    try clear hfz49_2
    try clear hfz50_0
    try clear hfz50_1
    try clear hfz50_2
    try clear hfz54_0
    try clear hfz54_1
    try clear hfz54_2
    try clear hfz58_0
    try clear hfz58_1
    try clear hfz58_2
    try clear hfz60_0
    try clear hfz60_1
    try clear hfz60_2
    try clear hfz61_0
    try clear hfz61_1
    try clear hfz61_2
    obtain ⟨kq, x42_4, rfl, HA, HJ4, BK105, BK106, BK107, HB⟩ := hcut
    cases kq with
    | zero => exact absurd HA.out (by simp [observatorylaw04_RationalOrder.j0])
    | succ kj4 =>
      have H := HA.out
      clear HA
      simp only [observatorylaw04_RationalOrder.j0] at H
      by_cases c65 : x42_4 = true
      · subst c65
        rw [if_pos rfl] at H
        obtain rfl := Option.some.inj H
        go_wp2
        go_ret
        exact ⟨by first | rfl | (simp [errW_none, errW_some] <;> rfl) | (simp [*, errW_none, errW_some] <;> rfl), by repeat (first | (with_reducible first | exact HB.out | apply below_alloc | apply pw_below_drewN | apply below_drew1 | refine below_set ?_ GE105.out | refine below_set ?_ GE106.out | refine below_set ?_ GE107.out) | exact HB.out)⟩
      · replace c65 := Bool.eq_false_iff.mpr c65
        subst c65
        have H1 : ((observatorylaw04_rat.f false (⟨#[48]⟩ : ByteArray) (⟨#[49]⟩ : ByteArray)).bind fun bt116 => ((rational_Compare.f a0_0 a0_1 a0_2 a1_0 a1_1 a1_2).bind fun t120 => ((rational_Compare.f a1_0 a1_1 a1_2 a2_0 a2_1 a2_2).bind fun t121 => ((rational_Compare.f a1_0 a1_1 a1_2 a0_0 a0_1 a0_2).bind fun t122 => (if t122 = (wrap64 (-t120)) then (if ((t120 == 0) != (a0_0 == a1_0 && (a0_1.toList == a1_1.toList && (a0_2.toList == a1_2.toList)))) = true then (observatorylaw04_RationalOrder.j1 kj4 t108 t120 true a0_0 a0_1 a0_2 a1_0 a1_1 a1_2 a2_0 a2_1 a2_2 bt116.1 bt116.2.1 bt116.2.2) else (if t120 < (-1) then (observatorylaw04_RationalOrder.j1 kj4 t108 t120 true a0_0 a0_1 a0_2 a1_0 a1_1 a1_2 a2_0 a2_1 a2_2 bt116.1 bt116.2.1 bt116.2.2) else (if t120 > 1 then (observatorylaw04_RationalOrder.j1 kj4 t108 t120 true a0_0 a0_1 a0_2 a1_0 a1_1 a1_2 a2_0 a2_1 a2_2 bt116.1 bt116.2.1 bt116.2.2) else (if t120 ≤ 0 then (if t121 ≤ 0 then ((rational_Compare.f a0_0 a0_1 a0_2 a2_0 a2_1 a2_2).bind fun t123 => (observatorylaw04_RationalOrder.j1 kj4 t108 t120 (decide (t123 > 0)) a0_0 a0_1 a0_2 a1_0 a1_1 a1_2 a2_0 a2_1 a2_2 bt116.1 bt116.2.1 bt116.2.2)) else (observatorylaw04_RationalOrder.j1 kj4 t108 t120 false a0_0 a0_1 a0_2 a1_0 a1_1 a1_2 a2_0 a2_1 a2_2 bt116.1 bt116.2.1 bt116.2.2)) else (observatorylaw04_RationalOrder.j1 kj4 t108 t120 false a0_0 a0_1 a0_2 a1_0 a1_1 a1_2 a2_0 a2_1 a2_2 bt116.1 bt116.2.1 bt116.2.2))))) else (observatorylaw04_RationalOrder.j1 kj4 t108 t120 true a0_0 a0_1 a0_2 a1_0 a1_1 a1_2 a2_0 a2_1 a2_2 bt116.1 bt116.2.1 bt116.2.2)))))) = some r := by rw [if_neg (show ¬ (false = true) by decide)] at H; exact H
        clear H
        have H := H1
        clear H1
        replace H := Option.bind_eq_some_iff.mp H
        obtain ⟨⟨t116, t117, t118⟩, A660, H⟩ := H
        replace H : ((rational_Compare.f a0_0 a0_1 a0_2 a1_0 a1_1 a1_2).bind fun t120 => ((rational_Compare.f a1_0 a1_1 a1_2 a2_0 a2_1 a2_2).bind fun t121 => ((rational_Compare.f a1_0 a1_1 a1_2 a0_0 a0_1 a0_2).bind fun t122 => (if t122 = (wrap64 (-t120)) then (if ((t120 == 0) != (a0_0 == a1_0 && (a0_1.toList == a1_1.toList && (a0_2.toList == a1_2.toList)))) = true then (observatorylaw04_RationalOrder.j1 kj4 t108 t120 true a0_0 a0_1 a0_2 a1_0 a1_1 a1_2 a2_0 a2_1 a2_2 t116 t117 t118) else (if t120 < (-1) then (observatorylaw04_RationalOrder.j1 kj4 t108 t120 true a0_0 a0_1 a0_2 a1_0 a1_1 a1_2 a2_0 a2_1 a2_2 t116 t117 t118) else (if t120 > 1 then (observatorylaw04_RationalOrder.j1 kj4 t108 t120 true a0_0 a0_1 a0_2 a1_0 a1_1 a1_2 a2_0 a2_1 a2_2 t116 t117 t118) else (if t120 ≤ 0 then (if t121 ≤ 0 then ((rational_Compare.f a0_0 a0_1 a0_2 a2_0 a2_1 a2_2).bind fun t123 => (observatorylaw04_RationalOrder.j1 kj4 t108 t120 (decide (t123 > 0)) a0_0 a0_1 a0_2 a1_0 a1_1 a1_2 a2_0 a2_1 a2_2 t116 t117 t118)) else (observatorylaw04_RationalOrder.j1 kj4 t108 t120 false a0_0 a0_1 a0_2 a1_0 a1_1 a1_2 a2_0 a2_1 a2_2 t116 t117 t118)) else (observatorylaw04_RationalOrder.j1 kj4 t108 t120 false a0_0 a0_1 a0_2 a1_0 a1_1 a1_2 a2_0 a2_1 a2_2 t116 t117 t118))))) else (observatorylaw04_RationalOrder.j1 kj4 t108 t120 true a0_0 a0_1 a0_2 a1_0 a1_1 a1_2 a2_0 a2_1 a2_2 t116 t117 t118))))) = some r := H
        have A66 := Aside0.mk A660
        clear A660
        replace H := Option.bind_eq_some_iff.mp H
        obtain ⟨t120, A670, H⟩ := H
        replace H : ((rational_Compare.f a1_0 a1_1 a1_2 a2_0 a2_1 a2_2).bind fun t121 => ((rational_Compare.f a1_0 a1_1 a1_2 a0_0 a0_1 a0_2).bind fun t122 => (if t122 = (wrap64 (-t120)) then (if ((t120 == 0) != (a0_0 == a1_0 && (a0_1.toList == a1_1.toList && (a0_2.toList == a1_2.toList)))) = true then (observatorylaw04_RationalOrder.j1 kj4 t108 t120 true a0_0 a0_1 a0_2 a1_0 a1_1 a1_2 a2_0 a2_1 a2_2 t116 t117 t118) else (if t120 < (-1) then (observatorylaw04_RationalOrder.j1 kj4 t108 t120 true a0_0 a0_1 a0_2 a1_0 a1_1 a1_2 a2_0 a2_1 a2_2 t116 t117 t118) else (if t120 > 1 then (observatorylaw04_RationalOrder.j1 kj4 t108 t120 true a0_0 a0_1 a0_2 a1_0 a1_1 a1_2 a2_0 a2_1 a2_2 t116 t117 t118) else (if t120 ≤ 0 then (if t121 ≤ 0 then ((rational_Compare.f a0_0 a0_1 a0_2 a2_0 a2_1 a2_2).bind fun t123 => (observatorylaw04_RationalOrder.j1 kj4 t108 t120 (decide (t123 > 0)) a0_0 a0_1 a0_2 a1_0 a1_1 a1_2 a2_0 a2_1 a2_2 t116 t117 t118)) else (observatorylaw04_RationalOrder.j1 kj4 t108 t120 false a0_0 a0_1 a0_2 a1_0 a1_1 a1_2 a2_0 a2_1 a2_2 t116 t117 t118)) else (observatorylaw04_RationalOrder.j1 kj4 t108 t120 false a0_0 a0_1 a0_2 a1_0 a1_1 a1_2 a2_0 a2_1 a2_2 t116 t117 t118))))) else (observatorylaw04_RationalOrder.j1 kj4 t108 t120 true a0_0 a0_1 a0_2 a1_0 a1_1 a1_2 a2_0 a2_1 a2_2 t116 t117 t118)))) = some r := H
        have A67 := Aside0.mk A670
        clear A670
        replace H := Option.bind_eq_some_iff.mp H
        obtain ⟨t121, A680, H⟩ := H
        replace H : ((rational_Compare.f a1_0 a1_1 a1_2 a0_0 a0_1 a0_2).bind fun t122 => (if t122 = (wrap64 (-t120)) then (if ((t120 == 0) != (a0_0 == a1_0 && (a0_1.toList == a1_1.toList && (a0_2.toList == a1_2.toList)))) = true then (observatorylaw04_RationalOrder.j1 kj4 t108 t120 true a0_0 a0_1 a0_2 a1_0 a1_1 a1_2 a2_0 a2_1 a2_2 t116 t117 t118) else (if t120 < (-1) then (observatorylaw04_RationalOrder.j1 kj4 t108 t120 true a0_0 a0_1 a0_2 a1_0 a1_1 a1_2 a2_0 a2_1 a2_2 t116 t117 t118) else (if t120 > 1 then (observatorylaw04_RationalOrder.j1 kj4 t108 t120 true a0_0 a0_1 a0_2 a1_0 a1_1 a1_2 a2_0 a2_1 a2_2 t116 t117 t118) else (if t120 ≤ 0 then (if t121 ≤ 0 then ((rational_Compare.f a0_0 a0_1 a0_2 a2_0 a2_1 a2_2).bind fun t123 => (observatorylaw04_RationalOrder.j1 kj4 t108 t120 (decide (t123 > 0)) a0_0 a0_1 a0_2 a1_0 a1_1 a1_2 a2_0 a2_1 a2_2 t116 t117 t118)) else (observatorylaw04_RationalOrder.j1 kj4 t108 t120 false a0_0 a0_1 a0_2 a1_0 a1_1 a1_2 a2_0 a2_1 a2_2 t116 t117 t118)) else (observatorylaw04_RationalOrder.j1 kj4 t108 t120 false a0_0 a0_1 a0_2 a1_0 a1_1 a1_2 a2_0 a2_1 a2_2 t116 t117 t118))))) else (observatorylaw04_RationalOrder.j1 kj4 t108 t120 true a0_0 a0_1 a0_2 a1_0 a1_1 a1_2 a2_0 a2_1 a2_2 t116 t117 t118))) = some r := H
        have A68 := Aside0.mk A680
        clear A680
        have HC69 := Aside0.mk H
        clear H
        go_upto_region 7 with (first | ((with_reducible refine gate_callee (f := 35) rfl ?_); refine goesL_ (some 44) rfl rfl Tryz.func35 (by kernel_rfl) rfl #[.bool false, .string (⟨#[48]⟩ : ByteArray), .string (⟨#[49]⟩ : ByteArray)] rfl (by (try simp only [List.map_toArray, List.map_cons, List.map_nil]); first | done | rfl | (simp only [List.length_drop, List.length_take]; rfl)) ?_; (with_reducible refine (observatorylaw04_rat.calls false (⟨#[48]⟩ : ByteArray) (⟨#[49]⟩ : ByteArray) t116 t117 t118 _ A66.out).mono ?_); rintro e w70 ⟨rfl, hb⟩; refine ⟨_, rfl, ?_⟩; have n0_ := Aside0.mk (blk_below (blk_later BK105.out) hb); have n1_ := Aside0.mk (blk_below (blk_later BK106.out) hb); have n2_ := Aside0.mk (blk_below (blk_later BK107.out) hb); have n3_ := Aside0.mk (below_step (BK HB.out) hb); clear BK105; clear BK106; clear BK107; clear HB; have BK105 := n0_; have BK106 := n1_; have BK107 := n2_; have HB := n3_; clear n0_ n1_ n2_ n3_; (try clear hb)) | ((with_reducible refine gate_dst (N := 8) rfl ?_); refine box_event ?hg (N := 8) ?hd (cs := #[.bool false, .string (⟨#[]⟩ : ByteArray), .string (⟨#[]⟩ : ByteArray)]) (t := 24) ?hr ?_; (case hd => rfl); (case hg => rfl); (case hr => first | (go_simp; done) | (go_simp; rfl)); intro gb119 hg w71 hbox hb; have n0_ := Aside0.mk (blk_below (blk_later BK105.out) hb); have n1_ := Aside0.mk (blk_below (blk_later BK106.out) hb); have n2_ := Aside0.mk (blk_below (blk_later BK107.out) hb); have n3_ := Aside0.mk (below_step (BK HB.out) hb); have n4_ := Aside0.mk (hbox); have n5_ := Aside0.mk ((by rw [hg]; exact (below_size (BK HB.out)) : w.heap.size ≤ gb119)); have n6_ := Aside0.mk ((by rw [hg]; exact (below_size (BK HB.out)) : w.heap.size ≤ gb119)); have n7_ := Aside0.mk ((by rw [hg]; exact Nat.ne_of_lt (blk_lt (blk_later BK105.out)) : gb105 ≠ gb119)); have n8_ := Aside0.mk ((by rw [hg]; exact Nat.ne_of_gt (blk_lt (blk_later BK105.out)) : gb119 ≠ gb105)); have n9_ := Aside0.mk ((by rw [hg]; exact Nat.ne_of_lt (blk_lt (blk_later BK106.out)) : gb106 ≠ gb119)); have n10_ := Aside0.mk ((by rw [hg]; exact Nat.ne_of_gt (blk_lt (blk_later BK106.out)) : gb119 ≠ gb106)); have n11_ := Aside0.mk ((by rw [hg]; exact Nat.ne_of_lt (blk_lt (blk_later BK107.out)) : gb107 ≠ gb119)); have n12_ := Aside0.mk ((by rw [hg]; exact Nat.ne_of_gt (blk_lt (blk_later BK107.out)) : gb119 ≠ gb107)); clear BK105; clear BK106; clear BK107; clear HB; have BK105 := n0_; have BK106 := n1_; have BK107 := n2_; have HB := n3_; have BK119 := n4_; have GW119 := n5_; have GE119 := n6_; have NB105_119 := n7_; have NB119_105 := n8_; have NB106_119 := n9_; have NB119_106 := n10_; have NB107_119 := n11_; have NB119_107 := n12_; clear n0_ n1_ n2_ n3_ n4_ n5_ n6_ n7_ n8_ n9_ n10_ n11_ n12_; clear hb hbox hg; have hnb72 := NB119_105.out; have hnc72 := NB105_119.out; have hnb73 := NB119_106.out; have hnc73 := NB106_119.out; have hnb74 := NB119_107.out; have hnc74 := NB107_119.out; obtain ⟨hcz75_0, hcz75_1, hcz75_2⟩ := blk3 BK119.out; have hfz75_0 := blk_frozen BK119.out 0; have hfz75_1 := blk_frozen BK119.out 1; have hfz75_2 := blk_frozen BK119.out 2; have hnb76 := NB105_106.out; have hnc76 := NB106_105.out; have hnb77 := NB105_107.out; have hnc77 := NB107_105.out; obtain ⟨hcz78_0, hcz78_1, hcz78_2⟩ := blk3 BK105.out; have hfz78_0 := blk_frozen BK105.out 0; have hfz78_1 := blk_frozen BK105.out 1; have hfz78_2 := blk_frozen BK105.out 2; have hnb79 := NB106_107.out; have hnc79 := NB107_106.out; obtain ⟨hcz80_0, hcz80_1, hcz80_2⟩ := blk3 BK106.out; have hfz80_0 := blk_frozen BK106.out 0; have hfz80_1 := blk_frozen BK106.out 1; have hfz80_2 := blk_frozen BK106.out 2) | ((with_reducible refine gate_callee (f := 23) rfl ?_); refine goesL_ (some 47) rfl rfl Tryz.func23 (by kernel_rfl) rfl #[.agg #[.bool a0_0, .string a0_1, .string a0_2], .agg #[.bool a1_0, .string a1_1, .string a1_2]] rfl (by (try simp only [List.map_toArray, List.map_cons, List.map_nil]); first | done | rfl | (simp only [List.length_drop, List.length_take]; rfl)) ?_; (with_reducible refine (rational_Compare.calls a0_0 a0_1 a0_2 a1_0 a1_1 a1_2 t120 _ ?side1 A67.out).mono ?_); (case side1 => exact Laid.below HLaid.out (BKS HB.out GE119.out)); rintro e w81 ⟨rfl, hb⟩; refine ⟨_, rfl, ?_⟩; have n0_ := Aside0.mk (blk_below (far3 BK105.out NB105_119.out) hb); have n1_ := Aside0.mk (blk_below (far3 BK106.out NB106_119.out) hb); have n2_ := Aside0.mk (blk_below (far3 BK107.out NB107_119.out) hb); have n3_ := Aside0.mk (blk_below (g := gb119) (o := .cells #[.bool t116, .string t117, .string t118] 24 (0, 0)) (by (with_reducible repeat (first | refine blk_drewN ?_ _ | refine blk_drew ?_ | refine blk_alloc ?_ _)); refine blk_put (cs := #[.bool t116, .string t117, .string (⟨#[]⟩ : ByteArray)]) ?_ 2 _ rfl; (with_reducible repeat (first | refine blk_drewN ?_ _ | refine blk_drew ?_ | refine blk_alloc ?_ _)); refine blk_put (cs := #[.bool t116, .string (⟨#[]⟩ : ByteArray), .string (⟨#[]⟩ : ByteArray)]) ?_ 1 _ rfl; (with_reducible repeat (first | refine blk_drewN ?_ _ | refine blk_drew ?_ | refine blk_alloc ?_ _)); refine blk_put (cs := #[.bool false, .string (⟨#[]⟩ : ByteArray), .string (⟨#[]⟩ : ByteArray)]) ?_ 0 _ rfl; (with_reducible repeat (first | refine blk_drewN ?_ _ | refine blk_drew ?_ | refine blk_alloc ?_ _)); exact BK119.out) hb); have n4_ := Aside0.mk (below_step (BKS HB.out GE119.out) hb); clear BK105; clear BK106; clear BK107; clear BK119; clear HB; have BK105 := n0_; have BK106 := n1_; have BK107 := n2_; have BK119 := n3_; have HB := n4_; clear n0_ n1_ n2_ n3_ n4_; (try clear hb); obtain ⟨hcz82_0, hcz82_1, hcz82_2⟩ := blk3 BK106.out; have hfz82_0 := blk_frozen BK106.out 0; have hfz82_1 := blk_frozen BK106.out 1; have hfz82_2 := blk_frozen BK106.out 2; obtain ⟨hcz83_0, hcz83_1, hcz83_2⟩ := blk3 BK107.out; have hfz83_0 := blk_frozen BK107.out 0; have hfz83_1 := blk_frozen BK107.out 1; have hfz83_2 := blk_frozen BK107.out 2) | ((with_reducible refine gate_callee (f := 23) rfl ?_); refine goesL_ (some 50) rfl rfl Tryz.func23 (by kernel_rfl) rfl #[.agg #[.bool a1_0, .string a1_1, .string a1_2], .agg #[.bool a2_0, .string a2_1, .string a2_2]] rfl (by (try simp only [List.map_toArray, List.map_cons, List.map_nil]); first | done | rfl | (simp only [List.length_drop, List.length_take]; rfl)) ?_; (with_reducible refine (rational_Compare.calls a1_0 a1_1 a1_2 a2_0 a2_1 a2_2 t121 _ ?side1 A68.out).mono ?_); (case side1 => exact Laid.below HLaid.out (BK HB.out)); rintro e w84 ⟨rfl, hb⟩; refine ⟨_, rfl, ?_⟩; have n0_ := Aside0.mk (blk_below (blk_later BK105.out) hb); have n1_ := Aside0.mk (blk_below (blk_later BK106.out) hb); have n2_ := Aside0.mk (blk_below (blk_later BK107.out) hb); have n3_ := Aside0.mk (blk_below (blk_later BK119.out) hb); have n4_ := Aside0.mk (below_step (BK HB.out) hb); clear BK105; clear BK106; clear BK107; clear BK119; clear HB; have BK105 := n0_; have BK106 := n1_; have BK107 := n2_; have BK119 := n3_; have HB := n4_; clear n0_ n1_ n2_ n3_ n4_; (try clear hb)))
        (try simp only [Act.put, List.setIfInBounds_toArray, List.set_cons_zero, List.set_cons_succ])
        go_cut [86] (fun v86 wc => ∃ (kq : Nat) (x86_68 : Bool), v86 = .bool x86_68 ∧ Aside0 (observatorylaw04_RationalOrder.j1 kq t108 t120 x86_68 a0_0 a0_1 a0_2 a1_0 a1_1 a1_2 a2_0 a2_1 a2_2 t116 t117 t118 = some r) ∧ Aside0 (kq ≤ kj4) ∧ Aside0 (wc.heap[gb105]? = some (.cells #[.bool a0_0, .string a0_1, .string a0_2] 24 (0, 0))) ∧ Aside0 (wc.heap[gb106]? = some (.cells #[.bool a1_0, .string a1_1, .string a1_2] 24 (0, 0))) ∧ Aside0 (wc.heap[gb107]? = some (.cells #[.bool a2_0, .string a2_1, .string a2_2] 24 (0, 0))) ∧ Aside0 (wc.heap[gb119]? = some (.cells #[.bool t116, .string t117, .string t118] 24 (0, 0))) ∧ Aside0 (Below w.heap.size w wc))
        case first =>
          have H := HC69.out
          clear HC69
          replace H := Option.bind_eq_some_iff.mp H
          obtain ⟨t122, A850, H⟩ := H
          replace H : (if t122 = (wrap64 (-t120)) then (if ((t120 == 0) != (a0_0 == a1_0 && (a0_1.toList == a1_1.toList && (a0_2.toList == a1_2.toList)))) = true then (observatorylaw04_RationalOrder.j1 kj4 t108 t120 true a0_0 a0_1 a0_2 a1_0 a1_1 a1_2 a2_0 a2_1 a2_2 t116 t117 t118) else (if t120 < (-1) then (observatorylaw04_RationalOrder.j1 kj4 t108 t120 true a0_0 a0_1 a0_2 a1_0 a1_1 a1_2 a2_0 a2_1 a2_2 t116 t117 t118) else (if t120 > 1 then (observatorylaw04_RationalOrder.j1 kj4 t108 t120 true a0_0 a0_1 a0_2 a1_0 a1_1 a1_2 a2_0 a2_1 a2_2 t116 t117 t118) else (if t120 ≤ 0 then (if t121 ≤ 0 then ((rational_Compare.f a0_0 a0_1 a0_2 a2_0 a2_1 a2_2).bind fun t123 => (observatorylaw04_RationalOrder.j1 kj4 t108 t120 (decide (t123 > 0)) a0_0 a0_1 a0_2 a1_0 a1_1 a1_2 a2_0 a2_1 a2_2 t116 t117 t118)) else (observatorylaw04_RationalOrder.j1 kj4 t108 t120 false a0_0 a0_1 a0_2 a1_0 a1_1 a1_2 a2_0 a2_1 a2_2 t116 t117 t118)) else (observatorylaw04_RationalOrder.j1 kj4 t108 t120 false a0_0 a0_1 a0_2 a1_0 a1_1 a1_2 a2_0 a2_1 a2_2 t116 t117 t118))))) else (observatorylaw04_RationalOrder.j1 kj4 t108 t120 true a0_0 a0_1 a0_2 a1_0 a1_1 a1_2 a2_0 a2_1 a2_2 t116 t117 t118)) = some r := H
          have A85 := Aside0.mk A850
          clear A850
          by_cases c86 : t122 = (wrap64 (-t120))
          · rw [if_pos c86] at H
            have c86b0 : (t122 == (wrap64 (-t120))) = true := beq_iff_eq.mpr c86
            have c86b1 : (t122 != (wrap64 (-t120))) = false := bne_eq_false_iff_eq.mpr c86
            clear c86
            (first | rw [c86b0] | (simp only [i64_w, i32_w]; rw [c86b0]) | skip)
            by_cases c87 : ((t120 == 0) != (a0_0 == a1_0 && (a0_1.toList == a1_1.toList && (a0_2.toList == a1_2.toList)))) = true
            · rw [if_pos c87] at H
              have c87b0 : ((t120 == 0) != (a0_0 == a1_0 && (a0_1.toList == a1_1.toList && (a0_2.toList == a1_2.toList)))) = true := c87
              (try (have c87b1 : decide ((t120 == 0) = (a0_0 == a1_0 && (a0_1.toList == a1_1.toList && (a0_2.toList == a1_2.toList)))) = false := by simpa using c87))
              (try (have c87b2 : ((t120 == 0) == (a0_0 == a1_0 && (a0_1.toList == a1_1.toList && (a0_2.toList == a1_2.toList)))) = false := by simpa using c87))
              (try (have c87b3 : ¬ ((t120 == 0) = (a0_0 == a1_0 && (a0_1.toList == a1_1.toList && (a0_2.toList == a1_2.toList)))) := by simpa using c87))
              clear c87
              have H' := Aside0.mk H
              clear H
              have hnb88 := NB106_105.out
              have hnc88 := NB105_106.out
              have hnb89 := NB106_107.out
              have hnc89 := NB107_106.out
              have hnb90 := NB106_119.out
              have hnc90 := NB119_106.out
              obtain ⟨hcz91_0, hcz91_1, hcz91_2⟩ := blk3 BK106.out
              have hfz91_0 := blk_frozen BK106.out 0
              have hfz91_1 := blk_frozen BK106.out 1
              have hfz91_2 := blk_frozen BK106.out 2
              have hnb92 := NB105_107.out
              have hnc92 := NB107_105.out
              have hnb93 := NB105_119.out
              have hnc93 := NB119_105.out
              obtain ⟨hcz94_0, hcz94_1, hcz94_2⟩ := blk3 BK105.out
              have hfz94_0 := blk_frozen BK105.out 0
              have hfz94_1 := blk_frozen BK105.out 1
              have hfz94_2 := blk_frozen BK105.out 2
              go_wp2_with (first | ((with_reducible refine gate_callee (f := 23) rfl ?_); refine goesL_ (some 53) rfl rfl Tryz.func23 (by kernel_rfl) rfl #[.agg #[.bool a1_0, .string a1_1, .string a1_2], .agg #[.bool a0_0, .string a0_1, .string a0_2]] rfl (by (try simp only [List.map_toArray, List.map_cons, List.map_nil]); first | done | rfl | (simp only [List.length_drop, List.length_take]; rfl)) ?_; (with_reducible refine (rational_Compare.calls a1_0 a1_1 a1_2 a0_0 a0_1 a0_2 t122 _ ?side1 A85.out).mono ?_); (case side1 => exact Laid.below HLaid.out (BK HB.out)); rintro e w95 ⟨rfl, hb⟩; refine ⟨_, rfl, ?_⟩; have n0_ := Aside0.mk (blk_below (blk_later BK105.out) hb); have n1_ := Aside0.mk (blk_below (blk_later BK106.out) hb); have n2_ := Aside0.mk (blk_below (blk_later BK107.out) hb); have n3_ := Aside0.mk (blk_below (blk_later BK119.out) hb); have n4_ := Aside0.mk (below_step (BK HB.out) hb); clear BK105; clear BK106; clear BK107; clear BK119; clear HB; have BK105 := n0_; have BK106 := n1_; have BK107 := n2_; have BK119 := n3_; have HB := n4_; clear n0_ n1_ n2_ n3_ n4_; (try clear hb); obtain ⟨hcz96_0, hcz96_1, hcz96_2⟩ := blk3 BK105.out; have hfz96_0 := blk_frozen BK105.out 0; have hfz96_1 := blk_frozen BK105.out 1; have hfz96_2 := blk_frozen BK105.out 2; obtain ⟨hcz97_0, hcz97_1, hcz97_2⟩ := blk3 BK106.out; have hfz97_0 := blk_frozen BK106.out 0; have hfz97_1 := blk_frozen BK106.out 1; have hfz97_2 := blk_frozen BK106.out 2))
              go_meet
              case rel => exact ⟨_, (true), (by first | rfl | (simp; done) | (simp [*]; done)), H', ⟨by have := HJ4.out; first | omega | exact Nat.le_refl _⟩, ⟨blk_later BK105.out⟩, ⟨blk_later BK106.out⟩, ⟨blk_later BK107.out⟩, ⟨blk_later BK119.out⟩, ⟨by repeat (first | (with_reducible first | exact HB.out | apply below_alloc | apply pw_below_drewN | apply below_drew1 | refine below_set ?_ GE105.out | refine below_set ?_ GE106.out | refine below_set ?_ GE107.out | refine below_set ?_ GE119.out) | exact HB.out)⟩⟩
            · rw [if_neg c87] at H
              have c87b0 : ((t120 == 0) != (a0_0 == a1_0 && (a0_1.toList == a1_1.toList && (a0_2.toList == a1_2.toList)))) = false := by simpa using c87
              (try (have c87b1 : decide ((t120 == 0) = (a0_0 == a1_0 && (a0_1.toList == a1_1.toList && (a0_2.toList == a1_2.toList)))) = true := by simpa using c87))
              (try (have c87b2 : ((t120 == 0) == (a0_0 == a1_0 && (a0_1.toList == a1_1.toList && (a0_2.toList == a1_2.toList)))) = true := by simpa using c87))
              clear c87
              by_cases c98 : t120 < (-1)
              · rw [if_pos c98] at H
                have c98b0 : decide (t120 < (-1)) = true := decide_eq_true c98
                clear c98
                have H' := Aside0.mk H
                clear H
                have hnb99 := NB106_105.out
                have hnc99 := NB105_106.out
                have hnb100 := NB106_107.out
                have hnc100 := NB107_106.out
                have hnb101 := NB106_119.out
                have hnc101 := NB119_106.out
                obtain ⟨hcz102_0, hcz102_1, hcz102_2⟩ := blk3 BK106.out
                have hfz102_0 := blk_frozen BK106.out 0
                have hfz102_1 := blk_frozen BK106.out 1
                have hfz102_2 := blk_frozen BK106.out 2
                have hnb103 := NB105_107.out
                have hnc103 := NB107_105.out
                have hnb104 := NB105_119.out
                have hnc104 := NB119_105.out
                obtain ⟨hcz105_0, hcz105_1, hcz105_2⟩ := blk3 BK105.out
                have hfz105_0 := blk_frozen BK105.out 0
                have hfz105_1 := blk_frozen BK105.out 1
                have hfz105_2 := blk_frozen BK105.out 2
                go_wp2_with (first | ((with_reducible refine gate_callee (f := 23) rfl ?_); refine goesL_ (some 53) rfl rfl Tryz.func23 (by kernel_rfl) rfl #[.agg #[.bool a1_0, .string a1_1, .string a1_2], .agg #[.bool a0_0, .string a0_1, .string a0_2]] rfl (by (try simp only [List.map_toArray, List.map_cons, List.map_nil]); first | done | rfl | (simp only [List.length_drop, List.length_take]; rfl)) ?_; (with_reducible refine (rational_Compare.calls a1_0 a1_1 a1_2 a0_0 a0_1 a0_2 t122 _ ?side1 A85.out).mono ?_); (case side1 => exact Laid.below HLaid.out (BK HB.out)); rintro e w106 ⟨rfl, hb⟩; refine ⟨_, rfl, ?_⟩; have n0_ := Aside0.mk (blk_below (blk_later BK105.out) hb); have n1_ := Aside0.mk (blk_below (blk_later BK106.out) hb); have n2_ := Aside0.mk (blk_below (blk_later BK107.out) hb); have n3_ := Aside0.mk (blk_below (blk_later BK119.out) hb); have n4_ := Aside0.mk (below_step (BK HB.out) hb); clear BK105; clear BK106; clear BK107; clear BK119; clear HB; have BK105 := n0_; have BK106 := n1_; have BK107 := n2_; have BK119 := n3_; have HB := n4_; clear n0_ n1_ n2_ n3_ n4_; (try clear hb); obtain ⟨hcz107_0, hcz107_1, hcz107_2⟩ := blk3 BK105.out; have hfz107_0 := blk_frozen BK105.out 0; have hfz107_1 := blk_frozen BK105.out 1; have hfz107_2 := blk_frozen BK105.out 2; obtain ⟨hcz108_0, hcz108_1, hcz108_2⟩ := blk3 BK106.out; have hfz108_0 := blk_frozen BK106.out 0; have hfz108_1 := blk_frozen BK106.out 1; have hfz108_2 := blk_frozen BK106.out 2))
                go_meet
                case rel => exact ⟨_, (true), (by first | rfl | (simp; done) | (simp [*]; done)), H', ⟨by have := HJ4.out; first | omega | exact Nat.le_refl _⟩, ⟨blk_later BK105.out⟩, ⟨blk_later BK106.out⟩, ⟨blk_later BK107.out⟩, ⟨blk_later BK119.out⟩, ⟨by repeat (first | (with_reducible first | exact HB.out | apply below_alloc | apply pw_below_drewN | apply below_drew1 | refine below_set ?_ GE105.out | refine below_set ?_ GE106.out | refine below_set ?_ GE107.out | refine below_set ?_ GE119.out) | exact HB.out)⟩⟩
              · rw [if_neg c98] at H
                have c98b0 : decide (t120 < (-1)) = false := decide_eq_false c98
                clear c98
                by_cases c109 : t120 > 1
                · rw [if_pos c109] at H
                  have c109b0 : decide (1 < t120) = true := decide_eq_true c109
                  clear c109
                  have H' := Aside0.mk H
                  clear H
                  have hnb110 := NB106_105.out
                  have hnc110 := NB105_106.out
                  have hnb111 := NB106_107.out
                  have hnc111 := NB107_106.out
                  have hnb112 := NB106_119.out
                  have hnc112 := NB119_106.out
                  obtain ⟨hcz113_0, hcz113_1, hcz113_2⟩ := blk3 BK106.out
                  have hfz113_0 := blk_frozen BK106.out 0
                  have hfz113_1 := blk_frozen BK106.out 1
                  have hfz113_2 := blk_frozen BK106.out 2
                  have hnb114 := NB105_107.out
                  have hnc114 := NB107_105.out
                  have hnb115 := NB105_119.out
                  have hnc115 := NB119_105.out
                  obtain ⟨hcz116_0, hcz116_1, hcz116_2⟩ := blk3 BK105.out
                  have hfz116_0 := blk_frozen BK105.out 0
                  have hfz116_1 := blk_frozen BK105.out 1
                  have hfz116_2 := blk_frozen BK105.out 2
                  go_wp2_with (first | ((with_reducible refine gate_callee (f := 23) rfl ?_); refine goesL_ (some 53) rfl rfl Tryz.func23 (by kernel_rfl) rfl #[.agg #[.bool a1_0, .string a1_1, .string a1_2], .agg #[.bool a0_0, .string a0_1, .string a0_2]] rfl (by (try simp only [List.map_toArray, List.map_cons, List.map_nil]); first | done | rfl | (simp only [List.length_drop, List.length_take]; rfl)) ?_; (with_reducible refine (rational_Compare.calls a1_0 a1_1 a1_2 a0_0 a0_1 a0_2 t122 _ ?side1 A85.out).mono ?_); (case side1 => exact Laid.below HLaid.out (BK HB.out)); rintro e w117 ⟨rfl, hb⟩; refine ⟨_, rfl, ?_⟩; have n0_ := Aside0.mk (blk_below (blk_later BK105.out) hb); have n1_ := Aside0.mk (blk_below (blk_later BK106.out) hb); have n2_ := Aside0.mk (blk_below (blk_later BK107.out) hb); have n3_ := Aside0.mk (blk_below (blk_later BK119.out) hb); have n4_ := Aside0.mk (below_step (BK HB.out) hb); clear BK105; clear BK106; clear BK107; clear BK119; clear HB; have BK105 := n0_; have BK106 := n1_; have BK107 := n2_; have BK119 := n3_; have HB := n4_; clear n0_ n1_ n2_ n3_ n4_; (try clear hb); obtain ⟨hcz118_0, hcz118_1, hcz118_2⟩ := blk3 BK105.out; have hfz118_0 := blk_frozen BK105.out 0; have hfz118_1 := blk_frozen BK105.out 1; have hfz118_2 := blk_frozen BK105.out 2; obtain ⟨hcz119_0, hcz119_1, hcz119_2⟩ := blk3 BK106.out; have hfz119_0 := blk_frozen BK106.out 0; have hfz119_1 := blk_frozen BK106.out 1; have hfz119_2 := blk_frozen BK106.out 2))
                  go_meet
                  case rel => exact ⟨_, (true), (by first | rfl | (simp; done) | (simp [*]; done)), H', ⟨by have := HJ4.out; first | omega | exact Nat.le_refl _⟩, ⟨blk_later BK105.out⟩, ⟨blk_later BK106.out⟩, ⟨blk_later BK107.out⟩, ⟨blk_later BK119.out⟩, ⟨by repeat (first | (with_reducible first | exact HB.out | apply below_alloc | apply pw_below_drewN | apply below_drew1 | refine below_set ?_ GE105.out | refine below_set ?_ GE106.out | refine below_set ?_ GE107.out | refine below_set ?_ GE119.out) | exact HB.out)⟩⟩
                · rw [if_neg c109] at H
                  have c109b0 : decide (1 < t120) = false := decide_eq_false c109
                  clear c109
                  by_cases c120 : t120 ≤ 0
                  · rw [if_pos c120] at H
                    have c120b0 : decide (t120 ≤ 0) = true := decide_eq_true c120
                    clear c120
                    by_cases c121 : t121 ≤ 0
                    · rw [if_pos c121] at H
                      have c121b0 : decide (t121 ≤ 0) = true := decide_eq_true c121
                      clear c121
                      replace H := Option.bind_eq_some_iff.mp H
                      obtain ⟨t123, A1220, H⟩ := H
                      replace H : (observatorylaw04_RationalOrder.j1 kj4 t108 t120 (decide (t123 > 0)) a0_0 a0_1 a0_2 a1_0 a1_1 a1_2 a2_0 a2_1 a2_2 t116 t117 t118) = some r := H
                      have A122 := Aside0.mk A1220
                      clear A1220
                      have H' := Aside0.mk H
                      clear H
                      have hnb123 := NB106_105.out
                      have hnc123 := NB105_106.out
                      have hnb124 := NB106_107.out
                      have hnc124 := NB107_106.out
                      have hnb125 := NB106_119.out
                      have hnc125 := NB119_106.out
                      obtain ⟨hcz126_0, hcz126_1, hcz126_2⟩ := blk3 BK106.out
                      have hfz126_0 := blk_frozen BK106.out 0
                      have hfz126_1 := blk_frozen BK106.out 1
                      have hfz126_2 := blk_frozen BK106.out 2
                      have hnb127 := NB105_107.out
                      have hnc127 := NB107_105.out
                      have hnb128 := NB105_119.out
                      have hnc128 := NB119_105.out
                      obtain ⟨hcz129_0, hcz129_1, hcz129_2⟩ := blk3 BK105.out
                      have hfz129_0 := blk_frozen BK105.out 0
                      have hfz129_1 := blk_frozen BK105.out 1
                      have hfz129_2 := blk_frozen BK105.out 2
                      go_wp2_with (first | ((with_reducible refine gate_callee (f := 23) rfl ?_); refine goesL_ (some 53) rfl rfl Tryz.func23 (by kernel_rfl) rfl #[.agg #[.bool a1_0, .string a1_1, .string a1_2], .agg #[.bool a0_0, .string a0_1, .string a0_2]] rfl (by (try simp only [List.map_toArray, List.map_cons, List.map_nil]); first | done | rfl | (simp only [List.length_drop, List.length_take]; rfl)) ?_; (with_reducible refine (rational_Compare.calls a1_0 a1_1 a1_2 a0_0 a0_1 a0_2 t122 _ ?side1 A85.out).mono ?_); (case side1 => exact Laid.below HLaid.out (BK HB.out)); rintro e w130 ⟨rfl, hb⟩; refine ⟨_, rfl, ?_⟩; have n0_ := Aside0.mk (blk_below (blk_later BK105.out) hb); have n1_ := Aside0.mk (blk_below (blk_later BK106.out) hb); have n2_ := Aside0.mk (blk_below (blk_later BK107.out) hb); have n3_ := Aside0.mk (blk_below (blk_later BK119.out) hb); have n4_ := Aside0.mk (below_step (BK HB.out) hb); clear BK105; clear BK106; clear BK107; clear BK119; clear HB; have BK105 := n0_; have BK106 := n1_; have BK107 := n2_; have BK119 := n3_; have HB := n4_; clear n0_ n1_ n2_ n3_ n4_; (try clear hb); obtain ⟨hcz131_0, hcz131_1, hcz131_2⟩ := blk3 BK105.out; have hfz131_0 := blk_frozen BK105.out 0; have hfz131_1 := blk_frozen BK105.out 1; have hfz131_2 := blk_frozen BK105.out 2; obtain ⟨hcz132_0, hcz132_1, hcz132_2⟩ := blk3 BK106.out; have hfz132_0 := blk_frozen BK106.out 0; have hfz132_1 := blk_frozen BK106.out 1; have hfz132_2 := blk_frozen BK106.out 2; have hnb133 := NB107_119.out; have hnc133 := NB119_107.out; obtain ⟨hcz134_0, hcz134_1, hcz134_2⟩ := blk3 BK107.out; have hfz134_0 := blk_frozen BK107.out 0; have hfz134_1 := blk_frozen BK107.out 1; have hfz134_2 := blk_frozen BK107.out 2) | (go_at_call 23; (with_reducible refine (rational_Compare.calls a0_0 a0_1 a0_2 a2_0 a2_1 a2_2 t123 _ ?side1 A122.out).mono ?_); (case side1 => exact Laid.below HLaid.out (BK HB.out)); rintro e w135 ⟨rfl, hb⟩; have n0_ := Aside0.mk (blk_below (blk_later BK105.out) hb); have n1_ := Aside0.mk (blk_below (blk_later BK106.out) hb); have n2_ := Aside0.mk (blk_below (blk_later BK107.out) hb); have n3_ := Aside0.mk (blk_below (blk_later BK119.out) hb); have n4_ := Aside0.mk (below_step (BK HB.out) hb); clear BK105; clear BK106; clear BK107; clear BK119; clear HB; have BK105 := n0_; have BK106 := n1_; have BK107 := n2_; have BK119 := n3_; have HB := n4_; clear n0_ n1_ n2_ n3_ n4_; (try clear hb)))
                      go_meet
                      case rel => exact ⟨_, (decide (t123 > 0)), (by first | rfl | (simp; done) | (simp [*]; done)), H', ⟨by have := HJ4.out; first | omega | exact Nat.le_refl _⟩, ⟨blk_later BK105.out⟩, ⟨blk_later BK106.out⟩, ⟨blk_later BK107.out⟩, ⟨blk_later BK119.out⟩, ⟨by repeat (first | (with_reducible first | exact HB.out | apply below_alloc | apply pw_below_drewN | apply below_drew1 | refine below_set ?_ GE105.out | refine below_set ?_ GE106.out | refine below_set ?_ GE107.out | refine below_set ?_ GE119.out) | exact HB.out)⟩⟩
                    · rw [if_neg c121] at H
                      have c121b0 : decide (t121 ≤ 0) = false := decide_eq_false c121
                      clear c121
                      have H' := Aside0.mk H
                      clear H
                      have hnb136 := NB106_105.out
                      have hnc136 := NB105_106.out
                      have hnb137 := NB106_107.out
                      have hnc137 := NB107_106.out
                      have hnb138 := NB106_119.out
                      have hnc138 := NB119_106.out
                      obtain ⟨hcz139_0, hcz139_1, hcz139_2⟩ := blk3 BK106.out
                      have hfz139_0 := blk_frozen BK106.out 0
                      have hfz139_1 := blk_frozen BK106.out 1
                      have hfz139_2 := blk_frozen BK106.out 2
                      have hnb140 := NB105_107.out
                      have hnc140 := NB107_105.out
                      have hnb141 := NB105_119.out
                      have hnc141 := NB119_105.out
                      obtain ⟨hcz142_0, hcz142_1, hcz142_2⟩ := blk3 BK105.out
                      have hfz142_0 := blk_frozen BK105.out 0
                      have hfz142_1 := blk_frozen BK105.out 1
                      have hfz142_2 := blk_frozen BK105.out 2
                      go_wp2_with (first | ((with_reducible refine gate_callee (f := 23) rfl ?_); refine goesL_ (some 53) rfl rfl Tryz.func23 (by kernel_rfl) rfl #[.agg #[.bool a1_0, .string a1_1, .string a1_2], .agg #[.bool a0_0, .string a0_1, .string a0_2]] rfl (by (try simp only [List.map_toArray, List.map_cons, List.map_nil]); first | done | rfl | (simp only [List.length_drop, List.length_take]; rfl)) ?_; (with_reducible refine (rational_Compare.calls a1_0 a1_1 a1_2 a0_0 a0_1 a0_2 t122 _ ?side1 A85.out).mono ?_); (case side1 => exact Laid.below HLaid.out (BK HB.out)); rintro e w143 ⟨rfl, hb⟩; refine ⟨_, rfl, ?_⟩; have n0_ := Aside0.mk (blk_below (blk_later BK105.out) hb); have n1_ := Aside0.mk (blk_below (blk_later BK106.out) hb); have n2_ := Aside0.mk (blk_below (blk_later BK107.out) hb); have n3_ := Aside0.mk (blk_below (blk_later BK119.out) hb); have n4_ := Aside0.mk (below_step (BK HB.out) hb); clear BK105; clear BK106; clear BK107; clear BK119; clear HB; have BK105 := n0_; have BK106 := n1_; have BK107 := n2_; have BK119 := n3_; have HB := n4_; clear n0_ n1_ n2_ n3_ n4_; (try clear hb); obtain ⟨hcz144_0, hcz144_1, hcz144_2⟩ := blk3 BK105.out; have hfz144_0 := blk_frozen BK105.out 0; have hfz144_1 := blk_frozen BK105.out 1; have hfz144_2 := blk_frozen BK105.out 2; obtain ⟨hcz145_0, hcz145_1, hcz145_2⟩ := blk3 BK106.out; have hfz145_0 := blk_frozen BK106.out 0; have hfz145_1 := blk_frozen BK106.out 1; have hfz145_2 := blk_frozen BK106.out 2))
                      go_meet
                      case rel => exact ⟨_, (false), (by first | rfl | (simp; done) | (simp [*]; done)), H', ⟨by have := HJ4.out; first | omega | exact Nat.le_refl _⟩, ⟨blk_later BK105.out⟩, ⟨blk_later BK106.out⟩, ⟨blk_later BK107.out⟩, ⟨blk_later BK119.out⟩, ⟨by repeat (first | (with_reducible first | exact HB.out | apply below_alloc | apply pw_below_drewN | apply below_drew1 | refine below_set ?_ GE105.out | refine below_set ?_ GE106.out | refine below_set ?_ GE107.out | refine below_set ?_ GE119.out) | exact HB.out)⟩⟩
                  · rw [if_neg c120] at H
                    have c120b0 : decide (t120 ≤ 0) = false := decide_eq_false c120
                    clear c120
                    have H' := Aside0.mk H
                    clear H
                    have hnb146 := NB106_105.out
                    have hnc146 := NB105_106.out
                    have hnb147 := NB106_107.out
                    have hnc147 := NB107_106.out
                    have hnb148 := NB106_119.out
                    have hnc148 := NB119_106.out
                    obtain ⟨hcz149_0, hcz149_1, hcz149_2⟩ := blk3 BK106.out
                    have hfz149_0 := blk_frozen BK106.out 0
                    have hfz149_1 := blk_frozen BK106.out 1
                    have hfz149_2 := blk_frozen BK106.out 2
                    have hnb150 := NB105_107.out
                    have hnc150 := NB107_105.out
                    have hnb151 := NB105_119.out
                    have hnc151 := NB119_105.out
                    obtain ⟨hcz152_0, hcz152_1, hcz152_2⟩ := blk3 BK105.out
                    have hfz152_0 := blk_frozen BK105.out 0
                    have hfz152_1 := blk_frozen BK105.out 1
                    have hfz152_2 := blk_frozen BK105.out 2
                    go_wp2_with (first | ((with_reducible refine gate_callee (f := 23) rfl ?_); refine goesL_ (some 53) rfl rfl Tryz.func23 (by kernel_rfl) rfl #[.agg #[.bool a1_0, .string a1_1, .string a1_2], .agg #[.bool a0_0, .string a0_1, .string a0_2]] rfl (by (try simp only [List.map_toArray, List.map_cons, List.map_nil]); first | done | rfl | (simp only [List.length_drop, List.length_take]; rfl)) ?_; (with_reducible refine (rational_Compare.calls a1_0 a1_1 a1_2 a0_0 a0_1 a0_2 t122 _ ?side1 A85.out).mono ?_); (case side1 => exact Laid.below HLaid.out (BK HB.out)); rintro e w153 ⟨rfl, hb⟩; refine ⟨_, rfl, ?_⟩; have n0_ := Aside0.mk (blk_below (blk_later BK105.out) hb); have n1_ := Aside0.mk (blk_below (blk_later BK106.out) hb); have n2_ := Aside0.mk (blk_below (blk_later BK107.out) hb); have n3_ := Aside0.mk (blk_below (blk_later BK119.out) hb); have n4_ := Aside0.mk (below_step (BK HB.out) hb); clear BK105; clear BK106; clear BK107; clear BK119; clear HB; have BK105 := n0_; have BK106 := n1_; have BK107 := n2_; have BK119 := n3_; have HB := n4_; clear n0_ n1_ n2_ n3_ n4_; (try clear hb); obtain ⟨hcz154_0, hcz154_1, hcz154_2⟩ := blk3 BK105.out; have hfz154_0 := blk_frozen BK105.out 0; have hfz154_1 := blk_frozen BK105.out 1; have hfz154_2 := blk_frozen BK105.out 2; obtain ⟨hcz155_0, hcz155_1, hcz155_2⟩ := blk3 BK106.out; have hfz155_0 := blk_frozen BK106.out 0; have hfz155_1 := blk_frozen BK106.out 1; have hfz155_2 := blk_frozen BK106.out 2))
                    go_meet
                    case rel => exact ⟨_, (false), (by first | rfl | (simp; done) | (simp [*]; done)), H', ⟨by have := HJ4.out; first | omega | exact Nat.le_refl _⟩, ⟨blk_later BK105.out⟩, ⟨blk_later BK106.out⟩, ⟨blk_later BK107.out⟩, ⟨blk_later BK119.out⟩, ⟨by repeat (first | (with_reducible first | exact HB.out | apply below_alloc | apply pw_below_drewN | apply below_drew1 | refine below_set ?_ GE105.out | refine below_set ?_ GE106.out | refine below_set ?_ GE107.out | refine below_set ?_ GE119.out) | exact HB.out)⟩⟩
          · rw [if_neg c86] at H
            have c86b0 : (t122 == (wrap64 (-t120))) = false := beq_eq_false_iff_ne.mpr c86
            have c86b1 : (t122 != (wrap64 (-t120))) = true := bne_iff_ne.mpr c86
            (first | rw [c86b0] | (simp only [i64_w, i32_w]; rw [c86b0]) | skip)
            have H' := Aside0.mk H
            clear H
            have hnb156 := NB106_105.out
            have hnc156 := NB105_106.out
            have hnb157 := NB106_107.out
            have hnc157 := NB107_106.out
            have hnb158 := NB106_119.out
            have hnc158 := NB119_106.out
            obtain ⟨hcz159_0, hcz159_1, hcz159_2⟩ := blk3 BK106.out
            have hfz159_0 := blk_frozen BK106.out 0
            have hfz159_1 := blk_frozen BK106.out 1
            have hfz159_2 := blk_frozen BK106.out 2
            have hnb160 := NB105_107.out
            have hnc160 := NB107_105.out
            have hnb161 := NB105_119.out
            have hnc161 := NB119_105.out
            obtain ⟨hcz162_0, hcz162_1, hcz162_2⟩ := blk3 BK105.out
            have hfz162_0 := blk_frozen BK105.out 0
            have hfz162_1 := blk_frozen BK105.out 1
            have hfz162_2 := blk_frozen BK105.out 2
            go_wp2_with (first | ((with_reducible refine gate_callee (f := 23) rfl ?_); refine goesL_ (some 53) rfl rfl Tryz.func23 (by kernel_rfl) rfl #[.agg #[.bool a1_0, .string a1_1, .string a1_2], .agg #[.bool a0_0, .string a0_1, .string a0_2]] rfl (by (try simp only [List.map_toArray, List.map_cons, List.map_nil]); first | done | rfl | (simp only [List.length_drop, List.length_take]; rfl)) ?_; (with_reducible refine (rational_Compare.calls a1_0 a1_1 a1_2 a0_0 a0_1 a0_2 t122 _ ?side1 A85.out).mono ?_); (case side1 => exact Laid.below HLaid.out (BK HB.out)); rintro e w163 ⟨rfl, hb⟩; refine ⟨_, rfl, ?_⟩; have n0_ := Aside0.mk (blk_below (blk_later BK105.out) hb); have n1_ := Aside0.mk (blk_below (blk_later BK106.out) hb); have n2_ := Aside0.mk (blk_below (blk_later BK107.out) hb); have n3_ := Aside0.mk (blk_below (blk_later BK119.out) hb); have n4_ := Aside0.mk (below_step (BK HB.out) hb); clear BK105; clear BK106; clear BK107; clear BK119; clear HB; have BK105 := n0_; have BK106 := n1_; have BK107 := n2_; have BK119 := n3_; have HB := n4_; clear n0_ n1_ n2_ n3_ n4_; (try clear hb)))
            go_meet
            case rel => exact ⟨_, (true), (by first | rfl | (simp; done) | (simp [*]; done)), H', ⟨by have := HJ4.out; first | omega | exact Nat.le_refl _⟩, ⟨blk_later BK105.out⟩, ⟨blk_later BK106.out⟩, ⟨blk_later BK107.out⟩, ⟨blk_later BK119.out⟩, ⟨by repeat (first | (with_reducible first | exact HB.out | apply below_alloc | apply pw_below_drewN | apply below_drew1 | refine below_set ?_ GE105.out | refine below_set ?_ GE106.out | refine below_set ?_ GE107.out | refine below_set ?_ GE119.out) | exact HB.out)⟩⟩
        case rest =>
          clear HC69
          try clear c1
          try clear c2
          try clear p2
          try clear c3
          try clear c4
          try clear c5
          try clear c6
          try clear p6
          try clear c7
          try clear c8
          try clear c9
          try clear c10
          try clear c11
          try clear c12
          try clear c13
          try clear c14
          try clear c15
          try clear c16
          try clear c17
          try clear c18
          try clear c20
          try clear c23
          try clear c32
          try clear c33
          try clear c35
          try clear c45
          try clear c46
          try clear c48
          try clear c56
          try clear c57
          try clear c59
          try clear p64
          try clear c65
          try clear c72
          try clear c73
          try clear c74
          try clear c76
          try clear c77
          try clear c79
          try clear c86
          try clear c86b0
          try clear c86b1
          try clear c87
          try clear c87b0
          try clear c87b1
          try clear c87b2
          try clear c88
          try clear c89
          try clear c90
          try clear c92
          try clear c93
          try clear c98
          try clear c98b0
          try clear c99
          try clear c100
          try clear c101
          try clear c103
          try clear c104
          try clear c109
          try clear c109b0
          try clear c110
          try clear c111
          try clear c112
          try clear c114
          try clear c115
          try clear c120
          try clear c120b0
          try clear c121
          try clear c121b0
          try clear c123
          try clear c124
          try clear c125
          try clear c127
          try clear c128
          try clear c133
          try clear c136
          try clear c137
          try clear c138
          try clear c140
          try clear c141
          try clear c146
          try clear c147
          try clear c148
          try clear c150
          try clear c151
          try clear c156
          try clear c157
          try clear c158
          try clear c160
          try clear c161
          try clear hcz102_0
          try clear hcz102_1
          try clear hcz102_2
          try clear hcz105_0
          try clear hcz105_1
          try clear hcz105_2
          try clear hcz107_0
          try clear hcz107_1
          try clear hcz107_2
          try clear hcz108_0
          try clear hcz108_1
          try clear hcz108_2
          try clear hcz113_0
          try clear hcz113_1
          try clear hcz113_2
          try clear hcz116_0
          try clear hcz116_1
          try clear hcz116_2
          try clear hcz118_0
          try clear hcz118_1
          try clear hcz118_2
          try clear hcz119_0
          try clear hcz119_1
          try clear hcz119_2
          try clear hcz126_0
          try clear hcz126_1
          try clear hcz126_2
          try clear hcz129_0
          try clear hcz129_1
          try clear hcz129_2
          try clear hcz131_0
          try clear hcz131_1
          try clear hcz131_2
          try clear hcz132_0
          try clear hcz132_1
          try clear hcz132_2
          try clear hcz134_0
          try clear hcz134_1
          try clear hcz134_2
          try clear hcz139_0
          try clear hcz139_1
          try clear hcz139_2
          try clear hcz142_0
          try clear hcz142_1
          try clear hcz142_2
          try clear hcz144_0
          try clear hcz144_1
          try clear hcz144_2
          try clear hcz145_0
          try clear hcz145_1
          try clear hcz145_2
          try clear hcz149_0
          try clear hcz149_1
          try clear hcz149_2
          try clear hcz152_0
          try clear hcz152_1
          try clear hcz152_2
          try clear hcz154_0
          try clear hcz154_1
          try clear hcz154_2
          try clear hcz155_0
          try clear hcz155_1
          try clear hcz155_2
          try clear hcz159_0
          try clear hcz159_1
          try clear hcz159_2
          try clear hcz162_0
          try clear hcz162_1
          try clear hcz162_2
          try clear hcz19_0
          try clear hcz19_1
          try clear hcz19_2
          try clear hcz21_0
          try clear hcz21_1
          try clear hcz21_2
          try clear hcz22_0
          try clear hcz22_1
          try clear hcz22_2
          try clear hcz26_0
          try clear hcz26_1
          try clear hcz26_2
          try clear hcz28_0
          try clear hcz28_1
          try clear hcz28_2
          try clear hcz30_0
          try clear hcz30_1
          try clear hcz30_2
          try clear hcz34_0
          try clear hcz34_1
          try clear hcz34_2
          try clear hcz36_0
          try clear hcz36_1
          try clear hcz36_2
          try clear hcz37_0
          try clear hcz37_1
          try clear hcz37_2
          try clear hcz41_0
          try clear hcz41_1
          try clear hcz41_2
          try clear hcz43_0
          try clear hcz43_1
          try clear hcz43_2
          try clear hcz47_0
          try clear hcz47_1
          try clear hcz47_2
          try clear hcz49_0
          try clear hcz49_1
          try clear hcz49_2
          try clear hcz50_0
          try clear hcz50_1
          try clear hcz50_2
          try clear hcz54_0
          try clear hcz54_1
          try clear hcz54_2
          try clear hcz58_0
          try clear hcz58_1
          try clear hcz58_2
          try clear hcz60_0
          try clear hcz60_1
          try clear hcz60_2
          try clear hcz61_0
          try clear hcz61_1
          try clear hcz61_2
          try clear hcz75_0
          try clear hcz75_1
          try clear hcz75_2
          try clear hcz78_0
          try clear hcz78_1
          try clear hcz78_2
          try clear hcz80_0
          try clear hcz80_1
          try clear hcz80_2
          try clear hcz82_0
          try clear hcz82_1
          try clear hcz82_2
          try clear hcz83_0
          try clear hcz83_1
          try clear hcz83_2
          try clear hcz91_0
          try clear hcz91_1
          try clear hcz91_2
          try clear hcz94_0
          try clear hcz94_1
          try clear hcz94_2
          try clear hcz96_0
          try clear hcz96_1
          try clear hcz96_2
          try clear hcz97_0
          try clear hcz97_1
          try clear hcz97_2
          try clear hfz102_0
          try clear hfz102_1
          try clear hfz102_2
          try clear hfz105_0
          try clear hfz105_1
          try clear hfz105_2
          try clear hfz107_0
          try clear hfz107_1
          try clear hfz107_2
          try clear hfz108_0
          try clear hfz108_1
          try clear hfz108_2
          try clear hfz113_0
          try clear hfz113_1
          try clear hfz113_2
          try clear hfz116_0
          try clear hfz116_1
          try clear hfz116_2
          try clear hfz118_0
          try clear hfz118_1
          try clear hfz118_2
          try clear hfz119_0
          try clear hfz119_1
          try clear hfz119_2
          try clear hfz126_0
          try clear hfz126_1
          try clear hfz126_2
          try clear hfz129_0
          try clear hfz129_1
          try clear hfz129_2
          try clear hfz131_0
          try clear hfz131_1
          try clear hfz131_2
          try clear hfz132_0
          try clear hfz132_1
          try clear hfz132_2
          try clear hfz134_0
          try clear hfz134_1
          try clear hfz134_2
          try clear hfz139_0
          try clear hfz139_1
          try clear hfz139_2
          try clear hfz142_0
          try clear hfz142_1
          try clear hfz142_2
          try clear hfz144_0
          try clear hfz144_1
          try clear hfz144_2
          try clear hfz145_0
          try clear hfz145_1
          try clear hfz145_2
          try clear hfz149_0
          try clear hfz149_1
          try clear hfz149_2
          try clear hfz152_0
          try clear hfz152_1
          try clear hfz152_2
          try clear hfz154_0
          try clear hfz154_1
          try clear hfz154_2
          try clear hfz155_0
          try clear hfz155_1
          try clear hfz155_2
          try clear hfz159_0
          try clear hfz159_1
          try clear hfz159_2
          try clear hfz162_0
          try clear hfz162_1
          try clear hfz162_2
          try clear hfz19_0
          try clear hfz19_1
          try clear hfz19_2
          try clear hfz21_0
          try clear hfz21_1
          try clear hfz21_2
          try clear hfz22_0
          try clear hfz22_1
          try clear hfz22_2
          try clear hfz26_0
          try clear hfz26_1
          try clear hfz26_2
          try clear hfz28_0
          try clear hfz28_1
          try clear hfz28_2
          try clear hfz30_0
          try clear hfz30_1
          try clear hfz30_2
          try clear hfz34_0
          try clear hfz34_1
          try clear hfz34_2
          try clear hfz36_0
          try clear hfz36_1
          try clear hfz36_2
          try clear hfz37_0
          try clear hfz37_1
          try clear hfz37_2
          try clear hfz41_0
          try clear hfz41_1
          try clear hfz41_2
          try clear hfz43_0
          try clear hfz43_1
          try clear hfz43_2
          try clear hfz47_0
          try clear hfz47_1
          try clear hfz47_2
          try clear hfz49_0
          try clear hfz49_1
          try clear hfz49_2
          try clear hfz50_0
          try clear hfz50_1
          try clear hfz50_2
          try clear hfz54_0
          try clear hfz54_1
          try clear hfz54_2
          try clear hfz58_0
          try clear hfz58_1
          try clear hfz58_2
          try clear hfz60_0
          try clear hfz60_1
          try clear hfz60_2
          try clear hfz61_0
          try clear hfz61_1
          try clear hfz61_2
          try clear hfz75_0
          try clear hfz75_1
          try clear hfz75_2
          try clear hfz78_0
          try clear hfz78_1
          try clear hfz78_2
          try clear hfz80_0
          try clear hfz80_1
          try clear hfz80_2
          try clear hfz82_0
          try clear hfz82_1
          try clear hfz82_2
          try clear hfz83_0
          try clear hfz83_1
          try clear hfz83_2
          try clear hfz91_0
          try clear hfz91_1
          try clear hfz91_2
          try clear hfz94_0
          try clear hfz94_1
          try clear hfz94_2
          try clear hfz96_0
          try clear hfz96_1
          try clear hfz96_2
          try clear hfz97_0
          try clear hfz97_1
          try clear hfz97_2
          try clear p2
          obtain ⟨kq, x86_68, rfl, HA, HJ68, BK105, BK106, BK107, BK119, HB⟩ := hcut
          cases kq with
          | zero => exact absurd HA.out (by simp [observatorylaw04_RationalOrder.j1])
          | succ kj68 =>
            have H := HA.out
            clear HA
            simp only [observatorylaw04_RationalOrder.j1] at H
            by_cases c164 : x86_68 = true
            · subst c164
              rw [if_pos rfl] at H
              exact absurd H (by simp)
            · replace c164 := Bool.eq_false_iff.mpr c164
              subst c164
              have H1 : ((rational_Sub.f a0_0 a0_1 a0_2 a1_0 a1_1 a1_2).bind fun bt124 => ((rational_Add.f a0_0 a0_1 a0_2 a2_0 a2_1 a2_2).bind fun bt129 => ((rational_Add.f a1_0 a1_1 a1_2 a2_0 a2_1 a2_2).bind fun bt134 => ((rational_Mul.f a0_0 a0_1 a0_2 a2_0 a2_1 a2_2).bind fun bt139 => ((rational_Mul.f a1_0 a1_1 a1_2 a2_0 a2_1 a2_2).bind fun bt144 => (if bt124.2.2.2 = 0 then (if bt129.2.2.2 = 0 then (if bt134.2.2.2 = 0 then (if bt139.2.2.2 = 0 then (if bt144.2.2.2 = 0 then ((rational_Compare.f bt124.1 bt124.2.1 bt124.2.2.1 t116 t117 t118).bind fun t149 => (if t149 = t120 then ((rational_Compare.f bt129.1 bt129.2.1 bt129.2.2.1 bt134.1 bt134.2.1 bt134.2.2.1).bind fun t150 => (if t150 = t120 then (if t108 = true then (if a2_0 = true then (some true) else (if (a2_0 == t116 && (a2_1.toList == t117.toList && (a2_2.toList == t118.toList))) = true then (some true) else ((rational_Compare.f bt139.1 bt139.2.1 bt139.2.2.1 bt144.1 bt144.2.1 bt144.2.2.1).bind fun t151 => (some (t151 == t120))))) else (none)) else (none))) else (none))) else (none)) else (none)) else (none)) else (none)) else (none))))))) = some r := by rw [if_neg (show ¬ (false = true) by decide)] at H; exact H
              clear H
              have H := H1
              clear H1
              replace H := Option.bind_eq_some_iff.mp H
              obtain ⟨⟨t124, t125, t126, t127⟩, A1650, H⟩ := H
              replace H : ((rational_Add.f a0_0 a0_1 a0_2 a2_0 a2_1 a2_2).bind fun bt129 => ((rational_Add.f a1_0 a1_1 a1_2 a2_0 a2_1 a2_2).bind fun bt134 => ((rational_Mul.f a0_0 a0_1 a0_2 a2_0 a2_1 a2_2).bind fun bt139 => ((rational_Mul.f a1_0 a1_1 a1_2 a2_0 a2_1 a2_2).bind fun bt144 => (if t127 = 0 then (if bt129.2.2.2 = 0 then (if bt134.2.2.2 = 0 then (if bt139.2.2.2 = 0 then (if bt144.2.2.2 = 0 then ((rational_Compare.f t124 t125 t126 t116 t117 t118).bind fun t149 => (if t149 = t120 then ((rational_Compare.f bt129.1 bt129.2.1 bt129.2.2.1 bt134.1 bt134.2.1 bt134.2.2.1).bind fun t150 => (if t150 = t120 then (if t108 = true then (if a2_0 = true then (some true) else (if (a2_0 == t116 && (a2_1.toList == t117.toList && (a2_2.toList == t118.toList))) = true then (some true) else ((rational_Compare.f bt139.1 bt139.2.1 bt139.2.2.1 bt144.1 bt144.2.1 bt144.2.2.1).bind fun t151 => (some (t151 == t120))))) else (none)) else (none))) else (none))) else (none)) else (none)) else (none)) else (none)) else (none)))))) = some r := H
              have A165 := Aside0.mk A1650
              clear A1650
              replace H := Option.bind_eq_some_iff.mp H
              obtain ⟨⟨t129, t130, t131, t132⟩, A1660, H⟩ := H
              replace H : ((rational_Add.f a1_0 a1_1 a1_2 a2_0 a2_1 a2_2).bind fun bt134 => ((rational_Mul.f a0_0 a0_1 a0_2 a2_0 a2_1 a2_2).bind fun bt139 => ((rational_Mul.f a1_0 a1_1 a1_2 a2_0 a2_1 a2_2).bind fun bt144 => (if t127 = 0 then (if t132 = 0 then (if bt134.2.2.2 = 0 then (if bt139.2.2.2 = 0 then (if bt144.2.2.2 = 0 then ((rational_Compare.f t124 t125 t126 t116 t117 t118).bind fun t149 => (if t149 = t120 then ((rational_Compare.f t129 t130 t131 bt134.1 bt134.2.1 bt134.2.2.1).bind fun t150 => (if t150 = t120 then (if t108 = true then (if a2_0 = true then (some true) else (if (a2_0 == t116 && (a2_1.toList == t117.toList && (a2_2.toList == t118.toList))) = true then (some true) else ((rational_Compare.f bt139.1 bt139.2.1 bt139.2.2.1 bt144.1 bt144.2.1 bt144.2.2.1).bind fun t151 => (some (t151 == t120))))) else (none)) else (none))) else (none))) else (none)) else (none)) else (none)) else (none)) else (none))))) = some r := H
              have A166 := Aside0.mk A1660
              clear A1660
              replace H := Option.bind_eq_some_iff.mp H
              obtain ⟨⟨t134, t135, t136, t137⟩, A1670, H⟩ := H
              replace H : ((rational_Mul.f a0_0 a0_1 a0_2 a2_0 a2_1 a2_2).bind fun bt139 => ((rational_Mul.f a1_0 a1_1 a1_2 a2_0 a2_1 a2_2).bind fun bt144 => (if t127 = 0 then (if t132 = 0 then (if t137 = 0 then (if bt139.2.2.2 = 0 then (if bt144.2.2.2 = 0 then ((rational_Compare.f t124 t125 t126 t116 t117 t118).bind fun t149 => (if t149 = t120 then ((rational_Compare.f t129 t130 t131 t134 t135 t136).bind fun t150 => (if t150 = t120 then (if t108 = true then (if a2_0 = true then (some true) else (if (a2_0 == t116 && (a2_1.toList == t117.toList && (a2_2.toList == t118.toList))) = true then (some true) else ((rational_Compare.f bt139.1 bt139.2.1 bt139.2.2.1 bt144.1 bt144.2.1 bt144.2.2.1).bind fun t151 => (some (t151 == t120))))) else (none)) else (none))) else (none))) else (none)) else (none)) else (none)) else (none)) else (none)))) = some r := H
              have A167 := Aside0.mk A1670
              clear A1670
              replace H := Option.bind_eq_some_iff.mp H
              obtain ⟨⟨t139, t140, t141, t142⟩, A1680, H⟩ := H
              replace H : ((rational_Mul.f a1_0 a1_1 a1_2 a2_0 a2_1 a2_2).bind fun bt144 => (if t127 = 0 then (if t132 = 0 then (if t137 = 0 then (if t142 = 0 then (if bt144.2.2.2 = 0 then ((rational_Compare.f t124 t125 t126 t116 t117 t118).bind fun t149 => (if t149 = t120 then ((rational_Compare.f t129 t130 t131 t134 t135 t136).bind fun t150 => (if t150 = t120 then (if t108 = true then (if a2_0 = true then (some true) else (if (a2_0 == t116 && (a2_1.toList == t117.toList && (a2_2.toList == t118.toList))) = true then (some true) else ((rational_Compare.f t139 t140 t141 bt144.1 bt144.2.1 bt144.2.2.1).bind fun t151 => (some (t151 == t120))))) else (none)) else (none))) else (none))) else (none)) else (none)) else (none)) else (none)) else (none))) = some r := H
              have A168 := Aside0.mk A1680
              clear A1680
              replace H := Option.bind_eq_some_iff.mp H
              obtain ⟨⟨t144, t145, t146, t147⟩, A1690, H⟩ := H
              replace H : (if t127 = 0 then (if t132 = 0 then (if t137 = 0 then (if t142 = 0 then (if t147 = 0 then ((rational_Compare.f t124 t125 t126 t116 t117 t118).bind fun t149 => (if t149 = t120 then ((rational_Compare.f t129 t130 t131 t134 t135 t136).bind fun t150 => (if t150 = t120 then (if t108 = true then (if a2_0 = true then (some true) else (if (a2_0 == t116 && (a2_1.toList == t117.toList && (a2_2.toList == t118.toList))) = true then (some true) else ((rational_Compare.f t139 t140 t141 t144 t145 t146).bind fun t151 => (some (t151 == t120))))) else (none)) else (none))) else (none))) else (none)) else (none)) else (none)) else (none)) else (none)) = some r := H
              have A169 := Aside0.mk A1690
              clear A1690
              by_cases c170 : t127 = 0
              · rw [if_pos c170] at H
                have c170b0 : (t127 == 0) = true := beq_iff_eq.mpr c170
                have c170b1 : (t127 != 0) = false := bne_eq_false_iff_eq.mpr c170
                clear c170
                by_cases c171 : t132 = 0
                · rw [if_pos c171] at H
                  have c171b0 : (t132 == 0) = true := beq_iff_eq.mpr c171
                  have c171b1 : (t132 != 0) = false := bne_eq_false_iff_eq.mpr c171
                  clear c171
                  by_cases c172 : t137 = 0
                  · rw [if_pos c172] at H
                    have c172b0 : (t137 == 0) = true := beq_iff_eq.mpr c172
                    have c172b1 : (t137 != 0) = false := bne_eq_false_iff_eq.mpr c172
                    clear c172
                    by_cases c173 : t142 = 0
                    · rw [if_pos c173] at H
                      have c173b0 : (t142 == 0) = true := beq_iff_eq.mpr c173
                      have c173b1 : (t142 != 0) = false := bne_eq_false_iff_eq.mpr c173
                      clear c173
                      by_cases c174 : t147 = 0
                      · rw [if_pos c174] at H
                        have c174b0 : (t147 == 0) = true := beq_iff_eq.mpr c174
                        have c174b1 : (t147 != 0) = false := bne_eq_false_iff_eq.mpr c174
                        clear c174
                        replace H := Option.bind_eq_some_iff.mp H
                        obtain ⟨t149, A1750, H⟩ := H
                        replace H : (if t149 = t120 then ((rational_Compare.f t129 t130 t131 t134 t135 t136).bind fun t150 => (if t150 = t120 then (if t108 = true then (if a2_0 = true then (some true) else (if (a2_0 == t116 && (a2_1.toList == t117.toList && (a2_2.toList == t118.toList))) = true then (some true) else ((rational_Compare.f t139 t140 t141 t144 t145 t146).bind fun t151 => (some (t151 == t120))))) else (none)) else (none))) else (none)) = some r := H
                        have A175 := Aside0.mk A1750
                        clear A1750
                        by_cases c176 : t149 = t120
                        · rw [if_pos c176] at H
                          have c176b0 : (t149 == t120) = true := beq_iff_eq.mpr c176
                          have c176b1 : (t149 != t120) = false := bne_eq_false_iff_eq.mpr c176
                          clear c176
                          replace H := Option.bind_eq_some_iff.mp H
                          obtain ⟨t150, A1770, H⟩ := H
                          replace H : (if t150 = t120 then (if t108 = true then (if a2_0 = true then (some true) else (if (a2_0 == t116 && (a2_1.toList == t117.toList && (a2_2.toList == t118.toList))) = true then (some true) else ((rational_Compare.f t139 t140 t141 t144 t145 t146).bind fun t151 => (some (t151 == t120))))) else (none)) else (none)) = some r := H
                          have A177 := Aside0.mk A1770
                          clear A1770
                          by_cases c178 : t150 = t120
                          · rw [if_pos c178] at H
                            have c178b0 : (t150 == t120) = true := beq_iff_eq.mpr c178
                            have c178b1 : (t150 != t120) = false := bne_eq_false_iff_eq.mpr c178
                            clear c178
                            by_cases c179 : t108 = true
                            · subst c179
                              rw [if_pos rfl] at H
                              by_cases c180 : a2_0 = true
                              · subst c180
                                rw [if_pos rfl] at H
                                obtain rfl := Option.some.inj H
                                have hnb181 := NB105_106.out
                                have hnc181 := NB106_105.out
                                have hnb182 := NB105_107.out
                                have hnc182 := NB107_105.out
                                have hnb183 := NB105_119.out
                                have hnc183 := NB119_105.out
                                obtain ⟨hcz184_0, hcz184_1, hcz184_2⟩ := blk3 BK105.out
                                have hfz184_0 := blk_frozen BK105.out 0
                                have hfz184_1 := blk_frozen BK105.out 1
                                have hfz184_2 := blk_frozen BK105.out 2
                                have hnb185 := NB106_107.out
                                have hnc185 := NB107_106.out
                                have hnb186 := NB106_119.out
                                have hnc186 := NB119_106.out
                                obtain ⟨hcz187_0, hcz187_1, hcz187_2⟩ := blk3 BK106.out
                                have hfz187_0 := blk_frozen BK106.out 0
                                have hfz187_1 := blk_frozen BK106.out 1
                                have hfz187_2 := blk_frozen BK106.out 2
                                go_wp2_with (first | ((with_reducible refine gate_callee (f := 27) rfl ?_); refine goesL_ (some 90) rfl rfl Tryz.func27 (by kernel_rfl) rfl #[.agg #[.bool a0_0, .string a0_1, .string a0_2], .agg #[.bool a1_0, .string a1_1, .string a1_2]] rfl (by (try simp only [List.map_toArray, List.map_cons, List.map_nil]); first | done | rfl | (simp only [List.length_drop, List.length_take]; rfl)) ?_; (with_reducible refine (rational_Sub.calls a0_0 a0_1 a0_2 a1_0 a1_1 a1_2 t124 t125 t126 t127 _ ?side1 A165.out).mono ?_); (case side1 => exact Laid.below HLaid.out (BK HB.out)); rintro e w188 ⟨rfl, hb⟩; refine ⟨_, rfl, ?_⟩; have n0_ := Aside0.mk (blk_below (blk_later BK105.out) hb); have n1_ := Aside0.mk (blk_below (blk_later BK106.out) hb); have n2_ := Aside0.mk (blk_below (blk_later BK107.out) hb); have n3_ := Aside0.mk (blk_below (blk_later BK119.out) hb); have n4_ := Aside0.mk (below_step (BK HB.out) hb); clear BK105; clear BK106; clear BK107; clear BK119; clear HB; have BK105 := n0_; have BK106 := n1_; have BK107 := n2_; have BK119 := n3_; have HB := n4_; clear n0_ n1_ n2_ n3_ n4_; (try clear hb)) | ((with_reducible refine gate_dst (N := 11) rfl ?_); refine box_event ?hg (N := 11) ?hd (cs := #[.bool false, .string (⟨#[]⟩ : ByteArray), .string (⟨#[]⟩ : ByteArray)]) (t := 24) ?hr ?_; (case hd => rfl); (case hg => rfl); (case hr => first | (go_simp; done) | (go_simp; rfl)); intro gb128 hg w189 hbox hb; have n0_ := Aside0.mk (blk_below (blk_later BK105.out) hb); have n1_ := Aside0.mk (blk_below (blk_later BK106.out) hb); have n2_ := Aside0.mk (blk_below (blk_later BK107.out) hb); have n3_ := Aside0.mk (blk_below (blk_later BK119.out) hb); have n4_ := Aside0.mk (below_step (BK HB.out) hb); have n5_ := Aside0.mk (hbox); have n6_ := Aside0.mk ((by rw [hg]; exact (below_size (BK HB.out)) : w.heap.size ≤ gb128)); have n7_ := Aside0.mk ((by rw [hg]; exact (below_size (BK HB.out)) : w.heap.size ≤ gb128)); have n8_ := Aside0.mk ((by rw [hg]; exact Nat.ne_of_lt (blk_lt (blk_later BK105.out)) : gb105 ≠ gb128)); have n9_ := Aside0.mk ((by rw [hg]; exact Nat.ne_of_gt (blk_lt (blk_later BK105.out)) : gb128 ≠ gb105)); have n10_ := Aside0.mk ((by rw [hg]; exact Nat.ne_of_lt (blk_lt (blk_later BK106.out)) : gb106 ≠ gb128)); have n11_ := Aside0.mk ((by rw [hg]; exact Nat.ne_of_gt (blk_lt (blk_later BK106.out)) : gb128 ≠ gb106)); have n12_ := Aside0.mk ((by rw [hg]; exact Nat.ne_of_lt (blk_lt (blk_later BK107.out)) : gb107 ≠ gb128)); have n13_ := Aside0.mk ((by rw [hg]; exact Nat.ne_of_gt (blk_lt (blk_later BK107.out)) : gb128 ≠ gb107)); have n14_ := Aside0.mk ((by rw [hg]; exact Nat.ne_of_lt (blk_lt (blk_later BK119.out)) : gb119 ≠ gb128)); have n15_ := Aside0.mk ((by rw [hg]; exact Nat.ne_of_gt (blk_lt (blk_later BK119.out)) : gb128 ≠ gb119)); clear BK105; clear BK106; clear BK107; clear BK119; clear HB; have BK105 := n0_; have BK106 := n1_; have BK107 := n2_; have BK119 := n3_; have HB := n4_; have BK128 := n5_; have GW128 := n6_; have GE128 := n7_; have NB105_128 := n8_; have NB128_105 := n9_; have NB106_128 := n10_; have NB128_106 := n11_; have NB107_128 := n12_; have NB128_107 := n13_; have NB119_128 := n14_; have NB128_119 := n15_; clear n0_ n1_ n2_ n3_ n4_ n5_ n6_ n7_ n8_ n9_ n10_ n11_ n12_ n13_ n14_ n15_; clear hb hbox hg; have hnb190 := NB128_105.out; have hnc190 := NB105_128.out; have hnb191 := NB128_106.out; have hnc191 := NB106_128.out; have hnb192 := NB128_107.out; have hnc192 := NB107_128.out; have hnb193 := NB128_119.out; have hnc193 := NB119_128.out; obtain ⟨hcz194_0, hcz194_1, hcz194_2⟩ := blk3 BK128.out; have hfz194_0 := blk_frozen BK128.out 0; have hfz194_1 := blk_frozen BK128.out 1; have hfz194_2 := blk_frozen BK128.out 2; obtain ⟨hcz195_0, hcz195_1, hcz195_2⟩ := blk3 BK105.out; have hfz195_0 := blk_frozen BK105.out 0; have hfz195_1 := blk_frozen BK105.out 1; have hfz195_2 := blk_frozen BK105.out 2; have hnb196 := NB107_119.out; have hnc196 := NB119_107.out; obtain ⟨hcz197_0, hcz197_1, hcz197_2⟩ := blk3 BK107.out; have hfz197_0 := blk_frozen BK107.out 0; have hfz197_1 := blk_frozen BK107.out 1; have hfz197_2 := blk_frozen BK107.out 2) | ((with_reducible refine gate_callee (f := 25) rfl ?_); refine goesL_ (some 96) rfl rfl Tryz.func25 (by kernel_rfl) rfl #[.agg #[.bool a0_0, .string a0_1, .string a0_2], .agg #[.bool true, .string a2_1, .string a2_2]] rfl (by (try simp only [List.map_toArray, List.map_cons, List.map_nil]); first | done | rfl | (simp only [List.length_drop, List.length_take]; rfl)) ?_; (with_reducible refine (rational_Add.calls a0_0 a0_1 a0_2 true a2_1 a2_2 t129 t130 t131 t132 _ ?side1 A166.out).mono ?_); (case side1 => exact Laid.below HLaid.out (BKS HB.out GE128.out)); rintro e w198 ⟨rfl, hb⟩; refine ⟨_, rfl, ?_⟩; have n0_ := Aside0.mk (blk_below (far3 BK105.out NB105_128.out) hb); have n1_ := Aside0.mk (blk_below (far3 BK106.out NB106_128.out) hb); have n2_ := Aside0.mk (blk_below (far3 BK107.out NB107_128.out) hb); have n3_ := Aside0.mk (blk_below (far3 BK119.out NB119_128.out) hb); have n4_ := Aside0.mk (blk_below (g := gb128) (o := .cells #[.bool t124, .string t125, .string t126] 24 (0, 0)) (by (with_reducible repeat (first | refine blk_drewN ?_ _ | refine blk_drew ?_ | refine blk_alloc ?_ _)); refine blk_put (cs := #[.bool t124, .string t125, .string (⟨#[]⟩ : ByteArray)]) ?_ 2 _ rfl; (with_reducible repeat (first | refine blk_drewN ?_ _ | refine blk_drew ?_ | refine blk_alloc ?_ _)); refine blk_put (cs := #[.bool t124, .string (⟨#[]⟩ : ByteArray), .string (⟨#[]⟩ : ByteArray)]) ?_ 1 _ rfl; (with_reducible repeat (first | refine blk_drewN ?_ _ | refine blk_drew ?_ | refine blk_alloc ?_ _)); refine blk_put (cs := #[.bool false, .string (⟨#[]⟩ : ByteArray), .string (⟨#[]⟩ : ByteArray)]) ?_ 0 _ rfl; (with_reducible repeat (first | refine blk_drewN ?_ _ | refine blk_drew ?_ | refine blk_alloc ?_ _)); exact BK128.out) hb); have n5_ := Aside0.mk (below_step (BKS HB.out GE128.out) hb); clear BK105; clear BK106; clear BK107; clear BK119; clear BK128; clear HB; have BK105 := n0_; have BK106 := n1_; have BK107 := n2_; have BK119 := n3_; have BK128 := n4_; have HB := n5_; clear n0_ n1_ n2_ n3_ n4_ n5_; (try clear hb)) | ((with_reducible refine gate_dst (N := 13) rfl ?_); refine box_event ?hg (N := 13) ?hd (cs := #[.bool false, .string (⟨#[]⟩ : ByteArray), .string (⟨#[]⟩ : ByteArray)]) (t := 24) ?hr ?_; (case hd => rfl); (case hg => rfl); (case hr => first | (go_simp; done) | (go_simp; rfl)); intro gb133 hg w199 hbox hb; have n0_ := Aside0.mk (blk_below (blk_later BK105.out) hb); have n1_ := Aside0.mk (blk_below (blk_later BK106.out) hb); have n2_ := Aside0.mk (blk_below (blk_later BK107.out) hb); have n3_ := Aside0.mk (blk_below (blk_later BK119.out) hb); have n4_ := Aside0.mk (blk_below (blk_later BK128.out) hb); have n5_ := Aside0.mk (below_step (BK HB.out) hb); have n6_ := Aside0.mk (hbox); have n7_ := Aside0.mk ((by rw [hg]; exact (below_size (BK HB.out)) : w.heap.size ≤ gb133)); have n8_ := Aside0.mk ((by rw [hg]; exact (below_size (BK HB.out)) : w.heap.size ≤ gb133)); have n9_ := Aside0.mk ((by rw [hg]; exact Nat.ne_of_lt (blk_lt (blk_later BK105.out)) : gb105 ≠ gb133)); have n10_ := Aside0.mk ((by rw [hg]; exact Nat.ne_of_gt (blk_lt (blk_later BK105.out)) : gb133 ≠ gb105)); have n11_ := Aside0.mk ((by rw [hg]; exact Nat.ne_of_lt (blk_lt (blk_later BK106.out)) : gb106 ≠ gb133)); have n12_ := Aside0.mk ((by rw [hg]; exact Nat.ne_of_gt (blk_lt (blk_later BK106.out)) : gb133 ≠ gb106)); have n13_ := Aside0.mk ((by rw [hg]; exact Nat.ne_of_lt (blk_lt (blk_later BK107.out)) : gb107 ≠ gb133)); have n14_ := Aside0.mk ((by rw [hg]; exact Nat.ne_of_gt (blk_lt (blk_later BK107.out)) : gb133 ≠ gb107)); have n15_ := Aside0.mk ((by rw [hg]; exact Nat.ne_of_lt (blk_lt (blk_later BK119.out)) : gb119 ≠ gb133)); have n16_ := Aside0.mk ((by rw [hg]; exact Nat.ne_of_gt (blk_lt (blk_later BK119.out)) : gb133 ≠ gb119)); have n17_ := Aside0.mk ((by rw [hg]; exact Nat.ne_of_lt (blk_lt (blk_later BK128.out)) : gb128 ≠ gb133)); have n18_ := Aside0.mk ((by rw [hg]; exact Nat.ne_of_gt (blk_lt (blk_later BK128.out)) : gb133 ≠ gb128)); clear BK105; clear BK106; clear BK107; clear BK119; clear BK128; clear HB; have BK105 := n0_; have BK106 := n1_; have BK107 := n2_; have BK119 := n3_; have BK128 := n4_; have HB := n5_; have BK133 := n6_; have GW133 := n7_; have GE133 := n8_; have NB105_133 := n9_; have NB133_105 := n10_; have NB106_133 := n11_; have NB133_106 := n12_; have NB107_133 := n13_; have NB133_107 := n14_; have NB119_133 := n15_; have NB133_119 := n16_; have NB128_133 := n17_; have NB133_128 := n18_; clear n0_ n1_ n2_ n3_ n4_ n5_ n6_ n7_ n8_ n9_ n10_ n11_ n12_ n13_ n14_ n15_ n16_ n17_ n18_; clear hb hbox hg; have hnb200 := NB133_105.out; have hnc200 := NB105_133.out; have hnb201 := NB133_106.out; have hnc201 := NB106_133.out; have hnb202 := NB133_107.out; have hnc202 := NB107_133.out; have hnb203 := NB133_119.out; have hnc203 := NB119_133.out; have hnb204 := NB133_128.out; have hnc204 := NB128_133.out; obtain ⟨hcz205_0, hcz205_1, hcz205_2⟩ := blk3 BK133.out; have hfz205_0 := blk_frozen BK133.out 0; have hfz205_1 := blk_frozen BK133.out 1; have hfz205_2 := blk_frozen BK133.out 2; obtain ⟨hcz206_0, hcz206_1, hcz206_2⟩ := blk3 BK106.out; have hfz206_0 := blk_frozen BK106.out 0; have hfz206_1 := blk_frozen BK106.out 1; have hfz206_2 := blk_frozen BK106.out 2; obtain ⟨hcz207_0, hcz207_1, hcz207_2⟩ := blk3 BK107.out; have hfz207_0 := blk_frozen BK107.out 0; have hfz207_1 := blk_frozen BK107.out 1; have hfz207_2 := blk_frozen BK107.out 2) | ((with_reducible refine gate_callee (f := 25) rfl ?_); refine goesL_ (some 102) rfl rfl Tryz.func25 (by kernel_rfl) rfl #[.agg #[.bool a1_0, .string a1_1, .string a1_2], .agg #[.bool true, .string a2_1, .string a2_2]] rfl (by (try simp only [List.map_toArray, List.map_cons, List.map_nil]); first | done | rfl | (simp only [List.length_drop, List.length_take]; rfl)) ?_; (with_reducible refine (rational_Add.calls a1_0 a1_1 a1_2 true a2_1 a2_2 t134 t135 t136 t137 _ ?side1 A167.out).mono ?_); (case side1 => exact Laid.below HLaid.out (BKS HB.out GE133.out)); rintro e w208 ⟨rfl, hb⟩; refine ⟨_, rfl, ?_⟩; have n0_ := Aside0.mk (blk_below (far3 BK105.out NB105_133.out) hb); have n1_ := Aside0.mk (blk_below (far3 BK106.out NB106_133.out) hb); have n2_ := Aside0.mk (blk_below (far3 BK107.out NB107_133.out) hb); have n3_ := Aside0.mk (blk_below (far3 BK119.out NB119_133.out) hb); have n4_ := Aside0.mk (blk_below (far3 BK128.out NB128_133.out) hb); have n5_ := Aside0.mk (blk_below (g := gb133) (o := .cells #[.bool t129, .string t130, .string t131] 24 (0, 0)) (by (with_reducible repeat (first | refine blk_drewN ?_ _ | refine blk_drew ?_ | refine blk_alloc ?_ _)); refine blk_put (cs := #[.bool t129, .string t130, .string (⟨#[]⟩ : ByteArray)]) ?_ 2 _ rfl; (with_reducible repeat (first | refine blk_drewN ?_ _ | refine blk_drew ?_ | refine blk_alloc ?_ _)); refine blk_put (cs := #[.bool t129, .string (⟨#[]⟩ : ByteArray), .string (⟨#[]⟩ : ByteArray)]) ?_ 1 _ rfl; (with_reducible repeat (first | refine blk_drewN ?_ _ | refine blk_drew ?_ | refine blk_alloc ?_ _)); refine blk_put (cs := #[.bool false, .string (⟨#[]⟩ : ByteArray), .string (⟨#[]⟩ : ByteArray)]) ?_ 0 _ rfl; (with_reducible repeat (first | refine blk_drewN ?_ _ | refine blk_drew ?_ | refine blk_alloc ?_ _)); exact BK133.out) hb); have n6_ := Aside0.mk (below_step (BKS HB.out GE133.out) hb); clear BK105; clear BK106; clear BK107; clear BK119; clear BK128; clear BK133; clear HB; have BK105 := n0_; have BK106 := n1_; have BK107 := n2_; have BK119 := n3_; have BK128 := n4_; have BK133 := n5_; have HB := n6_; clear n0_ n1_ n2_ n3_ n4_ n5_ n6_; (try clear hb)) | ((with_reducible refine gate_dst (N := 15) rfl ?_); refine box_event ?hg (N := 15) ?hd (cs := #[.bool false, .string (⟨#[]⟩ : ByteArray), .string (⟨#[]⟩ : ByteArray)]) (t := 24) ?hr ?_; (case hd => rfl); (case hg => rfl); (case hr => first | (go_simp; done) | (go_simp; rfl)); intro gb138 hg w209 hbox hb; have n0_ := Aside0.mk (blk_below (blk_later BK105.out) hb); have n1_ := Aside0.mk (blk_below (blk_later BK106.out) hb); have n2_ := Aside0.mk (blk_below (blk_later BK107.out) hb); have n3_ := Aside0.mk (blk_below (blk_later BK119.out) hb); have n4_ := Aside0.mk (blk_below (blk_later BK128.out) hb); have n5_ := Aside0.mk (blk_below (blk_later BK133.out) hb); have n6_ := Aside0.mk (below_step (BK HB.out) hb); have n7_ := Aside0.mk (hbox); have n8_ := Aside0.mk ((by rw [hg]; exact (below_size (BK HB.out)) : w.heap.size ≤ gb138)); have n9_ := Aside0.mk ((by rw [hg]; exact (below_size (BK HB.out)) : w.heap.size ≤ gb138)); have n10_ := Aside0.mk ((by rw [hg]; exact Nat.ne_of_lt (blk_lt (blk_later BK105.out)) : gb105 ≠ gb138)); have n11_ := Aside0.mk ((by rw [hg]; exact Nat.ne_of_gt (blk_lt (blk_later BK105.out)) : gb138 ≠ gb105)); have n12_ := Aside0.mk ((by rw [hg]; exact Nat.ne_of_lt (blk_lt (blk_later BK106.out)) : gb106 ≠ gb138)); have n13_ := Aside0.mk ((by rw [hg]; exact Nat.ne_of_gt (blk_lt (blk_later BK106.out)) : gb138 ≠ gb106)); have n14_ := Aside0.mk ((by rw [hg]; exact Nat.ne_of_lt (blk_lt (blk_later BK107.out)) : gb107 ≠ gb138)); have n15_ := Aside0.mk ((by rw [hg]; exact Nat.ne_of_gt (blk_lt (blk_later BK107.out)) : gb138 ≠ gb107)); have n16_ := Aside0.mk ((by rw [hg]; exact Nat.ne_of_lt (blk_lt (blk_later BK119.out)) : gb119 ≠ gb138)); have n17_ := Aside0.mk ((by rw [hg]; exact Nat.ne_of_gt (blk_lt (blk_later BK119.out)) : gb138 ≠ gb119)); have n18_ := Aside0.mk ((by rw [hg]; exact Nat.ne_of_lt (blk_lt (blk_later BK128.out)) : gb128 ≠ gb138)); have n19_ := Aside0.mk ((by rw [hg]; exact Nat.ne_of_gt (blk_lt (blk_later BK128.out)) : gb138 ≠ gb128)); have n20_ := Aside0.mk ((by rw [hg]; exact Nat.ne_of_lt (blk_lt (blk_later BK133.out)) : gb133 ≠ gb138)); have n21_ := Aside0.mk ((by rw [hg]; exact Nat.ne_of_gt (blk_lt (blk_later BK133.out)) : gb138 ≠ gb133)); clear BK105; clear BK106; clear BK107; clear BK119; clear BK128; clear BK133; clear HB; have BK105 := n0_; have BK106 := n1_; have BK107 := n2_; have BK119 := n3_; have BK128 := n4_; have BK133 := n5_; have HB := n6_; have BK138 := n7_; have GW138 := n8_; have GE138 := n9_; have NB105_138 := n10_; have NB138_105 := n11_; have NB106_138 := n12_; have NB138_106 := n13_; have NB107_138 := n14_; have NB138_107 := n15_; have NB119_138 := n16_; have NB138_119 := n17_; have NB128_138 := n18_; have NB138_128 := n19_; have NB133_138 := n20_; have NB138_133 := n21_; clear n0_ n1_ n2_ n3_ n4_ n5_ n6_ n7_ n8_ n9_ n10_ n11_ n12_ n13_ n14_ n15_ n16_ n17_ n18_ n19_ n20_ n21_; clear hb hbox hg; have hnb210 := NB138_105.out; have hnc210 := NB105_138.out; have hnb211 := NB138_106.out; have hnc211 := NB106_138.out; have hnb212 := NB138_107.out; have hnc212 := NB107_138.out; have hnb213 := NB138_119.out; have hnc213 := NB119_138.out; have hnb214 := NB138_128.out; have hnc214 := NB128_138.out; have hnb215 := NB138_133.out; have hnc215 := NB133_138.out; obtain ⟨hcz216_0, hcz216_1, hcz216_2⟩ := blk3 BK138.out; have hfz216_0 := blk_frozen BK138.out 0; have hfz216_1 := blk_frozen BK138.out 1; have hfz216_2 := blk_frozen BK138.out 2; obtain ⟨hcz217_0, hcz217_1, hcz217_2⟩ := blk3 BK105.out; have hfz217_0 := blk_frozen BK105.out 0; have hfz217_1 := blk_frozen BK105.out 1; have hfz217_2 := blk_frozen BK105.out 2; obtain ⟨hcz218_0, hcz218_1, hcz218_2⟩ := blk3 BK107.out; have hfz218_0 := blk_frozen BK107.out 0; have hfz218_1 := blk_frozen BK107.out 1; have hfz218_2 := blk_frozen BK107.out 2) | ((with_reducible refine gate_callee (f := 29) rfl ?_); refine goesL_ (some 108) rfl rfl Tryz.func29 (by kernel_rfl) rfl #[.agg #[.bool a0_0, .string a0_1, .string a0_2], .agg #[.bool true, .string a2_1, .string a2_2]] rfl (by (try simp only [List.map_toArray, List.map_cons, List.map_nil]); first | done | rfl | (simp only [List.length_drop, List.length_take]; rfl)) ?_; (with_reducible refine (rational_Mul.calls a0_0 a0_1 a0_2 true a2_1 a2_2 t139 t140 t141 t142 _ ?side1 A168.out).mono ?_); (case side1 => exact Laid.below HLaid.out (BKS HB.out GE138.out)); rintro e w219 ⟨rfl, hb⟩; refine ⟨_, rfl, ?_⟩; have n0_ := Aside0.mk (blk_below (far3 BK105.out NB105_138.out) hb); have n1_ := Aside0.mk (blk_below (far3 BK106.out NB106_138.out) hb); have n2_ := Aside0.mk (blk_below (far3 BK107.out NB107_138.out) hb); have n3_ := Aside0.mk (blk_below (far3 BK119.out NB119_138.out) hb); have n4_ := Aside0.mk (blk_below (far3 BK128.out NB128_138.out) hb); have n5_ := Aside0.mk (blk_below (far3 BK133.out NB133_138.out) hb); have n6_ := Aside0.mk (blk_below (g := gb138) (o := .cells #[.bool t134, .string t135, .string t136] 24 (0, 0)) (by (with_reducible repeat (first | refine blk_drewN ?_ _ | refine blk_drew ?_ | refine blk_alloc ?_ _)); refine blk_put (cs := #[.bool t134, .string t135, .string (⟨#[]⟩ : ByteArray)]) ?_ 2 _ rfl; (with_reducible repeat (first | refine blk_drewN ?_ _ | refine blk_drew ?_ | refine blk_alloc ?_ _)); refine blk_put (cs := #[.bool t134, .string (⟨#[]⟩ : ByteArray), .string (⟨#[]⟩ : ByteArray)]) ?_ 1 _ rfl; (with_reducible repeat (first | refine blk_drewN ?_ _ | refine blk_drew ?_ | refine blk_alloc ?_ _)); refine blk_put (cs := #[.bool false, .string (⟨#[]⟩ : ByteArray), .string (⟨#[]⟩ : ByteArray)]) ?_ 0 _ rfl; (with_reducible repeat (first | refine blk_drewN ?_ _ | refine blk_drew ?_ | refine blk_alloc ?_ _)); exact BK138.out) hb); have n7_ := Aside0.mk (below_step (BKS HB.out GE138.out) hb); clear BK105; clear BK106; clear BK107; clear BK119; clear BK128; clear BK133; clear BK138; clear HB; have BK105 := n0_; have BK106 := n1_; have BK107 := n2_; have BK119 := n3_; have BK128 := n4_; have BK133 := n5_; have BK138 := n6_; have HB := n7_; clear n0_ n1_ n2_ n3_ n4_ n5_ n6_ n7_; (try clear hb)) | ((with_reducible refine gate_dst (N := 17) rfl ?_); refine box_event ?hg (N := 17) ?hd (cs := #[.bool false, .string (⟨#[]⟩ : ByteArray), .string (⟨#[]⟩ : ByteArray)]) (t := 24) ?hr ?_; (case hd => rfl); (case hg => rfl); (case hr => first | (go_simp; done) | (go_simp; rfl)); intro gb143 hg w220 hbox hb; have n0_ := Aside0.mk (blk_below (blk_later BK105.out) hb); have n1_ := Aside0.mk (blk_below (blk_later BK106.out) hb); have n2_ := Aside0.mk (blk_below (blk_later BK107.out) hb); have n3_ := Aside0.mk (blk_below (blk_later BK119.out) hb); have n4_ := Aside0.mk (blk_below (blk_later BK128.out) hb); have n5_ := Aside0.mk (blk_below (blk_later BK133.out) hb); have n6_ := Aside0.mk (blk_below (blk_later BK138.out) hb); have n7_ := Aside0.mk (below_step (BK HB.out) hb); have n8_ := Aside0.mk (hbox); have n9_ := Aside0.mk ((by rw [hg]; exact (below_size (BK HB.out)) : w.heap.size ≤ gb143)); have n10_ := Aside0.mk ((by rw [hg]; exact (below_size (BK HB.out)) : w.heap.size ≤ gb143)); have n11_ := Aside0.mk ((by rw [hg]; exact Nat.ne_of_lt (blk_lt (blk_later BK105.out)) : gb105 ≠ gb143)); have n12_ := Aside0.mk ((by rw [hg]; exact Nat.ne_of_gt (blk_lt (blk_later BK105.out)) : gb143 ≠ gb105)); have n13_ := Aside0.mk ((by rw [hg]; exact Nat.ne_of_lt (blk_lt (blk_later BK106.out)) : gb106 ≠ gb143)); have n14_ := Aside0.mk ((by rw [hg]; exact Nat.ne_of_gt (blk_lt (blk_later BK106.out)) : gb143 ≠ gb106)); have n15_ := Aside0.mk ((by rw [hg]; exact Nat.ne_of_lt (blk_lt (blk_later BK107.out)) : gb107 ≠ gb143)); have n16_ := Aside0.mk ((by rw [hg]; exact Nat.ne_of_gt (blk_lt (blk_later BK107.out)) : gb143 ≠ gb107)); have n17_ := Aside0.mk ((by rw [hg]; exact Nat.ne_of_lt (blk_lt (blk_later BK119.out)) : gb119 ≠ gb143)); have n18_ := Aside0.mk ((by rw [hg]; exact Nat.ne_of_gt (blk_lt (blk_later BK119.out)) : gb143 ≠ gb119)); have n19_ := Aside0.mk ((by rw [hg]; exact Nat.ne_of_lt (blk_lt (blk_later BK128.out)) : gb128 ≠ gb143)); have n20_ := Aside0.mk ((by rw [hg]; exact Nat.ne_of_gt (blk_lt (blk_later BK128.out)) : gb143 ≠ gb128)); have n21_ := Aside0.mk ((by rw [hg]; exact Nat.ne_of_lt (blk_lt (blk_later BK133.out)) : gb133 ≠ gb143)); have n22_ := Aside0.mk ((by rw [hg]; exact Nat.ne_of_gt (blk_lt (blk_later BK133.out)) : gb143 ≠ gb133)); have n23_ := Aside0.mk ((by rw [hg]; exact Nat.ne_of_lt (blk_lt (blk_later BK138.out)) : gb138 ≠ gb143)); have n24_ := Aside0.mk ((by rw [hg]; exact Nat.ne_of_gt (blk_lt (blk_later BK138.out)) : gb143 ≠ gb138)); clear BK105; clear BK106; clear BK107; clear BK119; clear BK128; clear BK133; clear BK138; clear HB; have BK105 := n0_; have BK106 := n1_; have BK107 := n2_; have BK119 := n3_; have BK128 := n4_; have BK133 := n5_; have BK138 := n6_; have HB := n7_; have BK143 := n8_; have GW143 := n9_; have GE143 := n10_; have NB105_143 := n11_; have NB143_105 := n12_; have NB106_143 := n13_; have NB143_106 := n14_; have NB107_143 := n15_; have NB143_107 := n16_; have NB119_143 := n17_; have NB143_119 := n18_; have NB128_143 := n19_; have NB143_128 := n20_; have NB133_143 := n21_; have NB143_133 := n22_; have NB138_143 := n23_; have NB143_138 := n24_; clear n0_ n1_ n2_ n3_ n4_ n5_ n6_ n7_ n8_ n9_ n10_ n11_ n12_ n13_ n14_ n15_ n16_ n17_ n18_ n19_ n20_ n21_ n22_ n23_ n24_; clear hb hbox hg; have hnb221 := NB143_105.out; have hnc221 := NB105_143.out; have hnb222 := NB143_106.out; have hnc222 := NB106_143.out; have hnb223 := NB143_107.out; have hnc223 := NB107_143.out; have hnb224 := NB143_119.out; have hnc224 := NB119_143.out; have hnb225 := NB143_128.out; have hnc225 := NB128_143.out; have hnb226 := NB143_133.out; have hnc226 := NB133_143.out; have hnb227 := NB143_138.out; have hnc227 := NB138_143.out; obtain ⟨hcz228_0, hcz228_1, hcz228_2⟩ := blk3 BK143.out; have hfz228_0 := blk_frozen BK143.out 0; have hfz228_1 := blk_frozen BK143.out 1; have hfz228_2 := blk_frozen BK143.out 2; obtain ⟨hcz229_0, hcz229_1, hcz229_2⟩ := blk3 BK106.out; have hfz229_0 := blk_frozen BK106.out 0; have hfz229_1 := blk_frozen BK106.out 1; have hfz229_2 := blk_frozen BK106.out 2; obtain ⟨hcz230_0, hcz230_1, hcz230_2⟩ := blk3 BK107.out; have hfz230_0 := blk_frozen BK107.out 0; have hfz230_1 := blk_frozen BK107.out 1; have hfz230_2 := blk_frozen BK107.out 2) | ((with_reducible refine gate_callee (f := 29) rfl ?_); refine goesL_ (some 114) rfl rfl Tryz.func29 (by kernel_rfl) rfl #[.agg #[.bool a1_0, .string a1_1, .string a1_2], .agg #[.bool true, .string a2_1, .string a2_2]] rfl (by (try simp only [List.map_toArray, List.map_cons, List.map_nil]); first | done | rfl | (simp only [List.length_drop, List.length_take]; rfl)) ?_; (with_reducible refine (rational_Mul.calls a1_0 a1_1 a1_2 true a2_1 a2_2 t144 t145 t146 t147 _ ?side1 A169.out).mono ?_); (case side1 => exact Laid.below HLaid.out (BKS HB.out GE143.out)); rintro e w231 ⟨rfl, hb⟩; refine ⟨_, rfl, ?_⟩; have n0_ := Aside0.mk (blk_below (far3 BK105.out NB105_143.out) hb); have n1_ := Aside0.mk (blk_below (far3 BK106.out NB106_143.out) hb); have n2_ := Aside0.mk (blk_below (far3 BK107.out NB107_143.out) hb); have n3_ := Aside0.mk (blk_below (far3 BK119.out NB119_143.out) hb); have n4_ := Aside0.mk (blk_below (far3 BK128.out NB128_143.out) hb); have n5_ := Aside0.mk (blk_below (far3 BK133.out NB133_143.out) hb); have n6_ := Aside0.mk (blk_below (far3 BK138.out NB138_143.out) hb); have n7_ := Aside0.mk (blk_below (g := gb143) (o := .cells #[.bool t139, .string t140, .string t141] 24 (0, 0)) (by (with_reducible repeat (first | refine blk_drewN ?_ _ | refine blk_drew ?_ | refine blk_alloc ?_ _)); refine blk_put (cs := #[.bool t139, .string t140, .string (⟨#[]⟩ : ByteArray)]) ?_ 2 _ rfl; (with_reducible repeat (first | refine blk_drewN ?_ _ | refine blk_drew ?_ | refine blk_alloc ?_ _)); refine blk_put (cs := #[.bool t139, .string (⟨#[]⟩ : ByteArray), .string (⟨#[]⟩ : ByteArray)]) ?_ 1 _ rfl; (with_reducible repeat (first | refine blk_drewN ?_ _ | refine blk_drew ?_ | refine blk_alloc ?_ _)); refine blk_put (cs := #[.bool false, .string (⟨#[]⟩ : ByteArray), .string (⟨#[]⟩ : ByteArray)]) ?_ 0 _ rfl; (with_reducible repeat (first | refine blk_drewN ?_ _ | refine blk_drew ?_ | refine blk_alloc ?_ _)); exact BK143.out) hb); have n8_ := Aside0.mk (below_step (BKS HB.out GE143.out) hb); clear BK105; clear BK106; clear BK107; clear BK119; clear BK128; clear BK133; clear BK138; clear BK143; clear HB; have BK105 := n0_; have BK106 := n1_; have BK107 := n2_; have BK119 := n3_; have BK128 := n4_; have BK133 := n5_; have BK138 := n6_; have BK143 := n7_; have HB := n8_; clear n0_ n1_ n2_ n3_ n4_ n5_ n6_ n7_ n8_; (try clear hb)) | ((with_reducible refine gate_dst (N := 19) rfl ?_); refine box_event ?hg (N := 19) ?hd (cs := #[.bool false, .string (⟨#[]⟩ : ByteArray), .string (⟨#[]⟩ : ByteArray)]) (t := 24) ?hr ?_; (case hd => rfl); (case hg => rfl); (case hr => first | (go_simp; done) | (go_simp; rfl)); intro gb148 hg w232 hbox hb; have n0_ := Aside0.mk (blk_below (blk_later BK105.out) hb); have n1_ := Aside0.mk (blk_below (blk_later BK106.out) hb); have n2_ := Aside0.mk (blk_below (blk_later BK107.out) hb); have n3_ := Aside0.mk (blk_below (blk_later BK119.out) hb); have n4_ := Aside0.mk (blk_below (blk_later BK128.out) hb); have n5_ := Aside0.mk (blk_below (blk_later BK133.out) hb); have n6_ := Aside0.mk (blk_below (blk_later BK138.out) hb); have n7_ := Aside0.mk (blk_below (blk_later BK143.out) hb); have n8_ := Aside0.mk (below_step (by repeat (first | (with_reducible first | exact HB.out | apply below_alloc | apply pw_below_drewN | apply below_drew1 | refine below_set ?_ GE105.out | refine below_set ?_ GE106.out | refine below_set ?_ GE107.out | refine below_set ?_ GE119.out | refine below_set ?_ GE128.out | refine below_set ?_ GE133.out | refine below_set ?_ GE138.out | refine below_set ?_ GE143.out) | exact HB.out)) hb); have n9_ := Aside0.mk (hbox); have n10_ := Aside0.mk ((by rw [hg]; exact (below_size (by repeat (first | (with_reducible first | exact HB.out | apply below_alloc | apply pw_below_drewN | apply below_drew1 | refine below_set ?_ GE105.out | refine below_set ?_ GE106.out | refine below_set ?_ GE107.out | refine below_set ?_ GE119.out | refine below_set ?_ GE128.out | refine below_set ?_ GE133.out | refine below_set ?_ GE138.out | refine below_set ?_ GE143.out) | exact HB.out))) : w.heap.size ≤ gb148)); have n11_ := Aside0.mk ((by rw [hg]; exact (below_size (by repeat (first | (with_reducible first | exact HB.out | apply below_alloc | apply pw_below_drewN | apply below_drew1 | refine below_set ?_ GE105.out | refine below_set ?_ GE106.out | refine below_set ?_ GE107.out | refine below_set ?_ GE119.out | refine below_set ?_ GE128.out | refine below_set ?_ GE133.out | refine below_set ?_ GE138.out | refine below_set ?_ GE143.out) | exact HB.out))) : w.heap.size ≤ gb148)); have n12_ := Aside0.mk ((by rw [hg]; exact Nat.ne_of_lt (blk_lt (blk_later BK105.out)) : gb105 ≠ gb148)); have n13_ := Aside0.mk ((by rw [hg]; exact Nat.ne_of_gt (blk_lt (blk_later BK105.out)) : gb148 ≠ gb105)); have n14_ := Aside0.mk ((by rw [hg]; exact Nat.ne_of_lt (blk_lt (blk_later BK106.out)) : gb106 ≠ gb148)); have n15_ := Aside0.mk ((by rw [hg]; exact Nat.ne_of_gt (blk_lt (blk_later BK106.out)) : gb148 ≠ gb106)); have n16_ := Aside0.mk ((by rw [hg]; exact Nat.ne_of_lt (blk_lt (blk_later BK107.out)) : gb107 ≠ gb148)); have n17_ := Aside0.mk ((by rw [hg]; exact Nat.ne_of_gt (blk_lt (blk_later BK107.out)) : gb148 ≠ gb107)); have n18_ := Aside0.mk ((by rw [hg]; exact Nat.ne_of_lt (blk_lt (blk_later BK119.out)) : gb119 ≠ gb148)); have n19_ := Aside0.mk ((by rw [hg]; exact Nat.ne_of_gt (blk_lt (blk_later BK119.out)) : gb148 ≠ gb119)); have n20_ := Aside0.mk ((by rw [hg]; exact Nat.ne_of_lt (blk_lt (blk_later BK128.out)) : gb128 ≠ gb148)); have n21_ := Aside0.mk ((by rw [hg]; exact Nat.ne_of_gt (blk_lt (blk_later BK128.out)) : gb148 ≠ gb128)); have n22_ := Aside0.mk ((by rw [hg]; exact Nat.ne_of_lt (blk_lt (blk_later BK133.out)) : gb133 ≠ gb148)); have n23_ := Aside0.mk ((by rw [hg]; exact Nat.ne_of_gt (blk_lt (blk_later BK133.out)) : gb148 ≠ gb133)); have n24_ := Aside0.mk ((by rw [hg]; exact Nat.ne_of_lt (blk_lt (blk_later BK138.out)) : gb138 ≠ gb148)); have n25_ := Aside0.mk ((by rw [hg]; exact Nat.ne_of_gt (blk_lt (blk_later BK138.out)) : gb148 ≠ gb138)); have n26_ := Aside0.mk ((by rw [hg]; exact Nat.ne_of_lt (blk_lt (blk_later BK143.out)) : gb143 ≠ gb148)); have n27_ := Aside0.mk ((by rw [hg]; exact Nat.ne_of_gt (blk_lt (blk_later BK143.out)) : gb148 ≠ gb143)); clear BK105; clear BK106; clear BK107; clear BK119; clear BK128; clear BK133; clear BK138; clear BK143; clear HB; have BK105 := n0_; have BK106 := n1_; have BK107 := n2_; have BK119 := n3_; have BK128 := n4_; have BK133 := n5_; have BK138 := n6_; have BK143 := n7_; have HB := n8_; have BK148 := n9_; have GW148 := n10_; have GE148 := n11_; have NB105_148 := n12_; have NB148_105 := n13_; have NB106_148 := n14_; have NB148_106 := n15_; have NB107_148 := n16_; have NB148_107 := n17_; have NB119_148 := n18_; have NB148_119 := n19_; have NB128_148 := n20_; have NB148_128 := n21_; have NB133_148 := n22_; have NB148_133 := n23_; have NB138_148 := n24_; have NB148_138 := n25_; have NB143_148 := n26_; have NB148_143 := n27_; clear n0_ n1_ n2_ n3_ n4_ n5_ n6_ n7_ n8_ n9_ n10_ n11_ n12_ n13_ n14_ n15_ n16_ n17_ n18_ n19_ n20_ n21_ n22_ n23_ n24_ n25_ n26_ n27_; clear hb hbox hg; have hnb233 := NB148_105.out; have hnc233 := NB105_148.out; have hnb234 := NB148_106.out; have hnc234 := NB106_148.out; have hnb235 := NB148_107.out; have hnc235 := NB107_148.out; have hnb236 := NB148_119.out; have hnc236 := NB119_148.out; have hnb237 := NB148_128.out; have hnc237 := NB128_148.out; have hnb238 := NB148_133.out; have hnc238 := NB133_148.out; have hnb239 := NB148_138.out; have hnc239 := NB138_148.out; have hnb240 := NB148_143.out; have hnc240 := NB143_148.out; obtain ⟨hcz241_0, hcz241_1, hcz241_2⟩ := blk3 BK148.out; have hfz241_0 := blk_frozen BK148.out 0; have hfz241_1 := blk_frozen BK148.out 1; have hfz241_2 := blk_frozen BK148.out 2; obtain ⟨hcz242_0, hcz242_1, hcz242_2⟩ := blk3 BK128.out; have hfz242_0 := blk_frozen BK128.out 0; have hfz242_1 := blk_frozen BK128.out 1; have hfz242_2 := blk_frozen BK128.out 2; obtain ⟨hcz243_0, hcz243_1, hcz243_2⟩ := blk3 BK119.out; have hfz243_0 := blk_frozen BK119.out 0; have hfz243_1 := blk_frozen BK119.out 1; have hfz243_2 := blk_frozen BK119.out 2) | (go_at_call 23; (with_reducible refine (rational_Compare.calls t124 t125 t126 t116 t117 t118 t149 _ ?side1 A175.out).mono ?_); (case side1 => exact Laid.below HLaid.out (by repeat (first | (with_reducible first | exact HB.out | apply below_alloc | apply pw_below_drewN | apply below_drew1 | refine below_set ?_ GE105.out | refine below_set ?_ GE106.out | refine below_set ?_ GE107.out | refine below_set ?_ GE119.out | refine below_set ?_ GE128.out | refine below_set ?_ GE133.out | refine below_set ?_ GE138.out | refine below_set ?_ GE143.out | refine below_set ?_ GE148.out) | exact HB.out))); rintro e w244 ⟨rfl, hb⟩; have n0_ := Aside0.mk (blk_below (far3 BK105.out NB105_148.out) hb); have n1_ := Aside0.mk (blk_below (far3 BK106.out NB106_148.out) hb); have n2_ := Aside0.mk (blk_below (far3 BK107.out NB107_148.out) hb); have n3_ := Aside0.mk (blk_below (far3 BK119.out NB119_148.out) hb); have n4_ := Aside0.mk (blk_below (far3 BK128.out NB128_148.out) hb); have n5_ := Aside0.mk (blk_below (far3 BK133.out NB133_148.out) hb); have n6_ := Aside0.mk (blk_below (far3 BK138.out NB138_148.out) hb); have n7_ := Aside0.mk (blk_below (far3 BK143.out NB143_148.out) hb); have n8_ := Aside0.mk (blk_below (g := gb148) (o := .cells #[.bool t144, .string t145, .string t146] 24 (0, 0)) (by (with_reducible repeat (first | refine blk_drewN ?_ _ | refine blk_drew ?_ | refine blk_alloc ?_ _)); refine blk_put (cs := #[.bool t144, .string t145, .string (⟨#[]⟩ : ByteArray)]) ?_ 2 _ rfl; (with_reducible repeat (first | refine blk_drewN ?_ _ | refine blk_drew ?_ | refine blk_alloc ?_ _)); refine blk_put (cs := #[.bool t144, .string (⟨#[]⟩ : ByteArray), .string (⟨#[]⟩ : ByteArray)]) ?_ 1 _ rfl; (with_reducible repeat (first | refine blk_drewN ?_ _ | refine blk_drew ?_ | refine blk_alloc ?_ _)); refine blk_put (cs := #[.bool false, .string (⟨#[]⟩ : ByteArray), .string (⟨#[]⟩ : ByteArray)]) ?_ 0 _ rfl; (with_reducible repeat (first | refine blk_drewN ?_ _ | refine blk_drew ?_ | refine blk_alloc ?_ _)); exact BK148.out) hb); have n9_ := Aside0.mk (below_step (by repeat (first | (with_reducible first | exact HB.out | apply below_alloc | apply pw_below_drewN | apply below_drew1 | refine below_set ?_ GE105.out | refine below_set ?_ GE106.out | refine below_set ?_ GE107.out | refine below_set ?_ GE119.out | refine below_set ?_ GE128.out | refine below_set ?_ GE133.out | refine below_set ?_ GE138.out | refine below_set ?_ GE143.out | refine below_set ?_ GE148.out) | exact HB.out)) hb); clear BK105; clear BK106; clear BK107; clear BK119; clear BK128; clear BK133; clear BK138; clear BK143; clear BK148; clear HB; have BK105 := n0_; have BK106 := n1_; have BK107 := n2_; have BK119 := n3_; have BK128 := n4_; have BK133 := n5_; have BK138 := n6_; have BK143 := n7_; have BK148 := n8_; have HB := n9_; clear n0_ n1_ n2_ n3_ n4_ n5_ n6_ n7_ n8_ n9_; (try clear hb); obtain ⟨hcz245_0, hcz245_1, hcz245_2⟩ := blk3 BK133.out; have hfz245_0 := blk_frozen BK133.out 0; have hfz245_1 := blk_frozen BK133.out 1; have hfz245_2 := blk_frozen BK133.out 2; obtain ⟨hcz246_0, hcz246_1, hcz246_2⟩ := blk3 BK138.out; have hfz246_0 := blk_frozen BK138.out 0; have hfz246_1 := blk_frozen BK138.out 1; have hfz246_2 := blk_frozen BK138.out 2) | (go_at_call 23; (with_reducible refine (rational_Compare.calls t129 t130 t131 t134 t135 t136 t150 _ ?side1 A177.out).mono ?_); (case side1 => exact Laid.below HLaid.out (by repeat (first | (with_reducible first | exact HB.out | apply below_alloc | apply pw_below_drewN | apply below_drew1 | refine below_set ?_ GE105.out | refine below_set ?_ GE106.out | refine below_set ?_ GE107.out | refine below_set ?_ GE119.out | refine below_set ?_ GE128.out | refine below_set ?_ GE133.out | refine below_set ?_ GE138.out | refine below_set ?_ GE143.out | refine below_set ?_ GE148.out) | exact HB.out))); rintro e w247 ⟨rfl, hb⟩; have n0_ := Aside0.mk (blk_below (blk_later BK105.out) hb); have n1_ := Aside0.mk (blk_below (blk_later BK106.out) hb); have n2_ := Aside0.mk (blk_below (blk_later BK107.out) hb); have n3_ := Aside0.mk (blk_below (blk_later BK119.out) hb); have n4_ := Aside0.mk (blk_below (blk_later BK128.out) hb); have n5_ := Aside0.mk (blk_below (blk_later BK133.out) hb); have n6_ := Aside0.mk (blk_below (blk_later BK138.out) hb); have n7_ := Aside0.mk (blk_below (blk_later BK143.out) hb); have n8_ := Aside0.mk (blk_below (blk_later BK148.out) hb); have n9_ := Aside0.mk (below_step (by repeat (first | (with_reducible first | exact HB.out | apply below_alloc | apply pw_below_drewN | apply below_drew1 | refine below_set ?_ GE105.out | refine below_set ?_ GE106.out | refine below_set ?_ GE107.out | refine below_set ?_ GE119.out | refine below_set ?_ GE128.out | refine below_set ?_ GE133.out | refine below_set ?_ GE138.out | refine below_set ?_ GE143.out | refine below_set ?_ GE148.out) | exact HB.out)) hb); clear BK105; clear BK106; clear BK107; clear BK119; clear BK128; clear BK133; clear BK138; clear BK143; clear BK148; clear HB; have BK105 := n0_; have BK106 := n1_; have BK107 := n2_; have BK119 := n3_; have BK128 := n4_; have BK133 := n5_; have BK138 := n6_; have BK143 := n7_; have BK148 := n8_; have HB := n9_; clear n0_ n1_ n2_ n3_ n4_ n5_ n6_ n7_ n8_ n9_; (try clear hb); obtain ⟨hcz248_0, hcz248_1, hcz248_2⟩ := blk3 BK107.out; have hfz248_0 := blk_frozen BK107.out 0; have hfz248_1 := blk_frozen BK107.out 1; have hfz248_2 := blk_frozen BK107.out 2))
                                go_ret
                                exact ⟨by first | rfl | (simp [errW_none, errW_some] <;> rfl) | (simp [*, errW_none, errW_some] <;> rfl), by repeat (first | (with_reducible first | exact HB.out | apply below_alloc | apply pw_below_drewN | apply below_drew1 | refine below_set ?_ GE105.out | refine below_set ?_ GE106.out | refine below_set ?_ GE107.out | refine below_set ?_ GE119.out | refine below_set ?_ GE128.out | refine below_set ?_ GE133.out | refine below_set ?_ GE138.out | refine below_set ?_ GE143.out | refine below_set ?_ GE148.out) | exact HB.out)⟩
                              · replace c180 := Bool.eq_false_iff.mpr c180
                                subst c180
                                have H1 : (if (false == t116 && (a2_1.toList == t117.toList && (a2_2.toList == t118.toList))) = true then (some true) else ((rational_Compare.f t139 t140 t141 t144 t145 t146).bind fun t151 => (some (t151 == t120)))) = some r := by rw [if_neg (show ¬ (false = true) by decide)] at H; exact H
                                clear H
                                have H := H1
                                clear H1
                                by_cases c249 : (false == t116 && (a2_1.toList == t117.toList && (a2_2.toList == t118.toList))) = true
                                · rw [if_pos c249] at H
                                  have c249b0 : (false == t116 && (a2_1.toList == t117.toList && (a2_2.toList == t118.toList))) = true := c249
                                  have c249b4 : (!t116 && (a2_1.toList == t117.toList && (a2_2.toList == t118.toList))) = true := by rw [← c249b0]; simp
                                  (try (have c249b1 : decide (false = t116 && (a2_1.toList == t117.toList && (a2_2.toList == t118.toList))) = true := by simpa using c249))
                                  (try (have c249b2 : (false == t116 && (a2_1.toList == t117.toList && (a2_2.toList == t118.toList))) = true := by simpa using c249))
                                  clear c249
                                  obtain rfl := Option.some.inj H
                                  have hnb250 := NB105_106.out
                                  have hnc250 := NB106_105.out
                                  have hnb251 := NB105_107.out
                                  have hnc251 := NB107_105.out
                                  have hnb252 := NB105_119.out
                                  have hnc252 := NB119_105.out
                                  obtain ⟨hcz253_0, hcz253_1, hcz253_2⟩ := blk3 BK105.out
                                  have hfz253_0 := blk_frozen BK105.out 0
                                  have hfz253_1 := blk_frozen BK105.out 1
                                  have hfz253_2 := blk_frozen BK105.out 2
                                  have hnb254 := NB106_107.out
                                  have hnc254 := NB107_106.out
                                  have hnb255 := NB106_119.out
                                  have hnc255 := NB119_106.out
                                  obtain ⟨hcz256_0, hcz256_1, hcz256_2⟩ := blk3 BK106.out
                                  have hfz256_0 := blk_frozen BK106.out 0
                                  have hfz256_1 := blk_frozen BK106.out 1
                                  have hfz256_2 := blk_frozen BK106.out 2
                                  go_wp2_with (first | ((with_reducible refine gate_callee (f := 27) rfl ?_); refine goesL_ (some 90) rfl rfl Tryz.func27 (by kernel_rfl) rfl #[.agg #[.bool a0_0, .string a0_1, .string a0_2], .agg #[.bool a1_0, .string a1_1, .string a1_2]] rfl (by (try simp only [List.map_toArray, List.map_cons, List.map_nil]); first | done | rfl | (simp only [List.length_drop, List.length_take]; rfl)) ?_; (with_reducible refine (rational_Sub.calls a0_0 a0_1 a0_2 a1_0 a1_1 a1_2 t124 t125 t126 t127 _ ?side1 A165.out).mono ?_); (case side1 => exact Laid.below HLaid.out (BK HB.out)); rintro e w257 ⟨rfl, hb⟩; refine ⟨_, rfl, ?_⟩; have n0_ := Aside0.mk (blk_below (blk_later BK105.out) hb); have n1_ := Aside0.mk (blk_below (blk_later BK106.out) hb); have n2_ := Aside0.mk (blk_below (blk_later BK107.out) hb); have n3_ := Aside0.mk (blk_below (blk_later BK119.out) hb); have n4_ := Aside0.mk (below_step (BK HB.out) hb); clear BK105; clear BK106; clear BK107; clear BK119; clear HB; have BK105 := n0_; have BK106 := n1_; have BK107 := n2_; have BK119 := n3_; have HB := n4_; clear n0_ n1_ n2_ n3_ n4_; (try clear hb)) | ((with_reducible refine gate_dst (N := 11) rfl ?_); refine box_event ?hg (N := 11) ?hd (cs := #[.bool false, .string (⟨#[]⟩ : ByteArray), .string (⟨#[]⟩ : ByteArray)]) (t := 24) ?hr ?_; (case hd => rfl); (case hg => rfl); (case hr => first | (go_simp; done) | (go_simp; rfl)); intro gb128 hg w258 hbox hb; have n0_ := Aside0.mk (blk_below (blk_later BK105.out) hb); have n1_ := Aside0.mk (blk_below (blk_later BK106.out) hb); have n2_ := Aside0.mk (blk_below (blk_later BK107.out) hb); have n3_ := Aside0.mk (blk_below (blk_later BK119.out) hb); have n4_ := Aside0.mk (below_step (BK HB.out) hb); have n5_ := Aside0.mk (hbox); have n6_ := Aside0.mk ((by rw [hg]; exact (below_size (BK HB.out)) : w.heap.size ≤ gb128)); have n7_ := Aside0.mk ((by rw [hg]; exact (below_size (BK HB.out)) : w.heap.size ≤ gb128)); have n8_ := Aside0.mk ((by rw [hg]; exact Nat.ne_of_lt (blk_lt (blk_later BK105.out)) : gb105 ≠ gb128)); have n9_ := Aside0.mk ((by rw [hg]; exact Nat.ne_of_gt (blk_lt (blk_later BK105.out)) : gb128 ≠ gb105)); have n10_ := Aside0.mk ((by rw [hg]; exact Nat.ne_of_lt (blk_lt (blk_later BK106.out)) : gb106 ≠ gb128)); have n11_ := Aside0.mk ((by rw [hg]; exact Nat.ne_of_gt (blk_lt (blk_later BK106.out)) : gb128 ≠ gb106)); have n12_ := Aside0.mk ((by rw [hg]; exact Nat.ne_of_lt (blk_lt (blk_later BK107.out)) : gb107 ≠ gb128)); have n13_ := Aside0.mk ((by rw [hg]; exact Nat.ne_of_gt (blk_lt (blk_later BK107.out)) : gb128 ≠ gb107)); have n14_ := Aside0.mk ((by rw [hg]; exact Nat.ne_of_lt (blk_lt (blk_later BK119.out)) : gb119 ≠ gb128)); have n15_ := Aside0.mk ((by rw [hg]; exact Nat.ne_of_gt (blk_lt (blk_later BK119.out)) : gb128 ≠ gb119)); clear BK105; clear BK106; clear BK107; clear BK119; clear HB; have BK105 := n0_; have BK106 := n1_; have BK107 := n2_; have BK119 := n3_; have HB := n4_; have BK128 := n5_; have GW128 := n6_; have GE128 := n7_; have NB105_128 := n8_; have NB128_105 := n9_; have NB106_128 := n10_; have NB128_106 := n11_; have NB107_128 := n12_; have NB128_107 := n13_; have NB119_128 := n14_; have NB128_119 := n15_; clear n0_ n1_ n2_ n3_ n4_ n5_ n6_ n7_ n8_ n9_ n10_ n11_ n12_ n13_ n14_ n15_; clear hb hbox hg; have hnb259 := NB128_105.out; have hnc259 := NB105_128.out; have hnb260 := NB128_106.out; have hnc260 := NB106_128.out; have hnb261 := NB128_107.out; have hnc261 := NB107_128.out; have hnb262 := NB128_119.out; have hnc262 := NB119_128.out; obtain ⟨hcz263_0, hcz263_1, hcz263_2⟩ := blk3 BK128.out; have hfz263_0 := blk_frozen BK128.out 0; have hfz263_1 := blk_frozen BK128.out 1; have hfz263_2 := blk_frozen BK128.out 2; obtain ⟨hcz264_0, hcz264_1, hcz264_2⟩ := blk3 BK105.out; have hfz264_0 := blk_frozen BK105.out 0; have hfz264_1 := blk_frozen BK105.out 1; have hfz264_2 := blk_frozen BK105.out 2; have hnb265 := NB107_119.out; have hnc265 := NB119_107.out; obtain ⟨hcz266_0, hcz266_1, hcz266_2⟩ := blk3 BK107.out; have hfz266_0 := blk_frozen BK107.out 0; have hfz266_1 := blk_frozen BK107.out 1; have hfz266_2 := blk_frozen BK107.out 2) | ((with_reducible refine gate_callee (f := 25) rfl ?_); refine goesL_ (some 96) rfl rfl Tryz.func25 (by kernel_rfl) rfl #[.agg #[.bool a0_0, .string a0_1, .string a0_2], .agg #[.bool false, .string a2_1, .string a2_2]] rfl (by (try simp only [List.map_toArray, List.map_cons, List.map_nil]); first | done | rfl | (simp only [List.length_drop, List.length_take]; rfl)) ?_; (with_reducible refine (rational_Add.calls a0_0 a0_1 a0_2 false a2_1 a2_2 t129 t130 t131 t132 _ ?side1 A166.out).mono ?_); (case side1 => exact Laid.below HLaid.out (BKS HB.out GE128.out)); rintro e w267 ⟨rfl, hb⟩; refine ⟨_, rfl, ?_⟩; have n0_ := Aside0.mk (blk_below (far3 BK105.out NB105_128.out) hb); have n1_ := Aside0.mk (blk_below (far3 BK106.out NB106_128.out) hb); have n2_ := Aside0.mk (blk_below (far3 BK107.out NB107_128.out) hb); have n3_ := Aside0.mk (blk_below (far3 BK119.out NB119_128.out) hb); have n4_ := Aside0.mk (blk_below (g := gb128) (o := .cells #[.bool t124, .string t125, .string t126] 24 (0, 0)) (by (with_reducible repeat (first | refine blk_drewN ?_ _ | refine blk_drew ?_ | refine blk_alloc ?_ _)); refine blk_put (cs := #[.bool t124, .string t125, .string (⟨#[]⟩ : ByteArray)]) ?_ 2 _ rfl; (with_reducible repeat (first | refine blk_drewN ?_ _ | refine blk_drew ?_ | refine blk_alloc ?_ _)); refine blk_put (cs := #[.bool t124, .string (⟨#[]⟩ : ByteArray), .string (⟨#[]⟩ : ByteArray)]) ?_ 1 _ rfl; (with_reducible repeat (first | refine blk_drewN ?_ _ | refine blk_drew ?_ | refine blk_alloc ?_ _)); refine blk_put (cs := #[.bool false, .string (⟨#[]⟩ : ByteArray), .string (⟨#[]⟩ : ByteArray)]) ?_ 0 _ rfl; (with_reducible repeat (first | refine blk_drewN ?_ _ | refine blk_drew ?_ | refine blk_alloc ?_ _)); exact BK128.out) hb); have n5_ := Aside0.mk (below_step (BKS HB.out GE128.out) hb); clear BK105; clear BK106; clear BK107; clear BK119; clear BK128; clear HB; have BK105 := n0_; have BK106 := n1_; have BK107 := n2_; have BK119 := n3_; have BK128 := n4_; have HB := n5_; clear n0_ n1_ n2_ n3_ n4_ n5_; (try clear hb)) | ((with_reducible refine gate_dst (N := 13) rfl ?_); refine box_event ?hg (N := 13) ?hd (cs := #[.bool false, .string (⟨#[]⟩ : ByteArray), .string (⟨#[]⟩ : ByteArray)]) (t := 24) ?hr ?_; (case hd => rfl); (case hg => rfl); (case hr => first | (go_simp; done) | (go_simp; rfl)); intro gb133 hg w268 hbox hb; have n0_ := Aside0.mk (blk_below (blk_later BK105.out) hb); have n1_ := Aside0.mk (blk_below (blk_later BK106.out) hb); have n2_ := Aside0.mk (blk_below (blk_later BK107.out) hb); have n3_ := Aside0.mk (blk_below (blk_later BK119.out) hb); have n4_ := Aside0.mk (blk_below (blk_later BK128.out) hb); have n5_ := Aside0.mk (below_step (BK HB.out) hb); have n6_ := Aside0.mk (hbox); have n7_ := Aside0.mk ((by rw [hg]; exact (below_size (BK HB.out)) : w.heap.size ≤ gb133)); have n8_ := Aside0.mk ((by rw [hg]; exact (below_size (BK HB.out)) : w.heap.size ≤ gb133)); have n9_ := Aside0.mk ((by rw [hg]; exact Nat.ne_of_lt (blk_lt (blk_later BK105.out)) : gb105 ≠ gb133)); have n10_ := Aside0.mk ((by rw [hg]; exact Nat.ne_of_gt (blk_lt (blk_later BK105.out)) : gb133 ≠ gb105)); have n11_ := Aside0.mk ((by rw [hg]; exact Nat.ne_of_lt (blk_lt (blk_later BK106.out)) : gb106 ≠ gb133)); have n12_ := Aside0.mk ((by rw [hg]; exact Nat.ne_of_gt (blk_lt (blk_later BK106.out)) : gb133 ≠ gb106)); have n13_ := Aside0.mk ((by rw [hg]; exact Nat.ne_of_lt (blk_lt (blk_later BK107.out)) : gb107 ≠ gb133)); have n14_ := Aside0.mk ((by rw [hg]; exact Nat.ne_of_gt (blk_lt (blk_later BK107.out)) : gb133 ≠ gb107)); have n15_ := Aside0.mk ((by rw [hg]; exact Nat.ne_of_lt (blk_lt (blk_later BK119.out)) : gb119 ≠ gb133)); have n16_ := Aside0.mk ((by rw [hg]; exact Nat.ne_of_gt (blk_lt (blk_later BK119.out)) : gb133 ≠ gb119)); have n17_ := Aside0.mk ((by rw [hg]; exact Nat.ne_of_lt (blk_lt (blk_later BK128.out)) : gb128 ≠ gb133)); have n18_ := Aside0.mk ((by rw [hg]; exact Nat.ne_of_gt (blk_lt (blk_later BK128.out)) : gb133 ≠ gb128)); clear BK105; clear BK106; clear BK107; clear BK119; clear BK128; clear HB; have BK105 := n0_; have BK106 := n1_; have BK107 := n2_; have BK119 := n3_; have BK128 := n4_; have HB := n5_; have BK133 := n6_; have GW133 := n7_; have GE133 := n8_; have NB105_133 := n9_; have NB133_105 := n10_; have NB106_133 := n11_; have NB133_106 := n12_; have NB107_133 := n13_; have NB133_107 := n14_; have NB119_133 := n15_; have NB133_119 := n16_; have NB128_133 := n17_; have NB133_128 := n18_; clear n0_ n1_ n2_ n3_ n4_ n5_ n6_ n7_ n8_ n9_ n10_ n11_ n12_ n13_ n14_ n15_ n16_ n17_ n18_; clear hb hbox hg; have hnb269 := NB133_105.out; have hnc269 := NB105_133.out; have hnb270 := NB133_106.out; have hnc270 := NB106_133.out; have hnb271 := NB133_107.out; have hnc271 := NB107_133.out; have hnb272 := NB133_119.out; have hnc272 := NB119_133.out; have hnb273 := NB133_128.out; have hnc273 := NB128_133.out; obtain ⟨hcz274_0, hcz274_1, hcz274_2⟩ := blk3 BK133.out; have hfz274_0 := blk_frozen BK133.out 0; have hfz274_1 := blk_frozen BK133.out 1; have hfz274_2 := blk_frozen BK133.out 2; obtain ⟨hcz275_0, hcz275_1, hcz275_2⟩ := blk3 BK106.out; have hfz275_0 := blk_frozen BK106.out 0; have hfz275_1 := blk_frozen BK106.out 1; have hfz275_2 := blk_frozen BK106.out 2; obtain ⟨hcz276_0, hcz276_1, hcz276_2⟩ := blk3 BK107.out; have hfz276_0 := blk_frozen BK107.out 0; have hfz276_1 := blk_frozen BK107.out 1; have hfz276_2 := blk_frozen BK107.out 2) | ((with_reducible refine gate_callee (f := 25) rfl ?_); refine goesL_ (some 102) rfl rfl Tryz.func25 (by kernel_rfl) rfl #[.agg #[.bool a1_0, .string a1_1, .string a1_2], .agg #[.bool false, .string a2_1, .string a2_2]] rfl (by (try simp only [List.map_toArray, List.map_cons, List.map_nil]); first | done | rfl | (simp only [List.length_drop, List.length_take]; rfl)) ?_; (with_reducible refine (rational_Add.calls a1_0 a1_1 a1_2 false a2_1 a2_2 t134 t135 t136 t137 _ ?side1 A167.out).mono ?_); (case side1 => exact Laid.below HLaid.out (BKS HB.out GE133.out)); rintro e w277 ⟨rfl, hb⟩; refine ⟨_, rfl, ?_⟩; have n0_ := Aside0.mk (blk_below (far3 BK105.out NB105_133.out) hb); have n1_ := Aside0.mk (blk_below (far3 BK106.out NB106_133.out) hb); have n2_ := Aside0.mk (blk_below (far3 BK107.out NB107_133.out) hb); have n3_ := Aside0.mk (blk_below (far3 BK119.out NB119_133.out) hb); have n4_ := Aside0.mk (blk_below (far3 BK128.out NB128_133.out) hb); have n5_ := Aside0.mk (blk_below (g := gb133) (o := .cells #[.bool t129, .string t130, .string t131] 24 (0, 0)) (by (with_reducible repeat (first | refine blk_drewN ?_ _ | refine blk_drew ?_ | refine blk_alloc ?_ _)); refine blk_put (cs := #[.bool t129, .string t130, .string (⟨#[]⟩ : ByteArray)]) ?_ 2 _ rfl; (with_reducible repeat (first | refine blk_drewN ?_ _ | refine blk_drew ?_ | refine blk_alloc ?_ _)); refine blk_put (cs := #[.bool t129, .string (⟨#[]⟩ : ByteArray), .string (⟨#[]⟩ : ByteArray)]) ?_ 1 _ rfl; (with_reducible repeat (first | refine blk_drewN ?_ _ | refine blk_drew ?_ | refine blk_alloc ?_ _)); refine blk_put (cs := #[.bool false, .string (⟨#[]⟩ : ByteArray), .string (⟨#[]⟩ : ByteArray)]) ?_ 0 _ rfl; (with_reducible repeat (first | refine blk_drewN ?_ _ | refine blk_drew ?_ | refine blk_alloc ?_ _)); exact BK133.out) hb); have n6_ := Aside0.mk (below_step (BKS HB.out GE133.out) hb); clear BK105; clear BK106; clear BK107; clear BK119; clear BK128; clear BK133; clear HB; have BK105 := n0_; have BK106 := n1_; have BK107 := n2_; have BK119 := n3_; have BK128 := n4_; have BK133 := n5_; have HB := n6_; clear n0_ n1_ n2_ n3_ n4_ n5_ n6_; (try clear hb)) | ((with_reducible refine gate_dst (N := 15) rfl ?_); refine box_event ?hg (N := 15) ?hd (cs := #[.bool false, .string (⟨#[]⟩ : ByteArray), .string (⟨#[]⟩ : ByteArray)]) (t := 24) ?hr ?_; (case hd => rfl); (case hg => rfl); (case hr => first | (go_simp; done) | (go_simp; rfl)); intro gb138 hg w278 hbox hb; have n0_ := Aside0.mk (blk_below (blk_later BK105.out) hb); have n1_ := Aside0.mk (blk_below (blk_later BK106.out) hb); have n2_ := Aside0.mk (blk_below (blk_later BK107.out) hb); have n3_ := Aside0.mk (blk_below (blk_later BK119.out) hb); have n4_ := Aside0.mk (blk_below (blk_later BK128.out) hb); have n5_ := Aside0.mk (blk_below (blk_later BK133.out) hb); have n6_ := Aside0.mk (below_step (BK HB.out) hb); have n7_ := Aside0.mk (hbox); have n8_ := Aside0.mk ((by rw [hg]; exact (below_size (BK HB.out)) : w.heap.size ≤ gb138)); have n9_ := Aside0.mk ((by rw [hg]; exact (below_size (BK HB.out)) : w.heap.size ≤ gb138)); have n10_ := Aside0.mk ((by rw [hg]; exact Nat.ne_of_lt (blk_lt (blk_later BK105.out)) : gb105 ≠ gb138)); have n11_ := Aside0.mk ((by rw [hg]; exact Nat.ne_of_gt (blk_lt (blk_later BK105.out)) : gb138 ≠ gb105)); have n12_ := Aside0.mk ((by rw [hg]; exact Nat.ne_of_lt (blk_lt (blk_later BK106.out)) : gb106 ≠ gb138)); have n13_ := Aside0.mk ((by rw [hg]; exact Nat.ne_of_gt (blk_lt (blk_later BK106.out)) : gb138 ≠ gb106)); have n14_ := Aside0.mk ((by rw [hg]; exact Nat.ne_of_lt (blk_lt (blk_later BK107.out)) : gb107 ≠ gb138)); have n15_ := Aside0.mk ((by rw [hg]; exact Nat.ne_of_gt (blk_lt (blk_later BK107.out)) : gb138 ≠ gb107)); have n16_ := Aside0.mk ((by rw [hg]; exact Nat.ne_of_lt (blk_lt (blk_later BK119.out)) : gb119 ≠ gb138)); have n17_ := Aside0.mk ((by rw [hg]; exact Nat.ne_of_gt (blk_lt (blk_later BK119.out)) : gb138 ≠ gb119)); have n18_ := Aside0.mk ((by rw [hg]; exact Nat.ne_of_lt (blk_lt (blk_later BK128.out)) : gb128 ≠ gb138)); have n19_ := Aside0.mk ((by rw [hg]; exact Nat.ne_of_gt (blk_lt (blk_later BK128.out)) : gb138 ≠ gb128)); have n20_ := Aside0.mk ((by rw [hg]; exact Nat.ne_of_lt (blk_lt (blk_later BK133.out)) : gb133 ≠ gb138)); have n21_ := Aside0.mk ((by rw [hg]; exact Nat.ne_of_gt (blk_lt (blk_later BK133.out)) : gb138 ≠ gb133)); clear BK105; clear BK106; clear BK107; clear BK119; clear BK128; clear BK133; clear HB; have BK105 := n0_; have BK106 := n1_; have BK107 := n2_; have BK119 := n3_; have BK128 := n4_; have BK133 := n5_; have HB := n6_; have BK138 := n7_; have GW138 := n8_; have GE138 := n9_; have NB105_138 := n10_; have NB138_105 := n11_; have NB106_138 := n12_; have NB138_106 := n13_; have NB107_138 := n14_; have NB138_107 := n15_; have NB119_138 := n16_; have NB138_119 := n17_; have NB128_138 := n18_; have NB138_128 := n19_; have NB133_138 := n20_; have NB138_133 := n21_; clear n0_ n1_ n2_ n3_ n4_ n5_ n6_ n7_ n8_ n9_ n10_ n11_ n12_ n13_ n14_ n15_ n16_ n17_ n18_ n19_ n20_ n21_; clear hb hbox hg; have hnb279 := NB138_105.out; have hnc279 := NB105_138.out; have hnb280 := NB138_106.out; have hnc280 := NB106_138.out; have hnb281 := NB138_107.out; have hnc281 := NB107_138.out; have hnb282 := NB138_119.out; have hnc282 := NB119_138.out; have hnb283 := NB138_128.out; have hnc283 := NB128_138.out; have hnb284 := NB138_133.out; have hnc284 := NB133_138.out; obtain ⟨hcz285_0, hcz285_1, hcz285_2⟩ := blk3 BK138.out; have hfz285_0 := blk_frozen BK138.out 0; have hfz285_1 := blk_frozen BK138.out 1; have hfz285_2 := blk_frozen BK138.out 2; obtain ⟨hcz286_0, hcz286_1, hcz286_2⟩ := blk3 BK105.out; have hfz286_0 := blk_frozen BK105.out 0; have hfz286_1 := blk_frozen BK105.out 1; have hfz286_2 := blk_frozen BK105.out 2; obtain ⟨hcz287_0, hcz287_1, hcz287_2⟩ := blk3 BK107.out; have hfz287_0 := blk_frozen BK107.out 0; have hfz287_1 := blk_frozen BK107.out 1; have hfz287_2 := blk_frozen BK107.out 2) | ((with_reducible refine gate_callee (f := 29) rfl ?_); refine goesL_ (some 108) rfl rfl Tryz.func29 (by kernel_rfl) rfl #[.agg #[.bool a0_0, .string a0_1, .string a0_2], .agg #[.bool false, .string a2_1, .string a2_2]] rfl (by (try simp only [List.map_toArray, List.map_cons, List.map_nil]); first | done | rfl | (simp only [List.length_drop, List.length_take]; rfl)) ?_; (with_reducible refine (rational_Mul.calls a0_0 a0_1 a0_2 false a2_1 a2_2 t139 t140 t141 t142 _ ?side1 A168.out).mono ?_); (case side1 => exact Laid.below HLaid.out (BKS HB.out GE138.out)); rintro e w288 ⟨rfl, hb⟩; refine ⟨_, rfl, ?_⟩; have n0_ := Aside0.mk (blk_below (far3 BK105.out NB105_138.out) hb); have n1_ := Aside0.mk (blk_below (far3 BK106.out NB106_138.out) hb); have n2_ := Aside0.mk (blk_below (far3 BK107.out NB107_138.out) hb); have n3_ := Aside0.mk (blk_below (far3 BK119.out NB119_138.out) hb); have n4_ := Aside0.mk (blk_below (far3 BK128.out NB128_138.out) hb); have n5_ := Aside0.mk (blk_below (far3 BK133.out NB133_138.out) hb); have n6_ := Aside0.mk (blk_below (g := gb138) (o := .cells #[.bool t134, .string t135, .string t136] 24 (0, 0)) (by (with_reducible repeat (first | refine blk_drewN ?_ _ | refine blk_drew ?_ | refine blk_alloc ?_ _)); refine blk_put (cs := #[.bool t134, .string t135, .string (⟨#[]⟩ : ByteArray)]) ?_ 2 _ rfl; (with_reducible repeat (first | refine blk_drewN ?_ _ | refine blk_drew ?_ | refine blk_alloc ?_ _)); refine blk_put (cs := #[.bool t134, .string (⟨#[]⟩ : ByteArray), .string (⟨#[]⟩ : ByteArray)]) ?_ 1 _ rfl; (with_reducible repeat (first | refine blk_drewN ?_ _ | refine blk_drew ?_ | refine blk_alloc ?_ _)); refine blk_put (cs := #[.bool false, .string (⟨#[]⟩ : ByteArray), .string (⟨#[]⟩ : ByteArray)]) ?_ 0 _ rfl; (with_reducible repeat (first | refine blk_drewN ?_ _ | refine blk_drew ?_ | refine blk_alloc ?_ _)); exact BK138.out) hb); have n7_ := Aside0.mk (below_step (BKS HB.out GE138.out) hb); clear BK105; clear BK106; clear BK107; clear BK119; clear BK128; clear BK133; clear BK138; clear HB; have BK105 := n0_; have BK106 := n1_; have BK107 := n2_; have BK119 := n3_; have BK128 := n4_; have BK133 := n5_; have BK138 := n6_; have HB := n7_; clear n0_ n1_ n2_ n3_ n4_ n5_ n6_ n7_; (try clear hb)) | ((with_reducible refine gate_dst (N := 17) rfl ?_); refine box_event ?hg (N := 17) ?hd (cs := #[.bool false, .string (⟨#[]⟩ : ByteArray), .string (⟨#[]⟩ : ByteArray)]) (t := 24) ?hr ?_; (case hd => rfl); (case hg => rfl); (case hr => first | (go_simp; done) | (go_simp; rfl)); intro gb143 hg w289 hbox hb; have n0_ := Aside0.mk (blk_below (blk_later BK105.out) hb); have n1_ := Aside0.mk (blk_below (blk_later BK106.out) hb); have n2_ := Aside0.mk (blk_below (blk_later BK107.out) hb); have n3_ := Aside0.mk (blk_below (blk_later BK119.out) hb); have n4_ := Aside0.mk (blk_below (blk_later BK128.out) hb); have n5_ := Aside0.mk (blk_below (blk_later BK133.out) hb); have n6_ := Aside0.mk (blk_below (blk_later BK138.out) hb); have n7_ := Aside0.mk (below_step (BK HB.out) hb); have n8_ := Aside0.mk (hbox); have n9_ := Aside0.mk ((by rw [hg]; exact (below_size (BK HB.out)) : w.heap.size ≤ gb143)); have n10_ := Aside0.mk ((by rw [hg]; exact (below_size (BK HB.out)) : w.heap.size ≤ gb143)); have n11_ := Aside0.mk ((by rw [hg]; exact Nat.ne_of_lt (blk_lt (blk_later BK105.out)) : gb105 ≠ gb143)); have n12_ := Aside0.mk ((by rw [hg]; exact Nat.ne_of_gt (blk_lt (blk_later BK105.out)) : gb143 ≠ gb105)); have n13_ := Aside0.mk ((by rw [hg]; exact Nat.ne_of_lt (blk_lt (blk_later BK106.out)) : gb106 ≠ gb143)); have n14_ := Aside0.mk ((by rw [hg]; exact Nat.ne_of_gt (blk_lt (blk_later BK106.out)) : gb143 ≠ gb106)); have n15_ := Aside0.mk ((by rw [hg]; exact Nat.ne_of_lt (blk_lt (blk_later BK107.out)) : gb107 ≠ gb143)); have n16_ := Aside0.mk ((by rw [hg]; exact Nat.ne_of_gt (blk_lt (blk_later BK107.out)) : gb143 ≠ gb107)); have n17_ := Aside0.mk ((by rw [hg]; exact Nat.ne_of_lt (blk_lt (blk_later BK119.out)) : gb119 ≠ gb143)); have n18_ := Aside0.mk ((by rw [hg]; exact Nat.ne_of_gt (blk_lt (blk_later BK119.out)) : gb143 ≠ gb119)); have n19_ := Aside0.mk ((by rw [hg]; exact Nat.ne_of_lt (blk_lt (blk_later BK128.out)) : gb128 ≠ gb143)); have n20_ := Aside0.mk ((by rw [hg]; exact Nat.ne_of_gt (blk_lt (blk_later BK128.out)) : gb143 ≠ gb128)); have n21_ := Aside0.mk ((by rw [hg]; exact Nat.ne_of_lt (blk_lt (blk_later BK133.out)) : gb133 ≠ gb143)); have n22_ := Aside0.mk ((by rw [hg]; exact Nat.ne_of_gt (blk_lt (blk_later BK133.out)) : gb143 ≠ gb133)); have n23_ := Aside0.mk ((by rw [hg]; exact Nat.ne_of_lt (blk_lt (blk_later BK138.out)) : gb138 ≠ gb143)); have n24_ := Aside0.mk ((by rw [hg]; exact Nat.ne_of_gt (blk_lt (blk_later BK138.out)) : gb143 ≠ gb138)); clear BK105; clear BK106; clear BK107; clear BK119; clear BK128; clear BK133; clear BK138; clear HB; have BK105 := n0_; have BK106 := n1_; have BK107 := n2_; have BK119 := n3_; have BK128 := n4_; have BK133 := n5_; have BK138 := n6_; have HB := n7_; have BK143 := n8_; have GW143 := n9_; have GE143 := n10_; have NB105_143 := n11_; have NB143_105 := n12_; have NB106_143 := n13_; have NB143_106 := n14_; have NB107_143 := n15_; have NB143_107 := n16_; have NB119_143 := n17_; have NB143_119 := n18_; have NB128_143 := n19_; have NB143_128 := n20_; have NB133_143 := n21_; have NB143_133 := n22_; have NB138_143 := n23_; have NB143_138 := n24_; clear n0_ n1_ n2_ n3_ n4_ n5_ n6_ n7_ n8_ n9_ n10_ n11_ n12_ n13_ n14_ n15_ n16_ n17_ n18_ n19_ n20_ n21_ n22_ n23_ n24_; clear hb hbox hg; have hnb290 := NB143_105.out; have hnc290 := NB105_143.out; have hnb291 := NB143_106.out; have hnc291 := NB106_143.out; have hnb292 := NB143_107.out; have hnc292 := NB107_143.out; have hnb293 := NB143_119.out; have hnc293 := NB119_143.out; have hnb294 := NB143_128.out; have hnc294 := NB128_143.out; have hnb295 := NB143_133.out; have hnc295 := NB133_143.out; have hnb296 := NB143_138.out; have hnc296 := NB138_143.out; obtain ⟨hcz297_0, hcz297_1, hcz297_2⟩ := blk3 BK143.out; have hfz297_0 := blk_frozen BK143.out 0; have hfz297_1 := blk_frozen BK143.out 1; have hfz297_2 := blk_frozen BK143.out 2; obtain ⟨hcz298_0, hcz298_1, hcz298_2⟩ := blk3 BK106.out; have hfz298_0 := blk_frozen BK106.out 0; have hfz298_1 := blk_frozen BK106.out 1; have hfz298_2 := blk_frozen BK106.out 2; obtain ⟨hcz299_0, hcz299_1, hcz299_2⟩ := blk3 BK107.out; have hfz299_0 := blk_frozen BK107.out 0; have hfz299_1 := blk_frozen BK107.out 1; have hfz299_2 := blk_frozen BK107.out 2) | ((with_reducible refine gate_callee (f := 29) rfl ?_); refine goesL_ (some 114) rfl rfl Tryz.func29 (by kernel_rfl) rfl #[.agg #[.bool a1_0, .string a1_1, .string a1_2], .agg #[.bool false, .string a2_1, .string a2_2]] rfl (by (try simp only [List.map_toArray, List.map_cons, List.map_nil]); first | done | rfl | (simp only [List.length_drop, List.length_take]; rfl)) ?_; (with_reducible refine (rational_Mul.calls a1_0 a1_1 a1_2 false a2_1 a2_2 t144 t145 t146 t147 _ ?side1 A169.out).mono ?_); (case side1 => exact Laid.below HLaid.out (BKS HB.out GE143.out)); rintro e w300 ⟨rfl, hb⟩; refine ⟨_, rfl, ?_⟩; have n0_ := Aside0.mk (blk_below (far3 BK105.out NB105_143.out) hb); have n1_ := Aside0.mk (blk_below (far3 BK106.out NB106_143.out) hb); have n2_ := Aside0.mk (blk_below (far3 BK107.out NB107_143.out) hb); have n3_ := Aside0.mk (blk_below (far3 BK119.out NB119_143.out) hb); have n4_ := Aside0.mk (blk_below (far3 BK128.out NB128_143.out) hb); have n5_ := Aside0.mk (blk_below (far3 BK133.out NB133_143.out) hb); have n6_ := Aside0.mk (blk_below (far3 BK138.out NB138_143.out) hb); have n7_ := Aside0.mk (blk_below (g := gb143) (o := .cells #[.bool t139, .string t140, .string t141] 24 (0, 0)) (by (with_reducible repeat (first | refine blk_drewN ?_ _ | refine blk_drew ?_ | refine blk_alloc ?_ _)); refine blk_put (cs := #[.bool t139, .string t140, .string (⟨#[]⟩ : ByteArray)]) ?_ 2 _ rfl; (with_reducible repeat (first | refine blk_drewN ?_ _ | refine blk_drew ?_ | refine blk_alloc ?_ _)); refine blk_put (cs := #[.bool t139, .string (⟨#[]⟩ : ByteArray), .string (⟨#[]⟩ : ByteArray)]) ?_ 1 _ rfl; (with_reducible repeat (first | refine blk_drewN ?_ _ | refine blk_drew ?_ | refine blk_alloc ?_ _)); refine blk_put (cs := #[.bool false, .string (⟨#[]⟩ : ByteArray), .string (⟨#[]⟩ : ByteArray)]) ?_ 0 _ rfl; (with_reducible repeat (first | refine blk_drewN ?_ _ | refine blk_drew ?_ | refine blk_alloc ?_ _)); exact BK143.out) hb); have n8_ := Aside0.mk (below_step (BKS HB.out GE143.out) hb); clear BK105; clear BK106; clear BK107; clear BK119; clear BK128; clear BK133; clear BK138; clear BK143; clear HB; have BK105 := n0_; have BK106 := n1_; have BK107 := n2_; have BK119 := n3_; have BK128 := n4_; have BK133 := n5_; have BK138 := n6_; have BK143 := n7_; have HB := n8_; clear n0_ n1_ n2_ n3_ n4_ n5_ n6_ n7_ n8_; (try clear hb)) | ((with_reducible refine gate_dst (N := 19) rfl ?_); refine box_event ?hg (N := 19) ?hd (cs := #[.bool false, .string (⟨#[]⟩ : ByteArray), .string (⟨#[]⟩ : ByteArray)]) (t := 24) ?hr ?_; (case hd => rfl); (case hg => rfl); (case hr => first | (go_simp; done) | (go_simp; rfl)); intro gb148 hg w301 hbox hb; have n0_ := Aside0.mk (blk_below (blk_later BK105.out) hb); have n1_ := Aside0.mk (blk_below (blk_later BK106.out) hb); have n2_ := Aside0.mk (blk_below (blk_later BK107.out) hb); have n3_ := Aside0.mk (blk_below (blk_later BK119.out) hb); have n4_ := Aside0.mk (blk_below (blk_later BK128.out) hb); have n5_ := Aside0.mk (blk_below (blk_later BK133.out) hb); have n6_ := Aside0.mk (blk_below (blk_later BK138.out) hb); have n7_ := Aside0.mk (blk_below (blk_later BK143.out) hb); have n8_ := Aside0.mk (below_step (by repeat (first | (with_reducible first | exact HB.out | apply below_alloc | apply pw_below_drewN | apply below_drew1 | refine below_set ?_ GE105.out | refine below_set ?_ GE106.out | refine below_set ?_ GE107.out | refine below_set ?_ GE119.out | refine below_set ?_ GE128.out | refine below_set ?_ GE133.out | refine below_set ?_ GE138.out | refine below_set ?_ GE143.out) | exact HB.out)) hb); have n9_ := Aside0.mk (hbox); have n10_ := Aside0.mk ((by rw [hg]; exact (below_size (by repeat (first | (with_reducible first | exact HB.out | apply below_alloc | apply pw_below_drewN | apply below_drew1 | refine below_set ?_ GE105.out | refine below_set ?_ GE106.out | refine below_set ?_ GE107.out | refine below_set ?_ GE119.out | refine below_set ?_ GE128.out | refine below_set ?_ GE133.out | refine below_set ?_ GE138.out | refine below_set ?_ GE143.out) | exact HB.out))) : w.heap.size ≤ gb148)); have n11_ := Aside0.mk ((by rw [hg]; exact (below_size (by repeat (first | (with_reducible first | exact HB.out | apply below_alloc | apply pw_below_drewN | apply below_drew1 | refine below_set ?_ GE105.out | refine below_set ?_ GE106.out | refine below_set ?_ GE107.out | refine below_set ?_ GE119.out | refine below_set ?_ GE128.out | refine below_set ?_ GE133.out | refine below_set ?_ GE138.out | refine below_set ?_ GE143.out) | exact HB.out))) : w.heap.size ≤ gb148)); have n12_ := Aside0.mk ((by rw [hg]; exact Nat.ne_of_lt (blk_lt (blk_later BK105.out)) : gb105 ≠ gb148)); have n13_ := Aside0.mk ((by rw [hg]; exact Nat.ne_of_gt (blk_lt (blk_later BK105.out)) : gb148 ≠ gb105)); have n14_ := Aside0.mk ((by rw [hg]; exact Nat.ne_of_lt (blk_lt (blk_later BK106.out)) : gb106 ≠ gb148)); have n15_ := Aside0.mk ((by rw [hg]; exact Nat.ne_of_gt (blk_lt (blk_later BK106.out)) : gb148 ≠ gb106)); have n16_ := Aside0.mk ((by rw [hg]; exact Nat.ne_of_lt (blk_lt (blk_later BK107.out)) : gb107 ≠ gb148)); have n17_ := Aside0.mk ((by rw [hg]; exact Nat.ne_of_gt (blk_lt (blk_later BK107.out)) : gb148 ≠ gb107)); have n18_ := Aside0.mk ((by rw [hg]; exact Nat.ne_of_lt (blk_lt (blk_later BK119.out)) : gb119 ≠ gb148)); have n19_ := Aside0.mk ((by rw [hg]; exact Nat.ne_of_gt (blk_lt (blk_later BK119.out)) : gb148 ≠ gb119)); have n20_ := Aside0.mk ((by rw [hg]; exact Nat.ne_of_lt (blk_lt (blk_later BK128.out)) : gb128 ≠ gb148)); have n21_ := Aside0.mk ((by rw [hg]; exact Nat.ne_of_gt (blk_lt (blk_later BK128.out)) : gb148 ≠ gb128)); have n22_ := Aside0.mk ((by rw [hg]; exact Nat.ne_of_lt (blk_lt (blk_later BK133.out)) : gb133 ≠ gb148)); have n23_ := Aside0.mk ((by rw [hg]; exact Nat.ne_of_gt (blk_lt (blk_later BK133.out)) : gb148 ≠ gb133)); have n24_ := Aside0.mk ((by rw [hg]; exact Nat.ne_of_lt (blk_lt (blk_later BK138.out)) : gb138 ≠ gb148)); have n25_ := Aside0.mk ((by rw [hg]; exact Nat.ne_of_gt (blk_lt (blk_later BK138.out)) : gb148 ≠ gb138)); have n26_ := Aside0.mk ((by rw [hg]; exact Nat.ne_of_lt (blk_lt (blk_later BK143.out)) : gb143 ≠ gb148)); have n27_ := Aside0.mk ((by rw [hg]; exact Nat.ne_of_gt (blk_lt (blk_later BK143.out)) : gb148 ≠ gb143)); clear BK105; clear BK106; clear BK107; clear BK119; clear BK128; clear BK133; clear BK138; clear BK143; clear HB; have BK105 := n0_; have BK106 := n1_; have BK107 := n2_; have BK119 := n3_; have BK128 := n4_; have BK133 := n5_; have BK138 := n6_; have BK143 := n7_; have HB := n8_; have BK148 := n9_; have GW148 := n10_; have GE148 := n11_; have NB105_148 := n12_; have NB148_105 := n13_; have NB106_148 := n14_; have NB148_106 := n15_; have NB107_148 := n16_; have NB148_107 := n17_; have NB119_148 := n18_; have NB148_119 := n19_; have NB128_148 := n20_; have NB148_128 := n21_; have NB133_148 := n22_; have NB148_133 := n23_; have NB138_148 := n24_; have NB148_138 := n25_; have NB143_148 := n26_; have NB148_143 := n27_; clear n0_ n1_ n2_ n3_ n4_ n5_ n6_ n7_ n8_ n9_ n10_ n11_ n12_ n13_ n14_ n15_ n16_ n17_ n18_ n19_ n20_ n21_ n22_ n23_ n24_ n25_ n26_ n27_; clear hb hbox hg; have hnb302 := NB148_105.out; have hnc302 := NB105_148.out; have hnb303 := NB148_106.out; have hnc303 := NB106_148.out; have hnb304 := NB148_107.out; have hnc304 := NB107_148.out; have hnb305 := NB148_119.out; have hnc305 := NB119_148.out; have hnb306 := NB148_128.out; have hnc306 := NB128_148.out; have hnb307 := NB148_133.out; have hnc307 := NB133_148.out; have hnb308 := NB148_138.out; have hnc308 := NB138_148.out; have hnb309 := NB148_143.out; have hnc309 := NB143_148.out; obtain ⟨hcz310_0, hcz310_1, hcz310_2⟩ := blk3 BK148.out; have hfz310_0 := blk_frozen BK148.out 0; have hfz310_1 := blk_frozen BK148.out 1; have hfz310_2 := blk_frozen BK148.out 2; obtain ⟨hcz311_0, hcz311_1, hcz311_2⟩ := blk3 BK128.out; have hfz311_0 := blk_frozen BK128.out 0; have hfz311_1 := blk_frozen BK128.out 1; have hfz311_2 := blk_frozen BK128.out 2; obtain ⟨hcz312_0, hcz312_1, hcz312_2⟩ := blk3 BK119.out; have hfz312_0 := blk_frozen BK119.out 0; have hfz312_1 := blk_frozen BK119.out 1; have hfz312_2 := blk_frozen BK119.out 2) | (go_at_call 23; (with_reducible refine (rational_Compare.calls t124 t125 t126 t116 t117 t118 t149 _ ?side1 A175.out).mono ?_); (case side1 => exact Laid.below HLaid.out (by repeat (first | (with_reducible first | exact HB.out | apply below_alloc | apply pw_below_drewN | apply below_drew1 | refine below_set ?_ GE105.out | refine below_set ?_ GE106.out | refine below_set ?_ GE107.out | refine below_set ?_ GE119.out | refine below_set ?_ GE128.out | refine below_set ?_ GE133.out | refine below_set ?_ GE138.out | refine below_set ?_ GE143.out | refine below_set ?_ GE148.out) | exact HB.out))); rintro e w313 ⟨rfl, hb⟩; have n0_ := Aside0.mk (blk_below (far3 BK105.out NB105_148.out) hb); have n1_ := Aside0.mk (blk_below (far3 BK106.out NB106_148.out) hb); have n2_ := Aside0.mk (blk_below (far3 BK107.out NB107_148.out) hb); have n3_ := Aside0.mk (blk_below (far3 BK119.out NB119_148.out) hb); have n4_ := Aside0.mk (blk_below (far3 BK128.out NB128_148.out) hb); have n5_ := Aside0.mk (blk_below (far3 BK133.out NB133_148.out) hb); have n6_ := Aside0.mk (blk_below (far3 BK138.out NB138_148.out) hb); have n7_ := Aside0.mk (blk_below (far3 BK143.out NB143_148.out) hb); have n8_ := Aside0.mk (blk_below (g := gb148) (o := .cells #[.bool t144, .string t145, .string t146] 24 (0, 0)) (by (with_reducible repeat (first | refine blk_drewN ?_ _ | refine blk_drew ?_ | refine blk_alloc ?_ _)); refine blk_put (cs := #[.bool t144, .string t145, .string (⟨#[]⟩ : ByteArray)]) ?_ 2 _ rfl; (with_reducible repeat (first | refine blk_drewN ?_ _ | refine blk_drew ?_ | refine blk_alloc ?_ _)); refine blk_put (cs := #[.bool t144, .string (⟨#[]⟩ : ByteArray), .string (⟨#[]⟩ : ByteArray)]) ?_ 1 _ rfl; (with_reducible repeat (first | refine blk_drewN ?_ _ | refine blk_drew ?_ | refine blk_alloc ?_ _)); refine blk_put (cs := #[.bool false, .string (⟨#[]⟩ : ByteArray), .string (⟨#[]⟩ : ByteArray)]) ?_ 0 _ rfl; (with_reducible repeat (first | refine blk_drewN ?_ _ | refine blk_drew ?_ | refine blk_alloc ?_ _)); exact BK148.out) hb); have n9_ := Aside0.mk (below_step (by repeat (first | (with_reducible first | exact HB.out | apply below_alloc | apply pw_below_drewN | apply below_drew1 | refine below_set ?_ GE105.out | refine below_set ?_ GE106.out | refine below_set ?_ GE107.out | refine below_set ?_ GE119.out | refine below_set ?_ GE128.out | refine below_set ?_ GE133.out | refine below_set ?_ GE138.out | refine below_set ?_ GE143.out | refine below_set ?_ GE148.out) | exact HB.out)) hb); clear BK105; clear BK106; clear BK107; clear BK119; clear BK128; clear BK133; clear BK138; clear BK143; clear BK148; clear HB; have BK105 := n0_; have BK106 := n1_; have BK107 := n2_; have BK119 := n3_; have BK128 := n4_; have BK133 := n5_; have BK138 := n6_; have BK143 := n7_; have BK148 := n8_; have HB := n9_; clear n0_ n1_ n2_ n3_ n4_ n5_ n6_ n7_ n8_ n9_; (try clear hb); obtain ⟨hcz314_0, hcz314_1, hcz314_2⟩ := blk3 BK133.out; have hfz314_0 := blk_frozen BK133.out 0; have hfz314_1 := blk_frozen BK133.out 1; have hfz314_2 := blk_frozen BK133.out 2; obtain ⟨hcz315_0, hcz315_1, hcz315_2⟩ := blk3 BK138.out; have hfz315_0 := blk_frozen BK138.out 0; have hfz315_1 := blk_frozen BK138.out 1; have hfz315_2 := blk_frozen BK138.out 2) | (go_at_call 23; (with_reducible refine (rational_Compare.calls t129 t130 t131 t134 t135 t136 t150 _ ?side1 A177.out).mono ?_); (case side1 => exact Laid.below HLaid.out (by repeat (first | (with_reducible first | exact HB.out | apply below_alloc | apply pw_below_drewN | apply below_drew1 | refine below_set ?_ GE105.out | refine below_set ?_ GE106.out | refine below_set ?_ GE107.out | refine below_set ?_ GE119.out | refine below_set ?_ GE128.out | refine below_set ?_ GE133.out | refine below_set ?_ GE138.out | refine below_set ?_ GE143.out | refine below_set ?_ GE148.out) | exact HB.out))); rintro e w316 ⟨rfl, hb⟩; have n0_ := Aside0.mk (blk_below (blk_later BK105.out) hb); have n1_ := Aside0.mk (blk_below (blk_later BK106.out) hb); have n2_ := Aside0.mk (blk_below (blk_later BK107.out) hb); have n3_ := Aside0.mk (blk_below (blk_later BK119.out) hb); have n4_ := Aside0.mk (blk_below (blk_later BK128.out) hb); have n5_ := Aside0.mk (blk_below (blk_later BK133.out) hb); have n6_ := Aside0.mk (blk_below (blk_later BK138.out) hb); have n7_ := Aside0.mk (blk_below (blk_later BK143.out) hb); have n8_ := Aside0.mk (blk_below (blk_later BK148.out) hb); have n9_ := Aside0.mk (below_step (by repeat (first | (with_reducible first | exact HB.out | apply below_alloc | apply pw_below_drewN | apply below_drew1 | refine below_set ?_ GE105.out | refine below_set ?_ GE106.out | refine below_set ?_ GE107.out | refine below_set ?_ GE119.out | refine below_set ?_ GE128.out | refine below_set ?_ GE133.out | refine below_set ?_ GE138.out | refine below_set ?_ GE143.out | refine below_set ?_ GE148.out) | exact HB.out)) hb); clear BK105; clear BK106; clear BK107; clear BK119; clear BK128; clear BK133; clear BK138; clear BK143; clear BK148; clear HB; have BK105 := n0_; have BK106 := n1_; have BK107 := n2_; have BK119 := n3_; have BK128 := n4_; have BK133 := n5_; have BK138 := n6_; have BK143 := n7_; have BK148 := n8_; have HB := n9_; clear n0_ n1_ n2_ n3_ n4_ n5_ n6_ n7_ n8_ n9_; (try clear hb); obtain ⟨hcz317_0, hcz317_1, hcz317_2⟩ := blk3 BK107.out; have hfz317_0 := blk_frozen BK107.out 0; have hfz317_1 := blk_frozen BK107.out 1; have hfz317_2 := blk_frozen BK107.out 2; obtain ⟨hcz318_0, hcz318_1, hcz318_2⟩ := blk3 BK119.out; have hfz318_0 := blk_frozen BK119.out 0; have hfz318_1 := blk_frozen BK119.out 1; have hfz318_2 := blk_frozen BK119.out 2))
                                  go_ret
                                  exact ⟨by first | rfl | (simp [errW_none, errW_some] <;> rfl) | (simp [*, errW_none, errW_some] <;> rfl), by repeat (first | (with_reducible first | exact HB.out | apply below_alloc | apply pw_below_drewN | apply below_drew1 | refine below_set ?_ GE105.out | refine below_set ?_ GE106.out | refine below_set ?_ GE107.out | refine below_set ?_ GE119.out | refine below_set ?_ GE128.out | refine below_set ?_ GE133.out | refine below_set ?_ GE138.out | refine below_set ?_ GE143.out | refine below_set ?_ GE148.out) | exact HB.out)⟩
                                · rw [if_neg c249] at H
                                  have c249b0 : (false == t116 && (a2_1.toList == t117.toList && (a2_2.toList == t118.toList))) = false := by simpa using c249
                                  have c249b4 : (!t116 && (a2_1.toList == t117.toList && (a2_2.toList == t118.toList))) = false := by rw [← c249b0]; simp
                                  (try (have c249b1 : decide (false = t116 && (a2_1.toList == t117.toList && (a2_2.toList == t118.toList))) = false := by simpa using c249))
                                  (try (have c249b2 : (false == t116 && (a2_1.toList == t117.toList && (a2_2.toList == t118.toList))) = false := by simpa using c249))
                                  (try (have c249b3 : ¬ (false = t116 && (a2_1.toList == t117.toList && (a2_2.toList == t118.toList))) := by simpa using c249))
                                  clear c249
                                  replace H := Option.bind_eq_some_iff.mp H
                                  obtain ⟨t151, A3190, H⟩ := H
                                  replace H : (some (t151 == t120)) = some r := H
                                  have A319 := Aside0.mk A3190
                                  clear A3190
                                  obtain rfl := Option.some.inj H
                                  have hnb320 := NB105_106.out
                                  have hnc320 := NB106_105.out
                                  have hnb321 := NB105_107.out
                                  have hnc321 := NB107_105.out
                                  have hnb322 := NB105_119.out
                                  have hnc322 := NB119_105.out
                                  obtain ⟨hcz323_0, hcz323_1, hcz323_2⟩ := blk3 BK105.out
                                  have hfz323_0 := blk_frozen BK105.out 0
                                  have hfz323_1 := blk_frozen BK105.out 1
                                  have hfz323_2 := blk_frozen BK105.out 2
                                  have hnb324 := NB106_107.out
                                  have hnc324 := NB107_106.out
                                  have hnb325 := NB106_119.out
                                  have hnc325 := NB119_106.out
                                  obtain ⟨hcz326_0, hcz326_1, hcz326_2⟩ := blk3 BK106.out
                                  have hfz326_0 := blk_frozen BK106.out 0
                                  have hfz326_1 := blk_frozen BK106.out 1
                                  have hfz326_2 := blk_frozen BK106.out 2
                                  go_wp2_with (first | ((with_reducible refine gate_callee (f := 27) rfl ?_); refine goesL_ (some 90) rfl rfl Tryz.func27 (by kernel_rfl) rfl #[.agg #[.bool a0_0, .string a0_1, .string a0_2], .agg #[.bool a1_0, .string a1_1, .string a1_2]] rfl (by (try simp only [List.map_toArray, List.map_cons, List.map_nil]); first | done | rfl | (simp only [List.length_drop, List.length_take]; rfl)) ?_; (with_reducible refine (rational_Sub.calls a0_0 a0_1 a0_2 a1_0 a1_1 a1_2 t124 t125 t126 t127 _ ?side1 A165.out).mono ?_); (case side1 => exact Laid.below HLaid.out (BK HB.out)); rintro e w327 ⟨rfl, hb⟩; refine ⟨_, rfl, ?_⟩; have n0_ := Aside0.mk (blk_below (blk_later BK105.out) hb); have n1_ := Aside0.mk (blk_below (blk_later BK106.out) hb); have n2_ := Aside0.mk (blk_below (blk_later BK107.out) hb); have n3_ := Aside0.mk (blk_below (blk_later BK119.out) hb); have n4_ := Aside0.mk (below_step (BK HB.out) hb); clear BK105; clear BK106; clear BK107; clear BK119; clear HB; have BK105 := n0_; have BK106 := n1_; have BK107 := n2_; have BK119 := n3_; have HB := n4_; clear n0_ n1_ n2_ n3_ n4_; (try clear hb)) | ((with_reducible refine gate_dst (N := 11) rfl ?_); refine box_event ?hg (N := 11) ?hd (cs := #[.bool false, .string (⟨#[]⟩ : ByteArray), .string (⟨#[]⟩ : ByteArray)]) (t := 24) ?hr ?_; (case hd => rfl); (case hg => rfl); (case hr => first | (go_simp; done) | (go_simp; rfl)); intro gb128 hg w328 hbox hb; have n0_ := Aside0.mk (blk_below (blk_later BK105.out) hb); have n1_ := Aside0.mk (blk_below (blk_later BK106.out) hb); have n2_ := Aside0.mk (blk_below (blk_later BK107.out) hb); have n3_ := Aside0.mk (blk_below (blk_later BK119.out) hb); have n4_ := Aside0.mk (below_step (BK HB.out) hb); have n5_ := Aside0.mk (hbox); have n6_ := Aside0.mk ((by rw [hg]; exact (below_size (BK HB.out)) : w.heap.size ≤ gb128)); have n7_ := Aside0.mk ((by rw [hg]; exact (below_size (BK HB.out)) : w.heap.size ≤ gb128)); have n8_ := Aside0.mk ((by rw [hg]; exact Nat.ne_of_lt (blk_lt (blk_later BK105.out)) : gb105 ≠ gb128)); have n9_ := Aside0.mk ((by rw [hg]; exact Nat.ne_of_gt (blk_lt (blk_later BK105.out)) : gb128 ≠ gb105)); have n10_ := Aside0.mk ((by rw [hg]; exact Nat.ne_of_lt (blk_lt (blk_later BK106.out)) : gb106 ≠ gb128)); have n11_ := Aside0.mk ((by rw [hg]; exact Nat.ne_of_gt (blk_lt (blk_later BK106.out)) : gb128 ≠ gb106)); have n12_ := Aside0.mk ((by rw [hg]; exact Nat.ne_of_lt (blk_lt (blk_later BK107.out)) : gb107 ≠ gb128)); have n13_ := Aside0.mk ((by rw [hg]; exact Nat.ne_of_gt (blk_lt (blk_later BK107.out)) : gb128 ≠ gb107)); have n14_ := Aside0.mk ((by rw [hg]; exact Nat.ne_of_lt (blk_lt (blk_later BK119.out)) : gb119 ≠ gb128)); have n15_ := Aside0.mk ((by rw [hg]; exact Nat.ne_of_gt (blk_lt (blk_later BK119.out)) : gb128 ≠ gb119)); clear BK105; clear BK106; clear BK107; clear BK119; clear HB; have BK105 := n0_; have BK106 := n1_; have BK107 := n2_; have BK119 := n3_; have HB := n4_; have BK128 := n5_; have GW128 := n6_; have GE128 := n7_; have NB105_128 := n8_; have NB128_105 := n9_; have NB106_128 := n10_; have NB128_106 := n11_; have NB107_128 := n12_; have NB128_107 := n13_; have NB119_128 := n14_; have NB128_119 := n15_; clear n0_ n1_ n2_ n3_ n4_ n5_ n6_ n7_ n8_ n9_ n10_ n11_ n12_ n13_ n14_ n15_; clear hb hbox hg; have hnb329 := NB128_105.out; have hnc329 := NB105_128.out; have hnb330 := NB128_106.out; have hnc330 := NB106_128.out; have hnb331 := NB128_107.out; have hnc331 := NB107_128.out; have hnb332 := NB128_119.out; have hnc332 := NB119_128.out; obtain ⟨hcz333_0, hcz333_1, hcz333_2⟩ := blk3 BK128.out; have hfz333_0 := blk_frozen BK128.out 0; have hfz333_1 := blk_frozen BK128.out 1; have hfz333_2 := blk_frozen BK128.out 2; obtain ⟨hcz334_0, hcz334_1, hcz334_2⟩ := blk3 BK105.out; have hfz334_0 := blk_frozen BK105.out 0; have hfz334_1 := blk_frozen BK105.out 1; have hfz334_2 := blk_frozen BK105.out 2; have hnb335 := NB107_119.out; have hnc335 := NB119_107.out; obtain ⟨hcz336_0, hcz336_1, hcz336_2⟩ := blk3 BK107.out; have hfz336_0 := blk_frozen BK107.out 0; have hfz336_1 := blk_frozen BK107.out 1; have hfz336_2 := blk_frozen BK107.out 2) | ((with_reducible refine gate_callee (f := 25) rfl ?_); refine goesL_ (some 96) rfl rfl Tryz.func25 (by kernel_rfl) rfl #[.agg #[.bool a0_0, .string a0_1, .string a0_2], .agg #[.bool false, .string a2_1, .string a2_2]] rfl (by (try simp only [List.map_toArray, List.map_cons, List.map_nil]); first | done | rfl | (simp only [List.length_drop, List.length_take]; rfl)) ?_; (with_reducible refine (rational_Add.calls a0_0 a0_1 a0_2 false a2_1 a2_2 t129 t130 t131 t132 _ ?side1 A166.out).mono ?_); (case side1 => exact Laid.below HLaid.out (BKS HB.out GE128.out)); rintro e w337 ⟨rfl, hb⟩; refine ⟨_, rfl, ?_⟩; have n0_ := Aside0.mk (blk_below (far3 BK105.out NB105_128.out) hb); have n1_ := Aside0.mk (blk_below (far3 BK106.out NB106_128.out) hb); have n2_ := Aside0.mk (blk_below (far3 BK107.out NB107_128.out) hb); have n3_ := Aside0.mk (blk_below (far3 BK119.out NB119_128.out) hb); have n4_ := Aside0.mk (blk_below (g := gb128) (o := .cells #[.bool t124, .string t125, .string t126] 24 (0, 0)) (by (with_reducible repeat (first | refine blk_drewN ?_ _ | refine blk_drew ?_ | refine blk_alloc ?_ _)); refine blk_put (cs := #[.bool t124, .string t125, .string (⟨#[]⟩ : ByteArray)]) ?_ 2 _ rfl; (with_reducible repeat (first | refine blk_drewN ?_ _ | refine blk_drew ?_ | refine blk_alloc ?_ _)); refine blk_put (cs := #[.bool t124, .string (⟨#[]⟩ : ByteArray), .string (⟨#[]⟩ : ByteArray)]) ?_ 1 _ rfl; (with_reducible repeat (first | refine blk_drewN ?_ _ | refine blk_drew ?_ | refine blk_alloc ?_ _)); refine blk_put (cs := #[.bool false, .string (⟨#[]⟩ : ByteArray), .string (⟨#[]⟩ : ByteArray)]) ?_ 0 _ rfl; (with_reducible repeat (first | refine blk_drewN ?_ _ | refine blk_drew ?_ | refine blk_alloc ?_ _)); exact BK128.out) hb); have n5_ := Aside0.mk (below_step (BKS HB.out GE128.out) hb); clear BK105; clear BK106; clear BK107; clear BK119; clear BK128; clear HB; have BK105 := n0_; have BK106 := n1_; have BK107 := n2_; have BK119 := n3_; have BK128 := n4_; have HB := n5_; clear n0_ n1_ n2_ n3_ n4_ n5_; (try clear hb)) | ((with_reducible refine gate_dst (N := 13) rfl ?_); refine box_event ?hg (N := 13) ?hd (cs := #[.bool false, .string (⟨#[]⟩ : ByteArray), .string (⟨#[]⟩ : ByteArray)]) (t := 24) ?hr ?_; (case hd => rfl); (case hg => rfl); (case hr => first | (go_simp; done) | (go_simp; rfl)); intro gb133 hg w338 hbox hb; have n0_ := Aside0.mk (blk_below (blk_later BK105.out) hb); have n1_ := Aside0.mk (blk_below (blk_later BK106.out) hb); have n2_ := Aside0.mk (blk_below (blk_later BK107.out) hb); have n3_ := Aside0.mk (blk_below (blk_later BK119.out) hb); have n4_ := Aside0.mk (blk_below (blk_later BK128.out) hb); have n5_ := Aside0.mk (below_step (BK HB.out) hb); have n6_ := Aside0.mk (hbox); have n7_ := Aside0.mk ((by rw [hg]; exact (below_size (BK HB.out)) : w.heap.size ≤ gb133)); have n8_ := Aside0.mk ((by rw [hg]; exact (below_size (BK HB.out)) : w.heap.size ≤ gb133)); have n9_ := Aside0.mk ((by rw [hg]; exact Nat.ne_of_lt (blk_lt (blk_later BK105.out)) : gb105 ≠ gb133)); have n10_ := Aside0.mk ((by rw [hg]; exact Nat.ne_of_gt (blk_lt (blk_later BK105.out)) : gb133 ≠ gb105)); have n11_ := Aside0.mk ((by rw [hg]; exact Nat.ne_of_lt (blk_lt (blk_later BK106.out)) : gb106 ≠ gb133)); have n12_ := Aside0.mk ((by rw [hg]; exact Nat.ne_of_gt (blk_lt (blk_later BK106.out)) : gb133 ≠ gb106)); have n13_ := Aside0.mk ((by rw [hg]; exact Nat.ne_of_lt (blk_lt (blk_later BK107.out)) : gb107 ≠ gb133)); have n14_ := Aside0.mk ((by rw [hg]; exact Nat.ne_of_gt (blk_lt (blk_later BK107.out)) : gb133 ≠ gb107)); have n15_ := Aside0.mk ((by rw [hg]; exact Nat.ne_of_lt (blk_lt (blk_later BK119.out)) : gb119 ≠ gb133)); have n16_ := Aside0.mk ((by rw [hg]; exact Nat.ne_of_gt (blk_lt (blk_later BK119.out)) : gb133 ≠ gb119)); have n17_ := Aside0.mk ((by rw [hg]; exact Nat.ne_of_lt (blk_lt (blk_later BK128.out)) : gb128 ≠ gb133)); have n18_ := Aside0.mk ((by rw [hg]; exact Nat.ne_of_gt (blk_lt (blk_later BK128.out)) : gb133 ≠ gb128)); clear BK105; clear BK106; clear BK107; clear BK119; clear BK128; clear HB; have BK105 := n0_; have BK106 := n1_; have BK107 := n2_; have BK119 := n3_; have BK128 := n4_; have HB := n5_; have BK133 := n6_; have GW133 := n7_; have GE133 := n8_; have NB105_133 := n9_; have NB133_105 := n10_; have NB106_133 := n11_; have NB133_106 := n12_; have NB107_133 := n13_; have NB133_107 := n14_; have NB119_133 := n15_; have NB133_119 := n16_; have NB128_133 := n17_; have NB133_128 := n18_; clear n0_ n1_ n2_ n3_ n4_ n5_ n6_ n7_ n8_ n9_ n10_ n11_ n12_ n13_ n14_ n15_ n16_ n17_ n18_; clear hb hbox hg; have hnb339 := NB133_105.out; have hnc339 := NB105_133.out; have hnb340 := NB133_106.out; have hnc340 := NB106_133.out; have hnb341 := NB133_107.out; have hnc341 := NB107_133.out; have hnb342 := NB133_119.out; have hnc342 := NB119_133.out; have hnb343 := NB133_128.out; have hnc343 := NB128_133.out; obtain ⟨hcz344_0, hcz344_1, hcz344_2⟩ := blk3 BK133.out; have hfz344_0 := blk_frozen BK133.out 0; have hfz344_1 := blk_frozen BK133.out 1; have hfz344_2 := blk_frozen BK133.out 2; obtain ⟨hcz345_0, hcz345_1, hcz345_2⟩ := blk3 BK106.out; have hfz345_0 := blk_frozen BK106.out 0; have hfz345_1 := blk_frozen BK106.out 1; have hfz345_2 := blk_frozen BK106.out 2; obtain ⟨hcz346_0, hcz346_1, hcz346_2⟩ := blk3 BK107.out; have hfz346_0 := blk_frozen BK107.out 0; have hfz346_1 := blk_frozen BK107.out 1; have hfz346_2 := blk_frozen BK107.out 2) | ((with_reducible refine gate_callee (f := 25) rfl ?_); refine goesL_ (some 102) rfl rfl Tryz.func25 (by kernel_rfl) rfl #[.agg #[.bool a1_0, .string a1_1, .string a1_2], .agg #[.bool false, .string a2_1, .string a2_2]] rfl (by (try simp only [List.map_toArray, List.map_cons, List.map_nil]); first | done | rfl | (simp only [List.length_drop, List.length_take]; rfl)) ?_; (with_reducible refine (rational_Add.calls a1_0 a1_1 a1_2 false a2_1 a2_2 t134 t135 t136 t137 _ ?side1 A167.out).mono ?_); (case side1 => exact Laid.below HLaid.out (BKS HB.out GE133.out)); rintro e w347 ⟨rfl, hb⟩; refine ⟨_, rfl, ?_⟩; have n0_ := Aside0.mk (blk_below (far3 BK105.out NB105_133.out) hb); have n1_ := Aside0.mk (blk_below (far3 BK106.out NB106_133.out) hb); have n2_ := Aside0.mk (blk_below (far3 BK107.out NB107_133.out) hb); have n3_ := Aside0.mk (blk_below (far3 BK119.out NB119_133.out) hb); have n4_ := Aside0.mk (blk_below (far3 BK128.out NB128_133.out) hb); have n5_ := Aside0.mk (blk_below (g := gb133) (o := .cells #[.bool t129, .string t130, .string t131] 24 (0, 0)) (by (with_reducible repeat (first | refine blk_drewN ?_ _ | refine blk_drew ?_ | refine blk_alloc ?_ _)); refine blk_put (cs := #[.bool t129, .string t130, .string (⟨#[]⟩ : ByteArray)]) ?_ 2 _ rfl; (with_reducible repeat (first | refine blk_drewN ?_ _ | refine blk_drew ?_ | refine blk_alloc ?_ _)); refine blk_put (cs := #[.bool t129, .string (⟨#[]⟩ : ByteArray), .string (⟨#[]⟩ : ByteArray)]) ?_ 1 _ rfl; (with_reducible repeat (first | refine blk_drewN ?_ _ | refine blk_drew ?_ | refine blk_alloc ?_ _)); refine blk_put (cs := #[.bool false, .string (⟨#[]⟩ : ByteArray), .string (⟨#[]⟩ : ByteArray)]) ?_ 0 _ rfl; (with_reducible repeat (first | refine blk_drewN ?_ _ | refine blk_drew ?_ | refine blk_alloc ?_ _)); exact BK133.out) hb); have n6_ := Aside0.mk (below_step (BKS HB.out GE133.out) hb); clear BK105; clear BK106; clear BK107; clear BK119; clear BK128; clear BK133; clear HB; have BK105 := n0_; have BK106 := n1_; have BK107 := n2_; have BK119 := n3_; have BK128 := n4_; have BK133 := n5_; have HB := n6_; clear n0_ n1_ n2_ n3_ n4_ n5_ n6_; (try clear hb)) | ((with_reducible refine gate_dst (N := 15) rfl ?_); refine box_event ?hg (N := 15) ?hd (cs := #[.bool false, .string (⟨#[]⟩ : ByteArray), .string (⟨#[]⟩ : ByteArray)]) (t := 24) ?hr ?_; (case hd => rfl); (case hg => rfl); (case hr => first | (go_simp; done) | (go_simp; rfl)); intro gb138 hg w348 hbox hb; have n0_ := Aside0.mk (blk_below (blk_later BK105.out) hb); have n1_ := Aside0.mk (blk_below (blk_later BK106.out) hb); have n2_ := Aside0.mk (blk_below (blk_later BK107.out) hb); have n3_ := Aside0.mk (blk_below (blk_later BK119.out) hb); have n4_ := Aside0.mk (blk_below (blk_later BK128.out) hb); have n5_ := Aside0.mk (blk_below (blk_later BK133.out) hb); have n6_ := Aside0.mk (below_step (BK HB.out) hb); have n7_ := Aside0.mk (hbox); have n8_ := Aside0.mk ((by rw [hg]; exact (below_size (BK HB.out)) : w.heap.size ≤ gb138)); have n9_ := Aside0.mk ((by rw [hg]; exact (below_size (BK HB.out)) : w.heap.size ≤ gb138)); have n10_ := Aside0.mk ((by rw [hg]; exact Nat.ne_of_lt (blk_lt (blk_later BK105.out)) : gb105 ≠ gb138)); have n11_ := Aside0.mk ((by rw [hg]; exact Nat.ne_of_gt (blk_lt (blk_later BK105.out)) : gb138 ≠ gb105)); have n12_ := Aside0.mk ((by rw [hg]; exact Nat.ne_of_lt (blk_lt (blk_later BK106.out)) : gb106 ≠ gb138)); have n13_ := Aside0.mk ((by rw [hg]; exact Nat.ne_of_gt (blk_lt (blk_later BK106.out)) : gb138 ≠ gb106)); have n14_ := Aside0.mk ((by rw [hg]; exact Nat.ne_of_lt (blk_lt (blk_later BK107.out)) : gb107 ≠ gb138)); have n15_ := Aside0.mk ((by rw [hg]; exact Nat.ne_of_gt (blk_lt (blk_later BK107.out)) : gb138 ≠ gb107)); have n16_ := Aside0.mk ((by rw [hg]; exact Nat.ne_of_lt (blk_lt (blk_later BK119.out)) : gb119 ≠ gb138)); have n17_ := Aside0.mk ((by rw [hg]; exact Nat.ne_of_gt (blk_lt (blk_later BK119.out)) : gb138 ≠ gb119)); have n18_ := Aside0.mk ((by rw [hg]; exact Nat.ne_of_lt (blk_lt (blk_later BK128.out)) : gb128 ≠ gb138)); have n19_ := Aside0.mk ((by rw [hg]; exact Nat.ne_of_gt (blk_lt (blk_later BK128.out)) : gb138 ≠ gb128)); have n20_ := Aside0.mk ((by rw [hg]; exact Nat.ne_of_lt (blk_lt (blk_later BK133.out)) : gb133 ≠ gb138)); have n21_ := Aside0.mk ((by rw [hg]; exact Nat.ne_of_gt (blk_lt (blk_later BK133.out)) : gb138 ≠ gb133)); clear BK105; clear BK106; clear BK107; clear BK119; clear BK128; clear BK133; clear HB; have BK105 := n0_; have BK106 := n1_; have BK107 := n2_; have BK119 := n3_; have BK128 := n4_; have BK133 := n5_; have HB := n6_; have BK138 := n7_; have GW138 := n8_; have GE138 := n9_; have NB105_138 := n10_; have NB138_105 := n11_; have NB106_138 := n12_; have NB138_106 := n13_; have NB107_138 := n14_; have NB138_107 := n15_; have NB119_138 := n16_; have NB138_119 := n17_; have NB128_138 := n18_; have NB138_128 := n19_; have NB133_138 := n20_; have NB138_133 := n21_; clear n0_ n1_ n2_ n3_ n4_ n5_ n6_ n7_ n8_ n9_ n10_ n11_ n12_ n13_ n14_ n15_ n16_ n17_ n18_ n19_ n20_ n21_; clear hb hbox hg; have hnb349 := NB138_105.out; have hnc349 := NB105_138.out; have hnb350 := NB138_106.out; have hnc350 := NB106_138.out; have hnb351 := NB138_107.out; have hnc351 := NB107_138.out; have hnb352 := NB138_119.out; have hnc352 := NB119_138.out; have hnb353 := NB138_128.out; have hnc353 := NB128_138.out; have hnb354 := NB138_133.out; have hnc354 := NB133_138.out; obtain ⟨hcz355_0, hcz355_1, hcz355_2⟩ := blk3 BK138.out; have hfz355_0 := blk_frozen BK138.out 0; have hfz355_1 := blk_frozen BK138.out 1; have hfz355_2 := blk_frozen BK138.out 2; obtain ⟨hcz356_0, hcz356_1, hcz356_2⟩ := blk3 BK105.out; have hfz356_0 := blk_frozen BK105.out 0; have hfz356_1 := blk_frozen BK105.out 1; have hfz356_2 := blk_frozen BK105.out 2; obtain ⟨hcz357_0, hcz357_1, hcz357_2⟩ := blk3 BK107.out; have hfz357_0 := blk_frozen BK107.out 0; have hfz357_1 := blk_frozen BK107.out 1; have hfz357_2 := blk_frozen BK107.out 2) | ((with_reducible refine gate_callee (f := 29) rfl ?_); refine goesL_ (some 108) rfl rfl Tryz.func29 (by kernel_rfl) rfl #[.agg #[.bool a0_0, .string a0_1, .string a0_2], .agg #[.bool false, .string a2_1, .string a2_2]] rfl (by (try simp only [List.map_toArray, List.map_cons, List.map_nil]); first | done | rfl | (simp only [List.length_drop, List.length_take]; rfl)) ?_; (with_reducible refine (rational_Mul.calls a0_0 a0_1 a0_2 false a2_1 a2_2 t139 t140 t141 t142 _ ?side1 A168.out).mono ?_); (case side1 => exact Laid.below HLaid.out (BKS HB.out GE138.out)); rintro e w358 ⟨rfl, hb⟩; refine ⟨_, rfl, ?_⟩; have n0_ := Aside0.mk (blk_below (far3 BK105.out NB105_138.out) hb); have n1_ := Aside0.mk (blk_below (far3 BK106.out NB106_138.out) hb); have n2_ := Aside0.mk (blk_below (far3 BK107.out NB107_138.out) hb); have n3_ := Aside0.mk (blk_below (far3 BK119.out NB119_138.out) hb); have n4_ := Aside0.mk (blk_below (far3 BK128.out NB128_138.out) hb); have n5_ := Aside0.mk (blk_below (far3 BK133.out NB133_138.out) hb); have n6_ := Aside0.mk (blk_below (g := gb138) (o := .cells #[.bool t134, .string t135, .string t136] 24 (0, 0)) (by (with_reducible repeat (first | refine blk_drewN ?_ _ | refine blk_drew ?_ | refine blk_alloc ?_ _)); refine blk_put (cs := #[.bool t134, .string t135, .string (⟨#[]⟩ : ByteArray)]) ?_ 2 _ rfl; (with_reducible repeat (first | refine blk_drewN ?_ _ | refine blk_drew ?_ | refine blk_alloc ?_ _)); refine blk_put (cs := #[.bool t134, .string (⟨#[]⟩ : ByteArray), .string (⟨#[]⟩ : ByteArray)]) ?_ 1 _ rfl; (with_reducible repeat (first | refine blk_drewN ?_ _ | refine blk_drew ?_ | refine blk_alloc ?_ _)); refine blk_put (cs := #[.bool false, .string (⟨#[]⟩ : ByteArray), .string (⟨#[]⟩ : ByteArray)]) ?_ 0 _ rfl; (with_reducible repeat (first | refine blk_drewN ?_ _ | refine blk_drew ?_ | refine blk_alloc ?_ _)); exact BK138.out) hb); have n7_ := Aside0.mk (below_step (BKS HB.out GE138.out) hb); clear BK105; clear BK106; clear BK107; clear BK119; clear BK128; clear BK133; clear BK138; clear HB; have BK105 := n0_; have BK106 := n1_; have BK107 := n2_; have BK119 := n3_; have BK128 := n4_; have BK133 := n5_; have BK138 := n6_; have HB := n7_; clear n0_ n1_ n2_ n3_ n4_ n5_ n6_ n7_; (try clear hb)) | ((with_reducible refine gate_dst (N := 17) rfl ?_); refine box_event ?hg (N := 17) ?hd (cs := #[.bool false, .string (⟨#[]⟩ : ByteArray), .string (⟨#[]⟩ : ByteArray)]) (t := 24) ?hr ?_; (case hd => rfl); (case hg => rfl); (case hr => first | (go_simp; done) | (go_simp; rfl)); intro gb143 hg w359 hbox hb; have n0_ := Aside0.mk (blk_below (blk_later BK105.out) hb); have n1_ := Aside0.mk (blk_below (blk_later BK106.out) hb); have n2_ := Aside0.mk (blk_below (blk_later BK107.out) hb); have n3_ := Aside0.mk (blk_below (blk_later BK119.out) hb); have n4_ := Aside0.mk (blk_below (blk_later BK128.out) hb); have n5_ := Aside0.mk (blk_below (blk_later BK133.out) hb); have n6_ := Aside0.mk (blk_below (blk_later BK138.out) hb); have n7_ := Aside0.mk (below_step (BK HB.out) hb); have n8_ := Aside0.mk (hbox); have n9_ := Aside0.mk ((by rw [hg]; exact (below_size (BK HB.out)) : w.heap.size ≤ gb143)); have n10_ := Aside0.mk ((by rw [hg]; exact (below_size (BK HB.out)) : w.heap.size ≤ gb143)); have n11_ := Aside0.mk ((by rw [hg]; exact Nat.ne_of_lt (blk_lt (blk_later BK105.out)) : gb105 ≠ gb143)); have n12_ := Aside0.mk ((by rw [hg]; exact Nat.ne_of_gt (blk_lt (blk_later BK105.out)) : gb143 ≠ gb105)); have n13_ := Aside0.mk ((by rw [hg]; exact Nat.ne_of_lt (blk_lt (blk_later BK106.out)) : gb106 ≠ gb143)); have n14_ := Aside0.mk ((by rw [hg]; exact Nat.ne_of_gt (blk_lt (blk_later BK106.out)) : gb143 ≠ gb106)); have n15_ := Aside0.mk ((by rw [hg]; exact Nat.ne_of_lt (blk_lt (blk_later BK107.out)) : gb107 ≠ gb143)); have n16_ := Aside0.mk ((by rw [hg]; exact Nat.ne_of_gt (blk_lt (blk_later BK107.out)) : gb143 ≠ gb107)); have n17_ := Aside0.mk ((by rw [hg]; exact Nat.ne_of_lt (blk_lt (blk_later BK119.out)) : gb119 ≠ gb143)); have n18_ := Aside0.mk ((by rw [hg]; exact Nat.ne_of_gt (blk_lt (blk_later BK119.out)) : gb143 ≠ gb119)); have n19_ := Aside0.mk ((by rw [hg]; exact Nat.ne_of_lt (blk_lt (blk_later BK128.out)) : gb128 ≠ gb143)); have n20_ := Aside0.mk ((by rw [hg]; exact Nat.ne_of_gt (blk_lt (blk_later BK128.out)) : gb143 ≠ gb128)); have n21_ := Aside0.mk ((by rw [hg]; exact Nat.ne_of_lt (blk_lt (blk_later BK133.out)) : gb133 ≠ gb143)); have n22_ := Aside0.mk ((by rw [hg]; exact Nat.ne_of_gt (blk_lt (blk_later BK133.out)) : gb143 ≠ gb133)); have n23_ := Aside0.mk ((by rw [hg]; exact Nat.ne_of_lt (blk_lt (blk_later BK138.out)) : gb138 ≠ gb143)); have n24_ := Aside0.mk ((by rw [hg]; exact Nat.ne_of_gt (blk_lt (blk_later BK138.out)) : gb143 ≠ gb138)); clear BK105; clear BK106; clear BK107; clear BK119; clear BK128; clear BK133; clear BK138; clear HB; have BK105 := n0_; have BK106 := n1_; have BK107 := n2_; have BK119 := n3_; have BK128 := n4_; have BK133 := n5_; have BK138 := n6_; have HB := n7_; have BK143 := n8_; have GW143 := n9_; have GE143 := n10_; have NB105_143 := n11_; have NB143_105 := n12_; have NB106_143 := n13_; have NB143_106 := n14_; have NB107_143 := n15_; have NB143_107 := n16_; have NB119_143 := n17_; have NB143_119 := n18_; have NB128_143 := n19_; have NB143_128 := n20_; have NB133_143 := n21_; have NB143_133 := n22_; have NB138_143 := n23_; have NB143_138 := n24_; clear n0_ n1_ n2_ n3_ n4_ n5_ n6_ n7_ n8_ n9_ n10_ n11_ n12_ n13_ n14_ n15_ n16_ n17_ n18_ n19_ n20_ n21_ n22_ n23_ n24_; clear hb hbox hg; have hnb360 := NB143_105.out; have hnc360 := NB105_143.out; have hnb361 := NB143_106.out; have hnc361 := NB106_143.out; have hnb362 := NB143_107.out; have hnc362 := NB107_143.out; have hnb363 := NB143_119.out; have hnc363 := NB119_143.out; have hnb364 := NB143_128.out; have hnc364 := NB128_143.out; have hnb365 := NB143_133.out; have hnc365 := NB133_143.out; have hnb366 := NB143_138.out; have hnc366 := NB138_143.out; obtain ⟨hcz367_0, hcz367_1, hcz367_2⟩ := blk3 BK143.out; have hfz367_0 := blk_frozen BK143.out 0; have hfz367_1 := blk_frozen BK143.out 1; have hfz367_2 := blk_frozen BK143.out 2; obtain ⟨hcz368_0, hcz368_1, hcz368_2⟩ := blk3 BK106.out; have hfz368_0 := blk_frozen BK106.out 0; have hfz368_1 := blk_frozen BK106.out 1; have hfz368_2 := blk_frozen BK106.out 2; obtain ⟨hcz369_0, hcz369_1, hcz369_2⟩ := blk3 BK107.out; have hfz369_0 := blk_frozen BK107.out 0; have hfz369_1 := blk_frozen BK107.out 1; have hfz369_2 := blk_frozen BK107.out 2) | ((with_reducible refine gate_callee (f := 29) rfl ?_); refine goesL_ (some 114) rfl rfl Tryz.func29 (by kernel_rfl) rfl #[.agg #[.bool a1_0, .string a1_1, .string a1_2], .agg #[.bool false, .string a2_1, .string a2_2]] rfl (by (try simp only [List.map_toArray, List.map_cons, List.map_nil]); first | done | rfl | (simp only [List.length_drop, List.length_take]; rfl)) ?_; (with_reducible refine (rational_Mul.calls a1_0 a1_1 a1_2 false a2_1 a2_2 t144 t145 t146 t147 _ ?side1 A169.out).mono ?_); (case side1 => exact Laid.below HLaid.out (BKS HB.out GE143.out)); rintro e w370 ⟨rfl, hb⟩; refine ⟨_, rfl, ?_⟩; have n0_ := Aside0.mk (blk_below (far3 BK105.out NB105_143.out) hb); have n1_ := Aside0.mk (blk_below (far3 BK106.out NB106_143.out) hb); have n2_ := Aside0.mk (blk_below (far3 BK107.out NB107_143.out) hb); have n3_ := Aside0.mk (blk_below (far3 BK119.out NB119_143.out) hb); have n4_ := Aside0.mk (blk_below (far3 BK128.out NB128_143.out) hb); have n5_ := Aside0.mk (blk_below (far3 BK133.out NB133_143.out) hb); have n6_ := Aside0.mk (blk_below (far3 BK138.out NB138_143.out) hb); have n7_ := Aside0.mk (blk_below (g := gb143) (o := .cells #[.bool t139, .string t140, .string t141] 24 (0, 0)) (by (with_reducible repeat (first | refine blk_drewN ?_ _ | refine blk_drew ?_ | refine blk_alloc ?_ _)); refine blk_put (cs := #[.bool t139, .string t140, .string (⟨#[]⟩ : ByteArray)]) ?_ 2 _ rfl; (with_reducible repeat (first | refine blk_drewN ?_ _ | refine blk_drew ?_ | refine blk_alloc ?_ _)); refine blk_put (cs := #[.bool t139, .string (⟨#[]⟩ : ByteArray), .string (⟨#[]⟩ : ByteArray)]) ?_ 1 _ rfl; (with_reducible repeat (first | refine blk_drewN ?_ _ | refine blk_drew ?_ | refine blk_alloc ?_ _)); refine blk_put (cs := #[.bool false, .string (⟨#[]⟩ : ByteArray), .string (⟨#[]⟩ : ByteArray)]) ?_ 0 _ rfl; (with_reducible repeat (first | refine blk_drewN ?_ _ | refine blk_drew ?_ | refine blk_alloc ?_ _)); exact BK143.out) hb); have n8_ := Aside0.mk (below_step (BKS HB.out GE143.out) hb); clear BK105; clear BK106; clear BK107; clear BK119; clear BK128; clear BK133; clear BK138; clear BK143; clear HB; have BK105 := n0_; have BK106 := n1_; have BK107 := n2_; have BK119 := n3_; have BK128 := n4_; have BK133 := n5_; have BK138 := n6_; have BK143 := n7_; have HB := n8_; clear n0_ n1_ n2_ n3_ n4_ n5_ n6_ n7_ n8_; (try clear hb)) | ((with_reducible refine gate_dst (N := 19) rfl ?_); refine box_event ?hg (N := 19) ?hd (cs := #[.bool false, .string (⟨#[]⟩ : ByteArray), .string (⟨#[]⟩ : ByteArray)]) (t := 24) ?hr ?_; (case hd => rfl); (case hg => rfl); (case hr => first | (go_simp; done) | (go_simp; rfl)); intro gb148 hg w371 hbox hb; have n0_ := Aside0.mk (blk_below (blk_later BK105.out) hb); have n1_ := Aside0.mk (blk_below (blk_later BK106.out) hb); have n2_ := Aside0.mk (blk_below (blk_later BK107.out) hb); have n3_ := Aside0.mk (blk_below (blk_later BK119.out) hb); have n4_ := Aside0.mk (blk_below (blk_later BK128.out) hb); have n5_ := Aside0.mk (blk_below (blk_later BK133.out) hb); have n6_ := Aside0.mk (blk_below (blk_later BK138.out) hb); have n7_ := Aside0.mk (blk_below (blk_later BK143.out) hb); have n8_ := Aside0.mk (below_step (by repeat (first | (with_reducible first | exact HB.out | apply below_alloc | apply pw_below_drewN | apply below_drew1 | refine below_set ?_ GE105.out | refine below_set ?_ GE106.out | refine below_set ?_ GE107.out | refine below_set ?_ GE119.out | refine below_set ?_ GE128.out | refine below_set ?_ GE133.out | refine below_set ?_ GE138.out | refine below_set ?_ GE143.out) | exact HB.out)) hb); have n9_ := Aside0.mk (hbox); have n10_ := Aside0.mk ((by rw [hg]; exact (below_size (by repeat (first | (with_reducible first | exact HB.out | apply below_alloc | apply pw_below_drewN | apply below_drew1 | refine below_set ?_ GE105.out | refine below_set ?_ GE106.out | refine below_set ?_ GE107.out | refine below_set ?_ GE119.out | refine below_set ?_ GE128.out | refine below_set ?_ GE133.out | refine below_set ?_ GE138.out | refine below_set ?_ GE143.out) | exact HB.out))) : w.heap.size ≤ gb148)); have n11_ := Aside0.mk ((by rw [hg]; exact (below_size (by repeat (first | (with_reducible first | exact HB.out | apply below_alloc | apply pw_below_drewN | apply below_drew1 | refine below_set ?_ GE105.out | refine below_set ?_ GE106.out | refine below_set ?_ GE107.out | refine below_set ?_ GE119.out | refine below_set ?_ GE128.out | refine below_set ?_ GE133.out | refine below_set ?_ GE138.out | refine below_set ?_ GE143.out) | exact HB.out))) : w.heap.size ≤ gb148)); have n12_ := Aside0.mk ((by rw [hg]; exact Nat.ne_of_lt (blk_lt (blk_later BK105.out)) : gb105 ≠ gb148)); have n13_ := Aside0.mk ((by rw [hg]; exact Nat.ne_of_gt (blk_lt (blk_later BK105.out)) : gb148 ≠ gb105)); have n14_ := Aside0.mk ((by rw [hg]; exact Nat.ne_of_lt (blk_lt (blk_later BK106.out)) : gb106 ≠ gb148)); have n15_ := Aside0.mk ((by rw [hg]; exact Nat.ne_of_gt (blk_lt (blk_later BK106.out)) : gb148 ≠ gb106)); have n16_ := Aside0.mk ((by rw [hg]; exact Nat.ne_of_lt (blk_lt (blk_later BK107.out)) : gb107 ≠ gb148)); have n17_ := Aside0.mk ((by rw [hg]; exact Nat.ne_of_gt (blk_lt (blk_later BK107.out)) : gb148 ≠ gb107)); have n18_ := Aside0.mk ((by rw [hg]; exact Nat.ne_of_lt (blk_lt (blk_later BK119.out)) : gb119 ≠ gb148)); have n19_ := Aside0.mk ((by rw [hg]; exact Nat.ne_of_gt (blk_lt (blk_later BK119.out)) : gb148 ≠ gb119)); have n20_ := Aside0.mk ((by rw [hg]; exact Nat.ne_of_lt (blk_lt (blk_later BK128.out)) : gb128 ≠ gb148)); have n21_ := Aside0.mk ((by rw [hg]; exact Nat.ne_of_gt (blk_lt (blk_later BK128.out)) : gb148 ≠ gb128)); have n22_ := Aside0.mk ((by rw [hg]; exact Nat.ne_of_lt (blk_lt (blk_later BK133.out)) : gb133 ≠ gb148)); have n23_ := Aside0.mk ((by rw [hg]; exact Nat.ne_of_gt (blk_lt (blk_later BK133.out)) : gb148 ≠ gb133)); have n24_ := Aside0.mk ((by rw [hg]; exact Nat.ne_of_lt (blk_lt (blk_later BK138.out)) : gb138 ≠ gb148)); have n25_ := Aside0.mk ((by rw [hg]; exact Nat.ne_of_gt (blk_lt (blk_later BK138.out)) : gb148 ≠ gb138)); have n26_ := Aside0.mk ((by rw [hg]; exact Nat.ne_of_lt (blk_lt (blk_later BK143.out)) : gb143 ≠ gb148)); have n27_ := Aside0.mk ((by rw [hg]; exact Nat.ne_of_gt (blk_lt (blk_later BK143.out)) : gb148 ≠ gb143)); clear BK105; clear BK106; clear BK107; clear BK119; clear BK128; clear BK133; clear BK138; clear BK143; clear HB; have BK105 := n0_; have BK106 := n1_; have BK107 := n2_; have BK119 := n3_; have BK128 := n4_; have BK133 := n5_; have BK138 := n6_; have BK143 := n7_; have HB := n8_; have BK148 := n9_; have GW148 := n10_; have GE148 := n11_; have NB105_148 := n12_; have NB148_105 := n13_; have NB106_148 := n14_; have NB148_106 := n15_; have NB107_148 := n16_; have NB148_107 := n17_; have NB119_148 := n18_; have NB148_119 := n19_; have NB128_148 := n20_; have NB148_128 := n21_; have NB133_148 := n22_; have NB148_133 := n23_; have NB138_148 := n24_; have NB148_138 := n25_; have NB143_148 := n26_; have NB148_143 := n27_; clear n0_ n1_ n2_ n3_ n4_ n5_ n6_ n7_ n8_ n9_ n10_ n11_ n12_ n13_ n14_ n15_ n16_ n17_ n18_ n19_ n20_ n21_ n22_ n23_ n24_ n25_ n26_ n27_; clear hb hbox hg; have hnb372 := NB148_105.out; have hnc372 := NB105_148.out; have hnb373 := NB148_106.out; have hnc373 := NB106_148.out; have hnb374 := NB148_107.out; have hnc374 := NB107_148.out; have hnb375 := NB148_119.out; have hnc375 := NB119_148.out; have hnb376 := NB148_128.out; have hnc376 := NB128_148.out; have hnb377 := NB148_133.out; have hnc377 := NB133_148.out; have hnb378 := NB148_138.out; have hnc378 := NB138_148.out; have hnb379 := NB148_143.out; have hnc379 := NB143_148.out; obtain ⟨hcz380_0, hcz380_1, hcz380_2⟩ := blk3 BK148.out; have hfz380_0 := blk_frozen BK148.out 0; have hfz380_1 := blk_frozen BK148.out 1; have hfz380_2 := blk_frozen BK148.out 2; obtain ⟨hcz381_0, hcz381_1, hcz381_2⟩ := blk3 BK128.out; have hfz381_0 := blk_frozen BK128.out 0; have hfz381_1 := blk_frozen BK128.out 1; have hfz381_2 := blk_frozen BK128.out 2; obtain ⟨hcz382_0, hcz382_1, hcz382_2⟩ := blk3 BK119.out; have hfz382_0 := blk_frozen BK119.out 0; have hfz382_1 := blk_frozen BK119.out 1; have hfz382_2 := blk_frozen BK119.out 2) | (go_at_call 23; (with_reducible refine (rational_Compare.calls t124 t125 t126 t116 t117 t118 t149 _ ?side1 A175.out).mono ?_); (case side1 => exact Laid.below HLaid.out (by repeat (first | (with_reducible first | exact HB.out | apply below_alloc | apply pw_below_drewN | apply below_drew1 | refine below_set ?_ GE105.out | refine below_set ?_ GE106.out | refine below_set ?_ GE107.out | refine below_set ?_ GE119.out | refine below_set ?_ GE128.out | refine below_set ?_ GE133.out | refine below_set ?_ GE138.out | refine below_set ?_ GE143.out | refine below_set ?_ GE148.out) | exact HB.out))); rintro e w383 ⟨rfl, hb⟩; have n0_ := Aside0.mk (blk_below (far3 BK105.out NB105_148.out) hb); have n1_ := Aside0.mk (blk_below (far3 BK106.out NB106_148.out) hb); have n2_ := Aside0.mk (blk_below (far3 BK107.out NB107_148.out) hb); have n3_ := Aside0.mk (blk_below (far3 BK119.out NB119_148.out) hb); have n4_ := Aside0.mk (blk_below (far3 BK128.out NB128_148.out) hb); have n5_ := Aside0.mk (blk_below (far3 BK133.out NB133_148.out) hb); have n6_ := Aside0.mk (blk_below (far3 BK138.out NB138_148.out) hb); have n7_ := Aside0.mk (blk_below (far3 BK143.out NB143_148.out) hb); have n8_ := Aside0.mk (blk_below (g := gb148) (o := .cells #[.bool t144, .string t145, .string t146] 24 (0, 0)) (by (with_reducible repeat (first | refine blk_drewN ?_ _ | refine blk_drew ?_ | refine blk_alloc ?_ _)); refine blk_put (cs := #[.bool t144, .string t145, .string (⟨#[]⟩ : ByteArray)]) ?_ 2 _ rfl; (with_reducible repeat (first | refine blk_drewN ?_ _ | refine blk_drew ?_ | refine blk_alloc ?_ _)); refine blk_put (cs := #[.bool t144, .string (⟨#[]⟩ : ByteArray), .string (⟨#[]⟩ : ByteArray)]) ?_ 1 _ rfl; (with_reducible repeat (first | refine blk_drewN ?_ _ | refine blk_drew ?_ | refine blk_alloc ?_ _)); refine blk_put (cs := #[.bool false, .string (⟨#[]⟩ : ByteArray), .string (⟨#[]⟩ : ByteArray)]) ?_ 0 _ rfl; (with_reducible repeat (first | refine blk_drewN ?_ _ | refine blk_drew ?_ | refine blk_alloc ?_ _)); exact BK148.out) hb); have n9_ := Aside0.mk (below_step (by repeat (first | (with_reducible first | exact HB.out | apply below_alloc | apply pw_below_drewN | apply below_drew1 | refine below_set ?_ GE105.out | refine below_set ?_ GE106.out | refine below_set ?_ GE107.out | refine below_set ?_ GE119.out | refine below_set ?_ GE128.out | refine below_set ?_ GE133.out | refine below_set ?_ GE138.out | refine below_set ?_ GE143.out | refine below_set ?_ GE148.out) | exact HB.out)) hb); clear BK105; clear BK106; clear BK107; clear BK119; clear BK128; clear BK133; clear BK138; clear BK143; clear BK148; clear HB; have BK105 := n0_; have BK106 := n1_; have BK107 := n2_; have BK119 := n3_; have BK128 := n4_; have BK133 := n5_; have BK138 := n6_; have BK143 := n7_; have BK148 := n8_; have HB := n9_; clear n0_ n1_ n2_ n3_ n4_ n5_ n6_ n7_ n8_ n9_; (try clear hb); obtain ⟨hcz384_0, hcz384_1, hcz384_2⟩ := blk3 BK133.out; have hfz384_0 := blk_frozen BK133.out 0; have hfz384_1 := blk_frozen BK133.out 1; have hfz384_2 := blk_frozen BK133.out 2; obtain ⟨hcz385_0, hcz385_1, hcz385_2⟩ := blk3 BK138.out; have hfz385_0 := blk_frozen BK138.out 0; have hfz385_1 := blk_frozen BK138.out 1; have hfz385_2 := blk_frozen BK138.out 2) | (go_at_call 23; (with_reducible refine (rational_Compare.calls t129 t130 t131 t134 t135 t136 t150 _ ?side1 A177.out).mono ?_); (case side1 => exact Laid.below HLaid.out (by repeat (first | (with_reducible first | exact HB.out | apply below_alloc | apply pw_below_drewN | apply below_drew1 | refine below_set ?_ GE105.out | refine below_set ?_ GE106.out | refine below_set ?_ GE107.out | refine below_set ?_ GE119.out | refine below_set ?_ GE128.out | refine below_set ?_ GE133.out | refine below_set ?_ GE138.out | refine below_set ?_ GE143.out | refine below_set ?_ GE148.out) | exact HB.out))); rintro e w386 ⟨rfl, hb⟩; have n0_ := Aside0.mk (blk_below (blk_later BK105.out) hb); have n1_ := Aside0.mk (blk_below (blk_later BK106.out) hb); have n2_ := Aside0.mk (blk_below (blk_later BK107.out) hb); have n3_ := Aside0.mk (blk_below (blk_later BK119.out) hb); have n4_ := Aside0.mk (blk_below (blk_later BK128.out) hb); have n5_ := Aside0.mk (blk_below (blk_later BK133.out) hb); have n6_ := Aside0.mk (blk_below (blk_later BK138.out) hb); have n7_ := Aside0.mk (blk_below (blk_later BK143.out) hb); have n8_ := Aside0.mk (blk_below (blk_later BK148.out) hb); have n9_ := Aside0.mk (below_step (by repeat (first | (with_reducible first | exact HB.out | apply below_alloc | apply pw_below_drewN | apply below_drew1 | refine below_set ?_ GE105.out | refine below_set ?_ GE106.out | refine below_set ?_ GE107.out | refine below_set ?_ GE119.out | refine below_set ?_ GE128.out | refine below_set ?_ GE133.out | refine below_set ?_ GE138.out | refine below_set ?_ GE143.out | refine below_set ?_ GE148.out) | exact HB.out)) hb); clear BK105; clear BK106; clear BK107; clear BK119; clear BK128; clear BK133; clear BK138; clear BK143; clear BK148; clear HB; have BK105 := n0_; have BK106 := n1_; have BK107 := n2_; have BK119 := n3_; have BK128 := n4_; have BK133 := n5_; have BK138 := n6_; have BK143 := n7_; have BK148 := n8_; have HB := n9_; clear n0_ n1_ n2_ n3_ n4_ n5_ n6_ n7_ n8_ n9_; (try clear hb); obtain ⟨hcz387_0, hcz387_1, hcz387_2⟩ := blk3 BK107.out; have hfz387_0 := blk_frozen BK107.out 0; have hfz387_1 := blk_frozen BK107.out 1; have hfz387_2 := blk_frozen BK107.out 2; obtain ⟨hcz388_0, hcz388_1, hcz388_2⟩ := blk3 BK119.out; have hfz388_0 := blk_frozen BK119.out 0; have hfz388_1 := blk_frozen BK119.out 1; have hfz388_2 := blk_frozen BK119.out 2; obtain ⟨hcz389_0, hcz389_1, hcz389_2⟩ := blk3 BK143.out; have hfz389_0 := blk_frozen BK143.out 0; have hfz389_1 := blk_frozen BK143.out 1; have hfz389_2 := blk_frozen BK143.out 2; obtain ⟨hcz390_0, hcz390_1, hcz390_2⟩ := blk3 BK148.out; have hfz390_0 := blk_frozen BK148.out 0; have hfz390_1 := blk_frozen BK148.out 1; have hfz390_2 := blk_frozen BK148.out 2) | (go_at_call 23; (with_reducible refine (rational_Compare.calls t139 t140 t141 t144 t145 t146 t151 _ ?side1 A319.out).mono ?_); (case side1 => exact Laid.below HLaid.out (by repeat (first | (with_reducible first | exact HB.out | apply below_alloc | apply pw_below_drewN | apply below_drew1 | refine below_set ?_ GE105.out | refine below_set ?_ GE106.out | refine below_set ?_ GE107.out | refine below_set ?_ GE119.out | refine below_set ?_ GE128.out | refine below_set ?_ GE133.out | refine below_set ?_ GE138.out | refine below_set ?_ GE143.out | refine below_set ?_ GE148.out) | exact HB.out))); rintro e w391 ⟨rfl, hb⟩; have n0_ := Aside0.mk (blk_below (blk_later BK105.out) hb); have n1_ := Aside0.mk (blk_below (blk_later BK106.out) hb); have n2_ := Aside0.mk (blk_below (blk_later BK107.out) hb); have n3_ := Aside0.mk (blk_below (blk_later BK119.out) hb); have n4_ := Aside0.mk (blk_below (blk_later BK128.out) hb); have n5_ := Aside0.mk (blk_below (blk_later BK133.out) hb); have n6_ := Aside0.mk (blk_below (blk_later BK138.out) hb); have n7_ := Aside0.mk (blk_below (blk_later BK143.out) hb); have n8_ := Aside0.mk (blk_below (blk_later BK148.out) hb); have n9_ := Aside0.mk (below_step (by repeat (first | (with_reducible first | exact HB.out | apply below_alloc | apply pw_below_drewN | apply below_drew1 | refine below_set ?_ GE105.out | refine below_set ?_ GE106.out | refine below_set ?_ GE107.out | refine below_set ?_ GE119.out | refine below_set ?_ GE128.out | refine below_set ?_ GE133.out | refine below_set ?_ GE138.out | refine below_set ?_ GE143.out | refine below_set ?_ GE148.out) | exact HB.out)) hb); clear BK105; clear BK106; clear BK107; clear BK119; clear BK128; clear BK133; clear BK138; clear BK143; clear BK148; clear HB; have BK105 := n0_; have BK106 := n1_; have BK107 := n2_; have BK119 := n3_; have BK128 := n4_; have BK133 := n5_; have BK138 := n6_; have BK143 := n7_; have BK148 := n8_; have HB := n9_; clear n0_ n1_ n2_ n3_ n4_ n5_ n6_ n7_ n8_ n9_; (try clear hb)))
                                  go_ret
                                  exact ⟨by first | rfl | (simp [errW_none, errW_some] <;> rfl) | (simp [*, errW_none, errW_some] <;> rfl), by repeat (first | (with_reducible first | exact HB.out | apply below_alloc | apply pw_below_drewN | apply below_drew1 | refine below_set ?_ GE105.out | refine below_set ?_ GE106.out | refine below_set ?_ GE107.out | refine below_set ?_ GE119.out | refine below_set ?_ GE128.out | refine below_set ?_ GE133.out | refine below_set ?_ GE138.out | refine below_set ?_ GE143.out | refine below_set ?_ GE148.out) | exact HB.out)⟩
                            · replace c179 := Bool.eq_false_iff.mpr c179
                              subst c179
                              have H1 : (none) = some r := by rw [if_neg (show ¬ (false = true) by decide)] at H; exact H
                              clear H
                              have H := H1
                              clear H1
                              exact absurd H (by simp)
                          · rw [if_neg c178] at H
                            exact absurd H (by simp)
                        · rw [if_neg c176] at H
                          exact absurd H (by simp)
                      · rw [if_neg c174] at H
                        exact absurd H (by simp)
                    · rw [if_neg c173] at H
                      exact absurd H (by simp)
                  · rw [if_neg c172] at H
                    exact absurd H (by simp)
                · rw [if_neg c171] at H
                  exact absurd H (by simp)
              · rw [if_neg c170] at H
                exact absurd H (by simp)
end Go.Proofs.YthpomhboogcigaaGreatDoor.XLOr
end
section -- FinRationalOrder
namespace Go.Proofs.YthpomhboogcigaaGreatDoor
open Go.RowKit Go.Proofs.YthpomhboogcigaaGreatDoorW.PrintWords Go.Proofs.YthpomhboogcigaaGreatDoorW.PrintMore Go.Proofs.YthpomhboogcigaaGreatDoorW.PrintLast
set_option linter.unusedVariables false
set_option linter.unusedSimpArgs false
def fewB (x : XLOr.S24) : Bool := decide (x.f1.size ≤ 40) && decide (x.f2.size ≤ 40)
theorem few_loop (l : List XLOr.S24) (hl : l.length ≤ 100) : ∀ (d i k : Nat), i + d = l.length → d < k → XLOr.observatoryref04_Few.l0 k 40 l (i : Int) = some ((l.drop i).all fewB)
  | 0, i, k, hi, hk => by
    obtain ⟨k, rfl⟩ : ∃ m, k = m + 1 := ⟨k - 1, by omega⟩
    simp only [XLOr.observatoryref04_Few.l0]
    rw [if_neg (by omega), List.drop_eq_nil_of_le (by omega)]; rfl
  | d + 1, i, k, hi, hk => by
    obtain ⟨k, rfl⟩ : ∃ m, k = m + 1 := ⟨k - 1, by omega⟩
    have hr : XLOr.rd_T24 l (i : Int) = l[i]'(by omega) := by simp [XLOr.rd_T24, List.getElem?_eq_getElem (show i < l.length by omega)]
    have hw : wrap64 ((i : Int) + 1) = ((i + 1 : Nat) : Int) := by unfold wrap64; omega
    simp only [XLOr.observatoryref04_Few.l0]
    rw [if_pos (by omega), if_pos (by omega), hr, hw, few_loop l hl d (i + 1) k (by omega) (by omega), List.drop_eq_getElem_cons (show i < l.length by omega), List.all_cons]
    generalize l[i]'(by omega) = x
    unfold fewB
    by_cases h1 : x.f1.size ≤ 40
    · rw [if_neg (by omega), decide_eq_true h1]
      by_cases h2 : x.f2.size ≤ 40
      · rw [if_neg (by omega), decide_eq_true h2]; rfl
      · rw [if_pos (by omega), decide_eq_false h2]; rfl
    · rw [if_pos (by omega), decide_eq_false h1]; rfl
theorem few_f (k : Nat) (l : List XLOr.S24) (hl : l.length ≤ 100) (hk : l.length < k) : XLOr.observatorylaw04_few.f k l = some (l.all fewB) := by
  unfold XLOr.observatorylaw04_few.f XLOr.observatoryref04_Few.f
  have h := few_loop l hl l.length 0 k (by omega) hk
  rw [List.drop_zero] at h
  rw [show (0 : Int) = ((0 : Nat) : Int) from rfl, h]; rfl
theorem order_j1 (k : Nat) (a : Bool) (b c : ByteArray) (a' : Bool) (b' c' : ByteArray) (x : Bool) (y z : ByteArray) (V1 : VR (a, b, c)) (V2 : VR (a', b', c')) (V3 : VR (x, y, z)) (s1 : SzR 40 (valR (a, b, c))) (s2 : SzR 40 (valR (a', b', c'))) (s3 : SzR 40 (valR (x, y, z))) :
    XLOr.observatorylaw04_RationalOrder.j1 (k + 1) true (cq (valR (a, b, c)) (valR (a', b', c'))) false a b c a' b' c' x y z false ⟨#[48]⟩ ⟨#[49]⟩ = some true := by
  obtain ⟨x1, y1, z1, e1, v1, q1, _⟩ := sub_parts V1 V2 s1 s2 (by decide) (by decide)
  obtain ⟨x2, y2, z2, e2, v2, q2, _⟩ := add_parts V1 V3 s1 s3 (by decide) (by decide)
  obtain ⟨x3, y3, z3, e3, v3, q3, _⟩ := add_parts V2 V3 s2 s3 (by decide) (by decide)
  obtain ⟨x4, y4, z4, e4, v4, q4, _⟩ := mul_parts V1 V3 s1 s3 (by decide) (by decide)
  obtain ⟨x5, y5, z5, e5, v5, q5, _⟩ := mul_parts V2 V3 s2 s3 (by decide) (by decide)
  have c1 : rational_Compare.f x1 y1 z1 false ⟨#[48]⟩ ⟨#[49]⟩ = some (cq (valR (a, b, c)) (valR (a', b', c'))) := by
    rw [show rational_Compare.f x1 y1 z1 false ⟨#[48]⟩ ⟨#[49]⟩ = _ from cmp_parts v1 zero_VR, q1, show valR (false, ⟨#[48]⟩, ⟨#[49]⟩) = 0 from val_zero, cq_sub]
  have c2 : rational_Compare.f x2 y2 z2 x3 y3 z3 = some (cq (valR (a, b, c)) (valR (a', b', c'))) := by
    rw [cmp_parts v2 v3, q2, q3, cq_add]
  simp only [XLOr.observatorylaw04_RationalOrder.j1, e1, e2, e3, e4, e5, c1, c2, Option.bind_some, eqR, Bool.false_eq_true, if_false, if_true]
  cases hx : x with
  | true => rfl
  | false =>
    rw [if_neg (by simp)]
    by_cases h0 : ((false, y, z) : R3) = (false, ⟨#[48]⟩, ⟨#[49]⟩)
    · rw [if_pos (decide_eq_true h0)]
    · rw [if_neg (by simpa using h0)]
      have hne : valR (x, y, z) ≠ 0 := fun e => h0 (by subst hx; exact V3.inj zero_VR (e.trans val_zero.symm))
      have hp := pos_of _ (pos_ge_zero V3 hx) hne
      rw [cmp_parts v4 v5, q4, q5, cq_mul _ _ _ hp]
      simp
theorem order_good (a : Bool) (b c : ByteArray) (a' : Bool) (b' c' : ByteArray) (x : Bool) (y z : ByteArray) (V1 : VR (a, b, c)) (V2 : VR (a', b', c')) (V3 : VR (x, y, z)) (s1 : SzR 40 (valR (a, b, c))) (s2 : SzR 40 (valR (a', b', c'))) (s3 : SzR 40 (valR (x, y, z))) :
    XLOr.observatorylaw04_RationalOrder.j0 9 true false a b c a' b' c' x y z = some true := by
  have J := order_j1 7 a b c a' b' c' x y z V1 V2 V3 s1 s2 s3
  have ht := cq_trans (valR (a, b, c)) (valR (a', b', c')) (valR (x, y, z))
  have hc := cq_cases (valR (a, b, c)) (valR (a', b', c'))
  have hq := eq_val V1 V2
  have c1 := cmp_parts V1 V2
  have c2 := cmp_parts V2 V3
  have c3 := cmp_parts V2 V1
  have c4 := cmp_parts V1 V3
  simp only [XLOr.observatorylaw04_RationalOrder.j0, c1, c2, c3, c4, Option.bind_some, eqR, XLOr.observatorylaw04_rat.f, Bool.false_eq_true, if_false]
  generalize cq (valR (a, b, c)) (valR (a', b', c')) = t at *
  generalize cq (valR (a', b', c')) (valR (a, b, c)) = u at *
  generalize cq (valR (a', b', c')) (valR (x, y, z)) = v at *
  generalize cq (valR (a, b, c)) (valR (x, y, z)) = s at *
  have w1 : u = wrap64 (-t) := by
    rcases hc with ⟨_, rfl, rfl⟩ | ⟨_, rfl, rfl⟩ | ⟨_, rfl, rfl⟩ <;> (unfold wrap64; omega)
  have w2 : ((t == 0) != decide (((a, b, c) : R3) = (a', b', c'))) = false := by
    rw [show decide (((a, b, c) : R3) = (a', b', c')) = decide (valR (a, b, c) = valR (a', b', c')) from decide_eq_decide.2 hq]
    rcases hc with ⟨h, rfl, _⟩ | ⟨h, rfl, _⟩ | ⟨h, rfl, _⟩
    · rw [decide_eq_false (fun e => by rw [e] at h; exact absurd h Rat.lt_irrefl)]; rfl
    · rw [decide_eq_true h]; rfl
    · rw [decide_eq_false (fun e => by rw [e] at h; exact absurd h Rat.lt_irrefl)]; rfl
  have w3 : -1 ≤ t ∧ t ≤ 1 := by rcases hc with ⟨_, rfl, _⟩ | ⟨_, rfl, _⟩ | ⟨_, rfl, _⟩ <;> omega
  rw [if_pos w1, w2, if_neg (by simp), if_neg (by omega), if_neg (by omega)]
  by_cases h1 : t ≤ 0
  · rw [if_pos h1]
    by_cases h2 : v ≤ 0
    · rw [if_pos h2, decide_eq_false (ht h1 h2)]; exact J
    · rw [if_neg h2]; exact J
  · rw [if_neg h1]; exact J
theorem pureOrder (a : Bool) (b c : ByteArray) (a' : Bool) (b' c' : ByteArray) (x : Bool) (y z : ByteArray) : XLOr.observatorylaw04_RationalOrder.f 9 a b c a' b' c' x y z = some true := by
  unfold XLOr.observatorylaw04_RationalOrder.f observatorylaw04_head.f
  rw [few_f 9 _ (by simp) (by simp)]
  simp only [Option.bind_some, rational_Valid.f]
  cases hf : List.all [(⟨a, b, c⟩ : XLOr.S24), ⟨a', b', c'⟩, ⟨x, y, z⟩] fewB with
  | false => rw [if_neg (by simp)]; rfl
  | true =>
    rw [if_pos rfl]
    cases h1 : validR (a, b, c) with
    | false => rw [if_neg (by simp)]; rfl
    | true =>
      rw [if_pos rfl]
      cases h2 : validR (a', b', c') with
      | false => rw [if_neg (by simp)]; rfl
      | true =>
        rw [if_pos rfl]
        cases h3 : validR (x, y, z) with
        | false => rfl
        | true =>
          have V1 := validR_iff.1 h1
          have V2 := validR_iff.1 h2
          have V3 := validR_iff.1 h3
          simp only [List.all_cons, List.all_nil, fewB, Bool.and_true, Bool.and_eq_true, decide_eq_true_eq] at hf
          obtain ⟨⟨f1, f2⟩, ⟨f3, f4⟩, f5, f6⟩ := hf
          exact order_good a b c a' b' c' x y z V1 V2 V3 (V1.sz f1 f2) (V2.sz f3 f4) (V3.sz f5 f6)
theorem finRationalOrder (a : Bool) (b c : ByteArray) (a' : Bool) (b' c' : ByteArray) (x : Bool) (y z : ByteArray) (w : World) (hL : Laid w) :
    Calls Tryz.prog 7 #[.agg #[.bool a, .string b, .string c], .agg #[.bool a', .string b', .string c'], .agg #[.bool x, .string y, .string z]] w fun e w' => e = .returned (.bool true) ∧ Below w.heap.size w w' :=
  XLOr.observatorylaw04_RationalOrder.calls 9 a b c a' b' c' x y z true w hL (pureOrder a b c a' b' c' x y z)
end Go.Proofs.YthpomhboogcigaaGreatDoor
end

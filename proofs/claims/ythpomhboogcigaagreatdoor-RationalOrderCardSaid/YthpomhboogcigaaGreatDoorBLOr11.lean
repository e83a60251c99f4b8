/- The texts of this claim, laid together by a program of this session (bundle.py). -/
import Derived.Test.YthpomhboogcigaaGreatDoorBLOr1
import Derived.Test.YthpomhboogcigaaGreatDoorBLOr10
import Derived.Shelf.Spec.BitsCarry
import Derived.Lib.AppendIntMem
import Derived.BigCall
import Derived.BigGuard
import Derived.Test.YthpomhboogcigaaGreatDoorProg
import Derived.Below
import Derived.Deep.Draws
import Derived.Deep.AppendLies
import Derived.Maps.AppendAt
import Derived.OwnWalk
import Derived.Laws.BytesArg
import Derived.Laws.MakeOwn
import Derived.Laws.OwnMore
import Derived.Deep.OwnRows
import Derived.Tactics
import Derived.Lib.ConvBytes
import Derived.Laws.Slices
import Derived.WalkKit
import Derived.KernelRfl
import Derived.RowKit3
import Derived.Deep.LoopGhost
import Derived.Deep.QuietTactic
import Derived.BigQuiet
import Derived.WideLaws
import Derived.Deep.DeepCutAuto
import Derived.Deep.CutBlock
import Derived.Deep.RegionHeld3
import Derived.Laws.Rows
import Derived.Lib.AppendStr
import Derived.ArgAppend
import Derived.Laws.IdiomCopy
import Derived.OrdersHeld
import Derived.Laws.BitsLemmas
import Derived.RowKit
section -- RatAbs
namespace Go.Proofs.YthpomhboogcigaaGreatDoor
open Go.Shelf Go.RowKit Go.Sort Go.Lib Go.Proofs.YthpomhboogcigaaGreatDoorW.PrintWords Go.Proofs.YthpomhboogcigaaGreatDoorW.PrintMore Go.Proofs.YthpomhboogcigaaGreatDoorW.PrintLast
set_option linter.unusedVariables false
set_option linter.unusedSimpArgs false
set_option maxHeartbeats 6400000 in
set_option maxRecDepth 100000 in
theorem formatUint_inner (u : Nat) (hu64 : u < 18446744073709551616) (w : World) (hL : Laid w) :
    Calls Tryz.prog 84 #[.int .u64 (u : Int), .int .i64 10] w fun e w' => e = .returned (.string (decS u)) ∧ Below w.heap.size w w' := by
  by_cases hs : u < 100
  · have hsi : (u : Int) < 100 := by omega
    have hcv : IntKind.i64.wrap (u : Int) = (u : Int) := by rw [IntKind.wrap_i64]; omega
    go_enter Tryz.func84, Tryz.ntmps84
    go_wp2_with (go_at_call 110; refine (Any.internal_strconv_small { Tryz.laysM171 with } u hs _).mono ?_; rintro e w' ⟨rfl, rfl⟩)
    go_ret
    exact ⟨rfl, Below.refl _ _⟩
  · have hsi : ¬ (u : Int) < 100 := by omega
    have hu1 : 1 ≤ u := by omega
    have hnd20 : Lib.nDigits u ≤ 20 := by have := Lib.numDigits_eq u hu1 hu64; split at this <;> omega
    have hb3 : Lib.nDigits u ≤ 23 := by omega
    have hal : Tryz.prog.arrayLen 120 = 24 := by kernel_rfl
    have hsl : ∀ W, (Instr.sliceAt 120 (.pointer (some ⟨w.heap.size, 0, none⟩)) none (some (.int .i64 (Lib.nDigits u : Int))) none).run Tryz.prog W = .ok (.slice (some ⟨w.heap.size, 0, none⟩) (Lib.nDigits u) 24) W := fun W => by
      rw [run_sliceAt_array_h W 120 ⟨w.heap.size, 0, none⟩ (by simp [Program.arrayLen, Program.elem, Tryz.underlying120]) .i64 (Lib.nDigits u : Int) (by omega) (by rw [hal]; omega)]
      go_simp
    have hH0 := Lib.holds_zero0 w 120 (Lib.nDigits u) (by omega)
    have hfmt := Any.internal_strconv_formatBase10 { Tryz.laysM171 with } w.heap.size 0 24 u (Array.replicate (Lib.nDigits u) 0) (w.alloc (.cells Lib.zeros24 120)) hH0 (by rw [Array.size_replicate]; exact Lib.lt_pow_nDigits u) hu64 (by rw [Array.size_replicate]; omega)
    rw [Array.size_replicate] at hfmt
    have HH0 := Lib.hid hH0
    have HFM := Lib.hid hfmt
    clear hH0 hal hfmt
    go_enter Tryz.func84, Tryz.ntmps84
    go_wp2_with (go_at_call 111; refine (Any.internal_strconv_numDigits { Tryz.laysM171 with } u hu1 hu64 _ (Lib.tabIs_alloc hL.pow _)).mono ?_; rintro e w' ⟨rfl, rfl⟩)
    refine (HFM.out).mono ?_
    rintro e w' ⟨rfl, k, v', dk, rfl, hF⟩
    have hcv : (convert 73 9 (.slice (some ⟨w.heap.size, 0, none⟩) (Lib.nDigits u) 24)).run Tryz.prog ((putRow (fun (b : UInt8) => Value.int .u8 (b.toNat : Int)) (w.alloc (.cells Lib.zeros24 120)) w.heap.size 0 dk).drewN k) = .ok (.string ⟨(Lib.decDigits u).toArray⟩) ((putRow (fun (b : UInt8) => Value.int .u8 (b.toNat : Int)) (w.alloc (.cells Lib.zeros24 120)) w.heap.size 0 dk).drewN k) := by
      have h := run_convert_bytes_back (P := Tryz.prog) ((putRow (fun (b : UInt8) => Value.int .u8 (b.toNat : Int)) (w.alloc (.cells Lib.zeros24 120)) w.heap.size 0 dk).drewN k) 73 9 5 ⟨w.heap.size, 0, none⟩ 24 (Lib.decDigits u) Tryz.underlying73 Tryz.underlying5 Tryz.underlying9 (fun j hj => by
        rw [Lib.row_is_numeral hF j hj, Lib.add_plain, World.cell?_drewN]
        exact cell?_putRow (fun (b : UInt8) => Value.int .u8 (b.toNat : Int)) _ w.heap.size 0 _ dk HH0.out (by rw [hF.size, Array.size_replicate]) j (by rw [hF.size]; rw [Lib.decDigits_length] at hj; exact hj))
      rw [Lib.decDigits_length] at h
      exact h
    go_wp2
    go_ret
    obtain ⟨os, eo⟩ := Lib.fin_at w (.cells Lib.zeros24 120) dk k 0
    refine ⟨rfl, ?_⟩
    rw [eo]; exact below_grow w k os
set_option maxHeartbeats 1000000 in
theorem strconv_FormatUint.calls10 (u : Nat) (hu64 : u < 18446744073709551616) (w : World) (hL : Laid w) :
    Calls Tryz.prog 63 #[.int .u64 (u : Int), .int .i64 10] w fun e w' => e = .returned (.string (decS u)) ∧ Below w.heap.size w w' := by
  have hf := Lib.hid (formatUint_inner u hu64 w hL)
  clear hL
  go_enter Tryz.func63, Tryz.ntmps63
  go_wp2_with fail
  refine (hf.out).mono ?_
  rintro e w' ⟨rfl, hb⟩
  have HB := Aside0.mk hb
  clear hb
  go_wp2
  go_ret
  exact ⟨rfl, HB.out⟩
theorem sub64_run (x : Nat) (w : World) : (callFunc 62 #[.int .u64 0, .int .u64 (x : Int), .int .u64 0]).run Tryz.prog w = .ok (.value (.tuple #[.int .u64 (((0 + 18446744073709551616 - x - 0) % 18446744073709551616 : Nat) : Int), .int .u64 ((if 0 < x + 0 then 1 else 0 : Nat) : Int)])) w := by
  rw [run_callFunc_extern Tryz.func62 (by kernel_rfl) (by kernel_rfl) (by kernel_rfl) (e := sub64Entry) (by kernel_rfl)]
  rw [show (sub64Entry #[.int .u64 0, .int .u64 (x : Int), .int .u64 0]).run Tryz.prog w = _ from run_sub64 0 x 0 (by omega) w]
  rfl
theorem wrap_neg (a : Nat) (h0 : 1 ≤ a) (h1 : a ≤ 9223372036854775808) : IntKind.u64.wrap (-(a : Int)) = ((18446744073709551616 - a : Nat) : Int) := by rw [IntKind.wrap_u64]; omega
def rational_abs.f (n : Int) : Option ByteArray := if -9223372036854775808 ≤ n ∧ n ≤ 9223372036854775807 then some (decS n.natAbs) else none
set_option maxHeartbeats 1000000 in
theorem rational_abs.calls (a0 : Int) (r : ByteArray) (w : World) (hL : Laid w) (h : rational_abs.f a0 = some r) :
    Calls Tryz.prog 39 #[.int .i64 a0] w fun e w' => e = .returned (.string r) ∧ Below w.heap.size w w' := by
  unfold rational_abs.f at h
  split at h
  case isFalse => cases h
  rename_i hn
  injection h with h
  subst h
  by_cases h0 : a0 < 0
  · obtain ⟨a, rfl⟩ : ∃ a : Nat, a0 = -(a : Int) := ⟨a0.natAbs, by omega⟩
    have hw := wrap_neg a (by omega) (by omega)
    have hsub := sub64_run (18446744073709551616 - a)
    have e1 : (0 + 18446744073709551616 - (18446744073709551616 - a) - 0) % 18446744073709551616 = a := by omega
    have hf := Lib.hid (strconv_FormatUint.calls10 a (by omega) w hL)
    rw [e1] at hsub
    have ea : (-(a : Int)).natAbs = a := by omega
    rw [ea]
    clear e1 hL ea hn
    generalize 18446744073709551616 - a = x at *
    go_enter Tryz.func39, Tryz.ntmps39
    go_wp2_with (first | (go_at_call 63; refine (hf.out).mono ?_; rintro e w' ⟨rfl, hb⟩; have HB := Aside0.mk hb; clear hb))
    all_goals go_ret
    all_goals exact ⟨rfl, HB.out⟩
  · obtain ⟨a, rfl⟩ : ∃ a : Nat, a0 = (a : Int) := ⟨a0.natAbs, by omega⟩
    have hw : IntKind.u64.wrap (a : Int) = (a : Int) := by rw [IntKind.wrap_u64]; omega
    have hf := Lib.hid (strconv_FormatUint.calls10 a (by omega) w hL)
    have ea : ((a : Int)).natAbs = a := by omega
    rw [ea]
    clear hL ea hn
    go_enter Tryz.func39, Tryz.ntmps39
    go_wp2_with (first | (go_at_call 63; refine (hf.out).mono ?_; rintro e w' ⟨rfl, hb⟩; have HB := Aside0.mk hb; clear hb))
    go_ret
    exact ⟨rfl, HB.out⟩
end Go.Proofs.YthpomhboogcigaaGreatDoor
end
section -- RatPlain
namespace Go.Proofs.YthpomhboogcigaaGreatDoor
set_option linter.unusedVariables false
set_option linter.unusedSimpArgs false
abbrev R3 := Bool × ByteArray × ByteArray
def sg (neg : Bool) (n : Nat) : Int := if neg then -(n : Int) else n
def valR (a : R3) : Rat := mkRat (sg a.1 (valS a.2.1)) (valS a.2.2)
def repR (q : Rat) : R3 := (decide (q.num < 0), decS q.num.natAbs, decS q.den)
def noR : R3 := (false, noS, noS)
def validR (a : R3) : Bool :=
  validS a.2.1 && (validS a.2.2 && (!decide (valS a.2.2 = 0) && (if valS a.2.1 = 0 then !a.1 && decide (valS a.2.2 = 1) else decide (Nat.gcd (valS a.2.1) (valS a.2.2) = 1))))
theorem sg_abs (neg : Bool) (n : Nat) : (sg neg n).natAbs = n := by unfold sg; cases neg <;> simp
theorem sg_zero (neg : Bool) : sg neg 0 = 0 := by unfold sg; cases neg <;> rfl
theorem sg_lt {neg : Bool} {n : Nat} (h : n ≠ 0) : decide (sg neg n < 0) = neg := by
  unfold sg; cases neg
  · rw [if_neg (by simp)]; exact decide_eq_false (by omega)
  · rw [if_pos rfl]; exact decide_eq_true (by omega)
structure VR (a : R3) : Prop where
  n : validS a.2.1 = true
  d : validS a.2.2 = true
  d0 : valS a.2.2 ≠ 0
  cop : Nat.gcd (valS a.2.1) (valS a.2.2) = 1
  zero : valS a.2.1 = 0 → a.1 = false
theorem validR_iff {a : R3} : validR a = true ↔ VR a := by
  unfold validR
  simp only [Bool.and_eq_true, Bool.not_eq_true', decide_eq_false_iff_not]
  constructor
  · rintro ⟨h1, h2, h3, h4⟩
    by_cases e : valS a.2.1 = 0
    · rw [if_pos e, Bool.and_eq_true, Bool.not_eq_true', decide_eq_true_eq] at h4
      exact ⟨h1, h2, h3, by rw [e, h4.2]; rfl, fun _ => h4.1⟩
    · rw [if_neg e, decide_eq_true_eq] at h4
      exact ⟨h1, h2, h3, h4, fun h => absurd h e⟩
  · rintro ⟨h1, h2, h3, h4, h5⟩
    refine ⟨h1, h2, h3, ?_⟩
    by_cases e : valS a.2.1 = 0
    · rw [if_pos e, h5 e]; rw [e, Nat.gcd_zero_left] at h4; simp [h4]
    · rw [if_neg e, decide_eq_true_eq]; exact h4
theorem VR.num {a : R3} (h : VR a) : (valR a).num = sg a.1 (valS a.2.1) := by
  unfold valR
  rw [Rat.num_mkRat, if_neg h.d0, sg_abs, Nat.gcd_comm, h.cop]; simp
theorem VR.den {a : R3} (h : VR a) : (valR a).den = valS a.2.2 := by
  unfold valR
  rw [Rat.den_mkRat, if_neg h.d0, sg_abs, Nat.gcd_comm, h.cop]; simp
theorem VR.rep {a : R3} (h : VR a) : repR (valR a) = a := by
  unfold repR
  rw [h.num, h.den, sg_abs, decS_valS h.n, decS_valS h.d]
  by_cases e : valS a.2.1 = 0
  · rw [e, sg_zero]
    have := h.zero e
    obtain ⟨x, y, z⟩ := a
    simp only at this
    subst this; rfl
  · rw [sg_lt e]
theorem VR.abs {a : R3} (h : VR a) : (valR a).num.natAbs = valS a.2.1 := by rw [h.num, sg_abs]
theorem VR.inj {a b : R3} (ha : VR a) (hb : VR b) (h : valR a = valR b) : a = b := by rw [← ha.rep, ← hb.rep, h]
theorem natAbs_sg (q : Rat) : sg (decide (q.num < 0)) q.num.natAbs = q.num := by
  unfold sg
  by_cases h : q.num < 0
  · rw [decide_eq_true h, if_pos rfl]; omega
  · rw [decide_eq_false h, if_neg (by simp)]; omega
theorem val_rep (q : Rat) : valR (repR q) = q := by
  unfold valR repR
  rw [valS_decS, valS_decS, natAbs_sg, Rat.mkRat_self]
/-- Numerator and denominator have at most n digits. -/
def SzR (n : Nat) (q : Rat) : Prop := q.num.natAbs < tp n ∧ q.den < tp n
theorem rep_VR {q : Rat} {n : Nat} (h : SzR n q) (h1 : 1 ≤ n) (h2 : n ≤ 1000) : VR (repR q) := by
  refine ⟨(lim_ok h.1 h1 h2).2.1, (lim_ok h.2 h1 h2).2.1, ?_, ?_, ?_⟩
  · rw [show (repR q).2.2 = decS q.den from rfl, valS_decS]; exact q.den_nz
  · rw [show (repR q).2.2 = decS q.den from rfl, show (repR q).2.1 = decS q.num.natAbs from rfl, valS_decS, valS_decS]; exact q.reduced
  · rw [show (repR q).2.1 = decS q.num.natAbs from rfl, valS_decS]
    intro e
    exact decide_eq_false (by omega)
theorem VR.sz {a : R3} (h : VR a) {n : Nat} (h1 : a.2.1.size ≤ n) (h2 : a.2.2.size ≤ n) : SzR n (valR a) := by
  unfold SzR; rw [h.abs, h.den]; exact ⟨val_lt h.n h1, val_lt h.d h2⟩
theorem div_natAbs_le (z : Int) (g : Nat) (hg : (g : Int) ∣ z) : (z / (g : Int)).natAbs = z.natAbs / g := by
  rw [Int.natAbs_ediv_of_dvd hg]; rfl
theorem mkRat_num_abs (z : Int) (d : Nat) (h : d ≠ 0) : (mkRat z d).num.natAbs = z.natAbs / Nat.gcd d z.natAbs := by
  rw [Rat.num_mkRat, if_neg h, div_natAbs_le _ _ (Int.natAbs_dvd_natAbs.1 (by rw [Int.natAbs_natCast]; exact Nat.gcd_dvd_right _ _))]
theorem mkRat_den (z : Int) (d : Nat) (h : d ≠ 0) : (mkRat z d).den = d / Nat.gcd d z.natAbs := by rw [Rat.den_mkRat, if_neg h]
theorem mkRat_neg {z : Int} {d : Nat} (h : d ≠ 0) : decide ((mkRat z d).num < 0) = decide (z < 0) := by
  rw [decide_eq_decide, Rat.num_mkRat, if_neg h]
  have hg : 0 < Nat.gcd d z.natAbs := Nat.gcd_pos_of_pos_left _ (Nat.pos_of_ne_zero h)
  constructor
  · intro h1
    refine Classical.byContradiction fun h2 => ?_
    have := Int.ediv_nonneg (show 0 ≤ z by omega) (show (0 : Int) ≤ (Nat.gcd d z.natAbs : Int) by omega)
    omega
  · intro h1; exact Int.ediv_neg_of_neg_of_pos h1 (by omega)
theorem mkRat_sz {z : Int} {d n : Nat} (h : d ≠ 0) (h1 : z.natAbs < tp n) (h2 : d < tp n) : SzR n (mkRat z d) := by
  unfold SzR
  rw [mkRat_num_abs _ _ h, mkRat_den _ _ h]
  exact ⟨Nat.lt_of_le_of_lt (Nat.div_le_self _ _) h1, Nat.lt_of_le_of_lt (Nat.div_le_self _ _) h2⟩
/-- The lowest terms of n / d. -/
def lowR (neg : Bool) (n d : Nat) : R3 := if n = 0 then (false, decS 0, decS 1) else (neg, decS (n / Nat.gcd n d), decS (d / Nat.gcd n d))
theorem lowR_eq (neg : Bool) (n : Nat) {d : Nat} (h : d ≠ 0) : lowR neg n d = repR (mkRat (sg neg n) d) := by
  unfold lowR
  by_cases e : n = 0
  · rw [if_pos e, e, sg_zero, Rat.zero_mkRat]; rfl
  · rw [if_neg e]
    unfold repR
    rw [mkRat_num_abs _ _ h, mkRat_den _ _ h, mkRat_neg h, sg_lt e, sg_abs, Nat.gcd_comm]
theorem sg_add (neg : Bool) (p q : Nat) : sg neg p + sg neg q = sg neg (p + q) := by unfold sg; cases neg <;> simp <;> omega
theorem sg_mul (x y : Bool) (p q : Nat) : sg x p * sg y q = sg (x != y) (p * q) := by unfold sg; cases x <;> cases y <;> simp [Int.neg_mul, Int.mul_neg]
theorem sg_not (neg : Bool) (p : Nat) : sg (!neg) p = - sg neg p := by unfold sg; cases neg <;> simp
theorem sg_mul_nat (x : Bool) (p q : Nat) : sg x p * (q : Int) = sg x (p * q) := by unfold sg; cases x <;> simp [Int.neg_mul]
/-- The sum, as the program reckons it. -/
def addNum (a b : R3) : Bool × Nat :=
  let p := valS a.2.1 * valS b.2.2; let q := valS b.2.1 * valS a.2.2
  if a.1 = b.1 then (a.1, p + q) else if p < q then (b.1, q - p) else (a.1, p - q)
def addR (a b : R3) : R3 × Int :=
  if validR a && validR b then
    if 1000 < (Lib.decDigits (valS a.2.1 * valS b.2.2)).length ∨ 1000 < (Lib.decDigits (valS b.2.1 * valS a.2.2)).length ∨ 1000 < (Lib.decDigits (valS a.2.2 * valS b.2.2)).length ∨ 1000 < (Lib.decDigits (addNum a b).2).length then (noR, 2)
    else (lowR (addNum a b).1 (addNum a b).2 (valS a.2.2 * valS b.2.2), 0)
  else (noR, 1)
def mulR (a b : R3) : R3 × Int :=
  if validR a && validR b then
    if 1000 < (Lib.decDigits (valS a.2.1 * valS b.2.1)).length ∨ 1000 < (Lib.decDigits (valS a.2.2 * valS b.2.2)).length then (noR, 2)
    else (lowR (a.1 != b.1) (valS a.2.1 * valS b.2.1) (valS a.2.2 * valS b.2.2), 0)
  else (noR, 1)
def minusR (a : R3) : R3 := (!a.1 && !decide (a.2.1 = decS 0), a.2)
def subR (a b : R3) : R3 × Int := if validR b then addR a (minusR b) else (noR, 1)
def divR (a b : R3) : R3 × Int := if validR a && validR b then (if b.2.1 = decS 0 then (noR, 14) else mulR a (b.1, b.2.2, b.2.1)) else (noR, 1)
def makeR (neg : Bool) (n d : ByteArray) : R3 × Int := if validS n && validS d then (if valS d = 0 then (noR, 14) else (lowR neg (valS n) (valS d), 0)) else (noR, 1)
def ofR (n d : Int) : R3 × Int := if d = 0 then (noR, 14) else (lowR (decide (n < 0) != decide (d < 0)) n.natAbs d.natAbs, 0)
def cmpR (a b : R3) : Int := if validR a && validR b then (if valR a < valR b then -1 else if valR b < valR a then 1 else 0) else 0
theorem addNum_eq {a b : R3} (ha : VR a) (hb : VR b) : sg (addNum a b).1 (addNum a b).2 = (valR a).num * (valR b).den + (valR b).num * (valR a).den := by
  rw [ha.num, hb.num, ha.den, hb.den, sg_mul_nat, sg_mul_nat]
  unfold addNum
  by_cases e : a.1 = b.1
  · rw [if_pos e, ← e, sg_add]
  · rw [if_neg e]
    have e' : b.1 = !a.1 := by cases h1 : a.1 <;> cases h2 : b.1 <;> simp_all
    by_cases h : valS a.2.1 * valS b.2.2 < valS b.2.1 * valS a.2.2
    · rw [if_pos h, e']
      generalize valS a.2.1 * valS b.2.2 = p at *
      generalize valS b.2.1 * valS a.2.2 = q at *
      unfold sg; cases a.1 <;> simp <;> omega
    · rw [if_neg h, e']
      generalize valS a.2.1 * valS b.2.2 = p at *
      generalize valS b.2.1 * valS a.2.2 = q at *
      unfold sg; cases a.1 <;> simp <;> omega
theorem VR.den_ne {a b : R3} (ha : VR a) (hb : VR b) : valS a.2.2 * valS b.2.2 ≠ 0 := Nat.mul_ne_zero ha.d0 hb.d0
theorem low_add {a b : R3} (ha : VR a) (hb : VR b) : lowR (addNum a b).1 (addNum a b).2 (valS a.2.2 * valS b.2.2) = repR (valR a + valR b) := by
  rw [lowR_eq _ _ (ha.den_ne hb), addNum_eq ha hb, Rat.add_def', ha.den, hb.den]
theorem low_mul {a b : R3} (ha : VR a) (hb : VR b) : lowR (a.1 != b.1) (valS a.2.1 * valS b.2.1) (valS a.2.2 * valS b.2.2) = repR (valR a * valR b) := by
  rw [lowR_eq _ _ (ha.den_ne hb), ← sg_mul, Rat.mul_def', ha.num, hb.num, ha.den, hb.den]
theorem addNum_lt {a b : R3} (ha : VR a) (hb : VR b) {m n : Nat} (h1 : SzR m (valR a)) (h2 : SzR n (valR b)) : (addNum a b).2 < tp (m + n + 1) := by
  unfold SzR at h1 h2
  rw [ha.abs, ha.den] at h1
  rw [hb.abs, hb.den] at h2
  have p := tp_mul_lt h1.1 h2.2
  have q := tp_mul_lt h2.1 h1.2
  rw [Nat.add_comm n m] at q
  have e : tp (m + n + 1) = 10 * tp (m + n) := rfl
  unfold addNum
  rw [e]
  generalize valS a.2.1 * valS b.2.2 = P at *
  generalize valS b.2.1 * valS a.2.2 = Q at *
  generalize tp (m + n) = T at *
  by_cases c : a.1 = b.1
  · rw [if_pos c]; show P + Q < _; omega
  · rw [if_neg c]; by_cases d : P < Q
    · rw [if_pos d]; show Q - P < _; omega
    · rw [if_neg d]; show P - Q < _; omega
theorem SzR.neg {n : Nat} {q : Rat} (h : SzR n q) : SzR n (-q) := by unfold SzR; rw [Rat.neg_num, Rat.neg_den, Int.natAbs_neg]; exact h
theorem dec_short {m n : Nat} (h : m < tp n) (h1 : 1 ≤ n) (h2 : n ≤ 1000) : ¬ 1000 < (Lib.decDigits m).length := by have := dec_len_le h h1; omega
theorem add_fine {a b : R3} (ha : VR a) (hb : VR b) {m n : Nat} (h1 : SzR m (valR a)) (h2 : SzR n (valR b)) (hm : 1 ≤ m) (hn : m + n + 1 ≤ 1000) :
    addR a b = (repR (valR a + valR b), 0) ∧ SzR (m + n + 1) (valR a + valR b) ∧ VR (repR (valR a + valR b)) := by
  have hz := addNum_lt ha hb h1 h2
  have hsz : SzR (m + n + 1) (valR a + valR b) := by
    rw [Rat.add_def', ← addNum_eq ha hb]
    rw [ha.den, hb.den]
    refine mkRat_sz (ha.den_ne hb) (by rw [sg_abs]; exact hz) ?_
    unfold SzR at h1 h2
    rw [ha.abs, ha.den] at h1
    rw [hb.abs, hb.den] at h2
    exact Nat.lt_of_lt_of_le (tp_mul_lt h1.2 h2.2) (tp_mono (by omega))
  refine ⟨?_, hsz, rep_VR hsz (by omega) hn⟩
  unfold addR
  rw [validR_iff.2 ha, validR_iff.2 hb, if_pos (show (true && true) = true from rfl), if_neg, low_add ha hb]
  unfold SzR at h1 h2
  rw [ha.abs, ha.den] at h1
  rw [hb.abs, hb.den] at h2
  rintro (h | h | h | h)
  · exact dec_short (tp_mul_lt h1.1 h2.2) (by omega) (by omega) h
  · exact dec_short (tp_mul_lt h2.1 h1.2) (by omega) (by omega) h
  · exact dec_short (tp_mul_lt h1.2 h2.2) (by omega) (by omega) h
  · exact dec_short hz (by omega) (by omega) h
theorem mul_fine {a b : R3} (ha : VR a) (hb : VR b) {m n : Nat} (h1 : SzR m (valR a)) (h2 : SzR n (valR b)) (hm : 1 ≤ m) (hn : m + n ≤ 1000) :
    mulR a b = (repR (valR a * valR b), 0) ∧ SzR (m + n) (valR a * valR b) ∧ VR (repR (valR a * valR b)) := by
  have hsz : SzR (m + n) (valR a * valR b) := by
    rw [Rat.mul_def']
    refine mkRat_sz (Nat.mul_ne_zero (valR a).den_nz (valR b).den_nz) ?_ (tp_mul_lt h1.2 h2.2)
    rw [Int.natAbs_mul]; exact tp_mul_lt h1.1 h2.1
  refine ⟨?_, hsz, rep_VR hsz (by omega) hn⟩
  unfold mulR
  rw [validR_iff.2 ha, validR_iff.2 hb, if_pos (show (true && true) = true from rfl), if_neg, low_mul ha hb]
  unfold SzR at h1 h2
  rw [ha.abs, ha.den] at h1
  rw [hb.abs, hb.den] at h2
  rintro (h | h)
  · exact dec_short (tp_mul_lt h1.1 h2.1) (by omega) (by omega) h
  · exact dec_short (tp_mul_lt h1.2 h2.2) (by omega) (by omega) h
theorem zero_str0 {a : ByteArray} (h : validS a = true) : a = decS 0 ↔ valS a = 0 := by
  constructor
  · intro e; rw [e, valS_decS]
  · intro e; rw [← decS_valS h, e]
theorem minus_VR {a : R3} (h : VR a) : VR (minusR a) ∧ valR (minusR a) = - valR a := by
  have hz := zero_str0 h.n
  constructor
  · refine ⟨h.n, h.d, h.d0, h.cop, fun e => ?_⟩
    show (!a.1 && !decide (a.2.1 = decS 0)) = false
    rw [decide_eq_true (hz.2 e)]; simp
  · show mkRat (sg (!a.1 && !decide (a.2.1 = decS 0)) (valS a.2.1)) (valS a.2.2) = - mkRat _ _
    rw [Rat.neg_mkRat]
    by_cases e : valS a.2.1 = 0
    · rw [e, sg_zero, sg_zero]; rfl
    · rw [decide_eq_false (fun x => e (hz.1 x)), Bool.not_false, Bool.and_true, sg_not]
theorem sub_fine {a b : R3} (ha : VR a) (hb : VR b) {m n : Nat} (h1 : SzR m (valR a)) (h2 : SzR n (valR b)) (hm : 1 ≤ m) (hn : m + n + 1 ≤ 1000) :
    subR a b = (repR (valR a - valR b), 0) ∧ SzR (m + n + 1) (valR a - valR b) ∧ VR (repR (valR a - valR b)) := by
  obtain ⟨hv, he⟩ := minus_VR hb
  unfold subR
  rw [validR_iff.2 hb, if_pos rfl, Rat.sub_eq_add_neg, ← he]
  exact add_fine ha hv h1 (by rw [he]; exact h2.neg) hm hn
theorem cmp_fine {a b : R3} (ha : VR a) (hb : VR b) : cmpR a b = if valR a < valR b then -1 else if valR b < valR a then 1 else 0 := by
  unfold cmpR; rw [validR_iff.2 ha, validR_iff.2 hb, if_pos (show (true && true) = true from rfl)]
theorem cmp_bad {a b : R3} (h : ¬ (validR a = true ∧ validR b = true)) : cmpR a b = 0 := by
  unfold cmpR
  cases ha : validR a <;> cases hb : validR b <;> simp_all
end Go.Proofs.YthpomhboogcigaaGreatDoor
end
section -- RatCmp
namespace Go.Proofs.YthpomhboogcigaaGreatDoor
set_option linter.unusedVariables false
set_option linter.unusedSimpArgs false
theorem cf_parts {a b c d m n r s : Nat} (ha : a = b * m + r) (hc : c = d * n + s) : a * d = b * d * m + r * d ∧ c * b = b * d * n + s * b := by
  subst ha; subst hc
  constructor
  · rw [Nat.add_mul, Nat.mul_right_comm]
  · rw [Nat.add_mul, Nat.mul_right_comm, Nat.mul_comm d b]
theorem cf_lt {a b c d : Nat} (hb : 0 < b) (hd : 0 < d) (h : a / b < c / d) : a * d < c * b := by
  obtain ⟨h1, h2⟩ := cf_parts (a := a) (b := b) (c := c) (d := d) (Nat.div_add_mod a b).symm (Nat.div_add_mod c d).symm
  have hr := Nat.mul_lt_mul_of_pos_right (Nat.mod_lt a hb) hd
  have hm : b * d * (a / b) + b * d ≤ b * d * (c / d) := by rw [← Nat.mul_succ]; exact Nat.mul_le_mul_left _ h
  omega
theorem cf_eq {a b c d : Nat} (h : a / b = c / d) : ∃ X, a * d = X + (a % b) * d ∧ c * b = X + (c % d) * b := by
  obtain ⟨h1, h2⟩ := cf_parts (a := a) (b := b) (c := c) (d := d) (Nat.div_add_mod a b).symm (Nat.div_add_mod c d).symm
  exact ⟨b * d * (a / b), h1, by rw [h2, h]⟩
def cmpN (x y : Nat) : Int := cmpI (x : Int) (y : Int)
theorem cmpN_lt {x y : Nat} (h : x < y) : cmpN x y = -1 := by unfold cmpN cmpI; rw [if_pos (by omega)]
theorem cmpN_gt {x y : Nat} (h : y < x) : cmpN x y = 1 := by unfold cmpN cmpI; rw [if_neg (by omega), if_pos (by omega)]
theorem cmpN_eq {x y : Nat} (h : x = y) : cmpN x y = 0 := by unfold cmpN cmpI; rw [if_neg (by omega), if_neg (by omega)]
theorem cmpN_add (X x y : Nat) : cmpN (X + x) (X + y) = cmpN x y := by
  rcases Nat.lt_trichotomy x y with h | h | h
  · rw [cmpN_lt h, cmpN_lt (by omega)]
  · rw [cmpN_eq h, cmpN_eq (by omega)]
  · rw [cmpN_gt h, cmpN_gt (by omega)]
/-- One round: what is told at once, and what the next round has to tell. -/
theorem cf_round {a b c d : Nat} (hb : 0 < b) (hd : 0 < d) :
    (a / b ≠ c / d → cmpN (a / b) (c / d) = cmpN (a * d) (c * b)) ∧
    (a / b = c / d → a % b = 0 → c % d = 0 → cmpN (a * d) (c * b) = 0) ∧
    (a / b = c / d → a % b = 0 → c % d ≠ 0 → cmpN (a * d) (c * b) = -1) ∧
    (a / b = c / d → a % b ≠ 0 → c % d = 0 → cmpN (a * d) (c * b) = 1) ∧
    (a / b = c / d → cmpN (d * (a % b)) (b * (c % d)) = cmpN (a * d) (c * b)) := by
  refine ⟨fun h => ?_, fun h h1 h2 => ?_, fun h h1 h2 => ?_, fun h h1 h2 => ?_, fun h => ?_⟩
  · rcases Nat.lt_or_gt_of_ne h with h | h
    · rw [cmpN_lt h, cmpN_lt (cf_lt hb hd h)]
    · rw [cmpN_gt h, cmpN_gt (cf_lt hd hb h)]
  · obtain ⟨X, e1, e2⟩ := cf_eq h
    rw [e1, e2, h1, h2]; exact cmpN_eq (by simp)
  · obtain ⟨X, e1, e2⟩ := cf_eq h
    rw [e1, e2, h1, cmpN_add]
    exact cmpN_lt (by rw [Nat.zero_mul]; exact Nat.mul_pos (Nat.pos_of_ne_zero h2) hb)
  · obtain ⟨X, e1, e2⟩ := cf_eq h
    rw [e1, e2, h2, cmpN_add]
    exact cmpN_gt (by rw [Nat.zero_mul]; exact Nat.mul_pos (Nat.pos_of_ne_zero h1) hd)
  · obtain ⟨X, e1, e2⟩ := cf_eq h
    rw [e1, e2, cmpN_add, Nat.mul_comm d, Nat.mul_comm b]
/-- Of two numbers of one sign. -/
theorem cmp_cross {a b : R3} (ha : VR a) (hb : VR b) (h1 : a.1 = false) (h2 : b.1 = false) : cmpR a b = cmpN (valS a.2.1 * valS b.2.2) (valS b.2.1 * valS a.2.2) := by
  rw [cmp_fine ha hb]
  simp only [Rat.lt_iff, ha.num, hb.num, ha.den, hb.den, h1, h2]
  unfold sg cmpN cmpI
  simp only [Bool.false_eq_true, if_false, Int.natCast_mul]
theorem cmp_neg {a b : R3} (ha : VR a) (hb : VR b) : cmpR (minusR b) (minusR a) = cmpR a b := by
  obtain ⟨va, ea⟩ := minus_VR ha
  obtain ⟨vb, eb⟩ := minus_VR hb
  rw [cmp_fine ha hb, cmp_fine vb va, ea, eb]
  simp only [Rat.neg_lt_neg_iff]
theorem neg_lt_zero {a : R3} (ha : VR a) (h : a.1 = true) : valR a < 0 := by
  rw [Rat.lt_iff, ha.num, h]
  have h0 : valS a.2.1 ≠ 0 := fun e => by have := ha.zero e; rw [h] at this; cases this
  show sg true (valS a.2.1) * ((0 : Rat).den : Int) < (0 : Rat).num * _
  rw [Rat.zero_den, Rat.zero_num, Int.zero_mul]
  unfold sg
  rw [if_pos rfl]; omega
theorem pos_ge_zero {a : R3} (ha : VR a) (h : a.1 = false) : 0 ≤ valR a := by
  rw [← Rat.num_nonneg, ha.num, h]
  unfold sg; rw [if_neg (by simp)]; omega
theorem cmp_signs {a b : R3} (ha : VR a) (hb : VR b) : (a.1 = true → b.1 = false → cmpR a b = -1) ∧ (b.1 = true → a.1 = false → cmpR a b = 1) := by
  rw [cmp_fine ha hb]
  constructor
  · intro h1 h2
    have x := neg_lt_zero ha h1
    have y := pos_ge_zero hb h2
    have : valR a < valR b := Rat.lt_iff_le_and_ne.2 ⟨Rat.le_trans (Rat.le_of_lt x) y, fun e => by rw [e] at x; exact absurd y (Rat.not_le.2 x)⟩
    rw [if_pos this]
  · intro h1 h2
    have x := neg_lt_zero hb h1
    have y := pos_ge_zero ha h2
    have t : valR b < valR a := Rat.lt_iff_le_and_ne.2 ⟨Rat.le_trans (Rat.le_of_lt x) y, fun e => by rw [e] at x; exact absurd y (Rat.not_le.2 x)⟩
    rw [if_neg (fun h => absurd (Rat.le_of_lt t) (Rat.not_le.2 h)), if_pos t]
theorem cmp_same {a b : R3} (ha : VR a) (hb : VR b) : cmpR a b = 0 ↔ a = b := by
  rw [cmp_fine ha hb]
  constructor
  · intro h
    by_cases h1 : valR a < valR b
    · rw [if_pos h1] at h; omega
    · rw [if_neg h1] at h
      by_cases h2 : valR b < valR a
      · rw [if_pos h2] at h; omega
      · exact ha.inj hb (Rat.le_antisymm (Rat.not_lt.1 h2) (Rat.not_lt.1 h1))
  · rintro rfl
    rw [if_neg Rat.lt_irrefl, if_neg Rat.lt_irrefl]
end Go.Proofs.YthpomhboogcigaaGreatDoor
end
section -- XRat0
/- Written by a program of this session (xprint.sh), out of the translation: Lean functions that tell what Go functions of the program tell, and the proofs that they do, over the given callees; no condition but what each theorem states. -/
namespace Go.Proofs.YthpomhboogcigaaGreatDoor.XRat
open Go.RowKit Go.Proofs.YthpomhboogcigaaGreatDoorW.PrintWords Go.Proofs.YthpomhboogcigaaGreatDoorW.PrintLast Go.Proofs.YthpomhboogcigaaGreatDoorW.PrintMore
attribute [local go_sem] max2_int min2_int max_two min_two max_three min_three max_four min_four   -- for this text's walks alone
set_option linter.unusedVariables false
set_option linter.unusedSimpArgs false
def errW : Option Int → Value
  | none => .nilIface
  | some c => .iface 0 (.int .i64 c)
theorem errW_none : errW none = .nilIface := rfl
theorem errW_some (c : Int) : errW (some c) = .iface 0 (.int .i64 c) := rfl
end Go.Proofs.YthpomhboogcigaaGreatDoor.XRat
end
section -- XRat1
/- Written by a program of this session (xprint.sh), out of the translation: Lean functions that tell what Go functions of the program tell, and the proofs that they do, over the given callees; no condition but what each theorem states. -/
namespace Go.Proofs.YthpomhboogcigaaGreatDoor.XRat
open Go.RowKit Go.Proofs.YthpomhboogcigaaGreatDoorW.PrintWords Go.Proofs.YthpomhboogcigaaGreatDoorW.PrintLast Go.Proofs.YthpomhboogcigaaGreatDoorW.PrintMore
attribute [local go_sem] max2_int min2_int max_two min_two max_three min_three max_four min_four   -- for this text's walks alone
set_option linter.unusedVariables false
set_option linter.unusedSimpArgs false
theorem eqA24 (d : Nat) (w : World) (x0 y0 : Bool) (x1 y1 : ByteArray) (x2 y2 : ByteArray) :
    (Op.equalIn (d + 2) 24 (.agg #[.bool x0, .string x1, .string x2]) (.agg #[.bool y0, .string y1, .string y2])).run Tryz.prog w = .ok (x0 == y0 && (x1.toList == y1.toList && (x2.toList == y2.toList))) w := by
  refine eqA_of Tryz.underlying24 (by kernel_rfl) ?_
  refine eqf_cons (by rfl) (by go_simp; rfl) (by go_simp; rfl) (by go_simp) ?_
  refine eqf_cons (by rfl) (by go_simp; rfl) (by go_simp; rfl) (by go_simp) ?_
  exact eqf_last (by rfl) (by go_simp; rfl) (by go_simp; rfl) (by go_simp)
end Go.Proofs.YthpomhboogcigaaGreatDoor.XRat
end
section -- XRat2
/- Written by a program of this session (xprint.sh), out of the translation: Lean functions that tell what Go functions of the program tell, and the proofs that they do, over the given callees; no condition but what each theorem states. -/
namespace Go.Proofs.YthpomhboogcigaaGreatDoor.XRat
open Go.RowKit Go.Proofs.YthpomhboogcigaaGreatDoorW.PrintWords Go.Proofs.YthpomhboogcigaaGreatDoorW.PrintLast Go.Proofs.YthpomhboogcigaaGreatDoorW.PrintMore
attribute [local go_sem] max2_int min2_int max_two min_two max_three min_three max_four min_four   -- for this text's walks alone
set_option linter.unusedVariables false
set_option linter.unusedSimpArgs false
attribute [local go_sem high] eqA24
def rational_lowest.f (a0 : Bool) (a1 : ByteArray) (a2 : ByteArray) : Option (Bool × ByteArray × ByteArray) := if a1.toList = ([48] : List UInt8) then (some (false, (⟨#[48]⟩ : ByteArray), (⟨#[49]⟩ : ByteArray))) else ((natural_Gcd.f a1 a2).bind fun bt102 => ((natural_Div.f a1 bt102.1).bind fun bt104 => ((natural_Div.f a2 bt102.1).bind fun bt107 => (some (a0, bt104.1, bt107.1)))))
set_option maxHeartbeats 8000000 in
set_option maxRecDepth 100000 in
theorem rational_lowest.calls (a0 : Bool) (a1 : ByteArray) (a2 : ByteArray) (r1 : Bool) (r2 : ByteArray) (r3 : ByteArray) (w : World) (hL : Laid w) (h : rational_lowest.f a0 a1 a2 = some (r1, r2, r3)) :
    Calls Tryz.prog 42 #[.bool a0, .string a1, .string a2] w fun e w' => e = .returned (.agg #[.bool r1, .string r2, .string r3]) ∧ Below w.heap.size w w' := by
  have HLaid := Aside0.mk hL
  clear hL
  have hu24 := Tryz.underlying24
  have HB := Aside0.mk (Below.refl w.heap.size w)
  have H : (if a1.toList = ([48] : List UInt8) then (some (false, (⟨#[48]⟩ : ByteArray), (⟨#[49]⟩ : ByteArray))) else ((natural_Gcd.f a1 a2).bind fun bt102 => ((natural_Div.f a1 bt102.1).bind fun bt104 => ((natural_Div.f a2 bt102.1).bind fun bt107 => (some (a0, bt104.1, bt107.1)))))) = some (r1, r2, r3) := h
  clear h
  by_cases c4 : a1.toList = ([48] : List UInt8)
  · rw [if_pos c4] at H
    have c4b0 : (a1.toList == ([48] : List UInt8)) = true := beq_iff_eq.mpr c4
    have c4b1 : (a1.toList != ([48] : List UInt8)) = false := bne_eq_false_iff_eq.mpr c4
    clear c4
    simp only [Option.some.injEq, Prod.mk.injEq] at H
    obtain ⟨rfl, rfl, rfl⟩ := H
    go_enter Tryz.func42, Tryz.ntmps42
    go_wp2_with (first | ((with_reducible refine gate_dst (N := 6) rfl ?_); refine box_event ?hg (N := 6) ?hd (cs := #[.bool false, .string (⟨#[]⟩ : ByteArray), .string (⟨#[]⟩ : ByteArray)]) (t := 24) ?hr ?_; (case hd => rfl); (case hg => rfl); (case hr => first | (go_simp; done) | (go_simp; rfl)); intro gb101 hg w5 hbox hb; have n0_ := Aside0.mk (below_step (by repeat (first | (with_reducible first | exact HB.out | apply below_alloc | apply pw_below_drewN | apply below_drew1) | exact HB.out)) hb); have n1_ := Aside0.mk (hbox); have n2_ := Aside0.mk ((by rw [hg]; exact (below_size (by repeat (first | (with_reducible first | exact HB.out | apply below_alloc | apply pw_below_drewN | apply below_drew1) | exact HB.out))) : w.heap.size ≤ gb101)); have n3_ := Aside0.mk ((by rw [hg]; exact (below_size (by repeat (first | (with_reducible first | exact HB.out | apply below_alloc | apply pw_below_drewN | apply below_drew1) | exact HB.out))) : w.heap.size ≤ gb101)); clear HB; have HB := n0_; have BK101 := n1_; have GW101 := n2_; have GE101 := n3_; clear n0_ n1_ n2_ n3_; clear hb hbox hg; have hcz6_0 : w5.cell? ⟨gb101, 0, none⟩ = some (.bool false) := (blk_cell BK101.out 0).trans rfl; have hcz6_1 : w5.cell? ⟨gb101, 1, none⟩ = some (.string (⟨#[]⟩ : ByteArray)) := (blk_cell BK101.out 1).trans rfl; have hcz6_2 : w5.cell? ⟨gb101, 2, none⟩ = some (.string (⟨#[]⟩ : ByteArray)) := (blk_cell BK101.out 2).trans rfl; have hfz6_0 := blk_frozen BK101.out 0; have hfz6_1 := blk_frozen BK101.out 1; have hfz6_2 := blk_frozen BK101.out 2))
    refine bodyPost_ret (results_cell_row rfl _ _ gb101 24 #[.bool false, .string (⟨#[48]⟩ : ByteArray), .string (⟨#[49]⟩ : ByteArray)] (0, 0) _ rfl (by (with_reducible repeat (first | refine blk_drewN ?_ _ | refine blk_drew ?_ | refine blk_alloc ?_ _)); refine blk_put (cs := #[.bool false, .string (⟨#[48]⟩ : ByteArray), .string (⟨#[]⟩ : ByteArray)]) ?_ 2 _ rfl; (with_reducible repeat (first | refine blk_drewN ?_ _ | refine blk_drew ?_ | refine blk_alloc ?_ _)); refine blk_put (cs := #[.bool false, .string (⟨#[]⟩ : ByteArray), .string (⟨#[]⟩ : ByteArray)]) ?_ 1 _ rfl; (with_reducible repeat (first | refine blk_drewN ?_ _ | refine blk_drew ?_ | refine blk_alloc ?_ _)); refine blk_put (cs := #[.bool false, .string (⟨#[]⟩ : ByteArray), .string (⟨#[]⟩ : ByteArray)]) ?_ 0 _ rfl; (with_reducible repeat (first | refine blk_drewN ?_ _ | refine blk_drew ?_ | refine blk_alloc ?_ _)); exact BK101.out) Tryz.underlying24 rfl (by kernel_rfl)) rfl ?_
    exact ⟨by first | rfl | (simp [errW_none, errW_some] <;> rfl) | (simp [*, errW_none, errW_some] <;> rfl), by repeat (first | (with_reducible first | exact HB.out | apply below_alloc | apply pw_below_drewN | apply below_drew1 | refine below_set ?_ GE101.out) | exact HB.out)⟩
  · rw [if_neg c4] at H
    have c4b0 : (a1.toList == ([48] : List UInt8)) = false := beq_eq_false_iff_ne.mpr c4
    have c4b1 : (a1.toList != ([48] : List UInt8)) = true := bne_iff_ne.mpr c4
    replace H := Option.bind_eq_some_iff.mp H
    obtain ⟨⟨t102, t103⟩, A70, H⟩ := H
    replace H : ((natural_Div.f a1 t102).bind fun bt104 => ((natural_Div.f a2 t102).bind fun bt107 => (some (a0, bt104.1, bt107.1)))) = some (r1, r2, r3) := H
    have A7 := Aside0.mk A70
    clear A70
    replace H := Option.bind_eq_some_iff.mp H
    obtain ⟨⟨t104, t105, t106⟩, A80, H⟩ := H
    replace H : ((natural_Div.f a2 t102).bind fun bt107 => (some (a0, t104, bt107.1))) = some (r1, r2, r3) := H
    have A8 := Aside0.mk A80
    clear A80
    replace H := Option.bind_eq_some_iff.mp H
    obtain ⟨⟨t107, t108, t109⟩, A90, H⟩ := H
    replace H : (some (a0, t104, t107)) = some (r1, r2, r3) := H
    have A9 := Aside0.mk A90
    clear A90
    simp only [Option.some.injEq, Prod.mk.injEq] at H
    obtain ⟨rfl, rfl, rfl⟩ := H
    go_enter Tryz.func42, Tryz.ntmps42
    go_wp2_with (first | ((with_reducible refine gate_dst (N := 6) rfl ?_); refine box_event ?hg (N := 6) ?hd (cs := #[.bool false, .string (⟨#[]⟩ : ByteArray), .string (⟨#[]⟩ : ByteArray)]) (t := 24) ?hr ?_; (case hd => rfl); (case hg => rfl); (case hr => first | (go_simp; done) | (go_simp; rfl)); intro gb101 hg w10 hbox hb; have n0_ := Aside0.mk (below_step (by repeat (first | (with_reducible first | exact HB.out | apply below_alloc | apply pw_below_drewN | apply below_drew1) | exact HB.out)) hb); have n1_ := Aside0.mk (hbox); have n2_ := Aside0.mk ((by rw [hg]; exact (below_size (by repeat (first | (with_reducible first | exact HB.out | apply below_alloc | apply pw_below_drewN | apply below_drew1) | exact HB.out))) : w.heap.size ≤ gb101)); have n3_ := Aside0.mk ((by rw [hg]; exact (below_size (by repeat (first | (with_reducible first | exact HB.out | apply below_alloc | apply pw_below_drewN | apply below_drew1) | exact HB.out))) : w.heap.size ≤ gb101)); clear HB; have HB := n0_; have BK101 := n1_; have GW101 := n2_; have GE101 := n3_; clear n0_ n1_ n2_ n3_; clear hb hbox hg) | ((with_reducible refine gate_callee (f := 46) rfl ?_); refine goesL_ (some 21) rfl rfl Tryz.func46 (by kernel_rfl) rfl #[.string a1, .string a2] rfl (by (try simp only [List.map_toArray, List.map_cons, List.map_nil]); first | done | rfl | (simp only [List.length_drop, List.length_take]; rfl)) ?_; (with_reducible refine (natural_Gcd.calls a1 a2 t102 t103 _ ?side1 A7.out).mono ?_); (case side1 => exact Laid.below HLaid.out (by repeat (first | (with_reducible first | exact HB.out | apply below_alloc | apply pw_below_drewN | apply below_drew1 | refine below_set ?_ GE101.out) | exact HB.out))); rintro e w11 ⟨rfl, hb⟩; refine ⟨_, rfl, ?_⟩; have n0_ := Aside0.mk (blk_below (g := gb101) (o := .cells #[.bool false, .string (⟨#[]⟩ : ByteArray), .string (⟨#[]⟩ : ByteArray)] 24 (0, 0)) (by (with_reducible repeat (first | refine blk_drewN ?_ _ | refine blk_drew ?_ | refine blk_alloc ?_ _)); exact BK101.out) hb); have n1_ := Aside0.mk (below_step (by repeat (first | (with_reducible first | exact HB.out | apply below_alloc | apply pw_below_drewN | apply below_drew1 | refine below_set ?_ GE101.out) | exact HB.out)) hb); clear BK101; clear HB; have BK101 := n0_; have HB := n1_; clear n0_ n1_; (try clear hb); (try clear hb2); (try clear hk); (try clear hi)) | ((with_reducible refine gate_callee (f := 49) rfl ?_); refine goesL_ (some 27) rfl rfl Tryz.func49 (by kernel_rfl) rfl #[.string a1, .string t102] rfl (by (try simp only [List.map_toArray, List.map_cons, List.map_nil]); first | done | rfl | (simp only [List.length_drop, List.length_take]; rfl)) ?_; (with_reducible refine (natural_Div.calls a1 t102 t104 t105 t106 _ ?side1 A8.out).mono ?_); (case side1 => exact Laid.below HLaid.out (by repeat (first | (with_reducible first | exact HB.out | apply below_alloc | apply pw_below_drewN | apply below_drew1 | refine below_set ?_ GE101.out) | exact HB.out))); rintro e w12 ⟨rfl, hb⟩; refine ⟨_, rfl, ?_⟩; have n0_ := Aside0.mk (blk_below (g := gb101) (o := .cells #[.bool false, .string (⟨#[]⟩ : ByteArray), .string (⟨#[]⟩ : ByteArray)] 24 (0, 0)) (by (with_reducible repeat (first | refine blk_drewN ?_ _ | refine blk_drew ?_ | refine blk_alloc ?_ _)); exact BK101.out) hb); have n1_ := Aside0.mk (below_step (by repeat (first | (with_reducible first | exact HB.out | apply below_alloc | apply pw_below_drewN | apply below_drew1 | refine below_set ?_ GE101.out) | exact HB.out)) hb); clear BK101; clear HB; have BK101 := n0_; have HB := n1_; clear n0_ n1_; (try clear hb); (try clear hb2); (try clear hk); (try clear hi)) | ((with_reducible refine gate_callee (f := 49) rfl ?_); refine goesL_ (some 34) rfl rfl Tryz.func49 (by kernel_rfl) rfl #[.string a2, .string t102] rfl (by (try simp only [List.map_toArray, List.map_cons, List.map_nil]); first | done | rfl | (simp only [List.length_drop, List.length_take]; rfl)) ?_; (with_reducible refine (natural_Div.calls a2 t102 t107 t108 t109 _ ?side1 A9.out).mono ?_); (case side1 => exact Laid.below HLaid.out (by repeat (first | (with_reducible first | exact HB.out | apply below_alloc | apply pw_below_drewN | apply below_drew1 | refine below_set ?_ GE101.out) | exact HB.out))); rintro e w13 ⟨rfl, hb⟩; refine ⟨_, rfl, ?_⟩; have n0_ := Aside0.mk (blk_below (g := gb101) (o := .cells #[.bool false, .string (⟨#[]⟩ : ByteArray), .string (⟨#[]⟩ : ByteArray)] 24 (0, 0)) (by (with_reducible repeat (first | refine blk_drewN ?_ _ | refine blk_drew ?_ | refine blk_alloc ?_ _)); exact BK101.out) hb); have n1_ := Aside0.mk (below_step (by repeat (first | (with_reducible first | exact HB.out | apply below_alloc | apply pw_below_drewN | apply below_drew1 | refine below_set ?_ GE101.out) | exact HB.out)) hb); clear BK101; clear HB; have BK101 := n0_; have HB := n1_; clear n0_ n1_; (try clear hb); (try clear hb2); (try clear hk); (try clear hi); have hcz14_0 : w13.cell? ⟨gb101, 0, none⟩ = some (.bool false) := (blk_cell BK101.out 0).trans rfl; have hcz14_1 : w13.cell? ⟨gb101, 1, none⟩ = some (.string (⟨#[]⟩ : ByteArray)) := (blk_cell BK101.out 1).trans rfl; have hcz14_2 : w13.cell? ⟨gb101, 2, none⟩ = some (.string (⟨#[]⟩ : ByteArray)) := (blk_cell BK101.out 2).trans rfl; have hfz14_0 := blk_frozen BK101.out 0; have hfz14_1 := blk_frozen BK101.out 1; have hfz14_2 := blk_frozen BK101.out 2))
    refine bodyPost_ret (results_cell_row rfl _ _ gb101 24 #[.bool a0, .string t104, .string t107] (0, 0) _ rfl (by (with_reducible repeat (first | refine blk_drewN ?_ _ | refine blk_drew ?_ | refine blk_alloc ?_ _)); refine blk_put (cs := #[.bool a0, .string t104, .string (⟨#[]⟩ : ByteArray)]) ?_ 2 _ rfl; (with_reducible repeat (first | refine blk_drewN ?_ _ | refine blk_drew ?_ | refine blk_alloc ?_ _)); refine blk_put (cs := #[.bool a0, .string (⟨#[]⟩ : ByteArray), .string (⟨#[]⟩ : ByteArray)]) ?_ 1 _ rfl; (with_reducible repeat (first | refine blk_drewN ?_ _ | refine blk_drew ?_ | refine blk_alloc ?_ _)); refine blk_put (cs := #[.bool false, .string (⟨#[]⟩ : ByteArray), .string (⟨#[]⟩ : ByteArray)]) ?_ 0 _ rfl; (with_reducible repeat (first | refine blk_drewN ?_ _ | refine blk_drew ?_ | refine blk_alloc ?_ _)); exact BK101.out) Tryz.underlying24 rfl (by kernel_rfl)) rfl ?_
    exact ⟨by first | rfl | (simp [errW_none, errW_some] <;> rfl) | (simp [*, errW_none, errW_some] <;> rfl), by repeat (first | (with_reducible first | exact HB.out | apply below_alloc | apply pw_below_drewN | apply below_drew1 | refine below_set ?_ GE101.out) | exact HB.out)⟩
def rational_Make.j0 : Nat → Bool → ByteArray → ByteArray → Bool → Option (Bool × ByteArray × ByteArray × Int)
  | 0, _, _, _, _ => none
  | k + 1, x0, x1, x2, x8 => if x8 = true then (some (false, (⟨#[]⟩ : ByteArray), (⟨#[]⟩ : ByteArray), 1)) else (if x2.toList = ([48] : List UInt8) then (some (false, (⟨#[]⟩ : ByteArray), (⟨#[]⟩ : ByteArray), 14)) else ((rational_lowest.f x0 x1 x2).bind fun bt113 => (some (bt113.1, bt113.2.1, bt113.2.2, 0))))
def rational_Make.f (k : Nat) (a0 : Bool) (a1 : ByteArray) (a2 : ByteArray) : Option (Bool × ByteArray × ByteArray × Int) := (natural_Valid.f a1).bind fun t111 => (if t111 = true then ((natural_Valid.f a2).bind fun t112 => (rational_Make.j0 k a0 a1 a2 (!t112))) else (rational_Make.j0 k a0 a1 a2 true))
set_option maxHeartbeats 8000000 in
set_option maxRecDepth 100000 in
theorem rational_Make.calls (k : Nat) (a0 : Bool) (a1 : ByteArray) (a2 : ByteArray) (r1 : Bool) (r2 : ByteArray) (r3 : ByteArray) (r4 : Int) (w : World) (hL : Laid w) (h : rational_Make.f k a0 a1 a2 = some (r1, r2, r3, r4)) :
    Calls Tryz.prog 15 #[.bool a0, .string a1, .string a2] w fun e w' => e = .returned (.tuple #[.agg #[.bool r1, .string r2, .string r3], .int .i64 r4]) ∧ Below w.heap.size w w' := by
  have HLaid := Aside0.mk hL
  clear hL
  have hu24 := Tryz.underlying24
  have HB := Aside0.mk (Below.refl w.heap.size w)
  have H : ((natural_Valid.f a1).bind fun t111 => (if t111 = true then ((natural_Valid.f a2).bind fun t112 => (rational_Make.j0 k a0 a1 a2 (!t112))) else (rational_Make.j0 k a0 a1 a2 true))) = some (r1, r2, r3, r4) := h
  clear h
  have HC4 := Aside0.mk H
  clear H
  go_enter Tryz.func15, Tryz.ntmps15
  go_upto_region 1 with (first | ((with_reducible refine gate_dst (N := 6) rfl ?_); refine box_event ?hg (N := 6) ?hd (cs := #[.bool false, .string (⟨#[]⟩ : ByteArray), .string (⟨#[]⟩ : ByteArray)]) (t := 24) ?hr ?_; (case hd => rfl); (case hg => rfl); (case hr => first | (go_simp; done) | (go_simp; rfl)); intro gb110 hg w5 hbox hb; have n0_ := Aside0.mk (below_step (by repeat (first | (with_reducible first | exact HB.out | apply below_alloc | apply pw_below_drewN | apply below_drew1) | exact HB.out)) hb); have n1_ := Aside0.mk (hbox); have n2_ := Aside0.mk ((by rw [hg]; exact (below_size (by repeat (first | (with_reducible first | exact HB.out | apply below_alloc | apply pw_below_drewN | apply below_drew1) | exact HB.out))) : w.heap.size ≤ gb110)); have n3_ := Aside0.mk ((by rw [hg]; exact (below_size (by repeat (first | (with_reducible first | exact HB.out | apply below_alloc | apply pw_below_drewN | apply below_drew1) | exact HB.out))) : w.heap.size ≤ gb110)); clear HB; have HB := n0_; have BK110 := n1_; have GW110 := n2_; have GE110 := n3_; clear n0_ n1_ n2_ n3_; clear hb hbox hg))
  (try simp only [Act.put, List.setIfInBounds_toArray, List.set_cons_zero, List.set_cons_succ])
  go_cut [8] (fun v8 wc => ∃ (kq : Nat) (x8_3 : Bool), v8 = .bool x8_3 ∧ Aside0 (rational_Make.j0 kq a0 a1 a2 x8_3 = some (r1, r2, r3, r4)) ∧ Aside0 (kq ≤ k) ∧ Aside0 (wc.heap[gb110]? = some (.cells #[.bool false, .string (⟨#[]⟩ : ByteArray), .string (⟨#[]⟩ : ByteArray)] 24 (0, 0))) ∧ Aside0 (Below w.heap.size w wc))
  case first =>
    have H := HC4.out
    clear HC4
    replace H := Option.bind_eq_some_iff.mp H
    obtain ⟨t111, A60, H⟩ := H
    replace H : (if t111 = true then ((natural_Valid.f a2).bind fun t112 => (rational_Make.j0 k a0 a1 a2 (!t112))) else (rational_Make.j0 k a0 a1 a2 true)) = some (r1, r2, r3, r4) := H
    have A6 := Aside0.mk A60
    clear A60
    by_cases c7 : t111 = true
    · subst c7
      rw [if_pos rfl] at H
      replace H := Option.bind_eq_some_iff.mp H
      obtain ⟨t112, A80, H⟩ := H
      replace H : (rational_Make.j0 k a0 a1 a2 (!t112)) = some (r1, r2, r3, r4) := H
      have A8 := Aside0.mk A80
      clear A80
      have H' := Aside0.mk H
      clear H
      go_wp2_with (first | ((with_reducible refine gate_callee (f := 41) rfl ?_); refine goesL_ (some 10) rfl rfl Tryz.func41 (by kernel_rfl) rfl #[.string a1] rfl (by (try simp only [List.map_toArray, List.map_cons, List.map_nil]); first | done | rfl | (simp only [List.length_drop, List.length_take]; rfl)) ?_; (with_reducible refine (natural_Valid.calls a1 true _ ?side1 A6.out).mono ?_); (case side1 => exact Laid.below HLaid.out (by repeat (first | (with_reducible first | exact HB.out | apply below_alloc | apply pw_below_drewN | apply below_drew1 | refine below_set ?_ GE110.out) | exact HB.out))); rintro e w9 ⟨rfl, hb⟩; refine ⟨_, rfl, ?_⟩; have n0_ := Aside0.mk (blk_below (g := gb110) (o := .cells #[.bool false, .string (⟨#[]⟩ : ByteArray), .string (⟨#[]⟩ : ByteArray)] 24 (0, 0)) (by (with_reducible repeat (first | refine blk_drewN ?_ _ | refine blk_drew ?_ | refine blk_alloc ?_ _)); exact BK110.out) hb); have n1_ := Aside0.mk (below_step (by repeat (first | (with_reducible first | exact HB.out | apply below_alloc | apply pw_below_drewN | apply below_drew1 | refine below_set ?_ GE110.out) | exact HB.out)) hb); clear BK110; clear HB; have BK110 := n0_; have HB := n1_; clear n0_ n1_; (try clear hb); (try clear hb2); (try clear hk); (try clear hi)) | (go_at_call 41; (with_reducible refine (natural_Valid.calls a2 t112 _ ?side1 A8.out).mono ?_); (case side1 => exact Laid.below HLaid.out (by repeat (first | (with_reducible first | exact HB.out | apply below_alloc | apply pw_below_drewN | apply below_drew1 | refine below_set ?_ GE110.out) | exact HB.out))); rintro e w10 ⟨rfl, hb⟩; have n0_ := Aside0.mk (blk_below (g := gb110) (o := .cells #[.bool false, .string (⟨#[]⟩ : ByteArray), .string (⟨#[]⟩ : ByteArray)] 24 (0, 0)) (by (with_reducible repeat (first | refine blk_drewN ?_ _ | refine blk_drew ?_ | refine blk_alloc ?_ _)); exact BK110.out) hb); have n1_ := Aside0.mk (below_step (by repeat (first | (with_reducible first | exact HB.out | apply below_alloc | apply pw_below_drewN | apply below_drew1 | refine below_set ?_ GE110.out) | exact HB.out)) hb); clear BK110; clear HB; have BK110 := n0_; have HB := n1_; clear n0_ n1_; (try clear hb); (try clear hb2); (try clear hk); (try clear hi)))
      go_meet
      case rel => exact ⟨_, (!t112), (by first | rfl | (simp; done) | (simp [*]; done)), H', ⟨by first | omega | exact Nat.le_refl _⟩, ⟨by (with_reducible repeat (first | refine blk_drewN ?_ _ | refine blk_drew ?_ | refine blk_alloc ?_ _)); exact BK110.out⟩, ⟨by repeat (first | (with_reducible first | exact HB.out | apply below_alloc | apply pw_below_drewN | apply below_drew1 | refine below_set ?_ GE110.out) | exact HB.out)⟩⟩
    · replace c7 := Bool.eq_false_iff.mpr c7
      subst c7
      have H1 : (rational_Make.j0 k a0 a1 a2 true) = some (r1, r2, r3, r4) := by rw [if_neg (show ¬ (false = true) by decide)] at H; exact H
      clear H
      have H := H1
      clear H1
      have H' := Aside0.mk H
      clear H
      go_wp2_with (first | ((with_reducible refine gate_callee (f := 41) rfl ?_); refine goesL_ (some 10) rfl rfl Tryz.func41 (by kernel_rfl) rfl #[.string a1] rfl (by (try simp only [List.map_toArray, List.map_cons, List.map_nil]); first | done | rfl | (simp only [List.length_drop, List.length_take]; rfl)) ?_; (with_reducible refine (natural_Valid.calls a1 false _ ?side1 A6.out).mono ?_); (case side1 => exact Laid.below HLaid.out (by repeat (first | (with_reducible first | exact HB.out | apply below_alloc | apply pw_below_drewN | apply below_drew1 | refine below_set ?_ GE110.out) | exact HB.out))); rintro e w11 ⟨rfl, hb⟩; refine ⟨_, rfl, ?_⟩; have n0_ := Aside0.mk (blk_below (g := gb110) (o := .cells #[.bool false, .string (⟨#[]⟩ : ByteArray), .string (⟨#[]⟩ : ByteArray)] 24 (0, 0)) (by (with_reducible repeat (first | refine blk_drewN ?_ _ | refine blk_drew ?_ | refine blk_alloc ?_ _)); exact BK110.out) hb); have n1_ := Aside0.mk (below_step (by repeat (first | (with_reducible first | exact HB.out | apply below_alloc | apply pw_below_drewN | apply below_drew1 | refine below_set ?_ GE110.out) | exact HB.out)) hb); clear BK110; clear HB; have BK110 := n0_; have HB := n1_; clear n0_ n1_; (try clear hb); (try clear hb2); (try clear hk); (try clear hi)))
      go_meet
      case rel => exact ⟨_, (true), (by first | rfl | (simp; done) | (simp [*]; done)), H', ⟨by first | omega | exact Nat.le_refl _⟩, ⟨by (with_reducible repeat (first | refine blk_drewN ?_ _ | refine blk_drew ?_ | refine blk_alloc ?_ _)); exact BK110.out⟩, ⟨by repeat (first | (with_reducible first | exact HB.out | apply below_alloc | apply pw_below_drewN | apply below_drew1 | refine below_set ?_ GE110.out) | exact HB.out)⟩⟩
  case rest =>
    clear HC4
    try clear c1
    try clear p2
    try clear c4
    try clear c7
    obtain ⟨kq, x8_3, rfl, HA, HJ3, BK110, HB⟩ := hcut
    cases kq with
    | zero => exact absurd HA.out (by simp [rational_Make.j0])
    | succ kj3 =>
      have H := HA.out
      clear HA
      simp only [rational_Make.j0] at H
      by_cases c12 : x8_3 = true
      · subst c12
        rw [if_pos rfl] at H
        simp only [Option.some.injEq, Prod.mk.injEq] at H
        obtain ⟨rfl, rfl, rfl, rfl⟩ := H
        have hcz13_0 : wc.cell? ⟨gb110, 0, none⟩ = some (.bool false) := (blk_cell BK110.out 0).trans rfl
        have hcz13_1 : wc.cell? ⟨gb110, 1, none⟩ = some (.string (⟨#[]⟩ : ByteArray)) := (blk_cell BK110.out 1).trans rfl
        have hcz13_2 : wc.cell? ⟨gb110, 2, none⟩ = some (.string (⟨#[]⟩ : ByteArray)) := (blk_cell BK110.out 2).trans rfl
        have hfz13_0 := blk_frozen BK110.out 0
        have hfz13_1 := blk_frozen BK110.out 1
        have hfz13_2 := blk_frozen BK110.out 2
        go_wp2
        refine bodyPost_ret (results_ct rfl _ _ gb110 24 #[.bool false, .string (⟨#[]⟩ : ByteArray), .string (⟨#[]⟩ : ByteArray)] (0, 0) _ rfl (by (with_reducible repeat (first | refine blk_drewN ?_ _ | refine blk_drew ?_ | refine blk_alloc ?_ _)); refine blk_put (cs := #[.bool false, .string (⟨#[]⟩ : ByteArray), .string (⟨#[]⟩ : ByteArray)]) ?_ 2 _ rfl; (with_reducible repeat (first | refine blk_drewN ?_ _ | refine blk_drew ?_ | refine blk_alloc ?_ _)); refine blk_put (cs := #[.bool false, .string (⟨#[]⟩ : ByteArray), .string (⟨#[]⟩ : ByteArray)]) ?_ 1 _ rfl; (with_reducible repeat (first | refine blk_drewN ?_ _ | refine blk_drew ?_ | refine blk_alloc ?_ _)); refine blk_put (cs := #[.bool false, .string (⟨#[]⟩ : ByteArray), .string (⟨#[]⟩ : ByteArray)]) ?_ 0 _ rfl; (with_reducible repeat (first | refine blk_drewN ?_ _ | refine blk_drew ?_ | refine blk_alloc ?_ _)); exact BK110.out) Tryz.underlying24 rfl (by kernel_rfl)) rfl ?_
        exact ⟨by first | rfl | (simp [errW_none, errW_some] <;> rfl) | (simp [*, errW_none, errW_some] <;> rfl), by repeat (first | (with_reducible first | exact HB.out | apply below_alloc | apply pw_below_drewN | apply below_drew1 | refine below_set ?_ GE110.out) | exact HB.out)⟩
      · replace c12 := Bool.eq_false_iff.mpr c12
        subst c12
        have H1 : (if a2.toList = ([48] : List UInt8) then (some (false, (⟨#[]⟩ : ByteArray), (⟨#[]⟩ : ByteArray), 14)) else ((rational_lowest.f a0 a1 a2).bind fun bt113 => (some (bt113.1, bt113.2.1, bt113.2.2, 0)))) = some (r1, r2, r3, r4) := by rw [if_neg (show ¬ (false = true) by decide)] at H; exact H
        clear H
        have H := H1
        clear H1
        by_cases c14 : a2.toList = ([48] : List UInt8)
        · rw [if_pos c14] at H
          have c14b0 : (a2.toList == ([48] : List UInt8)) = true := beq_iff_eq.mpr c14
          have c14b1 : (a2.toList != ([48] : List UInt8)) = false := bne_eq_false_iff_eq.mpr c14
          clear c14
          simp only [Option.some.injEq, Prod.mk.injEq] at H
          obtain ⟨rfl, rfl, rfl, rfl⟩ := H
          have hcz15_0 : wc.cell? ⟨gb110, 0, none⟩ = some (.bool false) := (blk_cell BK110.out 0).trans rfl
          have hcz15_1 : wc.cell? ⟨gb110, 1, none⟩ = some (.string (⟨#[]⟩ : ByteArray)) := (blk_cell BK110.out 1).trans rfl
          have hcz15_2 : wc.cell? ⟨gb110, 2, none⟩ = some (.string (⟨#[]⟩ : ByteArray)) := (blk_cell BK110.out 2).trans rfl
          have hfz15_0 := blk_frozen BK110.out 0
          have hfz15_1 := blk_frozen BK110.out 1
          have hfz15_2 := blk_frozen BK110.out 2
          go_wp2
          refine bodyPost_ret (results_ct rfl _ _ gb110 24 #[.bool false, .string (⟨#[]⟩ : ByteArray), .string (⟨#[]⟩ : ByteArray)] (0, 0) _ rfl (by (with_reducible repeat (first | refine blk_drewN ?_ _ | refine blk_drew ?_ | refine blk_alloc ?_ _)); refine blk_put (cs := #[.bool false, .string (⟨#[]⟩ : ByteArray), .string (⟨#[]⟩ : ByteArray)]) ?_ 2 _ rfl; (with_reducible repeat (first | refine blk_drewN ?_ _ | refine blk_drew ?_ | refine blk_alloc ?_ _)); refine blk_put (cs := #[.bool false, .string (⟨#[]⟩ : ByteArray), .string (⟨#[]⟩ : ByteArray)]) ?_ 1 _ rfl; (with_reducible repeat (first | refine blk_drewN ?_ _ | refine blk_drew ?_ | refine blk_alloc ?_ _)); refine blk_put (cs := #[.bool false, .string (⟨#[]⟩ : ByteArray), .string (⟨#[]⟩ : ByteArray)]) ?_ 0 _ rfl; (with_reducible repeat (first | refine blk_drewN ?_ _ | refine blk_drew ?_ | refine blk_alloc ?_ _)); exact BK110.out) Tryz.underlying24 rfl (by kernel_rfl)) rfl ?_
          exact ⟨by first | rfl | (simp [errW_none, errW_some] <;> rfl) | (simp [*, errW_none, errW_some] <;> rfl), by repeat (first | (with_reducible first | exact HB.out | apply below_alloc | apply pw_below_drewN | apply below_drew1 | refine below_set ?_ GE110.out) | exact HB.out)⟩
        · rw [if_neg c14] at H
          have c14b0 : (a2.toList == ([48] : List UInt8)) = false := beq_eq_false_iff_ne.mpr c14
          have c14b1 : (a2.toList != ([48] : List UInt8)) = true := bne_iff_ne.mpr c14
          replace H := Option.bind_eq_some_iff.mp H
          obtain ⟨⟨t113, t114, t115⟩, A160, H⟩ := H
          replace H : (some (t113, t114, t115, 0)) = some (r1, r2, r3, r4) := H
          have A16 := Aside0.mk A160
          clear A160
          simp only [Option.some.injEq, Prod.mk.injEq] at H
          obtain ⟨rfl, rfl, rfl, rfl⟩ := H
          go_wp2_with (first | ((with_reducible refine gate_callee (f := 42) rfl ?_); refine goesL_ (some 25) rfl rfl Tryz.func42 (by kernel_rfl) rfl #[.bool a0, .string a1, .string a2] rfl (by (try simp only [List.map_toArray, List.map_cons, List.map_nil]); first | done | rfl | (simp only [List.length_drop, List.length_take]; rfl)) ?_; (with_reducible refine (rational_lowest.calls a0 a1 a2 t113 t114 t115 _ ?side1 A16.out).mono ?_); (case side1 => exact Laid.below HLaid.out (by repeat (first | (with_reducible first | exact HB.out | apply below_alloc | apply pw_below_drewN | apply below_drew1 | refine below_set ?_ GE110.out) | exact HB.out))); rintro e w17 ⟨rfl, hb⟩; refine ⟨_, rfl, ?_⟩; have n0_ := Aside0.mk (blk_below (g := gb110) (o := .cells #[.bool false, .string (⟨#[]⟩ : ByteArray), .string (⟨#[]⟩ : ByteArray)] 24 (0, 0)) (by (with_reducible repeat (first | refine blk_drewN ?_ _ | refine blk_drew ?_ | refine blk_alloc ?_ _)); exact BK110.out) hb); have n1_ := Aside0.mk (below_step (by repeat (first | (with_reducible first | exact HB.out | apply below_alloc | apply pw_below_drewN | apply below_drew1 | refine below_set ?_ GE110.out) | exact HB.out)) hb); clear BK110; clear HB; have BK110 := n0_; have HB := n1_; clear n0_ n1_; (try clear hb); (try clear hb2); (try clear hk); (try clear hi); have hcz18_0 : w17.cell? ⟨gb110, 0, none⟩ = some (.bool false) := (blk_cell BK110.out 0).trans rfl; have hcz18_1 : w17.cell? ⟨gb110, 1, none⟩ = some (.string (⟨#[]⟩ : ByteArray)) := (blk_cell BK110.out 1).trans rfl; have hcz18_2 : w17.cell? ⟨gb110, 2, none⟩ = some (.string (⟨#[]⟩ : ByteArray)) := (blk_cell BK110.out 2).trans rfl; have hfz18_0 := blk_frozen BK110.out 0; have hfz18_1 := blk_frozen BK110.out 1; have hfz18_2 := blk_frozen BK110.out 2))
          refine bodyPost_ret (results_ct rfl _ _ gb110 24 #[.bool t113, .string t114, .string t115] (0, 0) _ rfl (by (with_reducible repeat (first | refine blk_drewN ?_ _ | refine blk_drew ?_ | refine blk_alloc ?_ _)); refine blk_put (cs := #[.bool t113, .string t114, .string (⟨#[]⟩ : ByteArray)]) ?_ 2 _ rfl; (with_reducible repeat (first | refine blk_drewN ?_ _ | refine blk_drew ?_ | refine blk_alloc ?_ _)); refine blk_put (cs := #[.bool t113, .string (⟨#[]⟩ : ByteArray), .string (⟨#[]⟩ : ByteArray)]) ?_ 1 _ rfl; (with_reducible repeat (first | refine blk_drewN ?_ _ | refine blk_drew ?_ | refine blk_alloc ?_ _)); refine blk_put (cs := #[.bool false, .string (⟨#[]⟩ : ByteArray), .string (⟨#[]⟩ : ByteArray)]) ?_ 0 _ rfl; (with_reducible repeat (first | refine blk_drewN ?_ _ | refine blk_drew ?_ | refine blk_alloc ?_ _)); exact BK110.out) Tryz.underlying24 rfl (by kernel_rfl)) rfl ?_
          exact ⟨by first | rfl | (simp [errW_none, errW_some] <;> rfl) | (simp [*, errW_none, errW_some] <;> rfl), by repeat (first | (with_reducible first | exact HB.out | apply below_alloc | apply pw_below_drewN | apply below_drew1 | refine below_set ?_ GE110.out) | exact HB.out)⟩
def rational_Of.f (k : Nat) (a0 : Int) (a1 : Int) : Option (Bool × ByteArray × ByteArray × Int) := (rational_abs.f a0).bind fun t117 => ((rational_abs.f a1).bind fun t118 => ((rational_Make.f k ((decide (a0 < 0)) != (decide (a1 < 0))) t117 t118).bind fun bt119 => (some (bt119.1, bt119.2.1, bt119.2.2.1, bt119.2.2.2))))
set_option maxHeartbeats 8000000 in
set_option maxRecDepth 100000 in
theorem rational_Of.calls (k : Nat) (a0 : Int) (a1 : Int) (r1 : Bool) (r2 : ByteArray) (r3 : ByteArray) (r4 : Int) (w : World) (hL : Laid w) (h : rational_Of.f k a0 a1 = some (r1, r2, r3, r4)) :
    Calls Tryz.prog 13 #[.int .i64 a0, .int .i64 a1] w fun e w' => e = .returned (.tuple #[.agg #[.bool r1, .string r2, .string r3], .int .i64 r4]) ∧ Below w.heap.size w w' := by
  have HLaid := Aside0.mk hL
  clear hL
  have hu24 := Tryz.underlying24
  have HB := Aside0.mk (Below.refl w.heap.size w)
  have H : ((rational_abs.f a0).bind fun t117 => ((rational_abs.f a1).bind fun t118 => ((rational_Make.f k ((decide (a0 < 0)) != (decide (a1 < 0))) t117 t118).bind fun bt119 => (some (bt119.1, bt119.2.1, bt119.2.2.1, bt119.2.2.2))))) = some (r1, r2, r3, r4) := h
  clear h
  replace H := Option.bind_eq_some_iff.mp H
  obtain ⟨t117, A30, H⟩ := H
  replace H : ((rational_abs.f a1).bind fun t118 => ((rational_Make.f k ((decide (a0 < 0)) != (decide (a1 < 0))) t117 t118).bind fun bt119 => (some (bt119.1, bt119.2.1, bt119.2.2.1, bt119.2.2.2)))) = some (r1, r2, r3, r4) := H
  have A3 := Aside0.mk A30
  clear A30
  replace H := Option.bind_eq_some_iff.mp H
  obtain ⟨t118, A40, H⟩ := H
  replace H : ((rational_Make.f k ((decide (a0 < 0)) != (decide (a1 < 0))) t117 t118).bind fun bt119 => (some (bt119.1, bt119.2.1, bt119.2.2.1, bt119.2.2.2))) = some (r1, r2, r3, r4) := H
  have A4 := Aside0.mk A40
  clear A40
  replace H := Option.bind_eq_some_iff.mp H
  obtain ⟨⟨t119, t120, t121, t122⟩, A50, H⟩ := H
  replace H : (some (t119, t120, t121, t122)) = some (r1, r2, r3, r4) := H
  have A5 := Aside0.mk A50
  clear A50
  simp only [Option.some.injEq, Prod.mk.injEq] at H
  obtain ⟨rfl, rfl, rfl, rfl⟩ := H
  go_enter Tryz.func13, Tryz.ntmps13
  go_wp2_with (first | ((with_reducible refine gate_dst (N := 4) rfl ?_); refine box_event ?hg (N := 4) ?hd (cs := #[.bool false, .string (⟨#[]⟩ : ByteArray), .string (⟨#[]⟩ : ByteArray)]) (t := 24) ?hr ?_; (case hd => rfl); (case hg => rfl); (case hr => first | (go_simp; done) | (go_simp; rfl)); intro gb116 hg w6 hbox hb; have n0_ := Aside0.mk (below_step (by repeat (first | (with_reducible first | exact HB.out | apply below_alloc | apply pw_below_drewN | apply below_drew1) | exact HB.out)) hb); have n1_ := Aside0.mk (hbox); have n2_ := Aside0.mk ((by rw [hg]; exact (below_size (by repeat (first | (with_reducible first | exact HB.out | apply below_alloc | apply pw_below_drewN | apply below_drew1) | exact HB.out))) : w.heap.size ≤ gb116)); have n3_ := Aside0.mk ((by rw [hg]; exact (below_size (by repeat (first | (with_reducible first | exact HB.out | apply below_alloc | apply pw_below_drewN | apply below_drew1) | exact HB.out))) : w.heap.size ≤ gb116)); clear HB; have HB := n0_; have BK116 := n1_; have GW116 := n2_; have GE116 := n3_; clear n0_ n1_ n2_ n3_; clear hb hbox hg) | ((with_reducible refine gate_callee (f := 39) rfl ?_); refine goesL_ (some 12) rfl rfl Tryz.func39 (by kernel_rfl) rfl #[.int .i64 a0] rfl (by (try simp only [List.map_toArray, List.map_cons, List.map_nil]); first | done | rfl | (simp only [List.length_drop, List.length_take]; rfl)) ?_; (with_reducible refine (rational_abs.calls a0 t117 _ ?side1 A3.out).mono ?_); (case side1 => exact Laid.below HLaid.out (by repeat (first | (with_reducible first | exact HB.out | apply below_alloc | apply pw_below_drewN | apply below_drew1 | refine below_set ?_ GE116.out) | exact HB.out))); rintro e w7 ⟨rfl, hb⟩; refine ⟨_, rfl, ?_⟩; have n0_ := Aside0.mk (blk_below (g := gb116) (o := .cells #[.bool false, .string (⟨#[]⟩ : ByteArray), .string (⟨#[]⟩ : ByteArray)] 24 (0, 0)) (by (with_reducible repeat (first | refine blk_drewN ?_ _ | refine blk_drew ?_ | refine blk_alloc ?_ _)); exact BK116.out) hb); have n1_ := Aside0.mk (below_step (by repeat (first | (with_reducible first | exact HB.out | apply below_alloc | apply pw_below_drewN | apply below_drew1 | refine below_set ?_ GE116.out) | exact HB.out)) hb); clear BK116; clear HB; have BK116 := n0_; have HB := n1_; clear n0_ n1_; (try clear hb); (try clear hb2); (try clear hk); (try clear hi)) | ((with_reducible refine gate_callee (f := 39) rfl ?_); refine goesL_ (some 14) rfl rfl Tryz.func39 (by kernel_rfl) rfl #[.int .i64 a1] rfl (by (try simp only [List.map_toArray, List.map_cons, List.map_nil]); first | done | rfl | (simp only [List.length_drop, List.length_take]; rfl)) ?_; (with_reducible refine (rational_abs.calls a1 t118 _ ?side1 A4.out).mono ?_); (case side1 => exact Laid.below HLaid.out (by repeat (first | (with_reducible first | exact HB.out | apply below_alloc | apply pw_below_drewN | apply below_drew1 | refine below_set ?_ GE116.out) | exact HB.out))); rintro e w8 ⟨rfl, hb⟩; refine ⟨_, rfl, ?_⟩; have n0_ := Aside0.mk (blk_below (g := gb116) (o := .cells #[.bool false, .string (⟨#[]⟩ : ByteArray), .string (⟨#[]⟩ : ByteArray)] 24 (0, 0)) (by (with_reducible repeat (first | refine blk_drewN ?_ _ | refine blk_drew ?_ | refine blk_alloc ?_ _)); exact BK116.out) hb); have n1_ := Aside0.mk (below_step (by repeat (first | (with_reducible first | exact HB.out | apply below_alloc | apply pw_below_drewN | apply below_drew1 | refine below_set ?_ GE116.out) | exact HB.out)) hb); clear BK116; clear HB; have BK116 := n0_; have HB := n1_; clear n0_ n1_; (try clear hb); (try clear hb2); (try clear hk); (try clear hi)) | ((with_reducible refine gate_callee (f := 15) rfl ?_); refine goesL_ (some 15) rfl rfl Tryz.func15 (by kernel_rfl) rfl #[.bool ((decide (a0 < 0)) != (decide (a1 < 0))), .string t117, .string t118] rfl (by (try simp only [List.map_toArray, List.map_cons, List.map_nil]); first | done | rfl | (simp only [List.length_drop, List.length_take]; rfl)) ?_; (with_reducible refine (rational_Make.calls k ((decide (a0 < 0)) != (decide (a1 < 0))) t117 t118 t119 t120 t121 t122 _ ?side1 A5.out).mono ?_); (case side1 => exact Laid.below HLaid.out (by repeat (first | (with_reducible first | exact HB.out | apply below_alloc | apply pw_below_drewN | apply below_drew1 | refine below_set ?_ GE116.out) | exact HB.out))); rintro e w9 ⟨rfl, hb⟩; refine ⟨_, rfl, ?_⟩; have n0_ := Aside0.mk (blk_below (g := gb116) (o := .cells #[.bool false, .string (⟨#[]⟩ : ByteArray), .string (⟨#[]⟩ : ByteArray)] 24 (0, 0)) (by (with_reducible repeat (first | refine blk_drewN ?_ _ | refine blk_drew ?_ | refine blk_alloc ?_ _)); exact BK116.out) hb); have n1_ := Aside0.mk (below_step (by repeat (first | (with_reducible first | exact HB.out | apply below_alloc | apply pw_below_drewN | apply below_drew1 | refine below_set ?_ GE116.out) | exact HB.out)) hb); clear BK116; clear HB; have BK116 := n0_; have HB := n1_; clear n0_ n1_; (try clear hb); (try clear hb2); (try clear hk); (try clear hi); have hcz10_0 : w9.cell? ⟨gb116, 0, none⟩ = some (.bool false) := (blk_cell BK116.out 0).trans rfl; have hcz10_1 : w9.cell? ⟨gb116, 1, none⟩ = some (.string (⟨#[]⟩ : ByteArray)) := (blk_cell BK116.out 1).trans rfl; have hcz10_2 : w9.cell? ⟨gb116, 2, none⟩ = some (.string (⟨#[]⟩ : ByteArray)) := (blk_cell BK116.out 2).trans rfl; have hfz10_0 := blk_frozen BK116.out 0; have hfz10_1 := blk_frozen BK116.out 1; have hfz10_2 := blk_frozen BK116.out 2))
  refine bodyPost_ret (results_ct rfl _ _ gb116 24 #[.bool t119, .string t120, .string t121] (0, 0) _ rfl (by (with_reducible repeat (first | refine blk_drewN ?_ _ | refine blk_drew ?_ | refine blk_alloc ?_ _)); refine blk_put (cs := #[.bool t119, .string t120, .string (⟨#[]⟩ : ByteArray)]) ?_ 2 _ rfl; (with_reducible repeat (first | refine blk_drewN ?_ _ | refine blk_drew ?_ | refine blk_alloc ?_ _)); refine blk_put (cs := #[.bool t119, .string (⟨#[]⟩ : ByteArray), .string (⟨#[]⟩ : ByteArray)]) ?_ 1 _ rfl; (with_reducible repeat (first | refine blk_drewN ?_ _ | refine blk_drew ?_ | refine blk_alloc ?_ _)); refine blk_put (cs := #[.bool false, .string (⟨#[]⟩ : ByteArray), .string (⟨#[]⟩ : ByteArray)]) ?_ 0 _ rfl; (with_reducible repeat (first | refine blk_drewN ?_ _ | refine blk_drew ?_ | refine blk_alloc ?_ _)); exact BK116.out) Tryz.underlying24 rfl (by kernel_rfl)) rfl ?_
  exact ⟨by first | rfl | (simp [errW_none, errW_some] <;> rfl) | (simp [*, errW_none, errW_some] <;> rfl), by repeat (first | (with_reducible first | exact HB.out | apply below_alloc | apply pw_below_drewN | apply below_drew1 | refine below_set ?_ GE116.out) | exact HB.out)⟩
def rational_Valid.j0 : Nat → Bool → Bool → ByteArray → ByteArray → Option (Bool)
  | 0, _, _, _, _ => none
  | k + 1, x19, x124000, x124001, x124002 => if x19 = true then (some false) else (if x124001.toList = ([48] : List UInt8) then (some (!x124000 && (x124001.toList == ([48] : List UInt8) && (x124002.toList == ([49] : List UInt8))))) else ((natural_Gcd.f x124001 x124002).bind fun bt126 => (if bt126.2 = 0 then (some (bt126.1.toList == ([49] : List UInt8))) else (some false))))
def rational_Valid.f (k : Nat) (a0_0 : Bool) (a0_1 : ByteArray) (a0_2 : ByteArray) : Option (Bool) := (natural_Valid.f a0_1).bind fun t124 => (if t124 = true then ((natural_Valid.f a0_2).bind fun t125 => (if t125 = true then (rational_Valid.j0 k (a0_2.toList == ([48] : List UInt8)) a0_0 a0_1 a0_2) else (rational_Valid.j0 k true a0_0 a0_1 a0_2))) else (rational_Valid.j0 k true a0_0 a0_1 a0_2))
set_option maxHeartbeats 8000000 in
set_option maxRecDepth 100000 in
theorem rational_Valid.calls (k : Nat) (a0_0 : Bool) (a0_1 : ByteArray) (a0_2 : ByteArray) (r : Bool) (w : World) (hL : Laid w) (h : rational_Valid.f k a0_0 a0_1 a0_2 = some r) :
    Calls Tryz.prog 21 #[.agg #[.bool a0_0, .string a0_1, .string a0_2]] w fun e w' => e = .returned (.bool r) ∧ Below w.heap.size w w' := by
  have HLaid := Aside0.mk hL
  clear hL
  have hu24 := Tryz.underlying24
  have HB := Aside0.mk (Below.refl w.heap.size w)
  have H : ((natural_Valid.f a0_1).bind fun t124 => (if t124 = true then ((natural_Valid.f a0_2).bind fun t125 => (if t125 = true then (rational_Valid.j0 k (a0_2.toList == ([48] : List UInt8)) a0_0 a0_1 a0_2) else (rational_Valid.j0 k true a0_0 a0_1 a0_2))) else (rational_Valid.j0 k true a0_0 a0_1 a0_2))) = some r := h
  clear h
  have HC2 := Aside0.mk H
  clear H
  go_enter Tryz.func21, Tryz.ntmps21
  go_upto_region 1 with (first | ((with_reducible refine gate_dst (N := 1) rfl ?_); refine box_event ?hg (N := 1) ?hd (cs := #[.bool a0_0, .string a0_1, .string a0_2]) (t := 24) ?hr ?_; (case hd => rfl); (case hg => rfl); (case hr => first | (go_simp; done) | (go_simp; rfl)); intro gb123 hg w3 hbox hb; have n0_ := Aside0.mk (below_step (by repeat (first | (with_reducible first | exact HB.out | apply below_alloc | apply pw_below_drewN | apply below_drew1) | exact HB.out)) hb); have n1_ := Aside0.mk (hbox); have n2_ := Aside0.mk ((by rw [hg]; exact (below_size (by repeat (first | (with_reducible first | exact HB.out | apply below_alloc | apply pw_below_drewN | apply below_drew1) | exact HB.out))) : w.heap.size ≤ gb123)); have n3_ := Aside0.mk ((by rw [hg]; exact (below_size (by repeat (first | (with_reducible first | exact HB.out | apply below_alloc | apply pw_below_drewN | apply below_drew1) | exact HB.out))) : w.heap.size ≤ gb123)); clear HB; have HB := n0_; have BK123 := n1_; have GW123 := n2_; have GE123 := n3_; clear n0_ n1_ n2_ n3_; clear hb hbox hg))
  (try simp only [Act.put, List.setIfInBounds_toArray, List.set_cons_zero, List.set_cons_succ])
  go_cut [19] (fun v19 wc => ∃ (kq : Nat) (x19_1 : Bool), v19 = .bool x19_1 ∧ Aside0 (rational_Valid.j0 kq x19_1 a0_0 a0_1 a0_2 = some r) ∧ Aside0 (kq ≤ k) ∧ Aside0 (wc.heap[gb123]? = some (.cells #[.bool a0_0, .string a0_1, .string a0_2] 24 (0, 0))) ∧ Aside0 (Below w.heap.size w wc))
  case first =>
    have H := HC2.out
    clear HC2
    replace H := Option.bind_eq_some_iff.mp H
    obtain ⟨t124, A40, H⟩ := H
    replace H : (if t124 = true then ((natural_Valid.f a0_2).bind fun t125 => (if t125 = true then (rational_Valid.j0 k (a0_2.toList == ([48] : List UInt8)) a0_0 a0_1 a0_2) else (rational_Valid.j0 k true a0_0 a0_1 a0_2))) else (rational_Valid.j0 k true a0_0 a0_1 a0_2)) = some r := H
    have A4 := Aside0.mk A40
    clear A40
    by_cases c5 : t124 = true
    · subst c5
      rw [if_pos rfl] at H
      replace H := Option.bind_eq_some_iff.mp H
      obtain ⟨t125, A60, H⟩ := H
      replace H : (if t125 = true then (rational_Valid.j0 k (a0_2.toList == ([48] : List UInt8)) a0_0 a0_1 a0_2) else (rational_Valid.j0 k true a0_0 a0_1 a0_2)) = some r := H
      have A6 := Aside0.mk A60
      clear A60
      by_cases c7 : t125 = true
      · subst c7
        rw [if_pos rfl] at H
        have H' := Aside0.mk H
        clear H
        have hcz8_0 : w3.cell? ⟨gb123, 0, none⟩ = some (.bool a0_0) := (blk_cell BK123.out 0).trans rfl
        have hcz8_1 : w3.cell? ⟨gb123, 1, none⟩ = some (.string a0_1) := (blk_cell BK123.out 1).trans rfl
        have hcz8_2 : w3.cell? ⟨gb123, 2, none⟩ = some (.string a0_2) := (blk_cell BK123.out 2).trans rfl
        have hfz8_0 := blk_frozen BK123.out 0
        have hfz8_1 := blk_frozen BK123.out 1
        have hfz8_2 := blk_frozen BK123.out 2
        go_wp2_with (first | ((with_reducible refine gate_callee (f := 41) rfl ?_); refine goesL_ (some 7) rfl rfl Tryz.func41 (by kernel_rfl) rfl #[.string a0_1] rfl (by (try simp only [List.map_toArray, List.map_cons, List.map_nil]); first | done | rfl | (simp only [List.length_drop, List.length_take]; rfl)) ?_; (with_reducible refine (natural_Valid.calls a0_1 true _ ?side1 A4.out).mono ?_); (case side1 => exact Laid.below HLaid.out (by repeat (first | (with_reducible first | exact HB.out | apply below_alloc | apply pw_below_drewN | apply below_drew1 | refine below_set ?_ GE123.out) | exact HB.out))); rintro e w9 ⟨rfl, hb⟩; refine ⟨_, rfl, ?_⟩; have n0_ := Aside0.mk (blk_below (g := gb123) (o := .cells #[.bool a0_0, .string a0_1, .string a0_2] 24 (0, 0)) (by (with_reducible repeat (first | refine blk_drewN ?_ _ | refine blk_drew ?_ | refine blk_alloc ?_ _)); exact BK123.out) hb); have n1_ := Aside0.mk (below_step (by repeat (first | (with_reducible first | exact HB.out | apply below_alloc | apply pw_below_drewN | apply below_drew1 | refine below_set ?_ GE123.out) | exact HB.out)) hb); clear BK123; clear HB; have BK123 := n0_; have HB := n1_; clear n0_ n1_; (try clear hb); (try clear hb2); (try clear hk); (try clear hi); have hcz10_0 : w9.cell? ⟨gb123, 0, none⟩ = some (.bool a0_0) := (blk_cell BK123.out 0).trans rfl; have hcz10_1 : w9.cell? ⟨gb123, 1, none⟩ = some (.string a0_1) := (blk_cell BK123.out 1).trans rfl; have hcz10_2 : w9.cell? ⟨gb123, 2, none⟩ = some (.string a0_2) := (blk_cell BK123.out 2).trans rfl; have hfz10_0 := blk_frozen BK123.out 0; have hfz10_1 := blk_frozen BK123.out 1; have hfz10_2 := blk_frozen BK123.out 2) | (go_at_call 41; (with_reducible refine (natural_Valid.calls a0_2 true _ ?side1 A6.out).mono ?_); (case side1 => exact Laid.below HLaid.out (by repeat (first | (with_reducible first | exact HB.out | apply below_alloc | apply pw_below_drewN | apply below_drew1 | refine below_set ?_ GE123.out) | exact HB.out))); rintro e w11 ⟨rfl, hb⟩; have n0_ := Aside0.mk (blk_below (g := gb123) (o := .cells #[.bool a0_0, .string a0_1, .string a0_2] 24 (0, 0)) (by (with_reducible repeat (first | refine blk_drewN ?_ _ | refine blk_drew ?_ | refine blk_alloc ?_ _)); exact BK123.out) hb); have n1_ := Aside0.mk (below_step (by repeat (first | (with_reducible first | exact HB.out | apply below_alloc | apply pw_below_drewN | apply below_drew1 | refine below_set ?_ GE123.out) | exact HB.out)) hb); clear BK123; clear HB; have BK123 := n0_; have HB := n1_; clear n0_ n1_; (try clear hb); (try clear hb2); (try clear hk); (try clear hi); have hcz12_0 : w11.cell? ⟨gb123, 0, none⟩ = some (.bool a0_0) := (blk_cell BK123.out 0).trans rfl; have hcz12_1 : w11.cell? ⟨gb123, 1, none⟩ = some (.string a0_1) := (blk_cell BK123.out 1).trans rfl; have hcz12_2 : w11.cell? ⟨gb123, 2, none⟩ = some (.string a0_2) := (blk_cell BK123.out 2).trans rfl; have hfz12_0 := blk_frozen BK123.out 0; have hfz12_1 := blk_frozen BK123.out 1; have hfz12_2 := blk_frozen BK123.out 2))
        go_meet
        case rel => exact ⟨_, ((a0_2.toList == ([48] : List UInt8))), (by first | rfl | (simp; done) | (simp [*]; done)), H', ⟨by first | omega | exact Nat.le_refl _⟩, ⟨by (with_reducible repeat (first | refine blk_drewN ?_ _ | refine blk_drew ?_ | refine blk_alloc ?_ _)); exact BK123.out⟩, ⟨by repeat (first | (with_reducible first | exact HB.out | apply below_alloc | apply pw_below_drewN | apply below_drew1 | refine below_set ?_ GE123.out) | exact HB.out)⟩⟩
      · replace c7 := Bool.eq_false_iff.mpr c7
        subst c7
        have H1 : (rational_Valid.j0 k true a0_0 a0_1 a0_2) = some r := by rw [if_neg (show ¬ (false = true) by decide)] at H; exact H
        clear H
        have H := H1
        clear H1
        have H' := Aside0.mk H
        clear H
        have hcz13_0 : w3.cell? ⟨gb123, 0, none⟩ = some (.bool a0_0) := (blk_cell BK123.out 0).trans rfl
        have hcz13_1 : w3.cell? ⟨gb123, 1, none⟩ = some (.string a0_1) := (blk_cell BK123.out 1).trans rfl
        have hcz13_2 : w3.cell? ⟨gb123, 2, none⟩ = some (.string a0_2) := (blk_cell BK123.out 2).trans rfl
        have hfz13_0 := blk_frozen BK123.out 0
        have hfz13_1 := blk_frozen BK123.out 1
        have hfz13_2 := blk_frozen BK123.out 2
        go_wp2_with (first | ((with_reducible refine gate_callee (f := 41) rfl ?_); refine goesL_ (some 7) rfl rfl Tryz.func41 (by kernel_rfl) rfl #[.string a0_1] rfl (by (try simp only [List.map_toArray, List.map_cons, List.map_nil]); first | done | rfl | (simp only [List.length_drop, List.length_take]; rfl)) ?_; (with_reducible refine (natural_Valid.calls a0_1 true _ ?side1 A4.out).mono ?_); (case side1 => exact Laid.below HLaid.out (by repeat (first | (with_reducible first | exact HB.out | apply below_alloc | apply pw_below_drewN | apply below_drew1 | refine below_set ?_ GE123.out) | exact HB.out))); rintro e w14 ⟨rfl, hb⟩; refine ⟨_, rfl, ?_⟩; have n0_ := Aside0.mk (blk_below (g := gb123) (o := .cells #[.bool a0_0, .string a0_1, .string a0_2] 24 (0, 0)) (by (with_reducible repeat (first | refine blk_drewN ?_ _ | refine blk_drew ?_ | refine blk_alloc ?_ _)); exact BK123.out) hb); have n1_ := Aside0.mk (below_step (by repeat (first | (with_reducible first | exact HB.out | apply below_alloc | apply pw_below_drewN | apply below_drew1 | refine below_set ?_ GE123.out) | exact HB.out)) hb); clear BK123; clear HB; have BK123 := n0_; have HB := n1_; clear n0_ n1_; (try clear hb); (try clear hb2); (try clear hk); (try clear hi); have hcz15_0 : w14.cell? ⟨gb123, 0, none⟩ = some (.bool a0_0) := (blk_cell BK123.out 0).trans rfl; have hcz15_1 : w14.cell? ⟨gb123, 1, none⟩ = some (.string a0_1) := (blk_cell BK123.out 1).trans rfl; have hcz15_2 : w14.cell? ⟨gb123, 2, none⟩ = some (.string a0_2) := (blk_cell BK123.out 2).trans rfl; have hfz15_0 := blk_frozen BK123.out 0; have hfz15_1 := blk_frozen BK123.out 1; have hfz15_2 := blk_frozen BK123.out 2) | (go_at_call 41; (with_reducible refine (natural_Valid.calls a0_2 false _ ?side1 A6.out).mono ?_); (case side1 => exact Laid.below HLaid.out (by repeat (first | (with_reducible first | exact HB.out | apply below_alloc | apply pw_below_drewN | apply below_drew1 | refine below_set ?_ GE123.out) | exact HB.out))); rintro e w16 ⟨rfl, hb⟩; have n0_ := Aside0.mk (blk_below (g := gb123) (o := .cells #[.bool a0_0, .string a0_1, .string a0_2] 24 (0, 0)) (by (with_reducible repeat (first | refine blk_drewN ?_ _ | refine blk_drew ?_ | refine blk_alloc ?_ _)); exact BK123.out) hb); have n1_ := Aside0.mk (below_step (by repeat (first | (with_reducible first | exact HB.out | apply below_alloc | apply pw_below_drewN | apply below_drew1 | refine below_set ?_ GE123.out) | exact HB.out)) hb); clear BK123; clear HB; have BK123 := n0_; have HB := n1_; clear n0_ n1_; (try clear hb); (try clear hb2); (try clear hk); (try clear hi)))
        go_meet
        case rel => exact ⟨_, (true), (by first | rfl | (simp; done) | (simp [*]; done)), H', ⟨by first | omega | exact Nat.le_refl _⟩, ⟨by (with_reducible repeat (first | refine blk_drewN ?_ _ | refine blk_drew ?_ | refine blk_alloc ?_ _)); exact BK123.out⟩, ⟨by repeat (first | (with_reducible first | exact HB.out | apply below_alloc | apply pw_below_drewN | apply below_drew1 | refine below_set ?_ GE123.out) | exact HB.out)⟩⟩
    · replace c5 := Bool.eq_false_iff.mpr c5
      subst c5
      have H1 : (rational_Valid.j0 k true a0_0 a0_1 a0_2) = some r := by rw [if_neg (show ¬ (false = true) by decide)] at H; exact H
      clear H
      have H := H1
      clear H1
      have H' := Aside0.mk H
      clear H
      have hcz17_0 : w3.cell? ⟨gb123, 0, none⟩ = some (.bool a0_0) := (blk_cell BK123.out 0).trans rfl
      have hcz17_1 : w3.cell? ⟨gb123, 1, none⟩ = some (.string a0_1) := (blk_cell BK123.out 1).trans rfl
      have hcz17_2 : w3.cell? ⟨gb123, 2, none⟩ = some (.string a0_2) := (blk_cell BK123.out 2).trans rfl
      have hfz17_0 := blk_frozen BK123.out 0
      have hfz17_1 := blk_frozen BK123.out 1
      have hfz17_2 := blk_frozen BK123.out 2
      go_wp2_with (first | ((with_reducible refine gate_callee (f := 41) rfl ?_); refine goesL_ (some 7) rfl rfl Tryz.func41 (by kernel_rfl) rfl #[.string a0_1] rfl (by (try simp only [List.map_toArray, List.map_cons, List.map_nil]); first | done | rfl | (simp only [List.length_drop, List.length_take]; rfl)) ?_; (with_reducible refine (natural_Valid.calls a0_1 false _ ?side1 A4.out).mono ?_); (case side1 => exact Laid.below HLaid.out (by repeat (first | (with_reducible first | exact HB.out | apply below_alloc | apply pw_below_drewN | apply below_drew1 | refine below_set ?_ GE123.out) | exact HB.out))); rintro e w18 ⟨rfl, hb⟩; refine ⟨_, rfl, ?_⟩; have n0_ := Aside0.mk (blk_below (g := gb123) (o := .cells #[.bool a0_0, .string a0_1, .string a0_2] 24 (0, 0)) (by (with_reducible repeat (first | refine blk_drewN ?_ _ | refine blk_drew ?_ | refine blk_alloc ?_ _)); exact BK123.out) hb); have n1_ := Aside0.mk (below_step (by repeat (first | (with_reducible first | exact HB.out | apply below_alloc | apply pw_below_drewN | apply below_drew1 | refine below_set ?_ GE123.out) | exact HB.out)) hb); clear BK123; clear HB; have BK123 := n0_; have HB := n1_; clear n0_ n1_; (try clear hb); (try clear hb2); (try clear hk); (try clear hi)))
      go_meet
      case rel => exact ⟨_, (true), (by first | rfl | (simp; done) | (simp [*]; done)), H', ⟨by first | omega | exact Nat.le_refl _⟩, ⟨by (with_reducible repeat (first | refine blk_drewN ?_ _ | refine blk_drew ?_ | refine blk_alloc ?_ _)); exact BK123.out⟩, ⟨by repeat (first | (with_reducible first | exact HB.out | apply below_alloc | apply pw_below_drewN | apply below_drew1 | refine below_set ?_ GE123.out) | exact HB.out)⟩⟩
  case rest =>
    clear HC2
    try clear c2
    try clear p2
    try clear c4
    try clear c5
    try clear c7
    try clear hcz10_0
    try clear hcz10_1
    try clear hcz10_2
    try clear hcz12_0
    try clear hcz12_1
    try clear hcz12_2
    try clear hcz13_0
    try clear hcz13_1
    try clear hcz13_2
    try clear hcz15_0
    try clear hcz15_1
    try clear hcz15_2
    try clear hcz17_0
    try clear hcz17_1
    try clear hcz17_2
    try clear hcz8_0
    try clear hcz8_1
    try clear hcz8_2
    try clear hfz10_0
    try clear hfz10_1
    try clear hfz10_2
    try clear hfz12_0
    try clear hfz12_1
    try clear hfz12_2
    try clear hfz13_0
    try clear hfz13_1
    try clear hfz13_2
    try clear hfz15_0
    try clear hfz15_1
    try clear hfz15_2
    try clear hfz17_0
    try clear hfz17_1
    try clear hfz17_2
    try clear hfz8_0
    try clear hfz8_1
    try clear hfz8_2
    obtain ⟨kq, x19_1, rfl, HA, HJ1, BK123, HB⟩ := hcut
    cases kq with
    | zero => exact absurd HA.out (by simp [rational_Valid.j0])
    | succ kj1 =>
      have H := HA.out
      clear HA
      simp only [rational_Valid.j0] at H
      by_cases c19 : x19_1 = true
      · subst c19
        rw [if_pos rfl] at H
        obtain rfl := Option.some.inj H
        go_wp2
        go_ret
        exact ⟨by first | rfl | (simp [errW_none, errW_some] <;> rfl) | (simp [*, errW_none, errW_some] <;> rfl), by repeat (first | (with_reducible first | exact HB.out | apply below_alloc | apply pw_below_drewN | apply below_drew1 | refine below_set ?_ GE123.out) | exact HB.out)⟩
      · replace c19 := Bool.eq_false_iff.mpr c19
        subst c19
        have H1 : (if a0_1.toList = ([48] : List UInt8) then (some (!a0_0 && (a0_1.toList == ([48] : List UInt8) && (a0_2.toList == ([49] : List UInt8))))) else ((natural_Gcd.f a0_1 a0_2).bind fun bt126 => (if bt126.2 = 0 then (some (bt126.1.toList == ([49] : List UInt8))) else (some false)))) = some r := by rw [if_neg (show ¬ (false = true) by decide)] at H; exact H
        clear H
        have H := H1
        clear H1
        by_cases c20 : a0_1.toList = ([48] : List UInt8)
        · rw [if_pos c20] at H
          have c20b0 : (a0_1.toList == ([48] : List UInt8)) = true := beq_iff_eq.mpr c20
          have c20b1 : (a0_1.toList != ([48] : List UInt8)) = false := bne_eq_false_iff_eq.mpr c20
          clear c20
          obtain rfl := Option.some.inj H
          have hcz21_0 : wc.cell? ⟨gb123, 0, none⟩ = some (.bool a0_0) := (blk_cell BK123.out 0).trans rfl
          have hcz21_1 : wc.cell? ⟨gb123, 1, none⟩ = some (.string a0_1) := (blk_cell BK123.out 1).trans rfl
          have hcz21_2 : wc.cell? ⟨gb123, 2, none⟩ = some (.string a0_2) := (blk_cell BK123.out 2).trans rfl
          have hfz21_0 := blk_frozen BK123.out 0
          have hfz21_1 := blk_frozen BK123.out 1
          have hfz21_2 := blk_frozen BK123.out 2
          go_wp2
          go_ret
          exact ⟨by first | rfl | (simp [errW_none, errW_some] <;> rfl) | (simp [*, errW_none, errW_some] <;> rfl), by repeat (first | (with_reducible first | exact HB.out | apply below_alloc | apply pw_below_drewN | apply below_drew1 | refine below_set ?_ GE123.out) | exact HB.out)⟩
        · rw [if_neg c20] at H
          have c20b0 : (a0_1.toList == ([48] : List UInt8)) = false := beq_eq_false_iff_ne.mpr c20
          have c20b1 : (a0_1.toList != ([48] : List UInt8)) = true := bne_iff_ne.mpr c20
          replace H := Option.bind_eq_some_iff.mp H
          obtain ⟨⟨t126, t127⟩, A220, H⟩ := H
          replace H : (if t127 = 0 then (some (t126.toList == ([49] : List UInt8))) else (some false)) = some r := H
          have A22 := Aside0.mk A220
          clear A220
          by_cases c23 : t127 = 0
          · rw [if_pos c23] at H
            have c23b0 : (t127 == 0) = true := beq_iff_eq.mpr c23
            have c23b1 : (t127 != 0) = false := bne_eq_false_iff_eq.mpr c23
            clear c23
            obtain rfl := Option.some.inj H
            have hcz24_0 : wc.cell? ⟨gb123, 0, none⟩ = some (.bool a0_0) := (blk_cell BK123.out 0).trans rfl
            have hcz24_1 : wc.cell? ⟨gb123, 1, none⟩ = some (.string a0_1) := (blk_cell BK123.out 1).trans rfl
            have hcz24_2 : wc.cell? ⟨gb123, 2, none⟩ = some (.string a0_2) := (blk_cell BK123.out 2).trans rfl
            have hfz24_0 := blk_frozen BK123.out 0
            have hfz24_1 := blk_frozen BK123.out 1
            have hfz24_2 := blk_frozen BK123.out 2
            go_wp2_with (first | ((with_reducible refine gate_callee (f := 46) rfl ?_); refine goesL_ (some 31) rfl rfl Tryz.func46 (by kernel_rfl) rfl #[.string a0_1, .string a0_2] rfl (by (try simp only [List.map_toArray, List.map_cons, List.map_nil]); first | done | rfl | (simp only [List.length_drop, List.length_take]; rfl)) ?_; (with_reducible refine (natural_Gcd.calls a0_1 a0_2 t126 t127 _ ?side1 A22.out).mono ?_); (case side1 => exact Laid.below HLaid.out (by repeat (first | (with_reducible first | exact HB.out | apply below_alloc | apply pw_below_drewN | apply below_drew1 | refine below_set ?_ GE123.out) | exact HB.out))); rintro e w25 ⟨rfl, hb⟩; refine ⟨_, rfl, ?_⟩; have n0_ := Aside0.mk (blk_below (g := gb123) (o := .cells #[.bool a0_0, .string a0_1, .string a0_2] 24 (0, 0)) (by (with_reducible repeat (first | refine blk_drewN ?_ _ | refine blk_drew ?_ | refine blk_alloc ?_ _)); exact BK123.out) hb); have n1_ := Aside0.mk (below_step (by repeat (first | (with_reducible first | exact HB.out | apply below_alloc | apply pw_below_drewN | apply below_drew1 | refine below_set ?_ GE123.out) | exact HB.out)) hb); clear BK123; clear HB; have BK123 := n0_; have HB := n1_; clear n0_ n1_; (try clear hb); (try clear hb2); (try clear hk); (try clear hi)))
            go_ret
            exact ⟨by first | rfl | (simp [errW_none, errW_some] <;> rfl) | (simp [*, errW_none, errW_some] <;> rfl), by repeat (first | (with_reducible first | exact HB.out | apply below_alloc | apply pw_below_drewN | apply below_drew1 | refine below_set ?_ GE123.out) | exact HB.out)⟩
          · rw [if_neg c23] at H
            have c23b0 : (t127 == 0) = false := beq_eq_false_iff_ne.mpr c23
            have c23b1 : (t127 != 0) = true := bne_iff_ne.mpr c23
            obtain rfl := Option.some.inj H
            have hcz26_0 : wc.cell? ⟨gb123, 0, none⟩ = some (.bool a0_0) := (blk_cell BK123.out 0).trans rfl
            have hcz26_1 : wc.cell? ⟨gb123, 1, none⟩ = some (.string a0_1) := (blk_cell BK123.out 1).trans rfl
            have hcz26_2 : wc.cell? ⟨gb123, 2, none⟩ = some (.string a0_2) := (blk_cell BK123.out 2).trans rfl
            have hfz26_0 := blk_frozen BK123.out 0
            have hfz26_1 := blk_frozen BK123.out 1
            have hfz26_2 := blk_frozen BK123.out 2
            go_wp2_with (first | ((with_reducible refine gate_callee (f := 46) rfl ?_); refine goesL_ (some 31) rfl rfl Tryz.func46 (by kernel_rfl) rfl #[.string a0_1, .string a0_2] rfl (by (try simp only [List.map_toArray, List.map_cons, List.map_nil]); first | done | rfl | (simp only [List.length_drop, List.length_take]; rfl)) ?_; (with_reducible refine (natural_Gcd.calls a0_1 a0_2 t126 t127 _ ?side1 A22.out).mono ?_); (case side1 => exact Laid.below HLaid.out (by repeat (first | (with_reducible first | exact HB.out | apply below_alloc | apply pw_below_drewN | apply below_drew1 | refine below_set ?_ GE123.out) | exact HB.out))); rintro e w27 ⟨rfl, hb⟩; refine ⟨_, rfl, ?_⟩; have n0_ := Aside0.mk (blk_below (g := gb123) (o := .cells #[.bool a0_0, .string a0_1, .string a0_2] 24 (0, 0)) (by (with_reducible repeat (first | refine blk_drewN ?_ _ | refine blk_drew ?_ | refine blk_alloc ?_ _)); exact BK123.out) hb); have n1_ := Aside0.mk (below_step (by repeat (first | (with_reducible first | exact HB.out | apply below_alloc | apply pw_below_drewN | apply below_drew1 | refine below_set ?_ GE123.out) | exact HB.out)) hb); clear BK123; clear HB; have BK123 := n0_; have HB := n1_; clear n0_ n1_; (try clear hb); (try clear hb2); (try clear hk); (try clear hi)))
            go_ret
            exact ⟨by first | rfl | (simp [errW_none, errW_some] <;> rfl) | (simp [*, errW_none, errW_some] <;> rfl), by repeat (first | (with_reducible first | exact HB.out | apply below_alloc | apply pw_below_drewN | apply below_drew1 | refine below_set ?_ GE123.out) | exact HB.out)⟩
def rational_Text.f (k : Nat) (a0_0 : Bool) (a0_1 : ByteArray) (a0_2 : ByteArray) : Option (ByteArray × Int) := (rational_Valid.f k a0_0 a0_1 a0_2).bind fun t129 => (if t129 = true then (if a0_2.toList = ([49] : List UInt8) then (if a0_0 = true then (if 1 + a0_1.size ≤ 9223372036854775807 then (some ((⟨#[45]⟩ : ByteArray) ++ a0_1, 0)) else (none)) else (some (a0_1, 0))) else (if 1 + a0_2.size ≤ 9223372036854775807 then (if a0_1.size + ((⟨#[47]⟩ : ByteArray) ++ a0_2).size ≤ 9223372036854775807 then (if a0_0 = true then (if 1 + (a0_1 ++ ((⟨#[47]⟩ : ByteArray) ++ a0_2)).size ≤ 9223372036854775807 then (some ((⟨#[45]⟩ : ByteArray) ++ (a0_1 ++ ((⟨#[47]⟩ : ByteArray) ++ a0_2)), 0)) else (none)) else (some (a0_1 ++ ((⟨#[47]⟩ : ByteArray) ++ a0_2), 0))) else (none)) else (none))) else (some ((⟨#[]⟩ : ByteArray), 1)))
set_option maxHeartbeats 8000000 in
set_option maxRecDepth 100000 in
theorem rational_Text.calls (k : Nat) (a0_0 : Bool) (a0_1 : ByteArray) (a0_2 : ByteArray) (r1 : ByteArray) (r2 : Int) (w : World) (hL : Laid w) (h : rational_Text.f k a0_0 a0_1 a0_2 = some (r1, r2)) :
    Calls Tryz.prog 17 #[.agg #[.bool a0_0, .string a0_1, .string a0_2]] w fun e w' => e = .returned (.tuple #[.string r1, .int .i64 r2]) ∧ Below w.heap.size w w' := by
  have HLaid := Aside0.mk hL
  clear hL
  have hu24 := Tryz.underlying24
  have HB := Aside0.mk (Below.refl w.heap.size w)
  have H : ((rational_Valid.f k a0_0 a0_1 a0_2).bind fun t129 => (if t129 = true then (if a0_2.toList = ([49] : List UInt8) then (if a0_0 = true then (if 1 + a0_1.size ≤ 9223372036854775807 then (some ((⟨#[45]⟩ : ByteArray) ++ a0_1, 0)) else (none)) else (some (a0_1, 0))) else (if 1 + a0_2.size ≤ 9223372036854775807 then (if a0_1.size + ((⟨#[47]⟩ : ByteArray) ++ a0_2).size ≤ 9223372036854775807 then (if a0_0 = true then (if 1 + (a0_1 ++ ((⟨#[47]⟩ : ByteArray) ++ a0_2)).size ≤ 9223372036854775807 then (some ((⟨#[45]⟩ : ByteArray) ++ (a0_1 ++ ((⟨#[47]⟩ : ByteArray) ++ a0_2)), 0)) else (none)) else (some (a0_1 ++ ((⟨#[47]⟩ : ByteArray) ++ a0_2), 0))) else (none)) else (none))) else (some ((⟨#[]⟩ : ByteArray), 1)))) = some (r1, r2) := h
  clear h
  replace H := Option.bind_eq_some_iff.mp H
  obtain ⟨t129, A20, H⟩ := H
  replace H : (if t129 = true then (if a0_2.toList = ([49] : List UInt8) then (if a0_0 = true then (if 1 + a0_1.size ≤ 9223372036854775807 then (some ((⟨#[45]⟩ : ByteArray) ++ a0_1, 0)) else (none)) else (some (a0_1, 0))) else (if 1 + a0_2.size ≤ 9223372036854775807 then (if a0_1.size + ((⟨#[47]⟩ : ByteArray) ++ a0_2).size ≤ 9223372036854775807 then (if a0_0 = true then (if 1 + (a0_1 ++ ((⟨#[47]⟩ : ByteArray) ++ a0_2)).size ≤ 9223372036854775807 then (some ((⟨#[45]⟩ : ByteArray) ++ (a0_1 ++ ((⟨#[47]⟩ : ByteArray) ++ a0_2)), 0)) else (none)) else (some (a0_1 ++ ((⟨#[47]⟩ : ByteArray) ++ a0_2), 0))) else (none)) else (none))) else (some ((⟨#[]⟩ : ByteArray), 1))) = some (r1, r2) := H
  have A2 := Aside0.mk A20
  clear A20
  by_cases c3 : t129 = true
  · subst c3
    rw [if_pos rfl] at H
    by_cases c4 : a0_2.toList = ([49] : List UInt8)
    · rw [if_pos c4] at H
      have c4b0 : (a0_2.toList == ([49] : List UInt8)) = true := beq_iff_eq.mpr c4
      have c4b1 : (a0_2.toList != ([49] : List UInt8)) = false := bne_eq_false_iff_eq.mpr c4
      clear c4
      by_cases c5 : a0_0 = true
      · subst c5
        rw [if_pos rfl] at H
        by_cases c6 : 1 + a0_1.size ≤ 9223372036854775807
        · rw [if_pos c6] at H
          have c6b0 := eq_true c6
          have c6b1 : decide (1 + a0_1.size ≤ 9223372036854775807) = true := decide_eq_true c6
          try have c6b2 : (9223372036854775807 < 1 + a0_1.size) = False := eq_false (Nat.not_lt.2 c6)
          simp only [Option.some.injEq, Prod.mk.injEq] at H
          obtain ⟨rfl, rfl⟩ := H
          go_enter Tryz.func17, Tryz.ntmps17
          go_wp2_with (first | ((with_reducible refine gate_dst (N := 1) rfl ?_); refine box_event ?hg (N := 1) ?hd (cs := #[.bool true, .string a0_1, .string a0_2]) (t := 24) ?hr ?_; (case hd => rfl); (case hg => rfl); (case hr => first | (go_simp; done) | (go_simp; rfl)); intro gb128 hg w7 hbox hb; have n0_ := Aside0.mk (below_step (by repeat (first | (with_reducible first | exact HB.out | apply below_alloc | apply pw_below_drewN | apply below_drew1) | exact HB.out)) hb); have n1_ := Aside0.mk (hbox); have n2_ := Aside0.mk ((by rw [hg]; exact (below_size (by repeat (first | (with_reducible first | exact HB.out | apply below_alloc | apply pw_below_drewN | apply below_drew1) | exact HB.out))) : w.heap.size ≤ gb128)); have n3_ := Aside0.mk ((by rw [hg]; exact (below_size (by repeat (first | (with_reducible first | exact HB.out | apply below_alloc | apply pw_below_drewN | apply below_drew1) | exact HB.out))) : w.heap.size ≤ gb128)); clear HB; have HB := n0_; have BK128 := n1_; have GW128 := n2_; have GE128 := n3_; clear n0_ n1_ n2_ n3_; clear hb hbox hg; have hcz8_0 : w7.cell? ⟨gb128, 0, none⟩ = some (.bool true) := (blk_cell BK128.out 0).trans rfl; have hcz8_1 : w7.cell? ⟨gb128, 1, none⟩ = some (.string a0_1) := (blk_cell BK128.out 1).trans rfl; have hcz8_2 : w7.cell? ⟨gb128, 2, none⟩ = some (.string a0_2) := (blk_cell BK128.out 2).trans rfl; have hfz8_0 := blk_frozen BK128.out 0; have hfz8_1 := blk_frozen BK128.out 1; have hfz8_2 := blk_frozen BK128.out 2) | ((with_reducible refine gate_callee (f := 21) rfl ?_); refine goesL_ (some 6) rfl rfl Tryz.func21 (by kernel_rfl) rfl #[.agg #[.bool true, .string a0_1, .string a0_2]] rfl (by (try simp only [List.map_toArray, List.map_cons, List.map_nil]); first | done | rfl | (simp only [List.length_drop, List.length_take]; rfl)) ?_; (with_reducible refine (rational_Valid.calls k true a0_1 a0_2 true _ ?side1 A2.out).mono ?_); (case side1 => exact Laid.below HLaid.out (by repeat (first | (with_reducible first | exact HB.out | apply below_alloc | apply pw_below_drewN | apply below_drew1 | refine below_set ?_ GE128.out) | exact HB.out))); rintro e w9 ⟨rfl, hb⟩; refine ⟨_, rfl, ?_⟩; have n0_ := Aside0.mk (blk_below (g := gb128) (o := .cells #[.bool true, .string a0_1, .string a0_2] 24 (0, 0)) (by (with_reducible repeat (first | refine blk_drewN ?_ _ | refine blk_drew ?_ | refine blk_alloc ?_ _)); exact BK128.out) hb); have n1_ := Aside0.mk (below_step (by repeat (first | (with_reducible first | exact HB.out | apply below_alloc | apply pw_below_drewN | apply below_drew1 | refine below_set ?_ GE128.out) | exact HB.out)) hb); clear BK128; clear HB; have BK128 := n0_; have HB := n1_; clear n0_ n1_; (try clear hb); (try clear hb2); (try clear hk); (try clear hi); have hcz10_0 : w9.cell? ⟨gb128, 0, none⟩ = some (.bool true) := (blk_cell BK128.out 0).trans rfl; have hcz10_1 : w9.cell? ⟨gb128, 1, none⟩ = some (.string a0_1) := (blk_cell BK128.out 1).trans rfl; have hcz10_2 : w9.cell? ⟨gb128, 2, none⟩ = some (.string a0_2) := (blk_cell BK128.out 2).trans rfl; have hfz10_0 := blk_frozen BK128.out 0; have hfz10_1 := blk_frozen BK128.out 1; have hfz10_2 := blk_frozen BK128.out 2))
          go_ret2
          exact ⟨by first | rfl | (simp [errW_none, errW_some] <;> rfl) | (simp [*, errW_none, errW_some] <;> rfl), by repeat (first | (with_reducible first | exact HB.out | apply below_alloc | apply pw_below_drewN | apply below_drew1 | refine below_set ?_ GE128.out) | exact HB.out)⟩
        · rw [if_neg c6] at H
          exact absurd H (by simp)
      · replace c5 := Bool.eq_false_iff.mpr c5
        subst c5
        have H1 : (some (a0_1, 0)) = some (r1, r2) := by rw [if_neg (show ¬ (false = true) by decide)] at H; exact H
        clear H
        have H := H1
        clear H1
        simp only [Option.some.injEq, Prod.mk.injEq] at H
        obtain ⟨rfl, rfl⟩ := H
        go_enter Tryz.func17, Tryz.ntmps17
        go_wp2_with (first | ((with_reducible refine gate_dst (N := 1) rfl ?_); refine box_event ?hg (N := 1) ?hd (cs := #[.bool false, .string a0_1, .string a0_2]) (t := 24) ?hr ?_; (case hd => rfl); (case hg => rfl); (case hr => first | (go_simp; done) | (go_simp; rfl)); intro gb128 hg w11 hbox hb; have n0_ := Aside0.mk (below_step (by repeat (first | (with_reducible first | exact HB.out | apply below_alloc | apply pw_below_drewN | apply below_drew1) | exact HB.out)) hb); have n1_ := Aside0.mk (hbox); have n2_ := Aside0.mk ((by rw [hg]; exact (below_size (by repeat (first | (with_reducible first | exact HB.out | apply below_alloc | apply pw_below_drewN | apply below_drew1) | exact HB.out))) : w.heap.size ≤ gb128)); have n3_ := Aside0.mk ((by rw [hg]; exact (below_size (by repeat (first | (with_reducible first | exact HB.out | apply below_alloc | apply pw_below_drewN | apply below_drew1) | exact HB.out))) : w.heap.size ≤ gb128)); clear HB; have HB := n0_; have BK128 := n1_; have GW128 := n2_; have GE128 := n3_; clear n0_ n1_ n2_ n3_; clear hb hbox hg; have hcz12_0 : w11.cell? ⟨gb128, 0, none⟩ = some (.bool false) := (blk_cell BK128.out 0).trans rfl; have hcz12_1 : w11.cell? ⟨gb128, 1, none⟩ = some (.string a0_1) := (blk_cell BK128.out 1).trans rfl; have hcz12_2 : w11.cell? ⟨gb128, 2, none⟩ = some (.string a0_2) := (blk_cell BK128.out 2).trans rfl; have hfz12_0 := blk_frozen BK128.out 0; have hfz12_1 := blk_frozen BK128.out 1; have hfz12_2 := blk_frozen BK128.out 2) | ((with_reducible refine gate_callee (f := 21) rfl ?_); refine goesL_ (some 6) rfl rfl Tryz.func21 (by kernel_rfl) rfl #[.agg #[.bool false, .string a0_1, .string a0_2]] rfl (by (try simp only [List.map_toArray, List.map_cons, List.map_nil]); first | done | rfl | (simp only [List.length_drop, List.length_take]; rfl)) ?_; (with_reducible refine (rational_Valid.calls k false a0_1 a0_2 true _ ?side1 A2.out).mono ?_); (case side1 => exact Laid.below HLaid.out (by repeat (first | (with_reducible first | exact HB.out | apply below_alloc | apply pw_below_drewN | apply below_drew1 | refine below_set ?_ GE128.out) | exact HB.out))); rintro e w13 ⟨rfl, hb⟩; refine ⟨_, rfl, ?_⟩; have n0_ := Aside0.mk (blk_below (g := gb128) (o := .cells #[.bool false, .string a0_1, .string a0_2] 24 (0, 0)) (by (with_reducible repeat (first | refine blk_drewN ?_ _ | refine blk_drew ?_ | refine blk_alloc ?_ _)); exact BK128.out) hb); have n1_ := Aside0.mk (below_step (by repeat (first | (with_reducible first | exact HB.out | apply below_alloc | apply pw_below_drewN | apply below_drew1 | refine below_set ?_ GE128.out) | exact HB.out)) hb); clear BK128; clear HB; have BK128 := n0_; have HB := n1_; clear n0_ n1_; (try clear hb); (try clear hb2); (try clear hk); (try clear hi); have hcz14_0 : w13.cell? ⟨gb128, 0, none⟩ = some (.bool false) := (blk_cell BK128.out 0).trans rfl; have hcz14_1 : w13.cell? ⟨gb128, 1, none⟩ = some (.string a0_1) := (blk_cell BK128.out 1).trans rfl; have hcz14_2 : w13.cell? ⟨gb128, 2, none⟩ = some (.string a0_2) := (blk_cell BK128.out 2).trans rfl; have hfz14_0 := blk_frozen BK128.out 0; have hfz14_1 := blk_frozen BK128.out 1; have hfz14_2 := blk_frozen BK128.out 2))
        go_ret2
        exact ⟨by first | rfl | (simp [errW_none, errW_some] <;> rfl) | (simp [*, errW_none, errW_some] <;> rfl), by repeat (first | (with_reducible first | exact HB.out | apply below_alloc | apply pw_below_drewN | apply below_drew1 | refine below_set ?_ GE128.out) | exact HB.out)⟩
    · rw [if_neg c4] at H
      have c4b0 : (a0_2.toList == ([49] : List UInt8)) = false := beq_eq_false_iff_ne.mpr c4
      have c4b1 : (a0_2.toList != ([49] : List UInt8)) = true := bne_iff_ne.mpr c4
      by_cases c15 : 1 + a0_2.size ≤ 9223372036854775807
      · rw [if_pos c15] at H
        have c15b0 := eq_true c15
        have c15b1 : decide (1 + a0_2.size ≤ 9223372036854775807) = true := decide_eq_true c15
        try have c15b2 : (9223372036854775807 < 1 + a0_2.size) = False := eq_false (Nat.not_lt.2 c15)
        by_cases c16 : a0_1.size + ((⟨#[47]⟩ : ByteArray) ++ a0_2).size ≤ 9223372036854775807
        · rw [if_pos c16] at H
          have c16b0 := eq_true c16
          have c16b1 : decide (a0_1.size + ((⟨#[47]⟩ : ByteArray) ++ a0_2).size ≤ 9223372036854775807) = true := decide_eq_true c16
          try have c16b2 : (9223372036854775807 < a0_1.size + ((⟨#[47]⟩ : ByteArray) ++ a0_2).size) = False := eq_false (Nat.not_lt.2 c16)
          try have c16m := eq_false (Nat.not_lt.2 (by have h_ := c16; simp only [ByteArray.size_append, show (ByteArray.mk #[47]).size = 1 from rfl, show (ByteArray.mk #[45]).size = 1 from rfl] at h_; exact h_))
          by_cases c17 : a0_0 = true
          · subst c17
            rw [if_pos rfl] at H
            by_cases c18 : 1 + (a0_1 ++ ((⟨#[47]⟩ : ByteArray) ++ a0_2)).size ≤ 9223372036854775807
            · rw [if_pos c18] at H
              have c18b0 := eq_true c18
              have c18b1 : decide (1 + (a0_1 ++ ((⟨#[47]⟩ : ByteArray) ++ a0_2)).size ≤ 9223372036854775807) = true := decide_eq_true c18
              try have c18b2 : (9223372036854775807 < 1 + (a0_1 ++ ((⟨#[47]⟩ : ByteArray) ++ a0_2)).size) = False := eq_false (Nat.not_lt.2 c18)
              try have c18m := eq_false (Nat.not_lt.2 (by have h_ := c18; simp only [ByteArray.size_append, show (ByteArray.mk #[47]).size = 1 from rfl, show (ByteArray.mk #[45]).size = 1 from rfl] at h_; exact h_))
              simp only [Option.some.injEq, Prod.mk.injEq] at H
              obtain ⟨rfl, rfl⟩ := H
              go_enter Tryz.func17, Tryz.ntmps17
              go_wp2_with (first | ((with_reducible refine gate_dst (N := 1) rfl ?_); refine box_event ?hg (N := 1) ?hd (cs := #[.bool true, .string a0_1, .string a0_2]) (t := 24) ?hr ?_; (case hd => rfl); (case hg => rfl); (case hr => first | (go_simp; done) | (go_simp; rfl)); intro gb128 hg w19 hbox hb; have n0_ := Aside0.mk (below_step (by repeat (first | (with_reducible first | exact HB.out | apply below_alloc | apply pw_below_drewN | apply below_drew1) | exact HB.out)) hb); have n1_ := Aside0.mk (hbox); have n2_ := Aside0.mk ((by rw [hg]; exact (below_size (by repeat (first | (with_reducible first | exact HB.out | apply below_alloc | apply pw_below_drewN | apply below_drew1) | exact HB.out))) : w.heap.size ≤ gb128)); have n3_ := Aside0.mk ((by rw [hg]; exact (below_size (by repeat (first | (with_reducible first | exact HB.out | apply below_alloc | apply pw_below_drewN | apply below_drew1) | exact HB.out))) : w.heap.size ≤ gb128)); clear HB; have HB := n0_; have BK128 := n1_; have GW128 := n2_; have GE128 := n3_; clear n0_ n1_ n2_ n3_; clear hb hbox hg; have hcz20_0 : w19.cell? ⟨gb128, 0, none⟩ = some (.bool true) := (blk_cell BK128.out 0).trans rfl; have hcz20_1 : w19.cell? ⟨gb128, 1, none⟩ = some (.string a0_1) := (blk_cell BK128.out 1).trans rfl; have hcz20_2 : w19.cell? ⟨gb128, 2, none⟩ = some (.string a0_2) := (blk_cell BK128.out 2).trans rfl; have hfz20_0 := blk_frozen BK128.out 0; have hfz20_1 := blk_frozen BK128.out 1; have hfz20_2 := blk_frozen BK128.out 2) | ((with_reducible refine gate_callee (f := 21) rfl ?_); refine goesL_ (some 6) rfl rfl Tryz.func21 (by kernel_rfl) rfl #[.agg #[.bool true, .string a0_1, .string a0_2]] rfl (by (try simp only [List.map_toArray, List.map_cons, List.map_nil]); first | done | rfl | (simp only [List.length_drop, List.length_take]; rfl)) ?_; (with_reducible refine (rational_Valid.calls k true a0_1 a0_2 true _ ?side1 A2.out).mono ?_); (case side1 => exact Laid.below HLaid.out (by repeat (first | (with_reducible first | exact HB.out | apply below_alloc | apply pw_below_drewN | apply below_drew1 | refine below_set ?_ GE128.out) | exact HB.out))); rintro e w21 ⟨rfl, hb⟩; refine ⟨_, rfl, ?_⟩; have n0_ := Aside0.mk (blk_below (g := gb128) (o := .cells #[.bool true, .string a0_1, .string a0_2] 24 (0, 0)) (by (with_reducible repeat (first | refine blk_drewN ?_ _ | refine blk_drew ?_ | refine blk_alloc ?_ _)); exact BK128.out) hb); have n1_ := Aside0.mk (below_step (by repeat (first | (with_reducible first | exact HB.out | apply below_alloc | apply pw_below_drewN | apply below_drew1 | refine below_set ?_ GE128.out) | exact HB.out)) hb); clear BK128; clear HB; have BK128 := n0_; have HB := n1_; clear n0_ n1_; (try clear hb); (try clear hb2); (try clear hk); (try clear hi); have hcz22_0 : w21.cell? ⟨gb128, 0, none⟩ = some (.bool true) := (blk_cell BK128.out 0).trans rfl; have hcz22_1 : w21.cell? ⟨gb128, 1, none⟩ = some (.string a0_1) := (blk_cell BK128.out 1).trans rfl; have hcz22_2 : w21.cell? ⟨gb128, 2, none⟩ = some (.string a0_2) := (blk_cell BK128.out 2).trans rfl; have hfz22_0 := blk_frozen BK128.out 0; have hfz22_1 := blk_frozen BK128.out 1; have hfz22_2 := blk_frozen BK128.out 2))
              go_ret2
              exact ⟨by first | rfl | (simp [errW_none, errW_some] <;> rfl) | (simp [*, errW_none, errW_some] <;> rfl), by repeat (first | (with_reducible first | exact HB.out | apply below_alloc | apply pw_below_drewN | apply below_drew1 | refine below_set ?_ GE128.out) | exact HB.out)⟩
            · rw [if_neg c18] at H
              exact absurd H (by simp)
          · replace c17 := Bool.eq_false_iff.mpr c17
            subst c17
            have H1 : (some (a0_1 ++ ((⟨#[47]⟩ : ByteArray) ++ a0_2), 0)) = some (r1, r2) := by rw [if_neg (show ¬ (false = true) by decide)] at H; exact H
            clear H
            have H := H1
            clear H1
            simp only [Option.some.injEq, Prod.mk.injEq] at H
            obtain ⟨rfl, rfl⟩ := H
            go_enter Tryz.func17, Tryz.ntmps17
            go_wp2_with (first | ((with_reducible refine gate_dst (N := 1) rfl ?_); refine box_event ?hg (N := 1) ?hd (cs := #[.bool false, .string a0_1, .string a0_2]) (t := 24) ?hr ?_; (case hd => rfl); (case hg => rfl); (case hr => first | (go_simp; done) | (go_simp; rfl)); intro gb128 hg w23 hbox hb; have n0_ := Aside0.mk (below_step (by repeat (first | (with_reducible first | exact HB.out | apply below_alloc | apply pw_below_drewN | apply below_drew1) | exact HB.out)) hb); have n1_ := Aside0.mk (hbox); have n2_ := Aside0.mk ((by rw [hg]; exact (below_size (by repeat (first | (with_reducible first | exact HB.out | apply below_alloc | apply pw_below_drewN | apply below_drew1) | exact HB.out))) : w.heap.size ≤ gb128)); have n3_ := Aside0.mk ((by rw [hg]; exact (below_size (by repeat (first | (with_reducible first | exact HB.out | apply below_alloc | apply pw_below_drewN | apply below_drew1) | exact HB.out))) : w.heap.size ≤ gb128)); clear HB; have HB := n0_; have BK128 := n1_; have GW128 := n2_; have GE128 := n3_; clear n0_ n1_ n2_ n3_; clear hb hbox hg; have hcz24_0 : w23.cell? ⟨gb128, 0, none⟩ = some (.bool false) := (blk_cell BK128.out 0).trans rfl; have hcz24_1 : w23.cell? ⟨gb128, 1, none⟩ = some (.string a0_1) := (blk_cell BK128.out 1).trans rfl; have hcz24_2 : w23.cell? ⟨gb128, 2, none⟩ = some (.string a0_2) := (blk_cell BK128.out 2).trans rfl; have hfz24_0 := blk_frozen BK128.out 0; have hfz24_1 := blk_frozen BK128.out 1; have hfz24_2 := blk_frozen BK128.out 2) | ((with_reducible refine gate_callee (f := 21) rfl ?_); refine goesL_ (some 6) rfl rfl Tryz.func21 (by kernel_rfl) rfl #[.agg #[.bool false, .string a0_1, .string a0_2]] rfl (by (try simp only [List.map_toArray, List.map_cons, List.map_nil]); first | done | rfl | (simp only [List.length_drop, List.length_take]; rfl)) ?_; (with_reducible refine (rational_Valid.calls k false a0_1 a0_2 true _ ?side1 A2.out).mono ?_); (case side1 => exact Laid.below HLaid.out (by repeat (first | (with_reducible first | exact HB.out | apply below_alloc | apply pw_below_drewN | apply below_drew1 | refine below_set ?_ GE128.out) | exact HB.out))); rintro e w25 ⟨rfl, hb⟩; refine ⟨_, rfl, ?_⟩; have n0_ := Aside0.mk (blk_below (g := gb128) (o := .cells #[.bool false, .string a0_1, .string a0_2] 24 (0, 0)) (by (with_reducible repeat (first | refine blk_drewN ?_ _ | refine blk_drew ?_ | refine blk_alloc ?_ _)); exact BK128.out) hb); have n1_ := Aside0.mk (below_step (by repeat (first | (with_reducible first | exact HB.out | apply below_alloc | apply pw_below_drewN | apply below_drew1 | refine below_set ?_ GE128.out) | exact HB.out)) hb); clear BK128; clear HB; have BK128 := n0_; have HB := n1_; clear n0_ n1_; (try clear hb); (try clear hb2); (try clear hk); (try clear hi); have hcz26_0 : w25.cell? ⟨gb128, 0, none⟩ = some (.bool false) := (blk_cell BK128.out 0).trans rfl; have hcz26_1 : w25.cell? ⟨gb128, 1, none⟩ = some (.string a0_1) := (blk_cell BK128.out 1).trans rfl; have hcz26_2 : w25.cell? ⟨gb128, 2, none⟩ = some (.string a0_2) := (blk_cell BK128.out 2).trans rfl; have hfz26_0 := blk_frozen BK128.out 0; have hfz26_1 := blk_frozen BK128.out 1; have hfz26_2 := blk_frozen BK128.out 2))
            go_ret2
            exact ⟨by first | rfl | (simp [errW_none, errW_some] <;> rfl) | (simp [*, errW_none, errW_some] <;> rfl), by repeat (first | (with_reducible first | exact HB.out | apply below_alloc | apply pw_below_drewN | apply below_drew1 | refine below_set ?_ GE128.out) | exact HB.out)⟩
        · rw [if_neg c16] at H
          exact absurd H (by simp)
      · rw [if_neg c15] at H
        exact absurd H (by simp)
  · replace c3 := Bool.eq_false_iff.mpr c3
    subst c3
    have H1 : (some ((⟨#[]⟩ : ByteArray), 1)) = some (r1, r2) := by rw [if_neg (show ¬ (false = true) by decide)] at H; exact H
    clear H
    have H := H1
    clear H1
    simp only [Option.some.injEq, Prod.mk.injEq] at H
    obtain ⟨rfl, rfl⟩ := H
    go_enter Tryz.func17, Tryz.ntmps17
    go_wp2_with (first | ((with_reducible refine gate_dst (N := 1) rfl ?_); refine box_event ?hg (N := 1) ?hd (cs := #[.bool a0_0, .string a0_1, .string a0_2]) (t := 24) ?hr ?_; (case hd => rfl); (case hg => rfl); (case hr => first | (go_simp; done) | (go_simp; rfl)); intro gb128 hg w27 hbox hb; have n0_ := Aside0.mk (below_step (by repeat (first | (with_reducible first | exact HB.out | apply below_alloc | apply pw_below_drewN | apply below_drew1) | exact HB.out)) hb); have n1_ := Aside0.mk (hbox); have n2_ := Aside0.mk ((by rw [hg]; exact (below_size (by repeat (first | (with_reducible first | exact HB.out | apply below_alloc | apply pw_below_drewN | apply below_drew1) | exact HB.out))) : w.heap.size ≤ gb128)); have n3_ := Aside0.mk ((by rw [hg]; exact (below_size (by repeat (first | (with_reducible first | exact HB.out | apply below_alloc | apply pw_below_drewN | apply below_drew1) | exact HB.out))) : w.heap.size ≤ gb128)); clear HB; have HB := n0_; have BK128 := n1_; have GW128 := n2_; have GE128 := n3_; clear n0_ n1_ n2_ n3_; clear hb hbox hg; have hcz28_0 : w27.cell? ⟨gb128, 0, none⟩ = some (.bool a0_0) := (blk_cell BK128.out 0).trans rfl; have hcz28_1 : w27.cell? ⟨gb128, 1, none⟩ = some (.string a0_1) := (blk_cell BK128.out 1).trans rfl; have hcz28_2 : w27.cell? ⟨gb128, 2, none⟩ = some (.string a0_2) := (blk_cell BK128.out 2).trans rfl; have hfz28_0 := blk_frozen BK128.out 0; have hfz28_1 := blk_frozen BK128.out 1; have hfz28_2 := blk_frozen BK128.out 2) | ((with_reducible refine gate_callee (f := 21) rfl ?_); refine goesL_ (some 6) rfl rfl Tryz.func21 (by kernel_rfl) rfl #[.agg #[.bool a0_0, .string a0_1, .string a0_2]] rfl (by (try simp only [List.map_toArray, List.map_cons, List.map_nil]); first | done | rfl | (simp only [List.length_drop, List.length_take]; rfl)) ?_; (with_reducible refine (rational_Valid.calls k a0_0 a0_1 a0_2 false _ ?side1 A2.out).mono ?_); (case side1 => exact Laid.below HLaid.out (by repeat (first | (with_reducible first | exact HB.out | apply below_alloc | apply pw_below_drewN | apply below_drew1 | refine below_set ?_ GE128.out) | exact HB.out))); rintro e w29 ⟨rfl, hb⟩; refine ⟨_, rfl, ?_⟩; have n0_ := Aside0.mk (blk_below (g := gb128) (o := .cells #[.bool a0_0, .string a0_1, .string a0_2] 24 (0, 0)) (by (with_reducible repeat (first | refine blk_drewN ?_ _ | refine blk_drew ?_ | refine blk_alloc ?_ _)); exact BK128.out) hb); have n1_ := Aside0.mk (below_step (by repeat (first | (with_reducible first | exact HB.out | apply below_alloc | apply pw_below_drewN | apply below_drew1 | refine below_set ?_ GE128.out) | exact HB.out)) hb); clear BK128; clear HB; have BK128 := n0_; have HB := n1_; clear n0_ n1_; (try clear hb); (try clear hb2); (try clear hk); (try clear hi)))
    go_ret2
    exact ⟨by first | rfl | (simp [errW_none, errW_some] <;> rfl) | (simp [*, errW_none, errW_some] <;> rfl), by repeat (first | (with_reducible first | exact HB.out | apply below_alloc | apply pw_below_drewN | apply below_drew1 | refine below_set ?_ GE128.out) | exact HB.out)⟩
def rational_minus.f (a0_0 : Bool) (a0_1 : ByteArray) (a0_2 : ByteArray) : Option (Bool × ByteArray × ByteArray) := if a0_0 = true then (some (false, a0_1, a0_2)) else (some ((a0_1.toList != ([48] : List UInt8)), a0_1, a0_2))
set_option maxHeartbeats 8000000 in
set_option maxRecDepth 100000 in
theorem rational_minus.calls (a0_0 : Bool) (a0_1 : ByteArray) (a0_2 : ByteArray) (r1 : Bool) (r2 : ByteArray) (r3 : ByteArray) (w : World) (h : rational_minus.f a0_0 a0_1 a0_2 = some (r1, r2, r3)) :
    Calls Tryz.prog 48 #[.agg #[.bool a0_0, .string a0_1, .string a0_2]] w fun e w' => e = .returned (.agg #[.bool r1, .string r2, .string r3]) ∧ Below w.heap.size w w' := by
  have hu24 := Tryz.underlying24
  have HB := Aside0.mk (Below.refl w.heap.size w)
  have H : (if a0_0 = true then (some (false, a0_1, a0_2)) else (some ((a0_1.toList != ([48] : List UInt8)), a0_1, a0_2))) = some (r1, r2, r3) := h
  clear h
  by_cases c2 : a0_0 = true
  · subst c2
    rw [if_pos rfl] at H
    simp only [Option.some.injEq, Prod.mk.injEq] at H
    obtain ⟨rfl, rfl, rfl⟩ := H
    go_enter Tryz.func48, Tryz.ntmps48
    go_wp2_with (first | ((with_reducible refine gate_dst (N := 1) rfl ?_); refine box_event ?hg (N := 1) ?hd (cs := #[.bool true, .string a0_1, .string a0_2]) (t := 24) ?hr ?_; (case hd => rfl); (case hg => rfl); (case hr => first | (go_simp; done) | (go_simp; rfl)); intro gb130 hg w3 hbox hb; have n0_ := Aside0.mk (below_step (by repeat (first | (with_reducible first | exact HB.out | apply below_alloc | apply pw_below_drewN | apply below_drew1) | exact HB.out)) hb); have n1_ := Aside0.mk (hbox); have n2_ := Aside0.mk ((by rw [hg]; exact (below_size (by repeat (first | (with_reducible first | exact HB.out | apply below_alloc | apply pw_below_drewN | apply below_drew1) | exact HB.out))) : w.heap.size ≤ gb130)); have n3_ := Aside0.mk ((by rw [hg]; exact (below_size (by repeat (first | (with_reducible first | exact HB.out | apply below_alloc | apply pw_below_drewN | apply below_drew1) | exact HB.out))) : w.heap.size ≤ gb130)); clear HB; have HB := n0_; have BK130 := n1_; have GW130 := n2_; have GE130 := n3_; clear n0_ n1_ n2_ n3_; clear hb hbox hg) | ((with_reducible refine gate_dst (N := 2) rfl ?_); refine box_event ?hg (N := 2) ?hd (cs := #[.bool false, .string (⟨#[]⟩ : ByteArray), .string (⟨#[]⟩ : ByteArray)]) (t := 24) ?hr ?_; (case hd => rfl); (case hg => rfl); (case hr => first | (go_simp; done) | (go_simp; rfl)); intro gb131 hg w4 hbox hb; have n0_ := Aside0.mk (blk_below (g := gb130) (o := .cells #[.bool true, .string a0_1, .string a0_2] 24 (0, 0)) (by (with_reducible repeat (first | refine blk_drewN ?_ _ | refine blk_drew ?_ | refine blk_alloc ?_ _)); exact BK130.out) hb); have n1_ := Aside0.mk (below_step (by repeat (first | (with_reducible first | exact HB.out | apply below_alloc | apply pw_below_drewN | apply below_drew1 | refine below_set ?_ GE130.out) | exact HB.out)) hb); have n2_ := Aside0.mk (hbox); have n3_ := Aside0.mk ((by rw [hg]; exact (below_size (by repeat (first | (with_reducible first | exact HB.out | apply below_alloc | apply pw_below_drewN | apply below_drew1 | refine below_set ?_ GE130.out) | exact HB.out))) : w.heap.size ≤ gb131)); have n4_ := Aside0.mk ((by rw [hg]; exact (below_size (by repeat (first | (with_reducible first | exact HB.out | apply below_alloc | apply pw_below_drewN | apply below_drew1 | refine below_set ?_ GE130.out) | exact HB.out))) : w.heap.size ≤ gb131)); have n5_ := Aside0.mk ((by rw [hg]; exact Nat.ne_of_lt (blk_lt (g := gb130) (o := .cells #[.bool true, .string a0_1, .string a0_2] 24 (0, 0)) (by (with_reducible repeat (first | refine blk_drewN ?_ _ | refine blk_drew ?_ | refine blk_alloc ?_ _)); exact BK130.out)) : gb130 ≠ gb131)); have n6_ := Aside0.mk ((by rw [hg]; exact Nat.ne_of_gt (blk_lt (g := gb130) (o := .cells #[.bool true, .string a0_1, .string a0_2] 24 (0, 0)) (by (with_reducible repeat (first | refine blk_drewN ?_ _ | refine blk_drew ?_ | refine blk_alloc ?_ _)); exact BK130.out)) : gb131 ≠ gb130)); clear BK130; clear HB; have BK130 := n0_; have HB := n1_; have BK131 := n2_; have GW131 := n3_; have GE131 := n4_; have NB130_131 := n5_; have NB131_130 := n6_; clear n0_ n1_ n2_ n3_ n4_ n5_ n6_; clear hb hbox hg; have hnb5 := NB130_131.out; have hnc5 := NB131_130.out; have hcz6_0 : w4.cell? ⟨gb130, 0, none⟩ = some (.bool true) := (blk_cell BK130.out 0).trans rfl; have hcz6_1 : w4.cell? ⟨gb130, 1, none⟩ = some (.string a0_1) := (blk_cell BK130.out 1).trans rfl; have hcz6_2 : w4.cell? ⟨gb130, 2, none⟩ = some (.string a0_2) := (blk_cell BK130.out 2).trans rfl; have hfz6_0 := blk_frozen BK130.out 0; have hfz6_1 := blk_frozen BK130.out 1; have hfz6_2 := blk_frozen BK130.out 2; have hcz7_0 : w4.cell? ⟨gb131, 0, none⟩ = some (.bool false) := (blk_cell BK131.out 0).trans rfl; have hcz7_1 : w4.cell? ⟨gb131, 1, none⟩ = some (.string (⟨#[]⟩ : ByteArray)) := (blk_cell BK131.out 1).trans rfl; have hcz7_2 : w4.cell? ⟨gb131, 2, none⟩ = some (.string (⟨#[]⟩ : ByteArray)) := (blk_cell BK131.out 2).trans rfl; have hfz7_0 := blk_frozen BK131.out 0; have hfz7_1 := blk_frozen BK131.out 1; have hfz7_2 := blk_frozen BK131.out 2))
    refine bodyPost_ret (results_cell_row rfl _ _ gb131 24 #[.bool false, .string a0_1, .string a0_2] (0, 0) _ rfl (by (with_reducible repeat (first | refine blk_drewN ?_ _ | refine blk_drew ?_ | refine blk_alloc ?_ _)); refine blk_put (cs := #[.bool false, .string a0_1, .string (⟨#[]⟩ : ByteArray)]) ?_ 2 _ rfl; (with_reducible repeat (first | refine blk_drewN ?_ _ | refine blk_drew ?_ | refine blk_alloc ?_ _)); refine blk_put (cs := #[.bool false, .string (⟨#[]⟩ : ByteArray), .string (⟨#[]⟩ : ByteArray)]) ?_ 1 _ rfl; (with_reducible repeat (first | refine blk_drewN ?_ _ | refine blk_drew ?_ | refine blk_alloc ?_ _)); refine blk_put (cs := #[.bool false, .string (⟨#[]⟩ : ByteArray), .string (⟨#[]⟩ : ByteArray)]) ?_ 0 _ rfl; (with_reducible repeat (first | refine blk_drewN ?_ _ | refine blk_drew ?_ | refine blk_alloc ?_ _)); refine blk_far ?_ NB131_130.out _; (with_reducible repeat (first | refine blk_drewN ?_ _ | refine blk_drew ?_ | refine blk_alloc ?_ _)); exact BK131.out) Tryz.underlying24 rfl (by kernel_rfl)) rfl ?_
    exact ⟨by first | rfl | (simp [errW_none, errW_some] <;> rfl) | (simp [*, errW_none, errW_some] <;> rfl), by repeat (first | (with_reducible first | exact HB.out | apply below_alloc | apply pw_below_drewN | apply below_drew1 | refine below_set ?_ GE130.out | refine below_set ?_ GE131.out) | exact HB.out)⟩
  · replace c2 := Bool.eq_false_iff.mpr c2
    subst c2
    have H1 : (some ((a0_1.toList != ([48] : List UInt8)), a0_1, a0_2)) = some (r1, r2, r3) := by rw [if_neg (show ¬ (false = true) by decide)] at H; exact H
    clear H
    have H := H1
    clear H1
    simp only [Option.some.injEq, Prod.mk.injEq] at H
    obtain ⟨rfl, rfl, rfl⟩ := H
    go_enter Tryz.func48, Tryz.ntmps48
    go_wp2_with (first | ((with_reducible refine gate_dst (N := 1) rfl ?_); refine box_event ?hg (N := 1) ?hd (cs := #[.bool false, .string a0_1, .string a0_2]) (t := 24) ?hr ?_; (case hd => rfl); (case hg => rfl); (case hr => first | (go_simp; done) | (go_simp; rfl)); intro gb130 hg w8 hbox hb; have n0_ := Aside0.mk (below_step (by repeat (first | (with_reducible first | exact HB.out | apply below_alloc | apply pw_below_drewN | apply below_drew1) | exact HB.out)) hb); have n1_ := Aside0.mk (hbox); have n2_ := Aside0.mk ((by rw [hg]; exact (below_size (by repeat (first | (with_reducible first | exact HB.out | apply below_alloc | apply pw_below_drewN | apply below_drew1) | exact HB.out))) : w.heap.size ≤ gb130)); have n3_ := Aside0.mk ((by rw [hg]; exact (below_size (by repeat (first | (with_reducible first | exact HB.out | apply below_alloc | apply pw_below_drewN | apply below_drew1) | exact HB.out))) : w.heap.size ≤ gb130)); clear HB; have HB := n0_; have BK130 := n1_; have GW130 := n2_; have GE130 := n3_; clear n0_ n1_ n2_ n3_; clear hb hbox hg) | ((with_reducible refine gate_dst (N := 2) rfl ?_); refine box_event ?hg (N := 2) ?hd (cs := #[.bool false, .string (⟨#[]⟩ : ByteArray), .string (⟨#[]⟩ : ByteArray)]) (t := 24) ?hr ?_; (case hd => rfl); (case hg => rfl); (case hr => first | (go_simp; done) | (go_simp; rfl)); intro gb131 hg w9 hbox hb; have n0_ := Aside0.mk (blk_below (g := gb130) (o := .cells #[.bool false, .string a0_1, .string a0_2] 24 (0, 0)) (by (with_reducible repeat (first | refine blk_drewN ?_ _ | refine blk_drew ?_ | refine blk_alloc ?_ _)); exact BK130.out) hb); have n1_ := Aside0.mk (below_step (by repeat (first | (with_reducible first | exact HB.out | apply below_alloc | apply pw_below_drewN | apply below_drew1 | refine below_set ?_ GE130.out) | exact HB.out)) hb); have n2_ := Aside0.mk (hbox); have n3_ := Aside0.mk ((by rw [hg]; exact (below_size (by repeat (first | (with_reducible first | exact HB.out | apply below_alloc | apply pw_below_drewN | apply below_drew1 | refine below_set ?_ GE130.out) | exact HB.out))) : w.heap.size ≤ gb131)); have n4_ := Aside0.mk ((by rw [hg]; exact (below_size (by repeat (first | (with_reducible first | exact HB.out | apply below_alloc | apply pw_below_drewN | apply below_drew1 | refine below_set ?_ GE130.out) | exact HB.out))) : w.heap.size ≤ gb131)); have n5_ := Aside0.mk ((by rw [hg]; exact Nat.ne_of_lt (blk_lt (g := gb130) (o := .cells #[.bool false, .string a0_1, .string a0_2] 24 (0, 0)) (by (with_reducible repeat (first | refine blk_drewN ?_ _ | refine blk_drew ?_ | refine blk_alloc ?_ _)); exact BK130.out)) : gb130 ≠ gb131)); have n6_ := Aside0.mk ((by rw [hg]; exact Nat.ne_of_gt (blk_lt (g := gb130) (o := .cells #[.bool false, .string a0_1, .string a0_2] 24 (0, 0)) (by (with_reducible repeat (first | refine blk_drewN ?_ _ | refine blk_drew ?_ | refine blk_alloc ?_ _)); exact BK130.out)) : gb131 ≠ gb130)); clear BK130; clear HB; have BK130 := n0_; have HB := n1_; have BK131 := n2_; have GW131 := n3_; have GE131 := n4_; have NB130_131 := n5_; have NB131_130 := n6_; clear n0_ n1_ n2_ n3_ n4_ n5_ n6_; clear hb hbox hg; have hnb10 := NB130_131.out; have hnc10 := NB131_130.out; have hcz11_0 : w9.cell? ⟨gb130, 0, none⟩ = some (.bool false) := (blk_cell BK130.out 0).trans rfl; have hcz11_1 : w9.cell? ⟨gb130, 1, none⟩ = some (.string a0_1) := (blk_cell BK130.out 1).trans rfl; have hcz11_2 : w9.cell? ⟨gb130, 2, none⟩ = some (.string a0_2) := (blk_cell BK130.out 2).trans rfl; have hfz11_0 := blk_frozen BK130.out 0; have hfz11_1 := blk_frozen BK130.out 1; have hfz11_2 := blk_frozen BK130.out 2; have hcz12_0 : w9.cell? ⟨gb131, 0, none⟩ = some (.bool false) := (blk_cell BK131.out 0).trans rfl; have hcz12_1 : w9.cell? ⟨gb131, 1, none⟩ = some (.string (⟨#[]⟩ : ByteArray)) := (blk_cell BK131.out 1).trans rfl; have hcz12_2 : w9.cell? ⟨gb131, 2, none⟩ = some (.string (⟨#[]⟩ : ByteArray)) := (blk_cell BK131.out 2).trans rfl; have hfz12_0 := blk_frozen BK131.out 0; have hfz12_1 := blk_frozen BK131.out 1; have hfz12_2 := blk_frozen BK131.out 2))
    refine bodyPost_ret (results_cell_row rfl _ _ gb131 24 #[.bool (a0_1.toList != ([48] : List UInt8)), .string a0_1, .string a0_2] (0, 0) _ rfl (by (with_reducible repeat (first | refine blk_drewN ?_ _ | refine blk_drew ?_ | refine blk_alloc ?_ _)); refine blk_put (cs := #[.bool (a0_1.toList != ([48] : List UInt8)), .string a0_1, .string (⟨#[]⟩ : ByteArray)]) ?_ 2 _ rfl; (with_reducible repeat (first | refine blk_drewN ?_ _ | refine blk_drew ?_ | refine blk_alloc ?_ _)); refine blk_put (cs := #[.bool (a0_1.toList != ([48] : List UInt8)), .string (⟨#[]⟩ : ByteArray), .string (⟨#[]⟩ : ByteArray)]) ?_ 1 _ rfl; (with_reducible repeat (first | refine blk_drewN ?_ _ | refine blk_drew ?_ | refine blk_alloc ?_ _)); refine blk_put (cs := #[.bool false, .string (⟨#[]⟩ : ByteArray), .string (⟨#[]⟩ : ByteArray)]) ?_ 0 _ rfl; (with_reducible repeat (first | refine blk_drewN ?_ _ | refine blk_drew ?_ | refine blk_alloc ?_ _)); refine blk_far ?_ NB131_130.out _; (with_reducible repeat (first | refine blk_drewN ?_ _ | refine blk_drew ?_ | refine blk_alloc ?_ _)); exact BK131.out) Tryz.underlying24 rfl (by kernel_rfl)) rfl ?_
    exact ⟨by first | rfl | (simp [errW_none, errW_some] <;> rfl) | (simp [*, errW_none, errW_some] <;> rfl), by repeat (first | (with_reducible first | exact HB.out | apply below_alloc | apply pw_below_drewN | apply below_drew1 | refine below_set ?_ GE130.out | refine below_set ?_ GE131.out) | exact HB.out)⟩
/-- A state of type 68 at block g of W; what its slices lead to came in by w0. -/
def IsS68 (w0 W : World) (g : Nat) (f0 : Int) : Prop := W.heap[g]? = some (.cells #[.int .i64 f0] 68 (0, 0)) ∧ w0.heap.size ≤ g
theorem IsS68.grown {w0 W : World} {g : Nat} {f0 : Int} {W1 : World} {row : Option Nat} (h : IsS68 w0 W g f0) (hw : W.grownBy W1 row) (hne : some g ≠ row) : IsS68 w0 W1 g f0 := by
  obtain ⟨hb, hg⟩ := h
  exact ⟨blk_grown hb hw hne, hg⟩
theorem IsS68.kept {w0 W : World} {g : Nat} {f0 : Int} {W1 : World} {S : Nat → Prop} (h : IsS68 w0 W g f0) (hk : Kept W W1 S) (hne : ¬ S g) : IsS68 w0 W1 g f0 := by
  obtain ⟨hb, hg⟩ := h
  exact ⟨blk_kept hb hk hne, hg⟩
theorem IsS68.below {w0 W : World} {g : Nat} {f0 : Int} {W1 : World} (h : IsS68 w0 W g f0) (hw : Below W.heap.size W W1) : IsS68 w0 W1 g f0 := h.grown (grown_of_below hw none) (by simp)
theorem IsS68.alloc {w0 W : World} {g : Nat} {f0 : Int} (h : IsS68 w0 W g f0) (o : Obj) : IsS68 w0 (W.alloc o) g f0 := h.below (below_alloc (Below.refl _ _) o)
theorem IsS68.drewN {w0 W : World} {g : Nat} {f0 : Int} (h : IsS68 w0 W g f0) (m : Nat) : IsS68 w0 (W.drewN m) g f0 := h
theorem IsS68.drew {w0 W : World} {g : Nat} {f0 : Int} (h : IsS68 w0 W g f0) : IsS68 w0 W.drew g f0 := h
theorem IsS68.at_ {w0 W : World} {g : Nat} {f0 : Int} {w' : World} {m : Nat} (hq : W.drewN m = w') (h : IsS68 w0 W g f0) : IsS68 w0 w' g f0 := by subst hq; exact IsS68.drewN h m
theorem IsS68.apart {w0 W : World} {g : Nat} {f0 : Int} {α : Type} {d : Kd α} {e : Nat} {base : Nat} {ok : Nat → Prop} {v : Value} {xs : List α} (h : IsS68 w0 W g f0) (ho : d.R e W base ok v xs) (ht : ∀ q, q ∈ e :: d.E → q ≠ 68) : d.R e W base (fun k => ok k ∧ k ≠ g) v xs := by
  obtain ⟨hb, hg⟩ := h
  exact Kd.R_types ho hb ht
theorem IsS68.own_ne {w0 W : World} {g : Nat} {f0 : Int} {α : Type} {d : Kd α} {e : Nat} {base : Nat} {ok : Nat → Prop} {v : Value} {xs : List α} (h : IsS68 w0 W g f0) (ho : d.R e W base ok v xs) (ht : e ≠ 68) : some g ≠ v.ownBlock := by
  obtain ⟨hb, hg⟩ := h
  exact Kd.R_ne ho hb ht
theorem IsS68.lt {w0 W : World} {g : Nat} {f0 : Int} (h : IsS68 w0 W g f0) : g < W.heap.size := by
  obtain ⟨hb, hg⟩ := h
  exact blk_lt hb
theorem IsS68.ge {w0 W : World} {g : Nat} {f0 : Int} (h : IsS68 w0 W g f0) : w0.heap.size ≤ g := by
  obtain ⟨hb, hg⟩ := h
  exact hg
theorem IsS68.ne_blk {w0 W : World} {g : Nat} {f0 : Int} {a : Nat} {cs : Array Value} {t : TypeId} {fr : Nat × Nat} (h : IsS68 w0 W g f0) (hb2 : W.heap[a]? = some (.cells cs t fr)) (ht : t ≠ 68) : g ≠ a := by
  obtain ⟨hb, hg⟩ := h
  rintro rfl
  rw [hb] at hb2
  injection hb2 with hb2
  injection hb2 with _ ht2
  exact ht ht2.symm
theorem IsS68.far {w0 W : World} {g : Nat} {f0 : Int} {p : Addr} (h : IsS68 w0 W g f0) (hne : g ≠ p.block) (u : Value) : IsS68 w0 (W.setCell p u) g f0 := by
  obtain ⟨hb, hg⟩ := h
  exact ⟨blk_far hb hne u, hg⟩
theorem cellS68_0 {W : World} {g : Nat} {f0 : Int} (h : W.heap[g]? = some (.cells #[.int .i64 f0] 68 (0, 0))) : W.cell? ⟨g, 0, none⟩ = some (.int .i64 f0) := (blk_cell h 0).trans rfl
theorem IsS68.set_0 {w0 W : World} {g : Nat} {f0 : Int} (h : IsS68 w0 W g f0) (x : Int) : IsS68 w0 (W.setCell ⟨g, 0, none⟩ (.int .i64 x)) g x := by
  obtain ⟨hb, hg⟩ := h
  exact ⟨by simpa using blk_set hb 0 (.int .i64 x), hg⟩
theorem IsS68.new (w0 W : World) (f0 : Int) (hB : Below w0.heap.size w0 W) : IsS68 w0 (W.alloc (.cells #[.int .i64 f0] 68)) W.heap.size f0 := ⟨by simpa using heap_alloc_new W _, hB.size⟩
def rational_sums_take.f (s0_0 : Int) (a1 : ByteArray) (a2 : Int) : Option (ByteArray × Int) := if s0_0 = 0 then (some (a1, a2)) else (some (a1, s0_0))
set_option maxHeartbeats 8000000 in
set_option maxRecDepth 100000 in
theorem rational_sums_take.calls (g : Nat) (s0_0 : Int) (a1 : ByteArray) (a2 : Int) (r1 : ByteArray) (r2 : Int) (w0 w : World) (hI : IsS68 w0 w g s0_0) (hB : Below w0.heap.size w0 w) (h : rational_sums_take.f s0_0 a1 a2 = some (r1, r2)) :
    Calls Tryz.prog 55 #[.pointer (some ⟨g, 0, none⟩), .string a1, .int .i64 a2] w fun e w' => e = .returned (.string r1) ∧ IsS68 w0 w' g r2 ∧ Below w0.heap.size w0 w' ∧ KeepBut w w' g none := by
  have HI0 := Aside0.mk hI
  have HK := Aside0.mk (KeepBut.refl w g none)
  have HL := Aside0.mk hB.size
  clear hI
  have HW0 := Aside0.mk hB.size
  have HB := Aside0.mk hB
  clear hB
  have H : (if s0_0 = 0 then (some (a1, a2)) else (some (a1, s0_0))) = some (r1, r2) := h
  clear h
  by_cases c4 : s0_0 = 0
  · rw [if_pos c4] at H
    have c4b0 : (s0_0 == 0) = true := beq_iff_eq.mpr c4
    have c4b1 : (s0_0 != 0) = false := bne_eq_false_iff_eq.mpr c4
    clear c4
    simp only [Option.some.injEq, Prod.mk.injEq] at H
    obtain ⟨rfl, rfl⟩ := H
    obtain ⟨HGz5, hgz5⟩ := HI0.out
    have hcz5_0 := cellS68_0 HGz5
    have hfz5_0 := blk_frozen HGz5 0
    clear HGz5 hgz5
    go_enter Tryz.func55, Tryz.ntmps55
    go_wp2
    go_ret
    exact ⟨by first | rfl | (simp [errW_none, errW_some] <;> rfl) | (simp [*, errW_none, errW_some] <;> rfl), by repeat (first | (with_reducible first | exact HI0.out | apply IsS68.alloc | apply IsS68.drewN | apply IsS68.drew | apply IsS68.set_0) | exact HI0.out), by repeat (first | (with_reducible first | exact HB.out | apply below_alloc | apply pw_below_drewN | apply below_drew1 | refine below_set ?_ (IsS68.ge HI0.out)) | exact HB.out), by repeat (first | (with_reducible first | exact HK.out | apply KeepBut.set_ | apply keep_drewN | apply keep_drew | apply keep_alloc) | exact HK.out)⟩
  · rw [if_neg c4] at H
    have c4b0 : (s0_0 == 0) = false := beq_eq_false_iff_ne.mpr c4
    have c4b1 : (s0_0 != 0) = true := bne_iff_ne.mpr c4
    simp only [Option.some.injEq, Prod.mk.injEq] at H
    obtain ⟨rfl, rfl⟩ := H
    obtain ⟨HGz6, hgz6⟩ := HI0.out
    have hcz6_0 := cellS68_0 HGz6
    have hfz6_0 := blk_frozen HGz6 0
    clear HGz6 hgz6
    go_enter Tryz.func55, Tryz.ntmps55
    go_wp2
    go_ret
    exact ⟨by first | rfl | (simp [errW_none, errW_some] <;> rfl) | (simp [*, errW_none, errW_some] <;> rfl), by repeat (first | (with_reducible first | exact HI0.out | apply IsS68.alloc | apply IsS68.drewN | apply IsS68.drew | apply IsS68.set_0) | exact HI0.out), by repeat (first | (with_reducible first | exact HB.out | apply below_alloc | apply pw_below_drewN | apply below_drew1 | refine below_set ?_ (IsS68.ge HI0.out)) | exact HB.out), by repeat (first | (with_reducible first | exact HK.out | apply KeepBut.set_ | apply keep_drewN | apply keep_drew | apply keep_alloc) | exact HK.out)⟩
def rational_sums_mul.f (s0_0 : Int) (a1 : ByteArray) (a2 : ByteArray) : Option (ByteArray × Int) := (natural_Mul.f a1 a2).bind fun bt132 => ((rational_sums_take.f s0_0 bt132.1 bt132.2).bind fun bt134 => (some (bt134.1, bt134.2)))
set_option maxHeartbeats 8000000 in
set_option maxRecDepth 100000 in
theorem rational_sums_mul.calls (g : Nat) (s0_0 : Int) (a1 : ByteArray) (a2 : ByteArray) (r1 : ByteArray) (r2 : Int) (w0 w : World) (hI : IsS68 w0 w g s0_0) (hB : Below w0.heap.size w0 w) (hL : Laid w0) (h : rational_sums_mul.f s0_0 a1 a2 = some (r1, r2)) :
    Calls Tryz.prog 52 #[.pointer (some ⟨g, 0, none⟩), .string a1, .string a2] w fun e w' => e = .returned (.string r1) ∧ IsS68 w0 w' g r2 ∧ Below w0.heap.size w0 w' ∧ KeepBut w w' g none := by
  have HLaid := Aside0.mk hL
  clear hL
  have HI0 := Aside0.mk hI
  have HK := Aside0.mk (KeepBut.refl w g none)
  have HL := Aside0.mk hB.size
  clear hI
  have HW0 := Aside0.mk hB.size
  have HB := Aside0.mk hB
  clear hB
  have H : ((natural_Mul.f a1 a2).bind fun bt132 => ((rational_sums_take.f s0_0 bt132.1 bt132.2).bind fun bt134 => (some (bt134.1, bt134.2)))) = some (r1, r2) := h
  clear h
  replace H := Option.bind_eq_some_iff.mp H
  obtain ⟨⟨t132, t133⟩, A40, H⟩ := H
  replace H : ((rational_sums_take.f s0_0 t132 t133).bind fun bt134 => (some (bt134.1, bt134.2))) = some (r1, r2) := H
  have A4 := Aside0.mk A40
  clear A40
  replace H := Option.bind_eq_some_iff.mp H
  obtain ⟨⟨t134, t135⟩, A50, H⟩ := H
  replace H : (some (t134, t135)) = some (r1, r2) := H
  have A5 := Aside0.mk A50
  clear A50
  simp only [Option.some.injEq, Prod.mk.injEq] at H
  obtain ⟨rfl, rfl⟩ := H
  go_enter Tryz.func52, Tryz.ntmps52
  go_wp2_with (first | ((with_reducible refine gate_callee (f := 76) rfl ?_); refine goesL_ (some 10) rfl rfl Tryz.func76 (by kernel_rfl) rfl #[.string a1, .string a2] rfl (by (try simp only [List.map_toArray, List.map_cons, List.map_nil]); first | done | rfl | (simp only [List.length_drop, List.length_take]; rfl)) ?_; (with_reducible refine (natural_Mul.calls a1 a2 t132 t133 _ ?side1 A4.out).mono ?_); (case side1 => exact Laid.below HLaid.out (by repeat (first | (with_reducible first | exact HB.out | apply below_alloc | apply pw_below_drewN | apply below_drew1 | refine below_set ?_ (IsS68.ge HI0.out)) | exact HB.out))); rintro e w6 ⟨rfl, hb⟩; refine ⟨_, rfl, ?_⟩; have n0_ := Aside0.mk (IsS68.below (by repeat (first | (with_reducible first | exact HI0.out | apply IsS68.alloc | apply IsS68.drewN | apply IsS68.drew | apply IsS68.set_0) | exact HI0.out)) hb); have n1_ := Aside0.mk (KeepBut.trans (by repeat (first | (with_reducible first | exact HK.out | apply KeepBut.set_ | apply keep_drewN | apply keep_drew | apply keep_alloc) | exact HK.out)) (KeepBut.of_below hb g none) (.inl rfl)); have n2_ := Aside0.mk (below_step (by repeat (first | (with_reducible first | exact HB.out | apply below_alloc | apply pw_below_drewN | apply below_drew1 | refine below_set ?_ (IsS68.ge HI0.out)) | exact HB.out)) hb); clear HI0; clear HK; clear HB; have HI0 := n0_; have HK := n1_; have HB := n2_; clear n0_ n1_ n2_; (try clear hb); (try clear hb2); (try clear hk); (try clear hi)) | ((with_reducible refine gate_callee (f := 55) rfl ?_); refine goesL_ (some 13) rfl rfl Tryz.func55 (by kernel_rfl) rfl #[.pointer (some ⟨g, 0, none⟩), .string t132, .int .i64 t133] rfl (by (try simp only [List.map_toArray, List.map_cons, List.map_nil]); first | done | rfl | (simp only [List.length_drop, List.length_take]; rfl)) ?_; (with_reducible refine (rational_sums_take.calls g s0_0 t132 t133 t134 t135 w0 _ ?side1 ?side2 A5.out).mono ?_); (case side1 => repeat (first | (with_reducible first | exact HI0.out | apply IsS68.alloc | apply IsS68.drewN | apply IsS68.drew | apply IsS68.set_0) | exact HI0.out)); (case side2 => repeat (first | (with_reducible first | exact HB.out | apply below_alloc | apply pw_below_drewN | apply below_drew1 | refine below_set ?_ (IsS68.ge HI0.out)) | exact HB.out)); rintro e w7 ⟨rfl, hi, hb, hk⟩; refine ⟨_, rfl, ?_⟩; have n0_ := Aside0.mk (KeepBut.trans (by repeat (first | (with_reducible first | exact HK.out | apply KeepBut.set_ | apply keep_drewN | apply keep_drew | apply keep_alloc) | exact HK.out)) hk (.inl rfl)); have n1_ := Aside0.mk (hb); have n2_ := Aside0.mk (hi); clear HK; clear HB; clear HI0; have HK := n0_; have HB := n1_; have HI0 := n2_; clear n0_ n1_ n2_; (try clear hb); (try clear hb2); (try clear hk); (try clear hi)))
  go_ret
  exact ⟨by first | rfl | (simp [errW_none, errW_some] <;> rfl) | (simp [*, errW_none, errW_some] <;> rfl), by repeat (first | (with_reducible first | exact HI0.out | apply IsS68.alloc | apply IsS68.drewN | apply IsS68.drew | apply IsS68.set_0) | exact HI0.out), by repeat (first | (with_reducible first | exact HB.out | apply below_alloc | apply pw_below_drewN | apply below_drew1 | refine below_set ?_ (IsS68.ge HI0.out)) | exact HB.out), by repeat (first | (with_reducible first | exact HK.out | apply KeepBut.set_ | apply keep_drewN | apply keep_drew | apply keep_alloc) | exact HK.out)⟩
def rational_sums_add.f (s0_0 : Int) (a1 : ByteArray) (a2 : ByteArray) : Option (ByteArray × Int) := (natural_Add.f a1 a2).bind fun bt136 => ((rational_sums_take.f s0_0 bt136.1 bt136.2).bind fun bt138 => (some (bt138.1, bt138.2)))
set_option maxHeartbeats 8000000 in
set_option maxRecDepth 100000 in
theorem rational_sums_add.calls (g : Nat) (s0_0 : Int) (a1 : ByteArray) (a2 : ByteArray) (r1 : ByteArray) (r2 : Int) (w0 w : World) (hI : IsS68 w0 w g s0_0) (hB : Below w0.heap.size w0 w) (hL : Laid w0) (h : rational_sums_add.f s0_0 a1 a2 = some (r1, r2)) :
    Calls Tryz.prog 54 #[.pointer (some ⟨g, 0, none⟩), .string a1, .string a2] w fun e w' => e = .returned (.string r1) ∧ IsS68 w0 w' g r2 ∧ Below w0.heap.size w0 w' ∧ KeepBut w w' g none := by
  have HLaid := Aside0.mk hL
  clear hL
  have HI0 := Aside0.mk hI
  have HK := Aside0.mk (KeepBut.refl w g none)
  have HL := Aside0.mk hB.size
  clear hI
  have HW0 := Aside0.mk hB.size
  have HB := Aside0.mk hB
  clear hB
  have H : ((natural_Add.f a1 a2).bind fun bt136 => ((rational_sums_take.f s0_0 bt136.1 bt136.2).bind fun bt138 => (some (bt138.1, bt138.2)))) = some (r1, r2) := h
  clear h
  replace H := Option.bind_eq_some_iff.mp H
  obtain ⟨⟨t136, t137⟩, A40, H⟩ := H
  replace H : ((rational_sums_take.f s0_0 t136 t137).bind fun bt138 => (some (bt138.1, bt138.2))) = some (r1, r2) := H
  have A4 := Aside0.mk A40
  clear A40
  replace H := Option.bind_eq_some_iff.mp H
  obtain ⟨⟨t138, t139⟩, A50, H⟩ := H
  replace H : (some (t138, t139)) = some (r1, r2) := H
  have A5 := Aside0.mk A50
  clear A50
  simp only [Option.some.injEq, Prod.mk.injEq] at H
  obtain ⟨rfl, rfl⟩ := H
  go_enter Tryz.func54, Tryz.ntmps54
  go_wp2_with (first | ((with_reducible refine gate_callee (f := 77) rfl ?_); refine goesL_ (some 10) rfl rfl Tryz.func77 (by kernel_rfl) rfl #[.string a1, .string a2] rfl (by (try simp only [List.map_toArray, List.map_cons, List.map_nil]); first | done | rfl | (simp only [List.length_drop, List.length_take]; rfl)) ?_; (with_reducible refine (natural_Add.calls a1 a2 t136 t137 _ ?side1 A4.out).mono ?_); (case side1 => exact Laid.below HLaid.out (by repeat (first | (with_reducible first | exact HB.out | apply below_alloc | apply pw_below_drewN | apply below_drew1 | refine below_set ?_ (IsS68.ge HI0.out)) | exact HB.out))); rintro e w6 ⟨rfl, hb⟩; refine ⟨_, rfl, ?_⟩; have n0_ := Aside0.mk (IsS68.below (by repeat (first | (with_reducible first | exact HI0.out | apply IsS68.alloc | apply IsS68.drewN | apply IsS68.drew | apply IsS68.set_0) | exact HI0.out)) hb); have n1_ := Aside0.mk (KeepBut.trans (by repeat (first | (with_reducible first | exact HK.out | apply KeepBut.set_ | apply keep_drewN | apply keep_drew | apply keep_alloc) | exact HK.out)) (KeepBut.of_below hb g none) (.inl rfl)); have n2_ := Aside0.mk (below_step (by repeat (first | (with_reducible first | exact HB.out | apply below_alloc | apply pw_below_drewN | apply below_drew1 | refine below_set ?_ (IsS68.ge HI0.out)) | exact HB.out)) hb); clear HI0; clear HK; clear HB; have HI0 := n0_; have HK := n1_; have HB := n2_; clear n0_ n1_ n2_; (try clear hb); (try clear hb2); (try clear hk); (try clear hi)) | ((with_reducible refine gate_callee (f := 55) rfl ?_); refine goesL_ (some 13) rfl rfl Tryz.func55 (by kernel_rfl) rfl #[.pointer (some ⟨g, 0, none⟩), .string t136, .int .i64 t137] rfl (by (try simp only [List.map_toArray, List.map_cons, List.map_nil]); first | done | rfl | (simp only [List.length_drop, List.length_take]; rfl)) ?_; (with_reducible refine (rational_sums_take.calls g s0_0 t136 t137 t138 t139 w0 _ ?side1 ?side2 A5.out).mono ?_); (case side1 => repeat (first | (with_reducible first | exact HI0.out | apply IsS68.alloc | apply IsS68.drewN | apply IsS68.drew | apply IsS68.set_0) | exact HI0.out)); (case side2 => repeat (first | (with_reducible first | exact HB.out | apply below_alloc | apply pw_below_drewN | apply below_drew1 | refine below_set ?_ (IsS68.ge HI0.out)) | exact HB.out)); rintro e w7 ⟨rfl, hi, hb, hk⟩; refine ⟨_, rfl, ?_⟩; have n0_ := Aside0.mk (KeepBut.trans (by repeat (first | (with_reducible first | exact HK.out | apply KeepBut.set_ | apply keep_drewN | apply keep_drew | apply keep_alloc) | exact HK.out)) hk (.inl rfl)); have n1_ := Aside0.mk (hb); have n2_ := Aside0.mk (hi); clear HK; clear HB; clear HI0; have HK := n0_; have HB := n1_; have HI0 := n2_; clear n0_ n1_ n2_; (try clear hb); (try clear hb2); (try clear hk); (try clear hi)))
  go_ret
  exact ⟨by first | rfl | (simp [errW_none, errW_some] <;> rfl) | (simp [*, errW_none, errW_some] <;> rfl), by repeat (first | (with_reducible first | exact HI0.out | apply IsS68.alloc | apply IsS68.drewN | apply IsS68.drew | apply IsS68.set_0) | exact HI0.out), by repeat (first | (with_reducible first | exact HB.out | apply below_alloc | apply pw_below_drewN | apply below_drew1 | refine below_set ?_ (IsS68.ge HI0.out)) | exact HB.out), by repeat (first | (with_reducible first | exact HK.out | apply KeepBut.set_ | apply keep_drewN | apply keep_drew | apply keep_alloc) | exact HK.out)⟩
end Go.Proofs.YthpomhboogcigaaGreatDoor.XRat
end
section -- RatFns
namespace Go.Proofs.YthpomhboogcigaaGreatDoor
open Go.RowKit Go.Proofs.YthpomhboogcigaaGreatDoorW.PrintWords Go.Proofs.YthpomhboogcigaaGreatDoorW.PrintMore Go.Proofs.YthpomhboogcigaaGreatDoorW.PrintLast
set_option linter.unusedVariables false
set_option linter.unusedSimpArgs false
abbrev R4 := Bool × ByteArray × ByteArray × Int
def flat (p : R3 × Int) : R4 := (p.1.1, p.1.2.1, p.1.2.2, p.2)
theorem str0 : (⟨#[48]⟩ : ByteArray) = decS 0 := by
  unfold decS; rw [dec_zero]
theorem str1 : (⟨#[49]⟩ : ByteArray) = decS 1 := by
  unfold decS; rw [dec_small (by decide)]; rfl
theorem list0 {a : ByteArray} (h : validS a = true) : a.toList = ([48] : List UInt8) ↔ valS a = 0 := by
  have := zero_iff h
  rw [Bool.eq_iff_iff, beq_iff_eq, decide_eq_true_eq] at this
  exact this
theorem list1 {a : ByteArray} (h : validS a = true) : a.toList = ([49] : List UInt8) ↔ valS a = 1 := by
  constructor
  · intro e
    have : a = ⟨#[49]⟩ := by
      rw [Lib.toList_data] at e
      cases a with
      | mk x => exact congrArg ByteArray.mk (Array.toList_inj.1 e)
    rw [this, str1, valS_decS]
  · intro e
    rw [← decS_valS h, e, ← str1, Lib.toList_data]
theorem low_f {neg : Bool} {n d : ByteArray} (hn : validS n = true) (hd : validS d = true) (h0 : valS d ≠ 0) : XRat.rational_lowest.f neg n d = some (lowR neg (valS n) (valS d)) := by
  unfold XRat.rational_lowest.f lowR
  by_cases e : valS n = 0
  · rw [if_pos ((list0 hn).2 e), if_pos e, str0, str1]
  · rw [if_neg (fun h => e ((list0 hn).1 h)), if_neg e]
    have hg : (Lib.decDigits (Nat.gcd (valS n) (valS d))).length ≤ 1000 := dec_le_valS hn (Nat.gcd_le_left _ (Nat.pos_of_ne_zero e))
    have hg0 : valS (decS (Nat.gcd (valS n) (valS d))) ≠ 0 := by
      rw [valS_decS]; exact Nat.ne_of_gt (Nat.gcd_pos_of_pos_left _ (Nat.pos_of_ne_zero e))
    simp only [natural_Gcd.f, natural_Div.f, Option.bind_some, gcd_ok hn hd, limS_of_le hg, div_ok hn (validS_decS hg) hg0, div_ok hd (validS_decS hg) hg0, valS_decS]
def rational_Valid.f (a : Bool) (b c : ByteArray) : Option Bool := some (validR (a, b, c))
theorem valid_fR (a : Bool) (b c : ByteArray) : XRat.rational_Valid.f 1 a b c = some (validR (a, b, c)) := by
  unfold XRat.rational_Valid.f validR
  simp only [natural_Valid.f, Option.bind_some, XRat.rational_Valid.j0]
  cases hb : validS b with
  | false => simp
  | true =>
    cases hc : validS c with
    | false => simp
    | true =>
      have e : (c.toList == ([48] : List UInt8)) = decide (valS c = 0) := zero_iff hc
      rw [if_pos rfl, if_pos rfl, e]
      by_cases c0 : valS c = 0
      · rw [decide_eq_true c0, if_pos rfl]; rfl
      · rw [decide_eq_false c0, if_neg (by simp)]
        by_cases b0 : valS b = 0
        · rw [if_pos ((list0 hb).2 b0)]
          have e1 : (b.toList == ([48] : List UInt8)) = true := by rw [beq_iff_eq]; exact (list0 hb).2 b0
          have e2 : (c.toList == ([49] : List UInt8)) = decide (valS c = 1) := by rw [Bool.eq_iff_iff, beq_iff_eq, decide_eq_true_eq]; exact list1 hc
          rw [e1, e2]
          simp [b0]
        · rw [if_neg (fun h => b0 ((list0 hb).1 h))]
          have hg : (Lib.decDigits (Nat.gcd (valS b) (valS c))).length ≤ 1000 := dec_le_valS hb (Nat.gcd_le_left _ (Nat.pos_of_ne_zero b0))
          have e2 : ((decS (Nat.gcd (valS b) (valS c))).toList == ([49] : List UInt8)) = decide (Nat.gcd (valS b) (valS c) = 1) := by
            rw [Bool.eq_iff_iff, beq_iff_eq, decide_eq_true_eq, list1 (validS_decS hg), valS_decS]
          simp only [natural_Gcd.f, Option.bind_some, gcd_ok hb hc, limS_of_le hg, if_true, e2]
          simp [b0]
theorem rational_Valid.calls (a0_0 : Bool) (a0_1 : ByteArray) (a0_2 : ByteArray) (r : Bool) (w : World) (hL : Laid w) (h : rational_Valid.f a0_0 a0_1 a0_2 = some r) :
    Calls Tryz.prog 21 #[.agg #[.bool a0_0, .string a0_1, .string a0_2]] w fun e w' => e = .returned (.bool r) ∧ Below w.heap.size w w' :=
  XRat.rational_Valid.calls 1 a0_0 a0_1 a0_2 r w hL (by rw [valid_fR]; exact h)
def rational_Make.f (a : Bool) (b c : ByteArray) : Option R4 := some (flat (makeR a b c))
theorem make_fR (a : Bool) (b c : ByteArray) : XRat.rational_Make.f 1 a b c = some (flat (makeR a b c)) := by
  unfold XRat.rational_Make.f makeR
  simp only [natural_Valid.f, Option.bind_some, XRat.rational_Make.j0]
  cases hb : validS b with
  | false => rfl
  | true =>
    cases hc : validS c with
    | false => rfl
    | true =>
      rw [if_pos rfl, if_neg (by simp), if_pos (show (true && true) = true from rfl)]
      by_cases c0 : valS c = 0
      · rw [if_pos ((list0 hc).2 c0), if_pos c0]; rfl
      · rw [if_neg (fun h => c0 ((list0 hc).1 h)), if_neg c0, low_f hb hc c0]; rfl
theorem rational_Make.calls (a0 : Bool) (a1 : ByteArray) (a2 : ByteArray) (r1 : Bool) (r2 : ByteArray) (r3 : ByteArray) (r4 : Int) (w : World) (hL : Laid w) (h : rational_Make.f a0 a1 a2 = some (r1, r2, r3, r4)) :
    Calls Tryz.prog 15 #[.bool a0, .string a1, .string a2] w fun e w' => e = .returned (.tuple #[.agg #[.bool r1, .string r2, .string r3], .int .i64 r4]) ∧ Below w.heap.size w w' :=
  XRat.rational_Make.calls 1 a0 a1 a2 r1 r2 r3 r4 w hL (by rw [make_fR]; exact h)
def rational_Of.f (a b : Int) : Option R4 := if (-9223372036854775808 ≤ a ∧ a ≤ 9223372036854775807) ∧ (-9223372036854775808 ≤ b ∧ b ≤ 9223372036854775807) then some (flat (ofR a b)) else none
theorem dec_abs {a : Int} (h : -9223372036854775808 ≤ a ∧ a ≤ 9223372036854775807) : (Lib.decDigits a.natAbs).length ≤ 20 := dec_len_le (n := a.natAbs) (k := 20) (Nat.lt_of_le_of_lt (show a.natAbs ≤ 9223372036854775808 by omega) (by decide)) (by decide)
theorem rational_Of.calls (a0 : Int) (a1 : Int) (r1 : Bool) (r2 : ByteArray) (r3 : ByteArray) (r4 : Int) (w : World) (hL : Laid w) (h : rational_Of.f a0 a1 = some (r1, r2, r3, r4)) :
    Calls Tryz.prog 13 #[.int .i64 a0, .int .i64 a1] w fun e w' => e = .returned (.tuple #[.agg #[.bool r1, .string r2, .string r3], .int .i64 r4]) ∧ Below w.heap.size w w' := by
  unfold rational_Of.f at h
  split at h
  case isFalse => cases h
  rename_i hb
  refine XRat.rational_Of.calls 1 a0 a1 r1 r2 r3 r4 w hL ?_
  rw [← h]
  unfold XRat.rational_Of.f rational_abs.f
  rw [if_pos hb.1, if_pos hb.2]
  simp only [Option.bind_some, make_fR]
  have v0 := validS_decS (Nat.le_trans (dec_abs hb.1) (by decide))
  have v1 := validS_decS (Nat.le_trans (dec_abs hb.2) (by decide))
  unfold makeR ofR
  rw [v0, v1, valS_decS, valS_decS, if_pos (show (true && true) = true from rfl)]
  by_cases e : a1 = 0
  · rw [if_pos (by omega), if_pos e]
  · rw [if_neg (by omega), if_neg e]
end Go.Proofs.YthpomhboogcigaaGreatDoor
end
section -- RatMul
namespace Go.Proofs.YthpomhboogcigaaGreatDoor
open Go.RowKit Go.Proofs.YthpomhboogcigaaGreatDoorW.PrintWords Go.Proofs.YthpomhboogcigaaGreatDoorW.PrintMore Go.Proofs.YthpomhboogcigaaGreatDoorW.PrintLast
set_option linter.unusedVariables false
set_option linter.unusedSimpArgs false
/-- What a box of a rational number holds. -/
def HasR (W : World) (g : Nat) (x : Bool) (y z : ByteArray) : Prop := W.heap[g]? = some (.cells #[.bool x, .string y, .string z] 24 (0, 0))
theorem HasR.cells {W : World} {g : Nat} {x : Bool} {y z : ByteArray} (h : HasR W g x y z) : W.cell? ⟨g, 0, none⟩ = some (.bool x) ∧ W.cell? ⟨g, 1, none⟩ = some (.string y) ∧ W.cell? ⟨g, 2, none⟩ = some (.string z) :=
  ⟨blk_cell h 0, blk_cell h 1, blk_cell h 2⟩
theorem HasR.lt {W : World} {g : Nat} {x : Bool} {y z : ByteArray} (h : HasR W g x y z) : g < W.heap.size := by
  by_cases c : g < W.heap.size
  · exact c
  · unfold HasR at h
    rw [Array.getElem?_eq_none (by omega)] at h
    cases h
theorem HasR.keep {W W' : World} {g q : Nat} {x : Bool} {y z : ByteArray} (h : HasR W g x y z) (hk : KeepBut W W' q none) (hne : g ≠ q) : HasR W' g x y z := hk.blk h hne (by simp)
theorem HasR.below {W W' : World} {g : Nat} {x : Bool} {y z : ByteArray} (h : HasR W g x y z) (hk : Below W.heap.size W W') : HasR W' g x y z := (hk.block g h.lt).trans h
theorem HasR.alloc {W : World} {g : Nat} {x : Bool} {y z : ByteArray} (h : HasR W g x y z) (o : Obj) : HasR (W.alloc o) g x y z := h.below (below_alloc (Below.refl _ _) o)
theorem HasR.new {W : World} {x : Bool} {y z : ByteArray} : HasR (W.alloc (.cells #[.bool x, .string y, .string z] 24)) W.heap.size x y z := heap_alloc_new W _
theorem blk_lt {W : World} {g : Nat} {o : Obj} (h : W.heap[g]? = some o) : g < W.heap.size := by
  by_cases c : g < W.heap.size
  · exact c
  · rw [Array.getElem?_eq_none (by omega)] at h
    cases h
theorem blk_below {W W' : World} {g : Nat} {o : Obj} (h : W.heap[g]? = some o) (hk : Below W.heap.size W W') : W'.heap[g]? = some o := (hk.block g (blk_lt h)).trans h
theorem third_box (w : World) (o o' o'' : Obj) : (((w.alloc o).alloc o').alloc o'').heap[w.heap.size + 1 + 1]? = some o'' := by
  have := heap_alloc_new ((w.alloc o).alloc o') o''
  rwa [show ((w.alloc o).alloc o').heap.size = w.heap.size + 1 + 1 by simp] at this
theorem boxes (w : World) (x x' : Bool) (y z y' z' : ByteArray) (o : Obj) : HasR (((w.alloc (.cells #[.bool x, .string y, .string z] 24)).alloc (.cells #[.bool x', .string y', .string z'] 24)).alloc o) w.heap.size x y z ∧ HasR (((w.alloc (.cells #[.bool x, .string y, .string z] 24)).alloc (.cells #[.bool x', .string y', .string z'] 24)).alloc o) (w.heap.size + 1) x' y' z' := by
  refine ⟨(HasR.new.alloc _).alloc _, ?_⟩
  have := HasR.new (W := w.alloc (.cells #[.bool x, .string y, .string z] 24)) (x := x') (y := y') (z := z')
  rw [show (w.alloc (.cells #[.bool x, .string y, .string z] 24)).heap.size = w.heap.size + 1 by simp] at this
  exact this.alloc o
theorem three_below (w : World) (o o' o'' : Obj) : Below w.heap.size w (((w.alloc o).alloc o').alloc o'') := below_alloc (below_alloc (below_alloc (Below.refl _ _) _) _) _
theorem keep_cells {w w' : World} {g a : Nat} {x : Bool} {y z : ByteArray} (hk : KeepBut w w' g none) (hne : a ≠ g) (h : w.cell? ⟨a, 0, none⟩ = some (.bool x) ∧ w.cell? ⟨a, 1, none⟩ = some (.string y) ∧ w.cell? ⟨a, 2, none⟩ = some (.string z)) :
    w'.cell? ⟨a, 0, none⟩ = some (.bool x) ∧ w'.cell? ⟨a, 1, none⟩ = some (.string y) ∧ w'.cell? ⟨a, 2, none⟩ = some (.string z) :=
  ⟨keep_cell hk h.1 hne, keep_cell hk h.2.1 hne, keep_cell hk h.2.2 hne⟩
def rational_Mul.f (a : Bool) (b c : ByteArray) (a' : Bool) (b' c' : ByteArray) : Option R4 := some (flat (mulR (a, b, c) (a', b', c')))
theorem sums_f (e : Int) (x y : ByteArray) : XRat.rational_sums_mul.f e x y = some ((mulS x y).1, if e = 0 then (mulS x y).2 else e) := by
  unfold XRat.rational_sums_mul.f XRat.rational_sums_take.f natural_Mul.f
  simp only [Option.bind_some]
  by_cases h : e = 0
  · rw [if_pos h, if_pos h]; rfl
  · rw [if_neg h, if_neg h]; rfl
theorem mul_cases {a a' : Bool} {b c b' c' : ByteArray} (V1 : VR (a, b, c)) (V2 : VR (a', b', c')) :
    (¬ (if (mulS b b').2 = 0 then (mulS c c').2 else (mulS b b').2) = 0 → mulR (a, b, c) (a', b', c') = (noR, (if (mulS b b').2 = 0 then (mulS c c').2 else (mulS b b').2))) ∧
    ((if (mulS b b').2 = 0 then (mulS c c').2 else (mulS b b').2) = 0 → XRat.rational_lowest.f (a != a') (mulS b b').1 (mulS c c').1 = some (lowR (a != a') (valS b * valS b') (valS c * valS c')) ∧ mulR (a, b, c) (a', b', c') = (lowR (a != a') (valS b * valS b') (valS c * valS c'), 0)) := by
  have e1 : mulS b b' = limS (valS b * valS b') := by unfold mulS; rw [V1.n, V2.n]; rfl
  have e2 : mulS c c' = limS (valS c * valS c') := by unfold mulS; rw [V1.d, V2.d]; rfl
  unfold mulR
  rw [validR_iff.2 V1, validR_iff.2 V2, e1, e2]
  simp only [Bool.and_self, if_true]
  unfold limS
  by_cases h1 : 1000 < (Lib.decDigits (valS b * valS b')).length
  · rw [if_pos h1, if_pos (Or.inl h1)]
    refine ⟨fun _ => by simp, fun h => absurd h (by simp)⟩
  · by_cases h2 : 1000 < (Lib.decDigits (valS c * valS c')).length
    · rw [if_neg h1, if_pos h2, if_pos (Or.inr h2)]
      refine ⟨fun _ => by simp, fun h => absurd h (by simp)⟩
    · rw [if_neg h1, if_neg h2]
      refine ⟨fun h => absurd (by simp) h, fun _ => ⟨?_, if_neg (fun h => Or.elim h h1 h2)⟩⟩
      have := low_f (neg := a != a') (validS_decS (show (Lib.decDigits (valS b * valS b')).length ≤ 1000 by omega)) (validS_decS (show (Lib.decDigits (valS c * valS c')).length ≤ 1000 by omega)) (by rw [valS_decS]; exact Nat.mul_ne_zero V1.d0 V2.d0)
      rwa [valS_decS, valS_decS] at this
set_option maxHeartbeats 4000000 in
set_option maxRecDepth 100000 in
theorem mul_good (a : Bool) (b c : ByteArray) (a' : Bool) (b' c' : ByteArray) (w : World) (hL : Laid w) (h1 : validR (a, b, c) = true) (h2 : validR (a', b', c') = true) (r1 : Bool) (r2 r3 : ByteArray) (r4 : Int) (hr : mulR (a, b, c) (a', b', c') = ((r1, r2, r3), r4)) :
    Calls Tryz.prog 29 #[.agg #[.bool a, .string b, .string c], .agg #[.bool a', .string b', .string c']] w fun e w' => e = .returned (.tuple #[.agg #[.bool r1, .string r2, .string r3], .int .i64 r4]) ∧ Below w.heap.size w w' := by
  have HV1 := Lib.hid (fun W (hb : Below w.heap.size w W) => rational_Valid.calls a b c true W (Laid.below hL hb) (by unfold rational_Valid.f; rw [h1]))
  have HV2 := Lib.hid (fun W (hb : Below w.heap.size w W) => rational_Valid.calls a' b' c' true W (Laid.below hL hb) (by unfold rational_Valid.f; rw [h2]))
  have HL := Lib.hid hL
  have V1 := Lib.hid (validR_iff.1 h1)
  have V2 := Lib.hid (validR_iff.1 h2)
  have HX := Lib.hid (boxes w a a' b c b' c')
  clear hL h1 h2
  go_enter Tryz.func29, Tryz.ntmps29
  go_upto_region 4 with (go_at_call 21; first
    | (with_reducible refine (HV1.out _ ?_).mono ?_; (exact three_below _ _ _ _); rintro e w1 ⟨rfl, hb⟩; have HB1 := Lib.hid (below_step (three_below _ _ _ _) hb); have HY1 := Lib.hid ((HX.out _).1.below hb); have HY2 := Lib.hid ((HX.out _).2.below hb); have HY3 := Lib.hid (blk_below (third_box _ _ _ _) hb); clear HX hb; obtain ⟨y1, y2, y3⟩ := HY2.out.cells)
    | (with_reducible refine (HV2.out _ HB1.out).mono ?_; rintro e w2 ⟨rfl, hb⟩; have HB2 := Lib.hid (below_step HB1.out hb); have HZ1 := Lib.hid (HY1.out.below hb); have HZ2 := Lib.hid (HY2.out.below hb); have HZ3 := Lib.hid (blk_below HY3.out hb); clear hb y1 y2 y3 HY1 HY2 HY3 HB1))
  obtain ⟨z1, z2, z3⟩ := (HZ1.out.alloc (.cells #[.int .i64 0] 68)).cells
  obtain ⟨u1, u2, u3⟩ := (HZ2.out.alloc (.cells #[.int .i64 0] 68)).cells
  have HI := Lib.hid (XRat.IsS68.new w w2 0 HB2.out)
  have HB3 := Lib.hid (below_alloc HB2.out (.cells #[.int .i64 0] 68))
  have HG1 := Lib.hid (Nat.ne_of_lt HZ1.out.lt)
  have HG2 := Lib.hid (Nat.ne_of_lt HZ2.out.lt)
  have HW1 := Lib.hid (HZ1.out.alloc (.cells #[.int .i64 0] 68))
  have HW2 := Lib.hid (HZ2.out.alloc (.cells #[.int .i64 0] 68))
  have HW3 := Lib.hid (blk_below HZ3.out (below_alloc (Below.refl _ _) (.cells #[.int .i64 0] 68)))
  have HG3 := Lib.hid (Nat.ne_of_lt (blk_lt HZ3.out))
  generalize hWW : w2.alloc (.cells #[.int .i64 0] 68) = W at *
  generalize hgg : w2.heap.size = g at *
  clear hWW hgg HZ1 HZ2 HZ3 HB2 HV1 HV2
  generalize hq1 : w.heap.size = q at *
  have HM1 := Lib.hid (fun U (hi : XRat.IsS68 w U g 0) (hb : Below q w U) => XRat.rational_sums_mul.calls g 0 b b' _ _ w U hi (by rw [hq1]; exact hb) HL.out (sums_f 0 b b'))
  have HM2 := Lib.hid (fun e U (hi : XRat.IsS68 w U g e) (hb : Below q w U) => XRat.rational_sums_mul.calls g e c c' _ _ w U hi (by rw [hq1]; exact hb) HL.out (sums_f e c c'))
  rw [if_pos rfl] at HM1
  generalize hn : (mulS b b').1 = n at *
  generalize he1 : (mulS b b').2 = e1 at *
  generalize hd : (mulS c c').1 = d at *
  generalize he2 : (mulS c c').2 = e2 at *
  have HE := Lib.hid (And.intro hn (And.intro he1 (And.intro hd he2)))
  clear hn he1 hd he2
  go_region_held3 (fun W' => W'.cell? ⟨q, 0, none⟩ = some (.bool a) ∧ W'.cell? ⟨q, 1, none⟩ = some (.string b) ∧ W'.cell? ⟨q, 2, none⟩ = some (.string c) ∧ W'.cell? ⟨q + 1, 0, none⟩ = some (.bool a') ∧ W'.cell? ⟨q + 1, 1, none⟩ = some (.string b') ∧ W'.cell? ⟨q + 1, 2, none⟩ = some (.string c')) (go_keep)
    (first
      | (go_at_call 52; with_reducible refine (HM1.out _ (HI.out.drew) (below_drew1 HB3.out)).mono ?_; rintro e w3 ⟨rfl, hi3, hb3, hk3⟩; have HI3 := Lib.hid hi3; have HB4 := Lib.hid hb3; have HK3 := Lib.hid hk3; obtain ⟨z1, z2, z3⟩ := keep_cells (KeepBut.trans (keep_drew (KeepBut.refl _ _ _)) hk3 (.inl rfl)) HG1.out ⟨z1, z2, z3⟩; obtain ⟨u1, u2, u3⟩ := keep_cells (KeepBut.trans (keep_drew (KeepBut.refl _ _ _)) hk3 (.inl rfl)) HG2.out ⟨u1, u2, u3⟩; clear hi3 hb3 hk3)
      | (go_at_call 52; with_reducible refine (HM2.out _ _ HI3.out (by rw [← hq1]; exact HB4.out)).mono ?_; rintro e w4 ⟨rfl, hi3, hb3, hk3⟩; have HI4 := Lib.hid hi3; have HB5 := Lib.hid hb3; have HK4 := Lib.hid hk3; obtain ⟨z1, z2, z3⟩ := keep_cells hk3 HG1.out ⟨z1, z2, z3⟩; obtain ⟨u1, u2, u3⟩ := keep_cells hk3 HG2.out ⟨u1, u2, u3⟩; clear hi3 hb3 hk3))
  have hk := KeepBut.trans (KeepBut.trans (keep_drew (KeepBut.refl W g none)) HK3.out (.inl rfl)) HK4.out (.inl rfl)
  have hz := hk.blk HW3.out HG3.out (by simp)
  have f1 := blk_frozen hz 0
  have f2 := blk_frozen hz 1
  have f3 := blk_frozen hz 2
  have v1 := blk_cell hz 0
  have v2 := blk_cell hz 1
  have v3 := blk_cell hz 2
  have hc := mul_cases V1.out V2.out
  obtain ⟨rfl, rfl, rfl, rfl⟩ := HE.out
  have hg := blk_cell HI4.out.1 0
  have hgz : ¬ q + 1 + 1 = g := HG3.out
  have hgz' : ¬ g = q + 1 + 1 := fun h => HG3.out h.symm
  have HGE := Lib.hid (show w.heap.size ≤ q + 1 + 1 by omega)
  have HZ := Lib.hid hz
  have HK := Lib.hid hk
  clear HM1 HM2 HI3 HI HB4 HK3 HK4 HW1 HW2 HW3 hz hk HG1 HG2 HE HB3
  by_cases he : (if (mulS b b').2 = 0 then (mulS c c').2 else (mulS b b').2) = 0
  · obtain ⟨hc1, hc2⟩ := hc.2 he
    have h3 := hc2.symm.trans hr
    injection h3 with h4 h5
    subst h5
    rw [h4] at hc1
    have HLW := Lib.hid (fun U (hb : Below w.heap.size w U) => XRat.rational_lowest.calls (!(a == a')) (mulS b b').1 (mulS c c').1 _ _ _ U (Laid.below HL.out hb) hc1)
    rw [he] at hg
    clear he hc hc1 hc2 hr h4
    generalize (mulS b b').1 = n at *
    generalize (mulS c c').1 = d at *
    go_wp2_with (go_at_call 42; with_reducible refine (HLW.out _ HB5.out).mono ?_; rintro e w5 ⟨rfl, hb⟩; have HB6 := Lib.hid (below_step HB5.out hb); have hz := blk_below HZ.out hb; have HZ5 := Lib.hid hz; have f1 := blk_frozen hz 0; have f2 := blk_frozen hz 1; have f3 := blk_frozen hz 2; have v1 := blk_cell hz 0; have v2 := blk_cell hz 1; have v3 := blk_cell hz 2; clear hb hz)
    refine bodyPost_ret (results_ct rfl _ _ (q + 1 + 1) 24 #[.bool r1, .string r2, .string r3] (0, 0) _ rfl (by (with_reducible repeat (first | refine blk_drewN ?_ _ | refine blk_drew ?_ | refine blk_alloc ?_ _)); refine blk_put (cs := #[.bool r1, .string r2, .string (⟨#[]⟩ : ByteArray)]) ?_ 2 _ rfl; (with_reducible repeat (first | refine blk_drewN ?_ _ | refine blk_drew ?_ | refine blk_alloc ?_ _)); refine blk_put (cs := #[.bool r1, .string (⟨#[]⟩ : ByteArray), .string (⟨#[]⟩ : ByteArray)]) ?_ 1 _ rfl; (with_reducible repeat (first | refine blk_drewN ?_ _ | refine blk_drew ?_ | refine blk_alloc ?_ _)); refine blk_put (cs := #[.bool false, .string (⟨#[]⟩ : ByteArray), .string (⟨#[]⟩ : ByteArray)]) ?_ 0 _ rfl; (with_reducible repeat (first | refine blk_drewN ?_ _ | refine blk_drew ?_ | refine blk_alloc ?_ _)); exact HZ5.out) Tryz.underlying24 rfl (by kernel_rfl)) rfl ?_
    exact ⟨rfl, by repeat (first | (with_reducible first | exact HB6.out | apply below_alloc | apply pw_below_drewN | apply below_drew1 | refine below_set ?_ HGE.out) | exact HB6.out)⟩
  · have h3 := (hc.1 he).symm.trans hr
    injection h3 with h4 h5
    injection h4 with h6 h7
    injection h7 with h8 h9
    subst h6; subst h8; subst h9
    have HF := Lib.hid h5
    have HNE := Lib.hid he
    rw [h5] at hg he
    clear hc hr h5
    generalize (mulS b b').1 = n at *
    generalize (mulS c c').1 = d at *
    go_upto_region 6 with fail
    go_region_held3 (fun W' => W'.cell? ⟨g, 0, none⟩ = some (.int .i64 r4)) (go_keep) (fail)
    all_goals go_wp2
    all_goals refine bodyPost_ret (results_ct rfl _ _ (q + 1 + 1) 24 #[.bool false, .string (⟨#[]⟩ : ByteArray), .string (⟨#[]⟩ : ByteArray)] (0, 0) _ rfl (by (with_reducible repeat (first | refine blk_drewN ?_ _ | refine blk_drew ?_ | refine blk_alloc ?_ _)); refine blk_put (cs := #[.bool false, .string (⟨#[]⟩ : ByteArray), .string (⟨#[]⟩ : ByteArray)]) ?_ 2 _ rfl; (with_reducible repeat (first | refine blk_drewN ?_ _ | refine blk_drew ?_ | refine blk_alloc ?_ _)); refine blk_put (cs := #[.bool false, .string (⟨#[]⟩ : ByteArray), .string (⟨#[]⟩ : ByteArray)]) ?_ 1 _ rfl; (with_reducible repeat (first | refine blk_drewN ?_ _ | refine blk_drew ?_ | refine blk_alloc ?_ _)); refine blk_put (cs := #[.bool false, .string (⟨#[]⟩ : ByteArray), .string (⟨#[]⟩ : ByteArray)]) ?_ 0 _ rfl; (with_reducible repeat (first | refine blk_drewN ?_ _ | refine blk_drew ?_ | refine blk_alloc ?_ _)); exact HZ.out) Tryz.underlying24 rfl (by kernel_rfl)) rfl ?_
    all_goals exact ⟨rfl, by repeat (first | (with_reducible first | exact HB5.out | apply below_alloc | apply pw_below_drewN | apply below_drew1 | refine below_set ?_ HGE.out) | exact HB5.out)⟩
set_option maxHeartbeats 4000000 in
set_option maxRecDepth 100000 in
theorem mul_bad1 (a : Bool) (b c : ByteArray) (a' : Bool) (b' c' : ByteArray) (w : World) (hL : Laid w) (h1 : validR (a, b, c) = false) :
    Calls Tryz.prog 29 #[.agg #[.bool a, .string b, .string c], .agg #[.bool a', .string b', .string c']] w fun e w' => e = .returned (.tuple #[.agg #[.bool false, .string (⟨#[]⟩ : ByteArray), .string (⟨#[]⟩ : ByteArray)], .int .i64 1]) ∧ Below w.heap.size w w' := by
  have HV1 := Lib.hid (fun W (hb : Below w.heap.size w W) => rational_Valid.calls a b c false W (Laid.below hL hb) (by unfold rational_Valid.f; rw [h1]))
  have HX := Lib.hid (boxes w a a' b c b' c')
  have HGE := Lib.hid (show w.heap.size ≤ w.heap.size + 1 + 1 by omega)
  clear hL h1
  go_enter Tryz.func29, Tryz.ntmps29
  go_wp2_with (go_at_call 21; first
    | (with_reducible refine (HV1.out _ ?_).mono ?_; (exact three_below _ _ _ _); rintro e w1 ⟨rfl, hb⟩; have HB1 := Lib.hid (below_step (three_below _ _ _ _) hb); have HY1 := Lib.hid ((HX.out _).1.below hb); have HY2 := Lib.hid ((HX.out _).2.below hb); have HY3 := Lib.hid (blk_below (third_box _ _ _ _) hb); clear HX hb; obtain ⟨y1, y2, y3⟩ := HY2.out.cells; have f1 := blk_frozen HY3.out 0; have f2 := blk_frozen HY3.out 1; have f3 := blk_frozen HY3.out 2; have v1 := blk_cell HY3.out 0; have v2 := blk_cell HY3.out 1; have v3 := blk_cell HY3.out 2)
    | fail)
  refine bodyPost_ret (results_ct rfl _ _ (w.heap.size + 1 + 1) 24 #[.bool false, .string (⟨#[]⟩ : ByteArray), .string (⟨#[]⟩ : ByteArray)] (0, 0) _ rfl (by (with_reducible repeat (first | refine blk_drewN ?_ _ | refine blk_drew ?_ | refine blk_alloc ?_ _)); refine blk_put (cs := #[.bool false, .string (⟨#[]⟩ : ByteArray), .string (⟨#[]⟩ : ByteArray)]) ?_ 2 _ rfl; (with_reducible repeat (first | refine blk_drewN ?_ _ | refine blk_drew ?_ | refine blk_alloc ?_ _)); refine blk_put (cs := #[.bool false, .string (⟨#[]⟩ : ByteArray), .string (⟨#[]⟩ : ByteArray)]) ?_ 1 _ rfl; (with_reducible repeat (first | refine blk_drewN ?_ _ | refine blk_drew ?_ | refine blk_alloc ?_ _)); refine blk_put (cs := #[.bool false, .string (⟨#[]⟩ : ByteArray), .string (⟨#[]⟩ : ByteArray)]) ?_ 0 _ rfl; (with_reducible repeat (first | refine blk_drewN ?_ _ | refine blk_drew ?_ | refine blk_alloc ?_ _)); exact HY3.out) Tryz.underlying24 rfl (by kernel_rfl)) rfl ?_
  exact ⟨rfl, by repeat (first | (with_reducible first | exact HB1.out | apply below_alloc | apply pw_below_drewN | apply below_drew1 | refine below_set ?_ HGE.out) | exact HB1.out)⟩
set_option maxHeartbeats 4000000 in
set_option maxRecDepth 100000 in
theorem mul_bad2 (a : Bool) (b c : ByteArray) (a' : Bool) (b' c' : ByteArray) (w : World) (hL : Laid w) (h1 : validR (a, b, c) = true) (h2 : validR (a', b', c') = false) :
    Calls Tryz.prog 29 #[.agg #[.bool a, .string b, .string c], .agg #[.bool a', .string b', .string c']] w fun e w' => e = .returned (.tuple #[.agg #[.bool false, .string (⟨#[]⟩ : ByteArray), .string (⟨#[]⟩ : ByteArray)], .int .i64 1]) ∧ Below w.heap.size w w' := by
  have HV1 := Lib.hid (fun W (hb : Below w.heap.size w W) => rational_Valid.calls a b c true W (Laid.below hL hb) (by unfold rational_Valid.f; rw [h1]))
  have HV2 := Lib.hid (fun W (hb : Below w.heap.size w W) => rational_Valid.calls a' b' c' false W (Laid.below hL hb) (by unfold rational_Valid.f; rw [h2]))
  have HX := Lib.hid (boxes w a a' b c b' c')
  have HGE := Lib.hid (show w.heap.size ≤ w.heap.size + 1 + 1 by omega)
  clear hL h1 h2
  go_enter Tryz.func29, Tryz.ntmps29
  go_wp2_with (go_at_call 21; first
    | (with_reducible refine (HV1.out _ ?_).mono ?_; (exact three_below _ _ _ _); rintro e w1 ⟨rfl, hb⟩; have HB1 := Lib.hid (below_step (three_below _ _ _ _) hb); have HY1 := Lib.hid ((HX.out _).1.below hb); have HY2 := Lib.hid ((HX.out _).2.below hb); have HY3 := Lib.hid (blk_below (third_box _ _ _ _) hb); clear HX hb; obtain ⟨y1, y2, y3⟩ := HY2.out.cells)
    | (with_reducible refine (HV2.out _ HB1.out).mono ?_; rintro e w2 ⟨rfl, hb⟩; have HB2 := Lib.hid (below_step HB1.out hb); have hz := blk_below HY3.out hb; have HZ3 := Lib.hid hz; have f1 := blk_frozen hz 0; have f2 := blk_frozen hz 1; have f3 := blk_frozen hz 2; have v1 := blk_cell hz 0; have v2 := blk_cell hz 1; have v3 := blk_cell hz 2; clear hb y1 y2 y3 hz))
  refine bodyPost_ret (results_ct rfl _ _ (w.heap.size + 1 + 1) 24 #[.bool false, .string (⟨#[]⟩ : ByteArray), .string (⟨#[]⟩ : ByteArray)] (0, 0) _ rfl (by (with_reducible repeat (first | refine blk_drewN ?_ _ | refine blk_drew ?_ | refine blk_alloc ?_ _)); refine blk_put (cs := #[.bool false, .string (⟨#[]⟩ : ByteArray), .string (⟨#[]⟩ : ByteArray)]) ?_ 2 _ rfl; (with_reducible repeat (first | refine blk_drewN ?_ _ | refine blk_drew ?_ | refine blk_alloc ?_ _)); refine blk_put (cs := #[.bool false, .string (⟨#[]⟩ : ByteArray), .string (⟨#[]⟩ : ByteArray)]) ?_ 1 _ rfl; (with_reducible repeat (first | refine blk_drewN ?_ _ | refine blk_drew ?_ | refine blk_alloc ?_ _)); refine blk_put (cs := #[.bool false, .string (⟨#[]⟩ : ByteArray), .string (⟨#[]⟩ : ByteArray)]) ?_ 0 _ rfl; (with_reducible repeat (first | refine blk_drewN ?_ _ | refine blk_drew ?_ | refine blk_alloc ?_ _)); exact HZ3.out) Tryz.underlying24 rfl (by kernel_rfl)) rfl ?_
  exact ⟨rfl, by repeat (first | (with_reducible first | exact HB2.out | apply below_alloc | apply pw_below_drewN | apply below_drew1 | refine below_set ?_ HGE.out) | exact HB2.out)⟩
theorem rational_Mul.calls (a0_0 : Bool) (a0_1 : ByteArray) (a0_2 : ByteArray) (a1_0 : Bool) (a1_1 : ByteArray) (a1_2 : ByteArray) (r1 : Bool) (r2 : ByteArray) (r3 : ByteArray) (r4 : Int) (w : World) (hL : Laid w) (h : rational_Mul.f a0_0 a0_1 a0_2 a1_0 a1_1 a1_2 = some (r1, r2, r3, r4)) :
    Calls Tryz.prog 29 #[.agg #[.bool a0_0, .string a0_1, .string a0_2], .agg #[.bool a1_0, .string a1_1, .string a1_2]] w fun e w' => e = .returned (.tuple #[.agg #[.bool r1, .string r2, .string r3], .int .i64 r4]) ∧ Below w.heap.size w w' := by
  have h' := Option.some.inj h
  unfold flat at h'
  simp only [Prod.mk.injEq] at h'
  obtain ⟨rfl, rfl, rfl, rfl⟩ := h'
  cases h1 : validR (a0_0, a0_1, a0_2) with
  | false =>
    have e : mulR (a0_0, a0_1, a0_2) (a1_0, a1_1, a1_2) = (noR, 1) := by unfold mulR; rw [h1]; rfl
    rw [e]
    exact mul_bad1 a0_0 a0_1 a0_2 a1_0 a1_1 a1_2 w hL h1
  | true =>
    cases h2 : validR (a1_0, a1_1, a1_2) with
    | false =>
      have e : mulR (a0_0, a0_1, a0_2) (a1_0, a1_1, a1_2) = (noR, 1) := by unfold mulR; rw [h1, h2]; rfl
      rw [e]
      exact mul_bad2 a0_0 a0_1 a0_2 a1_0 a1_1 a1_2 w hL h1 h2
    | true => exact mul_good a0_0 a0_1 a0_2 a1_0 a1_1 a1_2 w hL h1 h2 _ _ _ _ rfl
end Go.Proofs.YthpomhboogcigaaGreatDoor
end

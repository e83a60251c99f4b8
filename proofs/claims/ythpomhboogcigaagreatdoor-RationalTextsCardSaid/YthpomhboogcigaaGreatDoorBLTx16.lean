/- The texts of this claim, laid together by a program of this session (bundle.py). -/
import Derived.Test.YthpomhboogcigaaGreatDoorBLTx1
import Derived.Test.YthpomhboogcigaaGreatDoorBLTx15
import Derived.Deep.DeepCutAuto
import Derived.Outline
import Derived.Deep.LoopGhost
import Derived.Test.YthpomhboogcigaaGreatDoorProg
import Derived.Below
import Derived.Deep.Draws
import Derived.Deep.AppendLies
import Derived.Maps.AppendAt
import Derived.OwnWalk
import Derived.Laws.BytesArg
import Derived.Laws.MakeOwn
import Derived.Laws.OwnMore
import Derived.Deep.OwnRows
import Derived.Tactics
import Derived.Lib.ConvBytes
import Derived.Laws.Slices
import Derived.WalkKit
import Derived.KernelRfl
import Derived.RowKit3
import Derived.Deep.QuietTactic
import Derived.BigQuiet
import Derived.WideLaws
import Derived.Deep.CutBlock
import Derived.Deep.RegionHeld3
import Derived.Laws.Rows
import Derived.Lib.AppendStr
import Derived.ArgAppend
import Derived.Laws.IdiomCopy
import Derived.OrdersHeld
import Derived.Laws.BitsLemmas
import Derived.RowKit
section -- RatHead
namespace Go.Proofs.YthpomhboogcigaaGreatDoor
open Go.RowKit Go.Proofs.YthpomhboogcigaaGreatDoorW.PrintWords Go.Proofs.YthpomhboogcigaaGreatDoorW.PrintMore Go.Proofs.YthpomhboogcigaaGreatDoorW.PrintLast
set_option linter.unusedVariables false
set_option linter.unusedSimpArgs false
/-- Boxes of rational numbers, each with what it holds. -/
structure HBx (W : World) (l : List (Nat × R3)) : Prop where
  all : ∀ p ∈ l, HasR W p.1 p.2.1 p.2.2.1 p.2.2.2
  ne : l.Pairwise (fun p q => p.1 ≠ q.1)
theorem HBx.below {W U : World} {l : List (Nat × R3)} (h : HBx W l) (hb : Below W.heap.size W U) : HBx U l := ⟨fun p hp => (h.all p hp).below hb, h.ne⟩
theorem HBx.later {W U : World} {l : List (Nat × R3)} [q : Later W U] (h : HBx W l) : HBx U l := h.below q.below
theorem HBx.nil (W : World) : HBx W [] := ⟨fun _ h => (by cases h), List.Pairwise.nil⟩
theorem HBx.get {W : World} {l : List (Nat × R3)} {g : Nat} {x : Bool} {y z : ByteArray} (h : HBx W l) (hm : (g, (x, y, z)) ∈ l) : HasR W g x y z := h.all _ hm
theorem HBx.cons {W : World} {l : List (Nat × R3)} (x : Bool) (y z : ByteArray) (h : HBx W l) : HBx (W.alloc (.cells #[.bool x, .string y, .string z] 24)) ((W.heap.size, (x, y, z)) :: l) := by
  refine ⟨fun p hp => ?_, List.Pairwise.cons (fun p hp => ?_) h.ne⟩
  · rcases List.mem_cons.1 hp with rfl | hp
    · exact HasR.new
    · exact (h.all p hp).alloc _
  · exact Nat.ne_of_gt (h.all p hp).lt
theorem HBx.cons2 {W : World} {l : List (Nat × R3)} (x : Bool) (y z : ByteArray) (x' : Bool) (y' z' : ByteArray) (h : HBx W l) : HBx ((W.alloc (.cells #[.bool x, .string y, .string z] 24)).alloc (.cells #[.bool x', .string y', .string z'] 24)) ((W.heap.size + 1, (x', y', z')) :: (W.heap.size, (x, y, z)) :: l) := by
  have h2 := (h.cons x y z).cons x' y' z'
  rwa [show (W.alloc (.cells #[.bool x, .string y, .string z] 24)).heap.size = W.heap.size + 1 by simp] at h2
theorem HBx.far {W : World} {g : Nat} {r : R3} {l : List (Nat × R3)} (h : HBx W ((g, r) :: l)) (i : Nat) (v : Value) : HBx (W.setCell ⟨g, i, none⟩ v) l := by
  cases h.ne with
  | cons h1 h2 => exact ⟨fun p hp => (h.all p (List.mem_cons_of_mem _ hp)).far' (Ne.symm (h1 p hp)) i v, h2⟩
theorem HBx.tail {W : World} {p : Nat × R3} {l : List (Nat × R3)} (h : HBx W (p :: l)) : HBx W l := by
  cases h.ne with
  | cons h1 h2 => exact ⟨fun q hq => h.all q (List.mem_cons_of_mem _ hq), h2⟩
theorem HBx.ne_new {W : World} {l : List (Nat × R3)} {g : Nat} {r : R3} (h : HBx W l) (hm : (g, r) ∈ l) : W.heap.size ≠ g := Nat.ne_of_gt (h.all _ hm).lt
theorem HBx.drewn {W : World} {l : List (Nat × R3)} (h : HBx W l) : HBx W.drew l := ⟨h.all, h.ne⟩
theorem HBx.far3 {W : World} {g : Nat} {r : R3} {l : List (Nat × R3)} (h : HBx W ((g, r) :: l)) (u v x : Value) : HBx (((W.setCell ⟨g, 0, none⟩ u).setCell ⟨g, 1, none⟩ v).setCell ⟨g, 2, none⟩ x) l := by
  cases h.ne with
  | cons h1 h2 => exact ⟨fun p hp => (((h.all p (List.mem_cons_of_mem _ hp)).far' (Ne.symm (h1 p hp)) 0 u).far' (Ne.symm (h1 p hp)) 1 v).far' (Ne.symm (h1 p hp)) 2 x, h2⟩
def LI (k : Nat) (v : Value) : Prop := (k = 7 ∧ v = .int .i64 0) ∨ (k = 6 ∧ v = .int .i64 1) ∨ (k = 5 ∧ v = .int .i64 2) ∨ (k = 4 ∧ v = .int .i64 3) ∨ (k = 3 ∧ v = .int .i64 4) ∨ (k = 2 ∧ v = .int .i64 5) ∨ (k = 1 ∧ v = .int .i64 6) ∨ (k = 0 ∧ v = .int .i64 7)
theorem HBx.head {W : World} {g : Nat} {x : Bool} {y z : ByteArray} {l : List (Nat × R3)} (h : HBx W ((g, (x, y, z)) :: l)) : HasR W g x y z := h.all _ (List.mem_cons_self ..)
set_option maxHeartbeats 40000000 in
set_option maxRecDepth 100000 in
theorem rhead_calls (w : World) (hL : Laid w) :
    Calls Tryz.prog 11 #[] w fun e w' => e = .returned (.bool true) ∧ Below w.heap.size w w' := by
  have K0 := Lib.hid (fun U (hb : Below w.heap.size w U) => XRt.observatorylaw04_rat.calls false (⟨#[49]⟩ : ByteArray) (⟨#[50]⟩ : ByteArray) false (⟨#[49]⟩ : ByteArray) (⟨#[50]⟩ : ByteArray) U (by decide +kernel))
  have K1 := Lib.hid (fun U (hb : Below w.heap.size w U) => XRt.observatorylaw04_rat.calls false (⟨#[49]⟩ : ByteArray) (⟨#[51]⟩ : ByteArray) false (⟨#[49]⟩ : ByteArray) (⟨#[51]⟩ : ByteArray) U (by decide +kernel))
  have K2 := Lib.hid (fun U (hb : Below w.heap.size w U) => rational_Of.calls (6) (-8) true (⟨#[51]⟩ : ByteArray) (⟨#[52]⟩ : ByteArray) (0) U (Laid.below hL hb) (by decide +kernel))
  have K3 := Lib.hid (fun U (hb : Below w.heap.size w U) => rational_Of.calls (0) (-5) false (⟨#[48]⟩ : ByteArray) (⟨#[49]⟩ : ByteArray) (0) U (Laid.below hL hb) (by decide +kernel))
  have K4 := Lib.hid (fun U (hb : Below w.heap.size w U) => rational_Of.calls (1) (0) false (⟨#[]⟩ : ByteArray) (⟨#[]⟩ : ByteArray) (14) U (Laid.below hL hb) (by decide +kernel))
  have K5 := Lib.hid (fun U (hb : Below w.heap.size w U) => rational_Add.calls false (⟨#[49]⟩ : ByteArray) (⟨#[50]⟩ : ByteArray) false (⟨#[49]⟩ : ByteArray) (⟨#[51]⟩ : ByteArray) false (⟨#[53]⟩ : ByteArray) (⟨#[54]⟩ : ByteArray) (0) U (Laid.below hL hb) (by decide +kernel))
  have K6 := Lib.hid (fun U (hb : Below w.heap.size w U) => rational_Sub.calls false (⟨#[49]⟩ : ByteArray) (⟨#[50]⟩ : ByteArray) false (⟨#[49]⟩ : ByteArray) (⟨#[50]⟩ : ByteArray) false (⟨#[48]⟩ : ByteArray) (⟨#[49]⟩ : ByteArray) (0) U (Laid.below hL hb) (by decide +kernel))
  have K7 := Lib.hid (fun U (hb : Below w.heap.size w U) => XRt.observatorylaw04_rat.calls true (⟨#[49]⟩ : ByteArray) (⟨#[50]⟩ : ByteArray) true (⟨#[49]⟩ : ByteArray) (⟨#[50]⟩ : ByteArray) U (by decide +kernel))
  have K8 := Lib.hid (fun U (hb : Below w.heap.size w U) => XRt.observatorylaw04_rat.calls false (⟨#[51]⟩ : ByteArray) (⟨#[52]⟩ : ByteArray) false (⟨#[51]⟩ : ByteArray) (⟨#[52]⟩ : ByteArray) U (by decide +kernel))
  have K9 := Lib.hid (fun U (hb : Below w.heap.size w U) => rational_Div.calls true (⟨#[49]⟩ : ByteArray) (⟨#[50]⟩ : ByteArray) false (⟨#[51]⟩ : ByteArray) (⟨#[52]⟩ : ByteArray) true (⟨#[50]⟩ : ByteArray) (⟨#[51]⟩ : ByteArray) (0) U (Laid.below hL hb) (by decide +kernel))
  have K10 := Lib.hid (fun U (hb : Below w.heap.size w U) => XRt.observatorylaw04_rat.calls false (⟨#[48]⟩ : ByteArray) (⟨#[49]⟩ : ByteArray) false (⟨#[48]⟩ : ByteArray) (⟨#[49]⟩ : ByteArray) U (by decide +kernel))
  have K11 := Lib.hid (fun U (hb : Below w.heap.size w U) => rational_Div.calls false (⟨#[49]⟩ : ByteArray) (⟨#[50]⟩ : ByteArray) false (⟨#[48]⟩ : ByteArray) (⟨#[49]⟩ : ByteArray) false (⟨#[]⟩ : ByteArray) (⟨#[]⟩ : ByteArray) (14) U (Laid.below hL hb) (by decide +kernel))
  have K12 := Lib.hid (fun U (hb : Below w.heap.size w U) => rational_Parse.calls (⟨#[45, 51, 47, 52]⟩) true (⟨#[51]⟩ : ByteArray) (⟨#[52]⟩ : ByteArray) (0) U (Laid.below hL hb) (by decide +kernel))
  have K13 := Lib.hid (fun U (hb : Below w.heap.size w U) => XRt.observatorylaw04_rat.calls true (⟨#[51]⟩ : ByteArray) (⟨#[52]⟩ : ByteArray) true (⟨#[51]⟩ : ByteArray) (⟨#[52]⟩ : ByteArray) U (by decide +kernel))
  have K14 := Lib.hid (fun U (hb : Below w.heap.size w U) => rational_Text.calls true (⟨#[51]⟩ : ByteArray) (⟨#[52]⟩ : ByteArray) (⟨#[45, 51, 47, 52]⟩) (0) U (Laid.below hL hb) (by decide +kernel))
  have K15 := Lib.hid (fun U (hb : Below w.heap.size w U) => XRt.observatorylaw04_rat.calls true (⟨#[51]⟩ : ByteArray) (⟨#[52]⟩ : ByteArray) true (⟨#[51]⟩ : ByteArray) (⟨#[52]⟩ : ByteArray) U (by decide +kernel))
  have K16 := Lib.hid (fun U (hb : Below w.heap.size w U) => XRt.observatorylaw04_rat.calls false (⟨#[48]⟩ : ByteArray) (⟨#[49]⟩ : ByteArray) false (⟨#[48]⟩ : ByteArray) (⟨#[49]⟩ : ByteArray) U (by decide +kernel))
  have K17 := Lib.hid (fun U (hb : Below w.heap.size w U) => XRt.observatorylaw04_rat.calls false (⟨#[53]⟩ : ByteArray) (⟨#[54]⟩ : ByteArray) false (⟨#[53]⟩ : ByteArray) (⟨#[54]⟩ : ByteArray) U (by decide +kernel))
  have K18 := Lib.hid (fun U (hb : Below w.heap.size w U) => XRt.observatorylaw04_rat.calls true (⟨#[50]⟩ : ByteArray) (⟨#[51]⟩ : ByteArray) true (⟨#[50]⟩ : ByteArray) (⟨#[51]⟩ : ByteArray) U (by decide +kernel))
  have K19 := Lib.hid (fun U (hb : Below w.heap.size w U) => XRt.observatorylaw04_rat.calls true (⟨#[49]⟩ : ByteArray) (⟨#[50]⟩ : ByteArray) true (⟨#[49]⟩ : ByteArray) (⟨#[50]⟩ : ByteArray) U (by decide +kernel))
  have K20 := Lib.hid (fun U (hb : Below w.heap.size w U) => rational_Compare.calls true (⟨#[49]⟩ : ByteArray) (⟨#[50]⟩ : ByteArray) false (⟨#[49]⟩ : ByteArray) (⟨#[51]⟩ : ByteArray) (-1) U (Laid.below hL hb) (by decide +kernel))
  have K21 := Lib.hid (fun U (hb : Below w.heap.size w U) => XRt.observatorylaw04_rat.calls false (⟨#[50]⟩ : ByteArray) (⟨#[51]⟩ : ByteArray) false (⟨#[50]⟩ : ByteArray) (⟨#[51]⟩ : ByteArray) U (by decide +kernel))
  have K22 := Lib.hid (fun U (hb : Below w.heap.size w U) => XRt.observatorylaw04_rat.calls false (⟨#[51]⟩ : ByteArray) (⟨#[52]⟩ : ByteArray) false (⟨#[51]⟩ : ByteArray) (⟨#[52]⟩ : ByteArray) U (by decide +kernel))
  have K23 := Lib.hid (fun U (hb : Below w.heap.size w U) => rational_Compare.calls false (⟨#[50]⟩ : ByteArray) (⟨#[51]⟩ : ByteArray) false (⟨#[51]⟩ : ByteArray) (⟨#[52]⟩ : ByteArray) (-1) U (Laid.below hL hb) (by decide +kernel))
  have K24 := Lib.hid (fun U (hb : Below w.heap.size w U) => rational_Parse.calls (⟨#[54, 47, 56]⟩) false (⟨#[]⟩ : ByteArray) (⟨#[]⟩ : ByteArray) (5) U (Laid.below hL hb) (by decide +kernel))
  have K25 := Lib.hid (fun U (hb : Below w.heap.size w U) => rational_Parse.calls (⟨#[53, 47, 49]⟩) false (⟨#[]⟩ : ByteArray) (⟨#[]⟩ : ByteArray) (5) U (Laid.below hL hb) (by decide +kernel))
  have K26 := Lib.hid (fun U (hb : Below w.heap.size w U) => rational_Parse.calls (⟨#[45, 48]⟩) false (⟨#[]⟩ : ByteArray) (⟨#[]⟩ : ByteArray) (5) U (Laid.below hL hb) (by decide +kernel))
  have K27 := Lib.hid (fun U (hb : Below w.heap.size w U) => rational_Parse.calls (⟨#[]⟩) false (⟨#[]⟩ : ByteArray) (⟨#[]⟩ : ByteArray) (5) U (Laid.below hL hb) (by decide +kernel))
  have K28 := Lib.hid (fun U (hb : Below w.heap.size w U) => rational_Parse.calls (⟨#[49, 47, 48]⟩) false (⟨#[]⟩ : ByteArray) (⟨#[]⟩ : ByteArray) (5) U (Laid.below hL hb) (by decide +kernel))
  have K29 := Lib.hid (fun U (hb : Below w.heap.size w U) => rational_Parse.calls (⟨#[47, 50]⟩) false (⟨#[]⟩ : ByteArray) (⟨#[]⟩ : ByteArray) (5) U (Laid.below hL hb) (by decide +kernel))
  have K30 := Lib.hid (fun U (hb : Below w.heap.size w U) => rational_Parse.calls (⟨#[48, 49]⟩) false (⟨#[]⟩ : ByteArray) (⟨#[]⟩ : ByteArray) (5) U (Laid.below hL hb) (by decide +kernel))
  have K31 := Lib.hid (fun U (hb : Below w.heap.size w U) => rational_Valid.calls false (⟨#[49]⟩ : ByteArray) (⟨#[50]⟩ : ByteArray) true U (Laid.below hL hb) (by decide +kernel))
  have K32 := Lib.hid (fun U (hb : Below w.heap.size w U) => rational_Valid.calls false (⟨#[]⟩ : ByteArray) (⟨#[]⟩ : ByteArray) false U (Laid.below hL hb) (by decide +kernel))
  have K33 := Lib.hid (fun U (hb : Below w.heap.size w U) => XRt.observatorylaw04_rat.calls false (⟨#[50]⟩ : ByteArray) (⟨#[52]⟩ : ByteArray) false (⟨#[50]⟩ : ByteArray) (⟨#[52]⟩ : ByteArray) U (by decide +kernel))
  have K34 := Lib.hid (fun U (hb : Below w.heap.size w U) => rational_Valid.calls false (⟨#[50]⟩ : ByteArray) (⟨#[52]⟩ : ByteArray) false U (Laid.below hL hb) (by decide +kernel))
  have HS := Lib.hid (HBx.nil w)
  have HB := Lib.hid (Below.refl w.heap.size w)
  clear hL
  have hu := Tryz.underlying24
  go_enter Tryz.func11, Tryz.ntmps11
  go_upto_region 2 with (first
      | (go_at_call 35; (with_reducible refine (K0.out _ (BK HB.out)).mono ?_); rintro e w_ ⟨rfl, hb_⟩; have HS2 := Lib.hid (HBx.below (HBx.later HS.out) hb_); have HB2 := Lib.hid (below_step (BK HB.out) hb_); clear hb_ HS HB; have HS := HS2; have HB := HB2; clear HS2 HB2)
      | (go_at_call 35; (with_reducible refine (K1.out _ (BK HB.out)).mono ?_); rintro e w_ ⟨rfl, hb_⟩; have HS2 := Lib.hid (HBx.below (HBx.later HS.out) hb_); have HB2 := Lib.hid (below_step (BK HB.out) hb_); clear hb_ HS HB; have HS := HS2; have HB := HB2; clear HS2 HB2))
  have HS2 := Lib.hid (HBx.cons2 false (⟨#[49]⟩ : ByteArray) (⟨#[50]⟩ : ByteArray) false (⟨#[49]⟩ : ByteArray) (⟨#[51]⟩ : ByteArray) HS.out)
  have HB2 := Lib.hid (below_alloc (below_alloc HB.out (.cells #[.bool false, .string (⟨#[49]⟩ : ByteArray), .string (⟨#[50]⟩ : ByteArray)] 24)) (.cells #[.bool false, .string (⟨#[49]⟩ : ByteArray), .string (⟨#[51]⟩ : ByteArray)] 24))
  clear HS HB
  have HS := HS2
  have HB := HB2
  clear HS2 HB2
  have hg2_ : (w_.alloc (.cells #[.bool false, .string (⟨#[49]⟩ : ByteArray), .string (⟨#[50]⟩ : ByteArray)] 24)).heap.size = w_.heap.size + 1 := by simp
  generalize hW_ : (w_.alloc (.cells #[.bool false, .string (⟨#[49]⟩ : ByteArray), .string (⟨#[50]⟩ : ByteArray)] 24)).alloc (.cells #[.bool false, .string (⟨#[49]⟩ : ByteArray), .string (⟨#[51]⟩ : ByteArray)] 24) = W_ at *
  clear hg2_
  generalize hh_ : w_.heap.size + 1 = g2 at *
  generalize hg_ : w_.heap.size = g1 at *
  clear hW_ hg_ hh_
  clear w_
  go_upto_region 3 with (first
      | (go_at_call 13; (with_reducible refine (K2.out _ (BK HB.out)).mono ?_); rintro e w_ ⟨rfl, hb_⟩; have HS2 := Lib.hid (HBx.below (HBx.later HS.out) hb_); have HB2 := Lib.hid (below_step (BK HB.out) hb_); clear hb_ HS HB; have HS := HS2; have HB := HB2; clear HS2 HB2))
  have HS2 := Lib.hid (HBx.cons true (⟨#[51]⟩ : ByteArray) (⟨#[52]⟩ : ByteArray) HS.out)
  have HB2 := Lib.hid (below_alloc HB.out (.cells #[.bool true, .string (⟨#[51]⟩ : ByteArray), .string (⟨#[52]⟩ : ByteArray)] 24))
  clear HS HB
  have HS := HS2
  have HB := HB2
  clear HS2 HB2
  generalize hW_ : w_.alloc (.cells #[.bool true, .string (⟨#[51]⟩ : ByteArray), .string (⟨#[52]⟩ : ByteArray)] 24) = W_ at *
  generalize hg_ : w_.heap.size = g3 at *
  clear hW_ hg_
  clear w_
  go_upto_region 4 with (first
      | (go_at_call 13; (with_reducible refine (K3.out _ (BK HB.out)).mono ?_); rintro e w_ ⟨rfl, hb_⟩; have HS2 := Lib.hid (HBx.below (HBx.later HS.out) hb_); have HB2 := Lib.hid (below_step (BK HB.out) hb_); clear hb_ HS HB; have HS := HS2; have HB := HB2; clear HS2 HB2))
  have HS2 := Lib.hid (HBx.cons false (⟨#[48]⟩ : ByteArray) (⟨#[49]⟩ : ByteArray) HS.out)
  have HB2 := Lib.hid (below_alloc HB.out (.cells #[.bool false, .string (⟨#[48]⟩ : ByteArray), .string (⟨#[49]⟩ : ByteArray)] 24))
  clear HS HB
  have HS := HS2
  have HB := HB2
  clear HS2 HB2
  generalize hW_ : w_.alloc (.cells #[.bool false, .string (⟨#[48]⟩ : ByteArray), .string (⟨#[49]⟩ : ByteArray)] 24) = W_ at *
  generalize hg_ : w_.heap.size = g5 at *
  clear hW_ hg_
  clear w_
  go_upto_region 5 with (first
      | (go_at_call 13; (with_reducible refine (K4.out _ (BK HB.out)).mono ?_); rintro e w_ ⟨rfl, hb_⟩; have HS2 := Lib.hid (HBx.below (HBx.later HS.out) hb_); have HB2 := Lib.hid (below_step (BK HB.out) hb_); clear hb_ HS HB; have HS := HS2; have HB := HB2; clear HS2 HB2))
  have HS2 := Lib.hid (HBx.cons false (⟨#[]⟩ : ByteArray) (⟨#[]⟩ : ByteArray) HS.out)
  have HB2 := Lib.hid (below_alloc HB.out (.cells #[.bool false, .string (⟨#[]⟩ : ByteArray), .string (⟨#[]⟩ : ByteArray)] 24))
  clear HS HB
  have HS := HS2
  have HB := HB2
  clear HS2 HB2
  generalize hW_ : w_.alloc (.cells #[.bool false, .string (⟨#[]⟩ : ByteArray), .string (⟨#[]⟩ : ByteArray)] 24) = W_ at *
  generalize hg_ : w_.heap.size = g7 at *
  clear hW_ hg_
  clear w_
  obtain ⟨y01, y02, y03⟩ := (HS.out.get (g := g1) (x := false) (y := (⟨#[49]⟩ : ByteArray)) (z := (⟨#[50]⟩ : ByteArray)) (by simp)).cells
  obtain ⟨y11, y12, y13⟩ := (HS.out.get (g := g2) (x := false) (y := (⟨#[49]⟩ : ByteArray)) (z := (⟨#[51]⟩ : ByteArray)) (by simp)).cells
  go_upto_region 6 with (first
      | (go_at_call 25; (with_reducible refine (K5.out _ (BK HB.out)).mono ?_); rintro e w_ ⟨rfl, hb_⟩; have HS2 := Lib.hid (HBx.below (HBx.later HS.out) hb_); have HB2 := Lib.hid (below_step (BK HB.out) hb_); clear hb_ HS HB; have HS := HS2; have HB := HB2; clear HS2 HB2))
  clear y01 y02 y03
  clear y11 y12 y13
  have HS2 := Lib.hid (HBx.cons false (⟨#[53]⟩ : ByteArray) (⟨#[54]⟩ : ByteArray) HS.out)
  have HB2 := Lib.hid (below_alloc HB.out (.cells #[.bool false, .string (⟨#[53]⟩ : ByteArray), .string (⟨#[54]⟩ : ByteArray)] 24))
  clear HS HB
  have HS := HS2
  have HB := HB2
  clear HS2 HB2
  generalize hW_ : w_.alloc (.cells #[.bool false, .string (⟨#[53]⟩ : ByteArray), .string (⟨#[54]⟩ : ByteArray)] 24) = W_ at *
  generalize hg_ : w_.heap.size = g9 at *
  clear hW_ hg_
  clear w_
  obtain ⟨y01, y02, y03⟩ := (HS.out.get (g := g1) (x := false) (y := (⟨#[49]⟩ : ByteArray)) (z := (⟨#[50]⟩ : ByteArray)) (by simp)).cells
  go_upto_region 7 with (first
      | (go_at_call 27; (with_reducible refine (K6.out _ (BK HB.out)).mono ?_); rintro e w_ ⟨rfl, hb_⟩; have HS2 := Lib.hid (HBx.below (HBx.later HS.out) hb_); have HB2 := Lib.hid (below_step (BK HB.out) hb_); clear hb_ HS HB; have HS := HS2; have HB := HB2; clear HS2 HB2))
  clear y01 y02 y03
  have HS2 := Lib.hid (HBx.cons false (⟨#[48]⟩ : ByteArray) (⟨#[49]⟩ : ByteArray) HS.out)
  have HB2 := Lib.hid (below_alloc HB.out (.cells #[.bool false, .string (⟨#[48]⟩ : ByteArray), .string (⟨#[49]⟩ : ByteArray)] 24))
  clear HS HB
  have HS := HS2
  have HB := HB2
  clear HS2 HB2
  generalize hW_ : w_.alloc (.cells #[.bool false, .string (⟨#[48]⟩ : ByteArray), .string (⟨#[49]⟩ : ByteArray)] 24) = W_ at *
  generalize hg_ : w_.heap.size = g11 at *
  clear hW_ hg_
  clear w_
  go_upto_region 8 with (first
      | (go_at_call 35; (with_reducible refine (K7.out _ (BK HB.out)).mono ?_); rintro e w_ ⟨rfl, hb_⟩; have HS2 := Lib.hid (HBx.below (HBx.later HS.out) hb_); have HB2 := Lib.hid (below_step (BK HB.out) hb_); clear hb_ HS HB; have HS := HS2; have HB := HB2; clear HS2 HB2)
      | (go_at_call 35; (with_reducible refine (K8.out _ (BK HB.out)).mono ?_); rintro e w_ ⟨rfl, hb_⟩; have HS2 := Lib.hid (HBx.below (HBx.later HS.out) hb_); have HB2 := Lib.hid (below_step (BK HB.out) hb_); clear hb_ HS HB; have HS := HS2; have HB := HB2; clear HS2 HB2)
      | (go_at_call 31; (with_reducible refine (K9.out _ (BK HB.out)).mono ?_); rintro e w_ ⟨rfl, hb_⟩; have HS2 := Lib.hid (HBx.below (HBx.later HS.out) hb_); have HB2 := Lib.hid (below_step (BK HB.out) hb_); clear hb_ HS HB; have HS := HS2; have HB := HB2; clear HS2 HB2))
  have HS2 := Lib.hid (HBx.cons true (⟨#[50]⟩ : ByteArray) (⟨#[51]⟩ : ByteArray) HS.out)
  have HB2 := Lib.hid (below_alloc HB.out (.cells #[.bool true, .string (⟨#[50]⟩ : ByteArray), .string (⟨#[51]⟩ : ByteArray)] 24))
  clear HS HB
  have HS := HS2
  have HB := HB2
  clear HS2 HB2
  generalize hW_ : w_.alloc (.cells #[.bool true, .string (⟨#[50]⟩ : ByteArray), .string (⟨#[51]⟩ : ByteArray)] 24) = W_ at *
  generalize hg_ : w_.heap.size = g13 at *
  clear hW_ hg_
  clear w_
  go_cut [16] (fun s16 wx => s16 = .int .i64 14 ∧ HBx wx [(g13, (true, (⟨#[50]⟩ : ByteArray), (⟨#[51]⟩ : ByteArray))), (g11, (false, (⟨#[48]⟩ : ByteArray), (⟨#[49]⟩ : ByteArray))), (g9, (false, (⟨#[53]⟩ : ByteArray), (⟨#[54]⟩ : ByteArray))), (g7, (false, (⟨#[]⟩ : ByteArray), (⟨#[]⟩ : ByteArray))), (g5, (false, (⟨#[48]⟩ : ByteArray), (⟨#[49]⟩ : ByteArray))), (g3, (true, (⟨#[51]⟩ : ByteArray), (⟨#[52]⟩ : ByteArray))), (g2, (false, (⟨#[49]⟩ : ByteArray), (⟨#[51]⟩ : ByteArray))), (g1, (false, (⟨#[49]⟩ : ByteArray), (⟨#[50]⟩ : ByteArray)))] ∧ Below w.heap.size w wx)
  case first =>
    have HM1 := Lib.hid (show (g1, ((false, (⟨#[49]⟩ : ByteArray), (⟨#[50]⟩ : ByteArray)) : R3)) ∈ ([(g13, (true, (⟨#[50]⟩ : ByteArray), (⟨#[51]⟩ : ByteArray))), (g11, (false, (⟨#[48]⟩ : ByteArray), (⟨#[49]⟩ : ByteArray))), (g9, (false, (⟨#[53]⟩ : ByteArray), (⟨#[54]⟩ : ByteArray))), (g7, (false, (⟨#[]⟩ : ByteArray), (⟨#[]⟩ : ByteArray))), (g5, (false, (⟨#[48]⟩ : ByteArray), (⟨#[49]⟩ : ByteArray))), (g3, (true, (⟨#[51]⟩ : ByteArray), (⟨#[52]⟩ : ByteArray))), (g2, (false, (⟨#[49]⟩ : ByteArray), (⟨#[51]⟩ : ByteArray))), (g1, (false, (⟨#[49]⟩ : ByteArray), (⟨#[50]⟩ : ByteArray)))] : List (Nat × R3)) by simp)
    obtain ⟨y01, y02, y03⟩ := (HS.out.get (g := g1) (x := false) (y := (⟨#[49]⟩ : ByteArray)) (z := (⟨#[50]⟩ : ByteArray)) (by simp)).cells
    go_region_held3 (fun W' => W'.cell? ⟨g1, 0, none⟩ = some (.bool false) ∧ W'.cell? ⟨g1, 1, none⟩ = some (.string (⟨#[49]⟩ : ByteArray)) ∧ W'.cell? ⟨g1, 2, none⟩ = some (.string (⟨#[50]⟩ : ByteArray))) (go_keep)
      ((first
        | (go_at_call 35; (with_reducible refine (K10.out _ (BK HB.out)).mono ?_); rintro e w_ ⟨rfl, hb_⟩; (first | (have HS2 := Lib.hid (HBx.below (HBx.drewn (HBx.cons false ⟨#[]⟩ ⟨#[]⟩ HS.out)) hb_); have HN := Lib.hid (HS.out.ne_new HM1.out); have HGE := Lib.hid (HB.out.size); have hn1_ := HN.out; have hn2_ := Ne.symm HN.out; have HB2 := Lib.hid (below_step (BK HB.out) hb_); clear hb_ HS HB; have HS := HS2; have HB := HB2; clear HS2 HB2) | (have HS2 := Lib.hid (HBx.below (HBx.cons false ⟨#[]⟩ ⟨#[]⟩ HS.out) hb_); have HN := Lib.hid (HS.out.ne_new HM1.out); have HGE := Lib.hid (HB.out.size); have hn1_ := HN.out; have hn2_ := Ne.symm HN.out; have HB2 := Lib.hid (below_step (BK HB.out) hb_); clear hb_ HS HB; have HS := HS2; have HB := HB2; clear HS2 HB2) | (have HS2 := Lib.hid (HBx.below (HBx.later HS.out) hb_); have HB2 := Lib.hid (below_step (BK HB.out) hb_); clear hb_ HS HB; have HS := HS2; have HB := HB2; clear HS2 HB2)); (try clear q1 q2 q3 q4 q5 q6); obtain ⟨q1, q2, q3⟩ := (HS.out.head).cells; have q4 := blk_frozen HS.out.head 0; have q5 := blk_frozen HS.out.head 1; have q6 := blk_frozen HS.out.head 2; (try clear y01 y02 y03); obtain ⟨y01, y02, y03⟩ := (HS.out.get (g := g1) (x := false) (y := (⟨#[49]⟩ : ByteArray)) (z := (⟨#[50]⟩ : ByteArray)) (by simp)).cells)
        | (go_at_call 31; (with_reducible refine (K11.out _ (BK HB.out)).mono ?_); rintro e w_ ⟨rfl, hb_⟩; (first | (have HS2 := Lib.hid (HBx.below (HBx.drewn (HBx.cons false ⟨#[]⟩ ⟨#[]⟩ HS.out)) hb_); have HN := Lib.hid (HS.out.ne_new HM1.out); have HGE := Lib.hid (HB.out.size); have hn1_ := HN.out; have hn2_ := Ne.symm HN.out; have HB2 := Lib.hid (below_step (BK HB.out) hb_); clear hb_ HS HB; have HS := HS2; have HB := HB2; clear HS2 HB2) | (have HS2 := Lib.hid (HBx.below (HBx.cons false ⟨#[]⟩ ⟨#[]⟩ HS.out) hb_); have HN := Lib.hid (HS.out.ne_new HM1.out); have HGE := Lib.hid (HB.out.size); have hn1_ := HN.out; have hn2_ := Ne.symm HN.out; have HB2 := Lib.hid (below_step (BK HB.out) hb_); clear hb_ HS HB; have HS := HS2; have HB := HB2; clear HS2 HB2) | (have HS2 := Lib.hid (HBx.below (HBx.later HS.out) hb_); have HB2 := Lib.hid (below_step (BK HB.out) hb_); clear hb_ HS HB; have HS := HS2; have HB := HB2; clear HS2 HB2)); (try clear q1 q2 q3 q4 q5 q6); obtain ⟨q1, q2, q3⟩ := (HS.out.head).cells; have q4 := blk_frozen HS.out.head 0; have q5 := blk_frozen HS.out.head 1; have q6 := blk_frozen HS.out.head 2; (try clear y01 y02 y03); obtain ⟨y01, y02, y03⟩ := (HS.out.get (g := g1) (x := false) (y := (⟨#[49]⟩ : ByteArray)) (z := (⟨#[50]⟩ : ByteArray)) (by simp)).cells)))
    all_goals (go_wp2_with fail)
    all_goals go_meet
    all_goals first | exact ⟨rfl, (HBx.cons _ _ _ HS.out).tail, BK HB.out⟩ | exact ⟨rfl, HBx.far3 HS.out _ _ _, below_set (below_set (below_set HB.out HGE.out) HGE.out) HGE.out⟩
  case rest =>
  obtain ⟨rfl, hs_, hb_⟩ := hcut
  have HS2 := Lib.hid hs_
  have HB2 := Lib.hid hb_
  clear hs_ hb_ HS HB
  have HS := HS2
  have HB := HB2
  clear HS2 HB2
  generalize hW_ : wc = W_ at *
  clear hW_
  go_upto_region 10 with (first
      | (go_at_call 19; (with_reducible refine (K12.out _ (BK HB.out)).mono ?_); rintro e w_ ⟨rfl, hb_⟩; have HS2 := Lib.hid (HBx.below (HBx.later HS.out) hb_); have HB2 := Lib.hid (below_step (BK HB.out) hb_); clear hb_ HS HB; have HS := HS2; have HB := HB2; clear HS2 HB2))
  have HS2 := Lib.hid (HBx.cons true (⟨#[51]⟩ : ByteArray) (⟨#[52]⟩ : ByteArray) HS.out)
  have HB2 := Lib.hid (below_alloc HB.out (.cells #[.bool true, .string (⟨#[51]⟩ : ByteArray), .string (⟨#[52]⟩ : ByteArray)] 24))
  clear HS HB
  have HS := HS2
  have HB := HB2
  clear HS2 HB2
  generalize hW_ : w_.alloc (.cells #[.bool true, .string (⟨#[51]⟩ : ByteArray), .string (⟨#[52]⟩ : ByteArray)] 24) = W_ at *
  generalize hg_ : w_.heap.size = g17 at *
  clear hW_ hg_
  clear w_
  go_upto_region 11 with (first
      | (go_at_call 35; (with_reducible refine (K13.out _ (BK HB.out)).mono ?_); rintro e w_ ⟨rfl, hb_⟩; have HS2 := Lib.hid (HBx.below (HBx.later HS.out) hb_); have HB2 := Lib.hid (below_step (BK HB.out) hb_); clear hb_ HS HB; have HS := HS2; have HB := HB2; clear HS2 HB2)
      | (go_at_call 17; (with_reducible refine (K14.out _ (BK HB.out)).mono ?_); rintro e w_ ⟨rfl, hb_⟩; have HS2 := Lib.hid (HBx.below (HBx.later HS.out) hb_); have HB2 := Lib.hid (below_step (BK HB.out) hb_); clear hb_ HS HB; have HS := HS2; have HB := HB2; clear HS2 HB2))
  go_cut [21] (fun s21 wx => s21 = .bool true ∧ HBx wx [(g17, (true, (⟨#[51]⟩ : ByteArray), (⟨#[52]⟩ : ByteArray))), (g13, (true, (⟨#[50]⟩ : ByteArray), (⟨#[51]⟩ : ByteArray))), (g11, (false, (⟨#[48]⟩ : ByteArray), (⟨#[49]⟩ : ByteArray))), (g9, (false, (⟨#[53]⟩ : ByteArray), (⟨#[54]⟩ : ByteArray))), (g7, (false, (⟨#[]⟩ : ByteArray), (⟨#[]⟩ : ByteArray))), (g5, (false, (⟨#[48]⟩ : ByteArray), (⟨#[49]⟩ : ByteArray))), (g3, (true, (⟨#[51]⟩ : ByteArray), (⟨#[52]⟩ : ByteArray))), (g2, (false, (⟨#[49]⟩ : ByteArray), (⟨#[51]⟩ : ByteArray))), (g1, (false, (⟨#[49]⟩ : ByteArray), (⟨#[50]⟩ : ByteArray)))] ∧ Below w.heap.size w wx)
  case first =>
    obtain ⟨y01, y02, y03⟩ := (HS.out.get (g := g3) (x := true) (y := (⟨#[51]⟩ : ByteArray)) (z := (⟨#[52]⟩ : ByteArray)) (by simp)).cells
    obtain ⟨y11, y12, y13⟩ := (HS.out.get (g := g5) (x := false) (y := (⟨#[48]⟩ : ByteArray)) (z := (⟨#[49]⟩ : ByteArray)) (by simp)).cells
    obtain ⟨y21, y22, y23⟩ := (HS.out.get (g := g9) (x := false) (y := (⟨#[53]⟩ : ByteArray)) (z := (⟨#[54]⟩ : ByteArray)) (by simp)).cells
    obtain ⟨y31, y32, y33⟩ := (HS.out.get (g := g11) (x := false) (y := (⟨#[48]⟩ : ByteArray)) (z := (⟨#[49]⟩ : ByteArray)) (by simp)).cells
    go_region_held3 (fun W' => W'.cell? ⟨g3, 0, none⟩ = some (.bool true) ∧ W'.cell? ⟨g3, 1, none⟩ = some (.string (⟨#[51]⟩ : ByteArray)) ∧ W'.cell? ⟨g3, 2, none⟩ = some (.string (⟨#[52]⟩ : ByteArray)) ∧ W'.cell? ⟨g5, 0, none⟩ = some (.bool false) ∧ W'.cell? ⟨g5, 1, none⟩ = some (.string (⟨#[48]⟩ : ByteArray)) ∧ W'.cell? ⟨g5, 2, none⟩ = some (.string (⟨#[49]⟩ : ByteArray)) ∧ W'.cell? ⟨g9, 0, none⟩ = some (.bool false) ∧ W'.cell? ⟨g9, 1, none⟩ = some (.string (⟨#[53]⟩ : ByteArray)) ∧ W'.cell? ⟨g9, 2, none⟩ = some (.string (⟨#[54]⟩ : ByteArray)) ∧ W'.cell? ⟨g11, 0, none⟩ = some (.bool false) ∧ W'.cell? ⟨g11, 1, none⟩ = some (.string (⟨#[48]⟩ : ByteArray)) ∧ W'.cell? ⟨g11, 2, none⟩ = some (.string (⟨#[49]⟩ : ByteArray))) (go_keep)
      ((first
        | (go_at_call 35; (with_reducible refine (K15.out _ (BK HB.out)).mono ?_); rintro e w_ ⟨rfl, hb_⟩; have HS2 := Lib.hid (HBx.below (HBx.later HS.out) hb_); have HB2 := Lib.hid (below_step (BK HB.out) hb_); clear hb_ HS HB; have HS := HS2; have HB := HB2; clear HS2 HB2; (try clear y01 y02 y03 y11 y12 y13 y21 y22 y23 y31 y32 y33); obtain ⟨y01, y02, y03⟩ := (HS.out.get (g := g3) (x := true) (y := (⟨#[51]⟩ : ByteArray)) (z := (⟨#[52]⟩ : ByteArray)) (by simp)).cells; obtain ⟨y11, y12, y13⟩ := (HS.out.get (g := g5) (x := false) (y := (⟨#[48]⟩ : ByteArray)) (z := (⟨#[49]⟩ : ByteArray)) (by simp)).cells; obtain ⟨y21, y22, y23⟩ := (HS.out.get (g := g9) (x := false) (y := (⟨#[53]⟩ : ByteArray)) (z := (⟨#[54]⟩ : ByteArray)) (by simp)).cells; obtain ⟨y31, y32, y33⟩ := (HS.out.get (g := g11) (x := false) (y := (⟨#[48]⟩ : ByteArray)) (z := (⟨#[49]⟩ : ByteArray)) (by simp)).cells)
        | (go_at_call 35; (with_reducible refine (K16.out _ (BK HB.out)).mono ?_); rintro e w_ ⟨rfl, hb_⟩; have HS2 := Lib.hid (HBx.below (HBx.later HS.out) hb_); have HB2 := Lib.hid (below_step (BK HB.out) hb_); clear hb_ HS HB; have HS := HS2; have HB := HB2; clear HS2 HB2; (try clear y01 y02 y03 y11 y12 y13 y21 y22 y23 y31 y32 y33); obtain ⟨y01, y02, y03⟩ := (HS.out.get (g := g3) (x := true) (y := (⟨#[51]⟩ : ByteArray)) (z := (⟨#[52]⟩ : ByteArray)) (by simp)).cells; obtain ⟨y11, y12, y13⟩ := (HS.out.get (g := g5) (x := false) (y := (⟨#[48]⟩ : ByteArray)) (z := (⟨#[49]⟩ : ByteArray)) (by simp)).cells; obtain ⟨y21, y22, y23⟩ := (HS.out.get (g := g9) (x := false) (y := (⟨#[53]⟩ : ByteArray)) (z := (⟨#[54]⟩ : ByteArray)) (by simp)).cells; obtain ⟨y31, y32, y33⟩ := (HS.out.get (g := g11) (x := false) (y := (⟨#[48]⟩ : ByteArray)) (z := (⟨#[49]⟩ : ByteArray)) (by simp)).cells)
        | (go_at_call 35; (with_reducible refine (K17.out _ (BK HB.out)).mono ?_); rintro e w_ ⟨rfl, hb_⟩; have HS2 := Lib.hid (HBx.below (HBx.later HS.out) hb_); have HB2 := Lib.hid (below_step (BK HB.out) hb_); clear hb_ HS HB; have HS := HS2; have HB := HB2; clear HS2 HB2; (try clear y01 y02 y03 y11 y12 y13 y21 y22 y23 y31 y32 y33); obtain ⟨y01, y02, y03⟩ := (HS.out.get (g := g3) (x := true) (y := (⟨#[51]⟩ : ByteArray)) (z := (⟨#[52]⟩ : ByteArray)) (by simp)).cells; obtain ⟨y11, y12, y13⟩ := (HS.out.get (g := g5) (x := false) (y := (⟨#[48]⟩ : ByteArray)) (z := (⟨#[49]⟩ : ByteArray)) (by simp)).cells; obtain ⟨y21, y22, y23⟩ := (HS.out.get (g := g9) (x := false) (y := (⟨#[53]⟩ : ByteArray)) (z := (⟨#[54]⟩ : ByteArray)) (by simp)).cells; obtain ⟨y31, y32, y33⟩ := (HS.out.get (g := g11) (x := false) (y := (⟨#[48]⟩ : ByteArray)) (z := (⟨#[49]⟩ : ByteArray)) (by simp)).cells)))
    all_goals (go_wp2_with fail)
    all_goals go_meet
    all_goals exact ⟨rfl, HBx.later HS.out, BK HB.out⟩
  case rest =>
  obtain ⟨rfl, hs_, hb_⟩ := hcut
  have HS2 := Lib.hid hs_
  have HB2 := Lib.hid hb_
  clear hs_ hb_ HS HB
  have HS := HS2
  have HB := HB2
  clear HS2 HB2
  generalize hW_ : wc = W_ at *
  clear hW_
  go_upto_region 12 with fail
  go_cut [22] (fun s22 wx => s22 = .bool true ∧ HBx wx [(g17, (true, (⟨#[51]⟩ : ByteArray), (⟨#[52]⟩ : ByteArray))), (g13, (true, (⟨#[50]⟩ : ByteArray), (⟨#[51]⟩ : ByteArray))), (g11, (false, (⟨#[48]⟩ : ByteArray), (⟨#[49]⟩ : ByteArray))), (g9, (false, (⟨#[53]⟩ : ByteArray), (⟨#[54]⟩ : ByteArray))), (g7, (false, (⟨#[]⟩ : ByteArray), (⟨#[]⟩ : ByteArray))), (g5, (false, (⟨#[48]⟩ : ByteArray), (⟨#[49]⟩ : ByteArray))), (g3, (true, (⟨#[51]⟩ : ByteArray), (⟨#[52]⟩ : ByteArray))), (g2, (false, (⟨#[49]⟩ : ByteArray), (⟨#[51]⟩ : ByteArray))), (g1, (false, (⟨#[49]⟩ : ByteArray), (⟨#[50]⟩ : ByteArray)))] ∧ Below w.heap.size w wx)
  case first =>
    obtain ⟨y01, y02, y03⟩ := (HS.out.get (g := g13) (x := true) (y := (⟨#[50]⟩ : ByteArray)) (z := (⟨#[51]⟩ : ByteArray)) (by simp)).cells
    obtain ⟨y11, y12, y13⟩ := (HS.out.get (g := g17) (x := true) (y := (⟨#[51]⟩ : ByteArray)) (z := (⟨#[52]⟩ : ByteArray)) (by simp)).cells
    obtain ⟨y21, y22, y23⟩ := (HS.out.get (g := g3) (x := true) (y := (⟨#[51]⟩ : ByteArray)) (z := (⟨#[52]⟩ : ByteArray)) (by simp)).cells
    obtain ⟨y31, y32, y33⟩ := (HS.out.get (g := g2) (x := false) (y := (⟨#[49]⟩ : ByteArray)) (z := (⟨#[51]⟩ : ByteArray)) (by simp)).cells
    go_region_held3 (fun W' => W'.cell? ⟨g13, 0, none⟩ = some (.bool true) ∧ W'.cell? ⟨g13, 1, none⟩ = some (.string (⟨#[50]⟩ : ByteArray)) ∧ W'.cell? ⟨g13, 2, none⟩ = some (.string (⟨#[51]⟩ : ByteArray)) ∧ W'.cell? ⟨g17, 0, none⟩ = some (.bool true) ∧ W'.cell? ⟨g17, 1, none⟩ = some (.string (⟨#[51]⟩ : ByteArray)) ∧ W'.cell? ⟨g17, 2, none⟩ = some (.string (⟨#[52]⟩ : ByteArray)) ∧ W'.cell? ⟨g3, 0, none⟩ = some (.bool true) ∧ W'.cell? ⟨g3, 1, none⟩ = some (.string (⟨#[51]⟩ : ByteArray)) ∧ W'.cell? ⟨g3, 2, none⟩ = some (.string (⟨#[52]⟩ : ByteArray)) ∧ W'.cell? ⟨g2, 0, none⟩ = some (.bool false) ∧ W'.cell? ⟨g2, 1, none⟩ = some (.string (⟨#[49]⟩ : ByteArray)) ∧ W'.cell? ⟨g2, 2, none⟩ = some (.string (⟨#[51]⟩ : ByteArray))) (go_keep)
      ((first
        | (go_at_call 35; (with_reducible refine (K18.out _ (BK HB.out)).mono ?_); rintro e w_ ⟨rfl, hb_⟩; have HS2 := Lib.hid (HBx.below (HBx.later HS.out) hb_); have HB2 := Lib.hid (below_step (BK HB.out) hb_); clear hb_ HS HB; have HS := HS2; have HB := HB2; clear HS2 HB2; (try clear y01 y02 y03 y11 y12 y13 y21 y22 y23 y31 y32 y33); obtain ⟨y01, y02, y03⟩ := (HS.out.get (g := g13) (x := true) (y := (⟨#[50]⟩ : ByteArray)) (z := (⟨#[51]⟩ : ByteArray)) (by simp)).cells; obtain ⟨y11, y12, y13⟩ := (HS.out.get (g := g17) (x := true) (y := (⟨#[51]⟩ : ByteArray)) (z := (⟨#[52]⟩ : ByteArray)) (by simp)).cells; obtain ⟨y21, y22, y23⟩ := (HS.out.get (g := g3) (x := true) (y := (⟨#[51]⟩ : ByteArray)) (z := (⟨#[52]⟩ : ByteArray)) (by simp)).cells; obtain ⟨y31, y32, y33⟩ := (HS.out.get (g := g2) (x := false) (y := (⟨#[49]⟩ : ByteArray)) (z := (⟨#[51]⟩ : ByteArray)) (by simp)).cells)
        | (go_at_call 35; (with_reducible refine (K19.out _ (BK HB.out)).mono ?_); rintro e w_ ⟨rfl, hb_⟩; have HS2 := Lib.hid (HBx.below (HBx.later HS.out) hb_); have HB2 := Lib.hid (below_step (BK HB.out) hb_); clear hb_ HS HB; have HS := HS2; have HB := HB2; clear HS2 HB2; (try clear y01 y02 y03 y11 y12 y13 y21 y22 y23 y31 y32 y33); obtain ⟨y01, y02, y03⟩ := (HS.out.get (g := g13) (x := true) (y := (⟨#[50]⟩ : ByteArray)) (z := (⟨#[51]⟩ : ByteArray)) (by simp)).cells; obtain ⟨y11, y12, y13⟩ := (HS.out.get (g := g17) (x := true) (y := (⟨#[51]⟩ : ByteArray)) (z := (⟨#[52]⟩ : ByteArray)) (by simp)).cells; obtain ⟨y21, y22, y23⟩ := (HS.out.get (g := g3) (x := true) (y := (⟨#[51]⟩ : ByteArray)) (z := (⟨#[52]⟩ : ByteArray)) (by simp)).cells; obtain ⟨y31, y32, y33⟩ := (HS.out.get (g := g2) (x := false) (y := (⟨#[49]⟩ : ByteArray)) (z := (⟨#[51]⟩ : ByteArray)) (by simp)).cells)
        | (go_at_call 23; (with_reducible refine (K20.out _ (BK HB.out)).mono ?_); rintro e w_ ⟨rfl, hb_⟩; have HS2 := Lib.hid (HBx.below (HBx.later HS.out) hb_); have HB2 := Lib.hid (below_step (BK HB.out) hb_); clear hb_ HS HB; have HS := HS2; have HB := HB2; clear HS2 HB2; (try clear y01 y02 y03 y11 y12 y13 y21 y22 y23 y31 y32 y33); obtain ⟨y01, y02, y03⟩ := (HS.out.get (g := g13) (x := true) (y := (⟨#[50]⟩ : ByteArray)) (z := (⟨#[51]⟩ : ByteArray)) (by simp)).cells; obtain ⟨y11, y12, y13⟩ := (HS.out.get (g := g17) (x := true) (y := (⟨#[51]⟩ : ByteArray)) (z := (⟨#[52]⟩ : ByteArray)) (by simp)).cells; obtain ⟨y21, y22, y23⟩ := (HS.out.get (g := g3) (x := true) (y := (⟨#[51]⟩ : ByteArray)) (z := (⟨#[52]⟩ : ByteArray)) (by simp)).cells; obtain ⟨y31, y32, y33⟩ := (HS.out.get (g := g2) (x := false) (y := (⟨#[49]⟩ : ByteArray)) (z := (⟨#[51]⟩ : ByteArray)) (by simp)).cells)
        | (go_at_call 35; (with_reducible refine (K21.out _ (BK HB.out)).mono ?_); rintro e w_ ⟨rfl, hb_⟩; have HS2 := Lib.hid (HBx.below (HBx.later HS.out) hb_); have HB2 := Lib.hid (below_step (BK HB.out) hb_); clear hb_ HS HB; have HS := HS2; have HB := HB2; clear HS2 HB2; (try clear y01 y02 y03 y11 y12 y13 y21 y22 y23 y31 y32 y33); obtain ⟨y01, y02, y03⟩ := (HS.out.get (g := g13) (x := true) (y := (⟨#[50]⟩ : ByteArray)) (z := (⟨#[51]⟩ : ByteArray)) (by simp)).cells; obtain ⟨y11, y12, y13⟩ := (HS.out.get (g := g17) (x := true) (y := (⟨#[51]⟩ : ByteArray)) (z := (⟨#[52]⟩ : ByteArray)) (by simp)).cells; obtain ⟨y21, y22, y23⟩ := (HS.out.get (g := g3) (x := true) (y := (⟨#[51]⟩ : ByteArray)) (z := (⟨#[52]⟩ : ByteArray)) (by simp)).cells; obtain ⟨y31, y32, y33⟩ := (HS.out.get (g := g2) (x := false) (y := (⟨#[49]⟩ : ByteArray)) (z := (⟨#[51]⟩ : ByteArray)) (by simp)).cells)
        | (go_at_call 35; (with_reducible refine (K22.out _ (BK HB.out)).mono ?_); rintro e w_ ⟨rfl, hb_⟩; have HS2 := Lib.hid (HBx.below (HBx.later HS.out) hb_); have HB2 := Lib.hid (below_step (BK HB.out) hb_); clear hb_ HS HB; have HS := HS2; have HB := HB2; clear HS2 HB2; (try clear y01 y02 y03 y11 y12 y13 y21 y22 y23 y31 y32 y33); obtain ⟨y01, y02, y03⟩ := (HS.out.get (g := g13) (x := true) (y := (⟨#[50]⟩ : ByteArray)) (z := (⟨#[51]⟩ : ByteArray)) (by simp)).cells; obtain ⟨y11, y12, y13⟩ := (HS.out.get (g := g17) (x := true) (y := (⟨#[51]⟩ : ByteArray)) (z := (⟨#[52]⟩ : ByteArray)) (by simp)).cells; obtain ⟨y21, y22, y23⟩ := (HS.out.get (g := g3) (x := true) (y := (⟨#[51]⟩ : ByteArray)) (z := (⟨#[52]⟩ : ByteArray)) (by simp)).cells; obtain ⟨y31, y32, y33⟩ := (HS.out.get (g := g2) (x := false) (y := (⟨#[49]⟩ : ByteArray)) (z := (⟨#[51]⟩ : ByteArray)) (by simp)).cells)
        | (go_at_call 23; (with_reducible refine (K23.out _ (BK HB.out)).mono ?_); rintro e w_ ⟨rfl, hb_⟩; have HS2 := Lib.hid (HBx.below (HBx.later HS.out) hb_); have HB2 := Lib.hid (below_step (BK HB.out) hb_); clear hb_ HS HB; have HS := HS2; have HB := HB2; clear HS2 HB2; (try clear y01 y02 y03 y11 y12 y13 y21 y22 y23 y31 y32 y33); obtain ⟨y01, y02, y03⟩ := (HS.out.get (g := g13) (x := true) (y := (⟨#[50]⟩ : ByteArray)) (z := (⟨#[51]⟩ : ByteArray)) (by simp)).cells; obtain ⟨y11, y12, y13⟩ := (HS.out.get (g := g17) (x := true) (y := (⟨#[51]⟩ : ByteArray)) (z := (⟨#[52]⟩ : ByteArray)) (by simp)).cells; obtain ⟨y21, y22, y23⟩ := (HS.out.get (g := g3) (x := true) (y := (⟨#[51]⟩ : ByteArray)) (z := (⟨#[52]⟩ : ByteArray)) (by simp)).cells; obtain ⟨y31, y32, y33⟩ := (HS.out.get (g := g2) (x := false) (y := (⟨#[49]⟩ : ByteArray)) (z := (⟨#[51]⟩ : ByteArray)) (by simp)).cells)))
    all_goals (go_wp2_with fail)
    all_goals go_meet
    all_goals exact ⟨rfl, HBx.later HS.out, BK HB.out⟩
  case rest =>
  obtain ⟨rfl, hs_, hb_⟩ := hcut
  have HS2 := Lib.hid hs_
  have HB2 := Lib.hid hb_
  clear hs_ hb_ HS HB
  have HS := HS2
  have HB := HB2
  clear HS2 HB2
  generalize hW_ : wc = W_ at *
  clear hW_
  go_wp2_with fail
  have HSL := Lib.hid (heap_alloc_new W_ (.cells #[.string (⟨#[54, 47, 56]⟩ : ByteArray), .string (⟨#[53, 47, 49]⟩ : ByteArray), .string (⟨#[45, 48]⟩ : ByteArray), .string (⟨#[]⟩ : ByteArray), .string (⟨#[49, 47, 48]⟩ : ByteArray), .string (⟨#[47, 50]⟩ : ByteArray), .string (⟨#[48, 49]⟩ : ByteArray)] 9))
  have HS2 := Lib.hid (HBx.later (U := W_.alloc (.cells #[.string (⟨#[54, 47, 56]⟩ : ByteArray), .string (⟨#[53, 47, 49]⟩ : ByteArray), .string (⟨#[45, 48]⟩ : ByteArray), .string (⟨#[]⟩ : ByteArray), .string (⟨#[49, 47, 48]⟩ : ByteArray), .string (⟨#[47, 50]⟩ : ByteArray), .string (⟨#[48, 49]⟩ : ByteArray)] 9)) HS.out)
  have HB2 := Lib.hid (below_alloc HB.out (.cells #[.string (⟨#[54, 47, 56]⟩ : ByteArray), .string (⟨#[53, 47, 49]⟩ : ByteArray), .string (⟨#[45, 48]⟩ : ByteArray), .string (⟨#[]⟩ : ByteArray), .string (⟨#[49, 47, 48]⟩ : ByteArray), .string (⟨#[47, 50]⟩ : ByteArray), .string (⟨#[48, 49]⟩ : ByteArray)] 9))
  clear HS HB
  have HS := HS2
  have HB := HB2
  clear HS2 HB2
  generalize hW_ : W_.alloc (.cells #[.string (⟨#[54, 47, 56]⟩ : ByteArray), .string (⟨#[53, 47, 49]⟩ : ByteArray), .string (⟨#[45, 48]⟩ : ByteArray), .string (⟨#[]⟩ : ByteArray), .string (⟨#[49, 47, 48]⟩ : ByteArray), .string (⟨#[47, 50]⟩ : ByteArray), .string (⟨#[48, 49]⟩ : ByteArray)] 9) = V_ at *
  generalize hg_ : W_.heap.size = gs at *
  clear hW_ hg_
  go_loopg [24] 7 (fun k s24 wr => LI k s24 ∧ HBx wr [(g17, (true, (⟨#[51]⟩ : ByteArray), (⟨#[52]⟩ : ByteArray))), (g13, (true, (⟨#[50]⟩ : ByteArray), (⟨#[51]⟩ : ByteArray))), (g11, (false, (⟨#[48]⟩ : ByteArray), (⟨#[49]⟩ : ByteArray))), (g9, (false, (⟨#[53]⟩ : ByteArray), (⟨#[54]⟩ : ByteArray))), (g7, (false, (⟨#[]⟩ : ByteArray), (⟨#[]⟩ : ByteArray))), (g5, (false, (⟨#[48]⟩ : ByteArray), (⟨#[49]⟩ : ByteArray))), (g3, (true, (⟨#[51]⟩ : ByteArray), (⟨#[52]⟩ : ByteArray))), (g2, (false, (⟨#[49]⟩ : ByteArray), (⟨#[51]⟩ : ByteArray))), (g1, (false, (⟨#[49]⟩ : ByteArray), (⟨#[50]⟩ : ByteArray)))] ∧ Below w.heap.size w wr ∧ wr.heap[gs]? = some (.cells #[.string (⟨#[54, 47, 56]⟩ : ByteArray), .string (⟨#[53, 47, 49]⟩ : ByteArray), .string (⟨#[45, 48]⟩ : ByteArray), .string (⟨#[]⟩ : ByteArray), .string (⟨#[49, 47, 48]⟩ : ByteArray), .string (⟨#[47, 50]⟩ : ByteArray), .string (⟨#[48, 49]⟩ : ByteArray)] 9))
  case atStart => exact ⟨Or.inl ⟨rfl, rfl⟩, HS.out, HB.out, HSL.out⟩
  case round =>
    clear HS HB HSL
    obtain ⟨hli, hs_, hb_, hl_⟩ := hrel
    have HS := Lib.hid hs_
    have HB := Lib.hid hb_
    have HSL := Lib.hid hl_
    clear hs_ hb_ hl_
    rcases hli with ⟨rfl, rfl⟩ | ⟨rfl, rfl⟩ | ⟨rfl, rfl⟩ | ⟨rfl, rfl⟩ | ⟨rfl, rfl⟩ | ⟨rfl, rfl⟩ | ⟨rfl, rfl⟩ | ⟨rfl, rfl⟩
    · have c_ : wr.cell? ⟨gs, 0, none⟩ = some (.string (⟨#[54, 47, 56]⟩ : ByteArray)) := blk_cell HSL.out 0
      go_wp2_with (go_at_call 19; (with_reducible refine (K24.out _ (BK HB.out)).mono ?_); rintro e w_ ⟨rfl, hb_⟩; have HS2 := Lib.hid (HBx.below (HBx.later HS.out) hb_); have HB2 := Lib.hid (below_step (BK HB.out) hb_); have HSL2 := Lib.hid (blk_below HSL.out hb_); clear hb_ HS HB HSL; have HS := HS2; have HB := HB2; have HSL := HSL2; clear HS2 HB2 HSL2)
      go_roundg 6
      case measure => decide
      case rel => exact ⟨by unfold LI; simp, (HBx.cons _ _ _ HS.out).tail, BK HB.out, blk_later HSL.out⟩
    · have c_ : wr.cell? ⟨gs, 1, none⟩ = some (.string (⟨#[53, 47, 49]⟩ : ByteArray)) := blk_cell HSL.out 1
      go_wp2_with (go_at_call 19; (with_reducible refine (K25.out _ (BK HB.out)).mono ?_); rintro e w_ ⟨rfl, hb_⟩; have HS2 := Lib.hid (HBx.below (HBx.later HS.out) hb_); have HB2 := Lib.hid (below_step (BK HB.out) hb_); have HSL2 := Lib.hid (blk_below HSL.out hb_); clear hb_ HS HB HSL; have HS := HS2; have HB := HB2; have HSL := HSL2; clear HS2 HB2 HSL2)
      go_roundg 5
      case measure => decide
      case rel => exact ⟨by unfold LI; simp, (HBx.cons _ _ _ HS.out).tail, BK HB.out, blk_later HSL.out⟩
    · have c_ : wr.cell? ⟨gs, 2, none⟩ = some (.string (⟨#[45, 48]⟩ : ByteArray)) := blk_cell HSL.out 2
      go_wp2_with (go_at_call 19; (with_reducible refine (K26.out _ (BK HB.out)).mono ?_); rintro e w_ ⟨rfl, hb_⟩; have HS2 := Lib.hid (HBx.below (HBx.later HS.out) hb_); have HB2 := Lib.hid (below_step (BK HB.out) hb_); have HSL2 := Lib.hid (blk_below HSL.out hb_); clear hb_ HS HB HSL; have HS := HS2; have HB := HB2; have HSL := HSL2; clear HS2 HB2 HSL2)
      go_roundg 4
      case measure => decide
      case rel => exact ⟨by unfold LI; simp, (HBx.cons _ _ _ HS.out).tail, BK HB.out, blk_later HSL.out⟩
    · have c_ : wr.cell? ⟨gs, 3, none⟩ = some (.string (⟨#[]⟩ : ByteArray)) := blk_cell HSL.out 3
      go_wp2_with (go_at_call 19; (with_reducible refine (K27.out _ (BK HB.out)).mono ?_); rintro e w_ ⟨rfl, hb_⟩; have HS2 := Lib.hid (HBx.below (HBx.later HS.out) hb_); have HB2 := Lib.hid (below_step (BK HB.out) hb_); have HSL2 := Lib.hid (blk_below HSL.out hb_); clear hb_ HS HB HSL; have HS := HS2; have HB := HB2; have HSL := HSL2; clear HS2 HB2 HSL2)
      go_roundg 3
      case measure => decide
      case rel => exact ⟨by unfold LI; simp, (HBx.cons _ _ _ HS.out).tail, BK HB.out, blk_later HSL.out⟩
    · have c_ : wr.cell? ⟨gs, 4, none⟩ = some (.string (⟨#[49, 47, 48]⟩ : ByteArray)) := blk_cell HSL.out 4
      go_wp2_with (go_at_call 19; (with_reducible refine (K28.out _ (BK HB.out)).mono ?_); rintro e w_ ⟨rfl, hb_⟩; have HS2 := Lib.hid (HBx.below (HBx.later HS.out) hb_); have HB2 := Lib.hid (below_step (BK HB.out) hb_); have HSL2 := Lib.hid (blk_below HSL.out hb_); clear hb_ HS HB HSL; have HS := HS2; have HB := HB2; have HSL := HSL2; clear HS2 HB2 HSL2)
      go_roundg 2
      case measure => decide
      case rel => exact ⟨by unfold LI; simp, (HBx.cons _ _ _ HS.out).tail, BK HB.out, blk_later HSL.out⟩
    · have c_ : wr.cell? ⟨gs, 5, none⟩ = some (.string (⟨#[47, 50]⟩ : ByteArray)) := blk_cell HSL.out 5
      go_wp2_with (go_at_call 19; (with_reducible refine (K29.out _ (BK HB.out)).mono ?_); rintro e w_ ⟨rfl, hb_⟩; have HS2 := Lib.hid (HBx.below (HBx.later HS.out) hb_); have HB2 := Lib.hid (below_step (BK HB.out) hb_); have HSL2 := Lib.hid (blk_below HSL.out hb_); clear hb_ HS HB HSL; have HS := HS2; have HB := HB2; have HSL := HSL2; clear HS2 HB2 HSL2)
      go_roundg 1
      case measure => decide
      case rel => exact ⟨by unfold LI; simp, (HBx.cons _ _ _ HS.out).tail, BK HB.out, blk_later HSL.out⟩
    · have c_ : wr.cell? ⟨gs, 6, none⟩ = some (.string (⟨#[48, 49]⟩ : ByteArray)) := blk_cell HSL.out 6
      go_wp2_with (go_at_call 19; (with_reducible refine (K30.out _ (BK HB.out)).mono ?_); rintro e w_ ⟨rfl, hb_⟩; have HS2 := Lib.hid (HBx.below (HBx.later HS.out) hb_); have HB2 := Lib.hid (below_step (BK HB.out) hb_); have HSL2 := Lib.hid (blk_below HSL.out hb_); clear hb_ HS HB HSL; have HS := HS2; have HB := HB2; have HSL := HSL2; clear HS2 HB2 HSL2)
      go_roundg 0
      case measure => decide
      case rel => exact ⟨by unfold LI; simp, (HBx.cons _ _ _ HS.out).tail, BK HB.out, blk_later HSL.out⟩
    · obtain ⟨y01, y02, y03⟩ := (HS.out.get (g := g1) (x := false) (y := (⟨#[49]⟩ : ByteArray)) (z := (⟨#[50]⟩ : ByteArray)) (by simp)).cells
      go_wp2_with (first
      | (go_at_call 21; (with_reducible refine (K31.out _ (BK HB.out)).mono ?_); rintro e w_ ⟨rfl, hb_⟩; have HS2 := Lib.hid (HBx.below (HBx.later HS.out) hb_); have HB2 := Lib.hid (below_step (BK HB.out) hb_); clear hb_ HS HB; have HS := HS2; have HB := HB2; clear HS2 HB2)
      | (go_at_call 21; (with_reducible refine (K32.out _ (BK HB.out)).mono ?_); rintro e w_ ⟨rfl, hb_⟩; have HS2 := Lib.hid (HBx.below (HBx.later HS.out) hb_); have HB2 := Lib.hid (below_step (BK HB.out) hb_); clear hb_ HS HB; have HS := HS2; have HB := HB2; clear HS2 HB2)
      | (go_at_call 35; (with_reducible refine (K33.out _ (BK HB.out)).mono ?_); rintro e w_ ⟨rfl, hb_⟩; have HS2 := Lib.hid (HBx.below (HBx.later HS.out) hb_); have HB2 := Lib.hid (below_step (BK HB.out) hb_); clear hb_ HS HB; have HS := HS2; have HB := HB2; clear HS2 HB2)
      | (go_at_call 21; (with_reducible refine (K34.out _ (BK HB.out)).mono ?_); rintro e w_ ⟨rfl, hb_⟩; have HS2 := Lib.hid (HBx.below (HBx.later HS.out) hb_); have HB2 := Lib.hid (below_step (BK HB.out) hb_); clear hb_ HS HB; have HS := HS2; have HB := HB2; clear HS2 HB2))
      go_ret
      exact ⟨rfl, HB.out⟩
end Go.Proofs.YthpomhboogcigaaGreatDoor
end
section -- RatHeadF
namespace Go.Proofs.YthpomhboogcigaaGreatDoor
open Go.RowKit Go.Proofs.YthpomhboogcigaaGreatDoorW.PrintWords Go.Proofs.YthpomhboogcigaaGreatDoorW.PrintMore Go.Proofs.YthpomhboogcigaaGreatDoorW.PrintLast
set_option linter.unusedVariables false
def observatorylaw04_head.f : Option Bool := some true
theorem observatorylaw04_head.calls (r : Bool) (w : World) (hL : Laid w) (h : observatorylaw04_head.f = some r) :
    Calls Tryz.prog 11 #[] w fun e w' => e = .returned (.bool r) ∧ Below w.heap.size w w' := by
  unfold observatorylaw04_head.f at h
  injection h with h
  subst h
  exact rhead_calls w hL
end Go.Proofs.YthpomhboogcigaaGreatDoor
end
section -- XLTx0
/- Written by a program of this session (xprint.sh), out of the translation: Lean functions that tell what Go functions of the program tell, and the proofs that they do, over the given callees; no condition but what each theorem states. -/
namespace Go.Proofs.YthpomhboogcigaaGreatDoor.XLTx
open Go.RowKit Go.Proofs.YthpomhboogcigaaGreatDoorW.PrintWords Go.Proofs.YthpomhboogcigaaGreatDoorW.PrintLast Go.Proofs.YthpomhboogcigaaGreatDoorW.PrintMore
attribute [local go_sem] max2_int min2_int max_two min_two max_three min_three max_four min_four   -- for this text's walks alone
set_option linter.unusedVariables false
set_option linter.unusedSimpArgs false
def errW : Option Int → Value
  | none => .nilIface
  | some c => .iface 0 (.int .i64 c)
theorem errW_none : errW none = .nilIface := rfl
theorem errW_some (c : Int) : errW (some c) = .iface 0 (.int .i64 c) := rfl
structure S24 where
  f0 : Bool
  f1 : ByteArray
  f2 : ByteArray
def z24 : S24 := ⟨false, (⟨#[]⟩ : ByteArray), (⟨#[]⟩ : ByteArray)⟩
def k24 : Kd S24 := Kd.iso (Kd.pair Kd.bool (Kd.pair Kd.string Kd.string)) (fun x : S24 => (x.f0, x.f1, x.f2))
theorem k24_open {w : World} {x : S24} {cs : List Value} (h : k24.K w x cs) : cs = [.bool x.f0, .string x.f1, .string x.f2] := by
  obtain ⟨_, _, rfl, rfl, ⟨_, _, rfl, rfl, rfl⟩⟩ := h
  exact rfl
theorem k24_mkM (w : World) (base : Nat) (ok : Nat → Prop) (x : S24)  : k24.M w base ok x [.bool x.f0, .string x.f1, .string x.f2] := ⟨[.bool x.f0], [.string x.f1, .string x.f2], rfl, rfl, ⟨[.string x.f1], [.string x.f2], rfl, rfl, rfl⟩⟩
def rd_T24 (xs : List S24) (i : Int) : S24 := xs.getD i.toNat z24
theorem at_T24 {w : World} {A : Option Addr} {n : Nat} {xs : List S24} (h : Kd.C k24 w A n xs) (i : Int) (h0 : 0 ≤ i) (h1 : i < n) : ∃ ad , A = some ad ∧ w.cell? (ad.add (i.toNat * 3)) = some (.bool (rd_T24 xs i).f0) ∧ w.cell? ⟨(ad.add (i.toNat * 3)).block, (ad.add (i.toNat * 3)).off + 1, none⟩ = some (.string (rd_T24 xs i).f1) ∧ w.cell? ⟨(ad.add (i.toNat * 3)).block, (ad.add (i.toNat * 3)).off + 2, none⟩ = some (.string (rd_T24 xs i).f2) := by
  obtain ⟨ad, c, e, _, hK, hc0⟩ := Kd.C_get h z24 i h0 h1
  have hc : ∀ j u, c[j]? = some u → w.cell? (ad.add (i.toNat * 3 + j)) = some u := hc0
  obtain rfl := k24_open hK
  exact ⟨ad, e, hc 0 _ rfl, by rw [← add_field _ _ 1 (by omega)]; exact hc 1 _ rfl, by rw [← add_field _ _ 2 (by omega)]; exact hc 2 _ rfl⟩
end Go.Proofs.YthpomhboogcigaaGreatDoor.XLTx
end
section -- XLTx1
/- Written by a program of this session (xprint.sh), out of the translation: Lean functions that tell what Go functions of the program tell, and the proofs that they do, over the given callees; no condition but what each theorem states. -/
namespace Go.Proofs.YthpomhboogcigaaGreatDoor.XLTx
open Go.RowKit Go.Proofs.YthpomhboogcigaaGreatDoorW.PrintWords Go.Proofs.YthpomhboogcigaaGreatDoorW.PrintLast Go.Proofs.YthpomhboogcigaaGreatDoorW.PrintMore
attribute [local go_sem] max2_int min2_int max_two min_two max_three min_three max_four min_four   -- for this text's walks alone
set_option linter.unusedVariables false
set_option linter.unusedSimpArgs false
theorem eqA24 (d : Nat) (w : World) (x0 y0 : Bool) (x1 y1 : ByteArray) (x2 y2 : ByteArray) :
    (Op.equalIn (d + 2) 24 (.agg #[.bool x0, .string x1, .string x2]) (.agg #[.bool y0, .string y1, .string y2])).run Tryz.prog w = .ok (x0 == y0 && (x1.toList == y1.toList && (x2.toList == y2.toList))) w := by
  refine eqA_of Tryz.underlying24 (by kernel_rfl) ?_
  refine eqf_cons (by rfl) (by go_simp; rfl) (by go_simp; rfl) (by go_simp) ?_
  refine eqf_cons (by rfl) (by go_simp; rfl) (by go_simp; rfl) (by go_simp) ?_
  exact eqf_last (by rfl) (by go_simp; rfl) (by go_simp; rfl) (by go_simp)
end Go.Proofs.YthpomhboogcigaaGreatDoor.XLTx
end
section -- XLTx2
/- Written by a program of this session (xprint.sh), out of the translation: Lean functions that tell what Go functions of the program tell, and the proofs that they do, over the given callees; no condition but what each theorem states. -/
namespace Go.Proofs.YthpomhboogcigaaGreatDoor.XLTx
open Go.RowKit Go.Proofs.YthpomhboogcigaaGreatDoorW.PrintWords Go.Proofs.YthpomhboogcigaaGreatDoorW.PrintLast Go.Proofs.YthpomhboogcigaaGreatDoorW.PrintMore
attribute [local go_sem] max2_int min2_int max_two min_two max_three min_three max_four min_four   -- for this text's walks alone
set_option linter.unusedVariables false
set_option linter.unusedSimpArgs false
def observatoryref04_Few.l0 : Nat → Int → List (S24) → Int → Option (Bool)
  | 0, _, _, _ => none
  | k + 1, x0, x1, x5 => if x5 < (x1.length : Int) then (if 0 ≤ x5 then (if (((rd_T24 x1 x5).f1).size : Int) > x0 then (some false) else (if (((rd_T24 x1 x5).f2).size : Int) > x0 then (some false) else (observatoryref04_Few.l0 k x0 x1 (wrap64 (x5 + 1))))) else (none)) else (some true)
def observatoryref04_Few.f (k : Nat) (a0 : Int) (l1 : List (S24)) : Option (Bool) := observatoryref04_Few.l0 k a0 l1 0
set_option maxHeartbeats 8000000 in
set_option maxRecDepth 100000 in
theorem observatoryref04_Few.calls (k : Nat) (a0 : Int) (A1 : Option Addr) (c1 : Nat) (l1 : List (S24)) (r : Bool) (w : World) (hr1 : Kd.C k24 w A1 l1.length l1) (hc1 : l1.length ≤ c1) (h : observatoryref04_Few.f k a0 l1 = some r) :
    Calls Tryz.prog 38 #[.int .i64 a0, .slice A1 l1.length c1] w fun e w' => e = .returned (.bool r) ∧ Drawn0 w w' := by
  have HR1 := Aside0.mk hr1
  have HC1 := Aside0.mk hc1
  clear hr1 hc1
  have H : (observatoryref04_Few.l0 k a0 l1 0) = some r := h
  clear h
  have H' := Aside0.mk H
  clear H
  go_enter Tryz.func38, Tryz.ntmps38
  go_wp2
  go_loopg [5] k (fun kq v5 w' => ∃ (x5_1 : Int), v5 = .int .i64 x5_1 ∧ Aside0 (observatoryref04_Few.l0 kq a0 l1 x5_1 = some r) ∧ Aside0 (kq ≤ k) ∧ Drawn0 w w')
  case atStart => exact ⟨(0), (by first | rfl | (simp; done) | (simp [*]; done)), H', ⟨Nat.le_refl _⟩, by repeat (first | exact Drawn0.refl _ | apply Drawn0.step)⟩
  case round =>
    clear H'
    try clear c1
    try clear p2
    obtain ⟨x5_1, rfl, HA, HK1, ⟨m1, rfl⟩⟩ := hrel
    cases gk with
    | zero => exact absurd HA.out (by simp [observatoryref04_Few.l0])
    | succ k1 =>
      have H := HA.out
      clear HA
      simp only [observatoryref04_Few.l0] at H
      by_cases c3 : x5_1 < (l1.length : Int)
      · rw [if_pos c3] at H
        have c3b0 : decide (x5_1 < (l1.length : Int)) = true := decide_eq_true c3
        clear c3
        by_cases c4 : 0 ≤ x5_1
        · rw [if_pos c4] at H
          have c4b0 : decide (0 ≤ x5_1) = true := decide_eq_true c4
          clear c4
          by_cases c5 : (((rd_T24 l1 x5_1).f1).size : Int) > a0
          · rw [if_pos c5] at H
            have c5b0 : decide (a0 < (((rd_T24 l1 x5_1).f1).size : Int)) = true := decide_eq_true c5
            clear c5
            obtain rfl := Option.some.inj H
            have p101 : 0 ≤ (x5_1 : Int) := of_decide_eq_true (by first | (with_reducible assumption) | assumption)
            have q101 : x5_1 < (l1.length : Int) := of_decide_eq_true (by first | (with_reducible assumption) | assumption)
            obtain ⟨ad101, e101, hx101_0, hx101_1, hx101_2⟩ := at_T24 HR1.out x5_1 p101 q101
            cases e101
            replace p101 := eq_true p101
            replace q101 := eq_true q101
            go_wp2
            go_ret
            exact ⟨by first | rfl | (simp; done) | (simp [*]; done), by repeat (first | exact Drawn0.refl _ | apply Drawn0.step)⟩
          · rw [if_neg c5] at H
            have c5b0 : decide (a0 < (((rd_T24 l1 x5_1).f1).size : Int)) = false := decide_eq_false c5
            clear c5
            by_cases c6 : (((rd_T24 l1 x5_1).f2).size : Int) > a0
            · rw [if_pos c6] at H
              have c6b0 : decide (a0 < (((rd_T24 l1 x5_1).f2).size : Int)) = true := decide_eq_true c6
              clear c6
              obtain rfl := Option.some.inj H
              have p101 : 0 ≤ (x5_1 : Int) := of_decide_eq_true (by first | (with_reducible assumption) | assumption)
              have q101 : x5_1 < (l1.length : Int) := of_decide_eq_true (by first | (with_reducible assumption) | assumption)
              obtain ⟨ad101, e101, hx101_0, hx101_1, hx101_2⟩ := at_T24 HR1.out x5_1 p101 q101
              cases e101
              replace p101 := eq_true p101
              replace q101 := eq_true q101
              have p102 : 0 ≤ (x5_1 : Int) := of_decide_eq_true (by first | (with_reducible assumption) | assumption)
              have q102 : x5_1 < (l1.length : Int) := of_decide_eq_true (by first | (with_reducible assumption) | assumption)
              obtain ⟨ad102, e102, hx102_0, hx102_1, hx102_2⟩ := at_T24 HR1.out x5_1 p102 q102
              obtain rfl : ad101 = ad102 := (by injection e102)
              replace p102 := eq_true p102
              replace q102 := eq_true q102
              go_wp2
              go_ret
              exact ⟨by first | rfl | (simp; done) | (simp [*]; done), by repeat (first | exact Drawn0.refl _ | apply Drawn0.step)⟩
            · rw [if_neg c6] at H
              have c6b0 : decide (a0 < (((rd_T24 l1 x5_1).f2).size : Int)) = false := decide_eq_false c6
              clear c6
              have H' := Aside0.mk H
              clear H
              have p101 : 0 ≤ (x5_1 : Int) := of_decide_eq_true (by first | (with_reducible assumption) | assumption)
              have q101 : x5_1 < (l1.length : Int) := of_decide_eq_true (by first | (with_reducible assumption) | assumption)
              obtain ⟨ad101, e101, hx101_0, hx101_1, hx101_2⟩ := at_T24 HR1.out x5_1 p101 q101
              cases e101
              replace p101 := eq_true p101
              replace q101 := eq_true q101
              have p102 : 0 ≤ (x5_1 : Int) := of_decide_eq_true (by first | (with_reducible assumption) | assumption)
              have q102 : x5_1 < (l1.length : Int) := of_decide_eq_true (by first | (with_reducible assumption) | assumption)
              obtain ⟨ad102, e102, hx102_0, hx102_1, hx102_2⟩ := at_T24 HR1.out x5_1 p102 q102
              obtain rfl : ad101 = ad102 := (by injection e102)
              replace p102 := eq_true p102
              replace q102 := eq_true q102
              go_wp2
              go_roundg k1
              case measure => have := HK1.out; omega
              case rel => exact ⟨(wrap64 (x5_1 + 1)), (by first | rfl | (simp; done) | (simp [*]; done)), H', ⟨by have := HK1.out; omega⟩, by repeat (first | exact Drawn0.refl _ | apply Drawn0.step)⟩
        · rw [if_neg c4] at H
          exact absurd H (by simp)
      · rw [if_neg c3] at H
        have c3b0 : decide (x5_1 < (l1.length : Int)) = false := decide_eq_false c3
        clear c3
        obtain rfl := Option.some.inj H
        go_wp2
        go_ret
        exact ⟨by first | rfl | (simp; done) | (simp [*]; done), by repeat (first | exact Drawn0.refl _ | apply Drawn0.step)⟩
def observatorylaw04_few.f (k : Nat) (l0 : List (S24)) : Option (Bool) := (observatoryref04_Few.f k 40 l0).bind fun t103 => (some t103)
set_option maxHeartbeats 8000000 in
set_option maxRecDepth 100000 in
theorem observatorylaw04_few.calls (k : Nat) (A0 : Option Addr) (c0 : Nat) (l0 : List (S24)) (r : Bool) (w : World) (hr0 : Kd.C k24 w A0 l0.length l0) (hc0 : l0.length ≤ c0) (h : observatorylaw04_few.f k l0 = some r) :
    Calls Tryz.prog 12 #[.slice A0 l0.length c0] w fun e w' => e = .returned (.bool r) ∧ Drawn0 w w' := by
  have HR0 := Aside0.mk hr0
  have HC0 := Aside0.mk hc0
  clear hr0 hc0
  have H : ((observatoryref04_Few.f k 40 l0).bind fun t103 => (some t103)) = some r := h
  clear h
  replace H := Option.bind_eq_some_iff.mp H
  obtain ⟨t103, A20, H⟩ := H
  replace H : (some t103) = some r := H
  have A2 := Aside0.mk A20
  clear A20
  obtain rfl := Option.some.inj H
  go_enter Tryz.func12, Tryz.ntmps12
  go_wp2_with (first | ((with_reducible refine gate_callee (f := 38) rfl ?_); refine goesL_ (some 4) rfl rfl Tryz.func38 (by kernel_rfl) rfl #[.int .i64 40, .slice A0 l0.length c0] rfl (by (try simp only [List.map_toArray, List.map_cons, List.map_nil]); first | done | rfl | (simp only [List.length_drop, List.length_take]; rfl)) ?_; (with_reducible refine (observatoryref04_Few.calls k 40 _ _ l0 t103 _ ?side1 ?side2 A2.out).mono ?_); (case side1 => repeat (first | exact HR0.out | (with_reducible refine Kd.C_alloc ?_ _) | (with_reducible refine Kd.C_drewN ?_ _) | (with_reducible refine Kd.C_drew ?_))); (case side2 => exact HC0.out); rintro e w' ⟨rfl, ⟨nd, rfl⟩⟩; refine ⟨_, rfl, ?_⟩))
  go_ret
  exact ⟨by first | rfl | (simp; done) | (simp [*]; done), by repeat (first | exact Drawn0.refl _ | apply Drawn0.step)⟩
end Go.Proofs.YthpomhboogcigaaGreatDoor.XLTx
end
section -- XLTx3
/- Written by a program of this session (xprint.sh), out of the translation: Lean functions that tell what Go functions of the program tell, and the proofs that they do, over the given callees; no condition but what each theorem states. -/
namespace Go.Proofs.YthpomhboogcigaaGreatDoor.XLTx
open Go.RowKit Go.Proofs.YthpomhboogcigaaGreatDoorW.PrintWords Go.Proofs.YthpomhboogcigaaGreatDoorW.PrintLast Go.Proofs.YthpomhboogcigaaGreatDoorW.PrintMore
attribute [local go_sem] max2_int min2_int max_two min_two max_three min_three max_four min_four   -- for this text's walks alone
set_option linter.unusedVariables false
set_option linter.unusedSimpArgs false
attribute [local go_sem high] eqA24
mutual
def observatorylaw04_RationalTexts.j0 : Nat → ByteArray → Bool → Bool → Bool → ByteArray → ByteArray → Bool → ByteArray → ByteArray → Option (Bool)
  | 0, _, _, _, _, _, _, _, _, _ => none
  | k + 1, x2, x7, x28, x105000, x105001, x105002, x106000, x106001, x106002 => if x28 = true then (some x7) else ((rational_Text.f x105000 x105001 x105002).bind fun bt111 => ((rational_Text.f x106000 x106001 x106002).bind fun bt113 => ((rational_Valid.f x105000 x105001 x105002).bind fun t115 => (if ((bt111.2 == 0) != t115) = true then (observatorylaw04_RationalTexts.j1 k x2 x7 bt111.1 bt111.2 bt113.1 bt113.2 true x105000 x105001 x105002 x106000 x106001 x106002) else (if bt111.2 = 0 then (observatorylaw04_RationalTexts.j1 k x2 x7 bt111.1 bt111.2 bt113.1 bt113.2 false x105000 x105001 x105002 x106000 x106001 x106002) else (if bt111.1.toList = ([] : List UInt8) then (observatorylaw04_RationalTexts.j1 k x2 x7 bt111.1 bt111.2 bt113.1 bt113.2 (bt111.2 != 1) x105000 x105001 x105002 x106000 x106001 x106002) else (observatorylaw04_RationalTexts.j1 k x2 x7 bt111.1 bt111.2 bt113.1 bt113.2 true x105000 x105001 x105002 x106000 x106001 x106002)))))))
def observatorylaw04_RationalTexts.j1 : Nat → ByteArray → Bool → ByteArray → Int → ByteArray → Int → Bool → Bool → ByteArray → ByteArray → Bool → ByteArray → ByteArray → Option (Bool)
  | 0, _, _, _, _, _, _, _, _, _, _, _, _, _ => none
  | k + 1, x2, x7, x8, x9, x10, x11, x56, x105000, x105001, x105002, x106000, x106001, x106002 => if x56 = true then (none) else (if x9 = 0 then ((rational_Parse.f x8).bind fun bt116 => (if bt116.2.2.2 = 0 then (if (!(bt116.1 == x105000) || (!(bt116.2.1.toList == x105001.toList) || (!(bt116.2.2.1.toList == x105002.toList)))) = true then (none) else (if x11 = 0 then (if ((x8.toList == x10.toList) != (x105000 == x106000 && (x105001.toList == x106001.toList && (x105002.toList == x106002.toList)))) = true then (none) else (observatorylaw04_RationalTexts.j2 k x2 x7)) else (observatorylaw04_RationalTexts.j2 k x2 x7))) else (none))) else (observatorylaw04_RationalTexts.j2 k x2 x7))
def observatorylaw04_RationalTexts.j2 : Nat → ByteArray → Bool → Option (Bool)
  | 0, _, _ => none
  | k + 1, x2, x7 => (rational_Parse.f x2).bind fun bt121 => (if bt121.2.2.2 = 0 then ((rational_Text.f bt121.1 bt121.2.1 bt121.2.2.1).bind fun bt126 => (if x7 = true then (if bt126.2 = 0 then (some (bt126.1.toList == x2.toList)) else (none)) else (none))) else (if x7 = true then (if bt121.2.2.2 = 5 then (some (!bt121.1 && (bt121.2.1.toList == ([] : List UInt8) && (bt121.2.2.1.toList == ([] : List UInt8))))) else (none)) else (none)))
end
def observatorylaw04_RationalTexts.f (k : Nat) (a0_0 : Bool) (a0_1 : ByteArray) (a0_2 : ByteArray) (a1_0 : Bool) (a1_1 : ByteArray) (a1_2 : ByteArray) (a2 : ByteArray) : Option (Bool) := (observatorylaw04_head.f).bind fun t106 => ((observatorylaw04_few.f k (([(⟨a0_0, a0_1, a0_2⟩ : S24), (⟨a1_0, a1_1, a1_2⟩ : S24)] : List (S24)))).bind fun t110 => (if t110 = true then (observatorylaw04_RationalTexts.j0 k a2 t106 (decide ((a2.size : Int) > 90)) a0_0 a0_1 a0_2 a1_0 a1_1 a1_2) else (observatorylaw04_RationalTexts.j0 k a2 t106 true a0_0 a0_1 a0_2 a1_0 a1_1 a1_2)))
set_option maxHeartbeats 8000000 in
set_option maxRecDepth 100000 in
theorem observatorylaw04_RationalTexts.calls (k : Nat) (a0_0 : Bool) (a0_1 : ByteArray) (a0_2 : ByteArray) (a1_0 : Bool) (a1_1 : ByteArray) (a1_2 : ByteArray) (a2 : ByteArray) (r : Bool) (w : World) (hL : Laid w) (h : observatorylaw04_RationalTexts.f k a0_0 a0_1 a0_2 a1_0 a1_1 a1_2 a2 = some r) :
    Calls Tryz.prog 8 #[.agg #[.bool a0_0, .string a0_1, .string a0_2], .agg #[.bool a1_0, .string a1_1, .string a1_2], .string a2] w fun e w' => e = .returned (.bool r) ∧ Below w.heap.size w w' := by
  have HLaid := Aside0.mk hL
  clear hL
  have hu24 := Tryz.underlying24
  have HB := Aside0.mk (Below.refl w.heap.size w)
  have H : ((observatorylaw04_head.f).bind fun t106 => ((observatorylaw04_few.f k (([(⟨a0_0, a0_1, a0_2⟩ : S24), (⟨a1_0, a1_1, a1_2⟩ : S24)] : List (S24)))).bind fun t110 => (if t110 = true then (observatorylaw04_RationalTexts.j0 k a2 t106 (decide ((a2.size : Int) > 90)) a0_0 a0_1 a0_2 a1_0 a1_1 a1_2) else (observatorylaw04_RationalTexts.j0 k a2 t106 true a0_0 a0_1 a0_2 a1_0 a1_1 a1_2)))) = some r := h
  clear h
  replace H := Option.bind_eq_some_iff.mp H
  obtain ⟨t106, A40, H⟩ := H
  replace H : ((observatorylaw04_few.f k (([(⟨a0_0, a0_1, a0_2⟩ : S24), (⟨a1_0, a1_1, a1_2⟩ : S24)] : List (S24)))).bind fun t110 => (if t110 = true then (observatorylaw04_RationalTexts.j0 k a2 t106 (decide ((a2.size : Int) > 90)) a0_0 a0_1 a0_2 a1_0 a1_1 a1_2) else (observatorylaw04_RationalTexts.j0 k a2 t106 true a0_0 a0_1 a0_2 a1_0 a1_1 a1_2))) = some r := H
  have A4 := Aside0.mk A40
  clear A40
  have HC5 := Aside0.mk H
  clear H
  go_enter Tryz.func8, Tryz.ntmps8
  go_upto_region 2 with (first | ((with_reducible refine gate_dst (N := 3) rfl ?_); (try (refine gate_guard (by rfl) ?_; dsimp only)); refine box_event ?hg (N := 3) ?hd (cs := #[.bool a0_0, .string a0_1, .string a0_2]) (t := 24) ?hr ?_; (case hd => rfl); (case hg => rfl); (case hr => first | (go_simp; done) | (go_simp; rfl)); intro gb104 hg w6 hbox hb; have n0_ := Aside0.mk (below_step (by repeat (first | (with_reducible first | exact HB.out | apply below_alloc | apply pw_below_drewN | apply below_drew1) | exact HB.out)) hb); have n1_ := Aside0.mk (hbox); have n2_ := Aside0.mk ((by rw [hg]; exact (below_size (by repeat (first | (with_reducible first | exact HB.out | apply below_alloc | apply pw_below_drewN | apply below_drew1) | exact HB.out))) : w.heap.size ≤ gb104)); have n3_ := Aside0.mk ((by rw [hg]; exact (below_size (by repeat (first | (with_reducible first | exact HB.out | apply below_alloc | apply pw_below_drewN | apply below_drew1) | exact HB.out))) : w.heap.size ≤ gb104)); clear HB; have HB := n0_; have BK104 := n1_; have GW104 := n2_; have GE104 := n3_; clear n0_ n1_ n2_ n3_; clear hb hbox hg) | ((with_reducible refine gate_dst (N := 4) rfl ?_); (try (refine gate_guard (by rfl) ?_; dsimp only)); refine box_event ?hg (N := 4) ?hd (cs := #[.bool a1_0, .string a1_1, .string a1_2]) (t := 24) ?hr ?_; (case hd => rfl); (case hg => rfl); (case hr => first | (go_simp; done) | (go_simp; rfl)); intro gb105 hg w7 hbox hb; have n0_ := Aside0.mk (blk_below (g := gb104) (o := .cells #[.bool a0_0, .string a0_1, .string a0_2] 24 (0, 0)) (by (with_reducible repeat (first | refine blk_drewN ?_ _ | refine blk_drew ?_ | refine blk_alloc ?_ _)); exact BK104.out) hb); have n1_ := Aside0.mk (below_step (by repeat (first | (with_reducible first | exact HB.out | apply below_alloc | apply pw_below_drewN | apply below_drew1 | refine below_set ?_ GE104.out) | exact HB.out)) hb); have n2_ := Aside0.mk (hbox); have n3_ := Aside0.mk ((by rw [hg]; exact (below_size (by repeat (first | (with_reducible first | exact HB.out | apply below_alloc | apply pw_below_drewN | apply below_drew1 | refine below_set ?_ GE104.out) | exact HB.out))) : w.heap.size ≤ gb105)); have n4_ := Aside0.mk ((by rw [hg]; exact (below_size (by repeat (first | (with_reducible first | exact HB.out | apply below_alloc | apply pw_below_drewN | apply below_drew1 | refine below_set ?_ GE104.out) | exact HB.out))) : w.heap.size ≤ gb105)); have n5_ := Aside0.mk ((by rw [hg]; exact Nat.ne_of_lt (blk_lt (g := gb104) (o := .cells #[.bool a0_0, .string a0_1, .string a0_2] 24 (0, 0)) (by (with_reducible repeat (first | refine blk_drewN ?_ _ | refine blk_drew ?_ | refine blk_alloc ?_ _)); exact BK104.out)) : gb104 ≠ gb105)); have n6_ := Aside0.mk ((by rw [hg]; exact Nat.ne_of_gt (blk_lt (g := gb104) (o := .cells #[.bool a0_0, .string a0_1, .string a0_2] 24 (0, 0)) (by (with_reducible repeat (first | refine blk_drewN ?_ _ | refine blk_drew ?_ | refine blk_alloc ?_ _)); exact BK104.out)) : gb105 ≠ gb104)); clear BK104; clear HB; have BK104 := n0_; have HB := n1_; have BK105 := n2_; have GW105 := n3_; have GE105 := n4_; have NB104_105 := n5_; have NB105_104 := n6_; clear n0_ n1_ n2_ n3_ n4_ n5_ n6_; clear hb hbox hg) | ((with_reducible refine gate_callee (f := 11) rfl ?_); refine goesL_ (some 18) rfl rfl Tryz.func11 (by kernel_rfl) rfl #[] rfl (by (try simp only [List.map_toArray, List.map_cons, List.map_nil]); first | done | rfl | (simp only [List.length_drop, List.length_take]; rfl)) ?_; (with_reducible refine (observatorylaw04_head.calls  t106 _ ?side1 A4.out).mono ?_); (case side1 => exact Laid.below HLaid.out (by repeat (first | (with_reducible first | exact HB.out | apply below_alloc | apply pw_below_drewN | apply below_drew1 | refine below_set ?_ GE104.out | refine below_set ?_ GE105.out) | exact HB.out))); rintro e w8 ⟨rfl, hb⟩; refine ⟨_, rfl, ?_⟩; have n0_ := Aside0.mk (blk_below (g := gb104) (o := .cells #[.bool a0_0, .string a0_1, .string a0_2] 24 (0, 0)) (by (with_reducible repeat (first | refine blk_drewN ?_ _ | refine blk_drew ?_ | refine blk_alloc ?_ _)); exact BK104.out) hb); have n1_ := Aside0.mk (blk_below (g := gb105) (o := .cells #[.bool a1_0, .string a1_1, .string a1_2] 24 (0, 0)) (by (with_reducible repeat (first | refine blk_drewN ?_ _ | refine blk_drew ?_ | refine blk_alloc ?_ _)); exact BK105.out) hb); have n2_ := Aside0.mk (below_step (by repeat (first | (with_reducible first | exact HB.out | apply below_alloc | apply pw_below_drewN | apply below_drew1 | refine below_set ?_ GE104.out | refine below_set ?_ GE105.out) | exact HB.out)) hb); clear BK104; clear BK105; clear HB; have BK104 := n0_; have BK105 := n1_; have HB := n2_; clear n0_ n1_ n2_; (try clear hb); (try clear hb2); (try clear hk); (try clear hi)))
  (try simp only [Act.put, List.setIfInBounds_toArray, List.set_cons_zero, List.set_cons_succ])
  go_cut [28] (fun v28 wc => ∃ (kq : Nat) (x28_4 : Bool), v28 = .bool x28_4 ∧ Aside0 (observatorylaw04_RationalTexts.j0 kq a2 t106 x28_4 a0_0 a0_1 a0_2 a1_0 a1_1 a1_2 = some r) ∧ Aside0 (kq ≤ k) ∧ Aside0 (wc.heap[gb104]? = some (.cells #[.bool a0_0, .string a0_1, .string a0_2] 24 (0, 0))) ∧ Aside0 (wc.heap[gb105]? = some (.cells #[.bool a1_0, .string a1_1, .string a1_2] 24 (0, 0))) ∧ Aside0 (Below w.heap.size w wc))
  case first =>
    have H := HC5.out
    clear HC5
    obtain ⟨y107, hy107⟩ : ∃ y_ : List (S24), y_ = (([(⟨a0_0, a0_1, a0_2⟩ : S24), (⟨a1_0, a1_1, a1_2⟩ : S24)] : List (S24))) := ⟨_, rfl⟩
    replace H : ((observatorylaw04_few.f k y107).bind fun t110 => (if t110 = true then (observatorylaw04_RationalTexts.j0 k a2 t106 (decide ((a2.size : Int) > 90)) a0_0 a0_1 a0_2 a1_0 a1_1 a1_2) else (observatorylaw04_RationalTexts.j0 k a2 t106 true a0_0 a0_1 a0_2 a1_0 a1_1 a1_2))) = some r := by first | (rw [hy107]; with_reducible exact H) | (have H2_ := (Option.bind_some _ _).symm.trans H; rw [hy107]; with_reducible exact H2_) | (have H2_ := (Option.bind_some _ _).symm.trans H; with_reducible exact H2_) | with_reducible exact H | (rw [hy107]; exact H) | exact H
    have Ny107 := Aside0.mk hy107
    clear hy107
    replace H := Option.bind_eq_some_iff.mp H
    obtain ⟨t110, A90, H⟩ := H
    replace H : (if t110 = true then (observatorylaw04_RationalTexts.j0 k a2 t106 (decide ((a2.size : Int) > 90)) a0_0 a0_1 a0_2 a1_0 a1_1 a1_2) else (observatorylaw04_RationalTexts.j0 k a2 t106 true a0_0 a0_1 a0_2 a1_0 a1_1 a1_2)) = some r := H
    have A9 := Aside0.mk A90
    clear A90
    by_cases c10 : t110 = true
    · subst c10
      rw [if_pos rfl] at H
      have H' := Aside0.mk H
      clear H
      have hnb11 := NB104_105.out
      have hnc11 := NB105_104.out
      have hcz12_0 : w8.cell? ⟨gb104, 0, none⟩ = some (.bool a0_0) := (blk_cell BK104.out 0).trans rfl
      have hcz12_1 : w8.cell? ⟨gb104, 1, none⟩ = some (.string a0_1) := (blk_cell BK104.out 1).trans rfl
      have hcz12_2 : w8.cell? ⟨gb104, 2, none⟩ = some (.string a0_2) := (blk_cell BK104.out 2).trans rfl
      have hfz12_0 := blk_frozen BK104.out 0
      have hfz12_1 := blk_frozen BK104.out 1
      have hfz12_2 := blk_frozen BK104.out 2
      have hcz13_0 : w8.cell? ⟨gb105, 0, none⟩ = some (.bool a1_0) := (blk_cell BK105.out 0).trans rfl
      have hcz13_1 : w8.cell? ⟨gb105, 1, none⟩ = some (.string a1_1) := (blk_cell BK105.out 1).trans rfl
      have hcz13_2 : w8.cell? ⟨gb105, 2, none⟩ = some (.string a1_2) := (blk_cell BK105.out 2).trans rfl
      have hfz13_0 := blk_frozen BK105.out 0
      have hfz13_1 := blk_frozen BK105.out 1
      have hfz13_2 := blk_frozen BK105.out 2
      go_wp2_with (first | ((with_reducible refine gate_dst (N := 21) rfl ?_); (try (refine gate_guard (by rfl) ?_; dsimp only)); refine Kd.R_lit k24 _ 24 ?hg (N := 21) ?hd (xs := ([(⟨a0_0, a0_1, a0_2⟩ : S24), (⟨a1_0, a1_1, a1_2⟩ : S24)] : List (S24))) (inner := [.bool a0_0, .string a0_1, .string a0_2, .bool a1_0, .string a1_1, .string a1_2]) (ok := fun _ => True) (okp := fun _ => True) ?hr ?hp (fun _ hk => hk) trivial (Below.refl _ _) (Nat.le_refl _) (by simp) ?_; (case hd => rfl); (case hg => rfl); (case hr => first | (go_simp; done) | (go_simp; rfl)); (case hp => exact (Reps.c3 (show Kd.M k24 _ _ _ (⟨a0_0, a0_1, a0_2⟩ : S24) [.bool a0_0, .string a0_1, .string a0_2] from (k24_mkM _ _ _ (⟨a0_0, a0_1, a0_2⟩ : S24) )) (Reps.c3 (show Kd.M k24 _ _ _ (⟨a1_0, a1_1, a1_2⟩ : S24) [.bool a1_0, .string a1_1, .string a1_2] from (k24_mkM _ _ _ (⟨a1_0, a1_1, a1_2⟩ : S24) )) (Reps.none _ _)))); intro v108 w14 ho15 hb hg_ hnew_; clear hg_ hnew_; (first | rw [← Ny107.out] at ho15 | (simp only [Int.reduceToNat] at ho15; rw [← Ny107.out] at ho15)); have n0_ := Aside0.mk (Kd.R_lower (Kd.R_newB (Kd.R_newB ho15 (g := gb104) (o := .cells #[.bool a0_0, .string a0_1, .string a0_2] 24 (0, 0)) (by (with_reducible repeat (first | refine blk_drewN ?_ _ | refine blk_drew ?_ | refine blk_alloc ?_ _)); exact BK104.out)) (g := gb105) (o := .cells #[.bool a1_0, .string a1_1, .string a1_2] 24 (0, 0)) (by (with_reducible repeat (first | refine blk_drewN ?_ _ | refine blk_drew ?_ | refine blk_alloc ?_ _)); exact BK105.out)) (below_size (by repeat (first | (with_reducible first | exact HB.out | apply below_alloc | apply pw_below_drewN | apply below_drew1 | refine below_set ?_ GE104.out | refine below_set ?_ GE105.out) | exact HB.out)))); have n1_ := Aside0.mk (blk_below (g := gb104) (o := .cells #[.bool a0_0, .string a0_1, .string a0_2] 24 (0, 0)) (by (with_reducible repeat (first | refine blk_drewN ?_ _ | refine blk_drew ?_ | refine blk_alloc ?_ _)); exact BK104.out) hb); have n2_ := Aside0.mk (blk_below (g := gb105) (o := .cells #[.bool a1_0, .string a1_1, .string a1_2] 24 (0, 0)) (by (with_reducible repeat (first | refine blk_drewN ?_ _ | refine blk_drew ?_ | refine blk_alloc ?_ _)); exact BK105.out) hb); have n3_ := Aside0.mk (below_step (by repeat (first | (with_reducible first | exact HB.out | apply below_alloc | apply pw_below_drewN | apply below_drew1 | refine below_set ?_ GE104.out | refine below_set ?_ GE105.out) | exact HB.out)) hb); clear BK104; clear BK105; clear HB; have HO109 := n0_; have BK104 := n1_; have BK105 := n2_; have HB := n3_; clear n0_ n1_ n2_ n3_; clear hb ho15; obtain ⟨Ao16, co16, eo16⟩ := Kd.R_slice HO109.out; subst eo16) | ((with_reducible refine gate_callee (f := 12) rfl ?_); refine goesL_ (some 22) rfl rfl Tryz.func12 (by kernel_rfl) rfl #[.slice Ao16 y107.length co16] rfl (by (try simp only [List.map_toArray, List.map_cons, List.map_nil]); first | done | rfl | (simp only [List.length_drop, List.length_take]; rfl)) ?_; (with_reducible refine (observatorylaw04_few.calls k _ _ y107 true _ ?side1 ?side2 A9.out).mono ?_); (case side1 => repeat (first | exact (Kd.R_reads' HO109.out).2.2 | (with_reducible refine Kd.C_alloc ?_ _) | (with_reducible refine Kd.C_drewN ?_ _) | (with_reducible refine Kd.C_drew ?_))); (case side2 => exact (Kd.R_reads' HO109.out).2.1); rintro e w' ⟨rfl, ⟨nd, rfl⟩⟩; refine ⟨_, rfl, ?_⟩))
      go_meet
      case rel => exact ⟨_, (decide ((a2.size : Int) > 90)), (by first | rfl | (simp; done) | (simp [*]; done)), H', ⟨by first | omega | exact Nat.le_refl _⟩, ⟨by (with_reducible repeat (first | refine blk_drewN ?_ _ | refine blk_drew ?_ | refine blk_alloc ?_ _)); exact BK104.out⟩, ⟨by (with_reducible repeat (first | refine blk_drewN ?_ _ | refine blk_drew ?_ | refine blk_alloc ?_ _)); exact BK105.out⟩, ⟨by repeat (first | (with_reducible first | exact HB.out | apply below_alloc | apply pw_below_drewN | apply below_drew1 | refine below_set ?_ GE104.out | refine below_set ?_ GE105.out) | exact HB.out)⟩⟩
    · replace c10 := Bool.eq_false_iff.mpr c10
      subst c10
      have H1 : (observatorylaw04_RationalTexts.j0 k a2 t106 true a0_0 a0_1 a0_2 a1_0 a1_1 a1_2) = some r := by rw [if_neg (show ¬ (false = true) by decide)] at H; exact H
      clear H
      have H := H1
      clear H1
      have H' := Aside0.mk H
      clear H
      have hnb17 := NB104_105.out
      have hnc17 := NB105_104.out
      have hcz18_0 : w8.cell? ⟨gb104, 0, none⟩ = some (.bool a0_0) := (blk_cell BK104.out 0).trans rfl
      have hcz18_1 : w8.cell? ⟨gb104, 1, none⟩ = some (.string a0_1) := (blk_cell BK104.out 1).trans rfl
      have hcz18_2 : w8.cell? ⟨gb104, 2, none⟩ = some (.string a0_2) := (blk_cell BK104.out 2).trans rfl
      have hfz18_0 := blk_frozen BK104.out 0
      have hfz18_1 := blk_frozen BK104.out 1
      have hfz18_2 := blk_frozen BK104.out 2
      have hcz19_0 : w8.cell? ⟨gb105, 0, none⟩ = some (.bool a1_0) := (blk_cell BK105.out 0).trans rfl
      have hcz19_1 : w8.cell? ⟨gb105, 1, none⟩ = some (.string a1_1) := (blk_cell BK105.out 1).trans rfl
      have hcz19_2 : w8.cell? ⟨gb105, 2, none⟩ = some (.string a1_2) := (blk_cell BK105.out 2).trans rfl
      have hfz19_0 := blk_frozen BK105.out 0
      have hfz19_1 := blk_frozen BK105.out 1
      have hfz19_2 := blk_frozen BK105.out 2
      go_wp2_with (first | ((with_reducible refine gate_dst (N := 21) rfl ?_); (try (refine gate_guard (by rfl) ?_; dsimp only)); refine Kd.R_lit k24 _ 24 ?hg (N := 21) ?hd (xs := ([(⟨a0_0, a0_1, a0_2⟩ : S24), (⟨a1_0, a1_1, a1_2⟩ : S24)] : List (S24))) (inner := [.bool a0_0, .string a0_1, .string a0_2, .bool a1_0, .string a1_1, .string a1_2]) (ok := fun _ => True) (okp := fun _ => True) ?hr ?hp (fun _ hk => hk) trivial (Below.refl _ _) (Nat.le_refl _) (by simp) ?_; (case hd => rfl); (case hg => rfl); (case hr => first | (go_simp; done) | (go_simp; rfl)); (case hp => exact (Reps.c3 (show Kd.M k24 _ _ _ (⟨a0_0, a0_1, a0_2⟩ : S24) [.bool a0_0, .string a0_1, .string a0_2] from (k24_mkM _ _ _ (⟨a0_0, a0_1, a0_2⟩ : S24) )) (Reps.c3 (show Kd.M k24 _ _ _ (⟨a1_0, a1_1, a1_2⟩ : S24) [.bool a1_0, .string a1_1, .string a1_2] from (k24_mkM _ _ _ (⟨a1_0, a1_1, a1_2⟩ : S24) )) (Reps.none _ _)))); intro v108 w20 ho21 hb hg_ hnew_; clear hg_ hnew_; (first | rw [← Ny107.out] at ho21 | (simp only [Int.reduceToNat] at ho21; rw [← Ny107.out] at ho21)); have n0_ := Aside0.mk (Kd.R_lower (Kd.R_newB (Kd.R_newB ho21 (g := gb104) (o := .cells #[.bool a0_0, .string a0_1, .string a0_2] 24 (0, 0)) (by (with_reducible repeat (first | refine blk_drewN ?_ _ | refine blk_drew ?_ | refine blk_alloc ?_ _)); exact BK104.out)) (g := gb105) (o := .cells #[.bool a1_0, .string a1_1, .string a1_2] 24 (0, 0)) (by (with_reducible repeat (first | refine blk_drewN ?_ _ | refine blk_drew ?_ | refine blk_alloc ?_ _)); exact BK105.out)) (below_size (by repeat (first | (with_reducible first | exact HB.out | apply below_alloc | apply pw_below_drewN | apply below_drew1 | refine below_set ?_ GE104.out | refine below_set ?_ GE105.out) | exact HB.out)))); have n1_ := Aside0.mk (blk_below (g := gb104) (o := .cells #[.bool a0_0, .string a0_1, .string a0_2] 24 (0, 0)) (by (with_reducible repeat (first | refine blk_drewN ?_ _ | refine blk_drew ?_ | refine blk_alloc ?_ _)); exact BK104.out) hb); have n2_ := Aside0.mk (blk_below (g := gb105) (o := .cells #[.bool a1_0, .string a1_1, .string a1_2] 24 (0, 0)) (by (with_reducible repeat (first | refine blk_drewN ?_ _ | refine blk_drew ?_ | refine blk_alloc ?_ _)); exact BK105.out) hb); have n3_ := Aside0.mk (below_step (by repeat (first | (with_reducible first | exact HB.out | apply below_alloc | apply pw_below_drewN | apply below_drew1 | refine below_set ?_ GE104.out | refine below_set ?_ GE105.out) | exact HB.out)) hb); clear BK104; clear BK105; clear HB; have HO109 := n0_; have BK104 := n1_; have BK105 := n2_; have HB := n3_; clear n0_ n1_ n2_ n3_; clear hb ho21; obtain ⟨Ao22, co22, eo22⟩ := Kd.R_slice HO109.out; subst eo22) | ((with_reducible refine gate_callee (f := 12) rfl ?_); refine goesL_ (some 22) rfl rfl Tryz.func12 (by kernel_rfl) rfl #[.slice Ao22 y107.length co22] rfl (by (try simp only [List.map_toArray, List.map_cons, List.map_nil]); first | done | rfl | (simp only [List.length_drop, List.length_take]; rfl)) ?_; (with_reducible refine (observatorylaw04_few.calls k _ _ y107 false _ ?side1 ?side2 A9.out).mono ?_); (case side1 => repeat (first | exact (Kd.R_reads' HO109.out).2.2 | (with_reducible refine Kd.C_alloc ?_ _) | (with_reducible refine Kd.C_drewN ?_ _) | (with_reducible refine Kd.C_drew ?_))); (case side2 => exact (Kd.R_reads' HO109.out).2.1); rintro e w' ⟨rfl, ⟨nd, rfl⟩⟩; refine ⟨_, rfl, ?_⟩))
      go_meet
      case rel => exact ⟨_, (true), (by first | rfl | (simp; done) | (simp [*]; done)), H', ⟨by first | omega | exact Nat.le_refl _⟩, ⟨by (with_reducible repeat (first | refine blk_drewN ?_ _ | refine blk_drew ?_ | refine blk_alloc ?_ _)); exact BK104.out⟩, ⟨by (with_reducible repeat (first | refine blk_drewN ?_ _ | refine blk_drew ?_ | refine blk_alloc ?_ _)); exact BK105.out⟩, ⟨by repeat (first | (with_reducible first | exact HB.out | apply below_alloc | apply pw_below_drewN | apply below_drew1 | refine below_set ?_ GE104.out | refine below_set ?_ GE105.out) | exact HB.out)⟩⟩
  case rest =>
    clear HC5
    try clear c1
    try clear p2
    try clear c3
    try clear c8
    try clear c10
    try clear c11
    try clear c12
    try clear c17
    try clear hcz12_0
    try clear hcz12_1
    try clear hcz12_2
    try clear hcz13_0
    try clear hcz13_1
    try clear hcz13_2
    try clear hcz18_0
    try clear hcz18_1
    try clear hcz18_2
    try clear hcz19_0
    try clear hcz19_1
    try clear hcz19_2
    try clear hfz12_0
    try clear hfz12_1
    try clear hfz12_2
    try clear hfz13_0
    try clear hfz13_1
    try clear hfz13_2
    try clear hfz18_0
    try clear hfz18_1
    try clear hfz18_2
    try clear hfz19_0
    try clear hfz19_1
    try clear hfz19_2
    obtain ⟨kq, x28_4, rfl, HA, HJ4, BK104, BK105, HB⟩ := hcut
    cases kq with
    | zero => exact absurd HA.out (by simp [observatorylaw04_RationalTexts.j0])
    | succ kj4 =>
      have H := HA.out
      clear HA
      simp only [observatorylaw04_RationalTexts.j0] at H
      by_cases c23 : x28_4 = true
      · subst c23
        rw [if_pos rfl] at H
        obtain rfl := Option.some.inj H
        go_wp2
        go_ret
        exact ⟨by first | rfl | (simp [errW_none, errW_some] <;> rfl) | (simp [*, errW_none, errW_some] <;> rfl), by repeat (first | (with_reducible first | exact HB.out | apply below_alloc | apply pw_below_drewN | apply below_drew1 | refine below_set ?_ GE104.out | refine below_set ?_ GE105.out) | exact HB.out)⟩
      · replace c23 := Bool.eq_false_iff.mpr c23
        subst c23
        have H1 : ((rational_Text.f a0_0 a0_1 a0_2).bind fun bt111 => ((rational_Text.f a1_0 a1_1 a1_2).bind fun bt113 => ((rational_Valid.f a0_0 a0_1 a0_2).bind fun t115 => (if ((bt111.2 == 0) != t115) = true then (observatorylaw04_RationalTexts.j1 kj4 a2 t106 bt111.1 bt111.2 bt113.1 bt113.2 true a0_0 a0_1 a0_2 a1_0 a1_1 a1_2) else (if bt111.2 = 0 then (observatorylaw04_RationalTexts.j1 kj4 a2 t106 bt111.1 bt111.2 bt113.1 bt113.2 false a0_0 a0_1 a0_2 a1_0 a1_1 a1_2) else (if bt111.1.toList = ([] : List UInt8) then (observatorylaw04_RationalTexts.j1 kj4 a2 t106 bt111.1 bt111.2 bt113.1 bt113.2 (bt111.2 != 1) a0_0 a0_1 a0_2 a1_0 a1_1 a1_2) else (observatorylaw04_RationalTexts.j1 kj4 a2 t106 bt111.1 bt111.2 bt113.1 bt113.2 true a0_0 a0_1 a0_2 a1_0 a1_1 a1_2))))))) = some r := by rw [if_neg (show ¬ (false = true) by decide)] at H; exact H
        clear H
        have H := H1
        clear H1
        replace H := Option.bind_eq_some_iff.mp H
        obtain ⟨⟨t111, t112⟩, A240, H⟩ := H
        replace H : ((rational_Text.f a1_0 a1_1 a1_2).bind fun bt113 => ((rational_Valid.f a0_0 a0_1 a0_2).bind fun t115 => (if ((t112 == 0) != t115) = true then (observatorylaw04_RationalTexts.j1 kj4 a2 t106 t111 t112 bt113.1 bt113.2 true a0_0 a0_1 a0_2 a1_0 a1_1 a1_2) else (if t112 = 0 then (observatorylaw04_RationalTexts.j1 kj4 a2 t106 t111 t112 bt113.1 bt113.2 false a0_0 a0_1 a0_2 a1_0 a1_1 a1_2) else (if t111.toList = ([] : List UInt8) then (observatorylaw04_RationalTexts.j1 kj4 a2 t106 t111 t112 bt113.1 bt113.2 (t112 != 1) a0_0 a0_1 a0_2 a1_0 a1_1 a1_2) else (observatorylaw04_RationalTexts.j1 kj4 a2 t106 t111 t112 bt113.1 bt113.2 true a0_0 a0_1 a0_2 a1_0 a1_1 a1_2)))))) = some r := H
        have A24 := Aside0.mk A240
        clear A240
        replace H := Option.bind_eq_some_iff.mp H
        obtain ⟨⟨t113, t114⟩, A250, H⟩ := H
        replace H : ((rational_Valid.f a0_0 a0_1 a0_2).bind fun t115 => (if ((t112 == 0) != t115) = true then (observatorylaw04_RationalTexts.j1 kj4 a2 t106 t111 t112 t113 t114 true a0_0 a0_1 a0_2 a1_0 a1_1 a1_2) else (if t112 = 0 then (observatorylaw04_RationalTexts.j1 kj4 a2 t106 t111 t112 t113 t114 false a0_0 a0_1 a0_2 a1_0 a1_1 a1_2) else (if t111.toList = ([] : List UInt8) then (observatorylaw04_RationalTexts.j1 kj4 a2 t106 t111 t112 t113 t114 (t112 != 1) a0_0 a0_1 a0_2 a1_0 a1_1 a1_2) else (observatorylaw04_RationalTexts.j1 kj4 a2 t106 t111 t112 t113 t114 true a0_0 a0_1 a0_2 a1_0 a1_1 a1_2))))) = some r := H
        have A25 := Aside0.mk A250
        clear A250
        have HC26 := Aside0.mk H
        clear H
        have hnb27 := NB104_105.out
        have hnc27 := NB105_104.out
        have hcz28_0 : wc.cell? ⟨gb104, 0, none⟩ = some (.bool a0_0) := (blk_cell BK104.out 0).trans rfl
        have hcz28_1 : wc.cell? ⟨gb104, 1, none⟩ = some (.string a0_1) := (blk_cell BK104.out 1).trans rfl
        have hcz28_2 : wc.cell? ⟨gb104, 2, none⟩ = some (.string a0_2) := (blk_cell BK104.out 2).trans rfl
        have hfz28_0 := blk_frozen BK104.out 0
        have hfz28_1 := blk_frozen BK104.out 1
        have hfz28_2 := blk_frozen BK104.out 2
        go_upto_region 6 with (first | ((with_reducible refine gate_callee (f := 17) rfl ?_); refine goesL_ (some 32) rfl rfl Tryz.func17 (by kernel_rfl) rfl #[.agg #[.bool a0_0, .string a0_1, .string a0_2]] rfl (by (try simp only [List.map_toArray, List.map_cons, List.map_nil]); first | done | rfl | (simp only [List.length_drop, List.length_take]; rfl)) ?_; (with_reducible refine (rational_Text.calls a0_0 a0_1 a0_2 t111 t112 _ ?side1 A24.out).mono ?_); (case side1 => exact Laid.below HLaid.out (by repeat (first | (with_reducible first | exact HB.out | apply below_alloc | apply pw_below_drewN | apply below_drew1 | refine below_set ?_ GE104.out | refine below_set ?_ GE105.out) | exact HB.out))); rintro e w29 ⟨rfl, hb⟩; refine ⟨_, rfl, ?_⟩; have n0_ := Aside0.mk (blk_below (g := gb104) (o := .cells #[.bool a0_0, .string a0_1, .string a0_2] 24 (0, 0)) (by (with_reducible repeat (first | refine blk_drewN ?_ _ | refine blk_drew ?_ | refine blk_alloc ?_ _)); exact BK104.out) hb); have n1_ := Aside0.mk (blk_below (g := gb105) (o := .cells #[.bool a1_0, .string a1_1, .string a1_2] 24 (0, 0)) (by (with_reducible repeat (first | refine blk_drewN ?_ _ | refine blk_drew ?_ | refine blk_alloc ?_ _)); exact BK105.out) hb); have n2_ := Aside0.mk (below_step (by repeat (first | (with_reducible first | exact HB.out | apply below_alloc | apply pw_below_drewN | apply below_drew1 | refine below_set ?_ GE104.out | refine below_set ?_ GE105.out) | exact HB.out)) hb); clear BK104; clear BK105; clear HB; have BK104 := n0_; have BK105 := n1_; have HB := n2_; clear n0_ n1_ n2_; (try clear hb); (try clear hb2); (try clear hk); (try clear hi); have hcz30_0 : w29.cell? ⟨gb105, 0, none⟩ = some (.bool a1_0) := (blk_cell BK105.out 0).trans rfl; have hcz30_1 : w29.cell? ⟨gb105, 1, none⟩ = some (.string a1_1) := (blk_cell BK105.out 1).trans rfl; have hcz30_2 : w29.cell? ⟨gb105, 2, none⟩ = some (.string a1_2) := (blk_cell BK105.out 2).trans rfl; have hfz30_0 := blk_frozen BK105.out 0; have hfz30_1 := blk_frozen BK105.out 1; have hfz30_2 := blk_frozen BK105.out 2) | ((with_reducible refine gate_callee (f := 17) rfl ?_); refine goesL_ (some 37) rfl rfl Tryz.func17 (by kernel_rfl) rfl #[.agg #[.bool a1_0, .string a1_1, .string a1_2]] rfl (by (try simp only [List.map_toArray, List.map_cons, List.map_nil]); first | done | rfl | (simp only [List.length_drop, List.length_take]; rfl)) ?_; (with_reducible refine (rational_Text.calls a1_0 a1_1 a1_2 t113 t114 _ ?side1 A25.out).mono ?_); (case side1 => exact Laid.below HLaid.out (by repeat (first | (with_reducible first | exact HB.out | apply below_alloc | apply pw_below_drewN | apply below_drew1 | refine below_set ?_ GE104.out | refine below_set ?_ GE105.out) | exact HB.out))); rintro e w31 ⟨rfl, hb⟩; refine ⟨_, rfl, ?_⟩; have n0_ := Aside0.mk (blk_below (g := gb104) (o := .cells #[.bool a0_0, .string a0_1, .string a0_2] 24 (0, 0)) (by (with_reducible repeat (first | refine blk_drewN ?_ _ | refine blk_drew ?_ | refine blk_alloc ?_ _)); exact BK104.out) hb); have n1_ := Aside0.mk (blk_below (g := gb105) (o := .cells #[.bool a1_0, .string a1_1, .string a1_2] 24 (0, 0)) (by (with_reducible repeat (first | refine blk_drewN ?_ _ | refine blk_drew ?_ | refine blk_alloc ?_ _)); exact BK105.out) hb); have n2_ := Aside0.mk (below_step (by repeat (first | (with_reducible first | exact HB.out | apply below_alloc | apply pw_below_drewN | apply below_drew1 | refine below_set ?_ GE104.out | refine below_set ?_ GE105.out) | exact HB.out)) hb); clear BK104; clear BK105; clear HB; have BK104 := n0_; have BK105 := n1_; have HB := n2_; clear n0_ n1_ n2_; (try clear hb); (try clear hb2); (try clear hk); (try clear hi)))
        (try simp only [Act.put, List.setIfInBounds_toArray, List.set_cons_zero, List.set_cons_succ])
        go_cut [56] (fun v56 wc => ∃ (kq : Nat) (x56_25 : Bool), v56 = .bool x56_25 ∧ Aside0 (observatorylaw04_RationalTexts.j1 kq a2 t106 t111 t112 t113 t114 x56_25 a0_0 a0_1 a0_2 a1_0 a1_1 a1_2 = some r) ∧ Aside0 (kq ≤ kj4) ∧ Aside0 (wc.heap[gb104]? = some (.cells #[.bool a0_0, .string a0_1, .string a0_2] 24 (0, 0))) ∧ Aside0 (wc.heap[gb105]? = some (.cells #[.bool a1_0, .string a1_1, .string a1_2] 24 (0, 0))) ∧ Aside0 (Below w.heap.size w wc))
        case first =>
          have H := HC26.out
          clear HC26
          replace H := Option.bind_eq_some_iff.mp H
          obtain ⟨t115, A320, H⟩ := H
          replace H : (if ((t112 == 0) != t115) = true then (observatorylaw04_RationalTexts.j1 kj4 a2 t106 t111 t112 t113 t114 true a0_0 a0_1 a0_2 a1_0 a1_1 a1_2) else (if t112 = 0 then (observatorylaw04_RationalTexts.j1 kj4 a2 t106 t111 t112 t113 t114 false a0_0 a0_1 a0_2 a1_0 a1_1 a1_2) else (if t111.toList = ([] : List UInt8) then (observatorylaw04_RationalTexts.j1 kj4 a2 t106 t111 t112 t113 t114 (t112 != 1) a0_0 a0_1 a0_2 a1_0 a1_1 a1_2) else (observatorylaw04_RationalTexts.j1 kj4 a2 t106 t111 t112 t113 t114 true a0_0 a0_1 a0_2 a1_0 a1_1 a1_2)))) = some r := H
          have A32 := Aside0.mk A320
          clear A320
          by_cases c33 : ((t112 == 0) != t115) = true
          · rw [if_pos c33] at H
            have c33b0 : ((t112 == 0) != t115) = true := c33
            (try (have c33b1 : decide ((t112 == 0) = t115) = false := by simpa using c33))
            (try (have c33b2 : ((t112 == 0) == t115) = false := by simpa using c33))
            (try (have c33b3 : ¬ ((t112 == 0) = t115) := by simpa using c33))
            clear c33
            (first | rw [c33b0] | (simp only [i64_w, i32_w]; rw [c33b0]) | skip)
            have H' := Aside0.mk H
            clear H
            have hnb34 := NB104_105.out
            have hnc34 := NB105_104.out
            have hcz35_0 : w31.cell? ⟨gb104, 0, none⟩ = some (.bool a0_0) := (blk_cell BK104.out 0).trans rfl
            have hcz35_1 : w31.cell? ⟨gb104, 1, none⟩ = some (.string a0_1) := (blk_cell BK104.out 1).trans rfl
            have hcz35_2 : w31.cell? ⟨gb104, 2, none⟩ = some (.string a0_2) := (blk_cell BK104.out 2).trans rfl
            have hfz35_0 := blk_frozen BK104.out 0
            have hfz35_1 := blk_frozen BK104.out 1
            have hfz35_2 := blk_frozen BK104.out 2
            go_wp2_with (first | ((with_reducible refine gate_callee (f := 21) rfl ?_); refine goesL_ (some 43) rfl rfl Tryz.func21 (by kernel_rfl) rfl #[.agg #[.bool a0_0, .string a0_1, .string a0_2]] rfl (by (try simp only [List.map_toArray, List.map_cons, List.map_nil]); first | done | rfl | (simp only [List.length_drop, List.length_take]; rfl)) ?_; (with_reducible refine (rational_Valid.calls a0_0 a0_1 a0_2 t115 _ ?side1 A32.out).mono ?_); (case side1 => exact Laid.below HLaid.out (by repeat (first | (with_reducible first | exact HB.out | apply below_alloc | apply pw_below_drewN | apply below_drew1 | refine below_set ?_ GE104.out | refine below_set ?_ GE105.out) | exact HB.out))); rintro e w36 ⟨rfl, hb⟩; refine ⟨_, rfl, ?_⟩; have n0_ := Aside0.mk (blk_below (g := gb104) (o := .cells #[.bool a0_0, .string a0_1, .string a0_2] 24 (0, 0)) (by (with_reducible repeat (first | refine blk_drewN ?_ _ | refine blk_drew ?_ | refine blk_alloc ?_ _)); exact BK104.out) hb); have n1_ := Aside0.mk (blk_below (g := gb105) (o := .cells #[.bool a1_0, .string a1_1, .string a1_2] 24 (0, 0)) (by (with_reducible repeat (first | refine blk_drewN ?_ _ | refine blk_drew ?_ | refine blk_alloc ?_ _)); exact BK105.out) hb); have n2_ := Aside0.mk (below_step (by repeat (first | (with_reducible first | exact HB.out | apply below_alloc | apply pw_below_drewN | apply below_drew1 | refine below_set ?_ GE104.out | refine below_set ?_ GE105.out) | exact HB.out)) hb); clear BK104; clear BK105; clear HB; have BK104 := n0_; have BK105 := n1_; have HB := n2_; clear n0_ n1_ n2_; (try clear hb); (try clear hb2); (try clear hk); (try clear hi)))
            go_meet
            case rel => exact ⟨_, (true), (by first | rfl | (simp; done) | (simp [*]; done)), H', ⟨by have := HJ4.out; first | omega | exact Nat.le_refl _⟩, ⟨by (with_reducible repeat (first | refine blk_drewN ?_ _ | refine blk_drew ?_ | refine blk_alloc ?_ _)); exact BK104.out⟩, ⟨by (with_reducible repeat (first | refine blk_drewN ?_ _ | refine blk_drew ?_ | refine blk_alloc ?_ _)); exact BK105.out⟩, ⟨by repeat (first | (with_reducible first | exact HB.out | apply below_alloc | apply pw_below_drewN | apply below_drew1 | refine below_set ?_ GE104.out | refine below_set ?_ GE105.out) | exact HB.out)⟩⟩
          · rw [if_neg c33] at H
            have c33b0 : ((t112 == 0) != t115) = false := by simpa using c33
            (try (have c33b1 : decide ((t112 == 0) = t115) = true := by simpa using c33))
            (try (have c33b2 : ((t112 == 0) == t115) = true := by simpa using c33))
            clear c33
            (first | rw [c33b0] | (simp only [i64_w, i32_w]; rw [c33b0]) | skip)
            by_cases c37 : t112 = 0
            · rw [if_pos c37] at H
              have c37b0 : (t112 == 0) = true := beq_iff_eq.mpr c37
              (try (have c33d0 : (t115) = true := by have c33d9 := c33b0; rw [c37b0] at c33d9; simpa using c33d9))
              have c37b1 : (t112 != 0) = false := bne_eq_false_iff_eq.mpr c37
              clear c37
              have H' := Aside0.mk H
              clear H
              have hnb38 := NB104_105.out
              have hnc38 := NB105_104.out
              have hcz39_0 : w31.cell? ⟨gb104, 0, none⟩ = some (.bool a0_0) := (blk_cell BK104.out 0).trans rfl
              have hcz39_1 : w31.cell? ⟨gb104, 1, none⟩ = some (.string a0_1) := (blk_cell BK104.out 1).trans rfl
              have hcz39_2 : w31.cell? ⟨gb104, 2, none⟩ = some (.string a0_2) := (blk_cell BK104.out 2).trans rfl
              have hfz39_0 := blk_frozen BK104.out 0
              have hfz39_1 := blk_frozen BK104.out 1
              have hfz39_2 := blk_frozen BK104.out 2
              go_wp2_with (first | ((with_reducible refine gate_callee (f := 21) rfl ?_); refine goesL_ (some 43) rfl rfl Tryz.func21 (by kernel_rfl) rfl #[.agg #[.bool a0_0, .string a0_1, .string a0_2]] rfl (by (try simp only [List.map_toArray, List.map_cons, List.map_nil]); first | done | rfl | (simp only [List.length_drop, List.length_take]; rfl)) ?_; (with_reducible refine (rational_Valid.calls a0_0 a0_1 a0_2 t115 _ ?side1 A32.out).mono ?_); (case side1 => exact Laid.below HLaid.out (by repeat (first | (with_reducible first | exact HB.out | apply below_alloc | apply pw_below_drewN | apply below_drew1 | refine below_set ?_ GE104.out | refine below_set ?_ GE105.out) | exact HB.out))); rintro e w40 ⟨rfl, hb⟩; refine ⟨_, rfl, ?_⟩; have n0_ := Aside0.mk (blk_below (g := gb104) (o := .cells #[.bool a0_0, .string a0_1, .string a0_2] 24 (0, 0)) (by (with_reducible repeat (first | refine blk_drewN ?_ _ | refine blk_drew ?_ | refine blk_alloc ?_ _)); exact BK104.out) hb); have n1_ := Aside0.mk (blk_below (g := gb105) (o := .cells #[.bool a1_0, .string a1_1, .string a1_2] 24 (0, 0)) (by (with_reducible repeat (first | refine blk_drewN ?_ _ | refine blk_drew ?_ | refine blk_alloc ?_ _)); exact BK105.out) hb); have n2_ := Aside0.mk (below_step (by repeat (first | (with_reducible first | exact HB.out | apply below_alloc | apply pw_below_drewN | apply below_drew1 | refine below_set ?_ GE104.out | refine below_set ?_ GE105.out) | exact HB.out)) hb); clear BK104; clear BK105; clear HB; have BK104 := n0_; have BK105 := n1_; have HB := n2_; clear n0_ n1_ n2_; (try clear hb); (try clear hb2); (try clear hk); (try clear hi)))
              go_meet
              case rel => exact ⟨_, (false), (by first | rfl | (simp; done) | (simp [*]; done)), H', ⟨by have := HJ4.out; first | omega | exact Nat.le_refl _⟩, ⟨by (with_reducible repeat (first | refine blk_drewN ?_ _ | refine blk_drew ?_ | refine blk_alloc ?_ _)); exact BK104.out⟩, ⟨by (with_reducible repeat (first | refine blk_drewN ?_ _ | refine blk_drew ?_ | refine blk_alloc ?_ _)); exact BK105.out⟩, ⟨by repeat (first | (with_reducible first | exact HB.out | apply below_alloc | apply pw_below_drewN | apply below_drew1 | refine below_set ?_ GE104.out | refine below_set ?_ GE105.out) | exact HB.out)⟩⟩
            · rw [if_neg c37] at H
              have c37b0 : (t112 == 0) = false := beq_eq_false_iff_ne.mpr c37
              (try (have c33d0 : (t115) = false := by have c33d9 := c33b0; rw [c37b0] at c33d9; simpa using c33d9))
              have c37b1 : (t112 != 0) = true := bne_iff_ne.mpr c37
              by_cases c41 : t111.toList = ([] : List UInt8)
              · rw [if_pos c41] at H
                have c41b0 : (t111.toList == ([] : List UInt8)) = true := beq_iff_eq.mpr c41
                have c41b1 : (t111.toList != ([] : List UInt8)) = false := bne_eq_false_iff_eq.mpr c41
                clear c41
                have H' := Aside0.mk H
                clear H
                have hnb42 := NB104_105.out
                have hnc42 := NB105_104.out
                have hcz43_0 : w31.cell? ⟨gb104, 0, none⟩ = some (.bool a0_0) := (blk_cell BK104.out 0).trans rfl
                have hcz43_1 : w31.cell? ⟨gb104, 1, none⟩ = some (.string a0_1) := (blk_cell BK104.out 1).trans rfl
                have hcz43_2 : w31.cell? ⟨gb104, 2, none⟩ = some (.string a0_2) := (blk_cell BK104.out 2).trans rfl
                have hfz43_0 := blk_frozen BK104.out 0
                have hfz43_1 := blk_frozen BK104.out 1
                have hfz43_2 := blk_frozen BK104.out 2
                go_wp2_with (first | ((with_reducible refine gate_callee (f := 21) rfl ?_); refine goesL_ (some 43) rfl rfl Tryz.func21 (by kernel_rfl) rfl #[.agg #[.bool a0_0, .string a0_1, .string a0_2]] rfl (by (try simp only [List.map_toArray, List.map_cons, List.map_nil]); first | done | rfl | (simp only [List.length_drop, List.length_take]; rfl)) ?_; (with_reducible refine (rational_Valid.calls a0_0 a0_1 a0_2 t115 _ ?side1 A32.out).mono ?_); (case side1 => exact Laid.below HLaid.out (by repeat (first | (with_reducible first | exact HB.out | apply below_alloc | apply pw_below_drewN | apply below_drew1 | refine below_set ?_ GE104.out | refine below_set ?_ GE105.out) | exact HB.out))); rintro e w44 ⟨rfl, hb⟩; refine ⟨_, rfl, ?_⟩; have n0_ := Aside0.mk (blk_below (g := gb104) (o := .cells #[.bool a0_0, .string a0_1, .string a0_2] 24 (0, 0)) (by (with_reducible repeat (first | refine blk_drewN ?_ _ | refine blk_drew ?_ | refine blk_alloc ?_ _)); exact BK104.out) hb); have n1_ := Aside0.mk (blk_below (g := gb105) (o := .cells #[.bool a1_0, .string a1_1, .string a1_2] 24 (0, 0)) (by (with_reducible repeat (first | refine blk_drewN ?_ _ | refine blk_drew ?_ | refine blk_alloc ?_ _)); exact BK105.out) hb); have n2_ := Aside0.mk (below_step (by repeat (first | (with_reducible first | exact HB.out | apply below_alloc | apply pw_below_drewN | apply below_drew1 | refine below_set ?_ GE104.out | refine below_set ?_ GE105.out) | exact HB.out)) hb); clear BK104; clear BK105; clear HB; have BK104 := n0_; have BK105 := n1_; have HB := n2_; clear n0_ n1_ n2_; (try clear hb); (try clear hb2); (try clear hk); (try clear hi)))
                go_meet
                case rel => exact ⟨_, ((t112 != 1)), (by first | rfl | (simp; done) | (simp [*]; done)), H', ⟨by have := HJ4.out; first | omega | exact Nat.le_refl _⟩, ⟨by (with_reducible repeat (first | refine blk_drewN ?_ _ | refine blk_drew ?_ | refine blk_alloc ?_ _)); exact BK104.out⟩, ⟨by (with_reducible repeat (first | refine blk_drewN ?_ _ | refine blk_drew ?_ | refine blk_alloc ?_ _)); exact BK105.out⟩, ⟨by repeat (first | (with_reducible first | exact HB.out | apply below_alloc | apply pw_below_drewN | apply below_drew1 | refine below_set ?_ GE104.out | refine below_set ?_ GE105.out) | exact HB.out)⟩⟩
              · rw [if_neg c41] at H
                have c41b0 : (t111.toList == ([] : List UInt8)) = false := beq_eq_false_iff_ne.mpr c41
                have c41b1 : (t111.toList != ([] : List UInt8)) = true := bne_iff_ne.mpr c41
                have H' := Aside0.mk H
                clear H
                have hnb45 := NB104_105.out
                have hnc45 := NB105_104.out
                have hcz46_0 : w31.cell? ⟨gb104, 0, none⟩ = some (.bool a0_0) := (blk_cell BK104.out 0).trans rfl
                have hcz46_1 : w31.cell? ⟨gb104, 1, none⟩ = some (.string a0_1) := (blk_cell BK104.out 1).trans rfl
                have hcz46_2 : w31.cell? ⟨gb104, 2, none⟩ = some (.string a0_2) := (blk_cell BK104.out 2).trans rfl
                have hfz46_0 := blk_frozen BK104.out 0
                have hfz46_1 := blk_frozen BK104.out 1
                have hfz46_2 := blk_frozen BK104.out 2
                go_wp2_with (first | ((with_reducible refine gate_callee (f := 21) rfl ?_); refine goesL_ (some 43) rfl rfl Tryz.func21 (by kernel_rfl) rfl #[.agg #[.bool a0_0, .string a0_1, .string a0_2]] rfl (by (try simp only [List.map_toArray, List.map_cons, List.map_nil]); first | done | rfl | (simp only [List.length_drop, List.length_take]; rfl)) ?_; (with_reducible refine (rational_Valid.calls a0_0 a0_1 a0_2 t115 _ ?side1 A32.out).mono ?_); (case side1 => exact Laid.below HLaid.out (by repeat (first | (with_reducible first | exact HB.out | apply below_alloc | apply pw_below_drewN | apply below_drew1 | refine below_set ?_ GE104.out | refine below_set ?_ GE105.out) | exact HB.out))); rintro e w47 ⟨rfl, hb⟩; refine ⟨_, rfl, ?_⟩; have n0_ := Aside0.mk (blk_below (g := gb104) (o := .cells #[.bool a0_0, .string a0_1, .string a0_2] 24 (0, 0)) (by (with_reducible repeat (first | refine blk_drewN ?_ _ | refine blk_drew ?_ | refine blk_alloc ?_ _)); exact BK104.out) hb); have n1_ := Aside0.mk (blk_below (g := gb105) (o := .cells #[.bool a1_0, .string a1_1, .string a1_2] 24 (0, 0)) (by (with_reducible repeat (first | refine blk_drewN ?_ _ | refine blk_drew ?_ | refine blk_alloc ?_ _)); exact BK105.out) hb); have n2_ := Aside0.mk (below_step (by repeat (first | (with_reducible first | exact HB.out | apply below_alloc | apply pw_below_drewN | apply below_drew1 | refine below_set ?_ GE104.out | refine below_set ?_ GE105.out) | exact HB.out)) hb); clear BK104; clear BK105; clear HB; have BK104 := n0_; have BK105 := n1_; have HB := n2_; clear n0_ n1_ n2_; (try clear hb); (try clear hb2); (try clear hk); (try clear hi)))
                go_meet
                case rel => exact ⟨_, (true), (by first | rfl | (simp; done) | (simp [*]; done)), H', ⟨by have := HJ4.out; first | omega | exact Nat.le_refl _⟩, ⟨by (with_reducible repeat (first | refine blk_drewN ?_ _ | refine blk_drew ?_ | refine blk_alloc ?_ _)); exact BK104.out⟩, ⟨by (with_reducible repeat (first | refine blk_drewN ?_ _ | refine blk_drew ?_ | refine blk_alloc ?_ _)); exact BK105.out⟩, ⟨by repeat (first | (with_reducible first | exact HB.out | apply below_alloc | apply pw_below_drewN | apply below_drew1 | refine below_set ?_ GE104.out | refine below_set ?_ GE105.out) | exact HB.out)⟩⟩
        case rest =>
          clear HC26
          try clear c1
          try clear c2
          try clear p2
          try clear c3
          try clear c4
          try clear c8
          try clear c10
          try clear c11
          try clear c12
          try clear c17
          try clear c21
          try clear c23
          try clear c27
          try clear c33
          try clear c33b0
          try clear c33b1
          try clear c33b2
          try clear c34
          try clear c37
          try clear c37b0
          try clear c37b1
          try clear c38
          try clear c41
          try clear c41b0
          try clear c41b1
          try clear c42
          try clear c45
          try clear hcz12_0
          try clear hcz12_1
          try clear hcz12_2
          try clear hcz13_0
          try clear hcz13_1
          try clear hcz13_2
          try clear hcz18_0
          try clear hcz18_1
          try clear hcz18_2
          try clear hcz19_0
          try clear hcz19_1
          try clear hcz19_2
          try clear hcz28_0
          try clear hcz28_1
          try clear hcz28_2
          try clear hcz30_0
          try clear hcz30_1
          try clear hcz30_2
          try clear hcz35_0
          try clear hcz35_1
          try clear hcz35_2
          try clear hcz39_0
          try clear hcz39_1
          try clear hcz39_2
          try clear hcz43_0
          try clear hcz43_1
          try clear hcz43_2
          try clear hcz46_0
          try clear hcz46_1
          try clear hcz46_2
          try clear hfz12_0
          try clear hfz12_1
          try clear hfz12_2
          try clear hfz13_0
          try clear hfz13_1
          try clear hfz13_2
          try clear hfz18_0
          try clear hfz18_1
          try clear hfz18_2
          try clear hfz19_0
          try clear hfz19_1
          try clear hfz19_2
          try clear hfz28_0
          try clear hfz28_1
          try clear hfz28_2
          try clear hfz30_0
          try clear hfz30_1
          try clear hfz30_2
          try clear hfz35_0
          try clear hfz35_1
          try clear hfz35_2
          try clear hfz39_0
          try clear hfz39_1
          try clear hfz39_2
          try clear hfz43_0
          try clear hfz43_1
          try clear hfz43_2
          try clear hfz46_0
          try clear hfz46_1
          try clear hfz46_2
          try clear p2
          obtain ⟨kq, x56_25, rfl, HA, HJ25, BK104, BK105, HB⟩ := hcut
          cases kq with
          | zero => exact absurd HA.out (by simp [observatorylaw04_RationalTexts.j1])
          | succ kj25 =>
            have H := HA.out
            clear HA
            simp only [observatorylaw04_RationalTexts.j1] at H
            by_cases c48 : x56_25 = true
            · subst c48
              rw [if_pos rfl] at H
              exact absurd H (by simp)
            · replace c48 := Bool.eq_false_iff.mpr c48
              subst c48
              have H1 : (if t112 = 0 then ((rational_Parse.f t111).bind fun bt116 => (if bt116.2.2.2 = 0 then (if (!(bt116.1 == a0_0) || (!(bt116.2.1.toList == a0_1.toList) || (!(bt116.2.2.1.toList == a0_2.toList)))) = true then (none) else (if t114 = 0 then (if ((t111.toList == t113.toList) != (a0_0 == a1_0 && (a0_1.toList == a1_1.toList && (a0_2.toList == a1_2.toList)))) = true then (none) else (observatorylaw04_RationalTexts.j2 kj25 a2 t106)) else (observatorylaw04_RationalTexts.j2 kj25 a2 t106))) else (none))) else (observatorylaw04_RationalTexts.j2 kj25 a2 t106)) = some r := by rw [if_neg (show ¬ (false = true) by decide)] at H; exact H
              clear H
              have H := H1
              clear H1
              have HC49 := Aside0.mk H
              clear H
              go_upto_if 58 with (fail)
              go_cut [] (fun wc => ∃ (kq : Nat), Aside0 (observatorylaw04_RationalTexts.j2 kq a2 t106 = some r) ∧ Aside0 (kq ≤ kj25) ∧ Aside0 (wc.heap[gb104]? = some (.cells #[.bool a0_0, .string a0_1, .string a0_2] 24 (0, 0))) ∧ Aside0 (wc.heap[gb105]? = some (.cells #[.bool a1_0, .string a1_1, .string a1_2] 24 (0, 0))) ∧ Aside0 (Below w.heap.size w wc))
              case first =>
                have H := HC49.out
                clear HC49
                by_cases c50 : t112 = 0
                · rw [if_pos c50] at H
                  have c50b0 : (t112 == 0) = true := beq_iff_eq.mpr c50
                  (try (have c33d0 : (t115) = true := by have c33d9 := c33b0; rw [c50b0] at c33d9; simpa using c33d9))
                  have c50b1 : (t112 != 0) = false := bne_eq_false_iff_eq.mpr c50
                  clear c50
                  (first | rw [c50b0] | (simp only [i64_w, i32_w]; rw [c50b0]) | skip)
                  replace H := Option.bind_eq_some_iff.mp H
                  obtain ⟨⟨t116, t117, t118, t119⟩, A510, H⟩ := H
                  replace H : (if t119 = 0 then (if (!(t116 == a0_0) || (!(t117.toList == a0_1.toList) || (!(t118.toList == a0_2.toList)))) = true then (none) else (if t114 = 0 then (if ((t111.toList == t113.toList) != (a0_0 == a1_0 && (a0_1.toList == a1_1.toList && (a0_2.toList == a1_2.toList)))) = true then (none) else (observatorylaw04_RationalTexts.j2 kj25 a2 t106)) else (observatorylaw04_RationalTexts.j2 kj25 a2 t106))) else (none)) = some r := H
                  have A51 := Aside0.mk A510
                  clear A510
                  by_cases c52 : t119 = 0
                  · rw [if_pos c52] at H
                    have c52b0 : (t119 == 0) = true := beq_iff_eq.mpr c52
                    have c52b1 : (t119 != 0) = false := bne_eq_false_iff_eq.mpr c52
                    clear c52
                    by_cases c53 : (!(t116 == a0_0) || (!(t117.toList == a0_1.toList) || (!(t118.toList == a0_2.toList)))) = true
                    · rw [if_pos c53] at H
                      exact absurd H (by simp)
                    · rw [if_neg c53] at H
                      have c53b0 : (!(t116 == a0_0) || (!(t117.toList == a0_1.toList) || (!(t118.toList == a0_2.toList)))) = false := by simpa using c53
                      clear c53
                      by_cases c54 : t114 = 0
                      · rw [if_pos c54] at H
                        have c54b0 : (t114 == 0) = true := beq_iff_eq.mpr c54
                        have c54b1 : (t114 != 0) = false := bne_eq_false_iff_eq.mpr c54
                        clear c54
                        by_cases c55 : ((t111.toList == t113.toList) != (a0_0 == a1_0 && (a0_1.toList == a1_1.toList && (a0_2.toList == a1_2.toList)))) = true
                        · rw [if_pos c55] at H
                          exact absurd H (by simp)
                        · rw [if_neg c55] at H
                          have c55b0 : ((t111.toList == t113.toList) != (a0_0 == a1_0 && (a0_1.toList == a1_1.toList && (a0_2.toList == a1_2.toList)))) = false := by simpa using c55
                          (try (have c55b1 : decide ((t111.toList == t113.toList) = (a0_0 == a1_0 && (a0_1.toList == a1_1.toList && (a0_2.toList == a1_2.toList)))) = true := by simpa using c55))
                          (try (have c55b2 : ((t111.toList == t113.toList) == (a0_0 == a1_0 && (a0_1.toList == a1_1.toList && (a0_2.toList == a1_2.toList)))) = true := by simpa using c55))
                          clear c55
                          have H' := Aside0.mk H
                          clear H
                          go_wp2_with (first | ((with_reducible refine gate_callee (f := 19) rfl ?_); refine goesL_ (some 61) rfl rfl Tryz.func19 (by kernel_rfl) rfl #[.string t111] rfl (by (try simp only [List.map_toArray, List.map_cons, List.map_nil]); first | done | rfl | (simp only [List.length_drop, List.length_take]; rfl)) ?_; (with_reducible refine (rational_Parse.calls t111 t116 t117 t118 t119 _ ?side1 A51.out).mono ?_); (case side1 => exact Laid.below HLaid.out (by repeat (first | (with_reducible first | exact HB.out | apply below_alloc | apply pw_below_drewN | apply below_drew1 | refine below_set ?_ GE104.out | refine below_set ?_ GE105.out) | exact HB.out))); rintro e w56 ⟨rfl, hb⟩; refine ⟨_, rfl, ?_⟩; have n0_ := Aside0.mk (blk_below (g := gb104) (o := .cells #[.bool a0_0, .string a0_1, .string a0_2] 24 (0, 0)) (by (with_reducible repeat (first | refine blk_drewN ?_ _ | refine blk_drew ?_ | refine blk_alloc ?_ _)); exact BK104.out) hb); have n1_ := Aside0.mk (blk_below (g := gb105) (o := .cells #[.bool a1_0, .string a1_1, .string a1_2] 24 (0, 0)) (by (with_reducible repeat (first | refine blk_drewN ?_ _ | refine blk_drew ?_ | refine blk_alloc ?_ _)); exact BK105.out) hb); have n2_ := Aside0.mk (below_step (by repeat (first | (with_reducible first | exact HB.out | apply below_alloc | apply pw_below_drewN | apply below_drew1 | refine below_set ?_ GE104.out | refine below_set ?_ GE105.out) | exact HB.out)) hb); clear BK104; clear BK105; clear HB; have BK104 := n0_; have BK105 := n1_; have HB := n2_; clear n0_ n1_ n2_; (try clear hb); (try clear hb2); (try clear hk); (try clear hi)) | ((with_reducible refine gate_dst (N := 12) rfl ?_); (try (refine gate_guard (by rfl) ?_; dsimp only)); refine box_event ?hg (N := 12) ?hd (cs := #[.bool false, .string (⟨#[]⟩ : ByteArray), .string (⟨#[]⟩ : ByteArray)]) (t := 24) ?hr ?_; (case hd => rfl); (case hg => rfl); (case hr => first | (go_simp; done) | (go_simp; rfl)); intro gb120 hg w57 hbox hb; have n0_ := Aside0.mk (blk_below (g := gb104) (o := .cells #[.bool a0_0, .string a0_1, .string a0_2] 24 (0, 0)) (by (with_reducible repeat (first | refine blk_drewN ?_ _ | refine blk_drew ?_ | refine blk_alloc ?_ _)); exact BK104.out) hb); have n1_ := Aside0.mk (blk_below (g := gb105) (o := .cells #[.bool a1_0, .string a1_1, .string a1_2] 24 (0, 0)) (by (with_reducible repeat (first | refine blk_drewN ?_ _ | refine blk_drew ?_ | refine blk_alloc ?_ _)); exact BK105.out) hb); have n2_ := Aside0.mk (below_step (by repeat (first | (with_reducible first | exact HB.out | apply below_alloc | apply pw_below_drewN | apply below_drew1 | refine below_set ?_ GE104.out | refine below_set ?_ GE105.out) | exact HB.out)) hb); have n3_ := Aside0.mk (hbox); have n4_ := Aside0.mk ((by rw [hg]; exact (below_size (by repeat (first | (with_reducible first | exact HB.out | apply below_alloc | apply pw_below_drewN | apply below_drew1 | refine below_set ?_ GE104.out | refine below_set ?_ GE105.out) | exact HB.out))) : w.heap.size ≤ gb120)); have n5_ := Aside0.mk ((by rw [hg]; exact (below_size (by repeat (first | (with_reducible first | exact HB.out | apply below_alloc | apply pw_below_drewN | apply below_drew1 | refine below_set ?_ GE104.out | refine below_set ?_ GE105.out) | exact HB.out))) : w.heap.size ≤ gb120)); have n6_ := Aside0.mk ((by rw [hg]; exact Nat.ne_of_lt (blk_lt (g := gb104) (o := .cells #[.bool a0_0, .string a0_1, .string a0_2] 24 (0, 0)) (by (with_reducible repeat (first | refine blk_drewN ?_ _ | refine blk_drew ?_ | refine blk_alloc ?_ _)); exact BK104.out)) : gb104 ≠ gb120)); have n7_ := Aside0.mk ((by rw [hg]; exact Nat.ne_of_gt (blk_lt (g := gb104) (o := .cells #[.bool a0_0, .string a0_1, .string a0_2] 24 (0, 0)) (by (with_reducible repeat (first | refine blk_drewN ?_ _ | refine blk_drew ?_ | refine blk_alloc ?_ _)); exact BK104.out)) : gb120 ≠ gb104)); have n8_ := Aside0.mk ((by rw [hg]; exact Nat.ne_of_lt (blk_lt (g := gb105) (o := .cells #[.bool a1_0, .string a1_1, .string a1_2] 24 (0, 0)) (by (with_reducible repeat (first | refine blk_drewN ?_ _ | refine blk_drew ?_ | refine blk_alloc ?_ _)); exact BK105.out)) : gb105 ≠ gb120)); have n9_ := Aside0.mk ((by rw [hg]; exact Nat.ne_of_gt (blk_lt (g := gb105) (o := .cells #[.bool a1_0, .string a1_1, .string a1_2] 24 (0, 0)) (by (with_reducible repeat (first | refine blk_drewN ?_ _ | refine blk_drew ?_ | refine blk_alloc ?_ _)); exact BK105.out)) : gb120 ≠ gb105)); clear BK104; clear BK105; clear HB; have BK104 := n0_; have BK105 := n1_; have HB := n2_; have BK120 := n3_; have GW120 := n4_; have GE120 := n5_; have NB104_120 := n6_; have NB120_104 := n7_; have NB105_120 := n8_; have NB120_105 := n9_; clear n0_ n1_ n2_ n3_ n4_ n5_ n6_ n7_ n8_ n9_; clear hb hbox hg; have hnb58 := NB120_104.out; have hnc58 := NB104_120.out; have hnb59 := NB120_105.out; have hnc59 := NB105_120.out; have hcz60_0 : w57.cell? ⟨gb120, 0, none⟩ = some (.bool false) := (blk_cell BK120.out 0).trans rfl; have hcz60_1 : w57.cell? ⟨gb120, 1, none⟩ = some (.string (⟨#[]⟩ : ByteArray)) := (blk_cell BK120.out 1).trans rfl; have hcz60_2 : w57.cell? ⟨gb120, 2, none⟩ = some (.string (⟨#[]⟩ : ByteArray)) := (blk_cell BK120.out 2).trans rfl; have hfz60_0 := blk_frozen BK120.out 0; have hfz60_1 := blk_frozen BK120.out 1; have hfz60_2 := blk_frozen BK120.out 2; have hnb61 := NB104_105.out; have hnc61 := NB105_104.out; have hcz62_0 : w57.cell? ⟨gb104, 0, none⟩ = some (.bool a0_0) := (blk_cell BK104.out 0).trans rfl; have hcz62_1 : w57.cell? ⟨gb104, 1, none⟩ = some (.string a0_1) := (blk_cell BK104.out 1).trans rfl; have hcz62_2 : w57.cell? ⟨gb104, 2, none⟩ = some (.string a0_2) := (blk_cell BK104.out 2).trans rfl; have hfz62_0 := blk_frozen BK104.out 0; have hfz62_1 := blk_frozen BK104.out 1; have hfz62_2 := blk_frozen BK104.out 2; have hcz63_0 : w57.cell? ⟨gb105, 0, none⟩ = some (.bool a1_0) := (blk_cell BK105.out 0).trans rfl; have hcz63_1 : w57.cell? ⟨gb105, 1, none⟩ = some (.string a1_1) := (blk_cell BK105.out 1).trans rfl; have hcz63_2 : w57.cell? ⟨gb105, 2, none⟩ = some (.string a1_2) := (blk_cell BK105.out 2).trans rfl; have hfz63_0 := blk_frozen BK105.out 0; have hfz63_1 := blk_frozen BK105.out 1; have hfz63_2 := blk_frozen BK105.out 2))
                          go_meet
                          case rel => exact ⟨_, H', ⟨by have := HJ4.out; have := HJ25.out; first | omega | exact Nat.le_refl _⟩, ⟨by (with_reducible repeat (first | refine blk_drewN ?_ _ | refine blk_drew ?_ | refine blk_alloc ?_ _)); refine blk_far ?_ NB104_120.out _; (with_reducible repeat (first | refine blk_drewN ?_ _ | refine blk_drew ?_ | refine blk_alloc ?_ _)); refine blk_far ?_ NB104_120.out _; (with_reducible repeat (first | refine blk_drewN ?_ _ | refine blk_drew ?_ | refine blk_alloc ?_ _)); refine blk_far ?_ NB104_120.out _; (with_reducible repeat (first | refine blk_drewN ?_ _ | refine blk_drew ?_ | refine blk_alloc ?_ _)); exact BK104.out⟩, ⟨by (with_reducible repeat (first | refine blk_drewN ?_ _ | refine blk_drew ?_ | refine blk_alloc ?_ _)); refine blk_far ?_ NB105_120.out _; (with_reducible repeat (first | refine blk_drewN ?_ _ | refine blk_drew ?_ | refine blk_alloc ?_ _)); refine blk_far ?_ NB105_120.out _; (with_reducible repeat (first | refine blk_drewN ?_ _ | refine blk_drew ?_ | refine blk_alloc ?_ _)); refine blk_far ?_ NB105_120.out _; (with_reducible repeat (first | refine blk_drewN ?_ _ | refine blk_drew ?_ | refine blk_alloc ?_ _)); exact BK105.out⟩, ⟨by repeat (first | (with_reducible first | exact HB.out | apply below_alloc | apply pw_below_drewN | apply below_drew1 | refine below_set ?_ GE104.out | refine below_set ?_ GE105.out | refine below_set ?_ GE120.out) | exact HB.out)⟩⟩
                      · rw [if_neg c54] at H
                        have c54b0 : (t114 == 0) = false := beq_eq_false_iff_ne.mpr c54
                        have c54b1 : (t114 != 0) = true := bne_iff_ne.mpr c54
                        have H' := Aside0.mk H
                        clear H
                        go_wp2_with (first | ((with_reducible refine gate_callee (f := 19) rfl ?_); refine goesL_ (some 61) rfl rfl Tryz.func19 (by kernel_rfl) rfl #[.string t111] rfl (by (try simp only [List.map_toArray, List.map_cons, List.map_nil]); first | done | rfl | (simp only [List.length_drop, List.length_take]; rfl)) ?_; (with_reducible refine (rational_Parse.calls t111 t116 t117 t118 t119 _ ?side1 A51.out).mono ?_); (case side1 => exact Laid.below HLaid.out (by repeat (first | (with_reducible first | exact HB.out | apply below_alloc | apply pw_below_drewN | apply below_drew1 | refine below_set ?_ GE104.out | refine below_set ?_ GE105.out) | exact HB.out))); rintro e w64 ⟨rfl, hb⟩; refine ⟨_, rfl, ?_⟩; have n0_ := Aside0.mk (blk_below (g := gb104) (o := .cells #[.bool a0_0, .string a0_1, .string a0_2] 24 (0, 0)) (by (with_reducible repeat (first | refine blk_drewN ?_ _ | refine blk_drew ?_ | refine blk_alloc ?_ _)); exact BK104.out) hb); have n1_ := Aside0.mk (blk_below (g := gb105) (o := .cells #[.bool a1_0, .string a1_1, .string a1_2] 24 (0, 0)) (by (with_reducible repeat (first | refine blk_drewN ?_ _ | refine blk_drew ?_ | refine blk_alloc ?_ _)); exact BK105.out) hb); have n2_ := Aside0.mk (below_step (by repeat (first | (with_reducible first | exact HB.out | apply below_alloc | apply pw_below_drewN | apply below_drew1 | refine below_set ?_ GE104.out | refine below_set ?_ GE105.out) | exact HB.out)) hb); clear BK104; clear BK105; clear HB; have BK104 := n0_; have BK105 := n1_; have HB := n2_; clear n0_ n1_ n2_; (try clear hb); (try clear hb2); (try clear hk); (try clear hi)) | ((with_reducible refine gate_dst (N := 12) rfl ?_); (try (refine gate_guard (by rfl) ?_; dsimp only)); refine box_event ?hg (N := 12) ?hd (cs := #[.bool false, .string (⟨#[]⟩ : ByteArray), .string (⟨#[]⟩ : ByteArray)]) (t := 24) ?hr ?_; (case hd => rfl); (case hg => rfl); (case hr => first | (go_simp; done) | (go_simp; rfl)); intro gb120 hg w65 hbox hb; have n0_ := Aside0.mk (blk_below (g := gb104) (o := .cells #[.bool a0_0, .string a0_1, .string a0_2] 24 (0, 0)) (by (with_reducible repeat (first | refine blk_drewN ?_ _ | refine blk_drew ?_ | refine blk_alloc ?_ _)); exact BK104.out) hb); have n1_ := Aside0.mk (blk_below (g := gb105) (o := .cells #[.bool a1_0, .string a1_1, .string a1_2] 24 (0, 0)) (by (with_reducible repeat (first | refine blk_drewN ?_ _ | refine blk_drew ?_ | refine blk_alloc ?_ _)); exact BK105.out) hb); have n2_ := Aside0.mk (below_step (by repeat (first | (with_reducible first | exact HB.out | apply below_alloc | apply pw_below_drewN | apply below_drew1 | refine below_set ?_ GE104.out | refine below_set ?_ GE105.out) | exact HB.out)) hb); have n3_ := Aside0.mk (hbox); have n4_ := Aside0.mk ((by rw [hg]; exact (below_size (by repeat (first | (with_reducible first | exact HB.out | apply below_alloc | apply pw_below_drewN | apply below_drew1 | refine below_set ?_ GE104.out | refine below_set ?_ GE105.out) | exact HB.out))) : w.heap.size ≤ gb120)); have n5_ := Aside0.mk ((by rw [hg]; exact (below_size (by repeat (first | (with_reducible first | exact HB.out | apply below_alloc | apply pw_below_drewN | apply below_drew1 | refine below_set ?_ GE104.out | refine below_set ?_ GE105.out) | exact HB.out))) : w.heap.size ≤ gb120)); have n6_ := Aside0.mk ((by rw [hg]; exact Nat.ne_of_lt (blk_lt (g := gb104) (o := .cells #[.bool a0_0, .string a0_1, .string a0_2] 24 (0, 0)) (by (with_reducible repeat (first | refine blk_drewN ?_ _ | refine blk_drew ?_ | refine blk_alloc ?_ _)); exact BK104.out)) : gb104 ≠ gb120)); have n7_ := Aside0.mk ((by rw [hg]; exact Nat.ne_of_gt (blk_lt (g := gb104) (o := .cells #[.bool a0_0, .string a0_1, .string a0_2] 24 (0, 0)) (by (with_reducible repeat (first | refine blk_drewN ?_ _ | refine blk_drew ?_ | refine blk_alloc ?_ _)); exact BK104.out)) : gb120 ≠ gb104)); have n8_ := Aside0.mk ((by rw [hg]; exact Nat.ne_of_lt (blk_lt (g := gb105) (o := .cells #[.bool a1_0, .string a1_1, .string a1_2] 24 (0, 0)) (by (with_reducible repeat (first | refine blk_drewN ?_ _ | refine blk_drew ?_ | refine blk_alloc ?_ _)); exact BK105.out)) : gb105 ≠ gb120)); have n9_ := Aside0.mk ((by rw [hg]; exact Nat.ne_of_gt (blk_lt (g := gb105) (o := .cells #[.bool a1_0, .string a1_1, .string a1_2] 24 (0, 0)) (by (with_reducible repeat (first | refine blk_drewN ?_ _ | refine blk_drew ?_ | refine blk_alloc ?_ _)); exact BK105.out)) : gb120 ≠ gb105)); clear BK104; clear BK105; clear HB; have BK104 := n0_; have BK105 := n1_; have HB := n2_; have BK120 := n3_; have GW120 := n4_; have GE120 := n5_; have NB104_120 := n6_; have NB120_104 := n7_; have NB105_120 := n8_; have NB120_105 := n9_; clear n0_ n1_ n2_ n3_ n4_ n5_ n6_ n7_ n8_ n9_; clear hb hbox hg; have hnb66 := NB120_104.out; have hnc66 := NB104_120.out; have hnb67 := NB120_105.out; have hnc67 := NB105_120.out; have hcz68_0 : w65.cell? ⟨gb120, 0, none⟩ = some (.bool false) := (blk_cell BK120.out 0).trans rfl; have hcz68_1 : w65.cell? ⟨gb120, 1, none⟩ = some (.string (⟨#[]⟩ : ByteArray)) := (blk_cell BK120.out 1).trans rfl; have hcz68_2 : w65.cell? ⟨gb120, 2, none⟩ = some (.string (⟨#[]⟩ : ByteArray)) := (blk_cell BK120.out 2).trans rfl; have hfz68_0 := blk_frozen BK120.out 0; have hfz68_1 := blk_frozen BK120.out 1; have hfz68_2 := blk_frozen BK120.out 2; have hnb69 := NB104_105.out; have hnc69 := NB105_104.out; have hcz70_0 : w65.cell? ⟨gb104, 0, none⟩ = some (.bool a0_0) := (blk_cell BK104.out 0).trans rfl; have hcz70_1 : w65.cell? ⟨gb104, 1, none⟩ = some (.string a0_1) := (blk_cell BK104.out 1).trans rfl; have hcz70_2 : w65.cell? ⟨gb104, 2, none⟩ = some (.string a0_2) := (blk_cell BK104.out 2).trans rfl; have hfz70_0 := blk_frozen BK104.out 0; have hfz70_1 := blk_frozen BK104.out 1; have hfz70_2 := blk_frozen BK104.out 2))
                        go_meet
                        case rel => exact ⟨_, H', ⟨by have := HJ4.out; have := HJ25.out; first | omega | exact Nat.le_refl _⟩, ⟨by (with_reducible repeat (first | refine blk_drewN ?_ _ | refine blk_drew ?_ | refine blk_alloc ?_ _)); refine blk_far ?_ NB104_120.out _; (with_reducible repeat (first | refine blk_drewN ?_ _ | refine blk_drew ?_ | refine blk_alloc ?_ _)); refine blk_far ?_ NB104_120.out _; (with_reducible repeat (first | refine blk_drewN ?_ _ | refine blk_drew ?_ | refine blk_alloc ?_ _)); refine blk_far ?_ NB104_120.out _; (with_reducible repeat (first | refine blk_drewN ?_ _ | refine blk_drew ?_ | refine blk_alloc ?_ _)); exact BK104.out⟩, ⟨by (with_reducible repeat (first | refine blk_drewN ?_ _ | refine blk_drew ?_ | refine blk_alloc ?_ _)); refine blk_far ?_ NB105_120.out _; (with_reducible repeat (first | refine blk_drewN ?_ _ | refine blk_drew ?_ | refine blk_alloc ?_ _)); refine blk_far ?_ NB105_120.out _; (with_reducible repeat (first | refine blk_drewN ?_ _ | refine blk_drew ?_ | refine blk_alloc ?_ _)); refine blk_far ?_ NB105_120.out _; (with_reducible repeat (first | refine blk_drewN ?_ _ | refine blk_drew ?_ | refine blk_alloc ?_ _)); exact BK105.out⟩, ⟨by repeat (first | (with_reducible first | exact HB.out | apply below_alloc | apply pw_below_drewN | apply below_drew1 | refine below_set ?_ GE104.out | refine below_set ?_ GE105.out | refine below_set ?_ GE120.out) | exact HB.out)⟩⟩
                  · rw [if_neg c52] at H
                    exact absurd H (by simp)
                · rw [if_neg c50] at H
                  have c50b0 : (t112 == 0) = false := beq_eq_false_iff_ne.mpr c50
                  (try (have c33d0 : (t115) = false := by have c33d9 := c33b0; rw [c50b0] at c33d9; simpa using c33d9))
                  have c50b1 : (t112 != 0) = true := bne_iff_ne.mpr c50
                  (first | rw [c50b0] | (simp only [i64_w, i32_w]; rw [c50b0]) | skip)
                  have H' := Aside0.mk H
                  clear H
                  go_wp2
                  go_meet
                  case rel => exact ⟨_, H', ⟨by have := HJ4.out; have := HJ25.out; first | omega | exact Nat.le_refl _⟩, ⟨by (with_reducible repeat (first | refine blk_drewN ?_ _ | refine blk_drew ?_ | refine blk_alloc ?_ _)); exact BK104.out⟩, ⟨by (with_reducible repeat (first | refine blk_drewN ?_ _ | refine blk_drew ?_ | refine blk_alloc ?_ _)); exact BK105.out⟩, ⟨by repeat (first | (with_reducible first | exact HB.out | apply below_alloc | apply pw_below_drewN | apply below_drew1 | refine below_set ?_ GE104.out | refine below_set ?_ GE105.out) | exact HB.out)⟩⟩
              case rest =>
                clear HC49
                try clear c1
                try clear c2
                try clear p2
                try clear c3
                try clear c4
                try clear c5
                try clear c6
                try clear c8
                try clear c10
                try clear c11
                try clear c12
                try clear c17
                try clear c19
                try clear c21
                try clear c23
                try clear c27
                try clear c33
                try clear c33b0
                try clear c33b1
                try clear c33b2
                try clear c34
                try clear c37
                try clear c37b0
                try clear c37b1
                try clear c38
                try clear c41
                try clear c41b0
                try clear c41b1
                try clear c42
                try clear c45
                try clear c48
                try clear c50
                try clear c50b0
                try clear c50b1
                try clear c52
                try clear c52b0
                try clear c52b1
                try clear c53
                try clear c53b0
                try clear c54
                try clear c54b0
                try clear c54b1
                try clear c55
                try clear c55b0
                try clear c55b1
                try clear c55b2
                try clear c58
                try clear c59
                try clear c61
                try clear c66
                try clear c67
                try clear c69
                try clear hcz12_0
                try clear hcz12_1
                try clear hcz12_2
                try clear hcz13_0
                try clear hcz13_1
                try clear hcz13_2
                try clear hcz18_0
                try clear hcz18_1
                try clear hcz18_2
                try clear hcz19_0
                try clear hcz19_1
                try clear hcz19_2
                try clear hcz28_0
                try clear hcz28_1
                try clear hcz28_2
                try clear hcz30_0
                try clear hcz30_1
                try clear hcz30_2
                try clear hcz35_0
                try clear hcz35_1
                try clear hcz35_2
                try clear hcz39_0
                try clear hcz39_1
                try clear hcz39_2
                try clear hcz43_0
                try clear hcz43_1
                try clear hcz43_2
                try clear hcz46_0
                try clear hcz46_1
                try clear hcz46_2
                try clear hcz60_0
                try clear hcz60_1
                try clear hcz60_2
                try clear hcz62_0
                try clear hcz62_1
                try clear hcz62_2
                try clear hcz63_0
                try clear hcz63_1
                try clear hcz63_2
                try clear hcz68_0
                try clear hcz68_1
                try clear hcz68_2
                try clear hcz70_0
                try clear hcz70_1
                try clear hcz70_2
                try clear hfz12_0
                try clear hfz12_1
                try clear hfz12_2
                try clear hfz13_0
                try clear hfz13_1
                try clear hfz13_2
                try clear hfz18_0
                try clear hfz18_1
                try clear hfz18_2
                try clear hfz19_0
                try clear hfz19_1
                try clear hfz19_2
                try clear hfz28_0
                try clear hfz28_1
                try clear hfz28_2
                try clear hfz30_0
                try clear hfz30_1
                try clear hfz30_2
                try clear hfz35_0
                try clear hfz35_1
                try clear hfz35_2
                try clear hfz39_0
                try clear hfz39_1
                try clear hfz39_2
                try clear hfz43_0
                try clear hfz43_1
                try clear hfz43_2
                try clear hfz46_0
                try clear hfz46_1
                try clear hfz46_2
                try clear hfz60_0
                try clear hfz60_1
                try clear hfz60_2
                try clear hfz62_0
                try clear hfz62_1
                try clear hfz62_2
                try clear hfz63_0
                try clear hfz63_1
                try clear hfz63_2
                try clear hfz68_0
                try clear hfz68_1
                try clear hfz68_2
                try clear hfz70_0
                try clear hfz70_1
                try clear hfz70_2
                try clear p2
                obtain ⟨kq, HA, HJ48, BK104, BK105, HB⟩ := hcut
                cases kq with
                | zero => exact absurd HA.out (by simp [observatorylaw04_RationalTexts.j2])
                | succ kj48 =>
                  have H := HA.out
                  clear HA
                  simp only [observatorylaw04_RationalTexts.j2] at H
                  replace H := Option.bind_eq_some_iff.mp H
                  obtain ⟨⟨t121, t122, t123, t124⟩, A710, H⟩ := H
                  replace H : (if t124 = 0 then ((rational_Text.f t121 t122 t123).bind fun bt126 => (if t106 = true then (if bt126.2 = 0 then (some (bt126.1.toList == a2.toList)) else (none)) else (none))) else (if t106 = true then (if t124 = 5 then (some (!t121 && (t122.toList == ([] : List UInt8) && (t123.toList == ([] : List UInt8))))) else (none)) else (none))) = some r := H
                  have A71 := Aside0.mk A710
                  clear A710
                  by_cases c72 : t124 = 0
                  · rw [if_pos c72] at H
                    have c72b0 : (t124 == 0) = true := beq_iff_eq.mpr c72
                    have c72b1 : (t124 != 0) = false := bne_eq_false_iff_eq.mpr c72
                    clear c72
                    replace H := Option.bind_eq_some_iff.mp H
                    obtain ⟨⟨t126, t127⟩, A730, H⟩ := H
                    replace H : (if t106 = true then (if t127 = 0 then (some (t126.toList == a2.toList)) else (none)) else (none)) = some r := H
                    have A73 := Aside0.mk A730
                    clear A730
                    by_cases c74 : t106 = true
                    · subst c74
                      rw [if_pos rfl] at H
                      by_cases c75 : t127 = 0
                      · rw [if_pos c75] at H
                        have c75b0 : (t127 == 0) = true := beq_iff_eq.mpr c75
                        have c75b1 : (t127 != 0) = false := bne_eq_false_iff_eq.mpr c75
                        clear c75
                        obtain rfl := Option.some.inj H
                        go_wp2_with (first | ((with_reducible refine gate_callee (f := 19) rfl ?_); refine goesL_ (some 86) rfl rfl Tryz.func19 (by kernel_rfl) rfl #[.string a2] rfl (by (try simp only [List.map_toArray, List.map_cons, List.map_nil]); first | done | rfl | (simp only [List.length_drop, List.length_take]; rfl)) ?_; (with_reducible refine (rational_Parse.calls a2 t121 t122 t123 t124 _ ?side1 A71.out).mono ?_); (case side1 => exact Laid.below HLaid.out (by repeat (first | (with_reducible first | exact HB.out | apply below_alloc | apply pw_below_drewN | apply below_drew1 | refine below_set ?_ GE104.out | refine below_set ?_ GE105.out) | exact HB.out))); rintro e w76 ⟨rfl, hb⟩; refine ⟨_, rfl, ?_⟩; have n0_ := Aside0.mk (blk_below (g := gb104) (o := .cells #[.bool a0_0, .string a0_1, .string a0_2] 24 (0, 0)) (by (with_reducible repeat (first | refine blk_drewN ?_ _ | refine blk_drew ?_ | refine blk_alloc ?_ _)); exact BK104.out) hb); have n1_ := Aside0.mk (blk_below (g := gb105) (o := .cells #[.bool a1_0, .string a1_1, .string a1_2] 24 (0, 0)) (by (with_reducible repeat (first | refine blk_drewN ?_ _ | refine blk_drew ?_ | refine blk_alloc ?_ _)); exact BK105.out) hb); have n2_ := Aside0.mk (below_step (by repeat (first | (with_reducible first | exact HB.out | apply below_alloc | apply pw_below_drewN | apply below_drew1 | refine below_set ?_ GE104.out | refine below_set ?_ GE105.out) | exact HB.out)) hb); clear BK104; clear BK105; clear HB; have BK104 := n0_; have BK105 := n1_; have HB := n2_; clear n0_ n1_ n2_; (try clear hb); (try clear hb2); (try clear hk); (try clear hi)) | ((with_reducible refine gate_dst (N := 14) rfl ?_); (try (refine gate_guard (by rfl) ?_; dsimp only)); refine box_event ?hg (N := 14) ?hd (cs := #[.bool false, .string (⟨#[]⟩ : ByteArray), .string (⟨#[]⟩ : ByteArray)]) (t := 24) ?hr ?_; (case hd => rfl); (case hg => rfl); (case hr => first | (go_simp; done) | (go_simp; rfl)); intro gb125 hg w77 hbox hb; have n0_ := Aside0.mk (blk_below (g := gb104) (o := .cells #[.bool a0_0, .string a0_1, .string a0_2] 24 (0, 0)) (by (with_reducible repeat (first | refine blk_drewN ?_ _ | refine blk_drew ?_ | refine blk_alloc ?_ _)); exact BK104.out) hb); have n1_ := Aside0.mk (blk_below (g := gb105) (o := .cells #[.bool a1_0, .string a1_1, .string a1_2] 24 (0, 0)) (by (with_reducible repeat (first | refine blk_drewN ?_ _ | refine blk_drew ?_ | refine blk_alloc ?_ _)); exact BK105.out) hb); have n2_ := Aside0.mk (below_step (by repeat (first | (with_reducible first | exact HB.out | apply below_alloc | apply pw_below_drewN | apply below_drew1 | refine below_set ?_ GE104.out | refine below_set ?_ GE105.out) | exact HB.out)) hb); have n3_ := Aside0.mk (hbox); have n4_ := Aside0.mk ((by rw [hg]; exact (below_size (by repeat (first | (with_reducible first | exact HB.out | apply below_alloc | apply pw_below_drewN | apply below_drew1 | refine below_set ?_ GE104.out | refine below_set ?_ GE105.out) | exact HB.out))) : w.heap.size ≤ gb125)); have n5_ := Aside0.mk ((by rw [hg]; exact (below_size (by repeat (first | (with_reducible first | exact HB.out | apply below_alloc | apply pw_below_drewN | apply below_drew1 | refine below_set ?_ GE104.out | refine below_set ?_ GE105.out) | exact HB.out))) : w.heap.size ≤ gb125)); have n6_ := Aside0.mk ((by rw [hg]; exact Nat.ne_of_lt (blk_lt (g := gb104) (o := .cells #[.bool a0_0, .string a0_1, .string a0_2] 24 (0, 0)) (by (with_reducible repeat (first | refine blk_drewN ?_ _ | refine blk_drew ?_ | refine blk_alloc ?_ _)); exact BK104.out)) : gb104 ≠ gb125)); have n7_ := Aside0.mk ((by rw [hg]; exact Nat.ne_of_gt (blk_lt (g := gb104) (o := .cells #[.bool a0_0, .string a0_1, .string a0_2] 24 (0, 0)) (by (with_reducible repeat (first | refine blk_drewN ?_ _ | refine blk_drew ?_ | refine blk_alloc ?_ _)); exact BK104.out)) : gb125 ≠ gb104)); have n8_ := Aside0.mk ((by rw [hg]; exact Nat.ne_of_lt (blk_lt (g := gb105) (o := .cells #[.bool a1_0, .string a1_1, .string a1_2] 24 (0, 0)) (by (with_reducible repeat (first | refine blk_drewN ?_ _ | refine blk_drew ?_ | refine blk_alloc ?_ _)); exact BK105.out)) : gb105 ≠ gb125)); have n9_ := Aside0.mk ((by rw [hg]; exact Nat.ne_of_gt (blk_lt (g := gb105) (o := .cells #[.bool a1_0, .string a1_1, .string a1_2] 24 (0, 0)) (by (with_reducible repeat (first | refine blk_drewN ?_ _ | refine blk_drew ?_ | refine blk_alloc ?_ _)); exact BK105.out)) : gb125 ≠ gb105)); clear BK104; clear BK105; clear HB; have BK104 := n0_; have BK105 := n1_; have HB := n2_; have BK125 := n3_; have GW125 := n4_; have GE125 := n5_; have NB104_125 := n6_; have NB125_104 := n7_; have NB105_125 := n8_; have NB125_105 := n9_; clear n0_ n1_ n2_ n3_ n4_ n5_ n6_ n7_ n8_ n9_; clear hb hbox hg; have hnb78 := NB125_104.out; have hnc78 := NB104_125.out; have hnb79 := NB125_105.out; have hnc79 := NB105_125.out; have hcz80_0 : w77.cell? ⟨gb125, 0, none⟩ = some (.bool false) := (blk_cell BK125.out 0).trans rfl; have hcz80_1 : w77.cell? ⟨gb125, 1, none⟩ = some (.string (⟨#[]⟩ : ByteArray)) := (blk_cell BK125.out 1).trans rfl; have hcz80_2 : w77.cell? ⟨gb125, 2, none⟩ = some (.string (⟨#[]⟩ : ByteArray)) := (blk_cell BK125.out 2).trans rfl; have hfz80_0 := blk_frozen BK125.out 0; have hfz80_1 := blk_frozen BK125.out 1; have hfz80_2 := blk_frozen BK125.out 2) | ((with_reducible refine gate_callee (f := 17) rfl ?_); refine goesL_ (some 103) rfl rfl Tryz.func17 (by kernel_rfl) rfl #[.agg #[.bool t121, .string t122, .string t123]] rfl (by (try simp only [List.map_toArray, List.map_cons, List.map_nil]); first | done | rfl | (simp only [List.length_drop, List.length_take]; rfl)) ?_; (with_reducible refine (rational_Text.calls t121 t122 t123 t126 t127 _ ?side1 A73.out).mono ?_); (case side1 => exact Laid.below HLaid.out (by repeat (first | (with_reducible first | exact HB.out | apply below_alloc | apply pw_below_drewN | apply below_drew1 | refine below_set ?_ GE104.out | refine below_set ?_ GE105.out | refine below_set ?_ GE125.out) | exact HB.out))); rintro e w81 ⟨rfl, hb⟩; refine ⟨_, rfl, ?_⟩; have n0_ := Aside0.mk (blk_below (g := gb104) (o := .cells #[.bool a0_0, .string a0_1, .string a0_2] 24 (0, 0)) (by (with_reducible repeat (first | refine blk_drewN ?_ _ | refine blk_drew ?_ | refine blk_alloc ?_ _)); refine blk_far ?_ NB104_125.out _; (with_reducible repeat (first | refine blk_drewN ?_ _ | refine blk_drew ?_ | refine blk_alloc ?_ _)); refine blk_far ?_ NB104_125.out _; (with_reducible repeat (first | refine blk_drewN ?_ _ | refine blk_drew ?_ | refine blk_alloc ?_ _)); refine blk_far ?_ NB104_125.out _; (with_reducible repeat (first | refine blk_drewN ?_ _ | refine blk_drew ?_ | refine blk_alloc ?_ _)); exact BK104.out) hb); have n1_ := Aside0.mk (blk_below (g := gb105) (o := .cells #[.bool a1_0, .string a1_1, .string a1_2] 24 (0, 0)) (by (with_reducible repeat (first | refine blk_drewN ?_ _ | refine blk_drew ?_ | refine blk_alloc ?_ _)); refine blk_far ?_ NB105_125.out _; (with_reducible repeat (first | refine blk_drewN ?_ _ | refine blk_drew ?_ | refine blk_alloc ?_ _)); refine blk_far ?_ NB105_125.out _; (with_reducible repeat (first | refine blk_drewN ?_ _ | refine blk_drew ?_ | refine blk_alloc ?_ _)); refine blk_far ?_ NB105_125.out _; (with_reducible repeat (first | refine blk_drewN ?_ _ | refine blk_drew ?_ | refine blk_alloc ?_ _)); exact BK105.out) hb); have n2_ := Aside0.mk (blk_below (g := gb125) (o := .cells #[.bool t121, .string t122, .string t123] 24 (0, 0)) (by (with_reducible repeat (first | refine blk_drewN ?_ _ | refine blk_drew ?_ | refine blk_alloc ?_ _)); refine blk_put (cs := #[.bool t121, .string t122, .string (⟨#[]⟩ : ByteArray)]) ?_ 2 _ rfl; (with_reducible repeat (first | refine blk_drewN ?_ _ | refine blk_drew ?_ | refine blk_alloc ?_ _)); refine blk_put (cs := #[.bool t121, .string (⟨#[]⟩ : ByteArray), .string (⟨#[]⟩ : ByteArray)]) ?_ 1 _ rfl; (with_reducible repeat (first | refine blk_drewN ?_ _ | refine blk_drew ?_ | refine blk_alloc ?_ _)); refine blk_put (cs := #[.bool false, .string (⟨#[]⟩ : ByteArray), .string (⟨#[]⟩ : ByteArray)]) ?_ 0 _ rfl; (with_reducible repeat (first | refine blk_drewN ?_ _ | refine blk_drew ?_ | refine blk_alloc ?_ _)); exact BK125.out) hb); have n3_ := Aside0.mk (below_step (by repeat (first | (with_reducible first | exact HB.out | apply below_alloc | apply pw_below_drewN | apply below_drew1 | refine below_set ?_ GE104.out | refine below_set ?_ GE105.out | refine below_set ?_ GE125.out) | exact HB.out)) hb); clear BK104; clear BK105; clear BK125; clear HB; have BK104 := n0_; have BK105 := n1_; have BK125 := n2_; have HB := n3_; clear n0_ n1_ n2_ n3_; (try clear hb); (try clear hb2); (try clear hk); (try clear hi)))
                        go_ret
                        exact ⟨by first | rfl | (simp [errW_none, errW_some] <;> rfl) | (simp [*, errW_none, errW_some] <;> rfl), by repeat (first | (with_reducible first | exact HB.out | apply below_alloc | apply pw_below_drewN | apply below_drew1 | refine below_set ?_ GE104.out | refine below_set ?_ GE105.out | refine below_set ?_ GE125.out) | exact HB.out)⟩
                      · rw [if_neg c75] at H
                        exact absurd H (by simp)
                    · replace c74 := Bool.eq_false_iff.mpr c74
                      subst c74
                      have H1 : (none) = some r := by rw [if_neg (show ¬ (false = true) by decide)] at H; exact H
                      clear H
                      have H := H1
                      clear H1
                      exact absurd H (by simp)
                  · rw [if_neg c72] at H
                    have c72b0 : (t124 == 0) = false := beq_eq_false_iff_ne.mpr c72
                    have c72b1 : (t124 != 0) = true := bne_iff_ne.mpr c72
                    by_cases c82 : t106 = true
                    · subst c82
                      rw [if_pos rfl] at H
                      by_cases c83 : t124 = 5
                      · rw [if_pos c83] at H
                        have c83b0 : (t124 == 5) = true := beq_iff_eq.mpr c83
                        have c83b1 : (t124 != 5) = false := bne_eq_false_iff_eq.mpr c83
                        clear c83
                        obtain rfl := Option.some.inj H
                        go_wp2_with (first | ((with_reducible refine gate_callee (f := 19) rfl ?_); refine goesL_ (some 86) rfl rfl Tryz.func19 (by kernel_rfl) rfl #[.string a2] rfl (by (try simp only [List.map_toArray, List.map_cons, List.map_nil]); first | done | rfl | (simp only [List.length_drop, List.length_take]; rfl)) ?_; (with_reducible refine (rational_Parse.calls a2 t121 t122 t123 t124 _ ?side1 A71.out).mono ?_); (case side1 => exact Laid.below HLaid.out (by repeat (first | (with_reducible first | exact HB.out | apply below_alloc | apply pw_below_drewN | apply below_drew1 | refine below_set ?_ GE104.out | refine below_set ?_ GE105.out) | exact HB.out))); rintro e w84 ⟨rfl, hb⟩; refine ⟨_, rfl, ?_⟩; have n0_ := Aside0.mk (blk_below (g := gb104) (o := .cells #[.bool a0_0, .string a0_1, .string a0_2] 24 (0, 0)) (by (with_reducible repeat (first | refine blk_drewN ?_ _ | refine blk_drew ?_ | refine blk_alloc ?_ _)); exact BK104.out) hb); have n1_ := Aside0.mk (blk_below (g := gb105) (o := .cells #[.bool a1_0, .string a1_1, .string a1_2] 24 (0, 0)) (by (with_reducible repeat (first | refine blk_drewN ?_ _ | refine blk_drew ?_ | refine blk_alloc ?_ _)); exact BK105.out) hb); have n2_ := Aside0.mk (below_step (by repeat (first | (with_reducible first | exact HB.out | apply below_alloc | apply pw_below_drewN | apply below_drew1 | refine below_set ?_ GE104.out | refine below_set ?_ GE105.out) | exact HB.out)) hb); clear BK104; clear BK105; clear HB; have BK104 := n0_; have BK105 := n1_; have HB := n2_; clear n0_ n1_ n2_; (try clear hb); (try clear hb2); (try clear hk); (try clear hi)) | ((with_reducible refine gate_dst (N := 14) rfl ?_); (try (refine gate_guard (by rfl) ?_; dsimp only)); refine box_event ?hg (N := 14) ?hd (cs := #[.bool false, .string (⟨#[]⟩ : ByteArray), .string (⟨#[]⟩ : ByteArray)]) (t := 24) ?hr ?_; (case hd => rfl); (case hg => rfl); (case hr => first | (go_simp; done) | (go_simp; rfl)); intro gb125 hg w85 hbox hb; have n0_ := Aside0.mk (blk_below (g := gb104) (o := .cells #[.bool a0_0, .string a0_1, .string a0_2] 24 (0, 0)) (by (with_reducible repeat (first | refine blk_drewN ?_ _ | refine blk_drew ?_ | refine blk_alloc ?_ _)); exact BK104.out) hb); have n1_ := Aside0.mk (blk_below (g := gb105) (o := .cells #[.bool a1_0, .string a1_1, .string a1_2] 24 (0, 0)) (by (with_reducible repeat (first | refine blk_drewN ?_ _ | refine blk_drew ?_ | refine blk_alloc ?_ _)); exact BK105.out) hb); have n2_ := Aside0.mk (below_step (by repeat (first | (with_reducible first | exact HB.out | apply below_alloc | apply pw_below_drewN | apply below_drew1 | refine below_set ?_ GE104.out | refine below_set ?_ GE105.out) | exact HB.out)) hb); have n3_ := Aside0.mk (hbox); have n4_ := Aside0.mk ((by rw [hg]; exact (below_size (by repeat (first | (with_reducible first | exact HB.out | apply below_alloc | apply pw_below_drewN | apply below_drew1 | refine below_set ?_ GE104.out | refine below_set ?_ GE105.out) | exact HB.out))) : w.heap.size ≤ gb125)); have n5_ := Aside0.mk ((by rw [hg]; exact (below_size (by repeat (first | (with_reducible first | exact HB.out | apply below_alloc | apply pw_below_drewN | apply below_drew1 | refine below_set ?_ GE104.out | refine below_set ?_ GE105.out) | exact HB.out))) : w.heap.size ≤ gb125)); have n6_ := Aside0.mk ((by rw [hg]; exact Nat.ne_of_lt (blk_lt (g := gb104) (o := .cells #[.bool a0_0, .string a0_1, .string a0_2] 24 (0, 0)) (by (with_reducible repeat (first | refine blk_drewN ?_ _ | refine blk_drew ?_ | refine blk_alloc ?_ _)); exact BK104.out)) : gb104 ≠ gb125)); have n7_ := Aside0.mk ((by rw [hg]; exact Nat.ne_of_gt (blk_lt (g := gb104) (o := .cells #[.bool a0_0, .string a0_1, .string a0_2] 24 (0, 0)) (by (with_reducible repeat (first | refine blk_drewN ?_ _ | refine blk_drew ?_ | refine blk_alloc ?_ _)); exact BK104.out)) : gb125 ≠ gb104)); have n8_ := Aside0.mk ((by rw [hg]; exact Nat.ne_of_lt (blk_lt (g := gb105) (o := .cells #[.bool a1_0, .string a1_1, .string a1_2] 24 (0, 0)) (by (with_reducible repeat (first | refine blk_drewN ?_ _ | refine blk_drew ?_ | refine blk_alloc ?_ _)); exact BK105.out)) : gb105 ≠ gb125)); have n9_ := Aside0.mk ((by rw [hg]; exact Nat.ne_of_gt (blk_lt (g := gb105) (o := .cells #[.bool a1_0, .string a1_1, .string a1_2] 24 (0, 0)) (by (with_reducible repeat (first | refine blk_drewN ?_ _ | refine blk_drew ?_ | refine blk_alloc ?_ _)); exact BK105.out)) : gb125 ≠ gb105)); clear BK104; clear BK105; clear HB; have BK104 := n0_; have BK105 := n1_; have HB := n2_; have BK125 := n3_; have GW125 := n4_; have GE125 := n5_; have NB104_125 := n6_; have NB125_104 := n7_; have NB105_125 := n8_; have NB125_105 := n9_; clear n0_ n1_ n2_ n3_ n4_ n5_ n6_ n7_ n8_ n9_; clear hb hbox hg; have hnb86 := NB125_104.out; have hnc86 := NB104_125.out; have hnb87 := NB125_105.out; have hnc87 := NB105_125.out; have hcz88_0 : w85.cell? ⟨gb125, 0, none⟩ = some (.bool false) := (blk_cell BK125.out 0).trans rfl; have hcz88_1 : w85.cell? ⟨gb125, 1, none⟩ = some (.string (⟨#[]⟩ : ByteArray)) := (blk_cell BK125.out 1).trans rfl; have hcz88_2 : w85.cell? ⟨gb125, 2, none⟩ = some (.string (⟨#[]⟩ : ByteArray)) := (blk_cell BK125.out 2).trans rfl; have hfz88_0 := blk_frozen BK125.out 0; have hfz88_1 := blk_frozen BK125.out 1; have hfz88_2 := blk_frozen BK125.out 2))
                        go_ret
                        exact ⟨by first | rfl | (simp [errW_none, errW_some] <;> rfl) | (simp [*, errW_none, errW_some] <;> rfl), by repeat (first | (with_reducible first | exact HB.out | apply below_alloc | apply pw_below_drewN | apply below_drew1 | refine below_set ?_ GE104.out | refine below_set ?_ GE105.out | refine below_set ?_ GE125.out) | exact HB.out)⟩
                      · rw [if_neg c83] at H
                        exact absurd H (by simp)
                    · replace c82 := Bool.eq_false_iff.mpr c82
                      subst c82
                      have H1 : (none) = some r := by rw [if_neg (show ¬ (false = true) by decide)] at H; exact H
                      clear H
                      have H := H1
                      clear H1
                      exact absurd H (by simp)
end Go.Proofs.YthpomhboogcigaaGreatDoor.XLTx
end
section -- FinRationalTexts
namespace Go.Proofs.YthpomhboogcigaaGreatDoor
open Go.RowKit Go.Proofs.YthpomhboogcigaaGreatDoorW.PrintWords Go.Proofs.YthpomhboogcigaaGreatDoorW.PrintMore Go.Proofs.YthpomhboogcigaaGreatDoorW.PrintLast
set_option linter.unusedVariables false
set_option linter.unusedSimpArgs false
def fewB (x : XLTx.S24) : Bool := decide (x.f1.size ≤ 40) && decide (x.f2.size ≤ 40)
theorem few_loop (l : List XLTx.S24) (hl : l.length ≤ 100) : ∀ (d i k : Nat), i + d = l.length → d < k → XLTx.observatoryref04_Few.l0 k 40 l (i : Int) = some ((l.drop i).all fewB)
  | 0, i, k, hi, hk => by
    obtain ⟨k, rfl⟩ : ∃ m, k = m + 1 := ⟨k - 1, by omega⟩
    simp only [XLTx.observatoryref04_Few.l0]
    rw [if_neg (by omega), List.drop_eq_nil_of_le (by omega)]; rfl
  | d + 1, i, k, hi, hk => by
    obtain ⟨k, rfl⟩ : ∃ m, k = m + 1 := ⟨k - 1, by omega⟩
    have hr : XLTx.rd_T24 l (i : Int) = l[i]'(by omega) := by simp [XLTx.rd_T24, List.getElem?_eq_getElem (show i < l.length by omega)]
    have hw : wrap64 ((i : Int) + 1) = ((i + 1 : Nat) : Int) := by unfold wrap64; omega
    simp only [XLTx.observatoryref04_Few.l0]
    rw [if_pos (by omega), if_pos (by omega), hr, hw, few_loop l hl d (i + 1) k (by omega) (by omega), List.drop_eq_getElem_cons (show i < l.length by omega), List.all_cons]
    generalize l[i]'(by omega) = x
    unfold fewB
    by_cases h1 : x.f1.size ≤ 40
    · rw [if_neg (by omega), decide_eq_true h1]
      by_cases h2 : x.f2.size ≤ 40
      · rw [if_neg (by omega), decide_eq_true h2]; rfl
      · rw [if_pos (by omega), decide_eq_false h2]; rfl
    · rw [if_pos (by omega), decide_eq_false h1]; rfl
theorem few_f (k : Nat) (l : List XLTx.S24) (hl : l.length ≤ 100) (hk : l.length < k) : XLTx.observatorylaw04_few.f k l = some (l.all fewB) := by
  unfold XLTx.observatorylaw04_few.f XLTx.observatoryref04_Few.f
  have h := few_loop l hl l.length 0 k (by omega) hk
  rw [List.drop_zero] at h
  rw [show (0 : Int) = ((0 : Nat) : Int) from rfl, h]; rfl
theorem eqR (x x' : Bool) (y y' z z' : ByteArray) : (x == x' && (y.toList == y'.toList && (z.toList == z'.toList))) = decide (((x, y, z) : R3) = (x', y', z')) := by
  rw [toList_eq, toList_eq, Bool.eq_iff_iff]
  simp [Prod.mk.injEq]
theorem nosL : (noS : ByteArray).toList = [] := Lib.toList_data _
theorem texts_j2 (k : Nat) (t : ByteArray) (ht : t.size ≤ 90) : XLTx.observatorylaw04_RationalTexts.j2 (k + 1) t true = some true := by
  simp only [XLTx.observatorylaw04_RationalTexts.j2]
  rw [show rational_Parse.f t = some (flat (parseR t)) from if_pos (by omega)]
  simp only [Option.bind_some]
  rcases parse_cases t with ⟨h1, h2, h3⟩ | h
  · rw [show (flat (parseR t)).2.2.2 = 0 from h1, if_pos rfl]
    rw [show rational_Text.f (flat (parseR t)).1 (flat (parseR t)).2.1 (flat (parseR t)).2.2.1 = some (t, 0) from congrArg some h3]
    simp
  · rw [h]
    simp [flat, noR, nosL]
theorem pureTexts (a : Bool) (b c : ByteArray) (a' : Bool) (b' c' : ByteArray) (t : ByteArray) : XLTx.observatorylaw04_RationalTexts.f 10 a b c a' b' c' t = some true := by
  unfold XLTx.observatorylaw04_RationalTexts.f observatorylaw04_head.f
  rw [few_f 10 _ (by simp) (by simp)]
  simp only [Option.bind_some]
  generalize hf : List.all _ fewB = f
  cases f with
  | false => rw [if_neg (by simp)]; rfl
  | true =>
    rw [if_pos rfl]
    by_cases ht : t.size ≤ 90
    · rw [decide_eq_false (show ¬ ((t.size : Int) > 90) by omega)]
      have J2 := texts_j2 7 t ht
      simp only [XLTx.observatorylaw04_RationalTexts.j0, rational_Text.f, rational_Valid.f, Option.bind_some, XLTx.observatorylaw04_RationalTexts.j1, J2]
      cases hv : validR (a, b, c) with
      | false =>
        have e : textR (a, b, c) = (noS, 1) := by unfold textR; rw [hv]; rfl
        rw [e]
        simp [nosL]
      | true =>
        have V := validR_iff.1 hv
        have e := textR_ok V
        have hp : rational_Parse.f (baL (textL (a, b, c))) = some (flat ((a, b, c), 0)) := by
          unfold rational_Parse.f
          rw [parse_text V, if_pos]
          have := text_size V
          rw [← size_list, baL_list]; omega
        rw [e]
        simp only [hp, Option.bind_some, flat, eqR, beq_self_eq_true, Bool.not_true, Bool.or_self, Bool.false_eq_true, if_false, if_true, bne_self_eq_false]
        cases hv' : validR (a', b', c') with
        | false =>
          have e' : textR (a', b', c') = (noS, 1) := by unfold textR; rw [hv']; rfl
          rw [e']; simp
        | true =>
          have V' := validR_iff.1 hv'
          rw [textR_ok V']
          have hq : ((baL (textL (a, b, c))).toList == (baL (textL (a', b', c'))).toList) = decide (((a, b, c) : R3) = (a', b', c')) := by
            rw [Lib.toList_data, Lib.toList_data, baL_list, baL_list, Bool.eq_iff_iff, beq_iff_eq, decide_eq_true_eq]
            exact text_inj V V'
          rw [hq]; simp
    · rw [decide_eq_true (show (t.size : Int) > 90 by omega)]; rfl
theorem finRationalTexts (a : Bool) (b c : ByteArray) (a' : Bool) (b' c' : ByteArray) (t : ByteArray) (w : World) (hL : Laid w) (_w : t.size ≤ 140737488351232) :
    Calls Tryz.prog 8 #[.agg #[.bool a, .string b, .string c], .agg #[.bool a', .string b', .string c'], .string t] w fun e w' => e = .returned (.bool true) ∧ Below w.heap.size w w' :=
  XLTx.observatorylaw04_RationalTexts.calls 10 a b c a' b' c' t true w hL (pureTexts a b c a' b' c' t)
end Go.Proofs.YthpomhboogcigaaGreatDoor
end

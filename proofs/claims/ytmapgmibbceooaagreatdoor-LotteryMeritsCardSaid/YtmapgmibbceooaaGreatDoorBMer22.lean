/- The texts of this claim, laid together by a program of this session (bundle.py). -/
import Derived.Test.YtmapgmibbceooaaGreatDoorBMer21
section -- XLMer2
/- Written by a program of this session (xprint.sh), out of the translation: Lean functions that tell what Go functions of the program tell, and the proofs that they do, over the given callees; no condition but what each theorem states. -/
namespace Go.Proofs.YtmapgmibbceooaaGreatDoor.XLMer
open Go.RowKit Go.Proofs.YtmapgmibbceooaaGreatDoorW.PrintWords Go.Proofs.YtmapgmibbceooaaGreatDoorW.PrintLast Go.Proofs.YtmapgmibbceooaaGreatDoorW.PrintMore
attribute [local go_sem] max2_int min2_int max_two min_two max_three min_three max_four min_four   -- for this text's walks alone
set_option linter.unusedVariables false
set_option linter.unusedSimpArgs false
mutual
def observatorylaw29_LotteryMerits.j0 : Nat → List Int → List Int → List Int → Int → Int → Int → Bool → Bool → Option (Bool)
  | 0, _, _, _, _, _, _, _, _ => none
  | k + 1, x0, x1, x2, x3, x4, x5, x13, x36 => if x36 = true then (some x13) else ((lottery_Tickets.f x0 x1 x2).bind fun bt103 => (if bt103.2 = 0 then (observatorylaw29_LotteryMerits.j1 k x0 x1 x2 x3 x4 x5 x13 bt103.1 bt103.2 ((bt103.1.length : Int) != (x1.length : Int))) else (observatorylaw29_LotteryMerits.j1 k x0 x1 x2 x3 x4 x5 x13 bt103.1 bt103.2 true)))
def observatorylaw29_LotteryMerits.j1 : Nat → List Int → List Int → List Int → Int → Int → Int → Bool → List Int → Int → Bool → Option (Bool)
  | 0, _, _, _, _, _, _, _, _, _, _ => none
  | k + 1, x0, x1, x2, x3, x4, x5, x13, x14, x15, x53 => if x53 = true then (if x13 = true then (some (x15 == 1)) else (none)) else (if (x1.length : Int) = 0 then (none) else ((some (([] : List Int) : List Int)).bind fun y107 => (if y107.length + x2.length < 17592186044416 then ((some (y107 ++ x2 : List Int)).bind fun y110 => (if 0 ≤ (Int.tmod (wrap64 (x3)) (x1.length : Int)) then (if (Int.tmod (wrap64 (x3)) (x1.length : Int)) < (y110.length : Int) then ((lottery_Tickets.f x0 x1 (y110.set ((Int.tmod (wrap64 (x3)) (x1.length : Int)) : Int).toNat (mn 10000 (wrap64 ((rd y110 (Int.tmod (wrap64 (x3)) (x1.length : Int))) + (wrap64 (x4))))))).bind fun bt115 => (if bt115.2 = 0 then (if (bt115.1.length : Int) = (x14.length : Int) then (if (Int.tmod (wrap64 (x3)) (x1.length : Int)) < (bt115.1.length : Int) then (if (Int.tmod (wrap64 (x3)) (x1.length : Int)) < (x14.length : Int) then (observatorylaw29_LotteryMerits.j2 k x0 x1 x2 x5 x13 x14 (Int.tmod (wrap64 (x3)) (x1.length : Int)) bt115.1 (decide ((rd bt115.1 (Int.tmod (wrap64 (x3)) (x1.length : Int))) < (rd x14 (Int.tmod (wrap64 (x3)) (x1.length : Int)))))) else (none)) else (none)) else (observatorylaw29_LotteryMerits.j2 k x0 x1 x2 x5 x13 x14 (Int.tmod (wrap64 (x3)) (x1.length : Int)) bt115.1 true)) else (observatorylaw29_LotteryMerits.j2 k x0 x1 x2 x5 x13 x14 (Int.tmod (wrap64 (x3)) (x1.length : Int)) bt115.1 true))) else (none)) else (none))) else (none))))
def observatorylaw29_LotteryMerits.j2 : Nat → List Int → List Int → List Int → Int → Bool → List Int → Int → List Int → Bool → Option (Bool)
  | 0, _, _, _, _, _, _, _, _, _ => none
  | k + 1, x0, x1, x2, x5, x13, x14, x16, x18, x104 => if x104 = true then (none) else ((some (([] : List Int) : List Int)).bind fun y121 => (if y121.length + x2.length < 17592186044416 then (observatorylaw29_LotteryMerits.l0 k x0 x1 x13 x14 x16 x18 (wrap64 (1 + (Int.tmod (wrap64 (x5)) 4))) (y121 ++ x2) 0) else (none)))
def observatorylaw29_LotteryMerits.l0 : Nat → List Int → List Int → Bool → List Int → Int → List Int → Int → List Int → Int → Option (Bool)
  | 0, _, _, _, _, _, _, _, _, _ => none
  | k + 1, x0, x1, x13, x14, x16, x18, x20, x21, x22 => if x22 < (x1.length : Int) then (if 0 ≤ x22 then (if 0 ≤ x16 then (if x16 < (x1.length : Int) then (if (rd x1 x22) = (rd x1 x16) then (observatorylaw29_LotteryMerits.j4 k x0 x1 x13 x14 x16 x18 x20 x21 x22 false) else (if x22 < (x14.length : Int) then (if x22 < (x18.length : Int) then (observatorylaw29_LotteryMerits.j4 k x0 x1 x13 x14 x16 x18 x20 x21 x22 ((rd x14 x22) != (rd x18 x22))) else (none)) else (none))) else (none)) else (none)) else (none)) else (observatorylaw29_LotteryMerits.l1 k x0 x1 x13 x14 x21 0)
def observatorylaw29_LotteryMerits.j4 : Nat → List Int → List Int → Bool → List Int → Int → List Int → Int → List Int → Int → Bool → Option (Bool)
  | 0, _, _, _, _, _, _, _, _, _, _ => none
  | k + 1, x0, x1, x13, x14, x16, x18, x20, x21, x22, x137 => if x137 = true then (none) else (if 0 ≤ x22 then (if x22 < (x1.length : Int) then (if 0 ≤ x16 then (if x16 < (x1.length : Int) then (if (rd x1 x22) = (rd x1 x16) then (if x22 < (x21.length : Int) then (observatorylaw29_LotteryMerits.l0 k x0 x1 x13 x14 x16 x18 x20 (x21.set (x22 : Int).toNat (wrap64 ((rd x21 x22) * x20))) (wrap64 (x22 + 1))) else (none)) else (observatorylaw29_LotteryMerits.l0 k x0 x1 x13 x14 x16 x18 x20 x21 (wrap64 (x22 + 1)))) else (none)) else (none)) else (none)) else (none))
def observatorylaw29_LotteryMerits.l1 : Nat → List Int → List Int → Bool → List Int → List Int → Int → Option (Bool)
  | 0, _, _, _, _, _, _ => none
  | k + 1, x0, x1, x13, x14, x21, x23 => if x23 < (x21.length : Int) then (if 0 ≤ x23 then (if (rd x21 x23) > 10000 then (some x13) else (observatorylaw29_LotteryMerits.l1 k x0 x1 x13 x14 x21 (wrap64 (x23 + 1)))) else (none)) else ((lottery_Tickets.f x0 x1 x21).bind fun bt136 => (if x13 = true then (if bt136.2 = 0 then ((observatoryref29_Ints.f x14 bt136.1).bind fun t140 => (some t140)) else (none)) else (none)))
end
def observatorylaw29_LotteryMerits.f (k : Nat) (l0 : List Int) (l1 : List Int) (l2 : List Int) (a3 : Int) (a4 : Int) (a5 : Int) : Option (Bool) := (observatorylaw29_head.f).bind fun t101 => ((observatoryref29_Few.f l0 l1 l2).bind fun t102 => (if t102 = true then (observatorylaw29_LotteryMerits.j0 k l0 l1 l2 a3 a4 a5 t101 ((l1.length : Int) == 0)) else (observatorylaw29_LotteryMerits.j0 k l0 l1 l2 a3 a4 a5 t101 true)))
set_option maxHeartbeats 8000000 in
set_option maxRecDepth 100000 in
theorem observatorylaw29_LotteryMerits.calls (k : Nat) (A0 : Option Addr) (c0 : Nat) (l0 : List Int) (A1 : Option Addr) (c1 : Nat) (l1 : List Int) (A2 : Option Addr) (c2 : Nat) (l2 : List Int) (a3 : Int) (a4 : Int) (a5 : Int) (r : Bool) (w : World) (hr0 : Kd.C (Kd.int .i64) w A0 l0.length l0) (hc0 : l0.length ≤ c0) (hr1 : Kd.C (Kd.int .i64) w A1 l1.length l1) (hc1 : l1.length ≤ c1) (hr2 : Kd.C (Kd.int .i64) w A2 l2.length l2) (hc2 : l2.length ≤ c2) (hL : Laid w) (h : observatorylaw29_LotteryMerits.f k l0 l1 l2 a3 a4 a5 = some r) :
    Calls Tryz.prog 7 #[.slice A0 l0.length c0, .slice A1 l1.length c1, .slice A2 l2.length c2, .int .u8 a3, .int .u16 a4, .int .u8 a5] w fun e w' => e = .returned (.bool r) ∧ Below w.heap.size w w' := by
  have HLaid := Aside0.mk hL
  clear hL
  have HR0 := Aside0.mk hr0
  have HC0 := Aside0.mk hc0
  clear hr0 hc0
  have HR1 := Aside0.mk hr1
  have HC1 := Aside0.mk hc1
  clear hr1 hc1
  have HR2 := Aside0.mk hr2
  have HC2 := Aside0.mk hc2
  clear hr2 hc2
  have HB := Aside0.mk (Below.refl w.heap.size w)
  have H : ((observatorylaw29_head.f).bind fun t101 => ((observatoryref29_Few.f l0 l1 l2).bind fun t102 => (if t102 = true then (observatorylaw29_LotteryMerits.j0 k l0 l1 l2 a3 a4 a5 t101 ((l1.length : Int) == 0)) else (observatorylaw29_LotteryMerits.j0 k l0 l1 l2 a3 a4 a5 t101 true)))) = some r := h
  clear h
  replace H := Option.bind_eq_some_iff.mp H
  obtain ⟨t101, A70, H⟩ := H
  replace H : ((observatoryref29_Few.f l0 l1 l2).bind fun t102 => (if t102 = true then (observatorylaw29_LotteryMerits.j0 k l0 l1 l2 a3 a4 a5 t101 ((l1.length : Int) == 0)) else (observatorylaw29_LotteryMerits.j0 k l0 l1 l2 a3 a4 a5 t101 true))) = some r := H
  have A7 := Aside0.mk A70
  clear A70
  have HC8 := Aside0.mk H
  clear H
  go_enter Tryz.func7, Tryz.ntmps7
  go_upto_region 2 with (first | (go_at_call 10; (with_reducible refine (observatorylaw29_head.calls  t101 _ ?side1 A7.out).mono ?_); (case side1 => exact Laid.below HLaid.out (by repeat (first | (with_reducible first | exact HB.out | apply below_alloc | apply pw_below_drewN | apply below_drew1) | exact HB.out))); rintro e w9 ⟨rfl, hb⟩; have n0_ := Aside0.mk (below_step (by repeat (first | (with_reducible first | exact HB.out | apply below_alloc | apply pw_below_drewN | apply below_drew1) | exact HB.out)) hb); clear HB; have HB := n0_; clear n0_; (try clear hb); (try clear hb2); (try clear hk); (try clear hi)))
  repeat (go_quiet (first | (go_at_call 10; (with_reducible refine (observatorylaw29_head.calls  t101 _ ?side1 A7.out).mono ?_); (case side1 => exact Laid.below HLaid.out (by repeat (first | (with_reducible first | exact HB.out | apply below_alloc | apply pw_below_drewN | apply below_drew1) | exact HB.out))); rintro e w9 ⟨rfl, hb⟩; have n0_ := Aside0.mk (below_step (by repeat (first | (with_reducible first | exact HB.out | apply below_alloc | apply pw_below_drewN | apply below_drew1) | exact HB.out)) hb); clear HB; have HB := n0_; clear n0_; (try clear hb); (try clear hb2); (try clear hk); (try clear hi))); go_upto_region 2 with (first | (go_at_call 10; (with_reducible refine (observatorylaw29_head.calls  t101 _ ?side1 A7.out).mono ?_); (case side1 => exact Laid.below HLaid.out (by repeat (first | (with_reducible first | exact HB.out | apply below_alloc | apply pw_below_drewN | apply below_drew1) | exact HB.out))); rintro e w9 ⟨rfl, hb⟩; have n0_ := Aside0.mk (below_step (by repeat (first | (with_reducible first | exact HB.out | apply below_alloc | apply pw_below_drewN | apply below_drew1) | exact HB.out)) hb); clear HB; have HB := n0_; clear n0_; (try clear hb); (try clear hb2); (try clear hk); (try clear hi))))
  (try simp only [Act.put, List.setIfInBounds_toArray, List.set_cons_zero, List.set_cons_succ])
  go_cut [36] (fun v36 wc => ∃ (kq : Nat) (x36_7 : Bool), v36 = .bool x36_7 ∧ Aside0 (observatorylaw29_LotteryMerits.j0 kq l0 l1 l2 a3 a4 a5 t101 x36_7 = some r) ∧ Aside0 (kq ≤ k) ∧ Aside0 (Below w.heap.size w wc))
  case first =>
    have H := HC8.out
    clear HC8
    replace H := Option.bind_eq_some_iff.mp H
    obtain ⟨t102, A100, H⟩ := H
    replace H : (if t102 = true then (observatorylaw29_LotteryMerits.j0 k l0 l1 l2 a3 a4 a5 t101 ((l1.length : Int) == 0)) else (observatorylaw29_LotteryMerits.j0 k l0 l1 l2 a3 a4 a5 t101 true)) = some r := H
    have A10 := Aside0.mk A100
    clear A100
    by_cases c11 : t102 = true
    · subst c11
      rw [if_pos rfl] at H
      have H' := Aside0.mk H
      clear H
      go_wp2_with (first | (go_at_call 11; (with_reducible refine (observatoryref29_Few.calls _ _ l0 _ _ l1 _ _ l2 true _ ?side1 ?side2 ?side3 ?side4 ?side5 ?side6 A10.out).mono ?_); (case side1 => repeat (first | exact (Kd.C_below HR0.out HB.out) | (with_reducible refine Kd.C_alloc ?_ _) | (with_reducible refine Kd.C_drewN ?_ _) | (with_reducible refine Kd.C_drew ?_))); (case side2 => exact HC0.out); (case side3 => repeat (first | exact (Kd.C_below HR1.out HB.out) | (with_reducible refine Kd.C_alloc ?_ _) | (with_reducible refine Kd.C_drewN ?_ _) | (with_reducible refine Kd.C_drew ?_))); (case side4 => exact HC1.out); (case side5 => repeat (first | exact (Kd.C_below HR2.out HB.out) | (with_reducible refine Kd.C_alloc ?_ _) | (with_reducible refine Kd.C_drewN ?_ _) | (with_reducible refine Kd.C_drew ?_))); (case side6 => exact HC2.out); rintro e w12 ⟨rfl, hb⟩; have n0_ := Aside0.mk (below_step (by repeat (first | (with_reducible first | exact HB.out | apply below_alloc | apply pw_below_drewN | apply below_drew1) | exact HB.out)) hb); clear HB; have HB := n0_; clear n0_; (try clear hb); (try clear hb2); (try clear hk); (try clear hi)))
      repeat (go_quiet (first | (go_at_call 11; (with_reducible refine (observatoryref29_Few.calls _ _ l0 _ _ l1 _ _ l2 true _ ?side1 ?side2 ?side3 ?side4 ?side5 ?side6 A10.out).mono ?_); (case side1 => repeat (first | exact (Kd.C_below HR0.out HB.out) | (with_reducible refine Kd.C_alloc ?_ _) | (with_reducible refine Kd.C_drewN ?_ _) | (with_reducible refine Kd.C_drew ?_))); (case side2 => exact HC0.out); (case side3 => repeat (first | exact (Kd.C_below HR1.out HB.out) | (with_reducible refine Kd.C_alloc ?_ _) | (with_reducible refine Kd.C_drewN ?_ _) | (with_reducible refine Kd.C_drew ?_))); (case side4 => exact HC1.out); (case side5 => repeat (first | exact (Kd.C_below HR2.out HB.out) | (with_reducible refine Kd.C_alloc ?_ _) | (with_reducible refine Kd.C_drewN ?_ _) | (with_reducible refine Kd.C_drew ?_))); (case side6 => exact HC2.out); rintro e w12 ⟨rfl, hb⟩; have n0_ := Aside0.mk (below_step (by repeat (first | (with_reducible first | exact HB.out | apply below_alloc | apply pw_below_drewN | apply below_drew1) | exact HB.out)) hb); clear HB; have HB := n0_; clear n0_; (try clear hb); (try clear hb2); (try clear hk); (try clear hi))); try go_wp2_with (first | (go_at_call 11; (with_reducible refine (observatoryref29_Few.calls _ _ l0 _ _ l1 _ _ l2 true _ ?side1 ?side2 ?side3 ?side4 ?side5 ?side6 A10.out).mono ?_); (case side1 => repeat (first | exact (Kd.C_below HR0.out HB.out) | (with_reducible refine Kd.C_alloc ?_ _) | (with_reducible refine Kd.C_drewN ?_ _) | (with_reducible refine Kd.C_drew ?_))); (case side2 => exact HC0.out); (case side3 => repeat (first | exact (Kd.C_below HR1.out HB.out) | (with_reducible refine Kd.C_alloc ?_ _) | (with_reducible refine Kd.C_drewN ?_ _) | (with_reducible refine Kd.C_drew ?_))); (case side4 => exact HC1.out); (case side5 => repeat (first | exact (Kd.C_below HR2.out HB.out) | (with_reducible refine Kd.C_alloc ?_ _) | (with_reducible refine Kd.C_drewN ?_ _) | (with_reducible refine Kd.C_drew ?_))); (case side6 => exact HC2.out); rintro e w12 ⟨rfl, hb⟩; have n0_ := Aside0.mk (below_step (by repeat (first | (with_reducible first | exact HB.out | apply below_alloc | apply pw_below_drewN | apply below_drew1) | exact HB.out)) hb); clear HB; have HB := n0_; clear n0_; (try clear hb); (try clear hb2); (try clear hk); (try clear hi))))
      go_meet
      case rel => exact ⟨_, (((l1.length : Int) == 0)), (by first | rfl | (simp; done) | (simp [*]; done)), H', ⟨by first | omega | exact Nat.le_refl _⟩, ⟨by repeat (first | (with_reducible first | exact HB.out | apply below_alloc | apply pw_below_drewN | apply below_drew1) | exact HB.out)⟩⟩
    · replace c11 := Bool.eq_false_iff.mpr c11
      subst c11
      have H1 : (observatorylaw29_LotteryMerits.j0 k l0 l1 l2 a3 a4 a5 t101 true) = some r := by rw [if_neg (show ¬ (false = true) by decide)] at H; exact H
      clear H
      have H := H1
      clear H1
      have H' := Aside0.mk H
      clear H
      go_wp2_with (first | (go_at_call 11; (with_reducible refine (observatoryref29_Few.calls _ _ l0 _ _ l1 _ _ l2 false _ ?side1 ?side2 ?side3 ?side4 ?side5 ?side6 A10.out).mono ?_); (case side1 => repeat (first | exact (Kd.C_below HR0.out HB.out) | (with_reducible refine Kd.C_alloc ?_ _) | (with_reducible refine Kd.C_drewN ?_ _) | (with_reducible refine Kd.C_drew ?_))); (case side2 => exact HC0.out); (case side3 => repeat (first | exact (Kd.C_below HR1.out HB.out) | (with_reducible refine Kd.C_alloc ?_ _) | (with_reducible refine Kd.C_drewN ?_ _) | (with_reducible refine Kd.C_drew ?_))); (case side4 => exact HC1.out); (case side5 => repeat (first | exact (Kd.C_below HR2.out HB.out) | (with_reducible refine Kd.C_alloc ?_ _) | (with_reducible refine Kd.C_drewN ?_ _) | (with_reducible refine Kd.C_drew ?_))); (case side6 => exact HC2.out); rintro e w13 ⟨rfl, hb⟩; have n0_ := Aside0.mk (below_step (by repeat (first | (with_reducible first | exact HB.out | apply below_alloc | apply pw_below_drewN | apply below_drew1) | exact HB.out)) hb); clear HB; have HB := n0_; clear n0_; (try clear hb); (try clear hb2); (try clear hk); (try clear hi)))
      repeat (go_quiet (first | (go_at_call 11; (with_reducible refine (observatoryref29_Few.calls _ _ l0 _ _ l1 _ _ l2 false _ ?side1 ?side2 ?side3 ?side4 ?side5 ?side6 A10.out).mono ?_); (case side1 => repeat (first | exact (Kd.C_below HR0.out HB.out) | (with_reducible refine Kd.C_alloc ?_ _) | (with_reducible refine Kd.C_drewN ?_ _) | (with_reducible refine Kd.C_drew ?_))); (case side2 => exact HC0.out); (case side3 => repeat (first | exact (Kd.C_below HR1.out HB.out) | (with_reducible refine Kd.C_alloc ?_ _) | (with_reducible refine Kd.C_drewN ?_ _) | (with_reducible refine Kd.C_drew ?_))); (case side4 => exact HC1.out); (case side5 => repeat (first | exact (Kd.C_below HR2.out HB.out) | (with_reducible refine Kd.C_alloc ?_ _) | (with_reducible refine Kd.C_drewN ?_ _) | (with_reducible refine Kd.C_drew ?_))); (case side6 => exact HC2.out); rintro e w13 ⟨rfl, hb⟩; have n0_ := Aside0.mk (below_step (by repeat (first | (with_reducible first | exact HB.out | apply below_alloc | apply pw_below_drewN | apply below_drew1) | exact HB.out)) hb); clear HB; have HB := n0_; clear n0_; (try clear hb); (try clear hb2); (try clear hk); (try clear hi))); try go_wp2_with (first | (go_at_call 11; (with_reducible refine (observatoryref29_Few.calls _ _ l0 _ _ l1 _ _ l2 false _ ?side1 ?side2 ?side3 ?side4 ?side5 ?side6 A10.out).mono ?_); (case side1 => repeat (first | exact (Kd.C_below HR0.out HB.out) | (with_reducible refine Kd.C_alloc ?_ _) | (with_reducible refine Kd.C_drewN ?_ _) | (with_reducible refine Kd.C_drew ?_))); (case side2 => exact HC0.out); (case side3 => repeat (first | exact (Kd.C_below HR1.out HB.out) | (with_reducible refine Kd.C_alloc ?_ _) | (with_reducible refine Kd.C_drewN ?_ _) | (with_reducible refine Kd.C_drew ?_))); (case side4 => exact HC1.out); (case side5 => repeat (first | exact (Kd.C_below HR2.out HB.out) | (with_reducible refine Kd.C_alloc ?_ _) | (with_reducible refine Kd.C_drewN ?_ _) | (with_reducible refine Kd.C_drew ?_))); (case side6 => exact HC2.out); rintro e w13 ⟨rfl, hb⟩; have n0_ := Aside0.mk (below_step (by repeat (first | (with_reducible first | exact HB.out | apply below_alloc | apply pw_below_drewN | apply below_drew1) | exact HB.out)) hb); clear HB; have HB := n0_; clear n0_; (try clear hb); (try clear hb2); (try clear hk); (try clear hi))))
      go_meet
      case rel => exact ⟨_, (true), (by first | rfl | (simp; done) | (simp [*]; done)), H', ⟨by first | omega | exact Nat.le_refl _⟩, ⟨by repeat (first | (with_reducible first | exact HB.out | apply below_alloc | apply pw_below_drewN | apply below_drew1) | exact HB.out)⟩⟩
  case rest =>
    clear HC8
    try clear c1
    try clear c2
    try clear p2
    try clear c7
    try clear c11
    obtain ⟨kq, x36_7, rfl, HA, HJ7, HB⟩ := hcut
    cases kq with
    | zero => exact absurd HA.out (by simp [observatorylaw29_LotteryMerits.j0])
    | succ kj7 =>
      have H := HA.out
      clear HA
      simp only [observatorylaw29_LotteryMerits.j0] at H
      by_cases c14 : x36_7 = true
      · subst c14
        rw [if_pos rfl] at H
        obtain rfl := Option.some.inj H
        go_wp2
        repeat (go_quiet (fail); try go_wp2)
        go_ret
        exact ⟨by first | rfl | (simp [errW_none, errW_some] <;> rfl) | (simp [*, errW_none, errW_some] <;> rfl), by repeat (first | (with_reducible first | exact HB.out | apply below_alloc | apply pw_below_drewN | apply below_drew1) | exact HB.out)⟩
      · replace c14 := Bool.eq_false_iff.mpr c14
        subst c14
        have H1 : ((lottery_Tickets.f l0 l1 l2).bind fun bt103 => (if bt103.2 = 0 then (observatorylaw29_LotteryMerits.j1 kj7 l0 l1 l2 a3 a4 a5 t101 bt103.1 bt103.2 ((bt103.1.length : Int) != (l1.length : Int))) else (observatorylaw29_LotteryMerits.j1 kj7 l0 l1 l2 a3 a4 a5 t101 bt103.1 bt103.2 true))) = some r := by rw [if_neg (show ¬ (false = true) by decide)] at H; exact H
        clear H
        have H := H1
        clear H1
        replace H := Option.bind_eq_some_iff.mp H
        obtain ⟨⟨t103, t104⟩, A150, H⟩ := H
        replace H : (if t104 = 0 then (observatorylaw29_LotteryMerits.j1 kj7 l0 l1 l2 a3 a4 a5 t101 t103 t104 ((t103.length : Int) != (l1.length : Int))) else (observatorylaw29_LotteryMerits.j1 kj7 l0 l1 l2 a3 a4 a5 t101 t103 t104 true)) = some r := H
        have A15 := Aside0.mk A150
        clear A150
        have HC16 := Aside0.mk H
        clear H
        go_upto_region 5 with (first | (go_at_call 12; (with_reducible refine (lottery_Tickets.calls _ _ l0 _ _ l1 _ _ l2 t103 t104 _ ?side1 ?side2 ?side3 ?side4 ?side5 ?side6 A15.out).mono ?_); (case side1 => repeat (first | exact (Kd.C_below HR0.out HB.out) | (with_reducible refine Kd.C_alloc ?_ _) | (with_reducible refine Kd.C_drewN ?_ _) | (with_reducible refine Kd.C_drew ?_))); (case side2 => exact HC0.out); (case side3 => repeat (first | exact (Kd.C_below HR1.out HB.out) | (with_reducible refine Kd.C_alloc ?_ _) | (with_reducible refine Kd.C_drewN ?_ _) | (with_reducible refine Kd.C_drew ?_))); (case side4 => exact HC1.out); (case side5 => repeat (first | exact (Kd.C_below HR2.out HB.out) | (with_reducible refine Kd.C_alloc ?_ _) | (with_reducible refine Kd.C_drewN ?_ _) | (with_reducible refine Kd.C_drew ?_))); (case side6 => exact HC2.out); rintro e w17 ⟨v105, rfl, ho0, hb⟩; have n0_ := Aside0.mk (Kd.R_lower ho0 (below_size (by repeat (first | (with_reducible first | exact HB.out | apply below_alloc | apply pw_below_drewN | apply below_drew1) | exact HB.out)))); have n1_ := Aside0.mk (below_step (by repeat (first | (with_reducible first | exact HB.out | apply below_alloc | apply pw_below_drewN | apply below_drew1) | exact HB.out)) hb); clear HB; have HO106 := n0_; have HB := n1_; clear n0_ n1_; (try clear hb); (try clear hb2); (try clear hk); (try clear hi); (try clear ho0)))
        repeat (go_quiet (first | (go_at_call 12; (with_reducible refine (lottery_Tickets.calls _ _ l0 _ _ l1 _ _ l2 t103 t104 _ ?side1 ?side2 ?side3 ?side4 ?side5 ?side6 A15.out).mono ?_); (case side1 => repeat (first | exact (Kd.C_below HR0.out HB.out) | (with_reducible refine Kd.C_alloc ?_ _) | (with_reducible refine Kd.C_drewN ?_ _) | (with_reducible refine Kd.C_drew ?_))); (case side2 => exact HC0.out); (case side3 => repeat (first | exact (Kd.C_below HR1.out HB.out) | (with_reducible refine Kd.C_alloc ?_ _) | (with_reducible refine Kd.C_drewN ?_ _) | (with_reducible refine Kd.C_drew ?_))); (case side4 => exact HC1.out); (case side5 => repeat (first | exact (Kd.C_below HR2.out HB.out) | (with_reducible refine Kd.C_alloc ?_ _) | (with_reducible refine Kd.C_drewN ?_ _) | (with_reducible refine Kd.C_drew ?_))); (case side6 => exact HC2.out); rintro e w17 ⟨v105, rfl, ho0, hb⟩; have n0_ := Aside0.mk (Kd.R_lower ho0 (below_size (by repeat (first | (with_reducible first | exact HB.out | apply below_alloc | apply pw_below_drewN | apply below_drew1) | exact HB.out)))); have n1_ := Aside0.mk (below_step (by repeat (first | (with_reducible first | exact HB.out | apply below_alloc | apply pw_below_drewN | apply below_drew1) | exact HB.out)) hb); clear HB; have HO106 := n0_; have HB := n1_; clear n0_ n1_; (try clear hb); (try clear hb2); (try clear hk); (try clear hi); (try clear ho0))); go_upto_region 5 with (first | (go_at_call 12; (with_reducible refine (lottery_Tickets.calls _ _ l0 _ _ l1 _ _ l2 t103 t104 _ ?side1 ?side2 ?side3 ?side4 ?side5 ?side6 A15.out).mono ?_); (case side1 => repeat (first | exact (Kd.C_below HR0.out HB.out) | (with_reducible refine Kd.C_alloc ?_ _) | (with_reducible refine Kd.C_drewN ?_ _) | (with_reducible refine Kd.C_drew ?_))); (case side2 => exact HC0.out); (case side3 => repeat (first | exact (Kd.C_below HR1.out HB.out) | (with_reducible refine Kd.C_alloc ?_ _) | (with_reducible refine Kd.C_drewN ?_ _) | (with_reducible refine Kd.C_drew ?_))); (case side4 => exact HC1.out); (case side5 => repeat (first | exact (Kd.C_below HR2.out HB.out) | (with_reducible refine Kd.C_alloc ?_ _) | (with_reducible refine Kd.C_drewN ?_ _) | (with_reducible refine Kd.C_drew ?_))); (case side6 => exact HC2.out); rintro e w17 ⟨v105, rfl, ho0, hb⟩; have n0_ := Aside0.mk (Kd.R_lower ho0 (below_size (by repeat (first | (with_reducible first | exact HB.out | apply below_alloc | apply pw_below_drewN | apply below_drew1) | exact HB.out)))); have n1_ := Aside0.mk (below_step (by repeat (first | (with_reducible first | exact HB.out | apply below_alloc | apply pw_below_drewN | apply below_drew1) | exact HB.out)) hb); clear HB; have HO106 := n0_; have HB := n1_; clear n0_ n1_; (try clear hb); (try clear hb2); (try clear hk); (try clear hi); (try clear ho0))))
        (try simp only [Act.put, List.setIfInBounds_toArray, List.set_cons_zero, List.set_cons_succ])
        go_cut [53] (fun v53 wc => ∃ (kq : Nat) (x53_15 : Bool), v53 = .bool x53_15 ∧ Aside0 (observatorylaw29_LotteryMerits.j1 kq l0 l1 l2 a3 a4 a5 t101 t103 t104 x53_15 = some r) ∧ Aside0 (kq ≤ kj7) ∧ Aside0 (Kd.R (Kd.int .i64) 3 wc w.heap.size (fun _ => True) v105 t103) ∧ Aside0 (Below w.heap.size w wc))
        case first =>
          have H := HC16.out
          clear HC16
          by_cases c18 : t104 = 0
          · rw [if_pos c18] at H
            have c18b0 : (t104 == 0) = true := beq_iff_eq.mpr c18
            have c18b1 : (t104 != 0) = false := bne_eq_false_iff_eq.mpr c18
            clear c18
            (first | rw [c18b0] | (simp only [i64_w, i32_w]; rw [c18b0]) | skip)
            have H' := Aside0.mk H
            clear H
            obtain ⟨Ao19, co19, eo19⟩ := Kd.R_slice HO106.out
            subst eo19
            go_wp2
            repeat (go_quiet (fail); try go_wp2)
            go_meet
            case rel => exact ⟨_, (((t103.length : Int) != (l1.length : Int))), (by first | rfl | (simp; done) | (simp [*]; done)), H', ⟨by have := HJ7.out; first | omega | exact Nat.le_refl _⟩, ⟨by (with_reducible repeat (first | apply Kd.R_alloc | apply Kd.R_drewN | apply Kd.R_drew)); exact HO106.out⟩, ⟨by repeat (first | (with_reducible first | exact HB.out | apply below_alloc | apply pw_below_drewN | apply below_drew1) | exact HB.out)⟩⟩
          · rw [if_neg c18] at H
            have c18b0 : (t104 == 0) = false := beq_eq_false_iff_ne.mpr c18
            have c18b1 : (t104 != 0) = true := bne_iff_ne.mpr c18
            (first | rw [c18b0] | (simp only [i64_w, i32_w]; rw [c18b0]) | skip)
            have H' := Aside0.mk H
            clear H
            go_wp2
            repeat (go_quiet (fail); try go_wp2)
            go_meet
            case rel => exact ⟨_, (true), (by first | rfl | (simp; done) | (simp [*]; done)), H', ⟨by have := HJ7.out; first | omega | exact Nat.le_refl _⟩, ⟨by (with_reducible repeat (first | apply Kd.R_alloc | apply Kd.R_drewN | apply Kd.R_drew)); exact HO106.out⟩, ⟨by repeat (first | (with_reducible first | exact HB.out | apply below_alloc | apply pw_below_drewN | apply below_drew1) | exact HB.out)⟩⟩
        case rest =>
          clear HC16
          try clear c1
          try clear c2
          try clear p2
          try clear c7
          try clear c11
          try clear c14
          try clear c18
          try clear c18b0
          try clear c18b1
          try clear p2
          obtain ⟨kq, x53_15, rfl, HA, HJ15, HO_14, HB⟩ := hcut
          cases kq with
          | zero => exact absurd HA.out (by simp [observatorylaw29_LotteryMerits.j1])
          | succ kj15 =>
            have H := HA.out
            clear HA
            simp only [observatorylaw29_LotteryMerits.j1] at H
            by_cases c20 : x53_15 = true
            · subst c20
              rw [if_pos rfl] at H
              by_cases c21 : t101 = true
              · subst c21
                rw [if_pos rfl] at H
                obtain rfl := Option.some.inj H
                go_wp2
                repeat (go_quiet (fail); try go_wp2)
                go_ret
                exact ⟨by first | rfl | (simp [errW_none, errW_some] <;> rfl) | (simp [*, errW_none, errW_some] <;> rfl), by repeat (first | (with_reducible first | exact HB.out | apply below_alloc | apply pw_below_drewN | apply below_drew1) | exact HB.out)⟩
              · replace c21 := Bool.eq_false_iff.mpr c21
                subst c21
                have H1 : (none) = some r := by rw [if_neg (show ¬ (false = true) by decide)] at H; exact H
                clear H
                have H := H1
                clear H1
                exact absurd H (by simp)
            · replace c20 := Bool.eq_false_iff.mpr c20
              subst c20
              have H1 : (if (l1.length : Int) = 0 then (none) else ((some (([] : List Int) : List Int)).bind fun y107 => (if y107.length + l2.length < 17592186044416 then ((some (y107 ++ l2 : List Int)).bind fun y110 => (if 0 ≤ (Int.tmod (wrap64 (a3)) (l1.length : Int)) then (if (Int.tmod (wrap64 (a3)) (l1.length : Int)) < (y110.length : Int) then ((lottery_Tickets.f l0 l1 (y110.set ((Int.tmod (wrap64 (a3)) (l1.length : Int)) : Int).toNat (mn 10000 (wrap64 ((rd y110 (Int.tmod (wrap64 (a3)) (l1.length : Int))) + (wrap64 (a4))))))).bind fun bt115 => (if bt115.2 = 0 then (if (bt115.1.length : Int) = (t103.length : Int) then (if (Int.tmod (wrap64 (a3)) (l1.length : Int)) < (bt115.1.length : Int) then (if (Int.tmod (wrap64 (a3)) (l1.length : Int)) < (t103.length : Int) then (observatorylaw29_LotteryMerits.j2 kj15 l0 l1 l2 a5 t101 t103 (Int.tmod (wrap64 (a3)) (l1.length : Int)) bt115.1 (decide ((rd bt115.1 (Int.tmod (wrap64 (a3)) (l1.length : Int))) < (rd t103 (Int.tmod (wrap64 (a3)) (l1.length : Int)))))) else (none)) else (none)) else (observatorylaw29_LotteryMerits.j2 kj15 l0 l1 l2 a5 t101 t103 (Int.tmod (wrap64 (a3)) (l1.length : Int)) bt115.1 true)) else (observatorylaw29_LotteryMerits.j2 kj15 l0 l1 l2 a5 t101 t103 (Int.tmod (wrap64 (a3)) (l1.length : Int)) bt115.1 true))) else (none)) else (none))) else (none)))) = some r := by rw [if_neg (show ¬ (false = true) by decide)] at H; exact H
              clear H
              have H := H1
              clear H1
              by_cases c22 : (l1.length : Int) = 0
              · rw [if_pos c22] at H
                exact absurd H (by simp)
              · rw [if_neg c22] at H
                have c22b0 : ((l1.length : Int) == 0) = false := beq_eq_false_iff_ne.mpr c22
                have c22b1 : ((l1.length : Int) != 0) = true := bne_iff_ne.mpr c22
                have c22b2 : ¬ (l1 = []) := fun h_ => c22 (by rw [h_]; rfl)
                obtain ⟨y107, hy107⟩ : ∃ y_ : List Int, y_ = (([] : List Int)) := ⟨_, rfl⟩
                replace H : (if y107.length + l2.length < 17592186044416 then ((some (y107 ++ l2 : List Int)).bind fun y110 => (if 0 ≤ (Int.tmod (wrap64 (a3)) (l1.length : Int)) then (if (Int.tmod (wrap64 (a3)) (l1.length : Int)) < (y110.length : Int) then ((lottery_Tickets.f l0 l1 (y110.set ((Int.tmod (wrap64 (a3)) (l1.length : Int)) : Int).toNat (mn 10000 (wrap64 ((rd y110 (Int.tmod (wrap64 (a3)) (l1.length : Int))) + (wrap64 (a4))))))).bind fun bt115 => (if bt115.2 = 0 then (if (bt115.1.length : Int) = (t103.length : Int) then (if (Int.tmod (wrap64 (a3)) (l1.length : Int)) < (bt115.1.length : Int) then (if (Int.tmod (wrap64 (a3)) (l1.length : Int)) < (t103.length : Int) then (observatorylaw29_LotteryMerits.j2 kj15 l0 l1 l2 a5 t101 t103 (Int.tmod (wrap64 (a3)) (l1.length : Int)) bt115.1 (decide ((rd bt115.1 (Int.tmod (wrap64 (a3)) (l1.length : Int))) < (rd t103 (Int.tmod (wrap64 (a3)) (l1.length : Int)))))) else (none)) else (none)) else (observatorylaw29_LotteryMerits.j2 kj15 l0 l1 l2 a5 t101 t103 (Int.tmod (wrap64 (a3)) (l1.length : Int)) bt115.1 true)) else (observatorylaw29_LotteryMerits.j2 kj15 l0 l1 l2 a5 t101 t103 (Int.tmod (wrap64 (a3)) (l1.length : Int)) bt115.1 true))) else (none)) else (none))) else (none)) = some r := by first | (rw [hy107]; with_reducible exact H) | (have H2_ := (Option.bind_some _ _).symm.trans H; rw [hy107]; with_reducible exact H2_) | (have H2_ := (Option.bind_some _ _).symm.trans H; with_reducible exact H2_) | with_reducible exact H | (rw [hy107]; exact H) | exact H
                have Ny107 := Aside0.mk hy107
                clear hy107
                by_cases c23 : y107.length + l2.length < 17592186044416
                · rw [if_pos c23] at H
                  have LMc23 := Aside0.mk c23
                  clear c23
                  obtain ⟨y110, hy110⟩ : ∃ y_ : List Int, y_ = (y107 ++ l2) := ⟨_, rfl⟩
                  replace H : (if 0 ≤ (Int.tmod (wrap64 (a3)) (l1.length : Int)) then (if (Int.tmod (wrap64 (a3)) (l1.length : Int)) < (y110.length : Int) then ((lottery_Tickets.f l0 l1 (y110.set ((Int.tmod (wrap64 (a3)) (l1.length : Int)) : Int).toNat (mn 10000 (wrap64 ((rd y110 (Int.tmod (wrap64 (a3)) (l1.length : Int))) + (wrap64 (a4))))))).bind fun bt115 => (if bt115.2 = 0 then (if (bt115.1.length : Int) = (t103.length : Int) then (if (Int.tmod (wrap64 (a3)) (l1.length : Int)) < (bt115.1.length : Int) then (if (Int.tmod (wrap64 (a3)) (l1.length : Int)) < (t103.length : Int) then (observatorylaw29_LotteryMerits.j2 kj15 l0 l1 l2 a5 t101 t103 (Int.tmod (wrap64 (a3)) (l1.length : Int)) bt115.1 (decide ((rd bt115.1 (Int.tmod (wrap64 (a3)) (l1.length : Int))) < (rd t103 (Int.tmod (wrap64 (a3)) (l1.length : Int)))))) else (none)) else (none)) else (observatorylaw29_LotteryMerits.j2 kj15 l0 l1 l2 a5 t101 t103 (Int.tmod (wrap64 (a3)) (l1.length : Int)) bt115.1 true)) else (observatorylaw29_LotteryMerits.j2 kj15 l0 l1 l2 a5 t101 t103 (Int.tmod (wrap64 (a3)) (l1.length : Int)) bt115.1 true))) else (none)) else (none)) = some r := by first | (rw [hy110]; with_reducible exact H) | (have H2_ := (Option.bind_some _ _).symm.trans H; rw [hy110]; with_reducible exact H2_) | (have H2_ := (Option.bind_some _ _).symm.trans H; with_reducible exact H2_) | with_reducible exact H | (rw [hy110]; exact H) | exact H
                  have Ny110 := Aside0.mk hy110
                  clear hy110
                  obtain ⟨ji24, hji24⟩ : ∃ j_ : Int, (Int.tmod (wrap64 (a3)) (l1.length : Int)) = j_ := ⟨_, rfl⟩
                  replace H : (if 0 ≤ (ji24) then (if (ji24) < (y110.length : Int) then ((lottery_Tickets.f l0 l1 (y110.set ((ji24) : Int).toNat (mn 10000 (wrap64 ((rd y110 (ji24)) + (wrap64 (a4))))))).bind fun bt115 => (if bt115.2 = 0 then (if (bt115.1.length : Int) = (t103.length : Int) then (if (ji24) < (bt115.1.length : Int) then (if (ji24) < (t103.length : Int) then (observatorylaw29_LotteryMerits.j2 kj15 l0 l1 l2 a5 t101 t103 ji24 bt115.1 (decide ((rd bt115.1 (ji24)) < (rd t103 (ji24))))) else (none)) else (none)) else (observatorylaw29_LotteryMerits.j2 kj15 l0 l1 l2 a5 t101 t103 ji24 bt115.1 true)) else (observatorylaw29_LotteryMerits.j2 kj15 l0 l1 l2 a5 t101 t103 ji24 bt115.1 true))) else (none)) else (none)) = some r := by first | (rw [hji24] at H; exact H) | (simp only [hji24] at H ⊢; exact H)
                  by_cases c25 : 0 ≤ (ji24)
                  · rw [if_pos c25] at H
                    have c25b0 : decide (0 ≤ (ji24)) = true := decide_eq_true c25
                    clear c25
                    by_cases c26 : (ji24) < (y110.length : Int)
                    · rw [if_pos c26] at H
                      have c26b0 : decide ((ji24) < (y110.length : Int)) = true := decide_eq_true c26
                      clear c26
                      obtain ⟨ji27, hji27⟩ : ∃ j_ : Int, (mn 10000 (wrap64 ((rd y110 (ji24)) + (wrap64 (a4))))) = j_ := ⟨_, rfl⟩
                      replace H : ((lottery_Tickets.f l0 l1 (y110.set ((ji24) : Int).toNat (ji27))).bind fun bt115 => (if bt115.2 = 0 then (if (bt115.1.length : Int) = (t103.length : Int) then (if (ji24) < (bt115.1.length : Int) then (if (ji24) < (t103.length : Int) then (observatorylaw29_LotteryMerits.j2 kj15 l0 l1 l2 a5 t101 t103 ji24 bt115.1 (decide ((rd bt115.1 (ji24)) < (rd t103 (ji24))))) else (none)) else (none)) else (observatorylaw29_LotteryMerits.j2 kj15 l0 l1 l2 a5 t101 t103 ji24 bt115.1 true)) else (observatorylaw29_LotteryMerits.j2 kj15 l0 l1 l2 a5 t101 t103 ji24 bt115.1 true))) = some r := by first | (rw [hji27] at H; exact H) | (simp only [hji27] at H ⊢; exact H)
                      have hji27_ : (if (wrap64 ((rd y110 (ji24)) + (wrap64 (a4)))) < 10000 then (wrap64 ((rd y110 (ji24)) + (wrap64 (a4)))) else 10000) = ji27 := hji27
                      obtain ⟨y114, hy114⟩ : ∃ y_ : List Int, y_ = (y110.set ((ji24) : Int).toNat (ji27)) := ⟨_, rfl⟩
                      replace H : ((lottery_Tickets.f l0 l1 y114).bind fun bt115 => (if bt115.2 = 0 then (if (bt115.1.length : Int) = (t103.length : Int) then (if (ji24) < (bt115.1.length : Int) then (if (ji24) < (t103.length : Int) then (observatorylaw29_LotteryMerits.j2 kj15 l0 l1 l2 a5 t101 t103 ji24 bt115.1 (decide ((rd bt115.1 (ji24)) < (rd t103 (ji24))))) else (none)) else (none)) else (observatorylaw29_LotteryMerits.j2 kj15 l0 l1 l2 a5 t101 t103 ji24 bt115.1 true)) else (observatorylaw29_LotteryMerits.j2 kj15 l0 l1 l2 a5 t101 t103 ji24 bt115.1 true))) = some r := by first | (rw [hy114]; with_reducible exact H) | (have H2_ := (Option.bind_some _ _).symm.trans H; rw [hy114]; with_reducible exact H2_) | (have H2_ := (Option.bind_some _ _).symm.trans H; with_reducible exact H2_) | with_reducible exact H | (rw [hy114]; exact H) | exact H
                      have Ny114 := Aside0.mk hy114
                      clear hy114
                      replace H := Option.bind_eq_some_iff.mp H
                      obtain ⟨⟨t115, t116⟩, A290, H⟩ := H
                      replace H : (if t116 = 0 then (if (t115.length : Int) = (t103.length : Int) then (if (ji24) < (t115.length : Int) then (if (ji24) < (t103.length : Int) then (observatorylaw29_LotteryMerits.j2 kj15 l0 l1 l2 a5 t101 t103 ji24 t115 (decide ((rd t115 (ji24)) < (rd t103 (ji24))))) else (none)) else (none)) else (observatorylaw29_LotteryMerits.j2 kj15 l0 l1 l2 a5 t101 t103 ji24 t115 true)) else (observatorylaw29_LotteryMerits.j2 kj15 l0 l1 l2 a5 t101 t103 ji24 t115 true)) = some r := H
                      have A29 := Aside0.mk A290
                      clear A290
                      have HC30 := Aside0.mk H
                      clear H
                      go_upto_region 11 with (first | ((with_reducible refine gate_dst (N := 64) rfl ?_); (try (refine gate_guard (by rfl) ?_; dsimp only)); refine Kd.R_lit (Kd.int .i64) _ 3 ?hg (N := 64) ?hd (xs := ([] : List Int)) (inner := []) (ok := fun _ => True) (okp := fun _ => True) ?hr ?hp (fun _ hk => hk) trivial (Below.refl _ _) (Nat.le_refl _) (by simp) ?_; (case hd => rfl); (case hg => rfl); (case hr => first | (go_simp; done) | (go_simp; rfl)); (case hp => exact (Reps.none _ _)); intro v108 w31 ho32 hb hg_ hnew_; clear hg_ hnew_; (first | rw [← Ny107.out] at ho32 | (simp only [Int.reduceToNat] at ho32; rw [← Ny107.out] at ho32)); have n0_ := Aside0.mk (Kd.R_elder' (by (with_reducible repeat (first | apply Kd.R_alloc | apply Kd.R_drewN | apply Kd.R_drew)); exact HO_14.out) (Kd.R_base ho32) hb); have n1_ := Aside0.mk (Kd.R_lower (Kd.R_new' ho32 (Kd.R_lt (by (with_reducible repeat (first | apply Kd.R_alloc | apply Kd.R_drewN | apply Kd.R_drew)); exact HO_14.out))) (below_size (by repeat (first | (with_reducible first | exact HB.out | apply below_alloc | apply pw_below_drewN | apply below_drew1) | exact HB.out)))); have n2_ := Aside0.mk (below_step (by repeat (first | (with_reducible first | exact HB.out | apply below_alloc | apply pw_below_drewN | apply below_drew1) | exact HB.out)) hb); clear HO_14; clear HB; have HO_14 := n0_; have HO109 := n1_; have HB := n2_; clear n0_ n1_ n2_; clear hb ho32) | ((with_reducible refine gate_builtin (b := .append) (xs := #[.tmp 64, .tmp 65]) rfl ?_); (try (refine gate_guard (by rfl) ?_; dsimp only)); at_builtin; refine Kd.R_append_rows (Kd.int .i64) (w0 := w) w.heap.size rfl (.tmp 64) (.tmp 65) 22 3 (.int .i64 0) 8 rfl Tryz.underlying22 info3 rfl (by decide) (by omega) v108 y107 l2 _ _ _ (fun k_ => some k_ ≠ (v105 : Value).ownBlock) (fun _ => False) rfl rfl ?aO ?aR (fun _ _ h => h) (fun _ h => h.elim) ?aF ?aB ?aS ?aL ?_; (case aR => repeat (first | exact (Kd.C_below HR2.out HB.out) | (with_reducible refine Kd.C_alloc ?_ _) | (with_reducible refine Kd.C_drewN ?_ _) | (with_reducible refine Kd.C_drew ?_))); (case aB => exact (by repeat (first | (with_reducible first | exact HB.out | apply below_alloc | apply pw_below_drewN | apply below_drew1) | exact HB.out))); (case aF => exact (fun k_ hk => Kd.fresh' (Kd.R_lt (by (with_reducible repeat (first | apply Kd.R_alloc | apply Kd.R_drewN | apply Kd.R_drew)); exact HO_14.out)) k_ hk)); (case aO => exact (by (with_reducible repeat (first | apply Kd.R_alloc | apply Kd.R_drewN | apply Kd.R_drew)); exact Kd.R_mono HO109.out (fun _ hk => hk.2))); (case aS => exact (below_size (by repeat (first | (with_reducible first | exact HB.out | apply below_alloc | apply pw_below_drewN | apply below_drew1) | exact HB.out)))); (case aL => have := LMc23.out; omega); intro v111 w33 ho hb hg hat; rw [← Ny110.out] at ho; have n0_ := Aside0.mk (Kd.R_after (ok := (fun _ => True)) (by (with_reducible repeat (first | apply Kd.R_alloc | apply Kd.R_drewN | apply Kd.R_drew)); exact HO_14.out) hg hat); have n1_ := Aside0.mk (hb); have n2_ := Aside0.mk (ho); clear HO_14; clear HB; clear HO109; have HO_14 := n0_; have HB := n1_; have HO112 := n2_; clear n0_ n1_ n2_; clear ho hb hg hat; obtain ⟨Ao34, co34, eo34⟩ := Kd.R_slice HO112.out; subst eo34; have p113 : 0 ≤ ((ji24) : Int) := of_decide_eq_true (by first | (with_reducible assumption) | assumption); have q113 : (ji24) < (y110.length : Int) := of_decide_eq_true (by first | (with_reducible assumption) | assumption); obtain ⟨ad113, e113, hx113_0⟩ := Kd.at_int (Kd.R_reads' HO112.out).2.2 (ji24) p113 q113; cases e113; replace p113 := eq_true p113; replace q113 := eq_true q113; have p28 : 0 ≤ ((ji24) : Int) := of_decide_eq_true (by first | (with_reducible assumption) | assumption); have q28 : ((ji24) : Int) < ((y110.length : Int) : Int) := of_decide_eq_true (by first | (with_reducible assumption) | assumption); obtain ⟨go28, co28, eo28, gb28, gl28, cl28, HG28⟩ := Kd.R_form HO112.out (by omega); (first | cases eo28 | (injection eo28 with ea_ en_ ec_; (first | subst ea_ | (injection ea_ with ea_; subst ea_)); subst ec_; clear en_)); have GB28 := Aside0.mk gb28; have GG28 := Aside0.mk HG28; clear gb28 gl28 HG28; (first | simp only [add_plain] at hx113_0 | skip); obtain ⟨hx28_0, hf28_0⟩ := Kd.R_celln 0 HO112.out ((ji24) : Int) p28 q28; replace p28 := eq_true p28; replace q28 := eq_true q28; obtain ⟨hy35_, hz35_⟩ := Kd.R_celln 0 HO112.out ((ji24) : Int) (of_decide_eq_true (by first | (with_reducible assumption) | assumption)) (of_decide_eq_true (by first | (with_reducible assumption) | assumption)); have HP35 := Kd.R_putg HO112.out ((ji24) : Int) ji27) | ((with_reducible refine gate_store (t := 3) (p := 77) rfl ?_); (try (rw [drewN_self w33]; generalize hq_ : World.drewN w33 _ = w33; have n0_ := Aside0.mk (Kd.R_at hq_ HO_14.out); have n1_ := Aside0.mk (Kd.R_at hq_ HO112.out); have n2_ := Aside0.mk (below_at hq_ HB.out); clear hq_ HO_14 HO112 HB; have HO_14 := n0_; have HO112 := n1_; have HB := n2_; clear n0_ n1_ n2_; (try (obtain ⟨hy35_, hz35_⟩ := Kd.R_celln 0 HO112.out ((ji24) : Int) (of_decide_eq_true (by first | (with_reducible assumption) | assumption)) (of_decide_eq_true (by first | (with_reducible assumption) | assumption)))); (try (have HP35 := Kd.R_putg HO112.out ((ji24) : Int) ji27)))); refine store_event (t := 3) (p := 77) (v := ?vo_w36) (w1 := (w33.setCell ⟨go28, ((ji24) : Int).toNat, none⟩ (.int .i64 ji27))) ?hg ?ho ?hn ?hr ?_; (case ho => rfl); (case hg => rfl); (case hn => rfl); (case hr => first | (go_simp; done) | (go_simp; rfl)); intro w36 hw; have hg : w33.grownBy w36 (some go28) := (by rw [hw]; exact HP35.2); have hp_ : Kd.R (Kd.int .i64) 3 w36 w.heap.size (fun k_ => some k_ ≠ (v105 : Value).ownBlock) (.slice (some ⟨go28, 0, none⟩) y110.length co34) y114 := (by rw [hw, Ny114.out]; exact HP35.1); clear HP35; have n0_ := Aside0.mk (Kd.R_after (v := (.slice (some ⟨go28, 0, none⟩) y110.length co34)) (v1 := (.slice (some ⟨go28, 0, none⟩) y110.length co34)) (ok := (fun _ => True)) (by (with_reducible repeat (first | apply Kd.R_alloc | apply Kd.R_drewN | apply Kd.R_drew)); exact HO_14.out) hg (.inl rfl)); have n1_ := Aside0.mk (hp_); have n2_ := Aside0.mk ((by rw [hw]; exact below_set (HB.out) GB28.out : Below w.heap.size w w36)); clear HO_14; clear HO112; clear HB; have HO_14 := n0_; have HO112 := n1_; have HB := n2_; clear n0_ n1_ n2_; clear hg hw hp_) | (go_at_call 12; refine calls_of_args (args' := #[.slice A0 l0.length c0, .slice A1 l1.length c1, .slice (some ⟨go28, 0, none⟩) y114.length co34]) (by first | (rw [show y114.length = y110.length from (Kd.R_reads' HO112.out).1.symm] <;> rfl) | rfl) ?_; (with_reducible refine (lottery_Tickets.calls _ _ l0 _ _ l1 _ _ y114 t115 t116 _ ?side1 ?side2 ?side3 ?side4 ?side5 ?side6 A29.out).mono ?_); (case side1 => repeat (first | exact (Kd.C_below HR0.out HB.out) | (with_reducible refine Kd.C_alloc ?_ _) | (with_reducible refine Kd.C_drewN ?_ _) | (with_reducible refine Kd.C_drew ?_))); (case side2 => exact HC0.out); (case side3 => repeat (first | exact (Kd.C_below HR1.out HB.out) | (with_reducible refine Kd.C_alloc ?_ _) | (with_reducible refine Kd.C_drewN ?_ _) | (with_reducible refine Kd.C_drew ?_))); (case side4 => exact HC1.out); (case side5 => repeat (first | exact (Kd.R_reads' HO112.out).2.2 | (with_reducible refine Kd.C_alloc ?_ _) | (with_reducible refine Kd.C_drewN ?_ _) | (with_reducible refine Kd.C_drew ?_))); (case side6 => rw [show y114.length = y110.length from (Kd.R_reads' HO112.out).1.symm]; exact (Kd.R_reads' HO112.out).2.1); rintro e w37 ⟨v117, rfl, ho0, hb⟩; have n0_ := Aside0.mk (Kd.R_elder' (by (with_reducible repeat (first | apply Kd.R_alloc | apply Kd.R_drewN | apply Kd.R_drew)); exact HO_14.out) (Kd.R_base ho0) hb); have n1_ := Aside0.mk (Kd.R_elder' (by (with_reducible repeat (first | apply Kd.R_alloc | apply Kd.R_drewN | apply Kd.R_drew)); exact HO112.out) (Kd.R_base ho0) hb); have n2_ := Aside0.mk (Kd.R_lower (Kd.R_new' (Kd.R_new' ho0 (Kd.R_lt (by (with_reducible repeat (first | apply Kd.R_alloc | apply Kd.R_drewN | apply Kd.R_drew)); exact HO_14.out))) (Kd.R_lt (by (with_reducible repeat (first | apply Kd.R_alloc | apply Kd.R_drewN | apply Kd.R_drew)); exact HO112.out))) (below_size (by repeat (first | (with_reducible first | exact HB.out | apply below_alloc | apply pw_below_drewN | apply below_drew1) | exact HB.out)))); have n3_ := Aside0.mk (below_step (by repeat (first | (with_reducible first | exact HB.out | apply below_alloc | apply pw_below_drewN | apply below_drew1) | exact HB.out)) hb); clear HO_14; clear HO112; clear HB; have HO_14 := n0_; have HO112 := n1_; have HO118 := n2_; have HB := n3_; clear n0_ n1_ n2_ n3_; (try clear hb); (try clear hb2); (try clear hk); (try clear hi); (try clear ho0)))
                      repeat (go_quiet (first | ((with_reducible refine gate_dst (N := 64) rfl ?_); (try (refine gate_guard (by rfl) ?_; dsimp only)); refine Kd.R_lit (Kd.int .i64) _ 3 ?hg (N := 64) ?hd (xs := ([] : List Int)) (inner := []) (ok := fun _ => True) (okp := fun _ => True) ?hr ?hp (fun _ hk => hk) trivial (Below.refl _ _) (Nat.le_refl _) (by simp) ?_; (case hd => rfl); (case hg => rfl); (case hr => first | (go_simp; done) | (go_simp; rfl)); (case hp => exact (Reps.none _ _)); intro v108 w31 ho32 hb hg_ hnew_; clear hg_ hnew_; (first | rw [← Ny107.out] at ho32 | (simp only [Int.reduceToNat] at ho32; rw [← Ny107.out] at ho32)); have n0_ := Aside0.mk (Kd.R_elder' (by (with_reducible repeat (first | apply Kd.R_alloc | apply Kd.R_drewN | apply Kd.R_drew)); exact HO_14.out) (Kd.R_base ho32) hb); have n1_ := Aside0.mk (Kd.R_lower (Kd.R_new' ho32 (Kd.R_lt (by (with_reducible repeat (first | apply Kd.R_alloc | apply Kd.R_drewN | apply Kd.R_drew)); exact HO_14.out))) (below_size (by repeat (first | (with_reducible first | exact HB.out | apply below_alloc | apply pw_below_drewN | apply below_drew1) | exact HB.out)))); have n2_ := Aside0.mk (below_step (by repeat (first | (with_reducible first | exact HB.out | apply below_alloc | apply pw_below_drewN | apply below_drew1) | exact HB.out)) hb); clear HO_14; clear HB; have HO_14 := n0_; have HO109 := n1_; have HB := n2_; clear n0_ n1_ n2_; clear hb ho32) | ((with_reducible refine gate_builtin (b := .append) (xs := #[.tmp 64, .tmp 65]) rfl ?_); (try (refine gate_guard (by rfl) ?_; dsimp only)); at_builtin; refine Kd.R_append_rows (Kd.int .i64) (w0 := w) w.heap.size rfl (.tmp 64) (.tmp 65) 22 3 (.int .i64 0) 8 rfl Tryz.underlying22 info3 rfl (by decide) (by omega) v108 y107 l2 _ _ _ (fun k_ => some k_ ≠ (v105 : Value).ownBlock) (fun _ => False) rfl rfl ?aO ?aR (fun _ _ h => h) (fun _ h => h.elim) ?aF ?aB ?aS ?aL ?_; (case aR => repeat (first | exact (Kd.C_below HR2.out HB.out) | (with_reducible refine Kd.C_alloc ?_ _) | (with_reducible refine Kd.C_drewN ?_ _) | (with_reducible refine Kd.C_drew ?_))); (case aB => exact (by repeat (first | (with_reducible first | exact HB.out | apply below_alloc | apply pw_below_drewN | apply below_drew1) | exact HB.out))); (case aF => exact (fun k_ hk => Kd.fresh' (Kd.R_lt (by (with_reducible repeat (first | apply Kd.R_alloc | apply Kd.R_drewN | apply Kd.R_drew)); exact HO_14.out)) k_ hk)); (case aO => exact (by (with_reducible repeat (first | apply Kd.R_alloc | apply Kd.R_drewN | apply Kd.R_drew)); exact Kd.R_mono HO109.out (fun _ hk => hk.2))); (case aS => exact (below_size (by repeat (first | (with_reducible first | exact HB.out | apply below_alloc | apply pw_below_drewN | apply below_drew1) | exact HB.out)))); (case aL => have := LMc23.out; omega); intro v111 w33 ho hb hg hat; rw [← Ny110.out] at ho; have n0_ := Aside0.mk (Kd.R_after (ok := (fun _ => True)) (by (with_reducible repeat (first | apply Kd.R_alloc | apply Kd.R_drewN | apply Kd.R_drew)); exact HO_14.out) hg hat); have n1_ := Aside0.mk (hb); have n2_ := Aside0.mk (ho); clear HO_14; clear HB; clear HO109; have HO_14 := n0_; have HB := n1_; have HO112 := n2_; clear n0_ n1_ n2_; clear ho hb hg hat; obtain ⟨Ao34, co34, eo34⟩ := Kd.R_slice HO112.out; subst eo34; have p113 : 0 ≤ ((ji24) : Int) := of_decide_eq_true (by first | (with_reducible assumption) | assumption); have q113 : (ji24) < (y110.length : Int) := of_decide_eq_true (by first | (with_reducible assumption) | assumption); obtain ⟨ad113, e113, hx113_0⟩ := Kd.at_int (Kd.R_reads' HO112.out).2.2 (ji24) p113 q113; cases e113; replace p113 := eq_true p113; replace q113 := eq_true q113; have p28 : 0 ≤ ((ji24) : Int) := of_decide_eq_true (by first | (with_reducible assumption) | assumption); have q28 : ((ji24) : Int) < ((y110.length : Int) : Int) := of_decide_eq_true (by first | (with_reducible assumption) | assumption); obtain ⟨go28, co28, eo28, gb28, gl28, cl28, HG28⟩ := Kd.R_form HO112.out (by omega); (first | cases eo28 | (injection eo28 with ea_ en_ ec_; (first | subst ea_ | (injection ea_ with ea_; subst ea_)); subst ec_; clear en_)); have GB28 := Aside0.mk gb28; have GG28 := Aside0.mk HG28; clear gb28 gl28 HG28; (first | simp only [add_plain] at hx113_0 | skip); obtain ⟨hx28_0, hf28_0⟩ := Kd.R_celln 0 HO112.out ((ji24) : Int) p28 q28; replace p28 := eq_true p28; replace q28 := eq_true q28; obtain ⟨hy35_, hz35_⟩ := Kd.R_celln 0 HO112.out ((ji24) : Int) (of_decide_eq_true (by first | (with_reducible assumption) | assumption)) (of_decide_eq_true (by first | (with_reducible assumption) | assumption)); have HP35 := Kd.R_putg HO112.out ((ji24) : Int) ji27) | ((with_reducible refine gate_store (t := 3) (p := 77) rfl ?_); (try (rw [drewN_self w33]; generalize hq_ : World.drewN w33 _ = w33; have n0_ := Aside0.mk (Kd.R_at hq_ HO_14.out); have n1_ := Aside0.mk (Kd.R_at hq_ HO112.out); have n2_ := Aside0.mk (below_at hq_ HB.out); clear hq_ HO_14 HO112 HB; have HO_14 := n0_; have HO112 := n1_; have HB := n2_; clear n0_ n1_ n2_; (try (obtain ⟨hy35_, hz35_⟩ := Kd.R_celln 0 HO112.out ((ji24) : Int) (of_decide_eq_true (by first | (with_reducible assumption) | assumption)) (of_decide_eq_true (by first | (with_reducible assumption) | assumption)))); (try (have HP35 := Kd.R_putg HO112.out ((ji24) : Int) ji27)))); refine store_event (t := 3) (p := 77) (v := ?vo_w36) (w1 := (w33.setCell ⟨go28, ((ji24) : Int).toNat, none⟩ (.int .i64 ji27))) ?hg ?ho ?hn ?hr ?_; (case ho => rfl); (case hg => rfl); (case hn => rfl); (case hr => first | (go_simp; done) | (go_simp; rfl)); intro w36 hw; have hg : w33.grownBy w36 (some go28) := (by rw [hw]; exact HP35.2); have hp_ : Kd.R (Kd.int .i64) 3 w36 w.heap.size (fun k_ => some k_ ≠ (v105 : Value).ownBlock) (.slice (some ⟨go28, 0, none⟩) y110.length co34) y114 := (by rw [hw, Ny114.out]; exact HP35.1); clear HP35; have n0_ := Aside0.mk (Kd.R_after (v := (.slice (some ⟨go28, 0, none⟩) y110.length co34)) (v1 := (.slice (some ⟨go28, 0, none⟩) y110.length co34)) (ok := (fun _ => True)) (by (with_reducible repeat (first | apply Kd.R_alloc | apply Kd.R_drewN | apply Kd.R_drew)); exact HO_14.out) hg (.inl rfl)); have n1_ := Aside0.mk (hp_); have n2_ := Aside0.mk ((by rw [hw]; exact below_set (HB.out) GB28.out : Below w.heap.size w w36)); clear HO_14; clear HO112; clear HB; have HO_14 := n0_; have HO112 := n1_; have HB := n2_; clear n0_ n1_ n2_; clear hg hw hp_) | (go_at_call 12; refine calls_of_args (args' := #[.slice A0 l0.length c0, .slice A1 l1.length c1, .slice (some ⟨go28, 0, none⟩) y114.length co34]) (by first | (rw [show y114.length = y110.length from (Kd.R_reads' HO112.out).1.symm] <;> rfl) | rfl) ?_; (with_reducible refine (lottery_Tickets.calls _ _ l0 _ _ l1 _ _ y114 t115 t116 _ ?side1 ?side2 ?side3 ?side4 ?side5 ?side6 A29.out).mono ?_); (case side1 => repeat (first | exact (Kd.C_below HR0.out HB.out) | (with_reducible refine Kd.C_alloc ?_ _) | (with_reducible refine Kd.C_drewN ?_ _) | (with_reducible refine Kd.C_drew ?_))); (case side2 => exact HC0.out); (case side3 => repeat (first | exact (Kd.C_below HR1.out HB.out) | (with_reducible refine Kd.C_alloc ?_ _) | (with_reducible refine Kd.C_drewN ?_ _) | (with_reducible refine Kd.C_drew ?_))); (case side4 => exact HC1.out); (case side5 => repeat (first | exact (Kd.R_reads' HO112.out).2.2 | (with_reducible refine Kd.C_alloc ?_ _) | (with_reducible refine Kd.C_drewN ?_ _) | (with_reducible refine Kd.C_drew ?_))); (case side6 => rw [show y114.length = y110.length from (Kd.R_reads' HO112.out).1.symm]; exact (Kd.R_reads' HO112.out).2.1); rintro e w37 ⟨v117, rfl, ho0, hb⟩; have n0_ := Aside0.mk (Kd.R_elder' (by (with_reducible repeat (first | apply Kd.R_alloc | apply Kd.R_drewN | apply Kd.R_drew)); exact HO_14.out) (Kd.R_base ho0) hb); have n1_ := Aside0.mk (Kd.R_elder' (by (with_reducible repeat (first | apply Kd.R_alloc | apply Kd.R_drewN | apply Kd.R_drew)); exact HO112.out) (Kd.R_base ho0) hb); have n2_ := Aside0.mk (Kd.R_lower (Kd.R_new' (Kd.R_new' ho0 (Kd.R_lt (by (with_reducible repeat (first | apply Kd.R_alloc | apply Kd.R_drewN | apply Kd.R_drew)); exact HO_14.out))) (Kd.R_lt (by (with_reducible repeat (first | apply Kd.R_alloc | apply Kd.R_drewN | apply Kd.R_drew)); exact HO112.out))) (below_size (by repeat (first | (with_reducible first | exact HB.out | apply below_alloc | apply pw_below_drewN | apply below_drew1) | exact HB.out)))); have n3_ := Aside0.mk (below_step (by repeat (first | (with_reducible first | exact HB.out | apply below_alloc | apply pw_below_drewN | apply below_drew1) | exact HB.out)) hb); clear HO_14; clear HO112; clear HB; have HO_14 := n0_; have HO112 := n1_; have HO118 := n2_; have HB := n3_; clear n0_ n1_ n2_ n3_; (try clear hb); (try clear hb2); (try clear hk); (try clear hi); (try clear ho0))); go_upto_region 11 with (first | ((with_reducible refine gate_dst (N := 64) rfl ?_); (try (refine gate_guard (by rfl) ?_; dsimp only)); refine Kd.R_lit (Kd.int .i64) _ 3 ?hg (N := 64) ?hd (xs := ([] : List Int)) (inner := []) (ok := fun _ => True) (okp := fun _ => True) ?hr ?hp (fun _ hk => hk) trivial (Below.refl _ _) (Nat.le_refl _) (by simp) ?_; (case hd => rfl); (case hg => rfl); (case hr => first | (go_simp; done) | (go_simp; rfl)); (case hp => exact (Reps.none _ _)); intro v108 w31 ho32 hb hg_ hnew_; clear hg_ hnew_; (first | rw [← Ny107.out] at ho32 | (simp only [Int.reduceToNat] at ho32; rw [← Ny107.out] at ho32)); have n0_ := Aside0.mk (Kd.R_elder' (by (with_reducible repeat (first | apply Kd.R_alloc | apply Kd.R_drewN | apply Kd.R_drew)); exact HO_14.out) (Kd.R_base ho32) hb); have n1_ := Aside0.mk (Kd.R_lower (Kd.R_new' ho32 (Kd.R_lt (by (with_reducible repeat (first | apply Kd.R_alloc | apply Kd.R_drewN | apply Kd.R_drew)); exact HO_14.out))) (below_size (by repeat (first | (with_reducible first | exact HB.out | apply below_alloc | apply pw_below_drewN | apply below_drew1) | exact HB.out)))); have n2_ := Aside0.mk (below_step (by repeat (first | (with_reducible first | exact HB.out | apply below_alloc | apply pw_below_drewN | apply below_drew1) | exact HB.out)) hb); clear HO_14; clear HB; have HO_14 := n0_; have HO109 := n1_; have HB := n2_; clear n0_ n1_ n2_; clear hb ho32) | ((with_reducible refine gate_builtin (b := .append) (xs := #[.tmp 64, .tmp 65]) rfl ?_); (try (refine gate_guard (by rfl) ?_; dsimp only)); at_builtin; refine Kd.R_append_rows (Kd.int .i64) (w0 := w) w.heap.size rfl (.tmp 64) (.tmp 65) 22 3 (.int .i64 0) 8 rfl Tryz.underlying22 info3 rfl (by decide) (by omega) v108 y107 l2 _ _ _ (fun k_ => some k_ ≠ (v105 : Value).ownBlock) (fun _ => False) rfl rfl ?aO ?aR (fun _ _ h => h) (fun _ h => h.elim) ?aF ?aB ?aS ?aL ?_; (case aR => repeat (first | exact (Kd.C_below HR2.out HB.out) | (with_reducible refine Kd.C_alloc ?_ _) | (with_reducible refine Kd.C_drewN ?_ _) | (with_reducible refine Kd.C_drew ?_))); (case aB => exact (by repeat (first | (with_reducible first | exact HB.out | apply below_alloc | apply pw_below_drewN | apply below_drew1) | exact HB.out))); (case aF => exact (fun k_ hk => Kd.fresh' (Kd.R_lt (by (with_reducible repeat (first | apply Kd.R_alloc | apply Kd.R_drewN | apply Kd.R_drew)); exact HO_14.out)) k_ hk)); (case aO => exact (by (with_reducible repeat (first | apply Kd.R_alloc | apply Kd.R_drewN | apply Kd.R_drew)); exact Kd.R_mono HO109.out (fun _ hk => hk.2))); (case aS => exact (below_size (by repeat (first | (with_reducible first | exact HB.out | apply below_alloc | apply pw_below_drewN | apply below_drew1) | exact HB.out)))); (case aL => have := LMc23.out; omega); intro v111 w33 ho hb hg hat; rw [← Ny110.out] at ho; have n0_ := Aside0.mk (Kd.R_after (ok := (fun _ => True)) (by (with_reducible repeat (first | apply Kd.R_alloc | apply Kd.R_drewN | apply Kd.R_drew)); exact HO_14.out) hg hat); have n1_ := Aside0.mk (hb); have n2_ := Aside0.mk (ho); clear HO_14; clear HB; clear HO109; have HO_14 := n0_; have HB := n1_; have HO112 := n2_; clear n0_ n1_ n2_; clear ho hb hg hat; obtain ⟨Ao34, co34, eo34⟩ := Kd.R_slice HO112.out; subst eo34; have p113 : 0 ≤ ((ji24) : Int) := of_decide_eq_true (by first | (with_reducible assumption) | assumption); have q113 : (ji24) < (y110.length : Int) := of_decide_eq_true (by first | (with_reducible assumption) | assumption); obtain ⟨ad113, e113, hx113_0⟩ := Kd.at_int (Kd.R_reads' HO112.out).2.2 (ji24) p113 q113; cases e113; replace p113 := eq_true p113; replace q113 := eq_true q113; have p28 : 0 ≤ ((ji24) : Int) := of_decide_eq_true (by first | (with_reducible assumption) | assumption); have q28 : ((ji24) : Int) < ((y110.length : Int) : Int) := of_decide_eq_true (by first | (with_reducible assumption) | assumption); obtain ⟨go28, co28, eo28, gb28, gl28, cl28, HG28⟩ := Kd.R_form HO112.out (by omega); (first | cases eo28 | (injection eo28 with ea_ en_ ec_; (first | subst ea_ | (injection ea_ with ea_; subst ea_)); subst ec_; clear en_)); have GB28 := Aside0.mk gb28; have GG28 := Aside0.mk HG28; clear gb28 gl28 HG28; (first | simp only [add_plain] at hx113_0 | skip); obtain ⟨hx28_0, hf28_0⟩ := Kd.R_celln 0 HO112.out ((ji24) : Int) p28 q28; replace p28 := eq_true p28; replace q28 := eq_true q28; obtain ⟨hy35_, hz35_⟩ := Kd.R_celln 0 HO112.out ((ji24) : Int) (of_decide_eq_true (by first | (with_reducible assumption) | assumption)) (of_decide_eq_true (by first | (with_reducible assumption) | assumption)); have HP35 := Kd.R_putg HO112.out ((ji24) : Int) ji27) | ((with_reducible refine gate_store (t := 3) (p := 77) rfl ?_); (try (rw [drewN_self w33]; generalize hq_ : World.drewN w33 _ = w33; have n0_ := Aside0.mk (Kd.R_at hq_ HO_14.out); have n1_ := Aside0.mk (Kd.R_at hq_ HO112.out); have n2_ := Aside0.mk (below_at hq_ HB.out); clear hq_ HO_14 HO112 HB; have HO_14 := n0_; have HO112 := n1_; have HB := n2_; clear n0_ n1_ n2_; (try (obtain ⟨hy35_, hz35_⟩ := Kd.R_celln 0 HO112.out ((ji24) : Int) (of_decide_eq_true (by first | (with_reducible assumption) | assumption)) (of_decide_eq_true (by first | (with_reducible assumption) | assumption)))); (try (have HP35 := Kd.R_putg HO112.out ((ji24) : Int) ji27)))); refine store_event (t := 3) (p := 77) (v := ?vo_w36) (w1 := (w33.setCell ⟨go28, ((ji24) : Int).toNat, none⟩ (.int .i64 ji27))) ?hg ?ho ?hn ?hr ?_; (case ho => rfl); (case hg => rfl); (case hn => rfl); (case hr => first | (go_simp; done) | (go_simp; rfl)); intro w36 hw; have hg : w33.grownBy w36 (some go28) := (by rw [hw]; exact HP35.2); have hp_ : Kd.R (Kd.int .i64) 3 w36 w.heap.size (fun k_ => some k_ ≠ (v105 : Value).ownBlock) (.slice (some ⟨go28, 0, none⟩) y110.length co34) y114 := (by rw [hw, Ny114.out]; exact HP35.1); clear HP35; have n0_ := Aside0.mk (Kd.R_after (v := (.slice (some ⟨go28, 0, none⟩) y110.length co34)) (v1 := (.slice (some ⟨go28, 0, none⟩) y110.length co34)) (ok := (fun _ => True)) (by (with_reducible repeat (first | apply Kd.R_alloc | apply Kd.R_drewN | apply Kd.R_drew)); exact HO_14.out) hg (.inl rfl)); have n1_ := Aside0.mk (hp_); have n2_ := Aside0.mk ((by rw [hw]; exact below_set (HB.out) GB28.out : Below w.heap.size w w36)); clear HO_14; clear HO112; clear HB; have HO_14 := n0_; have HO112 := n1_; have HB := n2_; clear n0_ n1_ n2_; clear hg hw hp_) | (go_at_call 12; refine calls_of_args (args' := #[.slice A0 l0.length c0, .slice A1 l1.length c1, .slice (some ⟨go28, 0, none⟩) y114.length co34]) (by first | (rw [show y114.length = y110.length from (Kd.R_reads' HO112.out).1.symm] <;> rfl) | rfl) ?_; (with_reducible refine (lottery_Tickets.calls _ _ l0 _ _ l1 _ _ y114 t115 t116 _ ?side1 ?side2 ?side3 ?side4 ?side5 ?side6 A29.out).mono ?_); (case side1 => repeat (first | exact (Kd.C_below HR0.out HB.out) | (with_reducible refine Kd.C_alloc ?_ _) | (with_reducible refine Kd.C_drewN ?_ _) | (with_reducible refine Kd.C_drew ?_))); (case side2 => exact HC0.out); (case side3 => repeat (first | exact (Kd.C_below HR1.out HB.out) | (with_reducible refine Kd.C_alloc ?_ _) | (with_reducible refine Kd.C_drewN ?_ _) | (with_reducible refine Kd.C_drew ?_))); (case side4 => exact HC1.out); (case side5 => repeat (first | exact (Kd.R_reads' HO112.out).2.2 | (with_reducible refine Kd.C_alloc ?_ _) | (with_reducible refine Kd.C_drewN ?_ _) | (with_reducible refine Kd.C_drew ?_))); (case side6 => rw [show y114.length = y110.length from (Kd.R_reads' HO112.out).1.symm]; exact (Kd.R_reads' HO112.out).2.1); rintro e w37 ⟨v117, rfl, ho0, hb⟩; have n0_ := Aside0.mk (Kd.R_elder' (by (with_reducible repeat (first | apply Kd.R_alloc | apply Kd.R_drewN | apply Kd.R_drew)); exact HO_14.out) (Kd.R_base ho0) hb); have n1_ := Aside0.mk (Kd.R_elder' (by (with_reducible repeat (first | apply Kd.R_alloc | apply Kd.R_drewN | apply Kd.R_drew)); exact HO112.out) (Kd.R_base ho0) hb); have n2_ := Aside0.mk (Kd.R_lower (Kd.R_new' (Kd.R_new' ho0 (Kd.R_lt (by (with_reducible repeat (first | apply Kd.R_alloc | apply Kd.R_drewN | apply Kd.R_drew)); exact HO_14.out))) (Kd.R_lt (by (with_reducible repeat (first | apply Kd.R_alloc | apply Kd.R_drewN | apply Kd.R_drew)); exact HO112.out))) (below_size (by repeat (first | (with_reducible first | exact HB.out | apply below_alloc | apply pw_below_drewN | apply below_drew1) | exact HB.out)))); have n3_ := Aside0.mk (below_step (by repeat (first | (with_reducible first | exact HB.out | apply below_alloc | apply pw_below_drewN | apply below_drew1) | exact HB.out)) hb); clear HO_14; clear HO112; clear HB; have HO_14 := n0_; have HO112 := n1_; have HO118 := n2_; have HB := n3_; clear n0_ n1_ n2_ n3_; (try clear hb); (try clear hb2); (try clear hk); (try clear hi); (try clear ho0))))
                      (try simp only [Act.put, List.setIfInBounds_toArray, List.set_cons_zero, List.set_cons_succ])
                      go_cut [104] (fun v104 wc => ∃ (kq : Nat) (x104_29 : Bool), v104 = .bool x104_29 ∧ Aside0 (observatorylaw29_LotteryMerits.j2 kq l0 l1 l2 a5 t101 t103 ji24 t115 x104_29 = some r) ∧ Aside0 (kq ≤ kj15) ∧ Aside0 (Kd.R (Kd.int .i64) 3 wc w.heap.size (fun k_ => some k_ ≠ (v117 : Value).ownBlock) v105 t103) ∧ Aside0 (Kd.R (Kd.int .i64) 3 wc w.heap.size (fun k_ => some k_ ≠ (v105 : Value).ownBlock) v117 t115) ∧ Aside0 (Below w.heap.size w wc))
                      case first =>
                        have H := HC30.out
                        clear HC30
                        by_cases c38 : t116 = 0
                        · rw [if_pos c38] at H
                          have c38b0 : (t116 == 0) = true := beq_iff_eq.mpr c38
                          have c38b1 : (t116 != 0) = false := bne_eq_false_iff_eq.mpr c38
                          clear c38
                          (first | rw [c38b0] | (simp only [i64_w, i32_w]; rw [c38b0]) | skip)
                          by_cases c39 : (t115.length : Int) = (t103.length : Int)
                          · rw [if_pos c39] at H
                            have c39b0 : ((t115.length : Int) == (t103.length : Int)) = true := beq_iff_eq.mpr c39
                            have c39b1 : ((t115.length : Int) != (t103.length : Int)) = false := bne_eq_false_iff_eq.mpr c39
                            have c39b2 : (t115.length == t103.length) = true := by first | simpa using c39 | (simp at c39 ⊢; omega)
                            clear c39
                            by_cases c40 : (ji24) < (t115.length : Int)
                            · rw [if_pos c40] at H
                              have c40b0 : decide ((ji24) < (t115.length : Int)) = true := decide_eq_true c40
                              clear c40
                              by_cases c41 : (ji24) < (t103.length : Int)
                              · rw [if_pos c41] at H
                                have c41b0 : decide ((ji24) < (t103.length : Int)) = true := decide_eq_true c41
                                clear c41
                                have H' := Aside0.mk H
                                clear H
                                obtain ⟨Ao42, co42, eo42⟩ := Kd.R_slice HO118.out
                                subst eo42
                                obtain ⟨Ao43, co43, eo43⟩ := Kd.R_slice HO_14.out
                                subst eo43
                                have p119 : 0 ≤ ((ji24) : Int) := of_decide_eq_true (by first | (with_reducible assumption) | assumption)
                                have q119 : (ji24) < (t115.length : Int) := of_decide_eq_true (by first | (with_reducible assumption) | assumption)
                                obtain ⟨ad119, e119, hx119_0⟩ := Kd.at_int (Kd.R_reads' HO118.out).2.2 (ji24) p119 q119
                                cases e119
                                replace p119 := eq_true p119
                                replace q119 := eq_true q119
                                have p120 : 0 ≤ ((ji24) : Int) := of_decide_eq_true (by first | (with_reducible assumption) | assumption)
                                have q120 : (ji24) < (t103.length : Int) := of_decide_eq_true (by first | (with_reducible assumption) | assumption)
                                obtain ⟨ad120, e120, hx120_0⟩ := Kd.at_int (Kd.R_reads' HO_14.out).2.2 (ji24) p120 q120
                                cases e120
                                replace p120 := eq_true p120
                                replace q120 := eq_true q120
                                go_wp2
                                repeat (go_quiet (fail); try go_wp2)
                                go_meet
                                case rel => exact ⟨_, (decide ((rd t115 (ji24)) < (rd t103 (ji24)))), (by first | rfl | (simp; done) | (simp only [← hji24] <;> (first | rfl | simp)) | (simp [*]; done)), H', ⟨by have := HJ7.out; have := HJ15.out; first | omega | exact Nat.le_refl _⟩, ⟨by (with_reducible repeat (first | apply Kd.R_alloc | apply Kd.R_drewN | apply Kd.R_drew)); exact Kd.R_mono HO_14.out (fun _ hk => hk.2)⟩, ⟨by (with_reducible repeat (first | apply Kd.R_alloc | apply Kd.R_drewN | apply Kd.R_drew)); exact Kd.R_mono HO118.out (fun _ hk => hk.1.2)⟩, ⟨by repeat (first | (with_reducible first | exact HB.out | apply below_alloc | apply pw_below_drewN | apply below_drew1) | exact HB.out)⟩⟩
                              · rw [if_neg c41] at H
                                exact absurd H (by simp)
                            · rw [if_neg c40] at H
                              exact absurd H (by simp)
                          · rw [if_neg c39] at H
                            have c39b0 : ((t115.length : Int) == (t103.length : Int)) = false := beq_eq_false_iff_ne.mpr c39
                            have c39b1 : ((t115.length : Int) != (t103.length : Int)) = true := bne_iff_ne.mpr c39
                            have c39b2 : (t115.length == t103.length) = false := by first | simpa using c39 | (simp at c39 ⊢; omega)
                            have H' := Aside0.mk H
                            clear H
                            obtain ⟨Ao44, co44, eo44⟩ := Kd.R_slice HO118.out
                            subst eo44
                            obtain ⟨Ao45, co45, eo45⟩ := Kd.R_slice HO_14.out
                            subst eo45
                            go_wp2
                            repeat (go_quiet (fail); try go_wp2)
                            go_meet
                            case rel => exact ⟨_, (true), (by first | rfl | (simp; done) | (simp [*]; done)), H', ⟨by have := HJ7.out; have := HJ15.out; first | omega | exact Nat.le_refl _⟩, ⟨by (with_reducible repeat (first | apply Kd.R_alloc | apply Kd.R_drewN | apply Kd.R_drew)); exact Kd.R_mono HO_14.out (fun _ hk => hk.2)⟩, ⟨by (with_reducible repeat (first | apply Kd.R_alloc | apply Kd.R_drewN | apply Kd.R_drew)); exact Kd.R_mono HO118.out (fun _ hk => hk.1.2)⟩, ⟨by repeat (first | (with_reducible first | exact HB.out | apply below_alloc | apply pw_below_drewN | apply below_drew1) | exact HB.out)⟩⟩
                        · rw [if_neg c38] at H
                          have c38b0 : (t116 == 0) = false := beq_eq_false_iff_ne.mpr c38
                          have c38b1 : (t116 != 0) = true := bne_iff_ne.mpr c38
                          (first | rw [c38b0] | (simp only [i64_w, i32_w]; rw [c38b0]) | skip)
                          have H' := Aside0.mk H
                          clear H
                          go_wp2
                          repeat (go_quiet (fail); try go_wp2)
                          go_meet
                          case rel => exact ⟨_, (true), (by first | rfl | (simp; done) | (simp [*]; done)), H', ⟨by have := HJ7.out; have := HJ15.out; first | omega | exact Nat.le_refl _⟩, ⟨by (with_reducible repeat (first | apply Kd.R_alloc | apply Kd.R_drewN | apply Kd.R_drew)); exact Kd.R_mono HO_14.out (fun _ hk => hk.2)⟩, ⟨by (with_reducible repeat (first | apply Kd.R_alloc | apply Kd.R_drewN | apply Kd.R_drew)); exact Kd.R_mono HO118.out (fun _ hk => hk.1.2)⟩, ⟨by repeat (first | (with_reducible first | exact HB.out | apply below_alloc | apply pw_below_drewN | apply below_drew1) | exact HB.out)⟩⟩
                      case rest =>
                        clear HC30
                        try clear c1
                        try clear p1
                        try clear q1
                        try clear hx1
                        try clear c2
                        try clear p2
                        try clear q2
                        try clear hx2
                        try clear c3
                        try clear c4
                        try clear p6
                        try clear c7
                        try clear c11
                        try clear p11
                        try clear q11
                        try clear hx11
                        try clear p12
                        try clear q12
                        try clear hx12
                        try clear c14
                        try clear c18
                        try clear c18b0
                        try clear c18b1
                        try clear c20
                        try clear c21
                        try clear c22
                        try clear c22b0
                        try clear c22b1
                        try clear c22b2
                        try clear c23
                        try clear c25
                        try clear c25b0
                        try clear c26
                        try clear c26b0
                        try clear p28
                        try clear q28
                        try clear hx28
                        try clear hf28
                        try clear c38
                        try clear c38b0
                        try clear c38b1
                        try clear c39
                        try clear c39b0
                        try clear c39b1
                        try clear c39b2
                        try clear c40
                        try clear c40b0
                        try clear c41
                        try clear c41b0
                        try clear hx113_0
                        try clear hx119_0
                        try clear hx120_0
                        try clear hx28_0
                        try clear p113
                        try clear p119
                        try clear p120
                        try clear p2
                        try clear p28
                        try clear q113
                        try clear q119
                        try clear q120
                        try clear q28
                        obtain ⟨kq, x104_29, rfl, HA, HJ29, HO_14, HO_18, HB⟩ := hcut
                        cases kq with
                        | zero => exact absurd HA.out (by simp [observatorylaw29_LotteryMerits.j2])
                        | succ kj29 =>
                          have H := HA.out
                          clear HA
                          simp only [observatorylaw29_LotteryMerits.j2] at H
                          by_cases c46 : x104_29 = true
                          · subst c46
                            rw [if_pos rfl] at H
                            exact absurd H (by simp)
                          · replace c46 := Bool.eq_false_iff.mpr c46
                            subst c46
                            have H1 : ((some (([] : List Int) : List Int)).bind fun y121 => (if y121.length + l2.length < 17592186044416 then (observatorylaw29_LotteryMerits.l0 kj29 l0 l1 t101 t103 ji24 t115 (wrap64 (1 + (Int.tmod (wrap64 (a5)) 4))) (y121 ++ l2) 0) else (none))) = some r := by rw [if_neg (show ¬ (false = true) by decide)] at H; exact H
                            clear H
                            have H := H1
                            clear H1
                            obtain ⟨y121, hy121⟩ : ∃ y_ : List Int, y_ = (([] : List Int)) := ⟨_, rfl⟩
                            replace H : (if y121.length + l2.length < 17592186044416 then (observatorylaw29_LotteryMerits.l0 kj29 l0 l1 t101 t103 ji24 t115 (wrap64 (1 + (Int.tmod (wrap64 (a5)) 4))) (y121 ++ l2) 0) else (none)) = some r := by first | (rw [hy121]; with_reducible exact H) | (have H2_ := (Option.bind_some _ _).symm.trans H; rw [hy121]; with_reducible exact H2_) | (have H2_ := (Option.bind_some _ _).symm.trans H; with_reducible exact H2_) | with_reducible exact H | (rw [hy121]; exact H) | exact H
                            have Ny121 := Aside0.mk hy121
                            clear hy121
                            by_cases c47 : y121.length + l2.length < 17592186044416
                            · rw [if_pos c47] at H
                              have LMc47 := Aside0.mk c47
                              clear c47
                              obtain ⟨y124, hy124⟩ : ∃ y_ : List Int, y_ = (y121 ++ l2) := ⟨_, rfl⟩
                              replace H : (observatorylaw29_LotteryMerits.l0 kj29 l0 l1 t101 t103 ji24 t115 (wrap64 (1 + (Int.tmod (wrap64 (a5)) 4))) y124 0) = some r := by first | (rw [hy124]; with_reducible exact H) | (have H2_ := (Option.bind_some _ _).symm.trans H; rw [hy124]; with_reducible exact H2_) | (have H2_ := (Option.bind_some _ _).symm.trans H; with_reducible exact H2_) | with_reducible exact H | (rw [hy124]; exact H) | exact H
                              have Ny124 := Aside0.mk hy124
                              clear hy124
                              have H' := Aside0.mk H
                              clear H
                              go_wp2_with (first | ((with_reducible refine gate_dst (N := 109) rfl ?_); (try (refine gate_guard (by rfl) ?_; dsimp only)); refine Kd.R_lit (Kd.int .i64) _ 3 ?hg (N := 109) ?hd (xs := ([] : List Int)) (inner := []) (ok := fun _ => True) (okp := fun _ => True) ?hr ?hp (fun _ hk => hk) trivial (Below.refl _ _) (Nat.le_refl _) (by simp) ?_; (case hd => rfl); (case hg => rfl); (case hr => first | (go_simp; done) | (go_simp; rfl)); (case hp => exact (Reps.none _ _)); intro v122 w48 ho49 hb hg_ hnew_; clear hg_ hnew_; (first | rw [← Ny121.out] at ho49 | (simp only [Int.reduceToNat] at ho49; rw [← Ny121.out] at ho49)); have n0_ := Aside0.mk (Kd.R_elder' (by (with_reducible repeat (first | apply Kd.R_alloc | apply Kd.R_drewN | apply Kd.R_drew)); exact HO_14.out) (Kd.R_base ho49) hb); have n1_ := Aside0.mk (Kd.R_elder' (by (with_reducible repeat (first | apply Kd.R_alloc | apply Kd.R_drewN | apply Kd.R_drew)); exact HO_18.out) (Kd.R_base ho49) hb); have n2_ := Aside0.mk (Kd.R_lower (Kd.R_new' (Kd.R_new' ho49 (Kd.R_lt (by (with_reducible repeat (first | apply Kd.R_alloc | apply Kd.R_drewN | apply Kd.R_drew)); exact HO_14.out))) (Kd.R_lt (by (with_reducible repeat (first | apply Kd.R_alloc | apply Kd.R_drewN | apply Kd.R_drew)); exact HO_18.out))) (below_size (by repeat (first | (with_reducible first | exact HB.out | apply below_alloc | apply pw_below_drewN | apply below_drew1) | exact HB.out)))); have n3_ := Aside0.mk (below_step (by repeat (first | (with_reducible first | exact HB.out | apply below_alloc | apply pw_below_drewN | apply below_drew1) | exact HB.out)) hb); clear HO_14; clear HO_18; clear HB; have HO_14 := n0_; have HO_18 := n1_; have HO123 := n2_; have HB := n3_; clear n0_ n1_ n2_ n3_; clear hb ho49) | ((with_reducible refine gate_builtin (b := .append) (xs := #[.tmp 109, .tmp 110]) rfl ?_); (try (refine gate_guard (by rfl) ?_; dsimp only)); at_builtin; refine Kd.R_append_rows (Kd.int .i64) (w0 := w) w.heap.size rfl (.tmp 109) (.tmp 110) 22 3 (.int .i64 0) 8 rfl Tryz.underlying22 info3 rfl (by decide) (by omega) v122 y121 l2 _ _ _ (fun k_ => some k_ ≠ (v105 : Value).ownBlock ∧ some k_ ≠ (v117 : Value).ownBlock) (fun _ => False) rfl rfl ?aO ?aR (fun _ _ h => h) (fun _ h => h.elim) ?aF ?aB ?aS ?aL ?_; (case aR => repeat (first | exact (Kd.C_below HR2.out HB.out) | (with_reducible refine Kd.C_alloc ?_ _) | (with_reducible refine Kd.C_drewN ?_ _) | (with_reducible refine Kd.C_drew ?_))); (case aB => exact (by repeat (first | (with_reducible first | exact HB.out | apply below_alloc | apply pw_below_drewN | apply below_drew1) | exact HB.out))); (case aF => exact (fun k_ hk => ⟨Kd.fresh' (Kd.R_lt (by (with_reducible repeat (first | apply Kd.R_alloc | apply Kd.R_drewN | apply Kd.R_drew)); exact HO_14.out)) k_ hk, Kd.fresh' (Kd.R_lt (by (with_reducible repeat (first | apply Kd.R_alloc | apply Kd.R_drewN | apply Kd.R_drew)); exact HO_18.out)) k_ hk⟩)); (case aO => exact (by (with_reducible repeat (first | apply Kd.R_alloc | apply Kd.R_drewN | apply Kd.R_drew)); exact Kd.R_mono HO123.out (fun _ hk => ⟨hk.1.2, hk.2⟩))); (case aS => exact (below_size (by repeat (first | (with_reducible first | exact HB.out | apply below_alloc | apply pw_below_drewN | apply below_drew1) | exact HB.out)))); (case aL => have := LMc47.out; omega); intro v125 w50 ho hb hg hat; rw [← Ny124.out] at ho; have n0_ := Aside0.mk (Kd.R_after (ok := (fun k_ => some k_ ≠ (v117 : Value).ownBlock)) (by (with_reducible repeat (first | apply Kd.R_alloc | apply Kd.R_drewN | apply Kd.R_drew)); exact HO_14.out) hg hat); have n1_ := Aside0.mk (Kd.R_after (ok := (fun k_ => some k_ ≠ (v105 : Value).ownBlock)) (by (with_reducible repeat (first | apply Kd.R_alloc | apply Kd.R_drewN | apply Kd.R_drew)); exact HO_18.out) hg hat); have n2_ := Aside0.mk (hb); have n3_ := Aside0.mk (ho); clear HO_14; clear HO_18; clear HB; clear HO123; have HO_14 := n0_; have HO_18 := n1_; have HB := n2_; have HO126 := n3_; clear n0_ n1_ n2_ n3_; clear ho hb hg hat))
                              repeat (go_quiet (first | ((with_reducible refine gate_dst (N := 109) rfl ?_); (try (refine gate_guard (by rfl) ?_; dsimp only)); refine Kd.R_lit (Kd.int .i64) _ 3 ?hg (N := 109) ?hd (xs := ([] : List Int)) (inner := []) (ok := fun _ => True) (okp := fun _ => True) ?hr ?hp (fun _ hk => hk) trivial (Below.refl _ _) (Nat.le_refl _) (by simp) ?_; (case hd => rfl); (case hg => rfl); (case hr => first | (go_simp; done) | (go_simp; rfl)); (case hp => exact (Reps.none _ _)); intro v122 w48 ho49 hb hg_ hnew_; clear hg_ hnew_; (first | rw [← Ny121.out] at ho49 | (simp only [Int.reduceToNat] at ho49; rw [← Ny121.out] at ho49)); have n0_ := Aside0.mk (Kd.R_elder' (by (with_reducible repeat (first | apply Kd.R_alloc | apply Kd.R_drewN | apply Kd.R_drew)); exact HO_14.out) (Kd.R_base ho49) hb); have n1_ := Aside0.mk (Kd.R_elder' (by (with_reducible repeat (first | apply Kd.R_alloc | apply Kd.R_drewN | apply Kd.R_drew)); exact HO_18.out) (Kd.R_base ho49) hb); have n2_ := Aside0.mk (Kd.R_lower (Kd.R_new' (Kd.R_new' ho49 (Kd.R_lt (by (with_reducible repeat (first | apply Kd.R_alloc | apply Kd.R_drewN | apply Kd.R_drew)); exact HO_14.out))) (Kd.R_lt (by (with_reducible repeat (first | apply Kd.R_alloc | apply Kd.R_drewN | apply Kd.R_drew)); exact HO_18.out))) (below_size (by repeat (first | (with_reducible first | exact HB.out | apply below_alloc | apply pw_below_drewN | apply below_drew1) | exact HB.out)))); have n3_ := Aside0.mk (below_step (by repeat (first | (with_reducible first | exact HB.out | apply below_alloc | apply pw_below_drewN | apply below_drew1) | exact HB.out)) hb); clear HO_14; clear HO_18; clear HB; have HO_14 := n0_; have HO_18 := n1_; have HO123 := n2_; have HB := n3_; clear n0_ n1_ n2_ n3_; clear hb ho49) | ((with_reducible refine gate_builtin (b := .append) (xs := #[.tmp 109, .tmp 110]) rfl ?_); (try (refine gate_guard (by rfl) ?_; dsimp only)); at_builtin; refine Kd.R_append_rows (Kd.int .i64) (w0 := w) w.heap.size rfl (.tmp 109) (.tmp 110) 22 3 (.int .i64 0) 8 rfl Tryz.underlying22 info3 rfl (by decide) (by omega) v122 y121 l2 _ _ _ (fun k_ => some k_ ≠ (v105 : Value).ownBlock ∧ some k_ ≠ (v117 : Value).ownBlock) (fun _ => False) rfl rfl ?aO ?aR (fun _ _ h => h) (fun _ h => h.elim) ?aF ?aB ?aS ?aL ?_; (case aR => repeat (first | exact (Kd.C_below HR2.out HB.out) | (with_reducible refine Kd.C_alloc ?_ _) | (with_reducible refine Kd.C_drewN ?_ _) | (with_reducible refine Kd.C_drew ?_))); (case aB => exact (by repeat (first | (with_reducible first | exact HB.out | apply below_alloc | apply pw_below_drewN | apply below_drew1) | exact HB.out))); (case aF => exact (fun k_ hk => ⟨Kd.fresh' (Kd.R_lt (by (with_reducible repeat (first | apply Kd.R_alloc | apply Kd.R_drewN | apply Kd.R_drew)); exact HO_14.out)) k_ hk, Kd.fresh' (Kd.R_lt (by (with_reducible repeat (first | apply Kd.R_alloc | apply Kd.R_drewN | apply Kd.R_drew)); exact HO_18.out)) k_ hk⟩)); (case aO => exact (by (with_reducible repeat (first | apply Kd.R_alloc | apply Kd.R_drewN | apply Kd.R_drew)); exact Kd.R_mono HO123.out (fun _ hk => ⟨hk.1.2, hk.2⟩))); (case aS => exact (below_size (by repeat (first | (with_reducible first | exact HB.out | apply below_alloc | apply pw_below_drewN | apply below_drew1) | exact HB.out)))); (case aL => have := LMc47.out; omega); intro v125 w50 ho hb hg hat; rw [← Ny124.out] at ho; have n0_ := Aside0.mk (Kd.R_after (ok := (fun k_ => some k_ ≠ (v117 : Value).ownBlock)) (by (with_reducible repeat (first | apply Kd.R_alloc | apply Kd.R_drewN | apply Kd.R_drew)); exact HO_14.out) hg hat); have n1_ := Aside0.mk (Kd.R_after (ok := (fun k_ => some k_ ≠ (v105 : Value).ownBlock)) (by (with_reducible repeat (first | apply Kd.R_alloc | apply Kd.R_drewN | apply Kd.R_drew)); exact HO_18.out) hg hat); have n2_ := Aside0.mk (hb); have n3_ := Aside0.mk (ho); clear HO_14; clear HO_18; clear HB; clear HO123; have HO_14 := n0_; have HO_18 := n1_; have HB := n2_; have HO126 := n3_; clear n0_ n1_ n2_ n3_; clear ho hb hg hat)); try go_wp2_with (first | ((with_reducible refine gate_dst (N := 109) rfl ?_); (try (refine gate_guard (by rfl) ?_; dsimp only)); refine Kd.R_lit (Kd.int .i64) _ 3 ?hg (N := 109) ?hd (xs := ([] : List Int)) (inner := []) (ok := fun _ => True) (okp := fun _ => True) ?hr ?hp (fun _ hk => hk) trivial (Below.refl _ _) (Nat.le_refl _) (by simp) ?_; (case hd => rfl); (case hg => rfl); (case hr => first | (go_simp; done) | (go_simp; rfl)); (case hp => exact (Reps.none _ _)); intro v122 w48 ho49 hb hg_ hnew_; clear hg_ hnew_; (first | rw [← Ny121.out] at ho49 | (simp only [Int.reduceToNat] at ho49; rw [← Ny121.out] at ho49)); have n0_ := Aside0.mk (Kd.R_elder' (by (with_reducible repeat (first | apply Kd.R_alloc | apply Kd.R_drewN | apply Kd.R_drew)); exact HO_14.out) (Kd.R_base ho49) hb); have n1_ := Aside0.mk (Kd.R_elder' (by (with_reducible repeat (first | apply Kd.R_alloc | apply Kd.R_drewN | apply Kd.R_drew)); exact HO_18.out) (Kd.R_base ho49) hb); have n2_ := Aside0.mk (Kd.R_lower (Kd.R_new' (Kd.R_new' ho49 (Kd.R_lt (by (with_reducible repeat (first | apply Kd.R_alloc | apply Kd.R_drewN | apply Kd.R_drew)); exact HO_14.out))) (Kd.R_lt (by (with_reducible repeat (first | apply Kd.R_alloc | apply Kd.R_drewN | apply Kd.R_drew)); exact HO_18.out))) (below_size (by repeat (first | (with_reducible first | exact HB.out | apply below_alloc | apply pw_below_drewN | apply below_drew1) | exact HB.out)))); have n3_ := Aside0.mk (below_step (by repeat (first | (with_reducible first | exact HB.out | apply below_alloc | apply pw_below_drewN | apply below_drew1) | exact HB.out)) hb); clear HO_14; clear HO_18; clear HB; have HO_14 := n0_; have HO_18 := n1_; have HO123 := n2_; have HB := n3_; clear n0_ n1_ n2_ n3_; clear hb ho49) | ((with_reducible refine gate_builtin (b := .append) (xs := #[.tmp 109, .tmp 110]) rfl ?_); (try (refine gate_guard (by rfl) ?_; dsimp only)); at_builtin; refine Kd.R_append_rows (Kd.int .i64) (w0 := w) w.heap.size rfl (.tmp 109) (.tmp 110) 22 3 (.int .i64 0) 8 rfl Tryz.underlying22 info3 rfl (by decide) (by omega) v122 y121 l2 _ _ _ (fun k_ => some k_ ≠ (v105 : Value).ownBlock ∧ some k_ ≠ (v117 : Value).ownBlock) (fun _ => False) rfl rfl ?aO ?aR (fun _ _ h => h) (fun _ h => h.elim) ?aF ?aB ?aS ?aL ?_; (case aR => repeat (first | exact (Kd.C_below HR2.out HB.out) | (with_reducible refine Kd.C_alloc ?_ _) | (with_reducible refine Kd.C_drewN ?_ _) | (with_reducible refine Kd.C_drew ?_))); (case aB => exact (by repeat (first | (with_reducible first | exact HB.out | apply below_alloc | apply pw_below_drewN | apply below_drew1) | exact HB.out))); (case aF => exact (fun k_ hk => ⟨Kd.fresh' (Kd.R_lt (by (with_reducible repeat (first | apply Kd.R_alloc | apply Kd.R_drewN | apply Kd.R_drew)); exact HO_14.out)) k_ hk, Kd.fresh' (Kd.R_lt (by (with_reducible repeat (first | apply Kd.R_alloc | apply Kd.R_drewN | apply Kd.R_drew)); exact HO_18.out)) k_ hk⟩)); (case aO => exact (by (with_reducible repeat (first | apply Kd.R_alloc | apply Kd.R_drewN | apply Kd.R_drew)); exact Kd.R_mono HO123.out (fun _ hk => ⟨hk.1.2, hk.2⟩))); (case aS => exact (below_size (by repeat (first | (with_reducible first | exact HB.out | apply below_alloc | apply pw_below_drewN | apply below_drew1) | exact HB.out)))); (case aL => have := LMc47.out; omega); intro v125 w50 ho hb hg hat; rw [← Ny124.out] at ho; have n0_ := Aside0.mk (Kd.R_after (ok := (fun k_ => some k_ ≠ (v117 : Value).ownBlock)) (by (with_reducible repeat (first | apply Kd.R_alloc | apply Kd.R_drewN | apply Kd.R_drew)); exact HO_14.out) hg hat); have n1_ := Aside0.mk (Kd.R_after (ok := (fun k_ => some k_ ≠ (v105 : Value).ownBlock)) (by (with_reducible repeat (first | apply Kd.R_alloc | apply Kd.R_drewN | apply Kd.R_drew)); exact HO_18.out) hg hat); have n2_ := Aside0.mk (hb); have n3_ := Aside0.mk (ho); clear HO_14; clear HO_18; clear HB; clear HO123; have HO_14 := n0_; have HO_18 := n1_; have HB := n2_; have HO126 := n3_; clear n0_ n1_ n2_ n3_; clear ho hb hg hat)))
                              go_loopg [22] kj29 (fun kq v22 w' => ∃ (x21_4 : List Int) (x22_4 : Int), v22 = .int .i64 x22_4 ∧ Aside0 (observatorylaw29_LotteryMerits.l0 kq l0 l1 t101 t103 ji24 t115 (wrap64 (1 + (Int.tmod (wrap64 (a5)) 4))) x21_4 x22_4 = some r) ∧ Aside0 (kq ≤ kj29) ∧ Aside0 (Kd.R (Kd.int .i64) 3 w' w.heap.size (fun k_ => some k_ ≠ (v117 : Value).ownBlock ∧ some k_ ≠ (v125 : Value).ownBlock) v105 t103) ∧ Aside0 (Kd.R (Kd.int .i64) 3 w' w.heap.size (fun k_ => some k_ ≠ (v105 : Value).ownBlock ∧ some k_ ≠ (v125 : Value).ownBlock) v117 t115) ∧ Aside0 (Kd.R (Kd.int .i64) 3 w' w.heap.size (fun k_ => some k_ ≠ (v105 : Value).ownBlock ∧ some k_ ≠ (v117 : Value).ownBlock) v125 x21_4) ∧ Aside0 (Below w.heap.size w w'))
                              case atStart => exact ⟨(y124), (0), (by first | rfl | (simp; done) | (simp [*]; done)), H', ⟨Nat.le_refl _⟩, ⟨by (with_reducible repeat (first | apply Kd.R_alloc | apply Kd.R_drewN | apply Kd.R_drew)); exact HO_14.out⟩, ⟨by (with_reducible repeat (first | apply Kd.R_alloc | apply Kd.R_drewN | apply Kd.R_drew)); exact HO_18.out⟩, ⟨by (with_reducible repeat (first | apply Kd.R_alloc | apply Kd.R_drewN | apply Kd.R_drew)); exact HO126.out⟩, ⟨by repeat (first | (with_reducible first | exact HB.out | apply below_alloc | apply pw_below_drewN | apply below_drew1) | exact HB.out)⟩⟩
                              case round =>
                                clear H'
                                try clear c1
                                try clear p1
                                try clear q1
                                try clear hx1
                                try clear c2
                                try clear p2
                                try clear q2
                                try clear hx2
                                try clear c3
                                try clear c4
                                try clear p6
                                try clear c7
                                try clear c11
                                try clear p11
                                try clear q11
                                try clear hx11
                                try clear p12
                                try clear q12
                                try clear hx12
                                try clear c14
                                try clear c18
                                try clear c18b0
                                try clear c18b1
                                try clear c20
                                try clear c21
                                try clear c22
                                try clear c22b0
                                try clear c22b1
                                try clear c22b2
                                try clear c23
                                try clear c25
                                try clear c25b0
                                try clear c26
                                try clear c26b0
                                try clear p28
                                try clear q28
                                try clear hx28
                                try clear hf28
                                try clear c38
                                try clear c38b0
                                try clear c38b1
                                try clear c39
                                try clear c39b0
                                try clear c39b1
                                try clear c39b2
                                try clear c40
                                try clear c40b0
                                try clear c41
                                try clear c41b0
                                try clear c46
                                try clear c47
                                try clear hx113_0
                                try clear hx119_0
                                try clear hx120_0
                                try clear hx28_0
                                try clear p1
                                try clear p11
                                try clear p113
                                try clear p119
                                try clear p12
                                try clear p120
                                try clear p2
                                try clear p28
                                try clear p6
                                try clear q1
                                try clear q11
                                try clear q113
                                try clear q119
                                try clear q12
                                try clear q120
                                try clear q2
                                try clear q28
                                obtain ⟨x21_4, x22_4, rfl, HA, HK4, HO_14, HO_18, HO_21, HB⟩ := hrel
                                cases gk with
                                | zero => exact absurd HA.out (by simp [observatorylaw29_LotteryMerits.l0])
                                | succ k4 =>
                                  have H := HA.out
                                  clear HA
                                  simp only [observatorylaw29_LotteryMerits.l0] at H
                                  by_cases c51 : x22_4 < (l1.length : Int)
                                  · rw [if_pos c51] at H
                                    have c51b0 : decide (x22_4 < (l1.length : Int)) = true := decide_eq_true c51
                                    clear c51
                                    have HC52 := Aside0.mk H
                                    clear H
                                    go_upto_region 18 with (fail)
                                    repeat (go_quiet (fail); go_upto_region 18 with (fail))
                                    go_cut [137] (fun v137 wc => ∃ (kq : Nat) (x137_51 : Bool), v137 = .bool x137_51 ∧ Aside0 (observatorylaw29_LotteryMerits.j4 kq l0 l1 t101 t103 ji24 t115 (wrap64 (1 + (Int.tmod (wrap64 (a5)) 4))) x21_4 x22_4 x137_51 = some r) ∧ Aside0 (kq ≤ k4) ∧ Aside0 (Kd.R (Kd.int .i64) 3 wc w.heap.size (fun k_ => some k_ ≠ (v117 : Value).ownBlock ∧ some k_ ≠ (v125 : Value).ownBlock) v105 t103) ∧ Aside0 (Kd.R (Kd.int .i64) 3 wc w.heap.size (fun k_ => some k_ ≠ (v105 : Value).ownBlock ∧ some k_ ≠ (v125 : Value).ownBlock) v117 t115) ∧ Aside0 (Kd.R (Kd.int .i64) 3 wc w.heap.size (fun k_ => some k_ ≠ (v105 : Value).ownBlock ∧ some k_ ≠ (v117 : Value).ownBlock) v125 x21_4) ∧ Aside0 (Below w.heap.size w wc))
                                    case first =>
                                      have H := HC52.out
                                      clear HC52
                                      by_cases c53 : 0 ≤ x22_4
                                      · rw [if_pos c53] at H
                                        have c53b0 : decide (0 ≤ x22_4) = true := decide_eq_true c53
                                        clear c53
                                        (first | rw [c53b0] | (simp only [i64_w, i32_w]; rw [c53b0]) | skip)
                                        by_cases c54 : 0 ≤ ji24
                                        · rw [if_pos c54] at H
                                          have c54b0 : decide (0 ≤ ji24) = true := decide_eq_true c54
                                          clear c54
                                          by_cases c55 : ji24 < (l1.length : Int)
                                          · rw [if_pos c55] at H
                                            have c55b0 : decide (ji24 < (l1.length : Int)) = true := decide_eq_true c55
                                            clear c55
                                            by_cases c56 : (rd l1 x22_4) = (rd l1 ji24)
                                            · rw [if_pos c56] at H
                                              have c56b0 : ((rd l1 x22_4) == (rd l1 ji24)) = true := beq_iff_eq.mpr c56
                                              have c56b1 : ((rd l1 x22_4) != (rd l1 ji24)) = false := bne_eq_false_iff_eq.mpr c56
                                              clear c56
                                              have H' := Aside0.mk H
                                              clear H
                                              have p127 : 0 ≤ (x22_4 : Int) := of_decide_eq_true (by first | (with_reducible assumption) | assumption)
                                              have q127 : x22_4 < (l1.length : Int) := of_decide_eq_true (by first | (with_reducible assumption) | assumption)
                                              obtain ⟨ad127, e127, hx127_0⟩ := Kd.at_int HR1.out x22_4 p127 q127
                                              cases e127
                                              replace hx127_0 := (HB.out.cell (World.block_lt_of_cell? w _ hx127_0)).trans hx127_0
                                              replace p127 := eq_true p127
                                              replace q127 := eq_true q127
                                              have p128 : 0 ≤ (ji24 : Int) := of_decide_eq_true (by first | (with_reducible assumption) | assumption)
                                              have q128 : ji24 < (l1.length : Int) := of_decide_eq_true (by first | (with_reducible assumption) | assumption)
                                              obtain ⟨ad128, e128, hx128_0⟩ := Kd.at_int HR1.out ji24 p128 q128
                                              obtain rfl : ad127 = ad128 := (by injection e128)
                                              replace hx128_0 := (HB.out.cell (World.block_lt_of_cell? w _ hx128_0)).trans hx128_0
                                              replace p128 := eq_true p128
                                              replace q128 := eq_true q128
                                              go_wp2
                                              repeat (go_quiet (fail); try go_wp2)
                                              go_meet
                                              case rel => exact ⟨_, (false), (by first | rfl | (simp; done) | (simp [*]; done)), H', ⟨by have := HJ7.out; have := HJ15.out; have := HJ29.out; have := HK4.out; first | omega | exact Nat.le_refl _⟩, ⟨by (with_reducible repeat (first | apply Kd.R_alloc | apply Kd.R_drewN | apply Kd.R_drew)); exact HO_14.out⟩, ⟨by (with_reducible repeat (first | apply Kd.R_alloc | apply Kd.R_drewN | apply Kd.R_drew)); exact HO_18.out⟩, ⟨by (with_reducible repeat (first | apply Kd.R_alloc | apply Kd.R_drewN | apply Kd.R_drew)); exact HO_21.out⟩, ⟨by repeat (first | (with_reducible first | exact HB.out | apply below_alloc | apply pw_below_drewN | apply below_drew1) | exact HB.out)⟩⟩
                                            · rw [if_neg c56] at H
                                              have c56b0 : ((rd l1 x22_4) == (rd l1 ji24)) = false := beq_eq_false_iff_ne.mpr c56
                                              have c56b1 : ((rd l1 x22_4) != (rd l1 ji24)) = true := bne_iff_ne.mpr c56
                                              by_cases c57 : x22_4 < (t103.length : Int)
                                              · rw [if_pos c57] at H
                                                have c57b0 : decide (x22_4 < (t103.length : Int)) = true := decide_eq_true c57
                                                clear c57
                                                by_cases c58 : x22_4 < (t115.length : Int)
                                                · rw [if_pos c58] at H
                                                  have c58b0 : decide (x22_4 < (t115.length : Int)) = true := decide_eq_true c58
                                                  clear c58
                                                  have H' := Aside0.mk H
                                                  clear H
                                                  have p127 : 0 ≤ (x22_4 : Int) := of_decide_eq_true (by first | (with_reducible assumption) | assumption)
                                                  have q127 : x22_4 < (l1.length : Int) := of_decide_eq_true (by first | (with_reducible assumption) | assumption)
                                                  obtain ⟨ad127, e127, hx127_0⟩ := Kd.at_int HR1.out x22_4 p127 q127
                                                  cases e127
                                                  replace hx127_0 := (HB.out.cell (World.block_lt_of_cell? w _ hx127_0)).trans hx127_0
                                                  replace p127 := eq_true p127
                                                  replace q127 := eq_true q127
                                                  have p128 : 0 ≤ (ji24 : Int) := of_decide_eq_true (by first | (with_reducible assumption) | assumption)
                                                  have q128 : ji24 < (l1.length : Int) := of_decide_eq_true (by first | (with_reducible assumption) | assumption)
                                                  obtain ⟨ad128, e128, hx128_0⟩ := Kd.at_int HR1.out ji24 p128 q128
                                                  obtain rfl : ad127 = ad128 := (by injection e128)
                                                  replace hx128_0 := (HB.out.cell (World.block_lt_of_cell? w _ hx128_0)).trans hx128_0
                                                  replace p128 := eq_true p128
                                                  replace q128 := eq_true q128
                                                  obtain ⟨Ao59, co59, eo59⟩ := Kd.R_slice HO_14.out
                                                  subst eo59
                                                  have p129 : 0 ≤ (x22_4 : Int) := of_decide_eq_true (by first | (with_reducible assumption) | assumption)
                                                  have q129 : x22_4 < (t103.length : Int) := of_decide_eq_true (by first | (with_reducible assumption) | assumption)
                                                  obtain ⟨ad129, e129, hx129_0⟩ := Kd.at_int (Kd.R_reads' HO_14.out).2.2 x22_4 p129 q129
                                                  cases e129
                                                  replace p129 := eq_true p129
                                                  replace q129 := eq_true q129
                                                  obtain ⟨Ao60, co60, eo60⟩ := Kd.R_slice HO_18.out
                                                  subst eo60
                                                  have p130 : 0 ≤ (x22_4 : Int) := of_decide_eq_true (by first | (with_reducible assumption) | assumption)
                                                  have q130 : x22_4 < (t115.length : Int) := of_decide_eq_true (by first | (with_reducible assumption) | assumption)
                                                  obtain ⟨ad130, e130, hx130_0⟩ := Kd.at_int (Kd.R_reads' HO_18.out).2.2 x22_4 p130 q130
                                                  cases e130
                                                  replace p130 := eq_true p130
                                                  replace q130 := eq_true q130
                                                  go_wp2
                                                  repeat (go_quiet (fail); try go_wp2)
                                                  go_meet
                                                  case rel => exact ⟨_, (((rd t103 x22_4) != (rd t115 x22_4))), (by first | rfl | (simp; done) | (simp [*]; done)), H', ⟨by have := HJ7.out; have := HJ15.out; have := HJ29.out; have := HK4.out; first | omega | exact Nat.le_refl _⟩, ⟨by (with_reducible repeat (first | apply Kd.R_alloc | apply Kd.R_drewN | apply Kd.R_drew)); exact HO_14.out⟩, ⟨by (with_reducible repeat (first | apply Kd.R_alloc | apply Kd.R_drewN | apply Kd.R_drew)); exact HO_18.out⟩, ⟨by (with_reducible repeat (first | apply Kd.R_alloc | apply Kd.R_drewN | apply Kd.R_drew)); exact HO_21.out⟩, ⟨by repeat (first | (with_reducible first | exact HB.out | apply below_alloc | apply pw_below_drewN | apply below_drew1) | exact HB.out)⟩⟩
                                                · rw [if_neg c58] at H
                                                  exact absurd H (by simp)
                                              · rw [if_neg c57] at H
                                                exact absurd H (by simp)
                                          · rw [if_neg c55] at H
                                            exact absurd H (by simp)
                                        · rw [if_neg c54] at H
                                          exact absurd H (by simp)
                                      · rw [if_neg c53] at H
                                        exact absurd H (by simp)
                                    case rest =>
                                      clear HC52
                                      try clear c1
                                      try clear p1
                                      try clear q1
                                      try clear hx1
                                      try clear c2
                                      try clear p2
                                      try clear q2
                                      try clear hx2
                                      try clear c3
                                      try clear c4
                                      try clear c5
                                      try clear p6
                                      try clear c7
                                      try clear c11
                                      try clear p11
                                      try clear q11
                                      try clear hx11
                                      try clear p12
                                      try clear q12
                                      try clear hx12
                                      try clear p13
                                      try clear q13
                                      try clear hx13
                                      try clear c14
                                      try clear c18
                                      try clear c18b0
                                      try clear c18b1
                                      try clear c20
                                      try clear c21
                                      try clear c22
                                      try clear c22b0
                                      try clear c22b1
                                      try clear c22b2
                                      try clear c23
                                      try clear c25
                                      try clear c25b0
                                      try clear c26
                                      try clear c26b0
                                      try clear p28
                                      try clear q28
                                      try clear hx28
                                      try clear hf28
                                      try clear c38
                                      try clear c38b0
                                      try clear c38b1
                                      try clear c39
                                      try clear c39b0
                                      try clear c39b1
                                      try clear c39b2
                                      try clear c40
                                      try clear c40b0
                                      try clear c41
                                      try clear c41b0
                                      try clear c46
                                      try clear c47
                                      try clear c51
                                      try clear c51b0
                                      try clear c53
                                      try clear c53b0
                                      try clear c54
                                      try clear c54b0
                                      try clear c55
                                      try clear c55b0
                                      try clear c56
                                      try clear c56b0
                                      try clear c56b1
                                      try clear c57
                                      try clear c57b0
                                      try clear c58
                                      try clear c58b0
                                      try clear hx113_0
                                      try clear hx119_0
                                      try clear hx120_0
                                      try clear hx127_0
                                      try clear hx128_0
                                      try clear hx129_0
                                      try clear hx130_0
                                      try clear hx28_0
                                      try clear p1
                                      try clear p11
                                      try clear p113
                                      try clear p119
                                      try clear p12
                                      try clear p120
                                      try clear p127
                                      try clear p128
                                      try clear p129
                                      try clear p130
                                      try clear p2
                                      try clear p28
                                      try clear p6
                                      try clear q1
                                      try clear q11
                                      try clear q113
                                      try clear q119
                                      try clear q12
                                      try clear q120
                                      try clear q127
                                      try clear q128
                                      try clear q129
                                      try clear q130
                                      try clear q2
                                      try clear q28
                                      obtain ⟨kq, x137_51, rfl, HA, HJ51, HO_14, HO_18, HO_21, HB⟩ := hcut
                                      cases kq with
                                      | zero => exact absurd HA.out (by simp [observatorylaw29_LotteryMerits.j4])
                                      | succ kj51 =>
                                        have H := HA.out
                                        clear HA
                                        simp only [observatorylaw29_LotteryMerits.j4] at H
                                        by_cases c61 : x137_51 = true
                                        · subst c61
                                          rw [if_pos rfl] at H
                                          exact absurd H (by simp)
                                        · replace c61 := Bool.eq_false_iff.mpr c61
                                          subst c61
                                          have H1 : (if 0 ≤ x22_4 then (if x22_4 < (l1.length : Int) then (if 0 ≤ ji24 then (if ji24 < (l1.length : Int) then (if (rd l1 x22_4) = (rd l1 ji24) then (if x22_4 < (x21_4.length : Int) then (observatorylaw29_LotteryMerits.l0 kj51 l0 l1 t101 t103 ji24 t115 (wrap64 (1 + (Int.tmod (wrap64 (a5)) 4))) (x21_4.set (x22_4 : Int).toNat (wrap64 ((rd x21_4 x22_4) * (wrap64 (1 + (Int.tmod (wrap64 (a5)) 4)))))) (wrap64 (x22_4 + 1))) else (none)) else (observatorylaw29_LotteryMerits.l0 kj51 l0 l1 t101 t103 ji24 t115 (wrap64 (1 + (Int.tmod (wrap64 (a5)) 4))) x21_4 (wrap64 (x22_4 + 1)))) else (none)) else (none)) else (none)) else (none)) = some r := by rw [if_neg (show ¬ (false = true) by decide)] at H; exact H
                                          clear H
                                          have H := H1
                                          clear H1
                                          by_cases c62 : 0 ≤ x22_4
                                          · rw [if_pos c62] at H
                                            have c62b0 : decide (0 ≤ x22_4) = true := decide_eq_true c62
                                            clear c62
                                            by_cases c63 : x22_4 < (l1.length : Int)
                                            · rw [if_pos c63] at H
                                              have c63b0 : decide (x22_4 < (l1.length : Int)) = true := decide_eq_true c63
                                              clear c63
                                              by_cases c64 : 0 ≤ ji24
                                              · rw [if_pos c64] at H
                                                have c64b0 : decide (0 ≤ ji24) = true := decide_eq_true c64
                                                clear c64
                                                by_cases c65 : ji24 < (l1.length : Int)
                                                · rw [if_pos c65] at H
                                                  have c65b0 : decide (ji24 < (l1.length : Int)) = true := decide_eq_true c65
                                                  clear c65
                                                  by_cases c66 : (rd l1 x22_4) = (rd l1 ji24)
                                                  · rw [if_pos c66] at H
                                                    have c66b0 : ((rd l1 x22_4) == (rd l1 ji24)) = true := beq_iff_eq.mpr c66
                                                    have c66b1 : ((rd l1 x22_4) != (rd l1 ji24)) = false := bne_eq_false_iff_eq.mpr c66
                                                    clear c66
                                                    by_cases c67 : x22_4 < (x21_4.length : Int)
                                                    · rw [if_pos c67] at H
                                                      have c67b0 : decide (x22_4 < (x21_4.length : Int)) = true := decide_eq_true c67
                                                      clear c67
                                                      obtain ⟨y134, hy134⟩ : ∃ y_ : List Int, y_ = (x21_4.set (x22_4 : Int).toNat (wrap64 ((rd x21_4 x22_4) * (wrap64 (1 + (Int.tmod (wrap64 (a5)) 4)))))) := ⟨_, rfl⟩
                                                      replace H : (observatorylaw29_LotteryMerits.l0 kj51 l0 l1 t101 t103 ji24 t115 (wrap64 (1 + (Int.tmod (wrap64 (a5)) 4))) y134 (wrap64 (x22_4 + 1))) = some r := by first | (rw [hy134]; with_reducible exact H) | (have H2_ := (Option.bind_some _ _).symm.trans H; rw [hy134]; with_reducible exact H2_) | (have H2_ := (Option.bind_some _ _).symm.trans H; with_reducible exact H2_) | with_reducible exact H | (rw [hy134]; exact H) | exact H
                                                      have Ny134 := Aside0.mk hy134
                                                      clear hy134
                                                      have H' := Aside0.mk H
                                                      clear H
                                                      have p131 : 0 ≤ (x22_4 : Int) := of_decide_eq_true (by first | (with_reducible assumption) | assumption)
                                                      have q131 : x22_4 < (l1.length : Int) := of_decide_eq_true (by first | (with_reducible assumption) | assumption)
                                                      obtain ⟨ad131, e131, hx131_0⟩ := Kd.at_int HR1.out x22_4 p131 q131
                                                      cases e131
                                                      replace hx131_0 := (HB.out.cell (World.block_lt_of_cell? w _ hx131_0)).trans hx131_0
                                                      replace p131 := eq_true p131
                                                      replace q131 := eq_true q131
                                                      have p132 : 0 ≤ (ji24 : Int) := of_decide_eq_true (by first | (with_reducible assumption) | assumption)
                                                      have q132 : ji24 < (l1.length : Int) := of_decide_eq_true (by first | (with_reducible assumption) | assumption)
                                                      obtain ⟨ad132, e132, hx132_0⟩ := Kd.at_int HR1.out ji24 p132 q132
                                                      obtain rfl : ad131 = ad132 := (by injection e132)
                                                      replace hx132_0 := (HB.out.cell (World.block_lt_of_cell? w _ hx132_0)).trans hx132_0
                                                      replace p132 := eq_true p132
                                                      replace q132 := eq_true q132
                                                      obtain ⟨Ao69, co69, eo69⟩ := Kd.R_slice HO_21.out
                                                      subst eo69
                                                      have p133 : 0 ≤ (x22_4 : Int) := of_decide_eq_true (by first | (with_reducible assumption) | assumption)
                                                      have q133 : x22_4 < (x21_4.length : Int) := of_decide_eq_true (by first | (with_reducible assumption) | assumption)
                                                      obtain ⟨ad133, e133, hx133_0⟩ := Kd.at_int (Kd.R_reads' HO_21.out).2.2 x22_4 p133 q133
                                                      cases e133
                                                      replace p133 := eq_true p133
                                                      replace q133 := eq_true q133
                                                      have p68 : 0 ≤ (x22_4 : Int) := of_decide_eq_true (by first | (with_reducible assumption) | assumption)
                                                      have q68 : (x22_4 : Int) < ((x21_4.length : Int) : Int) := of_decide_eq_true (by first | (with_reducible assumption) | assumption)
                                                      obtain ⟨go68, co68, eo68, gb68, gl68, cl68, HG68⟩ := Kd.R_form HO_21.out (by omega)
                                                      (first | cases eo68 | (injection eo68 with ea_ en_ ec_; (first | subst ea_ | (injection ea_ with ea_; subst ea_)); subst ec_; clear en_))
                                                      have GB68 := Aside0.mk gb68
                                                      have GG68 := Aside0.mk HG68
                                                      clear gb68 gl68 HG68
                                                      (first | simp only [add_plain] at hx133_0 | skip)
                                                      obtain ⟨hx68_0, hf68_0⟩ := Kd.R_celln 0 HO_21.out (x22_4 : Int) p68 q68
                                                      replace p68 := eq_true p68
                                                      replace q68 := eq_true q68
                                                      have HP70 := Kd.R_putg HO_21.out (x22_4 : Int) (wrap64 ((rd x21_4 x22_4) * (wrap64 (1 + (Int.tmod (wrap64 (a5)) 4)))))
                                                      go_wp2_with (first | ((with_reducible refine gate_store (t := 3) (p := 153) rfl ?_); (try (rw [drewN_self wc]; generalize hq_ : World.drewN wc _ = wc; have n0_ := Aside0.mk (Kd.R_at hq_ HO_14.out); have n1_ := Aside0.mk (Kd.R_at hq_ HO_18.out); have n2_ := Aside0.mk (Kd.R_at hq_ HO_21.out); (try (obtain ⟨hx68_0, hf68_0⟩ := Kd.R_celln 0 n2_.out (x22_4 : Int) (of_eq_true p68) (of_eq_true q68))); have n3_ := Aside0.mk (below_at hq_ HB.out); clear hq_ HO_14 HO_18 HO_21 HB; have HO_14 := n0_; have HO_18 := n1_; have HO_21 := n2_; have HB := n3_; clear n0_ n1_ n2_ n3_; (try (have HP70 := Kd.R_putg HO_21.out (x22_4 : Int) (wrap64 ((rd x21_4 x22_4) * (wrap64 (1 + (Int.tmod (wrap64 (a5)) 4))))))))); refine store_event (t := 3) (p := 153) (v := ?vo_w71) (w1 := (wc.setCell ⟨go68, (x22_4 : Int).toNat, none⟩ (.int .i64 (wrap64 ((rd x21_4 x22_4) * (wrap64 (1 + (Int.tmod (wrap64 (a5)) 4)))))))) ?hg ?ho ?hn ?hr ?_; (case ho => rfl); (case hg => rfl); (case hn => rfl); (case hr => first | (go_simp; done) | (go_simp; rfl)); intro w71 hw; have hg : wc.grownBy w71 (some go68) := (by rw [hw]; exact HP70.2); have hp_ : Kd.R (Kd.int .i64) 3 w71 w.heap.size (fun k_ => some k_ ≠ (v105 : Value).ownBlock ∧ some k_ ≠ (v117 : Value).ownBlock) (.slice (some ⟨go68, 0, none⟩) x21_4.length co69) y134 := (by rw [hw, Ny134.out]; exact HP70.1); clear HP70; have n0_ := Aside0.mk (Kd.R_after (v := (.slice (some ⟨go68, 0, none⟩) x21_4.length co69)) (v1 := (.slice (some ⟨go68, 0, none⟩) x21_4.length co69)) (ok := (fun k_ => some k_ ≠ (v117 : Value).ownBlock)) (by (with_reducible repeat (first | apply Kd.R_alloc | apply Kd.R_drewN | apply Kd.R_drew)); exact HO_14.out) hg (.inl rfl)); have n1_ := Aside0.mk (Kd.R_after (v := (.slice (some ⟨go68, 0, none⟩) x21_4.length co69)) (v1 := (.slice (some ⟨go68, 0, none⟩) x21_4.length co69)) (ok := (fun k_ => some k_ ≠ (v105 : Value).ownBlock)) (by (with_reducible repeat (first | apply Kd.R_alloc | apply Kd.R_drewN | apply Kd.R_drew)); exact HO_18.out) hg (.inl rfl)); have n2_ := Aside0.mk (hp_); have n3_ := Aside0.mk ((by rw [hw]; exact below_set (HB.out) GB68.out : Below w.heap.size w w71)); clear HO_14; clear HO_18; clear HO_21; clear HB; have HO_14 := n0_; have HO_18 := n1_; have HO_21 := n2_; have HB := n3_; clear n0_ n1_ n2_ n3_; clear hg hw hp_))
                                                      repeat (go_quiet (first | ((with_reducible refine gate_store (t := 3) (p := 153) rfl ?_); (try (rw [drewN_self wc]; generalize hq_ : World.drewN wc _ = wc; have n0_ := Aside0.mk (Kd.R_at hq_ HO_14.out); have n1_ := Aside0.mk (Kd.R_at hq_ HO_18.out); have n2_ := Aside0.mk (Kd.R_at hq_ HO_21.out); (try (obtain ⟨hx68_0, hf68_0⟩ := Kd.R_celln 0 n2_.out (x22_4 : Int) (of_eq_true p68) (of_eq_true q68))); have n3_ := Aside0.mk (below_at hq_ HB.out); clear hq_ HO_14 HO_18 HO_21 HB; have HO_14 := n0_; have HO_18 := n1_; have HO_21 := n2_; have HB := n3_; clear n0_ n1_ n2_ n3_; (try (have HP70 := Kd.R_putg HO_21.out (x22_4 : Int) (wrap64 ((rd x21_4 x22_4) * (wrap64 (1 + (Int.tmod (wrap64 (a5)) 4))))))))); refine store_event (t := 3) (p := 153) (v := ?vo_w71) (w1 := (wc.setCell ⟨go68, (x22_4 : Int).toNat, none⟩ (.int .i64 (wrap64 ((rd x21_4 x22_4) * (wrap64 (1 + (Int.tmod (wrap64 (a5)) 4)))))))) ?hg ?ho ?hn ?hr ?_; (case ho => rfl); (case hg => rfl); (case hn => rfl); (case hr => first | (go_simp; done) | (go_simp; rfl)); intro w71 hw; have hg : wc.grownBy w71 (some go68) := (by rw [hw]; exact HP70.2); have hp_ : Kd.R (Kd.int .i64) 3 w71 w.heap.size (fun k_ => some k_ ≠ (v105 : Value).ownBlock ∧ some k_ ≠ (v117 : Value).ownBlock) (.slice (some ⟨go68, 0, none⟩) x21_4.length co69) y134 := (by rw [hw, Ny134.out]; exact HP70.1); clear HP70; have n0_ := Aside0.mk (Kd.R_after (v := (.slice (some ⟨go68, 0, none⟩) x21_4.length co69)) (v1 := (.slice (some ⟨go68, 0, none⟩) x21_4.length co69)) (ok := (fun k_ => some k_ ≠ (v117 : Value).ownBlock)) (by (with_reducible repeat (first | apply Kd.R_alloc | apply Kd.R_drewN | apply Kd.R_drew)); exact HO_14.out) hg (.inl rfl)); have n1_ := Aside0.mk (Kd.R_after (v := (.slice (some ⟨go68, 0, none⟩) x21_4.length co69)) (v1 := (.slice (some ⟨go68, 0, none⟩) x21_4.length co69)) (ok := (fun k_ => some k_ ≠ (v105 : Value).ownBlock)) (by (with_reducible repeat (first | apply Kd.R_alloc | apply Kd.R_drewN | apply Kd.R_drew)); exact HO_18.out) hg (.inl rfl)); have n2_ := Aside0.mk (hp_); have n3_ := Aside0.mk ((by rw [hw]; exact below_set (HB.out) GB68.out : Below w.heap.size w w71)); clear HO_14; clear HO_18; clear HO_21; clear HB; have HO_14 := n0_; have HO_18 := n1_; have HO_21 := n2_; have HB := n3_; clear n0_ n1_ n2_ n3_; clear hg hw hp_)); try go_wp2_with (first | ((with_reducible refine gate_store (t := 3) (p := 153) rfl ?_); (try (rw [drewN_self wc]; generalize hq_ : World.drewN wc _ = wc; have n0_ := Aside0.mk (Kd.R_at hq_ HO_14.out); have n1_ := Aside0.mk (Kd.R_at hq_ HO_18.out); have n2_ := Aside0.mk (Kd.R_at hq_ HO_21.out); (try (obtain ⟨hx68_0, hf68_0⟩ := Kd.R_celln 0 n2_.out (x22_4 : Int) (of_eq_true p68) (of_eq_true q68))); have n3_ := Aside0.mk (below_at hq_ HB.out); clear hq_ HO_14 HO_18 HO_21 HB; have HO_14 := n0_; have HO_18 := n1_; have HO_21 := n2_; have HB := n3_; clear n0_ n1_ n2_ n3_; (try (have HP70 := Kd.R_putg HO_21.out (x22_4 : Int) (wrap64 ((rd x21_4 x22_4) * (wrap64 (1 + (Int.tmod (wrap64 (a5)) 4))))))))); refine store_event (t := 3) (p := 153) (v := ?vo_w71) (w1 := (wc.setCell ⟨go68, (x22_4 : Int).toNat, none⟩ (.int .i64 (wrap64 ((rd x21_4 x22_4) * (wrap64 (1 + (Int.tmod (wrap64 (a5)) 4)))))))) ?hg ?ho ?hn ?hr ?_; (case ho => rfl); (case hg => rfl); (case hn => rfl); (case hr => first | (go_simp; done) | (go_simp; rfl)); intro w71 hw; have hg : wc.grownBy w71 (some go68) := (by rw [hw]; exact HP70.2); have hp_ : Kd.R (Kd.int .i64) 3 w71 w.heap.size (fun k_ => some k_ ≠ (v105 : Value).ownBlock ∧ some k_ ≠ (v117 : Value).ownBlock) (.slice (some ⟨go68, 0, none⟩) x21_4.length co69) y134 := (by rw [hw, Ny134.out]; exact HP70.1); clear HP70; have n0_ := Aside0.mk (Kd.R_after (v := (.slice (some ⟨go68, 0, none⟩) x21_4.length co69)) (v1 := (.slice (some ⟨go68, 0, none⟩) x21_4.length co69)) (ok := (fun k_ => some k_ ≠ (v117 : Value).ownBlock)) (by (with_reducible repeat (first | apply Kd.R_alloc | apply Kd.R_drewN | apply Kd.R_drew)); exact HO_14.out) hg (.inl rfl)); have n1_ := Aside0.mk (Kd.R_after (v := (.slice (some ⟨go68, 0, none⟩) x21_4.length co69)) (v1 := (.slice (some ⟨go68, 0, none⟩) x21_4.length co69)) (ok := (fun k_ => some k_ ≠ (v105 : Value).ownBlock)) (by (with_reducible repeat (first | apply Kd.R_alloc | apply Kd.R_drewN | apply Kd.R_drew)); exact HO_18.out) hg (.inl rfl)); have n2_ := Aside0.mk (hp_); have n3_ := Aside0.mk ((by rw [hw]; exact below_set (HB.out) GB68.out : Below w.heap.size w w71)); clear HO_14; clear HO_18; clear HO_21; clear HB; have HO_14 := n0_; have HO_18 := n1_; have HO_21 := n2_; have HB := n3_; clear n0_ n1_ n2_ n3_; clear hg hw hp_)))
                                                      go_roundg kj51
                                                      case measure => have := HJ7.out; have := HJ15.out; have := HJ29.out; have := HK4.out; have := HJ51.out; omega
                                                      case rel => exact ⟨(y134), (wrap64 (x22_4 + 1)), (by first | rfl | (simp; done) | (simp [*]; done)), H', ⟨by have := HJ7.out; have := HJ15.out; have := HJ29.out; have := HK4.out; have := HJ51.out; omega⟩, ⟨by (with_reducible repeat (first | apply Kd.R_alloc | apply Kd.R_drewN | apply Kd.R_drew)); exact HO_14.out⟩, ⟨by (with_reducible repeat (first | apply Kd.R_alloc | apply Kd.R_drewN | apply Kd.R_drew)); exact HO_18.out⟩, ⟨by (with_reducible repeat (first | apply Kd.R_alloc | apply Kd.R_drewN | apply Kd.R_drew)); exact HO_21.out⟩, ⟨by repeat (first | (with_reducible first | exact HB.out | apply below_alloc | apply pw_below_drewN | apply below_drew1) | exact HB.out)⟩⟩
                                                    · rw [if_neg c67] at H
                                                      exact absurd H (by simp)
                                                  · rw [if_neg c66] at H
                                                    have c66b0 : ((rd l1 x22_4) == (rd l1 ji24)) = false := beq_eq_false_iff_ne.mpr c66
                                                    have c66b1 : ((rd l1 x22_4) != (rd l1 ji24)) = true := bne_iff_ne.mpr c66
                                                    have H' := Aside0.mk H
                                                    clear H
                                                    have p131 : 0 ≤ (x22_4 : Int) := of_decide_eq_true (by first | (with_reducible assumption) | assumption)
                                                    have q131 : x22_4 < (l1.length : Int) := of_decide_eq_true (by first | (with_reducible assumption) | assumption)
                                                    obtain ⟨ad131, e131, hx131_0⟩ := Kd.at_int HR1.out x22_4 p131 q131
                                                    cases e131
                                                    replace hx131_0 := (HB.out.cell (World.block_lt_of_cell? w _ hx131_0)).trans hx131_0
                                                    replace p131 := eq_true p131
                                                    replace q131 := eq_true q131
                                                    have p132 : 0 ≤ (ji24 : Int) := of_decide_eq_true (by first | (with_reducible assumption) | assumption)
                                                    have q132 : ji24 < (l1.length : Int) := of_decide_eq_true (by first | (with_reducible assumption) | assumption)
                                                    obtain ⟨ad132, e132, hx132_0⟩ := Kd.at_int HR1.out ji24 p132 q132
                                                    obtain rfl : ad131 = ad132 := (by injection e132)
                                                    replace hx132_0 := (HB.out.cell (World.block_lt_of_cell? w _ hx132_0)).trans hx132_0
                                                    replace p132 := eq_true p132
                                                    replace q132 := eq_true q132
                                                    go_wp2
                                                    repeat (go_quiet (fail); try go_wp2)
                                                    go_roundg kj51
                                                    case measure => have := HJ7.out; have := HJ15.out; have := HJ29.out; have := HK4.out; have := HJ51.out; omega
                                                    case rel => exact ⟨(x21_4), (wrap64 (x22_4 + 1)), (by first | rfl | (simp; done) | (simp [*]; done)), H', ⟨by have := HJ7.out; have := HJ15.out; have := HJ29.out; have := HK4.out; have := HJ51.out; omega⟩, ⟨by (with_reducible repeat (first | apply Kd.R_alloc | apply Kd.R_drewN | apply Kd.R_drew)); exact HO_14.out⟩, ⟨by (with_reducible repeat (first | apply Kd.R_alloc | apply Kd.R_drewN | apply Kd.R_drew)); exact HO_18.out⟩, ⟨by (with_reducible repeat (first | apply Kd.R_alloc | apply Kd.R_drewN | apply Kd.R_drew)); exact HO_21.out⟩, ⟨by repeat (first | (with_reducible first | exact HB.out | apply below_alloc | apply pw_below_drewN | apply below_drew1) | exact HB.out)⟩⟩
                                                · rw [if_neg c65] at H
                                                  exact absurd H (by simp)
                                              · rw [if_neg c64] at H
                                                exact absurd H (by simp)
                                            · rw [if_neg c63] at H
                                              exact absurd H (by simp)
                                          · rw [if_neg c62] at H
                                            exact absurd H (by simp)
                                  · rw [if_neg c51] at H
                                    have c51b0 : decide (x22_4 < (l1.length : Int)) = false := decide_eq_false c51
                                    clear c51
                                    have H' := Aside0.mk H
                                    clear H
                                    go_wp2
                                    repeat (go_quiet (fail); try go_wp2)
                                    go_loopg [23] k4 (fun kq v23 w' => ∃ (x23_5 : Int), v23 = .int .i64 x23_5 ∧ Aside0 (observatorylaw29_LotteryMerits.l1 kq l0 l1 t101 t103 x21_4 x23_5 = some r) ∧ Aside0 (kq ≤ k4) ∧ Aside0 (Kd.R (Kd.int .i64) 3 w' w.heap.size (fun k_ => some k_ ≠ (v125 : Value).ownBlock) v105 t103) ∧ Aside0 (Kd.R (Kd.int .i64) 3 w' w.heap.size (fun k_ => some k_ ≠ (v105 : Value).ownBlock) v125 x21_4) ∧ Aside0 (Below w.heap.size w w'))
                                    case atStart => exact ⟨(0), (by first | rfl | (simp; done) | (simp [*]; done)), H', ⟨Nat.le_refl _⟩, ⟨by (with_reducible repeat (first | apply Kd.R_alloc | apply Kd.R_drewN | apply Kd.R_drew)); exact Kd.R_mono HO_14.out (fun _ hk => hk.2)⟩, ⟨by (with_reducible repeat (first | apply Kd.R_alloc | apply Kd.R_drewN | apply Kd.R_drew)); exact Kd.R_mono HO_21.out (fun _ hk => hk.1)⟩, ⟨by repeat (first | (with_reducible first | exact HB.out | apply below_alloc | apply pw_below_drewN | apply below_drew1) | exact HB.out)⟩⟩
                                    case round =>
                                      clear H'
                                      try clear c1
                                      try clear p1
                                      try clear q1
                                      try clear hx1
                                      try clear c2
                                      try clear p2
                                      try clear q2
                                      try clear hx2
                                      try clear c3
                                      try clear c4
                                      try clear c5
                                      try clear c6
                                      try clear p6
                                      try clear q6
                                      try clear hx6
                                      try clear hf6
                                      try clear c7
                                      try clear c11
                                      try clear p11
                                      try clear q11
                                      try clear hx11
                                      try clear p12
                                      try clear q12
                                      try clear hx12
                                      try clear p13
                                      try clear q13
                                      try clear hx13
                                      try clear c14
                                      try clear c18
                                      try clear c18b0
                                      try clear c18b1
                                      try clear c20
                                      try clear c21
                                      try clear c22
                                      try clear c22b0
                                      try clear c22b1
                                      try clear c22b2
                                      try clear c23
                                      try clear c25
                                      try clear c25b0
                                      try clear c26
                                      try clear c26b0
                                      try clear p28
                                      try clear q28
                                      try clear hx28
                                      try clear hf28
                                      try clear c38
                                      try clear c38b0
                                      try clear c38b1
                                      try clear c39
                                      try clear c39b0
                                      try clear c39b1
                                      try clear c39b2
                                      try clear c40
                                      try clear c40b0
                                      try clear c41
                                      try clear c41b0
                                      try clear c46
                                      try clear c47
                                      try clear c51
                                      try clear c51b0
                                      try clear c53
                                      try clear c53b0
                                      try clear c54
                                      try clear c54b0
                                      try clear c55
                                      try clear c55b0
                                      try clear c56
                                      try clear c56b0
                                      try clear c56b1
                                      try clear c57
                                      try clear c57b0
                                      try clear c58
                                      try clear c58b0
                                      try clear c61
                                      try clear c62
                                      try clear c62b0
                                      try clear c63
                                      try clear c63b0
                                      try clear c64
                                      try clear c64b0
                                      try clear p64
                                      try clear c65
                                      try clear c65b0
                                      try clear c66
                                      try clear c66b0
                                      try clear c66b1
                                      try clear c67
                                      try clear c67b0
                                      try clear p68
                                      try clear q68
                                      try clear hx68
                                      try clear hf68
                                      try clear hx113_0
                                      try clear hx119_0
                                      try clear hx120_0
                                      try clear hx127_0
                                      try clear hx128_0
                                      try clear hx129_0
                                      try clear hx130_0
                                      try clear hx131_0
                                      try clear hx132_0
                                      try clear hx133_0
                                      try clear hx28_0
                                      try clear hx68_0
                                      try clear p1
                                      try clear p11
                                      try clear p113
                                      try clear p119
                                      try clear p12
                                      try clear p120
                                      try clear p127
                                      try clear p128
                                      try clear p129
                                      try clear p13
                                      try clear p130
                                      try clear p131
                                      try clear p132
                                      try clear p133
                                      try clear p2
                                      try clear p28
                                      try clear p6
                                      try clear p68
                                      try clear q1
                                      try clear q11
                                      try clear q113
                                      try clear q119
                                      try clear q12
                                      try clear q120
                                      try clear q127
                                      try clear q128
                                      try clear q129
                                      try clear q13
                                      try clear q130
                                      try clear q131
                                      try clear q132
                                      try clear q133
                                      try clear q2
                                      try clear q28
                                      try clear q68
                                      obtain ⟨x23_5, rfl, HA, HK5, HO_14, HO_21, HB⟩ := hrel
                                      cases gk with
                                      | zero => exact absurd HA.out (by simp [observatorylaw29_LotteryMerits.l1])
                                      | succ k5 =>
                                        have H := HA.out
                                        clear HA
                                        simp only [observatorylaw29_LotteryMerits.l1] at H
                                        by_cases c72 : x23_5 < (x21_4.length : Int)
                                        · rw [if_pos c72] at H
                                          have c72b0 : decide (x23_5 < (x21_4.length : Int)) = true := decide_eq_true c72
                                          clear c72
                                          by_cases c73 : 0 ≤ x23_5
                                          · rw [if_pos c73] at H
                                            have c73b0 : decide (0 ≤ x23_5) = true := decide_eq_true c73
                                            clear c73
                                            by_cases c74 : (rd x21_4 x23_5) > 10000
                                            · rw [if_pos c74] at H
                                              have c74b0 : decide (10000 < (rd x21_4 x23_5)) = true := decide_eq_true c74
                                              clear c74
                                              obtain rfl := Option.some.inj H
                                              obtain ⟨Ao75, co75, eo75⟩ := Kd.R_slice HO_21.out
                                              subst eo75
                                              have p135 : 0 ≤ (x23_5 : Int) := of_decide_eq_true (by first | (with_reducible assumption) | assumption)
                                              have q135 : x23_5 < (x21_4.length : Int) := of_decide_eq_true (by first | (with_reducible assumption) | assumption)
                                              obtain ⟨ad135, e135, hx135_0⟩ := Kd.at_int (Kd.R_reads' HO_21.out).2.2 x23_5 p135 q135
                                              cases e135
                                              replace p135 := eq_true p135
                                              replace q135 := eq_true q135
                                              go_wp2
                                              repeat (go_quiet (fail); try go_wp2)
                                              go_ret
                                              exact ⟨by first | rfl | (simp [errW_none, errW_some] <;> rfl) | (simp only [← hji24, ← hji27]; first | rfl | (simp [errW_none, errW_some] <;> rfl)) | (simp [*, errW_none, errW_some] <;> rfl), by repeat (first | (with_reducible first | exact HB.out | apply below_alloc | apply pw_below_drewN | apply below_drew1) | exact HB.out)⟩
                                            · rw [if_neg c74] at H
                                              have c74b0 : decide (10000 < (rd x21_4 x23_5)) = false := decide_eq_false c74
                                              clear c74
                                              have H' := Aside0.mk H
                                              clear H
                                              obtain ⟨Ao76, co76, eo76⟩ := Kd.R_slice HO_21.out
                                              subst eo76
                                              have p135 : 0 ≤ (x23_5 : Int) := of_decide_eq_true (by first | (with_reducible assumption) | assumption)
                                              have q135 : x23_5 < (x21_4.length : Int) := of_decide_eq_true (by first | (with_reducible assumption) | assumption)
                                              obtain ⟨ad135, e135, hx135_0⟩ := Kd.at_int (Kd.R_reads' HO_21.out).2.2 x23_5 p135 q135
                                              cases e135
                                              replace p135 := eq_true p135
                                              replace q135 := eq_true q135
                                              go_wp2
                                              repeat (go_quiet (fail); try go_wp2)
                                              go_roundg k5
                                              case measure => have := HJ7.out; have := HJ15.out; have := HJ29.out; have := HK4.out; have := HK5.out; omega
                                              case rel => exact ⟨(wrap64 (x23_5 + 1)), (by first | rfl | (simp; done) | (simp [*]; done)), H', ⟨by have := HJ7.out; have := HJ15.out; have := HJ29.out; have := HK4.out; have := HK5.out; omega⟩, ⟨by (with_reducible repeat (first | apply Kd.R_alloc | apply Kd.R_drewN | apply Kd.R_drew)); exact HO_14.out⟩, ⟨by (with_reducible repeat (first | apply Kd.R_alloc | apply Kd.R_drewN | apply Kd.R_drew)); exact HO_21.out⟩, ⟨by repeat (first | (with_reducible first | exact HB.out | apply below_alloc | apply pw_below_drewN | apply below_drew1) | exact HB.out)⟩⟩
                                          · rw [if_neg c73] at H
                                            exact absurd H (by simp)
                                        · rw [if_neg c72] at H
                                          have c72b0 : decide (x23_5 < (x21_4.length : Int)) = false := decide_eq_false c72
                                          clear c72
                                          replace H := Option.bind_eq_some_iff.mp H
                                          obtain ⟨⟨t136, t137⟩, A770, H⟩ := H
                                          replace H : (if t101 = true then (if t137 = 0 then ((observatoryref29_Ints.f t103 t136).bind fun t140 => (some t140)) else (none)) else (none)) = some r := H
                                          have A77 := Aside0.mk A770
                                          clear A770
                                          by_cases c78 : t101 = true
                                          · subst c78
                                            rw [if_pos rfl] at H
                                            by_cases c79 : t137 = 0
                                            · rw [if_pos c79] at H
                                              have c79b0 : (t137 == 0) = true := beq_iff_eq.mpr c79
                                              have c79b1 : (t137 != 0) = false := bne_eq_false_iff_eq.mpr c79
                                              clear c79
                                              replace H := Option.bind_eq_some_iff.mp H
                                              obtain ⟨t140, A800, H⟩ := H
                                              replace H : (some t140) = some r := H
                                              have A80 := Aside0.mk A800
                                              clear A800
                                              obtain rfl := Option.some.inj H
                                              obtain ⟨Ao81, co81, eo81⟩ := Kd.R_slice HO_21.out
                                              subst eo81
                                              go_wp2_with (first | (go_at_call 12; (with_reducible refine (lottery_Tickets.calls _ _ l0 _ _ l1 _ _ x21_4 t136 t137 _ ?side1 ?side2 ?side3 ?side4 ?side5 ?side6 A77.out).mono ?_); (case side1 => repeat (first | exact (Kd.C_below HR0.out HB.out) | (with_reducible refine Kd.C_alloc ?_ _) | (with_reducible refine Kd.C_drewN ?_ _) | (with_reducible refine Kd.C_drew ?_))); (case side2 => exact HC0.out); (case side3 => repeat (first | exact (Kd.C_below HR1.out HB.out) | (with_reducible refine Kd.C_alloc ?_ _) | (with_reducible refine Kd.C_drewN ?_ _) | (with_reducible refine Kd.C_drew ?_))); (case side4 => exact HC1.out); (case side5 => repeat (first | exact (Kd.R_reads' HO_21.out).2.2 | (with_reducible refine Kd.C_alloc ?_ _) | (with_reducible refine Kd.C_drewN ?_ _) | (with_reducible refine Kd.C_drew ?_))); (case side6 => exact (Kd.R_reads' HO_21.out).2.1); rintro e w82 ⟨v138, rfl, ho0, hb⟩; have n0_ := Aside0.mk (Kd.R_elder' (by (with_reducible repeat (first | apply Kd.R_alloc | apply Kd.R_drewN | apply Kd.R_drew)); exact HO_14.out) (Kd.R_base ho0) hb); have n1_ := Aside0.mk (Kd.R_elder' (by (with_reducible repeat (first | apply Kd.R_alloc | apply Kd.R_drewN | apply Kd.R_drew)); exact HO_21.out) (Kd.R_base ho0) hb); have n2_ := Aside0.mk (Kd.R_lower (Kd.R_new' (Kd.R_new' ho0 (Kd.R_lt (by (with_reducible repeat (first | apply Kd.R_alloc | apply Kd.R_drewN | apply Kd.R_drew)); exact HO_14.out))) (Kd.R_lt (by (with_reducible repeat (first | apply Kd.R_alloc | apply Kd.R_drewN | apply Kd.R_drew)); exact HO_21.out))) (below_size (by repeat (first | (with_reducible first | exact HB.out | apply below_alloc | apply pw_below_drewN | apply below_drew1) | exact HB.out)))); have n3_ := Aside0.mk (below_step (by repeat (first | (with_reducible first | exact HB.out | apply below_alloc | apply pw_below_drewN | apply below_drew1) | exact HB.out)) hb); clear HO_14; clear HO_21; clear HB; have HO_14 := n0_; have HO_21 := n1_; have HO139 := n2_; have HB := n3_; clear n0_ n1_ n2_ n3_; (try clear hb); (try clear hb2); (try clear hk); (try clear hi); (try clear ho0); obtain ⟨Ao83, co83, eo83⟩ := Kd.R_slice HO_14.out; subst eo83; obtain ⟨Ao84, co84, eo84⟩ := Kd.R_slice HO139.out; subst eo84) | (go_at_call 18; (with_reducible refine (observatoryref29_Ints.calls _ _ t103 _ _ t136 t140 _ ?side1 ?side2 ?side3 ?side4 A80.out).mono ?_); (case side1 => repeat (first | exact (Kd.R_reads' HO_14.out).2.2 | (with_reducible refine Kd.C_alloc ?_ _) | (with_reducible refine Kd.C_drewN ?_ _) | (with_reducible refine Kd.C_drew ?_))); (case side2 => exact (Kd.R_reads' HO_14.out).2.1); (case side3 => repeat (first | exact (Kd.R_reads' HO139.out).2.2 | (with_reducible refine Kd.C_alloc ?_ _) | (with_reducible refine Kd.C_drewN ?_ _) | (with_reducible refine Kd.C_drew ?_))); (case side4 => exact (Kd.R_reads' HO139.out).2.1); rintro e w85 ⟨rfl, hb⟩; have n0_ := Aside0.mk (Kd.R_below (by (with_reducible repeat (first | apply Kd.R_alloc | apply Kd.R_drewN | apply Kd.R_drew)); exact HO_14.out) hb); have n1_ := Aside0.mk (Kd.R_below (by (with_reducible repeat (first | apply Kd.R_alloc | apply Kd.R_drewN | apply Kd.R_drew)); exact HO_21.out) hb); have n2_ := Aside0.mk (Kd.R_below (by (with_reducible repeat (first | apply Kd.R_alloc | apply Kd.R_drewN | apply Kd.R_drew)); exact HO139.out) hb); have n3_ := Aside0.mk (below_step (by repeat (first | (with_reducible first | exact HB.out | apply below_alloc | apply pw_below_drewN | apply below_drew1) | exact HB.out)) hb); clear HO_14; clear HO_21; clear HO139; clear HB; have HO_14 := n0_; have HO_21 := n1_; have HO139 := n2_; have HB := n3_; clear n0_ n1_ n2_ n3_; (try clear hb); (try clear hb2); (try clear hk); (try clear hi)))
                                              repeat (go_quiet (first | (go_at_call 12; (with_reducible refine (lottery_Tickets.calls _ _ l0 _ _ l1 _ _ x21_4 t136 t137 _ ?side1 ?side2 ?side3 ?side4 ?side5 ?side6 A77.out).mono ?_); (case side1 => repeat (first | exact (Kd.C_below HR0.out HB.out) | (with_reducible refine Kd.C_alloc ?_ _) | (with_reducible refine Kd.C_drewN ?_ _) | (with_reducible refine Kd.C_drew ?_))); (case side2 => exact HC0.out); (case side3 => repeat (first | exact (Kd.C_below HR1.out HB.out) | (with_reducible refine Kd.C_alloc ?_ _) | (with_reducible refine Kd.C_drewN ?_ _) | (with_reducible refine Kd.C_drew ?_))); (case side4 => exact HC1.out); (case side5 => repeat (first | exact (Kd.R_reads' HO_21.out).2.2 | (with_reducible refine Kd.C_alloc ?_ _) | (with_reducible refine Kd.C_drewN ?_ _) | (with_reducible refine Kd.C_drew ?_))); (case side6 => exact (Kd.R_reads' HO_21.out).2.1); rintro e w82 ⟨v138, rfl, ho0, hb⟩; have n0_ := Aside0.mk (Kd.R_elder' (by (with_reducible repeat (first | apply Kd.R_alloc | apply Kd.R_drewN | apply Kd.R_drew)); exact HO_14.out) (Kd.R_base ho0) hb); have n1_ := Aside0.mk (Kd.R_elder' (by (with_reducible repeat (first | apply Kd.R_alloc | apply Kd.R_drewN | apply Kd.R_drew)); exact HO_21.out) (Kd.R_base ho0) hb); have n2_ := Aside0.mk (Kd.R_lower (Kd.R_new' (Kd.R_new' ho0 (Kd.R_lt (by (with_reducible repeat (first | apply Kd.R_alloc | apply Kd.R_drewN | apply Kd.R_drew)); exact HO_14.out))) (Kd.R_lt (by (with_reducible repeat (first | apply Kd.R_alloc | apply Kd.R_drewN | apply Kd.R_drew)); exact HO_21.out))) (below_size (by repeat (first | (with_reducible first | exact HB.out | apply below_alloc | apply pw_below_drewN | apply below_drew1) | exact HB.out)))); have n3_ := Aside0.mk (below_step (by repeat (first | (with_reducible first | exact HB.out | apply below_alloc | apply pw_below_drewN | apply below_drew1) | exact HB.out)) hb); clear HO_14; clear HO_21; clear HB; have HO_14 := n0_; have HO_21 := n1_; have HO139 := n2_; have HB := n3_; clear n0_ n1_ n2_ n3_; (try clear hb); (try clear hb2); (try clear hk); (try clear hi); (try clear ho0); obtain ⟨Ao83, co83, eo83⟩ := Kd.R_slice HO_14.out; subst eo83; obtain ⟨Ao84, co84, eo84⟩ := Kd.R_slice HO139.out; subst eo84) | (go_at_call 18; (with_reducible refine (observatoryref29_Ints.calls _ _ t103 _ _ t136 t140 _ ?side1 ?side2 ?side3 ?side4 A80.out).mono ?_); (case side1 => repeat (first | exact (Kd.R_reads' HO_14.out).2.2 | (with_reducible refine Kd.C_alloc ?_ _) | (with_reducible refine Kd.C_drewN ?_ _) | (with_reducible refine Kd.C_drew ?_))); (case side2 => exact (Kd.R_reads' HO_14.out).2.1); (case side3 => repeat (first | exact (Kd.R_reads' HO139.out).2.2 | (with_reducible refine Kd.C_alloc ?_ _) | (with_reducible refine Kd.C_drewN ?_ _) | (with_reducible refine Kd.C_drew ?_))); (case side4 => exact (Kd.R_reads' HO139.out).2.1); rintro e w85 ⟨rfl, hb⟩; have n0_ := Aside0.mk (Kd.R_below (by (with_reducible repeat (first | apply Kd.R_alloc | apply Kd.R_drewN | apply Kd.R_drew)); exact HO_14.out) hb); have n1_ := Aside0.mk (Kd.R_below (by (with_reducible repeat (first | apply Kd.R_alloc | apply Kd.R_drewN | apply Kd.R_drew)); exact HO_21.out) hb); have n2_ := Aside0.mk (Kd.R_below (by (with_reducible repeat (first | apply Kd.R_alloc | apply Kd.R_drewN | apply Kd.R_drew)); exact HO139.out) hb); have n3_ := Aside0.mk (below_step (by repeat (first | (with_reducible first | exact HB.out | apply below_alloc | apply pw_below_drewN | apply below_drew1) | exact HB.out)) hb); clear HO_14; clear HO_21; clear HO139; clear HB; have HO_14 := n0_; have HO_21 := n1_; have HO139 := n2_; have HB := n3_; clear n0_ n1_ n2_ n3_; (try clear hb); (try clear hb2); (try clear hk); (try clear hi))); try go_wp2_with (first | (go_at_call 12; (with_reducible refine (lottery_Tickets.calls _ _ l0 _ _ l1 _ _ x21_4 t136 t137 _ ?side1 ?side2 ?side3 ?side4 ?side5 ?side6 A77.out).mono ?_); (case side1 => repeat (first | exact (Kd.C_below HR0.out HB.out) | (with_reducible refine Kd.C_alloc ?_ _) | (with_reducible refine Kd.C_drewN ?_ _) | (with_reducible refine Kd.C_drew ?_))); (case side2 => exact HC0.out); (case side3 => repeat (first | exact (Kd.C_below HR1.out HB.out) | (with_reducible refine Kd.C_alloc ?_ _) | (with_reducible refine Kd.C_drewN ?_ _) | (with_reducible refine Kd.C_drew ?_))); (case side4 => exact HC1.out); (case side5 => repeat (first | exact (Kd.R_reads' HO_21.out).2.2 | (with_reducible refine Kd.C_alloc ?_ _) | (with_reducible refine Kd.C_drewN ?_ _) | (with_reducible refine Kd.C_drew ?_))); (case side6 => exact (Kd.R_reads' HO_21.out).2.1); rintro e w82 ⟨v138, rfl, ho0, hb⟩; have n0_ := Aside0.mk (Kd.R_elder' (by (with_reducible repeat (first | apply Kd.R_alloc | apply Kd.R_drewN | apply Kd.R_drew)); exact HO_14.out) (Kd.R_base ho0) hb); have n1_ := Aside0.mk (Kd.R_elder' (by (with_reducible repeat (first | apply Kd.R_alloc | apply Kd.R_drewN | apply Kd.R_drew)); exact HO_21.out) (Kd.R_base ho0) hb); have n2_ := Aside0.mk (Kd.R_lower (Kd.R_new' (Kd.R_new' ho0 (Kd.R_lt (by (with_reducible repeat (first | apply Kd.R_alloc | apply Kd.R_drewN | apply Kd.R_drew)); exact HO_14.out))) (Kd.R_lt (by (with_reducible repeat (first | apply Kd.R_alloc | apply Kd.R_drewN | apply Kd.R_drew)); exact HO_21.out))) (below_size (by repeat (first | (with_reducible first | exact HB.out | apply below_alloc | apply pw_below_drewN | apply below_drew1) | exact HB.out)))); have n3_ := Aside0.mk (below_step (by repeat (first | (with_reducible first | exact HB.out | apply below_alloc | apply pw_below_drewN | apply below_drew1) | exact HB.out)) hb); clear HO_14; clear HO_21; clear HB; have HO_14 := n0_; have HO_21 := n1_; have HO139 := n2_; have HB := n3_; clear n0_ n1_ n2_ n3_; (try clear hb); (try clear hb2); (try clear hk); (try clear hi); (try clear ho0); obtain ⟨Ao83, co83, eo83⟩ := Kd.R_slice HO_14.out; subst eo83; obtain ⟨Ao84, co84, eo84⟩ := Kd.R_slice HO139.out; subst eo84) | (go_at_call 18; (with_reducible refine (observatoryref29_Ints.calls _ _ t103 _ _ t136 t140 _ ?side1 ?side2 ?side3 ?side4 A80.out).mono ?_); (case side1 => repeat (first | exact (Kd.R_reads' HO_14.out).2.2 | (with_reducible refine Kd.C_alloc ?_ _) | (with_reducible refine Kd.C_drewN ?_ _) | (with_reducible refine Kd.C_drew ?_))); (case side2 => exact (Kd.R_reads' HO_14.out).2.1); (case side3 => repeat (first | exact (Kd.R_reads' HO139.out).2.2 | (with_reducible refine Kd.C_alloc ?_ _) | (with_reducible refine Kd.C_drewN ?_ _) | (with_reducible refine Kd.C_drew ?_))); (case side4 => exact (Kd.R_reads' HO139.out).2.1); rintro e w85 ⟨rfl, hb⟩; have n0_ := Aside0.mk (Kd.R_below (by (with_reducible repeat (first | apply Kd.R_alloc | apply Kd.R_drewN | apply Kd.R_drew)); exact HO_14.out) hb); have n1_ := Aside0.mk (Kd.R_below (by (with_reducible repeat (first | apply Kd.R_alloc | apply Kd.R_drewN | apply Kd.R_drew)); exact HO_21.out) hb); have n2_ := Aside0.mk (Kd.R_below (by (with_reducible repeat (first | apply Kd.R_alloc | apply Kd.R_drewN | apply Kd.R_drew)); exact HO139.out) hb); have n3_ := Aside0.mk (below_step (by repeat (first | (with_reducible first | exact HB.out | apply below_alloc | apply pw_below_drewN | apply below_drew1) | exact HB.out)) hb); clear HO_14; clear HO_21; clear HO139; clear HB; have HO_14 := n0_; have HO_21 := n1_; have HO139 := n2_; have HB := n3_; clear n0_ n1_ n2_ n3_; (try clear hb); (try clear hb2); (try clear hk); (try clear hi))))
                                              go_ret
                                              exact ⟨by first | rfl | (simp [errW_none, errW_some] <;> rfl) | (simp only [← hji24, ← hji27]; first | rfl | (simp [errW_none, errW_some] <;> rfl)) | (simp [*, errW_none, errW_some] <;> rfl), by repeat (first | (with_reducible first | exact HB.out | apply below_alloc | apply pw_below_drewN | apply below_drew1) | exact HB.out)⟩
                                            · rw [if_neg c79] at H
                                              exact absurd H (by simp)
                                          · replace c78 := Bool.eq_false_iff.mpr c78
                                            subst c78
                                            have H1 : (none) = some r := by rw [if_neg (show ¬ (false = true) by decide)] at H; exact H
                                            clear H
                                            have H := H1
                                            clear H1
                                            exact absurd H (by simp)
                            · rw [if_neg c47] at H
                              exact absurd H (by simp)
                    · rw [if_neg c26] at H
                      exact absurd H (by simp)
                  · rw [if_neg c25] at H
                    exact absurd H (by simp)
                · rw [if_neg c23] at H
                  exact absurd H (by simp)
/-- THE ONE PURE STATEMENT of observatorylaw29_LotteryMerits: yours. -/
def observatorylaw29_LotteryMerits.Pure : Prop := ∀ (l0 : List Int) (l1 : List Int) (l2 : List Int) (a3 : Int) (a4 : Int) (a5 : Int), l0.length ≤ maxLen → l0.length * 8 ≤ 140737488351232 → (∀ x ∈ l0, (Lit.int .i64 x).wf = true) → l1.length ≤ maxLen → l1.length * 8 ≤ 140737488351232 → (∀ x ∈ l1, (Lit.int .i64 x).wf = true) → l2.length ≤ maxLen → l2.length * 8 ≤ 140737488351232 → (∀ x ∈ l2, (Lit.int .i64 x).wf = true) → (Lit.int .u8 a3).wf = true → (Lit.int .u16 a4).wf = true → (Lit.int .u8 a5).wf = true → ∃ k, observatorylaw29_LotteryMerits.f k l0 l1 l2 a3 a4 a5 = some true
theorem observatorylaw29_LotteryMerits.walk (P : observatorylaw29_LotteryMerits.Pure) (a0 : Option Addr) (len0 cap0 : Nat) (z0 : List Int) (a1 : Option Addr) (len1 cap1 : Nat) (z1 : List Int) (a2 : Option Addr) (len2 cap2 : Nat) (z2 : List Int) (a3 : Int) (a4 : Int) (a5 : Int) (w : World) (hL : Laid w) (w0 : (a0 = none ∧ len0 = 0 ∧ cap0 = 0 ∧ z0 = []) ∨ ∃ x, a0 = some x ∧ len0 ≤ cap0 ∧ cap0 ≤ maxLen ∧ z0.length = cap0 ∧ (∀ i, i < z0.length → w.cell? (x.add i) = some (.int .i64 (z0.getD i 0))) ∧ ∀ n ∈ z0, (Lit.int .i64 n).wf = true) (y0 : len0 * 8 ≤ 140737488351232) (w1 : (a1 = none ∧ len1 = 0 ∧ cap1 = 0 ∧ z1 = []) ∨ ∃ x, a1 = some x ∧ len1 ≤ cap1 ∧ cap1 ≤ maxLen ∧ z1.length = cap1 ∧ (∀ i, i < z1.length → w.cell? (x.add i) = some (.int .i64 (z1.getD i 0))) ∧ ∀ n ∈ z1, (Lit.int .i64 n).wf = true) (y1 : len1 * 8 ≤ 140737488351232) (w2 : (a2 = none ∧ len2 = 0 ∧ cap2 = 0 ∧ z2 = []) ∨ ∃ x, a2 = some x ∧ len2 ≤ cap2 ∧ cap2 ≤ maxLen ∧ z2.length = cap2 ∧ (∀ i, i < z2.length → w.cell? (x.add i) = some (.int .i64 (z2.getD i 0))) ∧ ∀ n ∈ z2, (Lit.int .i64 n).wf = true) (y2 : len2 * 8 ≤ 140737488351232) (w3 : (Lit.int .u8 a3).wf = true) (w4 : (Lit.int .u16 a4).wf = true) (w5 : (Lit.int .u8 a5).wf = true) :
    Calls Tryz.prog 7 #[.slice a0 len0 cap0, .slice a1 len1 cap1, .slice a2 len2 cap2, .int .u8 a3, .int .u16 a4, .int .u8 a5] w fun e w' => e = .returned (.bool true) ∧ Below w.heap.size w w' := by
  obtain ⟨l0, rfl, hr0, hm0, hw0, hc0⟩ := ReadsInt.ofRowC w0
  obtain ⟨l1, rfl, hr1, hm1, hw1, hc1⟩ := ReadsInt.ofRowC w1
  obtain ⟨l2, rfl, hr2, hm2, hw2, hc2⟩ := ReadsInt.ofRowC w2
  obtain ⟨k, h⟩ := P l0 l1 l2 a3 a4 a5 hm0 y0 hw0 hm1 y1 hw1 hm2 y2 hw2 w3 w4 w5
  refine (observatorylaw29_LotteryMerits.calls k _ _ l0 _ _ l1 _ _ l2 a3 a4 a5 true w (Kd.C_of_reads (d := (0 : Int)) (h1 := fun _ => rfl) hr0) hc0 (Kd.C_of_reads (d := (0 : Int)) (h1 := fun _ => rfl) hr1) hc1 (Kd.C_of_reads (d := (0 : Int)) (h1 := fun _ => rfl) hr2) hc2 hL h).mono ?_
  rintro e w' ⟨rfl, hd⟩
  exact ⟨rfl, hd⟩
end Go.Proofs.YtmapgmibbceooaaGreatDoor.XLMer
end
section -- FinLotteryMerits
namespace Go.Proofs.YtmapgmibbceooaaGreatDoor
open Go.RowKit Go.Proofs.YtmapgmibbceooaaGreatDoorW.PrintWords Go.Proofs.YtmapgmibbceooaaGreatDoorW.PrintMore Go.Proofs.YtmapgmibbceooaaGreatDoorW.PrintLast
set_option linter.unusedVariables false
set_option linter.unusedSimpArgs false
theorem u8_bounds {n : Int} (h : (Lit.int .u8 n).wf = true) : 0 ≤ n ∧ n < 256 := by simp [Lit.wf] at h; have e1 : IntKind.u8.min = 0 := rfl; have e2 : IntKind.u8.max = 255 := rfl; omega
theorem u16_bounds {n : Int} (h : (Lit.int .u16 n).wf = true) : 0 ≤ n ∧ n < 65536 := by simp [Lit.wf] at h; have e1 : IntKind.u16.min = 0 := rfl; have e2 : IntKind.u16.max = 65535 := rfl; omega
theorem mer_l1 (s o m sc : List Int) (hs : sc.length ≤ 200) (he : (∀ j : Nat, j < sc.length → ix sc j ≤ 10000) → ticketsS s o sc = (ticketsL s o m, 0)) (ht : (ticketsL s o m).length ≤ 1000) : ∀ (d i k : Nat), i + d = sc.length → d < k → (∀ j : Nat, j < i → ix sc j ≤ 10000) →
    XLMer.observatorylaw29_LotteryMerits.l1 k s o true (ticketsL s o m) sc (i : Int) = some true
  | 0, i, k, hi, hk, hj => by
    obtain ⟨k, rfl⟩ : ∃ m, k = m + 1 := ⟨k - 1, by omega⟩
    simp only [XLMer.observatorylaw29_LotteryMerits.l1]
    rw [if_neg (by omega)]
    simp only [lottery_Tickets.f, he (fun j hlt => hj j (by omega)), Option.bind_some, if_true]
    rw [show observatoryref29_Ints.f (ticketsL s o m) (ticketsL s o m) = some (decide (ticketsL s o m = ticketsL s o m)) from if_pos ht, decide_eq_true rfl]
    rfl
  | d + 1, i, k, hi, hk, hj => by
    obtain ⟨k, rfl⟩ : ∃ m, k = m + 1 := ⟨k - 1, by omega⟩
    simp only [XLMer.observatorylaw29_LotteryMerits.l1]
    rw [if_pos (by omega), if_pos (by omega), rd_ix, ws_i (by omega)]
    by_cases e : ix sc i > 10000
    · rw [if_pos e]
    · rw [if_neg e]
      refine mer_l1 s o m sc hs he ht d (i + 1) k (by omega) (by omega) (fun j hlt => ?_)
      by_cases ej : j = i
      · subst ej; omega
      · exact hj j (by omega)
theorem mer_l0 (s o m T' : List Int) (kk : Nat) (c : Int) (hc : 1 ≤ c ∧ c ≤ 4) (V : OkReq s o m) (hkk : kk < o.length) (hT' : T'.length = o.length)
    (heq : ∀ i : Nat, i < o.length → ix o i ≠ ix o kk → ix (ticketsL s o m) i = ix T' i) : ∀ (d i k : Nat) (sc : List Int), i + d = o.length → d + d + 300 < k → sc.length = m.length → (∀ j : Nat, ix sc j = if j < i ∧ ix o j = ix o kk then c * ix m j else ix m j) →
    XLMer.observatorylaw29_LotteryMerits.l0 k s o true (ticketsL s o m) (kk : Int) T' c sc (i : Int) = some true
  | 0, i, k, sc, hi, hk, hl, hsc => by
    have a1 := V.o1
    have a3 := V.om
    obtain rfl : i = o.length := by omega
    obtain ⟨k, rfl⟩ : ∃ m, k = m + 1 := ⟨k - 1, by omega⟩
    simp only [XLMer.observatorylaw29_LotteryMerits.l0]
    rw [if_neg (by omega)]
    refine mer_l1 s o m sc (by omega) (fun hle => ?_) (by rw [length_tickets]; omega) sc.length 0 k (by omega) (by omega) (fun j hj => absurd hj (Nat.not_lt_zero _))
    have V' : OkReq s o sc := by
      refine ⟨V.s0, V.s1, V.o1, by omega, V.sh, V.ow, fun x hx => ?_⟩
      obtain ⟨j, hj, rfl⟩ := mem_ix.1 hx
      refine ⟨?_, hle j hj⟩
      have := (V.me _ (ix_mem (show j < m.length by omega))).1
      rw [hsc j]
      by_cases h : j < o.length ∧ ix o j = ix o kk
      · rw [if_pos h]
        have : 1 * 1 ≤ c * ix m j := Int.mul_le_mul hc.1 this (by decide) (by omega)
        omega
      · rw [if_neg h]; exact this
    unfold ticketsS
    rw [if_pos (okReq_iff.2 V'), merit_scale V hl (ix o kk) c (by omega) (fun j hj e => by rw [hsc j, if_pos ⟨hj, e⟩]) (fun j hj e => by rw [hsc j, if_neg (fun x => e x.2)])]
  | d + 1, i, k, sc, hi, hk, hl, hsc => by
    have a1 := V.o1
    have a3 := V.om
    obtain ⟨k, rfl⟩ : ∃ m, k = m + 1 + 1 := ⟨k - 2, by omega⟩
    have hi' : i < o.length := by omega
    have hm := V.me _ (ix_mem (show i < m.length by omega))
    simp only [XLMer.observatorylaw29_LotteryMerits.l0]
    rw [if_pos (by omega), if_pos (by omega), if_pos (by omega), if_pos (by omega), rd_ix, rd_ix, rd_ix, rd_ix]
    simp only [XLMer.observatorylaw29_LotteryMerits.j4]
    by_cases e : ix o i = ix o kk
    · rw [if_pos e, if_neg (by decide), if_pos (by omega), if_pos (by omega), if_pos (by omega), if_pos (by omega), rd_ix, rd_ix, rd_ix, if_pos e, if_pos (by omega), ws_i (by omega), Int.toNat_natCast]
      refine mer_l0 s o m T' kk c hc V hkk hT' heq d (i + 1) k _ (by omega) (by omega) (by rw [List.length_set]; exact hl) (fun j => ?_)
      have hsi : ix sc i = ix m i := by rw [hsc i, if_neg (by omega)]
      have hb : c * ix m i ≤ 4 * 10000 := Int.mul_le_mul hc.2 hm.2 (by omega) (by decide)
      have hb0 : 0 ≤ c * ix m i := Int.mul_nonneg (by omega) (by omega)
      rw [hsi, Int.mul_comm, wid (by omega), ix_set _ _ _ _ (by omega)]
      by_cases ej : j = i
      · subst ej; rw [if_pos rfl, if_pos ⟨by omega, e⟩]
      · rw [if_neg ej, hsc j]
        by_cases h : j < i ∧ ix o j = ix o kk
        · rw [if_pos h, if_pos ⟨by omega, h.2⟩]
        · rw [if_neg h, if_neg (fun x => h ⟨by omega, x.2⟩)]
    · rw [if_neg e, if_pos (by rw [length_tickets]; omega), if_pos (by omega), heq i hi' e, bne_self_eq_false, if_neg (by decide), if_pos (by omega), if_pos (by omega), if_pos (by omega), if_pos (by omega), rd_ix, rd_ix, if_neg e, ws_i (by omega)]
      refine mer_l0 s o m T' kk c hc V hkk hT' heq d (i + 1) k _ (by omega) (by omega) hl (fun j => ?_)
      rw [hsc j]
      by_cases h : j < i ∧ ix o j = ix o kk
      · rw [if_pos h, if_pos ⟨by omega, h.2⟩]
      · rw [if_neg h, if_neg (fun x => h ⟨by
          have : j ≠ i := fun ej => e (by rw [← ej]; exact x.2)
          omega, x.2⟩)]
theorem pureLotteryMerits : XLMer.observatorylaw29_LotteryMerits.Pure := by
  intro s o m a3 a4 a5 _ _ _ _ _ _ _ _ _ h3 h4 h5
  refine ⟨1000, ?_⟩
  have b3 := u8_bounds h3
  have b4 := u16_bounds h4
  have b5 := u8_bounds h5
  unfold XLMer.observatorylaw29_LotteryMerits.f observatorylaw29_head.f observatoryref29_Few.f
  simp only [Option.bind_some]
  cases hf : fewL s o m with
  | false => rfl
  | true =>
    rw [if_pos rfl]
    by_cases h0 : (o.length : Int) = 0
    · rw [beq_iff_eq.2 h0]; rfl
    · rw [beq_eq_false_iff_ne.2 h0]
      simp only [XLMer.observatorylaw29_LotteryMerits.j0, Bool.false_eq_true, if_false, lottery_Tickets.f, Option.bind_some]
      unfold ticketsS
      cases hk : okReq s o m with
      | false => rfl
      | true =>
        have V := okReq_iff.1 hk
        have ho := V.o1
        have hom := V.om
        obtain ⟨kk, hkk, hlt⟩ : ∃ kk : Nat, Int.tmod (wrap64 a3) (o.length : Int) = (kk : Int) ∧ kk < o.length := by
          rw [wid (by omega), Int.tmod_eq_emod_of_nonneg b3.1]
          have g1 := Int.emod_nonneg a3 h0
          have g2 := Int.emod_lt_of_pos a3 (show (0 : Int) < o.length by omega)
          exact ⟨(a3 % (o.length : Int)).toNat, by omega, by omega⟩
        have hmk := V.me _ (ix_mem (show kk < m.length by omega))
        have V' : OkReq s o (m.set kk (mn 10000 (wrap64 (ix m kk + wrap64 a4)))) := by
          refine ⟨V.s0, V.s1, V.o1, by rw [List.length_set]; exact V.om, V.sh, V.ow, fun x hx => ?_⟩
          obtain ⟨j, hj, rfl⟩ := mem_ix.1 hx
          rw [List.length_set] at hj
          rw [ix_set _ _ _ _ (by omega)]
          by_cases e : j = kk
          · rw [if_pos e, wid (x := a4) (by omega), wid (by omega)]; unfold mn; split <;> omega
          · rw [if_neg e]; exact V.me _ (ix_mem hj)
        obtain ⟨u1, u2⟩ := merit_up V (more := m.set kk (mn 10000 (wrap64 (ix m kk + wrap64 a4)))) (List.length_set ..) hlt (by
          rw [ix_set _ _ _ _ (by omega), if_pos rfl, wid (x := a4) (by omega), wid (by omega)]; unfold mn; split <;> omega) (fun i hi => by rw [ix_set _ _ _ _ (by omega), if_neg hi]) (fun i hi => (V'.me _ (ix_mem hi)).1)
        have u3 : (ticketsL s o (m.set kk (mn 10000 (wrap64 (ix m kk + wrap64 a4))))).length = o.length := length_tickets _ _ _
        have c5 : (wrap64 (1 + Int.tmod (wrap64 a5) 4)) = 1 + a5 % 4 := by
          rw [wid (x := a5) (by omega), Int.tmod_eq_emod_of_nonneg b5.1, wid (by omega)]
        simp only [if_true, length_tickets, bne_self_eq_false, XLMer.observatorylaw29_LotteryMerits.j1, Bool.false_eq_true, if_false]
        rw [if_neg h0]
        simp only [Option.bind_some, List.nil_append, List.length_nil, hkk]
        rw [if_pos (by omega), if_pos (by omega), if_pos (by omega), rd_ix, Int.toNat_natCast]
        simp only [lottery_Tickets.f, ticketsS, Option.bind_some]
        rw [if_pos (okReq_iff.2 V')]
        simp only [if_true, length_tickets]
        rw [if_pos (by omega), rd_ix, rd_ix, decide_eq_false (by omega)]
        simp only [XLMer.observatorylaw29_LotteryMerits.j2, Bool.false_eq_true, if_false, Option.bind_some, List.nil_append, List.length_nil]
        rw [if_pos (by omega), if_pos (by omega), c5]
        exact mer_l0 s o m _ kk (1 + a5 % 4) (by omega) V hlt u3 (fun i hi h => u2 i hi h) o.length 0 997 m (by omega) (by omega) rfl (fun j => by rw [if_neg (by omega)])
end Go.Proofs.YtmapgmibbceooaaGreatDoor
end

/- The texts of this claim, laid together by a program of this session (bundle.py). -/
import Derived.Test.YtmapgmibbceooaaGreatDoorBSpl21
import Derived.Test.YtmapgmibbceooaaGreatDoorBSpl22
section -- XLSpl2
/- Written by a program of this session (xprint.sh), out of the translation: Lean functions that tell what Go functions of the program tell, and the proofs that they do, over the given callees; no condition but what each theorem states. -/
namespace Go.Proofs.YtmapgmibbceooaaGreatDoor.XLSpl
open Go.RowKit Go.Proofs.YtmapgmibbceooaaGreatDoorW.PrintWords Go.Proofs.YtmapgmibbceooaaGreatDoorW.PrintLast Go.Proofs.YtmapgmibbceooaaGreatDoorW.PrintMore
attribute [local go_sem] max2_int min2_int max_two min_two max_three min_three max_four min_four   -- for this text's walks alone
set_option linter.unusedVariables false
set_option linter.unusedSimpArgs false
mutual
def observatorylaw29_LotterySplits.j0 : Nat → List Int → List Int → List Int → Int → Int → Int → Bool → Bool → Option (Bool)
  | 0, _, _, _, _, _, _, _, _ => none
  | k + 1, x0, x1, x2, x3, x4, x5, x13, x38 => if x38 = true then (some x13) else ((lottery_Tickets.f x0 x1 x2).bind fun bt103 => (if bt103.2 = 0 then (observatorylaw29_LotterySplits.j1 k x0 x1 x2 x3 x4 x5 x13 bt103.1 bt103.2 ((bt103.1.length : Int) != (x1.length : Int))) else (observatorylaw29_LotterySplits.j1 k x0 x1 x2 x3 x4 x5 x13 bt103.1 bt103.2 true)))
def observatorylaw29_LotterySplits.j1 : Nat → List Int → List Int → List Int → Int → Int → Int → Bool → List Int → Int → Bool → Option (Bool)
  | 0, _, _, _, _, _, _, _, _, _, _ => none
  | k + 1, x0, x1, x2, x3, x4, x5, x13, x14, x15, x55 => if x55 = true then (if x13 = true then (some (x15 == 1)) else (none)) else (if (x1.length : Int) = 0 then (none) else ((some (([] : List Int) : List Int)).bind fun y107 => (if 0 ≤ (wrap64 ((Int.tmod (wrap64 (x3)) (x1.length : Int)) + 1)) then (if (wrap64 ((Int.tmod (wrap64 (x3)) (x1.length : Int)) + 1)) ≤ (x1.length : Int) then (if y107.length + (x1.take ((wrap64 ((Int.tmod (wrap64 (x3)) (x1.length : Int)) + 1)) : Int).toNat).length < 17592186044416 then ((some (y107 ++ (x1.take ((wrap64 ((Int.tmod (wrap64 (x3)) (x1.length : Int)) + 1)) : Int).toNat) : List Int)).bind fun y111 => (if 0 ≤ (Int.tmod (wrap64 (x3)) (x1.length : Int)) then (if (Int.tmod (wrap64 (x3)) (x1.length : Int)) < (x1.length : Int) then ((some (([rd x1 (Int.tmod (wrap64 (x3)) (x1.length : Int))] : List Int) : List Int)).bind fun y115 => (if y111.length + y115.length < 17592186044416 then ((some (y111 ++ y115 : List Int)).bind fun y118 => (if y118.length + (x1.drop ((wrap64 ((Int.tmod (wrap64 (x3)) (x1.length : Int)) + 1)) : Int).toNat).length < 17592186044416 then ((some (([] : List Int) : List Int)).bind fun y125 => (if (Int.tmod (wrap64 (x3)) (x1.length : Int)) ≤ (x2.length : Int) then (if y125.length + (x2.take ((Int.tmod (wrap64 (x3)) (x1.length : Int)) : Int).toNat).length < 17592186044416 then ((some (y125 ++ (x2.take ((Int.tmod (wrap64 (x3)) (x1.length : Int)) : Int).toNat) : List Int)).bind fun y129 => ((some (([wrap64 (1 + (Int.tmod (wrap64 (x4)) 10000)), wrap64 (1 + (Int.tmod (wrap64 (x5)) 10000))] : List Int) : List Int)).bind fun y132 => (if y129.length + y132.length < 17592186044416 then ((some (y129 ++ y132 : List Int)).bind fun y135 => (if (wrap64 ((Int.tmod (wrap64 (x3)) (x1.length : Int)) + 1)) ≤ (x2.length : Int) then (if y135.length + (x2.drop ((wrap64 ((Int.tmod (wrap64 (x3)) (x1.length : Int)) + 1)) : Int).toNat).length < 17592186044416 then ((lottery_Tickets.f x0 (y118 ++ (x1.drop ((wrap64 ((Int.tmod (wrap64 (x3)) (x1.length : Int)) + 1)) : Int).toNat)) (y135 ++ (x2.drop ((wrap64 ((Int.tmod (wrap64 (x3)) (x1.length : Int)) + 1)) : Int).toNat))).bind fun bt142 => (if bt142.2 = 0 then (observatorylaw29_LotterySplits.j2 k x1 x13 x14 (Int.tmod (wrap64 (x3)) (x1.length : Int)) bt142.1 ((bt142.1.length : Int) != (wrap64 ((x14.length : Int) + 1)))) else (observatorylaw29_LotterySplits.j2 k x1 x13 x14 (Int.tmod (wrap64 (x3)) (x1.length : Int)) bt142.1 true))) else (none)) else (none))) else (none)))) else (none)) else (none))) else (none))) else (none))) else (none)) else (none))) else (none)) else (none)) else (none))))
def observatorylaw29_LotterySplits.j2 : Nat → List Int → Bool → List Int → Int → List Int → Bool → Option (Bool)
  | 0, _, _, _, _, _, _ => none
  | k + 1, x1, x13, x14, x16, x19, x119 => if x119 = true then (none) else (observatorylaw29_LotterySplits.l0 k x1 x13 x14 x16 x19 0)
def observatorylaw29_LotterySplits.l0 : Nat → List Int → Bool → List Int → Int → List Int → Int → Option (Bool)
  | 0, _, _, _, _, _, _ => none
  | k + 1, x1, x13, x14, x16, x19, x21 => if x21 < (x14.length : Int) then (if x21 > x16 then (if 0 ≤ x21 then (if x21 < (x1.length : Int) then (if 0 ≤ x16 then (if x16 < (x1.length : Int) then (if (rd x1 x21) = (rd x1 x16) then (observatorylaw29_LotterySplits.l0 k x1 x13 x14 x16 x19 (wrap64 (x21 + 1))) else (if 0 ≤ (wrap64 (x21 + 1)) then (if (wrap64 (x21 + 1)) < (x19.length : Int) then (if (rd x14 x21) = (rd x19 (wrap64 (x21 + 1))) then (observatorylaw29_LotterySplits.l0 k x1 x13 x14 x16 x19 (wrap64 (x21 + 1))) else (none)) else (none)) else (none))) else (none)) else (none)) else (none)) else (none)) else (if 0 ≤ x21 then (if x21 < (x1.length : Int) then (if 0 ≤ x16 then (if x16 < (x1.length : Int) then (if (rd x1 x21) = (rd x1 x16) then (observatorylaw29_LotterySplits.l0 k x1 x13 x14 x16 x19 (wrap64 (x21 + 1))) else (if x21 < (x19.length : Int) then (if (rd x14 x21) = (rd x19 x21) then (observatorylaw29_LotterySplits.l0 k x1 x13 x14 x16 x19 (wrap64 (x21 + 1))) else (none)) else (none))) else (none)) else (none)) else (none)) else (none))) else (some x13)
end
def observatorylaw29_LotterySplits.f (k : Nat) (l0 : List Int) (l1 : List Int) (l2 : List Int) (a3 : Int) (a4 : Int) (a5 : Int) : Option (Bool) := (observatorylaw29_head.f).bind fun t101 => ((observatoryref29_Few.f l0 l1 l2).bind fun t102 => (if t102 = true then (if (l1.length : Int) = 0 then (observatorylaw29_LotterySplits.j0 k l0 l1 l2 a3 a4 a5 t101 true) else (observatorylaw29_LotterySplits.j0 k l0 l1 l2 a3 a4 a5 t101 (decide ((l1.length : Int) > 29)))) else (observatorylaw29_LotterySplits.j0 k l0 l1 l2 a3 a4 a5 t101 true)))
def observatorylaw29_LotterySplits.T8 : Bool × List (List Nat × List Nat) := (true, [([], []), ([], []), ([], []), ([2], [2]), ([1, 3], [1, 3]), ([0, 4], [0, 4]), ([], []), ([], []), ([6, 7], [6, 7]), ([8], [8]), ([9], [9]), ([5, 10, 5], [5, 10]), ([], []), ([], []), ([13], [13]), ([12, 14], [12, 14]), ([11, 15, 11], [11, 15]), ([16, 16, 0, 1, 2, 3, 4, 5, 6, 7, 8, 9, 10, 11, 12, 13, 14, 15, 16], [16])])
def observatorylaw29_LotterySplits.B8 : List Nat := [0, 0, 0, 4, 14, 31, 0, 0, 192, 448, 960, 2047, 0, 0, 8192, 28672, 65535, 131071]
theorem observatorylaw29_LotterySplits.tab8 : rtab .any (opsOf Tryz.f6 8) = observatorylaw29_LotterySplits.T8 := by kernel_rfl
theorem observatorylaw29_LotterySplits.bits8 : waitsOk observatorylaw29_LotterySplits.T8.2 observatorylaw29_LotterySplits.B8 = true := by kernel_rfl
def observatorylaw29_LotterySplits.T9 : Bool × List (List Nat × List Nat) := (true, [([], []), ([], []), ([], []), ([1, 2], [1, 2]), ([0, 3], [0, 3]), ([], []), ([5], [5]), ([6], [6]), ([7], [7]), ([], []), ([9], [9]), ([10], [10]), ([11], [11]), ([8, 12], [8, 12]), ([4, 13, 4], [4, 13]), ([], []), ([], []), ([16], [16]), ([15, 17], [15, 17]), ([14, 18, 14], [14, 18]), ([19, 19, 0, 1, 2, 3, 4, 5, 6, 7, 8, 9, 10, 11, 12, 13, 14, 15, 16, 17, 18, 19], [19])])
def observatorylaw29_LotterySplits.B9 : List Nat := [0, 0, 0, 6, 15, 0, 32, 96, 224, 0, 512, 1536, 3584, 8160, 16383, 0, 0, 65536, 229376, 524287, 1048575]
theorem observatorylaw29_LotterySplits.tab9 : rtab .any (opsOf Tryz.f6 9) = observatorylaw29_LotterySplits.T9 := by kernel_rfl
theorem observatorylaw29_LotterySplits.bits9 : waitsOk observatorylaw29_LotterySplits.T9.2 observatorylaw29_LotterySplits.B9 = true := by kernel_rfl
def observatorylaw29_LotterySplits.T19 : Bool × List (List Nat × List Nat) := (true, [([], []), ([], []), ([0, 1], [0, 1]), ([2], [2]), ([], []), ([], []), ([4, 5], [4, 5]), ([6], [6]), ([3, 7], [3, 7]), ([8], [8]), ([9], [9]), ([9], [9]), ([10, 11, 9], [9, 10, 11]), ([12, 9], [9, 12]), ([9], [9]), ([9], [9]), ([14, 15, 9], [9, 14, 15]), ([16, 9], [9, 16]), ([13, 17, 9], [9, 13, 17]), ([9, 18], [9, 18])])
def observatorylaw29_LotterySplits.B19 : List Nat := [0, 0, 3, 7, 0, 0, 48, 112, 255, 511, 1023, 1023, 4095, 8191, 1023, 1023, 50175, 115711, 262143, 524287]
theorem observatorylaw29_LotterySplits.tab19 : rtab .any (opsOf Tryz.f6 19) = observatorylaw29_LotterySplits.T19 := by kernel_rfl
theorem observatorylaw29_LotterySplits.bits19 : waitsOk observatorylaw29_LotterySplits.T19.2 observatorylaw29_LotterySplits.B19 = true := by kernel_rfl
set_option maxHeartbeats 8000000 in
set_option maxRecDepth 100000 in
theorem observatorylaw29_LotterySplits.calls (k : Nat) (A0 : Option Addr) (c0 : Nat) (l0 : List Int) (A1 : Option Addr) (c1 : Nat) (l1 : List Int) (A2 : Option Addr) (c2 : Nat) (l2 : List Int) (a3 : Int) (a4 : Int) (a5 : Int) (r : Bool) (w : World) (hr0 : Kd.C (Kd.int .i64) w A0 l0.length l0) (hc0 : l0.length ≤ c0) (hr1 : Kd.C (Kd.int .i64) w A1 l1.length l1) (hc1 : l1.length ≤ c1) (hr2 : Kd.C (Kd.int .i64) w A2 l2.length l2) (hc2 : l2.length ≤ c2) (hL : Laid w) (h : observatorylaw29_LotterySplits.f k l0 l1 l2 a3 a4 a5 = some r) :
    Calls Tryz.prog 6 #[.slice A0 l0.length c0, .slice A1 l1.length c1, .slice A2 l2.length c2, .int .u8 a3, .int .u16 a4, .int .u16 a5] w fun e w' => e = .returned (.bool r) ∧ Below w.heap.size w w' := by
  have HLaid := Aside0.mk hL
  clear hL
  have HR0 := Aside0.mk hr0
  have HC0 := Aside0.mk hc0
  clear hr0 hc0
  have HR1 := Aside0.mk hr1
  have HC1 := Aside0.mk hc1
  clear hr1 hc1
  have HR2 := Aside0.mk hr2
  have HC2 := Aside0.mk hc2
  clear hr2 hc2
  have HB := Aside0.mk (Below.refl w.heap.size w)
  have H : ((observatorylaw29_head.f).bind fun t101 => ((observatoryref29_Few.f l0 l1 l2).bind fun t102 => (if t102 = true then (if (l1.length : Int) = 0 then (observatorylaw29_LotterySplits.j0 k l0 l1 l2 a3 a4 a5 t101 true) else (observatorylaw29_LotterySplits.j0 k l0 l1 l2 a3 a4 a5 t101 (decide ((l1.length : Int) > 29)))) else (observatorylaw29_LotterySplits.j0 k l0 l1 l2 a3 a4 a5 t101 true)))) = some r := h
  clear h
  replace H := Option.bind_eq_some_iff.mp H
  obtain ⟨t101, A70, H⟩ := H
  replace H : ((observatoryref29_Few.f l0 l1 l2).bind fun t102 => (if t102 = true then (if (l1.length : Int) = 0 then (observatorylaw29_LotterySplits.j0 k l0 l1 l2 a3 a4 a5 t101 true) else (observatorylaw29_LotterySplits.j0 k l0 l1 l2 a3 a4 a5 t101 (decide ((l1.length : Int) > 29)))) else (observatorylaw29_LotterySplits.j0 k l0 l1 l2 a3 a4 a5 t101 true))) = some r := H
  have A7 := Aside0.mk A70
  clear A70
  have HC8 := Aside0.mk H
  clear H
  go_enter Tryz.func6, Tryz.ntmps6
  go_upto_region 2 with (first | ((with_reducible refine gate_callee (f := 10) rfl ?_); refine goesL_ (some 23) rfl rfl Tryz.func10 (by kernel_rfl) rfl #[] rfl (by (try simp only [List.map_toArray, List.map_cons, List.map_nil]); first | done | rfl | (simp only [List.length_drop, List.length_take]; rfl)) ?_; (with_reducible refine (observatorylaw29_head.calls  t101 _ ?side1 A7.out).mono ?_); (case side1 => exact Laid.below HLaid.out (BK HB.out)); rintro e w9 ⟨rfl, hb⟩; refine ⟨_, rfl, ?_⟩; have n0_ := Aside0.mk (below_step (BK HB.out) hb); clear HB; have HB := n0_; clear n0_; (try clear hb); (try clear hb2); (try clear hk); (try clear hi)))
  (try simp only [Act.put, List.setIfInBounds_toArray, List.set_cons_zero, List.set_cons_succ])
  go_cut [38] (fun v38 wc => ∃ (kq : Nat) (x38_7 : Bool), v38 = .bool x38_7 ∧ Aside0 (observatorylaw29_LotterySplits.j0 kq l0 l1 l2 a3 a4 a5 t101 x38_7 = some r) ∧ Aside0 (kq ≤ k) ∧ Aside0 (Below w.heap.size w wc))
  case first =>
    have H := HC8.out
    clear HC8
    replace H := Option.bind_eq_some_iff.mp H
    obtain ⟨t102, A100, H⟩ := H
    replace H : (if t102 = true then (if (l1.length : Int) = 0 then (observatorylaw29_LotterySplits.j0 k l0 l1 l2 a3 a4 a5 t101 true) else (observatorylaw29_LotterySplits.j0 k l0 l1 l2 a3 a4 a5 t101 (decide ((l1.length : Int) > 29)))) else (observatorylaw29_LotterySplits.j0 k l0 l1 l2 a3 a4 a5 t101 true)) = some r := H
    have A10 := Aside0.mk A100
    clear A100
    by_cases c11 : t102 = true
    · subst c11
      rw [if_pos rfl] at H
      by_cases c12 : (l1.length : Int) = 0
      · rw [if_pos c12] at H
        have c12b0 : ((l1.length : Int) == 0) = true := beq_iff_eq.mpr c12
        have c12b1 : ((l1.length : Int) != 0) = false := bne_eq_false_iff_eq.mpr c12
        clear c12
        (first | rw [c12b0] | (simp only [i64_w, i32_w]; rw [c12b0]) | skip)
        have H' := Aside0.mk H
        clear H
        go_wp2_with (first | ((with_reducible refine gate_callee (f := 11) rfl ?_); refine goesL_ (some 27) rfl rfl Tryz.func11 (by kernel_rfl) rfl #[.slice A0 l0.length c0, .slice A1 l1.length c1, .slice A2 l2.length c2] rfl (by (try simp only [List.map_toArray, List.map_cons, List.map_nil]); first | done | rfl | (simp only [List.length_drop, List.length_take]; rfl)) ?_; (with_reducible refine (observatoryref29_Few.calls _ _ l0 _ _ l1 _ _ l2 true _ ?side1 ?side2 ?side3 ?side4 ?side5 ?side6 A10.out).mono ?_); (case side1 => repeat (first | exact (Kd.C_below HR0.out HB.out) | (with_reducible refine Kd.C_alloc ?_ _) | (with_reducible refine Kd.C_drewN ?_ _) | (with_reducible refine Kd.C_drew ?_))); (case side2 => exact HC0.out); (case side3 => repeat (first | exact (Kd.C_below HR1.out HB.out) | (with_reducible refine Kd.C_alloc ?_ _) | (with_reducible refine Kd.C_drewN ?_ _) | (with_reducible refine Kd.C_drew ?_))); (case side4 => exact HC1.out); (case side5 => repeat (first | exact (Kd.C_below HR2.out HB.out) | (with_reducible refine Kd.C_alloc ?_ _) | (with_reducible refine Kd.C_drewN ?_ _) | (with_reducible refine Kd.C_drew ?_))); (case side6 => exact HC2.out); rintro e w13 ⟨rfl, hb⟩; refine ⟨_, rfl, ?_⟩; have n0_ := Aside0.mk (below_step (BK HB.out) hb); clear HB; have HB := n0_; clear n0_; (try clear hb); (try clear hb2); (try clear hk); (try clear hi)))
        go_meet
        case rel => exact ⟨_, (true), (by first | rfl | (simp; done) | (simp [*]; done)), H', ⟨by first | omega | exact Nat.le_refl _⟩, ⟨by repeat (first | (with_reducible first | exact HB.out | apply below_alloc | apply pw_below_drewN | apply below_drew1) | exact HB.out)⟩⟩
      · rw [if_neg c12] at H
        have c12b0 : ((l1.length : Int) == 0) = false := beq_eq_false_iff_ne.mpr c12
        have c12b1 : ((l1.length : Int) != 0) = true := bne_iff_ne.mpr c12
        have c12b2 : ¬ (l1 = []) := fun h_ => c12 (by rw [h_]; rfl)
        (first | rw [c12b0] | (simp only [i64_w, i32_w]; rw [c12b0]) | skip)
        have H' := Aside0.mk H
        clear H
        go_wp2_with (first | ((with_reducible refine gate_callee (f := 11) rfl ?_); refine goesL_ (some 27) rfl rfl Tryz.func11 (by kernel_rfl) rfl #[.slice A0 l0.length c0, .slice A1 l1.length c1, .slice A2 l2.length c2] rfl (by (try simp only [List.map_toArray, List.map_cons, List.map_nil]); first | done | rfl | (simp only [List.length_drop, List.length_take]; rfl)) ?_; (with_reducible refine (observatoryref29_Few.calls _ _ l0 _ _ l1 _ _ l2 true _ ?side1 ?side2 ?side3 ?side4 ?side5 ?side6 A10.out).mono ?_); (case side1 => repeat (first | exact (Kd.C_below HR0.out HB.out) | (with_reducible refine Kd.C_alloc ?_ _) | (with_reducible refine Kd.C_drewN ?_ _) | (with_reducible refine Kd.C_drew ?_))); (case side2 => exact HC0.out); (case side3 => repeat (first | exact (Kd.C_below HR1.out HB.out) | (with_reducible refine Kd.C_alloc ?_ _) | (with_reducible refine Kd.C_drewN ?_ _) | (with_reducible refine Kd.C_drew ?_))); (case side4 => exact HC1.out); (case side5 => repeat (first | exact (Kd.C_below HR2.out HB.out) | (with_reducible refine Kd.C_alloc ?_ _) | (with_reducible refine Kd.C_drewN ?_ _) | (with_reducible refine Kd.C_drew ?_))); (case side6 => exact HC2.out); rintro e w14 ⟨rfl, hb⟩; refine ⟨_, rfl, ?_⟩; have n0_ := Aside0.mk (below_step (BK HB.out) hb); clear HB; have HB := n0_; clear n0_; (try clear hb); (try clear hb2); (try clear hk); (try clear hi)))
        go_meet
        case rel => exact ⟨_, (decide ((l1.length : Int) > 29)), (by first | rfl | (simp; done) | (simp [*]; done)), H', ⟨by first | omega | exact Nat.le_refl _⟩, ⟨by repeat (first | (with_reducible first | exact HB.out | apply below_alloc | apply pw_below_drewN | apply below_drew1) | exact HB.out)⟩⟩
    · replace c11 := Bool.eq_false_iff.mpr c11
      subst c11
      have H1 : (observatorylaw29_LotterySplits.j0 k l0 l1 l2 a3 a4 a5 t101 true) = some r := by rw [if_neg (show ¬ (false = true) by decide)] at H; exact H
      clear H
      have H := H1
      clear H1
      have H' := Aside0.mk H
      clear H
      go_wp2_with (first | ((with_reducible refine gate_callee (f := 11) rfl ?_); refine goesL_ (some 27) rfl rfl Tryz.func11 (by kernel_rfl) rfl #[.slice A0 l0.length c0, .slice A1 l1.length c1, .slice A2 l2.length c2] rfl (by (try simp only [List.map_toArray, List.map_cons, List.map_nil]); first | done | rfl | (simp only [List.length_drop, List.length_take]; rfl)) ?_; (with_reducible refine (observatoryref29_Few.calls _ _ l0 _ _ l1 _ _ l2 false _ ?side1 ?side2 ?side3 ?side4 ?side5 ?side6 A10.out).mono ?_); (case side1 => repeat (first | exact (Kd.C_below HR0.out HB.out) | (with_reducible refine Kd.C_alloc ?_ _) | (with_reducible refine Kd.C_drewN ?_ _) | (with_reducible refine Kd.C_drew ?_))); (case side2 => exact HC0.out); (case side3 => repeat (first | exact (Kd.C_below HR1.out HB.out) | (with_reducible refine Kd.C_alloc ?_ _) | (with_reducible refine Kd.C_drewN ?_ _) | (with_reducible refine Kd.C_drew ?_))); (case side4 => exact HC1.out); (case side5 => repeat (first | exact (Kd.C_below HR2.out HB.out) | (with_reducible refine Kd.C_alloc ?_ _) | (with_reducible refine Kd.C_drewN ?_ _) | (with_reducible refine Kd.C_drew ?_))); (case side6 => exact HC2.out); rintro e w15 ⟨rfl, hb⟩; refine ⟨_, rfl, ?_⟩; have n0_ := Aside0.mk (below_step (BK HB.out) hb); clear HB; have HB := n0_; clear n0_; (try clear hb); (try clear hb2); (try clear hk); (try clear hi)))
      go_meet
      case rel => exact ⟨_, (true), (by first | rfl | (simp; done) | (simp [*]; done)), H', ⟨by first | omega | exact Nat.le_refl _⟩, ⟨by repeat (first | (with_reducible first | exact HB.out | apply below_alloc | apply pw_below_drewN | apply below_drew1) | exact HB.out)⟩⟩
  case rest =>
    clear HC8
    try clear c1
    try clear c2
    try clear p2
    try clear c6
    try clear c10
    try clear c11
    try clear c12
    try clear c12b0
    try clear c12b1
    try clear c12b2
    obtain ⟨kq, x38_7, rfl, HA, HJ7, HB⟩ := hcut
    cases kq with
    | zero => exact absurd HA.out (by simp [observatorylaw29_LotterySplits.j0])
    | succ kj7 =>
      have H := HA.out
      clear HA
      simp only [observatorylaw29_LotterySplits.j0] at H
      by_cases c16 : x38_7 = true
      · subst c16
        rw [if_pos rfl] at H
        obtain rfl := Option.some.inj H
        go_wp2
        go_ret
        exact ⟨by first | rfl | (simp [errW_none, errW_some] <;> rfl) | (simp [*, errW_none, errW_some] <;> rfl), by repeat (first | (with_reducible first | exact HB.out | apply below_alloc | apply pw_below_drewN | apply below_drew1) | exact HB.out)⟩
      · replace c16 := Bool.eq_false_iff.mpr c16
        subst c16
        have H1 : ((lottery_Tickets.f l0 l1 l2).bind fun bt103 => (if bt103.2 = 0 then (observatorylaw29_LotterySplits.j1 kj7 l0 l1 l2 a3 a4 a5 t101 bt103.1 bt103.2 ((bt103.1.length : Int) != (l1.length : Int))) else (observatorylaw29_LotterySplits.j1 kj7 l0 l1 l2 a3 a4 a5 t101 bt103.1 bt103.2 true))) = some r := by rw [if_neg (show ¬ (false = true) by decide)] at H; exact H
        clear H
        have H := H1
        clear H1
        replace H := Option.bind_eq_some_iff.mp H
        obtain ⟨⟨t103, t104⟩, A170, H⟩ := H
        replace H : (if t104 = 0 then (observatorylaw29_LotterySplits.j1 kj7 l0 l1 l2 a3 a4 a5 t101 t103 t104 ((t103.length : Int) != (l1.length : Int))) else (observatorylaw29_LotterySplits.j1 kj7 l0 l1 l2 a3 a4 a5 t101 t103 t104 true)) = some r := H
        have A17 := Aside0.mk A170
        clear A170
        have HC18 := Aside0.mk H
        clear H
        go_upto_region 5 with (first | ((with_reducible refine gate_callee (f := 12) rfl ?_); refine goesL_ (some 44) rfl rfl Tryz.func12 (by kernel_rfl) rfl #[.slice A0 l0.length c0, .slice A1 l1.length c1, .slice A2 l2.length c2] rfl (by (try simp only [List.map_toArray, List.map_cons, List.map_nil]); first | done | rfl | (simp only [List.length_drop, List.length_take]; rfl)) ?_; (with_reducible refine (lottery_Tickets.calls _ _ l0 _ _ l1 _ _ l2 t103 t104 _ ?side1 ?side2 ?side3 ?side4 ?side5 ?side6 A17.out).mono ?_); (case side1 => repeat (first | exact (Kd.C_below HR0.out HB.out) | (with_reducible refine Kd.C_alloc ?_ _) | (with_reducible refine Kd.C_drewN ?_ _) | (with_reducible refine Kd.C_drew ?_))); (case side2 => exact HC0.out); (case side3 => repeat (first | exact (Kd.C_below HR1.out HB.out) | (with_reducible refine Kd.C_alloc ?_ _) | (with_reducible refine Kd.C_drewN ?_ _) | (with_reducible refine Kd.C_drew ?_))); (case side4 => exact HC1.out); (case side5 => repeat (first | exact (Kd.C_below HR2.out HB.out) | (with_reducible refine Kd.C_alloc ?_ _) | (with_reducible refine Kd.C_drewN ?_ _) | (with_reducible refine Kd.C_drew ?_))); (case side6 => exact HC2.out); rintro e w19 ⟨v105, rfl, ho0, hb⟩; refine ⟨_, rfl, ?_⟩; have n0_ := Aside0.mk (Kd.R_lower ho0 (below_size (BK HB.out))); have n1_ := Aside0.mk (below_step (BK HB.out) hb); clear HB; have HO106 := n0_; have HB := n1_; clear n0_ n1_; (try clear hb); (try clear hb2); (try clear hk); (try clear hi); (try clear ho0)))
        (try simp only [Act.put, List.setIfInBounds_toArray, List.set_cons_zero, List.set_cons_succ])
        go_cut [55] (fun v55 wc => ∃ (kq : Nat) (x55_17 : Bool), v55 = .bool x55_17 ∧ Aside0 (observatorylaw29_LotterySplits.j1 kq l0 l1 l2 a3 a4 a5 t101 t103 t104 x55_17 = some r) ∧ Aside0 (kq ≤ kj7) ∧ Aside0 (Kd.R (Kd.int .i64) 3 wc w.heap.size (fun _ => True) v105 t103) ∧ Aside0 (Below w.heap.size w wc))
        case first =>
          have H := HC18.out
          clear HC18
          by_cases c20 : t104 = 0
          · rw [if_pos c20] at H
            have c20b0 : (t104 == 0) = true := beq_iff_eq.mpr c20
            have c20b1 : (t104 != 0) = false := bne_eq_false_iff_eq.mpr c20
            clear c20
            (first | rw [c20b0] | (simp only [i64_w, i32_w]; rw [c20b0]) | skip)
            have H' := Aside0.mk H
            clear H
            obtain ⟨Ao21, co21, eo21⟩ := Kd.R_slice HO106.out
            subst eo21
            go_wp2
            go_meet
            case rel => exact ⟨_, (((t103.length : Int) != (l1.length : Int))), (by first | rfl | (simp; done) | (simp [*]; done)), H', ⟨by have := HJ7.out; first | omega | exact Nat.le_refl _⟩, ⟨by (with_reducible repeat (first | apply Kd.R_alloc | apply Kd.R_drewN | apply Kd.R_drew)); exact HO106.out⟩, ⟨by repeat (first | (with_reducible first | exact HB.out | apply below_alloc | apply pw_below_drewN | apply below_drew1) | exact HB.out)⟩⟩
          · rw [if_neg c20] at H
            have c20b0 : (t104 == 0) = false := beq_eq_false_iff_ne.mpr c20
            have c20b1 : (t104 != 0) = true := bne_iff_ne.mpr c20
            (first | rw [c20b0] | (simp only [i64_w, i32_w]; rw [c20b0]) | skip)
            have H' := Aside0.mk H
            clear H
            go_wp2
            go_meet
            case rel => exact ⟨_, (true), (by first | rfl | (simp; done) | (simp [*]; done)), H', ⟨by have := HJ7.out; first | omega | exact Nat.le_refl _⟩, ⟨by (with_reducible repeat (first | apply Kd.R_alloc | apply Kd.R_drewN | apply Kd.R_drew)); exact HO106.out⟩, ⟨by repeat (first | (with_reducible first | exact HB.out | apply below_alloc | apply pw_below_drewN | apply below_drew1) | exact HB.out)⟩⟩
        case rest =>
          clear HC18
          try clear c1
          try clear c2
          try clear p2
          try clear c6
          try clear c10
          try clear c11
          try clear c12
          try clear c12b0
          try clear c12b1
          try clear c12b2
          try clear c16
          try clear c20
          try clear c20b0
          try clear c20b1
          try clear p2
          obtain ⟨kq, x55_17, rfl, HA, HJ17, HO_14, HB⟩ := hcut
          cases kq with
          | zero => exact absurd HA.out (by simp [observatorylaw29_LotterySplits.j1])
          | succ kj17 =>
            have H := HA.out
            clear HA
            simp only [observatorylaw29_LotterySplits.j1] at H
            by_cases c22 : x55_17 = true
            · subst c22
              rw [if_pos rfl] at H
              by_cases c23 : t101 = true
              · subst c23
                rw [if_pos rfl] at H
                obtain rfl := Option.some.inj H
                go_wp2
                go_ret
                exact ⟨by first | rfl | (simp [errW_none, errW_some] <;> rfl) | (simp [*, errW_none, errW_some] <;> rfl), by repeat (first | (with_reducible first | exact HB.out | apply below_alloc | apply pw_below_drewN | apply below_drew1) | exact HB.out)⟩
              · replace c23 := Bool.eq_false_iff.mpr c23
                subst c23
                have H1 : (none) = some r := by rw [if_neg (show ¬ (false = true) by decide)] at H; exact H
                clear H
                have H := H1
                clear H1
                exact absurd H (by simp)
            · replace c22 := Bool.eq_false_iff.mpr c22
              subst c22
              have H1 : (if (l1.length : Int) = 0 then (none) else ((some (([] : List Int) : List Int)).bind fun y107 => (if 0 ≤ (wrap64 ((Int.tmod (wrap64 (a3)) (l1.length : Int)) + 1)) then (if (wrap64 ((Int.tmod (wrap64 (a3)) (l1.length : Int)) + 1)) ≤ (l1.length : Int) then (if y107.length + (l1.take ((wrap64 ((Int.tmod (wrap64 (a3)) (l1.length : Int)) + 1)) : Int).toNat).length < 17592186044416 then ((some (y107 ++ (l1.take ((wrap64 ((Int.tmod (wrap64 (a3)) (l1.length : Int)) + 1)) : Int).toNat) : List Int)).bind fun y111 => (if 0 ≤ (Int.tmod (wrap64 (a3)) (l1.length : Int)) then (if (Int.tmod (wrap64 (a3)) (l1.length : Int)) < (l1.length : Int) then ((some (([rd l1 (Int.tmod (wrap64 (a3)) (l1.length : Int))] : List Int) : List Int)).bind fun y115 => (if y111.length + y115.length < 17592186044416 then ((some (y111 ++ y115 : List Int)).bind fun y118 => (if y118.length + (l1.drop ((wrap64 ((Int.tmod (wrap64 (a3)) (l1.length : Int)) + 1)) : Int).toNat).length < 17592186044416 then ((some (([] : List Int) : List Int)).bind fun y125 => (if (Int.tmod (wrap64 (a3)) (l1.length : Int)) ≤ (l2.length : Int) then (if y125.length + (l2.take ((Int.tmod (wrap64 (a3)) (l1.length : Int)) : Int).toNat).length < 17592186044416 then ((some (y125 ++ (l2.take ((Int.tmod (wrap64 (a3)) (l1.length : Int)) : Int).toNat) : List Int)).bind fun y129 => ((some (([wrap64 (1 + (Int.tmod (wrap64 (a4)) 10000)), wrap64 (1 + (Int.tmod (wrap64 (a5)) 10000))] : List Int) : List Int)).bind fun y132 => (if y129.length + y132.length < 17592186044416 then ((some (y129 ++ y132 : List Int)).bind fun y135 => (if (wrap64 ((Int.tmod (wrap64 (a3)) (l1.length : Int)) + 1)) ≤ (l2.length : Int) then (if y135.length + (l2.drop ((wrap64 ((Int.tmod (wrap64 (a3)) (l1.length : Int)) + 1)) : Int).toNat).length < 17592186044416 then ((lottery_Tickets.f l0 (y118 ++ (l1.drop ((wrap64 ((Int.tmod (wrap64 (a3)) (l1.length : Int)) + 1)) : Int).toNat)) (y135 ++ (l2.drop ((wrap64 ((Int.tmod (wrap64 (a3)) (l1.length : Int)) + 1)) : Int).toNat))).bind fun bt142 => (if bt142.2 = 0 then (observatorylaw29_LotterySplits.j2 kj17 l1 t101 t103 (Int.tmod (wrap64 (a3)) (l1.length : Int)) bt142.1 ((bt142.1.length : Int) != (wrap64 ((t103.length : Int) + 1)))) else (observatorylaw29_LotterySplits.j2 kj17 l1 t101 t103 (Int.tmod (wrap64 (a3)) (l1.length : Int)) bt142.1 true))) else (none)) else (none))) else (none)))) else (none)) else (none))) else (none))) else (none))) else (none)) else (none))) else (none)) else (none)) else (none)))) = some r := by rw [if_neg (show ¬ (false = true) by decide)] at H; exact H
              clear H
              have H := H1
              clear H1
              by_cases c24 : (l1.length : Int) = 0
              · rw [if_pos c24] at H
                exact absurd H (by simp)
              · rw [if_neg c24] at H
                have c24b0 : ((l1.length : Int) == 0) = false := beq_eq_false_iff_ne.mpr c24
                have c24b1 : ((l1.length : Int) != 0) = true := bne_iff_ne.mpr c24
                have c24b2 : ¬ (l1 = []) := fun h_ => c24 (by rw [h_]; rfl)
                obtain ⟨y107, hy107⟩ : ∃ y_ : List Int, y_ = (([] : List Int)) := ⟨_, rfl⟩
                replace H : (if 0 ≤ (wrap64 ((Int.tmod (wrap64 (a3)) (l1.length : Int)) + 1)) then (if (wrap64 ((Int.tmod (wrap64 (a3)) (l1.length : Int)) + 1)) ≤ (l1.length : Int) then (if y107.length + (l1.take ((wrap64 ((Int.tmod (wrap64 (a3)) (l1.length : Int)) + 1)) : Int).toNat).length < 17592186044416 then ((some (y107 ++ (l1.take ((wrap64 ((Int.tmod (wrap64 (a3)) (l1.length : Int)) + 1)) : Int).toNat) : List Int)).bind fun y111 => (if 0 ≤ (Int.tmod (wrap64 (a3)) (l1.length : Int)) then (if (Int.tmod (wrap64 (a3)) (l1.length : Int)) < (l1.length : Int) then ((some (([rd l1 (Int.tmod (wrap64 (a3)) (l1.length : Int))] : List Int) : List Int)).bind fun y115 => (if y111.length + y115.length < 17592186044416 then ((some (y111 ++ y115 : List Int)).bind fun y118 => (if y118.length + (l1.drop ((wrap64 ((Int.tmod (wrap64 (a3)) (l1.length : Int)) + 1)) : Int).toNat).length < 17592186044416 then ((some (([] : List Int) : List Int)).bind fun y125 => (if (Int.tmod (wrap64 (a3)) (l1.length : Int)) ≤ (l2.length : Int) then (if y125.length + (l2.take ((Int.tmod (wrap64 (a3)) (l1.length : Int)) : Int).toNat).length < 17592186044416 then ((some (y125 ++ (l2.take ((Int.tmod (wrap64 (a3)) (l1.length : Int)) : Int).toNat) : List Int)).bind fun y129 => ((some (([wrap64 (1 + (Int.tmod (wrap64 (a4)) 10000)), wrap64 (1 + (Int.tmod (wrap64 (a5)) 10000))] : List Int) : List Int)).bind fun y132 => (if y129.length + y132.length < 17592186044416 then ((some (y129 ++ y132 : List Int)).bind fun y135 => (if (wrap64 ((Int.tmod (wrap64 (a3)) (l1.length : Int)) + 1)) ≤ (l2.length : Int) then (if y135.length + (l2.drop ((wrap64 ((Int.tmod (wrap64 (a3)) (l1.length : Int)) + 1)) : Int).toNat).length < 17592186044416 then ((lottery_Tickets.f l0 (y118 ++ (l1.drop ((wrap64 ((Int.tmod (wrap64 (a3)) (l1.length : Int)) + 1)) : Int).toNat)) (y135 ++ (l2.drop ((wrap64 ((Int.tmod (wrap64 (a3)) (l1.length : Int)) + 1)) : Int).toNat))).bind fun bt142 => (if bt142.2 = 0 then (observatorylaw29_LotterySplits.j2 kj17 l1 t101 t103 (Int.tmod (wrap64 (a3)) (l1.length : Int)) bt142.1 ((bt142.1.length : Int) != (wrap64 ((t103.length : Int) + 1)))) else (observatorylaw29_LotterySplits.j2 kj17 l1 t101 t103 (Int.tmod (wrap64 (a3)) (l1.length : Int)) bt142.1 true))) else (none)) else (none))) else (none)))) else (none)) else (none))) else (none))) else (none))) else (none)) else (none))) else (none)) else (none)) else (none)) = some r := by first | (rw [hy107]; with_reducible exact H) | (have H2_ := (Option.bind_some _ _).symm.trans H; rw [hy107]; with_reducible exact H2_) | (have H2_ := (Option.bind_some _ _).symm.trans H; with_reducible exact H2_) | with_reducible exact H | (rw [hy107]; exact H) | exact H
                have Ny107 := Aside0.mk hy107
                clear hy107
                obtain ⟨ji25, hji25⟩ : ∃ j_ : Int, (wrap64 ((Int.tmod (wrap64 (a3)) (l1.length : Int)) + 1)) = j_ := ⟨_, rfl⟩
                replace H : (if 0 ≤ (ji25) then (if (ji25) ≤ (l1.length : Int) then (if y107.length + (l1.take ((ji25) : Int).toNat).length < 17592186044416 then ((some (y107 ++ (l1.take ((ji25) : Int).toNat) : List Int)).bind fun y111 => (if 0 ≤ (Int.tmod (wrap64 (a3)) (l1.length : Int)) then (if (Int.tmod (wrap64 (a3)) (l1.length : Int)) < (l1.length : Int) then ((some (([rd l1 (Int.tmod (wrap64 (a3)) (l1.length : Int))] : List Int) : List Int)).bind fun y115 => (if y111.length + y115.length < 17592186044416 then ((some (y111 ++ y115 : List Int)).bind fun y118 => (if y118.length + (l1.drop ((ji25) : Int).toNat).length < 17592186044416 then ((some (([] : List Int) : List Int)).bind fun y125 => (if (Int.tmod (wrap64 (a3)) (l1.length : Int)) ≤ (l2.length : Int) then (if y125.length + (l2.take ((Int.tmod (wrap64 (a3)) (l1.length : Int)) : Int).toNat).length < 17592186044416 then ((some (y125 ++ (l2.take ((Int.tmod (wrap64 (a3)) (l1.length : Int)) : Int).toNat) : List Int)).bind fun y129 => ((some (([wrap64 (1 + (Int.tmod (wrap64 (a4)) 10000)), wrap64 (1 + (Int.tmod (wrap64 (a5)) 10000))] : List Int) : List Int)).bind fun y132 => (if y129.length + y132.length < 17592186044416 then ((some (y129 ++ y132 : List Int)).bind fun y135 => (if (ji25) ≤ (l2.length : Int) then (if y135.length + (l2.drop ((ji25) : Int).toNat).length < 17592186044416 then ((lottery_Tickets.f l0 (y118 ++ (l1.drop ((ji25) : Int).toNat)) (y135 ++ (l2.drop ((ji25) : Int).toNat))).bind fun bt142 => (if bt142.2 = 0 then (observatorylaw29_LotterySplits.j2 kj17 l1 t101 t103 (Int.tmod (wrap64 (a3)) (l1.length : Int)) bt142.1 ((bt142.1.length : Int) != (wrap64 ((t103.length : Int) + 1)))) else (observatorylaw29_LotterySplits.j2 kj17 l1 t101 t103 (Int.tmod (wrap64 (a3)) (l1.length : Int)) bt142.1 true))) else (none)) else (none))) else (none)))) else (none)) else (none))) else (none))) else (none))) else (none)) else (none))) else (none)) else (none)) else (none)) = some r := by first | (rw [hji25] at H; exact H) | (simp only [hji25] at H ⊢; exact H)
                have hji25w : (IntKind.i64.wrap ((Int.tmod (wrap64 (a3)) (l1.length : Int)) + 1)) = ji25 := (i64_w _).trans hji25
                by_cases c26 : 0 ≤ (ji25)
                · rw [if_pos c26] at H
                  have c26b0 := eq_true c26
                  have c26b1 : decide (0 ≤ (ji25)) = true := decide_eq_true c26
                  clear c26
                  by_cases c27 : (ji25) ≤ (l1.length : Int)
                  · rw [if_pos c27] at H
                    have c27b0 := eq_true c27
                    have c27b1 : decide ((ji25) ≤ (l1.length : Int)) = true := decide_eq_true c27
                    clear c27
                    by_cases c28 : y107.length + (l1.take ((ji25) : Int).toNat).length < 17592186044416
                    · rw [if_pos c28] at H
                      have LMc28 := Aside0.mk c28
                      clear c28
                      obtain ⟨y111, hy111⟩ : ∃ y_ : List Int, y_ = (y107 ++ (l1.take ((ji25) : Int).toNat)) := ⟨_, rfl⟩
                      replace H : (if 0 ≤ (Int.tmod (wrap64 (a3)) (l1.length : Int)) then (if (Int.tmod (wrap64 (a3)) (l1.length : Int)) < (l1.length : Int) then ((some (([rd l1 (Int.tmod (wrap64 (a3)) (l1.length : Int))] : List Int) : List Int)).bind fun y115 => (if y111.length + y115.length < 17592186044416 then ((some (y111 ++ y115 : List Int)).bind fun y118 => (if y118.length + (l1.drop ((ji25) : Int).toNat).length < 17592186044416 then ((some (([] : List Int) : List Int)).bind fun y125 => (if (Int.tmod (wrap64 (a3)) (l1.length : Int)) ≤ (l2.length : Int) then (if y125.length + (l2.take ((Int.tmod (wrap64 (a3)) (l1.length : Int)) : Int).toNat).length < 17592186044416 then ((some (y125 ++ (l2.take ((Int.tmod (wrap64 (a3)) (l1.length : Int)) : Int).toNat) : List Int)).bind fun y129 => ((some (([wrap64 (1 + (Int.tmod (wrap64 (a4)) 10000)), wrap64 (1 + (Int.tmod (wrap64 (a5)) 10000))] : List Int) : List Int)).bind fun y132 => (if y129.length + y132.length < 17592186044416 then ((some (y129 ++ y132 : List Int)).bind fun y135 => (if (ji25) ≤ (l2.length : Int) then (if y135.length + (l2.drop ((ji25) : Int).toNat).length < 17592186044416 then ((lottery_Tickets.f l0 (y118 ++ (l1.drop ((ji25) : Int).toNat)) (y135 ++ (l2.drop ((ji25) : Int).toNat))).bind fun bt142 => (if bt142.2 = 0 then (observatorylaw29_LotterySplits.j2 kj17 l1 t101 t103 (Int.tmod (wrap64 (a3)) (l1.length : Int)) bt142.1 ((bt142.1.length : Int) != (wrap64 ((t103.length : Int) + 1)))) else (observatorylaw29_LotterySplits.j2 kj17 l1 t101 t103 (Int.tmod (wrap64 (a3)) (l1.length : Int)) bt142.1 true))) else (none)) else (none))) else (none)))) else (none)) else (none))) else (none))) else (none))) else (none)) else (none)) = some r := by first | (rw [hy111]; with_reducible exact H) | (have H2_ := (Option.bind_some _ _).symm.trans H; rw [hy111]; with_reducible exact H2_) | (have H2_ := (Option.bind_some _ _).symm.trans H; with_reducible exact H2_) | with_reducible exact H | (rw [hy111]; exact H) | exact H
                      have Ny111 := Aside0.mk hy111
                      clear hy111
                      obtain ⟨ji29, hji29⟩ : ∃ j_ : Int, (Int.tmod (wrap64 (a3)) (l1.length : Int)) = j_ := ⟨_, rfl⟩
                      rw [hji29] at hji25; subst hji25
                      replace H : (if 0 ≤ (ji29) then (if (ji29) < (l1.length : Int) then ((some (([rd l1 (ji29)] : List Int) : List Int)).bind fun y115 => (if y111.length + y115.length < 17592186044416 then ((some (y111 ++ y115 : List Int)).bind fun y118 => (if y118.length + (l1.drop ((wrap64 (ji29 + 1)) : Int).toNat).length < 17592186044416 then ((some (([] : List Int) : List Int)).bind fun y125 => (if (ji29) ≤ (l2.length : Int) then (if y125.length + (l2.take ((ji29) : Int).toNat).length < 17592186044416 then ((some (y125 ++ (l2.take ((ji29) : Int).toNat) : List Int)).bind fun y129 => ((some (([wrap64 (1 + (Int.tmod (wrap64 (a4)) 10000)), wrap64 (1 + (Int.tmod (wrap64 (a5)) 10000))] : List Int) : List Int)).bind fun y132 => (if y129.length + y132.length < 17592186044416 then ((some (y129 ++ y132 : List Int)).bind fun y135 => (if (wrap64 (ji29 + 1)) ≤ (l2.length : Int) then (if y135.length + (l2.drop ((wrap64 (ji29 + 1)) : Int).toNat).length < 17592186044416 then ((lottery_Tickets.f l0 (y118 ++ (l1.drop ((wrap64 (ji29 + 1)) : Int).toNat)) (y135 ++ (l2.drop ((wrap64 (ji29 + 1)) : Int).toNat))).bind fun bt142 => (if bt142.2 = 0 then (observatorylaw29_LotterySplits.j2 kj17 l1 t101 t103 ji29 bt142.1 ((bt142.1.length : Int) != (wrap64 ((t103.length : Int) + 1)))) else (observatorylaw29_LotterySplits.j2 kj17 l1 t101 t103 ji29 bt142.1 true))) else (none)) else (none))) else (none)))) else (none)) else (none))) else (none))) else (none))) else (none)) else (none)) = some r := by first | (rw [hji29] at H; exact H) | (simp only [hji29] at H ⊢; exact H)
                      by_cases c30 : 0 ≤ (ji29)
                      · rw [if_pos c30] at H
                        have c30b0 : decide (0 ≤ (ji29)) = true := decide_eq_true c30
                        clear c30
                        by_cases c31 : (ji29) < (l1.length : Int)
                        · rw [if_pos c31] at H
                          have c31b0 : decide ((ji29) < (l1.length : Int)) = true := decide_eq_true c31
                          clear c31
                          obtain ⟨y115, hy115⟩ : ∃ y_ : List Int, y_ = (([rd l1 (ji29)] : List Int)) := ⟨_, rfl⟩
                          replace H : (if y111.length + y115.length < 17592186044416 then ((some (y111 ++ y115 : List Int)).bind fun y118 => (if y118.length + (l1.drop ((wrap64 (ji29 + 1)) : Int).toNat).length < 17592186044416 then ((some (([] : List Int) : List Int)).bind fun y125 => (if (ji29) ≤ (l2.length : Int) then (if y125.length + (l2.take ((ji29) : Int).toNat).length < 17592186044416 then ((some (y125 ++ (l2.take ((ji29) : Int).toNat) : List Int)).bind fun y129 => ((some (([wrap64 (1 + (Int.tmod (wrap64 (a4)) 10000)), wrap64 (1 + (Int.tmod (wrap64 (a5)) 10000))] : List Int) : List Int)).bind fun y132 => (if y129.length + y132.length < 17592186044416 then ((some (y129 ++ y132 : List Int)).bind fun y135 => (if (wrap64 (ji29 + 1)) ≤ (l2.length : Int) then (if y135.length + (l2.drop ((wrap64 (ji29 + 1)) : Int).toNat).length < 17592186044416 then ((lottery_Tickets.f l0 (y118 ++ (l1.drop ((wrap64 (ji29 + 1)) : Int).toNat)) (y135 ++ (l2.drop ((wrap64 (ji29 + 1)) : Int).toNat))).bind fun bt142 => (if bt142.2 = 0 then (observatorylaw29_LotterySplits.j2 kj17 l1 t101 t103 ji29 bt142.1 ((bt142.1.length : Int) != (wrap64 ((t103.length : Int) + 1)))) else (observatorylaw29_LotterySplits.j2 kj17 l1 t101 t103 ji29 bt142.1 true))) else (none)) else (none))) else (none)))) else (none)) else (none))) else (none))) else (none)) = some r := by first | (rw [hy115]; with_reducible exact H) | (have H2_ := (Option.bind_some _ _).symm.trans H; rw [hy115]; with_reducible exact H2_) | (have H2_ := (Option.bind_some _ _).symm.trans H; with_reducible exact H2_) | with_reducible exact H | (rw [hy115]; exact H) | exact H
                          have Ny115 := Aside0.mk hy115
                          clear hy115
                          by_cases c32 : y111.length + y115.length < 17592186044416
                          · rw [if_pos c32] at H
                            have LMc32 := Aside0.mk c32
                            clear c32
                            obtain ⟨y118, hy118⟩ : ∃ y_ : List Int, y_ = (y111 ++ y115) := ⟨_, rfl⟩
                            replace H : (if y118.length + (l1.drop ((wrap64 (ji29 + 1)) : Int).toNat).length < 17592186044416 then ((some (([] : List Int) : List Int)).bind fun y125 => (if (ji29) ≤ (l2.length : Int) then (if y125.length + (l2.take ((ji29) : Int).toNat).length < 17592186044416 then ((some (y125 ++ (l2.take ((ji29) : Int).toNat) : List Int)).bind fun y129 => ((some (([wrap64 (1 + (Int.tmod (wrap64 (a4)) 10000)), wrap64 (1 + (Int.tmod (wrap64 (a5)) 10000))] : List Int) : List Int)).bind fun y132 => (if y129.length + y132.length < 17592186044416 then ((some (y129 ++ y132 : List Int)).bind fun y135 => (if (wrap64 (ji29 + 1)) ≤ (l2.length : Int) then (if y135.length + (l2.drop ((wrap64 (ji29 + 1)) : Int).toNat).length < 17592186044416 then ((lottery_Tickets.f l0 (y118 ++ (l1.drop ((wrap64 (ji29 + 1)) : Int).toNat)) (y135 ++ (l2.drop ((wrap64 (ji29 + 1)) : Int).toNat))).bind fun bt142 => (if bt142.2 = 0 then (observatorylaw29_LotterySplits.j2 kj17 l1 t101 t103 ji29 bt142.1 ((bt142.1.length : Int) != (wrap64 ((t103.length : Int) + 1)))) else (observatorylaw29_LotterySplits.j2 kj17 l1 t101 t103 ji29 bt142.1 true))) else (none)) else (none))) else (none)))) else (none)) else (none))) else (none)) = some r := by first | (rw [hy118]; with_reducible exact H) | (have H2_ := (Option.bind_some _ _).symm.trans H; rw [hy118]; with_reducible exact H2_) | (have H2_ := (Option.bind_some _ _).symm.trans H; with_reducible exact H2_) | with_reducible exact H | (rw [hy118]; exact H) | exact H
                            have Ny118 := Aside0.mk hy118
                            clear hy118
                            have c33b0 := eq_true (of_decide_eq_true (by first | (with_reducible assumption) | assumption) : 0 ≤ (wrap64 (ji29 + 1)))
                            have c34b0 := eq_true (of_decide_eq_true (by first | (with_reducible assumption) | assumption) : (wrap64 (ji29 + 1)) ≤ (l1.length : Int))
                            by_cases c35 : y118.length + (l1.drop ((wrap64 (ji29 + 1)) : Int).toNat).length < 17592186044416
                            · rw [if_pos c35] at H
                              have LMc35 := Aside0.mk c35
                              clear c35
                              obtain ⟨y122, hy122⟩ : ∃ y_ : List Int, y_ = (y118 ++ (l1.drop ((wrap64 (ji29 + 1)) : Int).toNat)) := ⟨_, rfl⟩
                              replace H : ((some (([] : List Int) : List Int)).bind fun y125 => (if (ji29) ≤ (l2.length : Int) then (if y125.length + (l2.take ((ji29) : Int).toNat).length < 17592186044416 then ((some (y125 ++ (l2.take ((ji29) : Int).toNat) : List Int)).bind fun y129 => ((some (([wrap64 (1 + (Int.tmod (wrap64 (a4)) 10000)), wrap64 (1 + (Int.tmod (wrap64 (a5)) 10000))] : List Int) : List Int)).bind fun y132 => (if y129.length + y132.length < 17592186044416 then ((some (y129 ++ y132 : List Int)).bind fun y135 => (if (wrap64 (ji29 + 1)) ≤ (l2.length : Int) then (if y135.length + (l2.drop ((wrap64 (ji29 + 1)) : Int).toNat).length < 17592186044416 then ((lottery_Tickets.f l0 y122 (y135 ++ (l2.drop ((wrap64 (ji29 + 1)) : Int).toNat))).bind fun bt142 => (if bt142.2 = 0 then (observatorylaw29_LotterySplits.j2 kj17 l1 t101 t103 ji29 bt142.1 ((bt142.1.length : Int) != (wrap64 ((t103.length : Int) + 1)))) else (observatorylaw29_LotterySplits.j2 kj17 l1 t101 t103 ji29 bt142.1 true))) else (none)) else (none))) else (none)))) else (none)) else (none))) = some r := by first | (rw [hy122]; with_reducible exact H) | (have H2_ := (Option.bind_some _ _).symm.trans H; rw [hy122]; with_reducible exact H2_) | (have H2_ := (Option.bind_some _ _).symm.trans H; with_reducible exact H2_) | with_reducible exact H | (rw [hy122]; exact H) | exact H
                              have Ny122 := Aside0.mk hy122
                              clear hy122
                              obtain ⟨y125, hy125⟩ : ∃ y_ : List Int, y_ = (([] : List Int)) := ⟨_, rfl⟩
                              replace H : (if (ji29) ≤ (l2.length : Int) then (if y125.length + (l2.take ((ji29) : Int).toNat).length < 17592186044416 then ((some (y125 ++ (l2.take ((ji29) : Int).toNat) : List Int)).bind fun y129 => ((some (([wrap64 (1 + (Int.tmod (wrap64 (a4)) 10000)), wrap64 (1 + (Int.tmod (wrap64 (a5)) 10000))] : List Int) : List Int)).bind fun y132 => (if y129.length + y132.length < 17592186044416 then ((some (y129 ++ y132 : List Int)).bind fun y135 => (if (wrap64 (ji29 + 1)) ≤ (l2.length : Int) then (if y135.length + (l2.drop ((wrap64 (ji29 + 1)) : Int).toNat).length < 17592186044416 then ((lottery_Tickets.f l0 y122 (y135 ++ (l2.drop ((wrap64 (ji29 + 1)) : Int).toNat))).bind fun bt142 => (if bt142.2 = 0 then (observatorylaw29_LotterySplits.j2 kj17 l1 t101 t103 ji29 bt142.1 ((bt142.1.length : Int) != (wrap64 ((t103.length : Int) + 1)))) else (observatorylaw29_LotterySplits.j2 kj17 l1 t101 t103 ji29 bt142.1 true))) else (none)) else (none))) else (none)))) else (none)) else (none)) = some r := by first | (rw [hy125]; with_reducible exact H) | (have H2_ := (Option.bind_some _ _).symm.trans H; rw [hy125]; with_reducible exact H2_) | (have H2_ := (Option.bind_some _ _).symm.trans H; with_reducible exact H2_) | with_reducible exact H | (rw [hy125]; exact H) | exact H
                              have Ny125 := Aside0.mk hy125
                              clear hy125
                              have c36b0 := eq_true (of_decide_eq_true (by first | (with_reducible assumption) | assumption) : 0 ≤ (ji29))
                              by_cases c37 : (ji29) ≤ (l2.length : Int)
                              · rw [if_pos c37] at H
                                have c37b0 := eq_true c37
                                have c37b1 : decide ((ji29) ≤ (l2.length : Int)) = true := decide_eq_true c37
                                clear c37
                                by_cases c38 : y125.length + (l2.take ((ji29) : Int).toNat).length < 17592186044416
                                · rw [if_pos c38] at H
                                  have LMc38 := Aside0.mk c38
                                  clear c38
                                  obtain ⟨y129, hy129⟩ : ∃ y_ : List Int, y_ = (y125 ++ (l2.take ((ji29) : Int).toNat)) := ⟨_, rfl⟩
                                  replace H : ((some (([wrap64 (1 + (Int.tmod (wrap64 (a4)) 10000)), wrap64 (1 + (Int.tmod (wrap64 (a5)) 10000))] : List Int) : List Int)).bind fun y132 => (if y129.length + y132.length < 17592186044416 then ((some (y129 ++ y132 : List Int)).bind fun y135 => (if (wrap64 (ji29 + 1)) ≤ (l2.length : Int) then (if y135.length + (l2.drop ((wrap64 (ji29 + 1)) : Int).toNat).length < 17592186044416 then ((lottery_Tickets.f l0 y122 (y135 ++ (l2.drop ((wrap64 (ji29 + 1)) : Int).toNat))).bind fun bt142 => (if bt142.2 = 0 then (observatorylaw29_LotterySplits.j2 kj17 l1 t101 t103 ji29 bt142.1 ((bt142.1.length : Int) != (wrap64 ((t103.length : Int) + 1)))) else (observatorylaw29_LotterySplits.j2 kj17 l1 t101 t103 ji29 bt142.1 true))) else (none)) else (none))) else (none))) = some r := by first | (rw [hy129]; with_reducible exact H) | (have H2_ := (Option.bind_some _ _).symm.trans H; rw [hy129]; with_reducible exact H2_) | (have H2_ := (Option.bind_some _ _).symm.trans H; with_reducible exact H2_) | with_reducible exact H | (rw [hy129]; exact H) | exact H
                                  have Ny129 := Aside0.mk hy129
                                  clear hy129
                                  obtain ⟨y132, hy132⟩ : ∃ y_ : List Int, y_ = (([wrap64 (1 + (Int.tmod (wrap64 (a4)) 10000)), wrap64 (1 + (Int.tmod (wrap64 (a5)) 10000))] : List Int)) := ⟨_, rfl⟩
                                  replace H : (if y129.length + y132.length < 17592186044416 then ((some (y129 ++ y132 : List Int)).bind fun y135 => (if (wrap64 (ji29 + 1)) ≤ (l2.length : Int) then (if y135.length + (l2.drop ((wrap64 (ji29 + 1)) : Int).toNat).length < 17592186044416 then ((lottery_Tickets.f l0 y122 (y135 ++ (l2.drop ((wrap64 (ji29 + 1)) : Int).toNat))).bind fun bt142 => (if bt142.2 = 0 then (observatorylaw29_LotterySplits.j2 kj17 l1 t101 t103 ji29 bt142.1 ((bt142.1.length : Int) != (wrap64 ((t103.length : Int) + 1)))) else (observatorylaw29_LotterySplits.j2 kj17 l1 t101 t103 ji29 bt142.1 true))) else (none)) else (none))) else (none)) = some r := by first | (rw [hy132]; with_reducible exact H) | (have H2_ := (Option.bind_some _ _).symm.trans H; rw [hy132]; with_reducible exact H2_) | (have H2_ := (Option.bind_some _ _).symm.trans H; with_reducible exact H2_) | with_reducible exact H | (rw [hy132]; exact H) | exact H
                                  have Ny132 := Aside0.mk hy132
                                  clear hy132
                                  by_cases c39 : y129.length + y132.length < 17592186044416
                                  · rw [if_pos c39] at H
                                    have LMc39 := Aside0.mk c39
                                    clear c39
                                    obtain ⟨y135, hy135⟩ : ∃ y_ : List Int, y_ = (y129 ++ y132) := ⟨_, rfl⟩
                                    replace H : (if (wrap64 (ji29 + 1)) ≤ (l2.length : Int) then (if y135.length + (l2.drop ((wrap64 (ji29 + 1)) : Int).toNat).length < 17592186044416 then ((lottery_Tickets.f l0 y122 (y135 ++ (l2.drop ((wrap64 (ji29 + 1)) : Int).toNat))).bind fun bt142 => (if bt142.2 = 0 then (observatorylaw29_LotterySplits.j2 kj17 l1 t101 t103 ji29 bt142.1 ((bt142.1.length : Int) != (wrap64 ((t103.length : Int) + 1)))) else (observatorylaw29_LotterySplits.j2 kj17 l1 t101 t103 ji29 bt142.1 true))) else (none)) else (none)) = some r := by first | (rw [hy135]; with_reducible exact H) | (have H2_ := (Option.bind_some _ _).symm.trans H; rw [hy135]; with_reducible exact H2_) | (have H2_ := (Option.bind_some _ _).symm.trans H; with_reducible exact H2_) | with_reducible exact H | (rw [hy135]; exact H) | exact H
                                    have Ny135 := Aside0.mk hy135
                                    clear hy135
                                    have c40b0 := eq_true (of_decide_eq_true (by first | (with_reducible assumption) | assumption) : 0 ≤ (wrap64 (ji29 + 1)))
                                    by_cases c41 : (wrap64 (ji29 + 1)) ≤ (l2.length : Int)
                                    · rw [if_pos c41] at H
                                      have c41b0 := eq_true c41
                                      have c41b1 : decide ((wrap64 (ji29 + 1)) ≤ (l2.length : Int)) = true := decide_eq_true c41
                                      clear c41
                                      by_cases c42 : y135.length + (l2.drop ((wrap64 (ji29 + 1)) : Int).toNat).length < 17592186044416
                                      · rw [if_pos c42] at H
                                        have LMc42 := Aside0.mk c42
                                        clear c42
                                        obtain ⟨y139, hy139⟩ : ∃ y_ : List Int, y_ = (y135 ++ (l2.drop ((wrap64 (ji29 + 1)) : Int).toNat)) := ⟨_, rfl⟩
                                        replace H : ((lottery_Tickets.f l0 y122 y139).bind fun bt142 => (if bt142.2 = 0 then (observatorylaw29_LotterySplits.j2 kj17 l1 t101 t103 ji29 bt142.1 ((bt142.1.length : Int) != (wrap64 ((t103.length : Int) + 1)))) else (observatorylaw29_LotterySplits.j2 kj17 l1 t101 t103 ji29 bt142.1 true))) = some r := by first | (rw [hy139]; with_reducible exact H) | (have H2_ := (Option.bind_some _ _).symm.trans H; rw [hy139]; with_reducible exact H2_) | (have H2_ := (Option.bind_some _ _).symm.trans H; with_reducible exact H2_) | with_reducible exact H | (rw [hy139]; exact H) | exact H
                                        have Ny139 := Aside0.mk hy139
                                        clear hy139
                                        replace H := Option.bind_eq_some_iff.mp H
                                        obtain ⟨⟨t142, t143⟩, A430, H⟩ := H
                                        replace H : (if t143 = 0 then (observatorylaw29_LotterySplits.j2 kj17 l1 t101 t103 ji29 t142 ((t142.length : Int) != (wrap64 ((t103.length : Int) + 1)))) else (observatorylaw29_LotterySplits.j2 kj17 l1 t101 t103 ji29 t142 true)) = some r := H
                                        have A43 := Aside0.mk A430
                                        clear A430
                                        have HC44 := Aside0.mk H
                                        clear H
                                        try go_wp2
                                        have n0_ := Aside0.mk (Kd.R_drew HO_14.out)
                                        have n1_ := Aside0.mk (below_drew1 HB.out)
                                        clear HO_14
                                        clear HB
                                        have HO_14 := n0_
                                        have HB := n1_
                                        clear n0_ n1_
                                        obtain ⟨i046, hi046, _, hsz46, _⟩ := info_parts info3
                                        obtain ⟨hcut46, hA46, hC46⟩ := print_take_of (P := Tryz.prog) (Value.int .i64) 0 22 3 .i64 Tryz.underlying22 hi046 hsz46 A1 c1 l1 (wrap64 (ji29 + 1)) (of_decide_eq_true (by first | (with_reducible assumption) | assumption)) (of_decide_eq_true (by first | (with_reducible assumption) | assumption)) HC1.out
                                        have HR110 := Aside0.mk (Kd.C_of_reads (h1 := fun _ => rfl) (hA46 _ (Kd.reads_of_C HR1.out)))
                                        have HC110 := Aside0.mk hC46
                                        clear hA46 hC46 hi046 hsz46
                                        have p114 : 0 ≤ ((ji29) : Int) := of_decide_eq_true (by first | (with_reducible assumption) | assumption)
                                        have q114 : (ji29) < (l1.length : Int) := of_decide_eq_true (by first | (with_reducible assumption) | assumption)
                                        obtain ⟨ad114, e114, hx114_0⟩ := Kd.at_int HR1.out (ji29) p114 q114
                                        have hw114_0 := hx114_0
                                        cases e114
                                        replace hx114_0 := (HB.out.cell (World.block_lt_of_cell? w _ hx114_0)).trans hx114_0
                                        replace p114 := eq_true p114
                                        replace q114 := eq_true q114
                                        obtain ⟨i047, hi047, _, hsz47, _⟩ := info_parts info3
                                        obtain ⟨A47, hcut47, hA47, hC47⟩ := print_drop_of (P := Tryz.prog) (Value.int .i64) 0 22 3 .i64 Tryz.underlying22 hi047 hsz47 (some ad114) c1 l1 (wrap64 (ji29 + 1)) (of_decide_eq_true (by first | (with_reducible assumption) | assumption)) (of_decide_eq_true (by first | (with_reducible assumption) | assumption)) HC1.out
                                        have HR121 := Aside0.mk (Kd.C_of_reads (h1 := fun _ => rfl) (hA47 _ (Kd.reads_of_C HR1.out)))
                                        have HC121 := Aside0.mk hC47
                                        clear hA47 hC47 hi047 hsz47
                                        refine start_ (n := 18) (S := fun w' => w'.cell? (ad114.add ((ji29)).toNat) = some (.int .i64 (rd l1 (ji29)))) (ds := []) #[false, false, false, false, false, false, false, false, false, false, false, false, false, false, false, false, false, false] (by kernel_rfl) rfl rfl (((HB.out.cell (World.block_lt_of_cell? w _ hw114_0)).trans hw114_0)) (fun hHeld => ?_); refine with_tabW observatorylaw29_LotterySplits.tab8 observatorylaw29_LotterySplits.bits8 (fun HT_ HW_ => ?_)
                                        generalize wc.drew = w45 at HO_14 HB HR110 HR121 hx114_0 hHeld ⊢
                                        refine pure_ (i := 1) (N := some 67) (v := ?_) (a' := ?_) #[false, true, false, false, false, false, false, false, false, false, false, false, false, false, false, false, false, false] rfl rfl (any_of HT_.out (by kernel_rfl)) (fun _ _ _ h => h) (Or.inl ⟨by rfl, ?_⟩) ?_ ?_
                                        rotate_left
                                        · intro w'
                                          go_simp
                                          with_reducible rfl
                                        rotate_left
                                        · simp only [Act.put, List.setIfInBounds_toArray, List.set_cons_zero, List.set_cons_succ, i64_w, i32_w]
                                          rfl
                                        refine pure_ (i := 2) (N := some 68) (v := ?_) (a' := ?_) #[false, true, true, false, false, false, false, false, false, false, false, false, false, false, false, false, false, false] rfl rfl (any_of HT_.out (by kernel_rfl)) (fun _ _ _ h => h) (Or.inl ⟨by rfl, ?_⟩) ?_ ?_
                                        rotate_left
                                        · intro w'
                                          go_simp
                                          with_reducible rfl
                                        rotate_left
                                        · simp only [Act.put, List.setIfInBounds_toArray, List.set_cons_zero, List.set_cons_succ, i64_w, i32_w]
                                          rfl
                                        refine pure_ (i := 3) (N := some 69) (v := ?_) (a' := ?_) #[false, true, true, true, false, false, false, false, false, false, false, false, false, false, false, false, false, false] rfl rfl (any_of HT_.out (by kernel_rfl)) (fun _ _ _ h => h) (Or.inl ⟨by rfl, ?_⟩) ?_ ?_
                                        rotate_left
                                        · intro w'
                                          go_simp
                                          with_reducible rfl
                                        rotate_left
                                        · simp only [Act.put, List.setIfInBounds_toArray, List.set_cons_zero, List.set_cons_succ, i64_w, i32_w]
                                          rfl
                                        refine pure_ (i := 4) (N := some 70) (v := ?_) (a' := ?_) #[false, true, true, true, true, false, false, false, false, false, false, false, false, false, false, false, false, false] rfl rfl (any_of HT_.out (by kernel_rfl)) (fun _ _ _ h => h) (Or.inl ⟨by rfl, ?_⟩) ?_ ?_
                                        rotate_left
                                        · intro w'
                                          go_simp
                                          with_reducible rfl
                                        rotate_left
                                        · simp only [Act.put, List.setIfInBounds_toArray, List.set_cons_zero, List.set_cons_succ, i64_w, i32_w]
                                          rfl
                                        refine pure_ (i := 6) (N := some 72) (v := ?_) (a' := ?_) #[false, true, true, true, true, false, true, false, false, false, false, false, false, false, false, false, false, false] rfl rfl (any_of HT_.out (by kernel_rfl)) (fun _ _ _ h => h) (Or.inl ⟨by rfl, ?_⟩) ?_ ?_
                                        rotate_left
                                        · intro w'
                                          go_simp
                                          with_reducible rfl
                                        rotate_left
                                        · simp only [Act.put, List.setIfInBounds_toArray, List.set_cons_zero, List.set_cons_succ, i64_w, i32_w]
                                          rfl
                                        refine pure_ (i := 7) (N := some 73) (v := ?_) (a' := ?_) #[false, true, true, true, true, false, true, true, false, false, false, false, false, false, false, false, false, false] rfl rfl (any_of HT_.out (by kernel_rfl)) (fun _ _ _ h => h) (Or.inl ⟨by rfl, ?_⟩) ?_ ?_
                                        rotate_left
                                        · intro w'
                                          go_simp
                                          with_reducible rfl
                                        rotate_left
                                        · simp only [Act.put, List.setIfInBounds_toArray, List.set_cons_zero, List.set_cons_succ, i64_w, i32_w]
                                          rfl
                                        refine pure_ (i := 8) (N := some 74) (v := ?_) (a' := ?_) #[false, true, true, true, true, false, true, true, true, false, false, false, false, false, false, false, false, false] rfl rfl (any_of HT_.out (by kernel_rfl)) (fun _ _ _ h => h) (Or.inl ⟨by rfl, ?_⟩) ?_ ?_
                                        rotate_left
                                        · intro w'
                                          go_simp
                                          with_reducible rfl
                                        rotate_left
                                        · simp only [Act.put, List.setIfInBounds_toArray, List.set_cons_zero, List.set_cons_succ, i64_w, i32_w]
                                          rfl
                                        refine pure_ (i := 12) (N := some 78) (v := ?_) (a' := ?_) #[false, true, true, true, true, false, true, true, true, false, false, false, true, false, false, false, false, false] rfl rfl (any_of HT_.out (by kernel_rfl)) (fun _ _ _ h => h) (Or.inl ⟨by rfl, ?_⟩) ?_ ?_
                                        rotate_left
                                        · intro w'
                                          go_simp
                                          with_reducible rfl
                                        rotate_left
                                        · simp only [Act.put, List.setIfInBounds_toArray, List.set_cons_zero, List.set_cons_succ, i64_w, i32_w]
                                          rfl
                                        refine pure_ (i := 13) (N := some 79) (v := ?_) (a' := ?_) #[false, true, true, true, true, false, true, true, true, false, false, false, true, true, false, false, false, false] rfl rfl (any_of HT_.out (by kernel_rfl)) (fun _ _ _ h => h) (Or.inl ⟨by rfl, ?_⟩) ?_ ?_
                                        rotate_left
                                        · intro w'
                                          go_simp
                                          with_reducible rfl
                                        rotate_left
                                        · simp only [Act.put, List.setIfInBounds_toArray, List.set_cons_zero, List.set_cons_succ, i64_w, i32_w]
                                          rfl
                                        refine pure_ (i := 14) (N := some 80) (v := ?_) (a' := ?_) #[false, true, true, true, true, false, true, true, true, false, false, false, true, true, true, false, false, false] rfl rfl (any_of HT_.out (by kernel_rfl)) (fun _ _ _ h => h) (Or.inl ⟨by rfl, ?_⟩) ?_ ?_
                                        rotate_left
                                        · intro w'
                                          go_simp
                                          with_reducible rfl
                                        rotate_left
                                        · simp only [Act.put, List.setIfInBounds_toArray, List.set_cons_zero, List.set_cons_succ, i64_w, i32_w]
                                          rfl
                                        refine pure_ (i := 15) (N := some 81) (v := ?_) (a' := ?_) #[false, true, true, true, true, false, true, true, true, false, false, false, true, true, true, true, false, false] rfl rfl (any_of HT_.out (by kernel_rfl)) (fun _ _ _ h => h) (Or.inl ⟨by rfl, ?_⟩) ?_ ?_
                                        rotate_left
                                        · intro w'
                                          go_simp
                                          with_reducible rfl
                                        rotate_left
                                        · simp only [Act.put, List.setIfInBounds_toArray, List.set_cons_zero, List.set_cons_succ, i64_w, i32_w]
                                          rfl
                                        refine take_ (i := 9) (N := some 75) (v := ?_) (a' := ?_) #[false, true, true, true, true, false, true, true, true, true, false, false, true, true, true, true, false, false] rfl rfl (take_ofW HT_.out HW_.out (by kernel_rfl)) (fun _ _ _ h => h) (Or.inl ⟨by rfl, ?_⟩) hHeld ?_ ?_
                                        rotate_left
                                        · intro w' s0
                                          go_simp
                                          with_reducible rfl
                                        rotate_left
                                        · simp only [Act.put, List.setIfInBounds_toArray, List.set_cons_zero, List.set_cons_succ, i64_w, i32_w]
                                          rfl
                                        refine join_ (σ := Value × Value × Value) 3 #[true, true, true, true, true, true, true, true, true, true, true, false, true, true, true, true, false, false] (fun s_ => [(66, s_.1), (71, s_.2.1), (76, s_.2.2)]) (fun s_ w' => (w'.cell? (ad114.add ((ji29)).toNat) = some (.int .i64 (rd l1 (ji29)))) ∧ (Kd.R (Kd.int .i64) 3 w' w.heap.size (fun k_ => some k_ ≠ (s_.2.2 : Value).ownBlock ∧ some k_ ≠ (v105 : Value).ownBlock) s_.2.1 y111) ∧ (Kd.R (Kd.int .i64) 3 w' w.heap.size (fun k_ => some k_ ≠ (s_.2.1 : Value).ownBlock ∧ some k_ ≠ (v105 : Value).ownBlock) s_.2.2 y115) ∧ (Kd.R (Kd.int .i64) 3 w' w.heap.size (fun k_ => some k_ ≠ (s_.2.1 : Value).ownBlock ∧ some k_ ≠ (s_.2.2 : Value).ownBlock) v105 t103) ∧ (Below w.heap.size w w')) ?_ ?_
                                        rotate_left
                                        · intro hCont
                                          refine two_ (i := 0) (j := 10) (Ni := some 66) (Nj := some 76) #[true, true, true, true, true, false, true, true, true, true, false, false, true, true, true, true, false, false] #[false, true, true, true, true, false, true, true, true, true, true, false, true, true, true, true, false, false] rfl rfl rfl rfl (two_of HT_.out (by kernel_rfl)) (by decide) (by decide) (fun K hK => ?_) (fun K hK => ?_)
                                          · skip
                                            refine Kd.R_lit_step (Kd.int .i64) _ 3 ?hg (N := 66) ?hd (xs := ([] : List Int)) (inner := []) (ok := fun _ => True) (okp := fun _ => True) ?hr ?hp (fun _ hk => hk) trivial (Below.refl _ _) (Nat.le_refl _) (by simp) ?_; (case hd => rfl); (case hg => rfl); (case hr => first | (go_simp; done) | (go_simp; rfl)); (case hp => exact (Reps.none _ _))
                                            intro v108 w48 ho49 hb hg_ hnew_
                                            clear hg_ hnew_
                                            (first | rw [← Ny107.out] at ho49 | (simp only [Int.reduceToNat] at ho49; rw [← Ny107.out] at ho49))
                                            have n0_ := Aside0.mk (Kd.R_elder' (RK HO_14.out) (Kd.R_base ho49) hb)
                                            have n1_ := Aside0.mk (Kd.R_lower (Kd.R_new' ho49 (Kd.R_lt (RK HO_14.out))) (below_size (BK HB.out)))
                                            have n2_ := Aside0.mk (below_step (BK HB.out) hb)
                                            clear HO_14
                                            clear HB
                                            have HO_14 := n0_
                                            have HO109 := n1_
                                            have HB := n2_
                                            clear n0_ n1_ n2_
                                            clear hb ho49
                                            refine hK.out _ _ (((HB.out.cell (World.block_lt_of_cell? w _ hw114_0)).trans hw114_0)) (fun hHeld => ?_)
                                            clear hK K
                                            refine norm_ (a' := ?_) ?_ ?_
                                            rotate_left
                                            · show Act.put _ (some 66) _ = _
                                              simp only [Act.put, List.setIfInBounds_toArray, List.set_cons_zero, List.set_cons_succ, i64_w, i32_w]
                                              rfl
                                            refine two_ (i := 5) (j := 10) (Ni := some 71) (Nj := some 76) #[true, true, true, true, true, true, true, true, true, true, false, false, true, true, true, true, false, false] #[true, true, true, true, true, false, true, true, true, true, true, false, true, true, true, true, false, false] rfl rfl rfl rfl (two_of HT_.out (by kernel_rfl)) (by decide) (by decide) (fun K hK => ?_) (fun K hK => ?_)
                                            · skip
                                              refine Kd.R_append_rows_step (Kd.int .i64) (w0 := w) w.heap.size (by rfl) (.tmp 66) (.tmp 70) 22 3 (.int .i64 0) 8 rfl Tryz.underlying22 info3 rfl (by decide) (by omega) v108 y107 (l1.take ((wrap64 (ji29 + 1)) : Int).toNat) _ _ _ (fun k_ => some k_ ≠ (v105 : Value).ownBlock) (fun _ => False) rfl rfl ?aO ?aR (fun _ _ h => h) (fun _ h => h.elim) ?aF ?aB ?aS ?aL ?_
                                              (case aR => first | (have h_ := (Kd.C_below HR110.out HB.out); rw [show (l1.take ((wrap64 (ji29 + 1)) : Int).toNat).length = (wrap64 (ji29 + 1)).toNat from (by rw [List.length_take]; have h_ : ((wrap64 (ji29 + 1)) : Int) ≤ (l1.length : Int) := of_decide_eq_true (by first | (with_reducible assumption) | assumption); omega)] at h_; repeat (first | exact h_ | (with_reducible refine Kd.C_alloc ?_ _) | (with_reducible refine Kd.C_drewN ?_ _) | (with_reducible refine Kd.C_drew ?_))) | (repeat (first | exact (Kd.C_below HR110.out HB.out) | (with_reducible refine Kd.C_alloc ?_ _) | (with_reducible refine Kd.C_drewN ?_ _) | (with_reducible refine Kd.C_drew ?_))))
                                              (case aB => exact (BK HB.out))
                                              (case aF => exact (fun k_ hk => Kd.fresh' (Kd.R_lt (RK HO_14.out)) k_ hk))
                                              (case aO => exact (by (with_reducible repeat (first | apply Kd.R_alloc | apply Kd.R_drewN | apply Kd.R_drew)); exact Kd.R_mono HO109.out (fun _ hk => hk.2)))
                                              (case aS => exact (below_size (BK HB.out)))
                                              (case aL => have := LMc28.out; have hlx_ := (show (l1.take ((wrap64 (ji29 + 1)) : Int).toNat).length = (wrap64 (ji29 + 1)).toNat from (by rw [List.length_take]; have h_ : ((wrap64 (ji29 + 1)) : Int) ≤ (l1.length : Int) := of_decide_eq_true (by first | (with_reducible assumption) | assumption); omega)); omega)
                                              intro v112 w50 ho hb hg hat
                                              rw [← Ny111.out] at ho
                                              have n0_ := Aside0.mk (Kd.R_after (ok := (fun _ => True)) (RK HO_14.out) hg hat)
                                              have n1_ := Aside0.mk (hb)
                                              have n2_ := Aside0.mk (ho)
                                              clear HO_14
                                              clear HB
                                              clear HO109
                                              have HO_14 := n0_
                                              have HB := n1_
                                              have HO113 := n2_
                                              clear n0_ n1_ n2_
                                              clear ho hb hg hat
                                              refine hK.out _ _ (((HB.out.cell (World.block_lt_of_cell? w _ hw114_0)).trans hw114_0)) (fun hHeld => ?_)
                                              clear hK K
                                              refine norm_ (a' := ?_) ?_ ?_
                                              rotate_left
                                              · show Act.put _ (some 71) _ = _
                                                simp only [Act.put, List.setIfInBounds_toArray, List.set_cons_zero, List.set_cons_succ, i64_w, i32_w]
                                                rfl
                                              refine one_ (i := 10) (N := some 76) #[true, true, true, true, true, true, true, true, true, true, true, false, true, true, true, true, false, false] rfl rfl (one_of HT_.out (by kernel_rfl)) (by decide) (fun K hK => ?_)
                                              refine Kd.R_lit_step (Kd.int .i64) _ 3 ?hg (N := 76) ?hd (xs := ([rd l1 (ji29)] : List Int)) (inner := [.int .i64 (rd l1 (ji29))]) (ok := fun _ => True) (okp := fun _ => True) ?hr ?hp (fun _ hk => hk) trivial (Below.refl _ _) (Nat.le_refl _) (by simp) ?_; (case hd => rfl); (case hg => rfl); (case hr => first | (go_simp; done) | (go_simp; rfl)); (case hp => exact (Reps.one (show Kd.M (Kd.int .i64) _ _ _ (rd l1 (ji29)) [.int .i64 (rd l1 (ji29))] from rfl) (Reps.none _ _)))
                                              intro v116 w51 ho52 hb hg_ hnew_
                                              clear hg_ hnew_
                                              (first | rw [← Ny115.out] at ho52 | (simp only [Int.reduceToNat] at ho52; rw [← Ny115.out] at ho52))
                                              have n0_ := Aside0.mk (Kd.R_elder' (RK HO_14.out) (Kd.R_base ho52) hb)
                                              have n1_ := Aside0.mk (Kd.R_elder' (RK HO113.out) (Kd.R_base ho52) hb)
                                              have n2_ := Aside0.mk (Kd.R_lower (Kd.R_new' (Kd.R_new' ho52 (Kd.R_lt (RK HO_14.out))) (Kd.R_lt (RK HO113.out))) (below_size (BK HB.out)))
                                              have n3_ := Aside0.mk (below_step (BK HB.out) hb)
                                              clear HO_14
                                              clear HO113
                                              clear HB
                                              have HO_14 := n0_
                                              have HO113 := n1_
                                              have HO117 := n2_
                                              have HB := n3_
                                              clear n0_ n1_ n2_ n3_
                                              clear hb ho52
                                              refine hK.out _ _ (((HB.out.cell (World.block_lt_of_cell? w _ hw114_0)).trans hw114_0)) (fun hHeld => ?_)
                                              clear hK K
                                              refine norm_ (a' := ?_) ?_ ?_
                                              rotate_left
                                              · show Act.put _ (some 76) _ = _
                                                simp only [Act.put, List.setIfInBounds_toArray, List.set_cons_zero, List.set_cons_succ, i64_w, i32_w]
                                                rfl
                                              exact norm_ (by simp only [putAll, Act.put, List.setIfInBounds_toArray, List.set_cons_zero, List.set_cons_succ]) (hCont (v108, v112, v116) _ ⟨hHeld, (by (with_reducible repeat (first | apply Kd.R_alloc | apply Kd.R_drewN | apply Kd.R_drew)); exact Kd.R_mono HO113.out (fun _ hk => ⟨hk.2, hk.1⟩)), (by (with_reducible repeat (first | apply Kd.R_alloc | apply Kd.R_drewN | apply Kd.R_drew)); exact Kd.R_mono HO117.out (fun _ hk => ⟨hk.2, hk.1.2⟩)), (by (with_reducible repeat (first | apply Kd.R_alloc | apply Kd.R_drewN | apply Kd.R_drew)); exact Kd.R_mono HO_14.out (fun _ hk => ⟨hk.1.2, hk.2⟩)), (BK HB.out)⟩)
                                            · skip
                                              refine Kd.R_lit_step (Kd.int .i64) _ 3 ?hg (N := 76) ?hd (xs := ([rd l1 (ji29)] : List Int)) (inner := [.int .i64 (rd l1 (ji29))]) (ok := fun _ => True) (okp := fun _ => True) ?hr ?hp (fun _ hk => hk) trivial (Below.refl _ _) (Nat.le_refl _) (by simp) ?_; (case hd => rfl); (case hg => rfl); (case hr => first | (go_simp; done) | (go_simp; rfl)); (case hp => exact (Reps.one (show Kd.M (Kd.int .i64) _ _ _ (rd l1 (ji29)) [.int .i64 (rd l1 (ji29))] from rfl) (Reps.none _ _)))
                                              intro v116 w50 ho51 hb hg_ hnew_
                                              clear hg_ hnew_
                                              (first | rw [← Ny115.out] at ho51 | (simp only [Int.reduceToNat] at ho51; rw [← Ny115.out] at ho51))
                                              have n0_ := Aside0.mk (Kd.R_elder' (RK HO_14.out) (Kd.R_base ho51) hb)
                                              have n1_ := Aside0.mk (Kd.R_elder' (RK HO109.out) (Kd.R_base ho51) hb)
                                              have n2_ := Aside0.mk (Kd.R_lower (Kd.R_new' (Kd.R_new' ho51 (Kd.R_lt (RK HO_14.out))) (Kd.R_lt (RK HO109.out))) (below_size (BK HB.out)))
                                              have n3_ := Aside0.mk (below_step (BK HB.out) hb)
                                              clear HO_14
                                              clear HO109
                                              clear HB
                                              have HO_14 := n0_
                                              have HO109 := n1_
                                              have HO117 := n2_
                                              have HB := n3_
                                              clear n0_ n1_ n2_ n3_
                                              clear hb ho51
                                              refine hK.out _ _ (((HB.out.cell (World.block_lt_of_cell? w _ hw114_0)).trans hw114_0)) (fun hHeld => ?_)
                                              clear hK K
                                              refine norm_ (a' := ?_) ?_ ?_
                                              rotate_left
                                              · show Act.put _ (some 76) _ = _
                                                simp only [Act.put, List.setIfInBounds_toArray, List.set_cons_zero, List.set_cons_succ, i64_w, i32_w]
                                                rfl
                                              refine one_ (i := 5) (N := some 71) #[true, true, true, true, true, true, true, true, true, true, true, false, true, true, true, true, false, false] rfl rfl (one_of HT_.out (by kernel_rfl)) (by decide) (fun K hK => ?_)
                                              refine Kd.R_append_rows_step (Kd.int .i64) (w0 := w) w.heap.size (by rfl) (.tmp 66) (.tmp 70) 22 3 (.int .i64 0) 8 rfl Tryz.underlying22 info3 rfl (by decide) (by omega) v108 y107 (l1.take ((wrap64 (ji29 + 1)) : Int).toNat) _ _ _ (fun k_ => some k_ ≠ (v105 : Value).ownBlock ∧ some k_ ≠ (v116 : Value).ownBlock) (fun _ => False) rfl rfl ?aO ?aR (fun _ _ h => h) (fun _ h => h.elim) ?aF ?aB ?aS ?aL ?_
                                              (case aR => first | (have h_ := (Kd.C_below HR110.out HB.out); rw [show (l1.take ((wrap64 (ji29 + 1)) : Int).toNat).length = (wrap64 (ji29 + 1)).toNat from (by rw [List.length_take]; have h_ : ((wrap64 (ji29 + 1)) : Int) ≤ (l1.length : Int) := of_decide_eq_true (by first | (with_reducible assumption) | assumption); omega)] at h_; repeat (first | exact h_ | (with_reducible refine Kd.C_alloc ?_ _) | (with_reducible refine Kd.C_drewN ?_ _) | (with_reducible refine Kd.C_drew ?_))) | (repeat (first | exact (Kd.C_below HR110.out HB.out) | (with_reducible refine Kd.C_alloc ?_ _) | (with_reducible refine Kd.C_drewN ?_ _) | (with_reducible refine Kd.C_drew ?_))))
                                              (case aB => exact (BK HB.out))
                                              (case aF => exact (fun k_ hk => ⟨Kd.fresh' (Kd.R_lt (RK HO_14.out)) k_ hk, Kd.fresh' (Kd.R_lt (RK HO117.out)) k_ hk⟩))
                                              (case aO => exact (by (with_reducible repeat (first | apply Kd.R_alloc | apply Kd.R_drewN | apply Kd.R_drew)); exact Kd.R_mono HO109.out (fun _ hk => ⟨hk.1.2, hk.2⟩)))
                                              (case aS => exact (below_size (BK HB.out)))
                                              (case aL => have := LMc28.out; have hlx_ := (show (l1.take ((wrap64 (ji29 + 1)) : Int).toNat).length = (wrap64 (ji29 + 1)).toNat from (by rw [List.length_take]; have h_ : ((wrap64 (ji29 + 1)) : Int) ≤ (l1.length : Int) := of_decide_eq_true (by first | (with_reducible assumption) | assumption); omega)); omega)
                                              intro v112 w52 ho hb hg hat
                                              rw [← Ny111.out] at ho
                                              have n0_ := Aside0.mk (Kd.R_after (ok := (fun k_ => some k_ ≠ (v116 : Value).ownBlock)) (by (with_reducible repeat (first | apply Kd.R_alloc | apply Kd.R_drewN | apply Kd.R_drew)); exact Kd.R_mono HO_14.out (fun _ hk => ⟨hk.2, hk.1.2⟩)) hg hat)
                                              have n1_ := Aside0.mk (Kd.R_after (ok := (fun k_ => some k_ ≠ (v105 : Value).ownBlock)) (by (with_reducible repeat (first | apply Kd.R_alloc | apply Kd.R_drewN | apply Kd.R_drew)); exact Kd.R_mono HO117.out (fun _ hk => ⟨hk.1.2, hk.2⟩)) hg hat)
                                              have n2_ := Aside0.mk (hb)
                                              have n3_ := Aside0.mk (ho)
                                              clear HO_14
                                              clear HO117
                                              clear HB
                                              clear HO109
                                              have HO_14 := n0_
                                              have HO117 := n1_
                                              have HB := n2_
                                              have HO113 := n3_
                                              clear n0_ n1_ n2_ n3_
                                              clear ho hb hg hat
                                              refine hK.out _ _ (((HB.out.cell (World.block_lt_of_cell? w _ hw114_0)).trans hw114_0)) (fun hHeld => ?_)
                                              clear hK K
                                              refine norm_ (a' := ?_) ?_ ?_
                                              rotate_left
                                              · show Act.put _ (some 71) _ = _
                                                simp only [Act.put, List.setIfInBounds_toArray, List.set_cons_zero, List.set_cons_succ, i64_w, i32_w]
                                                rfl
                                              exact norm_ (by simp only [putAll, Act.put, List.setIfInBounds_toArray, List.set_cons_zero, List.set_cons_succ]) (hCont (v108, v112, v116) _ ⟨hHeld, (by (with_reducible repeat (first | apply Kd.R_alloc | apply Kd.R_drewN | apply Kd.R_drew)); exact Kd.R_mono HO113.out (fun _ hk => ⟨hk.2, hk.1⟩)), (by (with_reducible repeat (first | apply Kd.R_alloc | apply Kd.R_drewN | apply Kd.R_drew)); exact Kd.R_mono HO117.out (fun _ hk => ⟨hk.2, hk.1⟩)), (by (with_reducible repeat (first | apply Kd.R_alloc | apply Kd.R_drewN | apply Kd.R_drew)); exact Kd.R_mono HO_14.out (fun _ hk => ⟨hk.2, hk.1⟩)), (BK HB.out)⟩)
                                          · skip
                                            refine Kd.R_lit_step (Kd.int .i64) _ 3 ?hg (N := 76) ?hd (xs := ([rd l1 (ji29)] : List Int)) (inner := [.int .i64 (rd l1 (ji29))]) (ok := fun _ => True) (okp := fun _ => True) ?hr ?hp (fun _ hk => hk) trivial (Below.refl _ _) (Nat.le_refl _) (by simp) ?_; (case hd => rfl); (case hg => rfl); (case hr => first | (go_simp; done) | (go_simp; rfl)); (case hp => exact (Reps.one (show Kd.M (Kd.int .i64) _ _ _ (rd l1 (ji29)) [.int .i64 (rd l1 (ji29))] from rfl) (Reps.none _ _)))
                                            intro v116 w48 ho49 hb hg_ hnew_
                                            clear hg_ hnew_
                                            (first | rw [← Ny115.out] at ho49 | (simp only [Int.reduceToNat] at ho49; rw [← Ny115.out] at ho49))
                                            have n0_ := Aside0.mk (Kd.R_elder' (RK HO_14.out) (Kd.R_base ho49) hb)
                                            have n1_ := Aside0.mk (Kd.R_lower (Kd.R_new' ho49 (Kd.R_lt (RK HO_14.out))) (below_size (BK HB.out)))
                                            have n2_ := Aside0.mk (below_step (BK HB.out) hb)
                                            clear HO_14
                                            clear HB
                                            have HO_14 := n0_
                                            have HO117 := n1_
                                            have HB := n2_
                                            clear n0_ n1_ n2_
                                            clear hb ho49
                                            refine hK.out _ _ (((HB.out.cell (World.block_lt_of_cell? w _ hw114_0)).trans hw114_0)) (fun hHeld => ?_)
                                            clear hK K
                                            refine norm_ (a' := ?_) ?_ ?_
                                            rotate_left
                                            · show Act.put _ (some 76) _ = _
                                              simp only [Act.put, List.setIfInBounds_toArray, List.set_cons_zero, List.set_cons_succ, i64_w, i32_w]
                                              rfl
                                            refine one_ (i := 0) (N := some 66) #[true, true, true, true, true, false, true, true, true, true, true, false, true, true, true, true, false, false] rfl rfl (one_of HT_.out (by kernel_rfl)) (by decide) (fun K hK => ?_)
                                            refine Kd.R_lit_step (Kd.int .i64) _ 3 ?hg (N := 66) ?hd (xs := ([] : List Int)) (inner := []) (ok := fun _ => True) (okp := fun _ => True) ?hr ?hp (fun _ hk => hk) trivial (Below.refl _ _) (Nat.le_refl _) (by simp) ?_; (case hd => rfl); (case hg => rfl); (case hr => first | (go_simp; done) | (go_simp; rfl)); (case hp => exact (Reps.none _ _))
                                            intro v108 w50 ho51 hb hg_ hnew_
                                            clear hg_ hnew_
                                            (first | rw [← Ny107.out] at ho51 | (simp only [Int.reduceToNat] at ho51; rw [← Ny107.out] at ho51))
                                            have n0_ := Aside0.mk (Kd.R_elder' (RK HO_14.out) (Kd.R_base ho51) hb)
                                            have n1_ := Aside0.mk (Kd.R_elder' (RK HO117.out) (Kd.R_base ho51) hb)
                                            have n2_ := Aside0.mk (Kd.R_lower (Kd.R_new' (Kd.R_new' ho51 (Kd.R_lt (RK HO_14.out))) (Kd.R_lt (RK HO117.out))) (below_size (BK HB.out)))
                                            have n3_ := Aside0.mk (below_step (BK HB.out) hb)
                                            clear HO_14
                                            clear HO117
                                            clear HB
                                            have HO_14 := n0_
                                            have HO117 := n1_
                                            have HO109 := n2_
                                            have HB := n3_
                                            clear n0_ n1_ n2_ n3_
                                            clear hb ho51
                                            refine hK.out _ _ (((HB.out.cell (World.block_lt_of_cell? w _ hw114_0)).trans hw114_0)) (fun hHeld => ?_)
                                            clear hK K
                                            refine norm_ (a' := ?_) ?_ ?_
                                            rotate_left
                                            · show Act.put _ (some 66) _ = _
                                              simp only [Act.put, List.setIfInBounds_toArray, List.set_cons_zero, List.set_cons_succ, i64_w, i32_w]
                                              rfl
                                            refine one_ (i := 5) (N := some 71) #[true, true, true, true, true, true, true, true, true, true, true, false, true, true, true, true, false, false] rfl rfl (one_of HT_.out (by kernel_rfl)) (by decide) (fun K hK => ?_)
                                            refine Kd.R_append_rows_step (Kd.int .i64) (w0 := w) w.heap.size (by rfl) (.tmp 66) (.tmp 70) 22 3 (.int .i64 0) 8 rfl Tryz.underlying22 info3 rfl (by decide) (by omega) v108 y107 (l1.take ((wrap64 (ji29 + 1)) : Int).toNat) _ _ _ (fun k_ => some k_ ≠ (v105 : Value).ownBlock ∧ some k_ ≠ (v116 : Value).ownBlock) (fun _ => False) rfl rfl ?aO ?aR (fun _ _ h => h) (fun _ h => h.elim) ?aF ?aB ?aS ?aL ?_
                                            (case aR => first | (have h_ := (Kd.C_below HR110.out HB.out); rw [show (l1.take ((wrap64 (ji29 + 1)) : Int).toNat).length = (wrap64 (ji29 + 1)).toNat from (by rw [List.length_take]; have h_ : ((wrap64 (ji29 + 1)) : Int) ≤ (l1.length : Int) := of_decide_eq_true (by first | (with_reducible assumption) | assumption); omega)] at h_; repeat (first | exact h_ | (with_reducible refine Kd.C_alloc ?_ _) | (with_reducible refine Kd.C_drewN ?_ _) | (with_reducible refine Kd.C_drew ?_))) | (repeat (first | exact (Kd.C_below HR110.out HB.out) | (with_reducible refine Kd.C_alloc ?_ _) | (with_reducible refine Kd.C_drewN ?_ _) | (with_reducible refine Kd.C_drew ?_))))
                                            (case aB => exact (BK HB.out))
                                            (case aF => exact (fun k_ hk => ⟨Kd.fresh' (Kd.R_lt (RK HO_14.out)) k_ hk, Kd.fresh' (Kd.R_lt (RK HO117.out)) k_ hk⟩))
                                            (case aO => exact (by (with_reducible repeat (first | apply Kd.R_alloc | apply Kd.R_drewN | apply Kd.R_drew)); exact Kd.R_mono HO109.out (fun _ hk => ⟨hk.1.2, hk.2⟩)))
                                            (case aS => exact (below_size (BK HB.out)))
                                            (case aL => have := LMc28.out; have hlx_ := (show (l1.take ((wrap64 (ji29 + 1)) : Int).toNat).length = (wrap64 (ji29 + 1)).toNat from (by rw [List.length_take]; have h_ : ((wrap64 (ji29 + 1)) : Int) ≤ (l1.length : Int) := of_decide_eq_true (by first | (with_reducible assumption) | assumption); omega)); omega)
                                            intro v112 w52 ho hb hg hat
                                            rw [← Ny111.out] at ho
                                            have n0_ := Aside0.mk (Kd.R_after (ok := (fun k_ => some k_ ≠ (v116 : Value).ownBlock)) (by (with_reducible repeat (first | apply Kd.R_alloc | apply Kd.R_drewN | apply Kd.R_drew)); exact Kd.R_mono HO_14.out (fun _ hk => ⟨hk.1.2, hk.2⟩)) hg hat)
                                            have n1_ := Aside0.mk (Kd.R_after (ok := (fun k_ => some k_ ≠ (v105 : Value).ownBlock)) (by (with_reducible repeat (first | apply Kd.R_alloc | apply Kd.R_drewN | apply Kd.R_drew)); exact Kd.R_mono HO117.out (fun _ hk => ⟨hk.1.2, hk.2⟩)) hg hat)
                                            have n2_ := Aside0.mk (hb)
                                            have n3_ := Aside0.mk (ho)
                                            clear HO_14
                                            clear HO117
                                            clear HB
                                            clear HO109
                                            have HO_14 := n0_
                                            have HO117 := n1_
                                            have HB := n2_
                                            have HO113 := n3_
                                            clear n0_ n1_ n2_ n3_
                                            clear ho hb hg hat
                                            refine hK.out _ _ (((HB.out.cell (World.block_lt_of_cell? w _ hw114_0)).trans hw114_0)) (fun hHeld => ?_)
                                            clear hK K
                                            refine norm_ (a' := ?_) ?_ ?_
                                            rotate_left
                                            · show Act.put _ (some 71) _ = _
                                              simp only [Act.put, List.setIfInBounds_toArray, List.set_cons_zero, List.set_cons_succ, i64_w, i32_w]
                                              rfl
                                            exact norm_ (by simp only [putAll, Act.put, List.setIfInBounds_toArray, List.set_cons_zero, List.set_cons_succ]) (hCont (v108, v112, v116) _ ⟨hHeld, (by (with_reducible repeat (first | apply Kd.R_alloc | apply Kd.R_drewN | apply Kd.R_drew)); exact Kd.R_mono HO113.out (fun _ hk => ⟨hk.2, hk.1⟩)), (by (with_reducible repeat (first | apply Kd.R_alloc | apply Kd.R_drewN | apply Kd.R_drew)); exact Kd.R_mono HO117.out (fun _ hk => ⟨hk.2, hk.1⟩)), (by (with_reducible repeat (first | apply Kd.R_alloc | apply Kd.R_drewN | apply Kd.R_drew)); exact Kd.R_mono HO_14.out (fun _ hk => ⟨hk.2, hk.1⟩)), (BK HB.out)⟩)
                                        rintro ⟨v108, v112, v116⟩ w53 ⟨hS_, h0_, h1_, h2_, h3_⟩
                                        have n0_ : Aside0 (Kd.R (Kd.int .i64) 3 w53 w.heap.size (fun k_ => some k_ ≠ (v116 : Value).ownBlock ∧ some k_ ≠ (v105 : Value).ownBlock) v112 y111) := ⟨h0_⟩
                                        have n1_ : Aside0 (Kd.R (Kd.int .i64) 3 w53 w.heap.size (fun k_ => some k_ ≠ (v112 : Value).ownBlock ∧ some k_ ≠ (v105 : Value).ownBlock) v116 y115) := ⟨h1_⟩
                                        have n2_ : Aside0 (Kd.R (Kd.int .i64) 3 w53 w.heap.size (fun k_ => some k_ ≠ (v112 : Value).ownBlock ∧ some k_ ≠ (v116 : Value).ownBlock) v105 t103) := ⟨h2_⟩
                                        have n3_ : Aside0 (Below w.heap.size w w53) := ⟨h3_⟩
                                        clear HO_14
                                        clear HB
                                        clear h0_ h1_ h2_ h3_
                                        have HO113 := n0_
                                        have HO117 := n1_
                                        have HO_14 := n2_
                                        have HB := n3_
                                        clear n0_ n1_ n2_ n3_
                                        have hHeld : w53.cell? (ad114.add ((ji29)).toNat) = some (.int .i64 (rd l1 (ji29))) := hS_
                                        obtain ⟨Ao55, co55, eo55⟩ := Kd.R_slice HO117.out
                                        (first | subst eo55 | (injection eo55 with f1_ f2_ f3_; have f4_ := f1_.symm; have f5_ := f3_.symm; clear f1_ f2_ f3_; subst f4_; subst f5_))
                                        refine norm_ (a' := ?_) ?_ ?_
                                        rotate_left
                                        · simp only [putAll, Act.put, List.setIfInBounds_toArray, List.set_cons_zero, List.set_cons_succ]
                                          rfl
                                        refine one_ (i := 11) (N := some 77) #[true, true, true, true, true, true, true, true, true, true, true, true, true, true, true, true, false, false] rfl rfl (one_of HT_.out (by kernel_rfl)) (by decide) (fun K hK => ?_)
                                        refine Kd.R_append_rows_step (Kd.int .i64) (w0 := w) w.heap.size (by rfl) (.tmp 71) (.tmp 76) 22 3 (.int .i64 0) 8 rfl Tryz.underlying22 info3 rfl (by decide) (by omega) v112 y111 y115 _ _ _ (fun k_ => some k_ ≠ (v105 : Value).ownBlock ∧ some k_ ≠ (.slice Ao55 y115.length co55 : Value).ownBlock) (fun _ => False) rfl rfl ?aO ?aR (fun _ _ h => h) (fun _ h => h.elim) ?aF ?aB ?aS ?aL ?_
                                        (case aR => exact CK (Kd.R_reads' HO117.out).2.2)
                                        (case aB => exact (BK HB.out))
                                        (case aF => exact (fun k_ hk => ⟨Kd.fresh' (Kd.R_lt (RK HO_14.out)) k_ hk, Kd.fresh' (Kd.R_lt (RK HO117.out)) k_ hk⟩))
                                        (case aO => exact (by (with_reducible repeat (first | apply Kd.R_alloc | apply Kd.R_drewN | apply Kd.R_drew)); exact Kd.R_mono HO113.out (fun _ hk => ⟨hk.2, hk.1⟩)))
                                        (case aS => exact (below_size (BK HB.out)))
                                        (case aL => have := LMc32.out; omega)
                                        intro v119 w54 ho hb hg hat
                                        rw [← Ny118.out] at ho
                                        have n0_ := Aside0.mk (Kd.R_after (ok := (fun k_ => some k_ ≠ (.slice Ao55 y115.length co55 : Value).ownBlock)) (by (with_reducible repeat (first | apply Kd.R_alloc | apply Kd.R_drewN | apply Kd.R_drew)); exact Kd.R_mono HO_14.out (fun _ hk => ⟨hk.2, hk.1⟩)) hg hat)
                                        have n1_ := Aside0.mk (Kd.R_after (ok := (fun k_ => some k_ ≠ (v105 : Value).ownBlock)) (by (with_reducible repeat (first | apply Kd.R_alloc | apply Kd.R_drewN | apply Kd.R_drew)); exact Kd.R_mono HO117.out (fun _ hk => ⟨hk.2, hk.1⟩)) hg hat)
                                        have n2_ := Aside0.mk (hb)
                                        have n3_ := Aside0.mk (ho)
                                        clear HO_14
                                        clear HO117
                                        clear HB
                                        clear HO113
                                        have HO_14 := n0_
                                        have HO117 := n1_
                                        have HB := n2_
                                        have HO120 := n3_
                                        clear n0_ n1_ n2_ n3_
                                        clear ho hb hg hat
                                        refine hK.out _ _ (((HB.out.cell (World.block_lt_of_cell? w _ hw114_0)).trans hw114_0)) (fun hHeld => ?_)
                                        clear hK K
                                        refine norm_ (a' := ?_) ?_ ?_
                                        rotate_left
                                        · show Act.put _ (some 77) _ = _
                                          simp only [Act.put, List.setIfInBounds_toArray, List.set_cons_zero, List.set_cons_succ, i64_w, i32_w]
                                          rfl
                                        refine one_ (i := 16) (N := some 82) #[true, true, true, true, true, true, true, true, true, true, true, true, true, true, true, true, true, false] rfl rfl (one_of HT_.out (by kernel_rfl)) (by decide) (fun K hK => ?_)
                                        refine Kd.R_append_rows_step (Kd.int .i64) (w0 := w) w.heap.size (by rfl) (.tmp 77) (.tmp 81) 22 3 (.int .i64 0) 8 rfl Tryz.underlying22 info3 rfl (by decide) (by omega) v119 y118 (l1.drop ((wrap64 (ji29 + 1)) : Int).toNat) _ _ _ (fun k_ => some k_ ≠ (v105 : Value).ownBlock ∧ some k_ ≠ (.slice Ao55 y115.length co55 : Value).ownBlock) (fun _ => False) rfl rfl ?aO ?aR (fun _ _ h => h) (fun _ h => h.elim) ?aF ?aB ?aS ?aL ?_
                                        (case aR => first | (rw [← show (l1.drop ((wrap64 (ji29 + 1)) : Int).toNat).length = (l1.length - (wrap64 (ji29 + 1)).toNat) from List.length_drop]; repeat (first | exact (Kd.C_below HR121.out HB.out) | (with_reducible refine Kd.C_alloc ?_ _) | (with_reducible refine Kd.C_drewN ?_ _) | (with_reducible refine Kd.C_drew ?_))) | (repeat (first | exact (Kd.C_below HR121.out HB.out) | (with_reducible refine Kd.C_alloc ?_ _) | (with_reducible refine Kd.C_drewN ?_ _) | (with_reducible refine Kd.C_drew ?_))))
                                        (case aB => exact (BK HB.out))
                                        (case aF => exact (fun k_ hk => ⟨Kd.fresh' (Kd.R_lt (RK HO_14.out)) k_ hk, Kd.fresh' (Kd.R_lt (RK HO117.out)) k_ hk⟩))
                                        (case aO => exact (RK HO120.out))
                                        (case aS => exact (below_size (BK HB.out)))
                                        (case aL => have := LMc35.out; have hlx_ := (show (l1.drop ((wrap64 (ji29 + 1)) : Int).toNat).length = (l1.length - (wrap64 (ji29 + 1)).toNat) from List.length_drop); omega)
                                        intro v123 w56 ho hb hg hat
                                        rw [← Ny122.out] at ho
                                        have n0_ := Aside0.mk (Kd.R_after (ok := (fun k_ => some k_ ≠ (.slice Ao55 y115.length co55 : Value).ownBlock)) (RK HO_14.out) hg hat)
                                        have n1_ := Aside0.mk (Kd.R_after (ok := (fun k_ => some k_ ≠ (v105 : Value).ownBlock)) (RK HO117.out) hg hat)
                                        have n2_ := Aside0.mk (hb)
                                        have n3_ := Aside0.mk (ho)
                                        clear HO_14
                                        clear HO117
                                        clear HB
                                        clear HO120
                                        have HO_14 := n0_
                                        have HO117 := n1_
                                        have HB := n2_
                                        have HO124 := n3_
                                        clear n0_ n1_ n2_ n3_
                                        clear ho hb hg hat
                                        refine hK.out _ _ (((HB.out.cell (World.block_lt_of_cell? w _ hw114_0)).trans hw114_0)) (fun hHeld => ?_)
                                        clear hK K
                                        refine norm_ (a' := ?_) ?_ ?_
                                        rotate_left
                                        · show Act.put _ (some 82) _ = _
                                          simp only [Act.put, List.setIfInBounds_toArray, List.set_cons_zero, List.set_cons_succ, i64_w, i32_w]
                                          rfl
                                        refine pure_ (i := 17) (N := some 17) (v := ?_) (a' := ?_) #[true, true, true, true, true, true, true, true, true, true, true, true, true, true, true, true, true, true] rfl rfl (any_of HT_.out (by kernel_rfl)) (fun _ _ _ h => h) (Or.inl ⟨by rfl, ?_⟩) ?_ ?_
                                        rotate_left
                                        · intro w'
                                          go_simp
                                          with_reducible rfl
                                        rotate_left
                                        · simp only [Act.put, List.setIfInBounds_toArray, List.set_cons_zero, List.set_cons_succ, i64_w, i32_w]
                                          rfl
                                        refine done_ (done_of HT_.out (by kernel_rfl)) ?_
                                        try go_wp2
                                        have n0_ := Aside0.mk (Kd.R_drew HO_14.out)
                                        have n1_ := Aside0.mk (Kd.R_drew HO117.out)
                                        have n2_ := Aside0.mk (Kd.R_drew HO124.out)
                                        have n3_ := Aside0.mk (below_drew1 HB.out)
                                        clear HO_14
                                        clear HO117
                                        clear HO124
                                        clear HB
                                        have HO_14 := n0_
                                        have HO117 := n1_
                                        have HO124 := n2_
                                        have HB := n3_
                                        clear n0_ n1_ n2_ n3_
                                        obtain ⟨i058, hi058, _, hsz58, _⟩ := info_parts info3
                                        obtain ⟨hcut58, hA58, hC58⟩ := print_take_of (P := Tryz.prog) (Value.int .i64) 0 22 3 .i64 Tryz.underlying22 hi058 hsz58 A2 c2 l2 (ji29) (of_decide_eq_true (by first | (with_reducible assumption) | assumption)) (of_decide_eq_true (by first | (with_reducible assumption) | assumption)) HC2.out
                                        have HR128 := Aside0.mk (Kd.C_of_reads (h1 := fun _ => rfl) (hA58 _ (Kd.reads_of_C HR2.out)))
                                        have HC128 := Aside0.mk hC58
                                        clear hA58 hC58 hi058 hsz58
                                        obtain ⟨i059, hi059, _, hsz59, _⟩ := info_parts info3
                                        obtain ⟨A59, hcut59, hA59, hC59⟩ := print_drop_of (P := Tryz.prog) (Value.int .i64) 0 22 3 .i64 Tryz.underlying22 hi059 hsz59 A2 c2 l2 (wrap64 (ji29 + 1)) (of_decide_eq_true (by first | (with_reducible assumption) | assumption)) (of_decide_eq_true (by first | (with_reducible assumption) | assumption)) HC2.out
                                        have HR138 := Aside0.mk (Kd.C_of_reads (h1 := fun _ => rfl) (hA59 _ (Kd.reads_of_C HR2.out)))
                                        have HC138 := Aside0.mk hC59
                                        clear hA59 hC59 hi059 hsz59
                                        refine start_ (n := 21) (S := fun w' => True) (ds := []) #[false, false, false, false, false, false, false, false, false, false, false, false, false, false, false, false, false, false, false, false, false] (by kernel_rfl) rfl rfl trivial (fun hHeld => ?_); refine with_tabW observatorylaw29_LotterySplits.tab9 observatorylaw29_LotterySplits.bits9 (fun HT_ HW_ => ?_)
                                        generalize w56.drew = w57 at HO_14 HO117 HO124 HB HR128 HR138 hHeld ⊢
                                        refine pure_ (i := 1) (N := some 84) (v := ?_) (a' := ?_) #[false, true, false, false, false, false, false, false, false, false, false, false, false, false, false, false, false, false, false, false, false] rfl rfl (any_of HT_.out (by kernel_rfl)) (fun _ _ _ h => h) (Or.inl ⟨by rfl, ?_⟩) ?_ ?_
                                        rotate_left
                                        · intro w'
                                          go_simp
                                          with_reducible rfl
                                        rotate_left
                                        · simp only [Act.put, List.setIfInBounds_toArray, List.set_cons_zero, List.set_cons_succ, i64_w, i32_w]
                                          rfl
                                        refine pure_ (i := 2) (N := some 85) (v := ?_) (a' := ?_) #[false, true, true, false, false, false, false, false, false, false, false, false, false, false, false, false, false, false, false, false, false] rfl rfl (any_of HT_.out (by kernel_rfl)) (fun _ _ _ h => h) (Or.inl ⟨by rfl, ?_⟩) ?_ ?_
                                        rotate_left
                                        · intro w'
                                          go_simp
                                          with_reducible rfl
                                        rotate_left
                                        · simp only [Act.put, List.setIfInBounds_toArray, List.set_cons_zero, List.set_cons_succ, i64_w, i32_w]
                                          rfl
                                        refine pure_ (i := 3) (N := some 86) (v := ?_) (a' := ?_) #[false, true, true, true, false, false, false, false, false, false, false, false, false, false, false, false, false, false, false, false, false] rfl rfl (any_of HT_.out (by kernel_rfl)) (fun _ _ _ h => h) (Or.inl ⟨by rfl, ?_⟩) ?_ ?_
                                        rotate_left
                                        · intro w'
                                          go_simp
                                          with_reducible rfl
                                        rotate_left
                                        · simp only [Act.put, List.setIfInBounds_toArray, List.set_cons_zero, List.set_cons_succ, i64_w, i32_w]
                                          rfl
                                        refine pure_ (i := 5) (N := some 88) (v := ?_) (a' := ?_) #[false, true, true, true, false, true, false, false, false, false, false, false, false, false, false, false, false, false, false, false, false] rfl rfl (any_of HT_.out (by kernel_rfl)) (fun _ _ _ h => h) (Or.inl ⟨by rfl, ?_⟩) ?_ ?_
                                        rotate_left
                                        · intro w'
                                          go_simp
                                          with_reducible rfl
                                        rotate_left
                                        · simp only [Act.put, List.setIfInBounds_toArray, List.set_cons_zero, List.set_cons_succ, i64_w, i32_w]
                                          rfl
                                        refine pure_ (i := 6) (N := some 89) (v := ?_) (a' := ?_) #[false, true, true, true, false, true, true, false, false, false, false, false, false, false, false, false, false, false, false, false, false] rfl rfl (any_of HT_.out (by kernel_rfl)) (fun _ _ _ h => h) (Or.inl ⟨by rfl, ?_⟩) ?_ ?_
                                        rotate_left
                                        · intro w'
                                          go_simp
                                          with_reducible rfl
                                        rotate_left
                                        · simp only [Act.put, List.setIfInBounds_toArray, List.set_cons_zero, List.set_cons_succ, i64_w, i32_w]
                                          rfl
                                        refine pure_ (i := 7) (N := some 90) (v := ?_) (a' := ?_) #[false, true, true, true, false, true, true, true, false, false, false, false, false, false, false, false, false, false, false, false, false] rfl rfl (any_of HT_.out (by kernel_rfl)) (fun _ _ _ h => h) (Or.inl ⟨by rfl, ?_⟩) ?_ ?_
                                        rotate_left
                                        · intro w'
                                          go_simp
                                          with_reducible rfl
                                        rotate_left
                                        · simp only [Act.put, List.setIfInBounds_toArray, List.set_cons_zero, List.set_cons_succ, i64_w, i32_w]
                                          rfl
                                        refine pure_ (i := 8) (N := some 91) (v := ?_) (a' := ?_) #[false, true, true, true, false, true, true, true, true, false, false, false, false, false, false, false, false, false, false, false, false] rfl rfl (any_of HT_.out (by kernel_rfl)) (fun _ _ _ h => h) (Or.inl ⟨by rfl, ?_⟩) ?_ ?_
                                        rotate_left
                                        · intro w'
                                          go_simp
                                          with_reducible rfl
                                        rotate_left
                                        · simp only [Act.put, List.setIfInBounds_toArray, List.set_cons_zero, List.set_cons_succ, i64_w, i32_w]
                                          rfl
                                        refine pure_ (i := 9) (N := some 92) (v := ?_) (a' := ?_) #[false, true, true, true, false, true, true, true, true, true, false, false, false, false, false, false, false, false, false, false, false] rfl rfl (any_of HT_.out (by kernel_rfl)) (fun _ _ _ h => h) (Or.inl ⟨by rfl, ?_⟩) ?_ ?_
                                        rotate_left
                                        · intro w'
                                          go_simp
                                          with_reducible rfl
                                        rotate_left
                                        · simp only [Act.put, List.setIfInBounds_toArray, List.set_cons_zero, List.set_cons_succ, i64_w, i32_w]
                                          rfl
                                        refine pure_ (i := 10) (N := some 93) (v := ?_) (a' := ?_) #[false, true, true, true, false, true, true, true, true, true, true, false, false, false, false, false, false, false, false, false, false] rfl rfl (any_of HT_.out (by kernel_rfl)) (fun _ _ _ h => h) (Or.inl ⟨by rfl, ?_⟩) ?_ ?_
                                        rotate_left
                                        · intro w'
                                          go_simp
                                          with_reducible rfl
                                        rotate_left
                                        · simp only [Act.put, List.setIfInBounds_toArray, List.set_cons_zero, List.set_cons_succ, i64_w, i32_w]
                                          rfl
                                        refine pure_ (i := 11) (N := some 94) (v := ?_) (a' := ?_) #[false, true, true, true, false, true, true, true, true, true, true, true, false, false, false, false, false, false, false, false, false] rfl rfl (any_of HT_.out (by kernel_rfl)) (fun _ _ _ h => h) (Or.inl ⟨by rfl, ?_⟩) ?_ ?_
                                        rotate_left
                                        · intro w'
                                          go_simp
                                          with_reducible rfl
                                        rotate_left
                                        · simp only [Act.put, List.setIfInBounds_toArray, List.set_cons_zero, List.set_cons_succ, i64_w, i32_w]
                                          rfl
                                        refine pure_ (i := 12) (N := some 95) (v := ?_) (a' := ?_) #[false, true, true, true, false, true, true, true, true, true, true, true, true, false, false, false, false, false, false, false, false] rfl rfl (any_of HT_.out (by kernel_rfl)) (fun _ _ _ h => h) (Or.inl ⟨by rfl, ?_⟩) ?_ ?_
                                        rotate_left
                                        · intro w'
                                          go_simp
                                          with_reducible rfl
                                        rotate_left
                                        · simp only [Act.put, List.setIfInBounds_toArray, List.set_cons_zero, List.set_cons_succ, i64_w, i32_w]
                                          rfl
                                        refine pure_ (i := 15) (N := some 98) (v := ?_) (a' := ?_) #[false, true, true, true, false, true, true, true, true, true, true, true, true, false, false, true, false, false, false, false, false] rfl rfl (any_of HT_.out (by kernel_rfl)) (fun _ _ _ h => h) (Or.inl ⟨by rfl, ?_⟩) ?_ ?_
                                        rotate_left
                                        · intro w'
                                          go_simp
                                          with_reducible rfl
                                        rotate_left
                                        · simp only [Act.put, List.setIfInBounds_toArray, List.set_cons_zero, List.set_cons_succ, i64_w, i32_w]
                                          rfl
                                        refine pure_ (i := 16) (N := some 99) (v := ?_) (a' := ?_) #[false, true, true, true, false, true, true, true, true, true, true, true, true, false, false, true, true, false, false, false, false] rfl rfl (any_of HT_.out (by kernel_rfl)) (fun _ _ _ h => h) (Or.inl ⟨by rfl, ?_⟩) ?_ ?_
                                        rotate_left
                                        · intro w'
                                          go_simp
                                          with_reducible rfl
                                        rotate_left
                                        · simp only [Act.put, List.setIfInBounds_toArray, List.set_cons_zero, List.set_cons_succ, i64_w, i32_w]
                                          rfl
                                        refine pure_ (i := 17) (N := some 100) (v := ?_) (a' := ?_) #[false, true, true, true, false, true, true, true, true, true, true, true, true, false, false, true, true, true, false, false, false] rfl rfl (any_of HT_.out (by kernel_rfl)) (fun _ _ _ h => h) (Or.inl ⟨by rfl, ?_⟩) ?_ ?_
                                        rotate_left
                                        · intro w'
                                          go_simp
                                          with_reducible rfl
                                        rotate_left
                                        · simp only [Act.put, List.setIfInBounds_toArray, List.set_cons_zero, List.set_cons_succ, i64_w, i32_w]
                                          rfl
                                        refine pure_ (i := 18) (N := some 101) (v := ?_) (a' := ?_) #[false, true, true, true, false, true, true, true, true, true, true, true, true, false, false, true, true, true, true, false, false] rfl rfl (any_of HT_.out (by kernel_rfl)) (fun _ _ _ h => h) (Or.inl ⟨by rfl, ?_⟩) ?_ ?_
                                        rotate_left
                                        · intro w'
                                          go_simp
                                          with_reducible rfl
                                        rotate_left
                                        · simp only [Act.put, List.setIfInBounds_toArray, List.set_cons_zero, List.set_cons_succ, i64_w, i32_w]
                                          rfl
                                        refine join_ (σ := Value × Value × Value) 3 #[true, true, true, true, true, true, true, true, true, true, true, true, true, true, false, true, true, true, true, false, false] (fun s_ => [(83, s_.1), (87, s_.2.1), (96, s_.2.2)]) (fun s_ w' => (Kd.R (Kd.int .i64) 3 w' w.heap.size (fun k_ => some k_ ≠ (v123 : Value).ownBlock ∧ some k_ ≠ (s_.2.1 : Value).ownBlock ∧ some k_ ≠ (s_.2.2 : Value).ownBlock ∧ some k_ ≠ (v105 : Value).ownBlock) (.slice Ao55 y115.length co55) y115) ∧ (Kd.R (Kd.int .i64) 3 w' w.heap.size (fun k_ => some k_ ≠ (.slice Ao55 y115.length co55 : Value).ownBlock ∧ some k_ ≠ (s_.2.1 : Value).ownBlock ∧ some k_ ≠ (s_.2.2 : Value).ownBlock ∧ some k_ ≠ (v105 : Value).ownBlock) v123 y122) ∧ (Kd.R (Kd.int .i64) 3 w' w.heap.size (fun k_ => some k_ ≠ (.slice Ao55 y115.length co55 : Value).ownBlock ∧ some k_ ≠ (v123 : Value).ownBlock ∧ some k_ ≠ (s_.2.2 : Value).ownBlock ∧ some k_ ≠ (v105 : Value).ownBlock) s_.2.1 y129) ∧ (Kd.R (Kd.int .i64) 3 w' w.heap.size (fun k_ => some k_ ≠ (.slice Ao55 y115.length co55 : Value).ownBlock ∧ some k_ ≠ (v123 : Value).ownBlock ∧ some k_ ≠ (s_.2.1 : Value).ownBlock ∧ some k_ ≠ (v105 : Value).ownBlock) s_.2.2 y132) ∧ (Kd.R (Kd.int .i64) 3 w' w.heap.size (fun k_ => some k_ ≠ (.slice Ao55 y115.length co55 : Value).ownBlock ∧ some k_ ≠ (v123 : Value).ownBlock ∧ some k_ ≠ (s_.2.1 : Value).ownBlock ∧ some k_ ≠ (s_.2.2 : Value).ownBlock) v105 t103) ∧ (Below w.heap.size w w')) ?_ ?_
                                        rotate_left
                                        · intro hCont
                                          refine two_ (i := 0) (j := 13) (Ni := some 83) (Nj := some 96) #[true, true, true, true, false, true, true, true, true, true, true, true, true, false, false, true, true, true, true, false, false] #[false, true, true, true, false, true, true, true, true, true, true, true, true, true, false, true, true, true, true, false, false] rfl rfl rfl rfl (two_of HT_.out (by kernel_rfl)) (by decide) (by decide) (fun K hK => ?_) (fun K hK => ?_)
                                          · skip
                                            refine Kd.R_lit_step (Kd.int .i64) _ 3 ?hg (N := 83) ?hd (xs := ([] : List Int)) (inner := []) (ok := fun _ => True) (okp := fun _ => True) ?hr ?hp (fun _ hk => hk) trivial (Below.refl _ _) (Nat.le_refl _) (by simp) ?_; (case hd => rfl); (case hg => rfl); (case hr => first | (go_simp; done) | (go_simp; rfl)); (case hp => exact (Reps.none _ _))
                                            intro v126 w60 ho61 hb hg_ hnew_
                                            clear hg_ hnew_
                                            (first | rw [← Ny125.out] at ho61 | (simp only [Int.reduceToNat] at ho61; rw [← Ny125.out] at ho61))
                                            have n0_ := Aside0.mk (Kd.R_elder' (RK HO_14.out) (Kd.R_base ho61) hb)
                                            have n1_ := Aside0.mk (Kd.R_elder' (RK HO117.out) (Kd.R_base ho61) hb)
                                            have n2_ := Aside0.mk (Kd.R_elder' (RK HO124.out) (Kd.R_base ho61) hb)
                                            have n3_ := Aside0.mk (Kd.R_lower (Kd.R_new' (Kd.R_new' (Kd.R_new' ho61 (Kd.R_lt (RK HO_14.out))) (Kd.R_lt (RK HO117.out))) (Kd.R_lt (RK HO124.out))) (below_size (BK HB.out)))
                                            have n4_ := Aside0.mk (below_step (BK HB.out) hb)
                                            clear HO_14
                                            clear HO117
                                            clear HO124
                                            clear HB
                                            have HO_14 := n0_
                                            have HO117 := n1_
                                            have HO124 := n2_
                                            have HO127 := n3_
                                            have HB := n4_
                                            clear n0_ n1_ n2_ n3_ n4_
                                            clear hb ho61
                                            refine hK.out _ _ trivial (fun hHeld => ?_)
                                            clear hK K
                                            refine norm_ (a' := ?_) ?_ ?_
                                            rotate_left
                                            · show Act.put _ (some 83) _ = _
                                              simp only [Act.put, List.setIfInBounds_toArray, List.set_cons_zero, List.set_cons_succ, i64_w, i32_w]
                                              rfl
                                            refine two_ (i := 4) (j := 13) (Ni := some 87) (Nj := some 96) #[true, true, true, true, true, true, true, true, true, true, true, true, true, false, false, true, true, true, true, false, false] #[true, true, true, true, false, true, true, true, true, true, true, true, true, true, false, true, true, true, true, false, false] rfl rfl rfl rfl (two_of HT_.out (by kernel_rfl)) (by decide) (by decide) (fun K hK => ?_) (fun K hK => ?_)
                                            · skip
                                              refine Kd.R_append_rows_step (Kd.int .i64) (w0 := w) w.heap.size (by rfl) (.tmp 83) (.tmp 86) 22 3 (.int .i64 0) 8 rfl Tryz.underlying22 info3 rfl (by decide) (by omega) v126 y125 (l2.take ((ji29) : Int).toNat) _ _ _ (fun k_ => some k_ ≠ (v105 : Value).ownBlock ∧ some k_ ≠ (.slice Ao55 y115.length co55 : Value).ownBlock ∧ some k_ ≠ (v123 : Value).ownBlock) (fun _ => False) rfl rfl ?aO ?aR (fun _ _ h => h) (fun _ h => h.elim) ?aF ?aB ?aS ?aL ?_
                                              (case aR => first | (have h_ := (Kd.C_below HR128.out HB.out); rw [show (l2.take ((ji29) : Int).toNat).length = (ji29).toNat from (by rw [List.length_take]; have h_ : ((ji29) : Int) ≤ (l2.length : Int) := of_decide_eq_true (by first | (with_reducible assumption) | assumption); omega)] at h_; repeat (first | exact h_ | (with_reducible refine Kd.C_alloc ?_ _) | (with_reducible refine Kd.C_drewN ?_ _) | (with_reducible refine Kd.C_drew ?_))) | (repeat (first | exact (Kd.C_below HR128.out HB.out) | (with_reducible refine Kd.C_alloc ?_ _) | (with_reducible refine Kd.C_drewN ?_ _) | (with_reducible refine Kd.C_drew ?_))))
                                              (case aB => exact (BK HB.out))
                                              (case aF => exact (fun k_ hk => ⟨Kd.fresh' (Kd.R_lt (RK HO_14.out)) k_ hk, Kd.fresh' (Kd.R_lt (RK HO117.out)) k_ hk, Kd.fresh' (Kd.R_lt (RK HO124.out)) k_ hk⟩))
                                              (case aO => exact (by (with_reducible repeat (first | apply Kd.R_alloc | apply Kd.R_drewN | apply Kd.R_drew)); exact Kd.R_mono HO127.out (fun _ hk => ⟨hk.1.1.2, ⟨hk.1.2, hk.2⟩⟩)))
                                              (case aS => exact (below_size (BK HB.out)))
                                              (case aL => have := LMc38.out; have hlx_ := (show (l2.take ((ji29) : Int).toNat).length = (ji29).toNat from (by rw [List.length_take]; have h_ : ((ji29) : Int) ≤ (l2.length : Int) := of_decide_eq_true (by first | (with_reducible assumption) | assumption); omega)); omega)
                                              intro v130 w62 ho hb hg hat
                                              rw [← Ny129.out] at ho
                                              have n0_ := Aside0.mk (Kd.R_after (ok := (fun k_ => some k_ ≠ (.slice Ao55 y115.length co55 : Value).ownBlock ∧ some k_ ≠ (v123 : Value).ownBlock)) (RK HO_14.out) hg hat)
                                              have n1_ := Aside0.mk (Kd.R_after (ok := (fun k_ => some k_ ≠ (v105 : Value).ownBlock ∧ some k_ ≠ (v123 : Value).ownBlock)) (RK HO117.out) hg hat)
                                              have n2_ := Aside0.mk (Kd.R_after (ok := (fun k_ => some k_ ≠ (v105 : Value).ownBlock ∧ some k_ ≠ (.slice Ao55 y115.length co55 : Value).ownBlock)) (RK HO124.out) hg hat)
                                              have n3_ := Aside0.mk (hb)
                                              have n4_ := Aside0.mk (ho)
                                              clear HO_14
                                              clear HO117
                                              clear HO124
                                              clear HB
                                              clear HO127
                                              have HO_14 := n0_
                                              have HO117 := n1_
                                              have HO124 := n2_
                                              have HB := n3_
                                              have HO131 := n4_
                                              clear n0_ n1_ n2_ n3_ n4_
                                              clear ho hb hg hat
                                              refine hK.out _ _ trivial (fun hHeld => ?_)
                                              clear hK K
                                              refine norm_ (a' := ?_) ?_ ?_
                                              rotate_left
                                              · show Act.put _ (some 87) _ = _
                                                simp only [Act.put, List.setIfInBounds_toArray, List.set_cons_zero, List.set_cons_succ, i64_w, i32_w]
                                                rfl
                                              refine one_ (i := 13) (N := some 96) #[true, true, true, true, true, true, true, true, true, true, true, true, true, true, false, true, true, true, true, false, false] rfl rfl (one_of HT_.out (by kernel_rfl)) (by decide) (fun K hK => ?_)
                                              refine Kd.R_lit_step (Kd.int .i64) _ 3 ?hg (N := 96) ?hd (xs := ([wrap64 (1 + (Int.tmod (wrap64 (a4)) 10000)), wrap64 (1 + (Int.tmod (wrap64 (a5)) 10000))] : List Int)) (inner := [.int .i64 (wrap64 (1 + (Int.tmod (wrap64 (a4)) 10000))), .int .i64 (wrap64 (1 + (Int.tmod (wrap64 (a5)) 10000)))]) (ok := fun _ => True) (okp := fun _ => True) ?hr ?hp (fun _ hk => hk) trivial (Below.refl _ _) (Nat.le_refl _) (by simp) ?_; (case hd => rfl); (case hg => rfl); (case hr => first | (go_simp; done) | (go_simp; rfl)); (case hp => exact (Reps.one (show Kd.M (Kd.int .i64) _ _ _ (wrap64 (1 + (Int.tmod (wrap64 (a4)) 10000))) [.int .i64 (wrap64 (1 + (Int.tmod (wrap64 (a4)) 10000)))] from rfl) (Reps.one (show Kd.M (Kd.int .i64) _ _ _ (wrap64 (1 + (Int.tmod (wrap64 (a5)) 10000))) [.int .i64 (wrap64 (1 + (Int.tmod (wrap64 (a5)) 10000)))] from rfl) (Reps.none _ _))))
                                              intro v133 w63 ho64 hb hg_ hnew_
                                              clear hg_ hnew_
                                              (first | rw [← Ny132.out] at ho64 | (simp only [Int.reduceToNat] at ho64; rw [← Ny132.out] at ho64))
                                              have n0_ := Aside0.mk (Kd.R_elder' (RK HO_14.out) (Kd.R_base ho64) hb)
                                              have n1_ := Aside0.mk (Kd.R_elder' (RK HO117.out) (Kd.R_base ho64) hb)
                                              have n2_ := Aside0.mk (Kd.R_elder' (RK HO124.out) (Kd.R_base ho64) hb)
                                              have n3_ := Aside0.mk (Kd.R_elder' (RK HO131.out) (Kd.R_base ho64) hb)
                                              have n4_ := Aside0.mk (Kd.R_lower (Kd.R_new' (Kd.R_new' (Kd.R_new' (Kd.R_new' ho64 (Kd.R_lt (RK HO_14.out))) (Kd.R_lt (RK HO117.out))) (Kd.R_lt (RK HO124.out))) (Kd.R_lt (RK HO131.out))) (below_size (BK HB.out)))
                                              have n5_ := Aside0.mk (below_step (BK HB.out) hb)
                                              clear HO_14
                                              clear HO117
                                              clear HO124
                                              clear HO131
                                              clear HB
                                              have HO_14 := n0_
                                              have HO117 := n1_
                                              have HO124 := n2_
                                              have HO131 := n3_
                                              have HO134 := n4_
                                              have HB := n5_
                                              clear n0_ n1_ n2_ n3_ n4_ n5_
                                              clear hb ho64
                                              refine hK.out _ _ trivial (fun hHeld => ?_)
                                              clear hK K
                                              refine norm_ (a' := ?_) ?_ ?_
                                              rotate_left
                                              · show Act.put _ (some 96) _ = _
                                                simp only [Act.put, List.setIfInBounds_toArray, List.set_cons_zero, List.set_cons_succ, i64_w, i32_w]
                                                rfl
                                              exact norm_ (by simp only [putAll, Act.put, List.setIfInBounds_toArray, List.set_cons_zero, List.set_cons_succ]) (hCont (v126, v130, v133) _ ⟨(by (with_reducible repeat (first | apply Kd.R_alloc | apply Kd.R_drewN | apply Kd.R_drew)); exact Kd.R_mono HO117.out (fun _ hk => ⟨hk.1.1.2, ⟨hk.1.2, ⟨hk.2, hk.1.1.1⟩⟩⟩)), (by (with_reducible repeat (first | apply Kd.R_alloc | apply Kd.R_drewN | apply Kd.R_drew)); exact Kd.R_mono HO124.out (fun _ hk => ⟨hk.1.1.2, ⟨hk.1.2, ⟨hk.2, hk.1.1.1⟩⟩⟩)), (by (with_reducible repeat (first | apply Kd.R_alloc | apply Kd.R_drewN | apply Kd.R_drew)); exact Kd.R_mono HO131.out (fun _ hk => ⟨hk.1.2.1, ⟨hk.1.2.2, ⟨hk.2, hk.1.1⟩⟩⟩)), (by (with_reducible repeat (first | apply Kd.R_alloc | apply Kd.R_drewN | apply Kd.R_drew)); exact Kd.R_mono HO134.out (fun _ hk => ⟨hk.1.1.2, ⟨hk.1.2, ⟨hk.2, hk.1.1.1.2⟩⟩⟩)), (by (with_reducible repeat (first | apply Kd.R_alloc | apply Kd.R_drewN | apply Kd.R_drew)); exact Kd.R_mono HO_14.out (fun _ hk => ⟨hk.1.1.1, ⟨hk.1.1.2, ⟨hk.1.2, hk.2⟩⟩⟩)), (BK HB.out)⟩)
                                            · skip
                                              refine Kd.R_lit_step (Kd.int .i64) _ 3 ?hg (N := 96) ?hd (xs := ([wrap64 (1 + (Int.tmod (wrap64 (a4)) 10000)), wrap64 (1 + (Int.tmod (wrap64 (a5)) 10000))] : List Int)) (inner := [.int .i64 (wrap64 (1 + (Int.tmod (wrap64 (a4)) 10000))), .int .i64 (wrap64 (1 + (Int.tmod (wrap64 (a5)) 10000)))]) (ok := fun _ => True) (okp := fun _ => True) ?hr ?hp (fun _ hk => hk) trivial (Below.refl _ _) (Nat.le_refl _) (by simp) ?_; (case hd => rfl); (case hg => rfl); (case hr => first | (go_simp; done) | (go_simp; rfl)); (case hp => exact (Reps.one (show Kd.M (Kd.int .i64) _ _ _ (wrap64 (1 + (Int.tmod (wrap64 (a4)) 10000))) [.int .i64 (wrap64 (1 + (Int.tmod (wrap64 (a4)) 10000)))] from rfl) (Reps.one (show Kd.M (Kd.int .i64) _ _ _ (wrap64 (1 + (Int.tmod (wrap64 (a5)) 10000))) [.int .i64 (wrap64 (1 + (Int.tmod (wrap64 (a5)) 10000)))] from rfl) (Reps.none _ _))))
                                              intro v133 w62 ho63 hb hg_ hnew_
                                              clear hg_ hnew_
                                              (first | rw [← Ny132.out] at ho63 | (simp only [Int.reduceToNat] at ho63; rw [← Ny132.out] at ho63))
                                              have n0_ := Aside0.mk (Kd.R_elder' (RK HO_14.out) (Kd.R_base ho63) hb)
                                              have n1_ := Aside0.mk (Kd.R_elder' (RK HO117.out) (Kd.R_base ho63) hb)
                                              have n2_ := Aside0.mk (Kd.R_elder' (RK HO124.out) (Kd.R_base ho63) hb)
                                              have n3_ := Aside0.mk (Kd.R_elder' (RK HO127.out) (Kd.R_base ho63) hb)
                                              have n4_ := Aside0.mk (Kd.R_lower (Kd.R_new' (Kd.R_new' (Kd.R_new' (Kd.R_new' ho63 (Kd.R_lt (RK HO_14.out))) (Kd.R_lt (RK HO117.out))) (Kd.R_lt (RK HO124.out))) (Kd.R_lt (RK HO127.out))) (below_size (BK HB.out)))
                                              have n5_ := Aside0.mk (below_step (BK HB.out) hb)
                                              clear HO_14
                                              clear HO117
                                              clear HO124
                                              clear HO127
                                              clear HB
                                              have HO_14 := n0_
                                              have HO117 := n1_
                                              have HO124 := n2_
                                              have HO127 := n3_
                                              have HO134 := n4_
                                              have HB := n5_
                                              clear n0_ n1_ n2_ n3_ n4_ n5_
                                              clear hb ho63
                                              refine hK.out _ _ trivial (fun hHeld => ?_)
                                              clear hK K
                                              refine norm_ (a' := ?_) ?_ ?_
                                              rotate_left
                                              · show Act.put _ (some 96) _ = _
                                                simp only [Act.put, List.setIfInBounds_toArray, List.set_cons_zero, List.set_cons_succ, i64_w, i32_w]
                                                rfl
                                              refine one_ (i := 4) (N := some 87) #[true, true, true, true, true, true, true, true, true, true, true, true, true, true, false, true, true, true, true, false, false] rfl rfl (one_of HT_.out (by kernel_rfl)) (by decide) (fun K hK => ?_)
                                              refine Kd.R_append_rows_step (Kd.int .i64) (w0 := w) w.heap.size (by rfl) (.tmp 83) (.tmp 86) 22 3 (.int .i64 0) 8 rfl Tryz.underlying22 info3 rfl (by decide) (by omega) v126 y125 (l2.take ((ji29) : Int).toNat) _ _ _ (fun k_ => some k_ ≠ (v105 : Value).ownBlock ∧ some k_ ≠ (.slice Ao55 y115.length co55 : Value).ownBlock ∧ some k_ ≠ (v123 : Value).ownBlock ∧ some k_ ≠ (v133 : Value).ownBlock) (fun _ => False) rfl rfl ?aO ?aR (fun _ _ h => h) (fun _ h => h.elim) ?aF ?aB ?aS ?aL ?_
                                              (case aR => first | (have h_ := (Kd.C_below HR128.out HB.out); rw [show (l2.take ((ji29) : Int).toNat).length = (ji29).toNat from (by rw [List.length_take]; have h_ : ((ji29) : Int) ≤ (l2.length : Int) := of_decide_eq_true (by first | (with_reducible assumption) | assumption); omega)] at h_; repeat (first | exact h_ | (with_reducible refine Kd.C_alloc ?_ _) | (with_reducible refine Kd.C_drewN ?_ _) | (with_reducible refine Kd.C_drew ?_))) | (repeat (first | exact (Kd.C_below HR128.out HB.out) | (with_reducible refine Kd.C_alloc ?_ _) | (with_reducible refine Kd.C_drewN ?_ _) | (with_reducible refine Kd.C_drew ?_))))
                                              (case aB => exact (BK HB.out))
                                              (case aF => exact (fun k_ hk => ⟨Kd.fresh' (Kd.R_lt (RK HO_14.out)) k_ hk, Kd.fresh' (Kd.R_lt (RK HO117.out)) k_ hk, Kd.fresh' (Kd.R_lt (RK HO124.out)) k_ hk, Kd.fresh' (Kd.R_lt (RK HO134.out)) k_ hk⟩))
                                              (case aO => exact (by (with_reducible repeat (first | apply Kd.R_alloc | apply Kd.R_drewN | apply Kd.R_drew)); exact Kd.R_mono HO127.out (fun _ hk => ⟨hk.1.1.1.2, ⟨hk.1.1.2, ⟨hk.1.2, hk.2⟩⟩⟩)))
                                              (case aS => exact (below_size (BK HB.out)))
                                              (case aL => have := LMc38.out; have hlx_ := (show (l2.take ((ji29) : Int).toNat).length = (ji29).toNat from (by rw [List.length_take]; have h_ : ((ji29) : Int) ≤ (l2.length : Int) := of_decide_eq_true (by first | (with_reducible assumption) | assumption); omega)); omega)
                                              intro v130 w64 ho hb hg hat
                                              rw [← Ny129.out] at ho
                                              have n0_ := Aside0.mk (Kd.R_after (ok := (fun k_ => some k_ ≠ (.slice Ao55 y115.length co55 : Value).ownBlock ∧ some k_ ≠ (v123 : Value).ownBlock ∧ some k_ ≠ (v133 : Value).ownBlock)) (by (with_reducible repeat (first | apply Kd.R_alloc | apply Kd.R_drewN | apply Kd.R_drew)); exact Kd.R_mono HO_14.out (fun _ hk => ⟨⟨hk.1.1.1, ⟨hk.1.1.2, hk.2⟩⟩, hk.1.2⟩)) hg hat)
                                              have n1_ := Aside0.mk (Kd.R_after (ok := (fun k_ => some k_ ≠ (v105 : Value).ownBlock ∧ some k_ ≠ (v123 : Value).ownBlock ∧ some k_ ≠ (v133 : Value).ownBlock)) (by (with_reducible repeat (first | apply Kd.R_alloc | apply Kd.R_drewN | apply Kd.R_drew)); exact Kd.R_mono HO117.out (fun _ hk => ⟨⟨hk.1.1.1, ⟨hk.1.1.2, hk.2⟩⟩, hk.1.2⟩)) hg hat)
                                              have n2_ := Aside0.mk (Kd.R_after (ok := (fun k_ => some k_ ≠ (v105 : Value).ownBlock ∧ some k_ ≠ (.slice Ao55 y115.length co55 : Value).ownBlock ∧ some k_ ≠ (v133 : Value).ownBlock)) (by (with_reducible repeat (first | apply Kd.R_alloc | apply Kd.R_drewN | apply Kd.R_drew)); exact Kd.R_mono HO124.out (fun _ hk => ⟨⟨hk.1.1.1, ⟨hk.1.1.2, hk.2⟩⟩, hk.1.2⟩)) hg hat)
                                              have n3_ := Aside0.mk (Kd.R_after (ok := (fun k_ => some k_ ≠ (v105 : Value).ownBlock ∧ some k_ ≠ (.slice Ao55 y115.length co55 : Value).ownBlock ∧ some k_ ≠ (v123 : Value).ownBlock)) (by (with_reducible repeat (first | apply Kd.R_alloc | apply Kd.R_drewN | apply Kd.R_drew)); exact Kd.R_mono HO134.out (fun _ hk => ⟨⟨hk.1.1.1.2, ⟨hk.1.1.2, hk.1.2⟩⟩, hk.2⟩)) hg hat)
                                              have n4_ := Aside0.mk (hb)
                                              have n5_ := Aside0.mk (ho)
                                              clear HO_14
                                              clear HO117
                                              clear HO124
                                              clear HO134
                                              clear HB
                                              clear HO127
                                              have HO_14 := n0_
                                              have HO117 := n1_
                                              have HO124 := n2_
                                              have HO134 := n3_
                                              have HB := n4_
                                              have HO131 := n5_
                                              clear n0_ n1_ n2_ n3_ n4_ n5_
                                              clear ho hb hg hat
                                              refine hK.out _ _ trivial (fun hHeld => ?_)
                                              clear hK K
                                              refine norm_ (a' := ?_) ?_ ?_
                                              rotate_left
                                              · show Act.put _ (some 87) _ = _
                                                simp only [Act.put, List.setIfInBounds_toArray, List.set_cons_zero, List.set_cons_succ, i64_w, i32_w]
                                                rfl
                                              exact norm_ (by simp only [putAll, Act.put, List.setIfInBounds_toArray, List.set_cons_zero, List.set_cons_succ]) (hCont (v126, v130, v133) _ ⟨(by (with_reducible repeat (first | apply Kd.R_alloc | apply Kd.R_drewN | apply Kd.R_drew)); exact Kd.R_mono HO117.out (fun _ hk => ⟨hk.1.2.1, ⟨hk.2, ⟨hk.1.2.2, hk.1.1⟩⟩⟩)), (by (with_reducible repeat (first | apply Kd.R_alloc | apply Kd.R_drewN | apply Kd.R_drew)); exact Kd.R_mono HO124.out (fun _ hk => ⟨hk.1.2.1, ⟨hk.2, ⟨hk.1.2.2, hk.1.1⟩⟩⟩)), (by (with_reducible repeat (first | apply Kd.R_alloc | apply Kd.R_drewN | apply Kd.R_drew)); exact Kd.R_mono HO131.out (fun _ hk => ⟨hk.2.1, ⟨hk.2.2.1, ⟨hk.2.2.2, hk.1⟩⟩⟩)), (by (with_reducible repeat (first | apply Kd.R_alloc | apply Kd.R_drewN | apply Kd.R_drew)); exact Kd.R_mono HO134.out (fun _ hk => ⟨hk.1.2.1, ⟨hk.1.2.2, ⟨hk.2, hk.1.1⟩⟩⟩)), (by (with_reducible repeat (first | apply Kd.R_alloc | apply Kd.R_drewN | apply Kd.R_drew)); exact Kd.R_mono HO_14.out (fun _ hk => ⟨hk.1.1, ⟨hk.1.2.1, ⟨hk.2, hk.1.2.2⟩⟩⟩)), (BK HB.out)⟩)
                                          · skip
                                            refine Kd.R_lit_step (Kd.int .i64) _ 3 ?hg (N := 96) ?hd (xs := ([wrap64 (1 + (Int.tmod (wrap64 (a4)) 10000)), wrap64 (1 + (Int.tmod (wrap64 (a5)) 10000))] : List Int)) (inner := [.int .i64 (wrap64 (1 + (Int.tmod (wrap64 (a4)) 10000))), .int .i64 (wrap64 (1 + (Int.tmod (wrap64 (a5)) 10000)))]) (ok := fun _ => True) (okp := fun _ => True) ?hr ?hp (fun _ hk => hk) trivial (Below.refl _ _) (Nat.le_refl _) (by simp) ?_; (case hd => rfl); (case hg => rfl); (case hr => first | (go_simp; done) | (go_simp; rfl)); (case hp => exact (Reps.one (show Kd.M (Kd.int .i64) _ _ _ (wrap64 (1 + (Int.tmod (wrap64 (a4)) 10000))) [.int .i64 (wrap64 (1 + (Int.tmod (wrap64 (a4)) 10000)))] from rfl) (Reps.one (show Kd.M (Kd.int .i64) _ _ _ (wrap64 (1 + (Int.tmod (wrap64 (a5)) 10000))) [.int .i64 (wrap64 (1 + (Int.tmod (wrap64 (a5)) 10000)))] from rfl) (Reps.none _ _))))
                                            intro v133 w60 ho61 hb hg_ hnew_
                                            clear hg_ hnew_
                                            (first | rw [← Ny132.out] at ho61 | (simp only [Int.reduceToNat] at ho61; rw [← Ny132.out] at ho61))
                                            have n0_ := Aside0.mk (Kd.R_elder' (RK HO_14.out) (Kd.R_base ho61) hb)
                                            have n1_ := Aside0.mk (Kd.R_elder' (RK HO117.out) (Kd.R_base ho61) hb)
                                            have n2_ := Aside0.mk (Kd.R_elder' (RK HO124.out) (Kd.R_base ho61) hb)
                                            have n3_ := Aside0.mk (Kd.R_lower (Kd.R_new' (Kd.R_new' (Kd.R_new' ho61 (Kd.R_lt (RK HO_14.out))) (Kd.R_lt (RK HO117.out))) (Kd.R_lt (RK HO124.out))) (below_size (BK HB.out)))
                                            have n4_ := Aside0.mk (below_step (BK HB.out) hb)
                                            clear HO_14
                                            clear HO117
                                            clear HO124
                                            clear HB
                                            have HO_14 := n0_
                                            have HO117 := n1_
                                            have HO124 := n2_
                                            have HO134 := n3_
                                            have HB := n4_
                                            clear n0_ n1_ n2_ n3_ n4_
                                            clear hb ho61
                                            refine hK.out _ _ trivial (fun hHeld => ?_)
                                            clear hK K
                                            refine norm_ (a' := ?_) ?_ ?_
                                            rotate_left
                                            · show Act.put _ (some 96) _ = _
                                              simp only [Act.put, List.setIfInBounds_toArray, List.set_cons_zero, List.set_cons_succ, i64_w, i32_w]
                                              rfl
                                            refine one_ (i := 0) (N := some 83) #[true, true, true, true, false, true, true, true, true, true, true, true, true, true, false, true, true, true, true, false, false] rfl rfl (one_of HT_.out (by kernel_rfl)) (by decide) (fun K hK => ?_)
                                            refine Kd.R_lit_step (Kd.int .i64) _ 3 ?hg (N := 83) ?hd (xs := ([] : List Int)) (inner := []) (ok := fun _ => True) (okp := fun _ => True) ?hr ?hp (fun _ hk => hk) trivial (Below.refl _ _) (Nat.le_refl _) (by simp) ?_; (case hd => rfl); (case hg => rfl); (case hr => first | (go_simp; done) | (go_simp; rfl)); (case hp => exact (Reps.none _ _))
                                            intro v126 w62 ho63 hb hg_ hnew_
                                            clear hg_ hnew_
                                            (first | rw [← Ny125.out] at ho63 | (simp only [Int.reduceToNat] at ho63; rw [← Ny125.out] at ho63))
                                            have n0_ := Aside0.mk (Kd.R_elder' (RK HO_14.out) (Kd.R_base ho63) hb)
                                            have n1_ := Aside0.mk (Kd.R_elder' (RK HO117.out) (Kd.R_base ho63) hb)
                                            have n2_ := Aside0.mk (Kd.R_elder' (RK HO124.out) (Kd.R_base ho63) hb)
                                            have n3_ := Aside0.mk (Kd.R_elder' (RK HO134.out) (Kd.R_base ho63) hb)
                                            have n4_ := Aside0.mk (Kd.R_lower (Kd.R_new' (Kd.R_new' (Kd.R_new' (Kd.R_new' ho63 (Kd.R_lt (RK HO_14.out))) (Kd.R_lt (RK HO117.out))) (Kd.R_lt (RK HO124.out))) (Kd.R_lt (RK HO134.out))) (below_size (BK HB.out)))
                                            have n5_ := Aside0.mk (below_step (BK HB.out) hb)
                                            clear HO_14
                                            clear HO117
                                            clear HO124
                                            clear HO134
                                            clear HB
                                            have HO_14 := n0_
                                            have HO117 := n1_
                                            have HO124 := n2_
                                            have HO134 := n3_
                                            have HO127 := n4_
                                            have HB := n5_
                                            clear n0_ n1_ n2_ n3_ n4_ n5_
                                            clear hb ho63
                                            refine hK.out _ _ trivial (fun hHeld => ?_)
                                            clear hK K
                                            refine norm_ (a' := ?_) ?_ ?_
                                            rotate_left
                                            · show Act.put _ (some 83) _ = _
                                              simp only [Act.put, List.setIfInBounds_toArray, List.set_cons_zero, List.set_cons_succ, i64_w, i32_w]
                                              rfl
                                            refine one_ (i := 4) (N := some 87) #[true, true, true, true, true, true, true, true, true, true, true, true, true, true, false, true, true, true, true, false, false] rfl rfl (one_of HT_.out (by kernel_rfl)) (by decide) (fun K hK => ?_)
                                            refine Kd.R_append_rows_step (Kd.int .i64) (w0 := w) w.heap.size (by rfl) (.tmp 83) (.tmp 86) 22 3 (.int .i64 0) 8 rfl Tryz.underlying22 info3 rfl (by decide) (by omega) v126 y125 (l2.take ((ji29) : Int).toNat) _ _ _ (fun k_ => some k_ ≠ (v105 : Value).ownBlock ∧ some k_ ≠ (.slice Ao55 y115.length co55 : Value).ownBlock ∧ some k_ ≠ (v123 : Value).ownBlock ∧ some k_ ≠ (v133 : Value).ownBlock) (fun _ => False) rfl rfl ?aO ?aR (fun _ _ h => h) (fun _ h => h.elim) ?aF ?aB ?aS ?aL ?_
                                            (case aR => first | (have h_ := (Kd.C_below HR128.out HB.out); rw [show (l2.take ((ji29) : Int).toNat).length = (ji29).toNat from (by rw [List.length_take]; have h_ : ((ji29) : Int) ≤ (l2.length : Int) := of_decide_eq_true (by first | (with_reducible assumption) | assumption); omega)] at h_; repeat (first | exact h_ | (with_reducible refine Kd.C_alloc ?_ _) | (with_reducible refine Kd.C_drewN ?_ _) | (with_reducible refine Kd.C_drew ?_))) | (repeat (first | exact (Kd.C_below HR128.out HB.out) | (with_reducible refine Kd.C_alloc ?_ _) | (with_reducible refine Kd.C_drewN ?_ _) | (with_reducible refine Kd.C_drew ?_))))
                                            (case aB => exact (BK HB.out))
                                            (case aF => exact (fun k_ hk => ⟨Kd.fresh' (Kd.R_lt (RK HO_14.out)) k_ hk, Kd.fresh' (Kd.R_lt (RK HO117.out)) k_ hk, Kd.fresh' (Kd.R_lt (RK HO124.out)) k_ hk, Kd.fresh' (Kd.R_lt (RK HO134.out)) k_ hk⟩))
                                            (case aO => exact (by (with_reducible repeat (first | apply Kd.R_alloc | apply Kd.R_drewN | apply Kd.R_drew)); exact Kd.R_mono HO127.out (fun _ hk => ⟨hk.1.1.1.2, ⟨hk.1.1.2, ⟨hk.1.2, hk.2⟩⟩⟩)))
                                            (case aS => exact (below_size (BK HB.out)))
                                            (case aL => have := LMc38.out; have hlx_ := (show (l2.take ((ji29) : Int).toNat).length = (ji29).toNat from (by rw [List.length_take]; have h_ : ((ji29) : Int) ≤ (l2.length : Int) := of_decide_eq_true (by first | (with_reducible assumption) | assumption); omega)); omega)
                                            intro v130 w64 ho hb hg hat
                                            rw [← Ny129.out] at ho
                                            have n0_ := Aside0.mk (Kd.R_after (ok := (fun k_ => some k_ ≠ (.slice Ao55 y115.length co55 : Value).ownBlock ∧ some k_ ≠ (v123 : Value).ownBlock ∧ some k_ ≠ (v133 : Value).ownBlock)) (by (with_reducible repeat (first | apply Kd.R_alloc | apply Kd.R_drewN | apply Kd.R_drew)); exact Kd.R_mono HO_14.out (fun _ hk => ⟨⟨hk.1.1.1, ⟨hk.1.1.2, hk.1.2⟩⟩, hk.2⟩)) hg hat)
                                            have n1_ := Aside0.mk (Kd.R_after (ok := (fun k_ => some k_ ≠ (v105 : Value).ownBlock ∧ some k_ ≠ (v123 : Value).ownBlock ∧ some k_ ≠ (v133 : Value).ownBlock)) (by (with_reducible repeat (first | apply Kd.R_alloc | apply Kd.R_drewN | apply Kd.R_drew)); exact Kd.R_mono HO117.out (fun _ hk => ⟨⟨hk.1.1.1, ⟨hk.1.1.2, hk.1.2⟩⟩, hk.2⟩)) hg hat)
                                            have n2_ := Aside0.mk (Kd.R_after (ok := (fun k_ => some k_ ≠ (v105 : Value).ownBlock ∧ some k_ ≠ (.slice Ao55 y115.length co55 : Value).ownBlock ∧ some k_ ≠ (v133 : Value).ownBlock)) (by (with_reducible repeat (first | apply Kd.R_alloc | apply Kd.R_drewN | apply Kd.R_drew)); exact Kd.R_mono HO124.out (fun _ hk => ⟨⟨hk.1.1.1, ⟨hk.1.1.2, hk.1.2⟩⟩, hk.2⟩)) hg hat)
                                            have n3_ := Aside0.mk (Kd.R_after (ok := (fun k_ => some k_ ≠ (v105 : Value).ownBlock ∧ some k_ ≠ (.slice Ao55 y115.length co55 : Value).ownBlock ∧ some k_ ≠ (v123 : Value).ownBlock)) (by (with_reducible repeat (first | apply Kd.R_alloc | apply Kd.R_drewN | apply Kd.R_drew)); exact Kd.R_mono HO134.out (fun _ hk => ⟨⟨hk.1.1.1.2, ⟨hk.1.1.2, hk.1.2⟩⟩, hk.2⟩)) hg hat)
                                            have n4_ := Aside0.mk (hb)
                                            have n5_ := Aside0.mk (ho)
                                            clear HO_14
                                            clear HO117
                                            clear HO124
                                            clear HO134
                                            clear HB
                                            clear HO127
                                            have HO_14 := n0_
                                            have HO117 := n1_
                                            have HO124 := n2_
                                            have HO134 := n3_
                                            have HB := n4_
                                            have HO131 := n5_
                                            clear n0_ n1_ n2_ n3_ n4_ n5_
                                            clear ho hb hg hat
                                            refine hK.out _ _ trivial (fun hHeld => ?_)
                                            clear hK K
                                            refine norm_ (a' := ?_) ?_ ?_
                                            rotate_left
                                            · show Act.put _ (some 87) _ = _
                                              simp only [Act.put, List.setIfInBounds_toArray, List.set_cons_zero, List.set_cons_succ, i64_w, i32_w]
                                              rfl
                                            exact norm_ (by simp only [putAll, Act.put, List.setIfInBounds_toArray, List.set_cons_zero, List.set_cons_succ]) (hCont (v126, v130, v133) _ ⟨(by (with_reducible repeat (first | apply Kd.R_alloc | apply Kd.R_drewN | apply Kd.R_drew)); exact Kd.R_mono HO117.out (fun _ hk => ⟨hk.1.2.1, ⟨hk.2, ⟨hk.1.2.2, hk.1.1⟩⟩⟩)), (by (with_reducible repeat (first | apply Kd.R_alloc | apply Kd.R_drewN | apply Kd.R_drew)); exact Kd.R_mono HO124.out (fun _ hk => ⟨hk.1.2.1, ⟨hk.2, ⟨hk.1.2.2, hk.1.1⟩⟩⟩)), (by (with_reducible repeat (first | apply Kd.R_alloc | apply Kd.R_drewN | apply Kd.R_drew)); exact Kd.R_mono HO131.out (fun _ hk => ⟨hk.2.1, ⟨hk.2.2.1, ⟨hk.2.2.2, hk.1⟩⟩⟩)), (by (with_reducible repeat (first | apply Kd.R_alloc | apply Kd.R_drewN | apply Kd.R_drew)); exact Kd.R_mono HO134.out (fun _ hk => ⟨hk.1.2.1, ⟨hk.1.2.2, ⟨hk.2, hk.1.1⟩⟩⟩)), (by (with_reducible repeat (first | apply Kd.R_alloc | apply Kd.R_drewN | apply Kd.R_drew)); exact Kd.R_mono HO_14.out (fun _ hk => ⟨hk.1.1, ⟨hk.1.2.1, ⟨hk.2, hk.1.2.2⟩⟩⟩)), (BK HB.out)⟩)
                                        rintro ⟨v126, v130, v133⟩ w65 ⟨h0_, h1_, h2_, h3_, h4_, h5_⟩
                                        have n0_ : Aside0 (Kd.R (Kd.int .i64) 3 w65 w.heap.size (fun k_ => some k_ ≠ (v123 : Value).ownBlock ∧ some k_ ≠ (v130 : Value).ownBlock ∧ some k_ ≠ (v133 : Value).ownBlock ∧ some k_ ≠ (v105 : Value).ownBlock) (.slice Ao55 y115.length co55) y115) := ⟨h0_⟩
                                        have n1_ : Aside0 (Kd.R (Kd.int .i64) 3 w65 w.heap.size (fun k_ => some k_ ≠ (.slice Ao55 y115.length co55 : Value).ownBlock ∧ some k_ ≠ (v130 : Value).ownBlock ∧ some k_ ≠ (v133 : Value).ownBlock ∧ some k_ ≠ (v105 : Value).ownBlock) v123 y122) := ⟨h1_⟩
                                        have n2_ : Aside0 (Kd.R (Kd.int .i64) 3 w65 w.heap.size (fun k_ => some k_ ≠ (.slice Ao55 y115.length co55 : Value).ownBlock ∧ some k_ ≠ (v123 : Value).ownBlock ∧ some k_ ≠ (v133 : Value).ownBlock ∧ some k_ ≠ (v105 : Value).ownBlock) v130 y129) := ⟨h2_⟩
                                        have n3_ : Aside0 (Kd.R (Kd.int .i64) 3 w65 w.heap.size (fun k_ => some k_ ≠ (.slice Ao55 y115.length co55 : Value).ownBlock ∧ some k_ ≠ (v123 : Value).ownBlock ∧ some k_ ≠ (v130 : Value).ownBlock ∧ some k_ ≠ (v105 : Value).ownBlock) v133 y132) := ⟨h3_⟩
                                        have n4_ : Aside0 (Kd.R (Kd.int .i64) 3 w65 w.heap.size (fun k_ => some k_ ≠ (.slice Ao55 y115.length co55 : Value).ownBlock ∧ some k_ ≠ (v123 : Value).ownBlock ∧ some k_ ≠ (v130 : Value).ownBlock ∧ some k_ ≠ (v133 : Value).ownBlock) v105 t103) := ⟨h4_⟩
                                        have n5_ : Aside0 (Below w.heap.size w w65) := ⟨h5_⟩
                                        clear HO_14
                                        clear HO117
                                        clear HO124
                                        clear HB
                                        clear h0_ h1_ h2_ h3_ h4_ h5_
                                        have HO117 := n0_
                                        have HO124 := n1_
                                        have HO131 := n2_
                                        have HO134 := n3_
                                        have HO_14 := n4_
                                        have HB := n5_
                                        clear n0_ n1_ n2_ n3_ n4_ n5_
                                        have hHeld := trivial
                                        obtain ⟨Ao67, co67, eo67⟩ := Kd.R_slice HO134.out
                                        (first | subst eo67 | (injection eo67 with f1_ f2_ f3_; have f4_ := f1_.symm; have f5_ := f3_.symm; clear f1_ f2_ f3_; subst f4_; subst f5_))
                                        refine norm_ (a' := ?_) ?_ ?_
                                        rotate_left
                                        · simp only [putAll, Act.put, List.setIfInBounds_toArray, List.set_cons_zero, List.set_cons_succ]
                                          rfl
                                        refine one_ (i := 14) (N := some 97) #[true, true, true, true, true, true, true, true, true, true, true, true, true, true, true, true, true, true, true, false, false] rfl rfl (one_of HT_.out (by kernel_rfl)) (by decide) (fun K hK => ?_)
                                        refine Kd.R_append_rows_step (Kd.int .i64) (w0 := w) w.heap.size (by rfl) (.tmp 87) (.tmp 96) 22 3 (.int .i64 0) 8 rfl Tryz.underlying22 info3 rfl (by decide) (by omega) v130 y129 y132 _ _ _ (fun k_ => some k_ ≠ (v105 : Value).ownBlock ∧ some k_ ≠ (.slice Ao55 y115.length co55 : Value).ownBlock ∧ some k_ ≠ (v123 : Value).ownBlock ∧ some k_ ≠ (.slice Ao67 y132.length co67 : Value).ownBlock) (fun _ => False) rfl rfl ?aO ?aR (fun _ _ h => h) (fun _ h => h.elim) ?aF ?aB ?aS ?aL ?_
                                        (case aR => exact CK (Kd.R_reads' HO134.out).2.2)
                                        (case aB => exact (BK HB.out))
                                        (case aF => exact (fun k_ hk => ⟨Kd.fresh' (Kd.R_lt (RK HO_14.out)) k_ hk, Kd.fresh' (Kd.R_lt (RK HO117.out)) k_ hk, Kd.fresh' (Kd.R_lt (RK HO124.out)) k_ hk, Kd.fresh' (Kd.R_lt (RK HO134.out)) k_ hk⟩))
                                        (case aO => exact (by (with_reducible repeat (first | apply Kd.R_alloc | apply Kd.R_drewN | apply Kd.R_drew)); exact Kd.R_mono HO131.out (fun _ hk => ⟨hk.2.2.2, ⟨hk.1, ⟨hk.2.1, hk.2.2.1⟩⟩⟩)))
                                        (case aS => exact (below_size (BK HB.out)))
                                        (case aL => have := LMc39.out; omega)
                                        intro v136 w66 ho hb hg hat
                                        rw [← Ny135.out] at ho
                                        have n0_ := Aside0.mk (Kd.R_after (ok := (fun k_ => some k_ ≠ (.slice Ao55 y115.length co55 : Value).ownBlock ∧ some k_ ≠ (v123 : Value).ownBlock ∧ some k_ ≠ (.slice Ao67 y132.length co67 : Value).ownBlock)) (by (with_reducible repeat (first | apply Kd.R_alloc | apply Kd.R_drewN | apply Kd.R_drew)); exact Kd.R_mono HO_14.out (fun _ hk => ⟨⟨hk.1, ⟨hk.2.1, hk.2.2.2⟩⟩, hk.2.2.1⟩)) hg hat)
                                        have n1_ := Aside0.mk (Kd.R_after (ok := (fun k_ => some k_ ≠ (v105 : Value).ownBlock ∧ some k_ ≠ (v123 : Value).ownBlock ∧ some k_ ≠ (.slice Ao67 y132.length co67 : Value).ownBlock)) (by (with_reducible repeat (first | apply Kd.R_alloc | apply Kd.R_drewN | apply Kd.R_drew)); exact Kd.R_mono HO117.out (fun _ hk => ⟨⟨hk.2.2.2, ⟨hk.1, hk.2.2.1⟩⟩, hk.2.1⟩)) hg hat)
                                        have n2_ := Aside0.mk (Kd.R_after (ok := (fun k_ => some k_ ≠ (v105 : Value).ownBlock ∧ some k_ ≠ (.slice Ao55 y115.length co55 : Value).ownBlock ∧ some k_ ≠ (.slice Ao67 y132.length co67 : Value).ownBlock)) (by (with_reducible repeat (first | apply Kd.R_alloc | apply Kd.R_drewN | apply Kd.R_drew)); exact Kd.R_mono HO124.out (fun _ hk => ⟨⟨hk.2.2.2, ⟨hk.1, hk.2.2.1⟩⟩, hk.2.1⟩)) hg hat)
                                        have n3_ := Aside0.mk (Kd.R_after (ok := (fun k_ => some k_ ≠ (v105 : Value).ownBlock ∧ some k_ ≠ (.slice Ao55 y115.length co55 : Value).ownBlock ∧ some k_ ≠ (v123 : Value).ownBlock)) (by (with_reducible repeat (first | apply Kd.R_alloc | apply Kd.R_drewN | apply Kd.R_drew)); exact Kd.R_mono HO134.out (fun _ hk => ⟨⟨hk.2.2.2, ⟨hk.1, hk.2.1⟩⟩, hk.2.2.1⟩)) hg hat)
                                        have n4_ := Aside0.mk (hb)
                                        have n5_ := Aside0.mk (ho)
                                        clear HO_14
                                        clear HO117
                                        clear HO124
                                        clear HO134
                                        clear HB
                                        clear HO131
                                        have HO_14 := n0_
                                        have HO117 := n1_
                                        have HO124 := n2_
                                        have HO134 := n3_
                                        have HB := n4_
                                        have HO137 := n5_
                                        clear n0_ n1_ n2_ n3_ n4_ n5_
                                        clear ho hb hg hat
                                        refine hK.out _ _ trivial (fun hHeld => ?_)
                                        clear hK K
                                        refine norm_ (a' := ?_) ?_ ?_
                                        rotate_left
                                        · show Act.put _ (some 97) _ = _
                                          simp only [Act.put, List.setIfInBounds_toArray, List.set_cons_zero, List.set_cons_succ, i64_w, i32_w]
                                          rfl
                                        refine one_ (i := 19) (N := some 102) #[true, true, true, true, true, true, true, true, true, true, true, true, true, true, true, true, true, true, true, true, false] rfl rfl (one_of HT_.out (by kernel_rfl)) (by decide) (fun K hK => ?_)
                                        refine Kd.R_append_rows_step (Kd.int .i64) (w0 := w) w.heap.size (by rfl) (.tmp 97) (.tmp 101) 22 3 (.int .i64 0) 8 rfl Tryz.underlying22 info3 rfl (by decide) (by omega) v136 y135 (l2.drop ((wrap64 (ji29 + 1)) : Int).toNat) _ _ _ (fun k_ => some k_ ≠ (v105 : Value).ownBlock ∧ some k_ ≠ (.slice Ao55 y115.length co55 : Value).ownBlock ∧ some k_ ≠ (v123 : Value).ownBlock ∧ some k_ ≠ (.slice Ao67 y132.length co67 : Value).ownBlock) (fun _ => False) rfl rfl ?aO ?aR (fun _ _ h => h) (fun _ h => h.elim) ?aF ?aB ?aS ?aL ?_
                                        (case aR => first | (rw [← show (l2.drop ((wrap64 (ji29 + 1)) : Int).toNat).length = (l2.length - (wrap64 (ji29 + 1)).toNat) from List.length_drop]; repeat (first | exact (Kd.C_below HR138.out HB.out) | (with_reducible refine Kd.C_alloc ?_ _) | (with_reducible refine Kd.C_drewN ?_ _) | (with_reducible refine Kd.C_drew ?_))) | (repeat (first | exact (Kd.C_below HR138.out HB.out) | (with_reducible refine Kd.C_alloc ?_ _) | (with_reducible refine Kd.C_drewN ?_ _) | (with_reducible refine Kd.C_drew ?_))))
                                        (case aB => exact (BK HB.out))
                                        (case aF => exact (fun k_ hk => ⟨Kd.fresh' (Kd.R_lt (RK HO_14.out)) k_ hk, Kd.fresh' (Kd.R_lt (RK HO117.out)) k_ hk, Kd.fresh' (Kd.R_lt (RK HO124.out)) k_ hk, Kd.fresh' (Kd.R_lt (RK HO134.out)) k_ hk⟩))
                                        (case aO => exact (RK HO137.out))
                                        (case aS => exact (below_size (BK HB.out)))
                                        (case aL => have := LMc42.out; have hlx_ := (show (l2.drop ((wrap64 (ji29 + 1)) : Int).toNat).length = (l2.length - (wrap64 (ji29 + 1)).toNat) from List.length_drop); omega)
                                        intro v140 w68 ho hb hg hat
                                        rw [← Ny139.out] at ho
                                        have n0_ := Aside0.mk (Kd.R_after (ok := (fun k_ => some k_ ≠ (.slice Ao55 y115.length co55 : Value).ownBlock ∧ some k_ ≠ (v123 : Value).ownBlock ∧ some k_ ≠ (.slice Ao67 y132.length co67 : Value).ownBlock)) (RK HO_14.out) hg hat)
                                        have n1_ := Aside0.mk (Kd.R_after (ok := (fun k_ => some k_ ≠ (v105 : Value).ownBlock ∧ some k_ ≠ (v123 : Value).ownBlock ∧ some k_ ≠ (.slice Ao67 y132.length co67 : Value).ownBlock)) (RK HO117.out) hg hat)
                                        have n2_ := Aside0.mk (Kd.R_after (ok := (fun k_ => some k_ ≠ (v105 : Value).ownBlock ∧ some k_ ≠ (.slice Ao55 y115.length co55 : Value).ownBlock ∧ some k_ ≠ (.slice Ao67 y132.length co67 : Value).ownBlock)) (RK HO124.out) hg hat)
                                        have n3_ := Aside0.mk (Kd.R_after (ok := (fun k_ => some k_ ≠ (v105 : Value).ownBlock ∧ some k_ ≠ (.slice Ao55 y115.length co55 : Value).ownBlock ∧ some k_ ≠ (v123 : Value).ownBlock)) (RK HO134.out) hg hat)
                                        have n4_ := Aside0.mk (hb)
                                        have n5_ := Aside0.mk (ho)
                                        clear HO_14
                                        clear HO117
                                        clear HO124
                                        clear HO134
                                        clear HB
                                        clear HO137
                                        have HO_14 := n0_
                                        have HO117 := n1_
                                        have HO124 := n2_
                                        have HO134 := n3_
                                        have HB := n4_
                                        have HO141 := n5_
                                        clear n0_ n1_ n2_ n3_ n4_ n5_
                                        clear ho hb hg hat
                                        refine hK.out _ _ trivial (fun hHeld => ?_)
                                        clear hK K
                                        refine norm_ (a' := ?_) ?_ ?_
                                        rotate_left
                                        · show Act.put _ (some 102) _ = _
                                          simp only [Act.put, List.setIfInBounds_toArray, List.set_cons_zero, List.set_cons_succ, i64_w, i32_w]
                                          rfl
                                        refine pure_ (i := 20) (N := some 18) (v := ?_) (a' := ?_) #[true, true, true, true, true, true, true, true, true, true, true, true, true, true, true, true, true, true, true, true, true] rfl rfl (any_of HT_.out (by kernel_rfl)) (fun _ _ _ h => h) (Or.inl ⟨by rfl, ?_⟩) ?_ ?_
                                        rotate_left
                                        · intro w'
                                          go_simp
                                          with_reducible rfl
                                        rotate_left
                                        · simp only [Act.put, List.setIfInBounds_toArray, List.set_cons_zero, List.set_cons_succ, i64_w, i32_w]
                                          rfl
                                        refine done_ (done_of HT_.out (by kernel_rfl)) ?_
                                        obtain ⟨Ao69, co69, eo69⟩ := Kd.R_slice HO124.out
                                        subst eo69
                                        obtain ⟨Ao70, co70, eo70⟩ := Kd.R_slice HO141.out
                                        subst eo70
                                        go_upto_region 11 with (first | ((with_reducible refine gate_callee (f := 12) rfl ?_); refine goesL_ (some 107) rfl rfl Tryz.func12 (by kernel_rfl) rfl #[.slice A0 l0.length c0, .slice Ao69 y122.length co69, .slice Ao70 y139.length co70] rfl (by (try simp only [List.map_toArray, List.map_cons, List.map_nil]); first | done | rfl | (simp only [List.length_drop, List.length_take]; rfl)) ?_; (with_reducible refine (lottery_Tickets.calls _ _ l0 _ _ y122 _ _ y139 t142 t143 _ ?side1 ?side2 ?side3 ?side4 ?side5 ?side6 A43.out).mono ?_); (case side1 => repeat (first | exact (Kd.C_below HR0.out HB.out) | (with_reducible refine Kd.C_alloc ?_ _) | (with_reducible refine Kd.C_drewN ?_ _) | (with_reducible refine Kd.C_drew ?_))); (case side2 => exact HC0.out); (case side3 => exact CK (Kd.R_reads' HO124.out).2.2); (case side4 => exact (Kd.R_reads' HO124.out).2.1); (case side5 => exact CK (Kd.R_reads' HO141.out).2.2); (case side6 => exact (Kd.R_reads' HO141.out).2.1); rintro e w71 ⟨v144, rfl, ho0, hb⟩; refine ⟨_, rfl, ?_⟩; have n0_ := Aside0.mk (Kd.R_elder' (RK HO_14.out) (Kd.R_base ho0) hb); have n1_ := Aside0.mk (Kd.R_elder' (RK HO117.out) (Kd.R_base ho0) hb); have n2_ := Aside0.mk (Kd.R_elder' (RK HO124.out) (Kd.R_base ho0) hb); have n3_ := Aside0.mk (Kd.R_elder' (RK HO134.out) (Kd.R_base ho0) hb); have n4_ := Aside0.mk (Kd.R_elder' (RK HO141.out) (Kd.R_base ho0) hb); have n5_ := Aside0.mk (Kd.R_lower (Kd.R_new' (Kd.R_new' (Kd.R_new' (Kd.R_new' (Kd.R_new' ho0 (Kd.R_lt (RK HO_14.out))) (Kd.R_lt (RK HO117.out))) (Kd.R_lt (RK HO124.out))) (Kd.R_lt (RK HO134.out))) (Kd.R_lt (RK HO141.out))) (below_size (BK HB.out))); have n6_ := Aside0.mk (below_step (BK HB.out) hb); clear HO_14; clear HO117; clear HO124; clear HO134; clear HO141; clear HB; have HO_14 := n0_; have HO117 := n1_; have HO124 := n2_; have HO134 := n3_; have HO141 := n4_; have HO145 := n5_; have HB := n6_; clear n0_ n1_ n2_ n3_ n4_ n5_ n6_; (try clear hb); (try clear hb2); (try clear hk); (try clear hi); (try clear ho0)))
                                        (try simp only [Act.put, List.setIfInBounds_toArray, List.set_cons_zero, List.set_cons_succ])
                                        go_cut [119] (fun v119 wc => ∃ (kq : Nat) (x119_43 : Bool), v119 = .bool x119_43 ∧ Aside0 (observatorylaw29_LotterySplits.j2 kq l1 t101 t103 ji29 t142 x119_43 = some r) ∧ Aside0 (kq ≤ kj17) ∧ Aside0 (Kd.R (Kd.int .i64) 3 wc w.heap.size (fun k_ => some k_ ≠ (v144 : Value).ownBlock) v105 t103) ∧ Aside0 (Kd.R (Kd.int .i64) 3 wc w.heap.size (fun k_ => some k_ ≠ (v105 : Value).ownBlock) v144 t142) ∧ Aside0 (Below w.heap.size w wc))
                                        case first =>
                                          have H := HC44.out
                                          clear HC44
                                          by_cases c72 : t143 = 0
                                          · rw [if_pos c72] at H
                                            have c72b0 : (t143 == 0) = true := beq_iff_eq.mpr c72
                                            have c72b1 : (t143 != 0) = false := bne_eq_false_iff_eq.mpr c72
                                            clear c72
                                            (first | rw [c72b0] | (simp only [i64_w, i32_w]; rw [c72b0]) | skip)
                                            have H' := Aside0.mk H
                                            clear H
                                            obtain ⟨Ao73, co73, eo73⟩ := Kd.R_slice HO145.out
                                            subst eo73
                                            obtain ⟨Ao74, co74, eo74⟩ := Kd.R_slice HO_14.out
                                            subst eo74
                                            go_wp2
                                            go_meet
                                            case rel => exact ⟨_, (((t142.length : Int) != (wrap64 ((t103.length : Int) + 1)))), (by first | rfl | (simp; done) | (simp [*]; done)), H', ⟨by have := HJ7.out; have := HJ17.out; first | omega | exact Nat.le_refl _⟩, ⟨by (with_reducible repeat (first | apply Kd.R_alloc | apply Kd.R_drewN | apply Kd.R_drew)); exact Kd.R_mono HO_14.out (fun _ hk => hk.2)⟩, ⟨by (with_reducible repeat (first | apply Kd.R_alloc | apply Kd.R_drewN | apply Kd.R_drew)); exact Kd.R_mono HO145.out (fun _ hk => hk.1.1.1.1.2)⟩, ⟨by repeat (first | (with_reducible first | exact HB.out | apply below_alloc | apply pw_below_drewN | apply below_drew1) | exact HB.out)⟩⟩
                                          · rw [if_neg c72] at H
                                            have c72b0 : (t143 == 0) = false := beq_eq_false_iff_ne.mpr c72
                                            have c72b1 : (t143 != 0) = true := bne_iff_ne.mpr c72
                                            (first | rw [c72b0] | (simp only [i64_w, i32_w]; rw [c72b0]) | skip)
                                            have H' := Aside0.mk H
                                            clear H
                                            go_wp2
                                            go_meet
                                            case rel => exact ⟨_, (true), (by first | rfl | (simp; done) | (simp [*]; done)), H', ⟨by have := HJ7.out; have := HJ17.out; first | omega | exact Nat.le_refl _⟩, ⟨by (with_reducible repeat (first | apply Kd.R_alloc | apply Kd.R_drewN | apply Kd.R_drew)); exact Kd.R_mono HO_14.out (fun _ hk => hk.2)⟩, ⟨by (with_reducible repeat (first | apply Kd.R_alloc | apply Kd.R_drewN | apply Kd.R_drew)); exact Kd.R_mono HO145.out (fun _ hk => hk.1.1.1.1.2)⟩, ⟨by repeat (first | (with_reducible first | exact HB.out | apply below_alloc | apply pw_below_drewN | apply below_drew1) | exact HB.out)⟩⟩
                                        case rest =>
                                          clear HC44
                                          try clear c1
                                          try clear c2
                                          try clear p2
                                          try clear c3
                                          try clear c4
                                          try clear p6
                                          try clear c7
                                          try clear c12
                                          try clear c35
                                          try clear c38
                                          try clear c39
                                          try clear c42
                                          try clear p64
                                          try clear c72
                                          try clear c72b0
                                          try clear c72b1
                                          obtain ⟨kq, x119_43, rfl, HA, HJ43, HO_14, HO_19, HB⟩ := hcut
                                          cases kq with
                                          | zero => exact absurd HA.out (by simp [observatorylaw29_LotterySplits.j2])
                                          | succ kj43 =>
                                            have H := HA.out
                                            clear HA
                                            simp only [observatorylaw29_LotterySplits.j2] at H
                                            by_cases c75 : x119_43 = true
                                            · subst c75
                                              rw [if_pos rfl] at H
                                              exact absurd H (by simp)
                                            · replace c75 := Bool.eq_false_iff.mpr c75
                                              subst c75
                                              have H1 : (observatorylaw29_LotterySplits.l0 kj43 l1 t101 t103 ji29 t142 0) = some r := by rw [if_neg (show ¬ (false = true) by decide)] at H; exact H
                                              clear H
                                              have H := H1
                                              clear H1
                                              have H' := Aside0.mk H
                                              clear H
                                              go_wp2
                                              go_loopg [21] kj43 (fun kq v21 w' => ∃ (x21_4 : Int), v21 = .int .i64 x21_4 ∧ Aside0 (observatorylaw29_LotterySplits.l0 kq l1 t101 t103 ji29 t142 x21_4 = some r) ∧ Aside0 (kq ≤ kj43) ∧ Aside0 (Kd.R (Kd.int .i64) 3 w' w.heap.size (fun k_ => some k_ ≠ (v144 : Value).ownBlock) v105 t103) ∧ Aside0 (Kd.R (Kd.int .i64) 3 w' w.heap.size (fun k_ => some k_ ≠ (v105 : Value).ownBlock) v144 t142) ∧ Aside0 (Below w.heap.size w w'))
                                              case atStart => exact ⟨(0), (by first | rfl | (simp; done) | (simp [*]; done)), H', ⟨Nat.le_refl _⟩, ⟨by (with_reducible repeat (first | apply Kd.R_alloc | apply Kd.R_drewN | apply Kd.R_drew)); exact HO_14.out⟩, ⟨by (with_reducible repeat (first | apply Kd.R_alloc | apply Kd.R_drewN | apply Kd.R_drew)); exact HO_19.out⟩, ⟨by repeat (first | (with_reducible first | exact HB.out | apply below_alloc | apply pw_below_drewN | apply below_drew1) | exact HB.out)⟩⟩
                                              case round =>
                                                clear H'
                                                try clear c1
                                                try clear c2
                                                try clear p2
                                                try clear c3
                                                try clear c4
                                                try clear p6
                                                try clear c7
                                                try clear c12
                                                try clear c35
                                                try clear c38
                                                try clear c39
                                                try clear c42
                                                try clear p64
                                                try clear c72
                                                try clear c72b0
                                                try clear c72b1
                                                try clear c75
                                                try clear p2
                                                try clear p6
                                                try clear p64
                                                obtain ⟨x21_4, rfl, HA, HK4, HO_14, HO_19, HB⟩ := hrel
                                                cases gk with
                                                | zero => exact absurd HA.out (by simp [observatorylaw29_LotterySplits.l0])
                                                | succ k4 =>
                                                  have H := HA.out
                                                  clear HA
                                                  simp only [observatorylaw29_LotterySplits.l0] at H
                                                  by_cases c76 : x21_4 < (t103.length : Int)
                                                  · rw [if_pos c76] at H
                                                    have c76b0 : decide (x21_4 < (t103.length : Int)) = true := decide_eq_true c76
                                                    clear c76
                                                    by_cases c77 : x21_4 > ji29
                                                    · rw [if_pos c77] at H
                                                      have c77b0 : decide (ji29 < x21_4) = true := decide_eq_true c77
                                                      clear c77
                                                      by_cases c78 : 0 ≤ x21_4
                                                      · rw [if_pos c78] at H
                                                        have c78b0 : decide (0 ≤ x21_4) = true := decide_eq_true c78
                                                        clear c78
                                                        by_cases c79 : x21_4 < (l1.length : Int)
                                                        · rw [if_pos c79] at H
                                                          have c79b0 : decide (x21_4 < (l1.length : Int)) = true := decide_eq_true c79
                                                          clear c79
                                                          by_cases c80 : 0 ≤ ji29
                                                          · rw [if_pos c80] at H
                                                            have c80b0 : decide (0 ≤ ji29) = true := decide_eq_true c80
                                                            clear c80
                                                            by_cases c81 : ji29 < (l1.length : Int)
                                                            · rw [if_pos c81] at H
                                                              have c81b0 : decide (ji29 < (l1.length : Int)) = true := decide_eq_true c81
                                                              clear c81
                                                              by_cases c82 : (rd l1 x21_4) = (rd l1 ji29)
                                                              · rw [if_pos c82] at H
                                                                have c82b0 : ((rd l1 x21_4) == (rd l1 ji29)) = true := beq_iff_eq.mpr c82
                                                                have c82b1 : ((rd l1 x21_4) != (rd l1 ji29)) = false := bne_eq_false_iff_eq.mpr c82
                                                                clear c82
                                                                have H' := Aside0.mk H
                                                                clear H
                                                                obtain ⟨Ao83, co83, eo83⟩ := Kd.R_slice HO_14.out
                                                                subst eo83
                                                                try go_wp2
                                                                have n0_ := Aside0.mk (Kd.R_drew HO_14.out)
                                                                have n1_ := Aside0.mk (Kd.R_drew HO_19.out)
                                                                have n2_ := Aside0.mk (below_drew1 HB.out)
                                                                clear HO_14
                                                                clear HO_19
                                                                clear HB
                                                                have HO_14 := n0_
                                                                have HO_19 := n1_
                                                                have HB := n2_
                                                                clear n0_ n1_ n2_
                                                                have p146 : 0 ≤ (x21_4 : Int) := of_decide_eq_true (by first | (with_reducible assumption) | assumption)
                                                                have q146 : x21_4 < (l1.length : Int) := of_decide_eq_true (by first | (with_reducible assumption) | assumption)
                                                                obtain ⟨ad146, e146, hx146_0⟩ := Kd.at_int HR1.out x21_4 p146 q146
                                                                have hw146_0 := hx146_0
                                                                obtain rfl : ad114 = ad146 := (by injection e146)
                                                                replace hx146_0 := (HB.out.cell (World.block_lt_of_cell? w _ hx146_0)).trans hx146_0
                                                                replace p146 := eq_true p146
                                                                replace q146 := eq_true q146
                                                                have p147 : 0 ≤ (ji29 : Int) := of_decide_eq_true (by first | (with_reducible assumption) | assumption)
                                                                have q147 : ji29 < (l1.length : Int) := of_decide_eq_true (by first | (with_reducible assumption) | assumption)
                                                                obtain ⟨ad147, e147, hx147_0⟩ := Kd.at_int HR1.out ji29 p147 q147
                                                                have hw147_0 := hx147_0
                                                                obtain rfl : ad114 = ad147 := (by injection e147)
                                                                replace hx147_0 := (HB.out.cell (World.block_lt_of_cell? w _ hx147_0)).trans hx147_0
                                                                replace p147 := eq_true p147
                                                                replace q147 := eq_true q147
                                                                refine start_ (n := 20) (S := fun w' => w'.cell? (ad114.add (x21_4).toNat) = some (.int .i64 (rd l1 x21_4)) ∧ w'.cell? (ad114.add (ji29).toNat) = some (.int .i64 (rd l1 ji29))) (ds := []) #[false, false, false, false, false, false, false, false, false, false, false, false, false, false, false, false, false, false, false, false] (by kernel_rfl) rfl rfl ⟨((HB.out.cell (World.block_lt_of_cell? w _ hw146_0)).trans hw146_0), ((HB.out.cell (World.block_lt_of_cell? w _ hw147_0)).trans hw147_0)⟩ (fun hHeld => ?_); refine with_tabW observatorylaw29_LotterySplits.tab19 observatorylaw29_LotterySplits.bits19 (fun HT_ HW_ => ?_)
                                                                generalize wr.drew = w84 at HO_14 HO_19 HB hx146_0 hx147_0 hHeld ⊢
                                                                refine pure_ (i := 0) (N := some 132) (v := ?_) (a' := ?_) #[true, false, false, false, false, false, false, false, false, false, false, false, false, false, false, false, false, false, false, false] rfl rfl (any_of HT_.out (by kernel_rfl)) (fun _ _ _ h => h) (Or.inl ⟨by rfl, ?_⟩) ?_ ?_
                                                                rotate_left
                                                                · intro w'
                                                                  go_simp
                                                                  with_reducible rfl
                                                                rotate_left
                                                                · simp only [Act.put, List.setIfInBounds_toArray, List.set_cons_zero, List.set_cons_succ, i64_w, i32_w]
                                                                  rfl
                                                                refine pure_ (i := 1) (N := some 133) (v := ?_) (a' := ?_) #[true, true, false, false, false, false, false, false, false, false, false, false, false, false, false, false, false, false, false, false] rfl rfl (any_of HT_.out (by kernel_rfl)) (fun _ _ _ h => h) (Or.inl ⟨by rfl, ?_⟩) ?_ ?_
                                                                rotate_left
                                                                · intro w'
                                                                  go_simp
                                                                  with_reducible rfl
                                                                rotate_left
                                                                · simp only [Act.put, List.setIfInBounds_toArray, List.set_cons_zero, List.set_cons_succ, i64_w, i32_w]
                                                                  rfl
                                                                refine pure_ (i := 2) (N := some 134) (v := ?_) (a' := ?_) #[true, true, true, false, false, false, false, false, false, false, false, false, false, false, false, false, false, false, false, false] rfl rfl (any_of HT_.out (by kernel_rfl)) (fun _ _ _ h => h) (Or.inl ⟨by rfl, ?_⟩) ?_ ?_
                                                                rotate_left
                                                                · intro w'
                                                                  go_simp
                                                                  with_reducible rfl
                                                                rotate_left
                                                                · simp only [Act.put, List.setIfInBounds_toArray, List.set_cons_zero, List.set_cons_succ, i64_w, i32_w]
                                                                  rfl
                                                                refine pure_ (i := 4) (N := some 136) (v := ?_) (a' := ?_) #[true, true, true, false, true, false, false, false, false, false, false, false, false, false, false, false, false, false, false, false] rfl rfl (any_of HT_.out (by kernel_rfl)) (fun _ _ _ h => h) (Or.inl ⟨by rfl, ?_⟩) ?_ ?_
                                                                rotate_left
                                                                · intro w'
                                                                  go_simp
                                                                  with_reducible rfl
                                                                rotate_left
                                                                · simp only [Act.put, List.setIfInBounds_toArray, List.set_cons_zero, List.set_cons_succ, i64_w, i32_w]
                                                                  rfl
                                                                refine pure_ (i := 5) (N := some 137) (v := ?_) (a' := ?_) #[true, true, true, false, true, true, false, false, false, false, false, false, false, false, false, false, false, false, false, false] rfl rfl (any_of HT_.out (by kernel_rfl)) (fun _ _ _ h => h) (Or.inl ⟨by rfl, ?_⟩) ?_ ?_
                                                                rotate_left
                                                                · intro w'
                                                                  go_simp
                                                                  with_reducible rfl
                                                                rotate_left
                                                                · simp only [Act.put, List.setIfInBounds_toArray, List.set_cons_zero, List.set_cons_succ, i64_w, i32_w]
                                                                  rfl
                                                                refine pure_ (i := 6) (N := some 138) (v := ?_) (a' := ?_) #[true, true, true, false, true, true, true, false, false, false, false, false, false, false, false, false, false, false, false, false] rfl rfl (any_of HT_.out (by kernel_rfl)) (fun _ _ _ h => h) (Or.inl ⟨by rfl, ?_⟩) ?_ ?_
                                                                rotate_left
                                                                · intro w'
                                                                  go_simp
                                                                  with_reducible rfl
                                                                rotate_left
                                                                · simp only [Act.put, List.setIfInBounds_toArray, List.set_cons_zero, List.set_cons_succ, i64_w, i32_w]
                                                                  rfl
                                                                refine take_ (i := 3) (N := some 135) (v := ?_) (a' := ?_) #[true, true, true, true, true, true, true, false, false, false, false, false, false, false, false, false, false, false, false, false] rfl rfl (take_ofW HT_.out HW_.out (by kernel_rfl)) (fun _ _ _ h => h) (Or.inl ⟨by rfl, ?_⟩) hHeld ?_ ?_
                                                                rotate_left
                                                                · rintro w' ⟨s0, s1⟩
                                                                  go_simp
                                                                  with_reducible rfl
                                                                rotate_left
                                                                · simp only [Act.put, List.setIfInBounds_toArray, List.set_cons_zero, List.set_cons_succ, i64_w, i32_w]
                                                                  rfl
                                                                refine take_ (i := 7) (N := some 139) (v := ?_) (a' := ?_) #[true, true, true, true, true, true, true, true, false, false, false, false, false, false, false, false, false, false, false, false] rfl rfl (take_ofW HT_.out HW_.out (by kernel_rfl)) (fun _ _ _ h => h) (Or.inl ⟨by rfl, ?_⟩) hHeld ?_ ?_
                                                                rotate_left
                                                                · rintro w' ⟨s0, s1⟩
                                                                  go_simp
                                                                  with_reducible rfl
                                                                rotate_left
                                                                · simp only [Act.put, List.setIfInBounds_toArray, List.set_cons_zero, List.set_cons_succ, i64_w, i32_w]
                                                                  rfl
                                                                refine pure_ (i := 8) (N := some 140) (v := ?_) (a' := ?_) #[true, true, true, true, true, true, true, true, true, false, false, false, false, false, false, false, false, false, false, false] rfl rfl (any_of HT_.out (by kernel_rfl)) (fun _ _ _ h => h) (Or.inl ⟨by rfl, ?_⟩) ?_ ?_
                                                                rotate_left
                                                                · intro w'
                                                                  go_simp
                                                                  with_reducible rfl
                                                                rotate_left
                                                                · simp only [Act.put, List.setIfInBounds_toArray, List.set_cons_zero, List.set_cons_succ, i64_w, i32_w]
                                                                  rfl
                                                                refine pure_ (i := 9) (N := some 141) (v := ?_) (a' := ?_) #[true, true, true, true, true, true, true, true, true, true, false, false, false, false, false, false, false, false, false, false] rfl rfl (any_of HT_.out (by kernel_rfl)) (fun _ _ _ h => h) (Or.inl ⟨by rfl, ?_⟩) ?_ ?_
                                                                rotate_left
                                                                · intro w'
                                                                  go_simp
                                                                  with_reducible rfl
                                                                rotate_left
                                                                · simp only [Act.put, List.setIfInBounds_toArray, List.set_cons_zero, List.set_cons_succ, i64_w, i32_w]
                                                                  rfl
                                                                refine pure_ (i := 10) (N := some 142) (v := undef) (a' := ?_) #[true, true, true, true, true, true, true, true, true, true, true, false, false, false, false, false, false, false, false, false] rfl rfl (any_of HT_.out (by kernel_rfl)) (fun _ _ _ h => h) (Or.inr ⟨by rfl, rfl⟩) ?_ ?_
                                                                rotate_left
                                                                · simp only [Act.put, List.setIfInBounds_toArray, List.set_cons_zero, List.set_cons_succ, i64_w, i32_w]
                                                                  rfl
                                                                refine pure_ (i := 11) (N := some 143) (v := undef) (a' := ?_) #[true, true, true, true, true, true, true, true, true, true, true, true, false, false, false, false, false, false, false, false] rfl rfl (any_of HT_.out (by kernel_rfl)) (fun _ _ _ h => h) (Or.inr ⟨by rfl, rfl⟩) ?_ ?_
                                                                rotate_left
                                                                · simp only [Act.put, List.setIfInBounds_toArray, List.set_cons_zero, List.set_cons_succ, i64_w, i32_w]
                                                                  rfl
                                                                refine pure_ (i := 12) (N := some 144) (v := undef) (a' := ?_) #[true, true, true, true, true, true, true, true, true, true, true, true, true, false, false, false, false, false, false, false] rfl rfl (any_of HT_.out (by kernel_rfl)) (fun _ _ _ h => h) (Or.inr ⟨by rfl, rfl⟩) ?_ ?_
                                                                rotate_left
                                                                · simp only [Act.put, List.setIfInBounds_toArray, List.set_cons_zero, List.set_cons_succ, i64_w, i32_w]
                                                                  rfl
                                                                refine pure_ (i := 13) (N := some 145) (v := undef) (a' := ?_) #[true, true, true, true, true, true, true, true, true, true, true, true, true, true, false, false, false, false, false, false] rfl rfl (any_of HT_.out (by kernel_rfl)) (fun _ _ _ h => h) (Or.inr ⟨by rfl, rfl⟩) ?_ ?_
                                                                rotate_left
                                                                · simp only [Act.put, List.setIfInBounds_toArray, List.set_cons_zero, List.set_cons_succ, i64_w, i32_w]
                                                                  rfl
                                                                refine pure_ (i := 14) (N := some 146) (v := undef) (a' := ?_) #[true, true, true, true, true, true, true, true, true, true, true, true, true, true, true, false, false, false, false, false] rfl rfl (any_of HT_.out (by kernel_rfl)) (fun _ _ _ h => h) (Or.inr ⟨by rfl, rfl⟩) ?_ ?_
                                                                rotate_left
                                                                · simp only [Act.put, List.setIfInBounds_toArray, List.set_cons_zero, List.set_cons_succ, i64_w, i32_w]
                                                                  rfl
                                                                refine pure_ (i := 15) (N := some 147) (v := undef) (a' := ?_) #[true, true, true, true, true, true, true, true, true, true, true, true, true, true, true, true, false, false, false, false] rfl rfl (any_of HT_.out (by kernel_rfl)) (fun _ _ _ h => h) (Or.inr ⟨by rfl, rfl⟩) ?_ ?_
                                                                rotate_left
                                                                · simp only [Act.put, List.setIfInBounds_toArray, List.set_cons_zero, List.set_cons_succ, i64_w, i32_w]
                                                                  rfl
                                                                refine pure_ (i := 16) (N := some 148) (v := undef) (a' := ?_) #[true, true, true, true, true, true, true, true, true, true, true, true, true, true, true, true, true, false, false, false] rfl rfl (any_of HT_.out (by kernel_rfl)) (fun _ _ _ h => h) (Or.inr ⟨by rfl, rfl⟩) ?_ ?_
                                                                rotate_left
                                                                · simp only [Act.put, List.setIfInBounds_toArray, List.set_cons_zero, List.set_cons_succ, i64_w, i32_w]
                                                                  rfl
                                                                refine pure_ (i := 17) (N := some 149) (v := undef) (a' := ?_) #[true, true, true, true, true, true, true, true, true, true, true, true, true, true, true, true, true, true, false, false] rfl rfl (any_of HT_.out (by kernel_rfl)) (fun _ _ _ h => h) (Or.inr ⟨by rfl, rfl⟩) ?_ ?_
                                                                rotate_left
                                                                · simp only [Act.put, List.setIfInBounds_toArray, List.set_cons_zero, List.set_cons_succ, i64_w, i32_w]
                                                                  rfl
                                                                refine pure_ (i := 18) (N := some 150) (v := undef) (a' := ?_) #[true, true, true, true, true, true, true, true, true, true, true, true, true, true, true, true, true, true, true, false] rfl rfl (any_of HT_.out (by kernel_rfl)) (fun _ _ _ h => h) (Or.inr ⟨by rfl, rfl⟩) ?_ ?_
                                                                rotate_left
                                                                · simp only [Act.put, List.setIfInBounds_toArray, List.set_cons_zero, List.set_cons_succ, i64_w, i32_w]
                                                                  rfl
                                                                refine pure_ (i := 19) (N := some 151) (v := ?_) (a' := ?_) #[true, true, true, true, true, true, true, true, true, true, true, true, true, true, true, true, true, true, true, true] rfl rfl (any_of HT_.out (by kernel_rfl)) (fun _ _ _ h => h) (Or.inl ⟨by rfl, ?_⟩) ?_ ?_
                                                                rotate_left
                                                                · intro w'
                                                                  go_simp
                                                                  with_reducible rfl
                                                                rotate_left
                                                                · simp only [Act.put, List.setIfInBounds_toArray, List.set_cons_zero, List.set_cons_succ, i64_w, i32_w]
                                                                  rfl
                                                                refine done_ (done_of HT_.out (by kernel_rfl)) ?_
                                                                try go_wp2
                                                                go_roundg k4
                                                                case measure => have := HJ7.out; have := HJ17.out; have := HJ43.out; have := HK4.out; omega
                                                                case rel => exact ⟨(wrap64 (x21_4 + 1)), (by first | rfl | (simp; done) | (simp [*]; done)), H', ⟨by have := HJ7.out; have := HJ17.out; have := HJ43.out; have := HK4.out; omega⟩, ⟨by (with_reducible repeat (first | apply Kd.R_alloc | apply Kd.R_drewN | apply Kd.R_drew)); exact HO_14.out⟩, ⟨by (with_reducible repeat (first | apply Kd.R_alloc | apply Kd.R_drewN | apply Kd.R_drew)); exact HO_19.out⟩, ⟨by repeat (first | (with_reducible first | exact HB.out | apply below_alloc | apply pw_below_drewN | apply below_drew1) | exact HB.out)⟩⟩
                                                              · rw [if_neg c82] at H
                                                                have c82b0 : ((rd l1 x21_4) == (rd l1 ji29)) = false := beq_eq_false_iff_ne.mpr c82
                                                                have c82b1 : ((rd l1 x21_4) != (rd l1 ji29)) = true := bne_iff_ne.mpr c82
                                                                obtain ⟨ji85, hji85⟩ : ∃ j_ : Int, (wrap64 (x21_4 + 1)) = j_ := ⟨_, rfl⟩
                                                                replace H : (if 0 ≤ (ji85) then (if (ji85) < (t142.length : Int) then (if (rd t103 x21_4) = (rd t142 (ji85)) then (observatorylaw29_LotterySplits.l0 k4 l1 t101 t103 ji29 t142 ji85) else (none)) else (none)) else (none)) = some r := by first | (rw [hji85] at H; exact H) | (simp only [hji85] at H ⊢; exact H)
                                                                have hji85w : (IntKind.i64.wrap (x21_4 + 1)) = ji85 := (i64_w _).trans hji85
                                                                by_cases c86 : 0 ≤ (ji85)
                                                                · rw [if_pos c86] at H
                                                                  have c86b0 : decide (0 ≤ (ji85)) = true := decide_eq_true c86
                                                                  clear c86
                                                                  by_cases c87 : (ji85) < (t142.length : Int)
                                                                  · rw [if_pos c87] at H
                                                                    have c87b0 : decide ((ji85) < (t142.length : Int)) = true := decide_eq_true c87
                                                                    clear c87
                                                                    by_cases c88 : (rd t103 x21_4) = (rd t142 (ji85))
                                                                    · rw [if_pos c88] at H
                                                                      have c88b0 : ((rd t103 x21_4) == (rd t142 (ji85))) = true := beq_iff_eq.mpr c88
                                                                      have c88b1 : ((rd t103 x21_4) != (rd t142 (ji85))) = false := bne_eq_false_iff_eq.mpr c88
                                                                      clear c88
                                                                      have H' := Aside0.mk H
                                                                      clear H
                                                                      obtain ⟨Ao89, co89, eo89⟩ := Kd.R_slice HO_14.out
                                                                      subst eo89
                                                                      try go_wp2
                                                                      have n0_ := Aside0.mk (Kd.R_drew HO_14.out)
                                                                      have n1_ := Aside0.mk (Kd.R_drew HO_19.out)
                                                                      have n2_ := Aside0.mk (below_drew1 HB.out)
                                                                      clear HO_14
                                                                      clear HO_19
                                                                      clear HB
                                                                      have HO_14 := n0_
                                                                      have HO_19 := n1_
                                                                      have HB := n2_
                                                                      clear n0_ n1_ n2_
                                                                      have p146 : 0 ≤ (x21_4 : Int) := of_decide_eq_true (by first | (with_reducible assumption) | assumption)
                                                                      have q146 : x21_4 < (l1.length : Int) := of_decide_eq_true (by first | (with_reducible assumption) | assumption)
                                                                      obtain ⟨ad146, e146, hx146_0⟩ := Kd.at_int HR1.out x21_4 p146 q146
                                                                      have hw146_0 := hx146_0
                                                                      obtain rfl : ad114 = ad146 := (by injection e146)
                                                                      replace hx146_0 := (HB.out.cell (World.block_lt_of_cell? w _ hx146_0)).trans hx146_0
                                                                      replace p146 := eq_true p146
                                                                      replace q146 := eq_true q146
                                                                      have p147 : 0 ≤ (ji29 : Int) := of_decide_eq_true (by first | (with_reducible assumption) | assumption)
                                                                      have q147 : ji29 < (l1.length : Int) := of_decide_eq_true (by first | (with_reducible assumption) | assumption)
                                                                      obtain ⟨ad147, e147, hx147_0⟩ := Kd.at_int HR1.out ji29 p147 q147
                                                                      have hw147_0 := hx147_0
                                                                      obtain rfl : ad114 = ad147 := (by injection e147)
                                                                      replace hx147_0 := (HB.out.cell (World.block_lt_of_cell? w _ hx147_0)).trans hx147_0
                                                                      replace p147 := eq_true p147
                                                                      replace q147 := eq_true q147
                                                                      have p148 : 0 ≤ (x21_4 : Int) := of_decide_eq_true (by first | (with_reducible assumption) | assumption)
                                                                      have q148 : x21_4 < (t103.length : Int) := of_decide_eq_true (by first | (with_reducible assumption) | assumption)
                                                                      obtain ⟨ad148, e148, hx148_0⟩ := Kd.at_int (Kd.R_reads' HO_14.out).2.2 x21_4 p148 q148
                                                                      cases e148
                                                                      replace p148 := eq_true p148
                                                                      replace q148 := eq_true q148
                                                                      obtain ⟨Ao91, co91, eo91⟩ := Kd.R_slice HO_19.out
                                                                      (first | subst eo91 | (injection eo91 with f1_ f2_ f3_; have f4_ := f1_.symm; have f5_ := f3_.symm; clear f1_ f2_ f3_; subst f4_; subst f5_))
                                                                      have p149 : 0 ≤ ((ji85) : Int) := of_decide_eq_true (by first | (with_reducible assumption) | assumption)
                                                                      have q149 : (ji85) < (t142.length : Int) := of_decide_eq_true (by first | (with_reducible assumption) | assumption)
                                                                      obtain ⟨ad149, e149, hx149_0⟩ := Kd.at_int (Kd.R_reads' HO_19.out).2.2 (ji85) p149 q149
                                                                      cases e149
                                                                      replace p149 := eq_true p149
                                                                      replace q149 := eq_true q149
                                                                      refine start_ (n := 20) (S := fun w' => w'.cell? (ad114.add (x21_4).toNat) = some (.int .i64 (rd l1 x21_4)) ∧ w'.cell? (ad114.add (ji29).toNat) = some (.int .i64 (rd l1 ji29)) ∧ w'.cell? (ad148.add (x21_4).toNat) = some (.int .i64 (rd t103 x21_4)) ∧ w'.cell? (ad149.add ((ji85)).toNat) = some (.int .i64 (rd t142 (ji85)))) (ds := []) #[false, false, false, false, false, false, false, false, false, false, false, false, false, false, false, false, false, false, false, false] (by kernel_rfl) rfl rfl ⟨((HB.out.cell (World.block_lt_of_cell? w _ hw146_0)).trans hw146_0), ((HB.out.cell (World.block_lt_of_cell? w _ hw147_0)).trans hw147_0), hx148_0, hx149_0⟩ (fun hHeld => ?_); refine with_tabW observatorylaw29_LotterySplits.tab19 observatorylaw29_LotterySplits.bits19 (fun HT_ HW_ => ?_)
                                                                      generalize wr.drew = w90 at HO_14 HO_19 HB hx146_0 hx147_0 hx148_0 hx149_0 hHeld ⊢
                                                                      refine pure_ (i := 0) (N := some 132) (v := ?_) (a' := ?_) #[true, false, false, false, false, false, false, false, false, false, false, false, false, false, false, false, false, false, false, false] rfl rfl (any_of HT_.out (by kernel_rfl)) (fun _ _ _ h => h) (Or.inl ⟨by rfl, ?_⟩) ?_ ?_
                                                                      rotate_left
                                                                      · intro w'
                                                                        go_simp
                                                                        with_reducible rfl
                                                                      rotate_left
                                                                      · simp only [Act.put, List.setIfInBounds_toArray, List.set_cons_zero, List.set_cons_succ, i64_w, i32_w]
                                                                        rfl
                                                                      refine pure_ (i := 1) (N := some 133) (v := ?_) (a' := ?_) #[true, true, false, false, false, false, false, false, false, false, false, false, false, false, false, false, false, false, false, false] rfl rfl (any_of HT_.out (by kernel_rfl)) (fun _ _ _ h => h) (Or.inl ⟨by rfl, ?_⟩) ?_ ?_
                                                                      rotate_left
                                                                      · intro w'
                                                                        go_simp
                                                                        with_reducible rfl
                                                                      rotate_left
                                                                      · simp only [Act.put, List.setIfInBounds_toArray, List.set_cons_zero, List.set_cons_succ, i64_w, i32_w]
                                                                        rfl
                                                                      refine pure_ (i := 2) (N := some 134) (v := ?_) (a' := ?_) #[true, true, true, false, false, false, false, false, false, false, false, false, false, false, false, false, false, false, false, false] rfl rfl (any_of HT_.out (by kernel_rfl)) (fun _ _ _ h => h) (Or.inl ⟨by rfl, ?_⟩) ?_ ?_
                                                                      rotate_left
                                                                      · intro w'
                                                                        go_simp
                                                                        with_reducible rfl
                                                                      rotate_left
                                                                      · simp only [Act.put, List.setIfInBounds_toArray, List.set_cons_zero, List.set_cons_succ, i64_w, i32_w]
                                                                        rfl
                                                                      refine pure_ (i := 4) (N := some 136) (v := ?_) (a' := ?_) #[true, true, true, false, true, false, false, false, false, false, false, false, false, false, false, false, false, false, false, false] rfl rfl (any_of HT_.out (by kernel_rfl)) (fun _ _ _ h => h) (Or.inl ⟨by rfl, ?_⟩) ?_ ?_
                                                                      rotate_left
                                                                      · intro w'
                                                                        go_simp
                                                                        with_reducible rfl
                                                                      rotate_left
                                                                      · simp only [Act.put, List.setIfInBounds_toArray, List.set_cons_zero, List.set_cons_succ, i64_w, i32_w]
                                                                        rfl
                                                                      refine pure_ (i := 5) (N := some 137) (v := ?_) (a' := ?_) #[true, true, true, false, true, true, false, false, false, false, false, false, false, false, false, false, false, false, false, false] rfl rfl (any_of HT_.out (by kernel_rfl)) (fun _ _ _ h => h) (Or.inl ⟨by rfl, ?_⟩) ?_ ?_
                                                                      rotate_left
                                                                      · intro w'
                                                                        go_simp
                                                                        with_reducible rfl
                                                                      rotate_left
                                                                      · simp only [Act.put, List.setIfInBounds_toArray, List.set_cons_zero, List.set_cons_succ, i64_w, i32_w]
                                                                        rfl
                                                                      refine pure_ (i := 6) (N := some 138) (v := ?_) (a' := ?_) #[true, true, true, false, true, true, true, false, false, false, false, false, false, false, false, false, false, false, false, false] rfl rfl (any_of HT_.out (by kernel_rfl)) (fun _ _ _ h => h) (Or.inl ⟨by rfl, ?_⟩) ?_ ?_
                                                                      rotate_left
                                                                      · intro w'
                                                                        go_simp
                                                                        with_reducible rfl
                                                                      rotate_left
                                                                      · simp only [Act.put, List.setIfInBounds_toArray, List.set_cons_zero, List.set_cons_succ, i64_w, i32_w]
                                                                        rfl
                                                                      refine take_ (i := 3) (N := some 135) (v := ?_) (a' := ?_) #[true, true, true, true, true, true, true, false, false, false, false, false, false, false, false, false, false, false, false, false] rfl rfl (take_ofW HT_.out HW_.out (by kernel_rfl)) (fun _ _ _ h => h) (Or.inl ⟨by rfl, ?_⟩) hHeld ?_ ?_
                                                                      rotate_left
                                                                      · rintro w' ⟨s0, s1, s2, s3⟩
                                                                        go_simp
                                                                        with_reducible rfl
                                                                      rotate_left
                                                                      · simp only [Act.put, List.setIfInBounds_toArray, List.set_cons_zero, List.set_cons_succ, i64_w, i32_w]
                                                                        rfl
                                                                      refine take_ (i := 7) (N := some 139) (v := ?_) (a' := ?_) #[true, true, true, true, true, true, true, true, false, false, false, false, false, false, false, false, false, false, false, false] rfl rfl (take_ofW HT_.out HW_.out (by kernel_rfl)) (fun _ _ _ h => h) (Or.inl ⟨by rfl, ?_⟩) hHeld ?_ ?_
                                                                      rotate_left
                                                                      · rintro w' ⟨s0, s1, s2, s3⟩
                                                                        go_simp
                                                                        with_reducible rfl
                                                                      rotate_left
                                                                      · simp only [Act.put, List.setIfInBounds_toArray, List.set_cons_zero, List.set_cons_succ, i64_w, i32_w]
                                                                        rfl
                                                                      refine pure_ (i := 8) (N := some 140) (v := ?_) (a' := ?_) #[true, true, true, true, true, true, true, true, true, false, false, false, false, false, false, false, false, false, false, false] rfl rfl (any_of HT_.out (by kernel_rfl)) (fun _ _ _ h => h) (Or.inl ⟨by rfl, ?_⟩) ?_ ?_
                                                                      rotate_left
                                                                      · intro w'
                                                                        go_simp
                                                                        with_reducible rfl
                                                                      rotate_left
                                                                      · simp only [Act.put, List.setIfInBounds_toArray, List.set_cons_zero, List.set_cons_succ, i64_w, i32_w]
                                                                        rfl
                                                                      refine pure_ (i := 9) (N := some 141) (v := ?_) (a' := ?_) #[true, true, true, true, true, true, true, true, true, true, false, false, false, false, false, false, false, false, false, false] rfl rfl (any_of HT_.out (by kernel_rfl)) (fun _ _ _ h => h) (Or.inl ⟨by rfl, ?_⟩) ?_ ?_
                                                                      rotate_left
                                                                      · intro w'
                                                                        go_simp
                                                                        with_reducible rfl
                                                                      rotate_left
                                                                      · simp only [Act.put, List.setIfInBounds_toArray, List.set_cons_zero, List.set_cons_succ, i64_w, i32_w]
                                                                        rfl
                                                                      refine pure_ (i := 10) (N := some 142) (v := ?_) (a' := ?_) #[true, true, true, true, true, true, true, true, true, true, true, false, false, false, false, false, false, false, false, false] rfl rfl (any_of HT_.out (by kernel_rfl)) (fun _ _ _ h => h) (Or.inl ⟨by rfl, ?_⟩) ?_ ?_
                                                                      rotate_left
                                                                      · intro w'
                                                                        go_simp
                                                                        with_reducible rfl
                                                                      rotate_left
                                                                      · simp only [Act.put, List.setIfInBounds_toArray, List.set_cons_zero, List.set_cons_succ, i64_w, i32_w]
                                                                        rfl
                                                                      refine pure_ (i := 11) (N := some 143) (v := ?_) (a' := ?_) #[true, true, true, true, true, true, true, true, true, true, true, true, false, false, false, false, false, false, false, false] rfl rfl (any_of HT_.out (by kernel_rfl)) (fun _ _ _ h => h) (Or.inl ⟨by rfl, ?_⟩) ?_ ?_
                                                                      rotate_left
                                                                      · intro w'
                                                                        go_simp
                                                                        with_reducible rfl
                                                                      rotate_left
                                                                      · simp only [Act.put, List.setIfInBounds_toArray, List.set_cons_zero, List.set_cons_succ, i64_w, i32_w]
                                                                        rfl
                                                                      refine pure_ (i := 12) (N := some 144) (v := ?_) (a' := ?_) #[true, true, true, true, true, true, true, true, true, true, true, true, true, false, false, false, false, false, false, false] rfl rfl (any_of HT_.out (by kernel_rfl)) (fun _ _ _ h => h) (Or.inl ⟨by rfl, ?_⟩) ?_ ?_
                                                                      rotate_left
                                                                      · intro w'
                                                                        go_simp
                                                                        with_reducible rfl
                                                                      rotate_left
                                                                      · simp only [Act.put, List.setIfInBounds_toArray, List.set_cons_zero, List.set_cons_succ, i64_w, i32_w]
                                                                        rfl
                                                                      refine pure_ (i := 14) (N := some 146) (v := ?_) (a' := ?_) #[true, true, true, true, true, true, true, true, true, true, true, true, true, false, true, false, false, false, false, false] rfl rfl (any_of HT_.out (by kernel_rfl)) (fun _ _ _ h => h) (Or.inl ⟨by rfl, ?_⟩) ?_ ?_
                                                                      rotate_left
                                                                      · intro w'
                                                                        go_simp
                                                                        with_reducible rfl
                                                                      rotate_left
                                                                      · simp only [Act.put, List.setIfInBounds_toArray, List.set_cons_zero, List.set_cons_succ, i64_w, i32_w]
                                                                        rfl
                                                                      refine pure_ (i := 15) (N := some 147) (v := ?_) (a' := ?_) #[true, true, true, true, true, true, true, true, true, true, true, true, true, false, true, true, false, false, false, false] rfl rfl (any_of HT_.out (by kernel_rfl)) (fun _ _ _ h => h) (Or.inl ⟨by rfl, ?_⟩) ?_ ?_
                                                                      rotate_left
                                                                      · intro w'
                                                                        go_simp
                                                                        with_reducible rfl
                                                                      rotate_left
                                                                      · simp only [Act.put, List.setIfInBounds_toArray, List.set_cons_zero, List.set_cons_succ, i64_w, i32_w]
                                                                        rfl
                                                                      refine pure_ (i := 16) (N := some 148) (v := ?_) (a' := ?_) #[true, true, true, true, true, true, true, true, true, true, true, true, true, false, true, true, true, false, false, false] rfl rfl (any_of HT_.out (by kernel_rfl)) (fun _ _ _ h => h) (Or.inl ⟨by rfl, ?_⟩) ?_ ?_
                                                                      rotate_left
                                                                      · intro w'
                                                                        go_simp
                                                                        with_reducible rfl
                                                                      rotate_left
                                                                      · simp only [Act.put, List.setIfInBounds_toArray, List.set_cons_zero, List.set_cons_succ, i64_w, i32_w]
                                                                        rfl
                                                                      refine take_ (i := 13) (N := some 145) (v := ?_) (a' := ?_) #[true, true, true, true, true, true, true, true, true, true, true, true, true, true, true, true, true, false, false, false] rfl rfl (take_ofW HT_.out HW_.out (by kernel_rfl)) (fun _ _ _ h => h) (Or.inl ⟨by rfl, ?_⟩) hHeld ?_ ?_
                                                                      rotate_left
                                                                      · rintro w' ⟨s0, s1, s2, s3⟩
                                                                        go_simp
                                                                        with_reducible rfl
                                                                      rotate_left
                                                                      · simp only [Act.put, List.setIfInBounds_toArray, List.set_cons_zero, List.set_cons_succ, i64_w, i32_w]
                                                                        rfl
                                                                      refine take_ (i := 17) (N := some 149) (v := ?_) (a' := ?_) #[true, true, true, true, true, true, true, true, true, true, true, true, true, true, true, true, true, true, false, false] rfl rfl (take_ofW HT_.out HW_.out (by kernel_rfl)) (fun _ _ _ h => h) (Or.inl ⟨by rfl, ?_⟩) hHeld ?_ ?_
                                                                      rotate_left
                                                                      · rintro w' ⟨s0, s1, s2, s3⟩
                                                                        go_simp
                                                                        with_reducible rfl
                                                                      rotate_left
                                                                      · simp only [Act.put, List.setIfInBounds_toArray, List.set_cons_zero, List.set_cons_succ, i64_w, i32_w]
                                                                        rfl
                                                                      refine pure_ (i := 18) (N := some 150) (v := ?_) (a' := ?_) #[true, true, true, true, true, true, true, true, true, true, true, true, true, true, true, true, true, true, true, false] rfl rfl (any_of HT_.out (by kernel_rfl)) (fun _ _ _ h => h) (Or.inl ⟨by rfl, ?_⟩) ?_ ?_
                                                                      rotate_left
                                                                      · intro w'
                                                                        go_simp
                                                                        with_reducible rfl
                                                                      rotate_left
                                                                      · simp only [Act.put, List.setIfInBounds_toArray, List.set_cons_zero, List.set_cons_succ, i64_w, i32_w]
                                                                        rfl
                                                                      refine pure_ (i := 19) (N := some 151) (v := ?_) (a' := ?_) #[true, true, true, true, true, true, true, true, true, true, true, true, true, true, true, true, true, true, true, true] rfl rfl (any_of HT_.out (by kernel_rfl)) (fun _ _ _ h => h) (Or.inl ⟨by rfl, ?_⟩) ?_ ?_
                                                                      rotate_left
                                                                      · intro w'
                                                                        go_simp
                                                                        with_reducible rfl
                                                                      rotate_left
                                                                      · simp only [Act.put, List.setIfInBounds_toArray, List.set_cons_zero, List.set_cons_succ, i64_w, i32_w]
                                                                        rfl
                                                                      refine done_ (done_of HT_.out (by kernel_rfl)) ?_
                                                                      try go_wp2
                                                                      go_roundg k4
                                                                      case measure => have := HJ7.out; have := HJ17.out; have := HJ43.out; have := HK4.out; omega
                                                                      case rel => exact ⟨(ji85), (by first | rfl | (simp; done) | (simp only [← hji85] <;> (first | rfl | simp)) | (simp [*]; done)), H', ⟨by have := HJ7.out; have := HJ17.out; have := HJ43.out; have := HK4.out; omega⟩, ⟨by (with_reducible repeat (first | apply Kd.R_alloc | apply Kd.R_drewN | apply Kd.R_drew)); exact HO_14.out⟩, ⟨by (with_reducible repeat (first | apply Kd.R_alloc | apply Kd.R_drewN | apply Kd.R_drew)); exact HO_19.out⟩, ⟨by repeat (first | (with_reducible first | exact HB.out | apply below_alloc | apply pw_below_drewN | apply below_drew1) | exact HB.out)⟩⟩
                                                                    · rw [if_neg c88] at H
                                                                      exact absurd H (by simp)
                                                                  · rw [if_neg c87] at H
                                                                    exact absurd H (by simp)
                                                                · rw [if_neg c86] at H
                                                                  exact absurd H (by simp)
                                                            · rw [if_neg c81] at H
                                                              exact absurd H (by simp)
                                                          · rw [if_neg c80] at H
                                                            exact absurd H (by simp)
                                                        · rw [if_neg c79] at H
                                                          exact absurd H (by simp)
                                                      · rw [if_neg c78] at H
                                                        exact absurd H (by simp)
                                                    · rw [if_neg c77] at H
                                                      have c77b0 : decide (ji29 < x21_4) = false := decide_eq_false c77
                                                      clear c77
                                                      by_cases c92 : 0 ≤ x21_4
                                                      · rw [if_pos c92] at H
                                                        have c92b0 : decide (0 ≤ x21_4) = true := decide_eq_true c92
                                                        clear c92
                                                        by_cases c93 : x21_4 < (l1.length : Int)
                                                        · rw [if_pos c93] at H
                                                          have c93b0 : decide (x21_4 < (l1.length : Int)) = true := decide_eq_true c93
                                                          clear c93
                                                          by_cases c94 : 0 ≤ ji29
                                                          · rw [if_pos c94] at H
                                                            have c94b0 : decide (0 ≤ ji29) = true := decide_eq_true c94
                                                            clear c94
                                                            by_cases c95 : ji29 < (l1.length : Int)
                                                            · rw [if_pos c95] at H
                                                              have c95b0 : decide (ji29 < (l1.length : Int)) = true := decide_eq_true c95
                                                              clear c95
                                                              by_cases c96 : (rd l1 x21_4) = (rd l1 ji29)
                                                              · rw [if_pos c96] at H
                                                                have c96b0 : ((rd l1 x21_4) == (rd l1 ji29)) = true := beq_iff_eq.mpr c96
                                                                have c96b1 : ((rd l1 x21_4) != (rd l1 ji29)) = false := bne_eq_false_iff_eq.mpr c96
                                                                clear c96
                                                                have H' := Aside0.mk H
                                                                clear H
                                                                obtain ⟨Ao97, co97, eo97⟩ := Kd.R_slice HO_14.out
                                                                subst eo97
                                                                try go_wp2
                                                                have n0_ := Aside0.mk (Kd.R_drew HO_14.out)
                                                                have n1_ := Aside0.mk (Kd.R_drew HO_19.out)
                                                                have n2_ := Aside0.mk (below_drew1 HB.out)
                                                                clear HO_14
                                                                clear HO_19
                                                                clear HB
                                                                have HO_14 := n0_
                                                                have HO_19 := n1_
                                                                have HB := n2_
                                                                clear n0_ n1_ n2_
                                                                have p150 : 0 ≤ (x21_4 : Int) := of_decide_eq_true (by first | (with_reducible assumption) | assumption)
                                                                have q150 : x21_4 < (l1.length : Int) := of_decide_eq_true (by first | (with_reducible assumption) | assumption)
                                                                obtain ⟨ad150, e150, hx150_0⟩ := Kd.at_int HR1.out x21_4 p150 q150
                                                                have hw150_0 := hx150_0
                                                                obtain rfl : ad114 = ad150 := (by injection e150)
                                                                replace hx150_0 := (HB.out.cell (World.block_lt_of_cell? w _ hx150_0)).trans hx150_0
                                                                replace p150 := eq_true p150
                                                                replace q150 := eq_true q150
                                                                have p151 : 0 ≤ (ji29 : Int) := of_decide_eq_true (by first | (with_reducible assumption) | assumption)
                                                                have q151 : ji29 < (l1.length : Int) := of_decide_eq_true (by first | (with_reducible assumption) | assumption)
                                                                obtain ⟨ad151, e151, hx151_0⟩ := Kd.at_int HR1.out ji29 p151 q151
                                                                have hw151_0 := hx151_0
                                                                obtain rfl : ad114 = ad151 := (by injection e151)
                                                                replace hx151_0 := (HB.out.cell (World.block_lt_of_cell? w _ hx151_0)).trans hx151_0
                                                                replace p151 := eq_true p151
                                                                replace q151 := eq_true q151
                                                                refine start_ (n := 20) (S := fun w' => w'.cell? (ad114.add (x21_4).toNat) = some (.int .i64 (rd l1 x21_4)) ∧ w'.cell? (ad114.add (ji29).toNat) = some (.int .i64 (rd l1 ji29))) (ds := []) #[false, false, false, false, false, false, false, false, false, false, false, false, false, false, false, false, false, false, false, false] (by kernel_rfl) rfl rfl ⟨((HB.out.cell (World.block_lt_of_cell? w _ hw150_0)).trans hw150_0), ((HB.out.cell (World.block_lt_of_cell? w _ hw151_0)).trans hw151_0)⟩ (fun hHeld => ?_); refine with_tabW observatorylaw29_LotterySplits.tab19 observatorylaw29_LotterySplits.bits19 (fun HT_ HW_ => ?_)
                                                                generalize wr.drew = w98 at HO_14 HO_19 HB hx150_0 hx151_0 hHeld ⊢
                                                                refine pure_ (i := 0) (N := some 132) (v := ?_) (a' := ?_) #[true, false, false, false, false, false, false, false, false, false, false, false, false, false, false, false, false, false, false, false] rfl rfl (any_of HT_.out (by kernel_rfl)) (fun _ _ _ h => h) (Or.inl ⟨by rfl, ?_⟩) ?_ ?_
                                                                rotate_left
                                                                · intro w'
                                                                  go_simp
                                                                  with_reducible rfl
                                                                rotate_left
                                                                · simp only [Act.put, List.setIfInBounds_toArray, List.set_cons_zero, List.set_cons_succ, i64_w, i32_w]
                                                                  rfl
                                                                refine pure_ (i := 1) (N := some 133) (v := ?_) (a' := ?_) #[true, true, false, false, false, false, false, false, false, false, false, false, false, false, false, false, false, false, false, false] rfl rfl (any_of HT_.out (by kernel_rfl)) (fun _ _ _ h => h) (Or.inl ⟨by rfl, ?_⟩) ?_ ?_
                                                                rotate_left
                                                                · intro w'
                                                                  go_simp
                                                                  with_reducible rfl
                                                                rotate_left
                                                                · simp only [Act.put, List.setIfInBounds_toArray, List.set_cons_zero, List.set_cons_succ, i64_w, i32_w]
                                                                  rfl
                                                                refine pure_ (i := 2) (N := some 134) (v := ?_) (a' := ?_) #[true, true, true, false, false, false, false, false, false, false, false, false, false, false, false, false, false, false, false, false] rfl rfl (any_of HT_.out (by kernel_rfl)) (fun _ _ _ h => h) (Or.inl ⟨by rfl, ?_⟩) ?_ ?_
                                                                rotate_left
                                                                · intro w'
                                                                  go_simp
                                                                  with_reducible rfl
                                                                rotate_left
                                                                · simp only [Act.put, List.setIfInBounds_toArray, List.set_cons_zero, List.set_cons_succ, i64_w, i32_w]
                                                                  rfl
                                                                refine pure_ (i := 4) (N := some 136) (v := ?_) (a' := ?_) #[true, true, true, false, true, false, false, false, false, false, false, false, false, false, false, false, false, false, false, false] rfl rfl (any_of HT_.out (by kernel_rfl)) (fun _ _ _ h => h) (Or.inl ⟨by rfl, ?_⟩) ?_ ?_
                                                                rotate_left
                                                                · intro w'
                                                                  go_simp
                                                                  with_reducible rfl
                                                                rotate_left
                                                                · simp only [Act.put, List.setIfInBounds_toArray, List.set_cons_zero, List.set_cons_succ, i64_w, i32_w]
                                                                  rfl
                                                                refine pure_ (i := 5) (N := some 137) (v := ?_) (a' := ?_) #[true, true, true, false, true, true, false, false, false, false, false, false, false, false, false, false, false, false, false, false] rfl rfl (any_of HT_.out (by kernel_rfl)) (fun _ _ _ h => h) (Or.inl ⟨by rfl, ?_⟩) ?_ ?_
                                                                rotate_left
                                                                · intro w'
                                                                  go_simp
                                                                  with_reducible rfl
                                                                rotate_left
                                                                · simp only [Act.put, List.setIfInBounds_toArray, List.set_cons_zero, List.set_cons_succ, i64_w, i32_w]
                                                                  rfl
                                                                refine pure_ (i := 6) (N := some 138) (v := ?_) (a' := ?_) #[true, true, true, false, true, true, true, false, false, false, false, false, false, false, false, false, false, false, false, false] rfl rfl (any_of HT_.out (by kernel_rfl)) (fun _ _ _ h => h) (Or.inl ⟨by rfl, ?_⟩) ?_ ?_
                                                                rotate_left
                                                                · intro w'
                                                                  go_simp
                                                                  with_reducible rfl
                                                                rotate_left
                                                                · simp only [Act.put, List.setIfInBounds_toArray, List.set_cons_zero, List.set_cons_succ, i64_w, i32_w]
                                                                  rfl
                                                                refine take_ (i := 3) (N := some 135) (v := ?_) (a' := ?_) #[true, true, true, true, true, true, true, false, false, false, false, false, false, false, false, false, false, false, false, false] rfl rfl (take_ofW HT_.out HW_.out (by kernel_rfl)) (fun _ _ _ h => h) (Or.inl ⟨by rfl, ?_⟩) hHeld ?_ ?_
                                                                rotate_left
                                                                · rintro w' ⟨s0, s1⟩
                                                                  go_simp
                                                                  with_reducible rfl
                                                                rotate_left
                                                                · simp only [Act.put, List.setIfInBounds_toArray, List.set_cons_zero, List.set_cons_succ, i64_w, i32_w]
                                                                  rfl
                                                                refine take_ (i := 7) (N := some 139) (v := ?_) (a' := ?_) #[true, true, true, true, true, true, true, true, false, false, false, false, false, false, false, false, false, false, false, false] rfl rfl (take_ofW HT_.out HW_.out (by kernel_rfl)) (fun _ _ _ h => h) (Or.inl ⟨by rfl, ?_⟩) hHeld ?_ ?_
                                                                rotate_left
                                                                · rintro w' ⟨s0, s1⟩
                                                                  go_simp
                                                                  with_reducible rfl
                                                                rotate_left
                                                                · simp only [Act.put, List.setIfInBounds_toArray, List.set_cons_zero, List.set_cons_succ, i64_w, i32_w]
                                                                  rfl
                                                                refine pure_ (i := 8) (N := some 140) (v := ?_) (a' := ?_) #[true, true, true, true, true, true, true, true, true, false, false, false, false, false, false, false, false, false, false, false] rfl rfl (any_of HT_.out (by kernel_rfl)) (fun _ _ _ h => h) (Or.inl ⟨by rfl, ?_⟩) ?_ ?_
                                                                rotate_left
                                                                · intro w'
                                                                  go_simp
                                                                  with_reducible rfl
                                                                rotate_left
                                                                · simp only [Act.put, List.setIfInBounds_toArray, List.set_cons_zero, List.set_cons_succ, i64_w, i32_w]
                                                                  rfl
                                                                refine pure_ (i := 9) (N := some 141) (v := ?_) (a' := ?_) #[true, true, true, true, true, true, true, true, true, true, false, false, false, false, false, false, false, false, false, false] rfl rfl (any_of HT_.out (by kernel_rfl)) (fun _ _ _ h => h) (Or.inl ⟨by rfl, ?_⟩) ?_ ?_
                                                                rotate_left
                                                                · intro w'
                                                                  go_simp
                                                                  with_reducible rfl
                                                                rotate_left
                                                                · simp only [Act.put, List.setIfInBounds_toArray, List.set_cons_zero, List.set_cons_succ, i64_w, i32_w]
                                                                  rfl
                                                                refine pure_ (i := 10) (N := some 142) (v := undef) (a' := ?_) #[true, true, true, true, true, true, true, true, true, true, true, false, false, false, false, false, false, false, false, false] rfl rfl (any_of HT_.out (by kernel_rfl)) (fun _ _ _ h => h) (Or.inr ⟨by rfl, rfl⟩) ?_ ?_
                                                                rotate_left
                                                                · simp only [Act.put, List.setIfInBounds_toArray, List.set_cons_zero, List.set_cons_succ, i64_w, i32_w]
                                                                  rfl
                                                                refine pure_ (i := 11) (N := some 143) (v := undef) (a' := ?_) #[true, true, true, true, true, true, true, true, true, true, true, true, false, false, false, false, false, false, false, false] rfl rfl (any_of HT_.out (by kernel_rfl)) (fun _ _ _ h => h) (Or.inr ⟨by rfl, rfl⟩) ?_ ?_
                                                                rotate_left
                                                                · simp only [Act.put, List.setIfInBounds_toArray, List.set_cons_zero, List.set_cons_succ, i64_w, i32_w]
                                                                  rfl
                                                                refine pure_ (i := 12) (N := some 144) (v := undef) (a' := ?_) #[true, true, true, true, true, true, true, true, true, true, true, true, true, false, false, false, false, false, false, false] rfl rfl (any_of HT_.out (by kernel_rfl)) (fun _ _ _ h => h) (Or.inr ⟨by rfl, rfl⟩) ?_ ?_
                                                                rotate_left
                                                                · simp only [Act.put, List.setIfInBounds_toArray, List.set_cons_zero, List.set_cons_succ, i64_w, i32_w]
                                                                  rfl
                                                                refine pure_ (i := 13) (N := some 145) (v := undef) (a' := ?_) #[true, true, true, true, true, true, true, true, true, true, true, true, true, true, false, false, false, false, false, false] rfl rfl (any_of HT_.out (by kernel_rfl)) (fun _ _ _ h => h) (Or.inr ⟨by rfl, rfl⟩) ?_ ?_
                                                                rotate_left
                                                                · simp only [Act.put, List.setIfInBounds_toArray, List.set_cons_zero, List.set_cons_succ, i64_w, i32_w]
                                                                  rfl
                                                                refine pure_ (i := 14) (N := some 146) (v := undef) (a' := ?_) #[true, true, true, true, true, true, true, true, true, true, true, true, true, true, true, false, false, false, false, false] rfl rfl (any_of HT_.out (by kernel_rfl)) (fun _ _ _ h => h) (Or.inr ⟨by rfl, rfl⟩) ?_ ?_
                                                                rotate_left
                                                                · simp only [Act.put, List.setIfInBounds_toArray, List.set_cons_zero, List.set_cons_succ, i64_w, i32_w]
                                                                  rfl
                                                                refine pure_ (i := 15) (N := some 147) (v := undef) (a' := ?_) #[true, true, true, true, true, true, true, true, true, true, true, true, true, true, true, true, false, false, false, false] rfl rfl (any_of HT_.out (by kernel_rfl)) (fun _ _ _ h => h) (Or.inr ⟨by rfl, rfl⟩) ?_ ?_
                                                                rotate_left
                                                                · simp only [Act.put, List.setIfInBounds_toArray, List.set_cons_zero, List.set_cons_succ, i64_w, i32_w]
                                                                  rfl
                                                                refine pure_ (i := 16) (N := some 148) (v := undef) (a' := ?_) #[true, true, true, true, true, true, true, true, true, true, true, true, true, true, true, true, true, false, false, false] rfl rfl (any_of HT_.out (by kernel_rfl)) (fun _ _ _ h => h) (Or.inr ⟨by rfl, rfl⟩) ?_ ?_
                                                                rotate_left
                                                                · simp only [Act.put, List.setIfInBounds_toArray, List.set_cons_zero, List.set_cons_succ, i64_w, i32_w]
                                                                  rfl
                                                                refine pure_ (i := 17) (N := some 149) (v := undef) (a' := ?_) #[true, true, true, true, true, true, true, true, true, true, true, true, true, true, true, true, true, true, false, false] rfl rfl (any_of HT_.out (by kernel_rfl)) (fun _ _ _ h => h) (Or.inr ⟨by rfl, rfl⟩) ?_ ?_
                                                                rotate_left
                                                                · simp only [Act.put, List.setIfInBounds_toArray, List.set_cons_zero, List.set_cons_succ, i64_w, i32_w]
                                                                  rfl
                                                                refine pure_ (i := 18) (N := some 150) (v := undef) (a' := ?_) #[true, true, true, true, true, true, true, true, true, true, true, true, true, true, true, true, true, true, true, false] rfl rfl (any_of HT_.out (by kernel_rfl)) (fun _ _ _ h => h) (Or.inr ⟨by rfl, rfl⟩) ?_ ?_
                                                                rotate_left
                                                                · simp only [Act.put, List.setIfInBounds_toArray, List.set_cons_zero, List.set_cons_succ, i64_w, i32_w]
                                                                  rfl
                                                                refine pure_ (i := 19) (N := some 151) (v := ?_) (a' := ?_) #[true, true, true, true, true, true, true, true, true, true, true, true, true, true, true, true, true, true, true, true] rfl rfl (any_of HT_.out (by kernel_rfl)) (fun _ _ _ h => h) (Or.inl ⟨by rfl, ?_⟩) ?_ ?_
                                                                rotate_left
                                                                · intro w'
                                                                  go_simp
                                                                  with_reducible rfl
                                                                rotate_left
                                                                · simp only [Act.put, List.setIfInBounds_toArray, List.set_cons_zero, List.set_cons_succ, i64_w, i32_w]
                                                                  rfl
                                                                refine done_ (done_of HT_.out (by kernel_rfl)) ?_
                                                                try go_wp2
                                                                go_roundg k4
                                                                case measure => have := HJ7.out; have := HJ17.out; have := HJ43.out; have := HK4.out; omega
                                                                case rel => exact ⟨(wrap64 (x21_4 + 1)), (by first | rfl | (simp; done) | (simp [*]; done)), H', ⟨by have := HJ7.out; have := HJ17.out; have := HJ43.out; have := HK4.out; omega⟩, ⟨by (with_reducible repeat (first | apply Kd.R_alloc | apply Kd.R_drewN | apply Kd.R_drew)); exact HO_14.out⟩, ⟨by (with_reducible repeat (first | apply Kd.R_alloc | apply Kd.R_drewN | apply Kd.R_drew)); exact HO_19.out⟩, ⟨by repeat (first | (with_reducible first | exact HB.out | apply below_alloc | apply pw_below_drewN | apply below_drew1) | exact HB.out)⟩⟩
                                                              · rw [if_neg c96] at H
                                                                have c96b0 : ((rd l1 x21_4) == (rd l1 ji29)) = false := beq_eq_false_iff_ne.mpr c96
                                                                have c96b1 : ((rd l1 x21_4) != (rd l1 ji29)) = true := bne_iff_ne.mpr c96
                                                                by_cases c99 : x21_4 < (t142.length : Int)
                                                                · rw [if_pos c99] at H
                                                                  have c99b0 : decide (x21_4 < (t142.length : Int)) = true := decide_eq_true c99
                                                                  clear c99
                                                                  by_cases c100 : (rd t103 x21_4) = (rd t142 x21_4)
                                                                  · rw [if_pos c100] at H
                                                                    have c100b0 : ((rd t103 x21_4) == (rd t142 x21_4)) = true := beq_iff_eq.mpr c100
                                                                    have c100b1 : ((rd t103 x21_4) != (rd t142 x21_4)) = false := bne_eq_false_iff_eq.mpr c100
                                                                    clear c100
                                                                    have H' := Aside0.mk H
                                                                    clear H
                                                                    obtain ⟨Ao101, co101, eo101⟩ := Kd.R_slice HO_14.out
                                                                    subst eo101
                                                                    try go_wp2
                                                                    have n0_ := Aside0.mk (Kd.R_drew HO_14.out)
                                                                    have n1_ := Aside0.mk (Kd.R_drew HO_19.out)
                                                                    have n2_ := Aside0.mk (below_drew1 HB.out)
                                                                    clear HO_14
                                                                    clear HO_19
                                                                    clear HB
                                                                    have HO_14 := n0_
                                                                    have HO_19 := n1_
                                                                    have HB := n2_
                                                                    clear n0_ n1_ n2_
                                                                    have p150 : 0 ≤ (x21_4 : Int) := of_decide_eq_true (by first | (with_reducible assumption) | assumption)
                                                                    have q150 : x21_4 < (l1.length : Int) := of_decide_eq_true (by first | (with_reducible assumption) | assumption)
                                                                    obtain ⟨ad150, e150, hx150_0⟩ := Kd.at_int HR1.out x21_4 p150 q150
                                                                    have hw150_0 := hx150_0
                                                                    obtain rfl : ad114 = ad150 := (by injection e150)
                                                                    replace hx150_0 := (HB.out.cell (World.block_lt_of_cell? w _ hx150_0)).trans hx150_0
                                                                    replace p150 := eq_true p150
                                                                    replace q150 := eq_true q150
                                                                    have p151 : 0 ≤ (ji29 : Int) := of_decide_eq_true (by first | (with_reducible assumption) | assumption)
                                                                    have q151 : ji29 < (l1.length : Int) := of_decide_eq_true (by first | (with_reducible assumption) | assumption)
                                                                    obtain ⟨ad151, e151, hx151_0⟩ := Kd.at_int HR1.out ji29 p151 q151
                                                                    have hw151_0 := hx151_0
                                                                    obtain rfl : ad114 = ad151 := (by injection e151)
                                                                    replace hx151_0 := (HB.out.cell (World.block_lt_of_cell? w _ hx151_0)).trans hx151_0
                                                                    replace p151 := eq_true p151
                                                                    replace q151 := eq_true q151
                                                                    have p152 : 0 ≤ (x21_4 : Int) := of_decide_eq_true (by first | (with_reducible assumption) | assumption)
                                                                    have q152 : x21_4 < (t103.length : Int) := of_decide_eq_true (by first | (with_reducible assumption) | assumption)
                                                                    obtain ⟨ad152, e152, hx152_0⟩ := Kd.at_int (Kd.R_reads' HO_14.out).2.2 x21_4 p152 q152
                                                                    cases e152
                                                                    replace p152 := eq_true p152
                                                                    replace q152 := eq_true q152
                                                                    obtain ⟨Ao103, co103, eo103⟩ := Kd.R_slice HO_19.out
                                                                    (first | subst eo103 | (injection eo103 with f1_ f2_ f3_; have f4_ := f1_.symm; have f5_ := f3_.symm; clear f1_ f2_ f3_; subst f4_; subst f5_))
                                                                    have p153 : 0 ≤ (x21_4 : Int) := of_decide_eq_true (by first | (with_reducible assumption) | assumption)
                                                                    have q153 : x21_4 < (t142.length : Int) := of_decide_eq_true (by first | (with_reducible assumption) | assumption)
                                                                    obtain ⟨ad153, e153, hx153_0⟩ := Kd.at_int (Kd.R_reads' HO_19.out).2.2 x21_4 p153 q153
                                                                    cases e153
                                                                    replace p153 := eq_true p153
                                                                    replace q153 := eq_true q153
                                                                    refine start_ (n := 20) (S := fun w' => w'.cell? (ad114.add (x21_4).toNat) = some (.int .i64 (rd l1 x21_4)) ∧ w'.cell? (ad114.add (ji29).toNat) = some (.int .i64 (rd l1 ji29)) ∧ w'.cell? (ad152.add (x21_4).toNat) = some (.int .i64 (rd t103 x21_4)) ∧ w'.cell? (ad153.add (x21_4).toNat) = some (.int .i64 (rd t142 x21_4))) (ds := []) #[false, false, false, false, false, false, false, false, false, false, false, false, false, false, false, false, false, false, false, false] (by kernel_rfl) rfl rfl ⟨((HB.out.cell (World.block_lt_of_cell? w _ hw150_0)).trans hw150_0), ((HB.out.cell (World.block_lt_of_cell? w _ hw151_0)).trans hw151_0), hx152_0, hx153_0⟩ (fun hHeld => ?_); refine with_tabW observatorylaw29_LotterySplits.tab19 observatorylaw29_LotterySplits.bits19 (fun HT_ HW_ => ?_)
                                                                    generalize wr.drew = w102 at HO_14 HO_19 HB hx150_0 hx151_0 hx152_0 hx153_0 hHeld ⊢
                                                                    refine pure_ (i := 0) (N := some 132) (v := ?_) (a' := ?_) #[true, false, false, false, false, false, false, false, false, false, false, false, false, false, false, false, false, false, false, false] rfl rfl (any_of HT_.out (by kernel_rfl)) (fun _ _ _ h => h) (Or.inl ⟨by rfl, ?_⟩) ?_ ?_
                                                                    rotate_left
                                                                    · intro w'
                                                                      go_simp
                                                                      with_reducible rfl
                                                                    rotate_left
                                                                    · simp only [Act.put, List.setIfInBounds_toArray, List.set_cons_zero, List.set_cons_succ, i64_w, i32_w]
                                                                      rfl
                                                                    refine pure_ (i := 1) (N := some 133) (v := ?_) (a' := ?_) #[true, true, false, false, false, false, false, false, false, false, false, false, false, false, false, false, false, false, false, false] rfl rfl (any_of HT_.out (by kernel_rfl)) (fun _ _ _ h => h) (Or.inl ⟨by rfl, ?_⟩) ?_ ?_
                                                                    rotate_left
                                                                    · intro w'
                                                                      go_simp
                                                                      with_reducible rfl
                                                                    rotate_left
                                                                    · simp only [Act.put, List.setIfInBounds_toArray, List.set_cons_zero, List.set_cons_succ, i64_w, i32_w]
                                                                      rfl
                                                                    refine pure_ (i := 2) (N := some 134) (v := ?_) (a' := ?_) #[true, true, true, false, false, false, false, false, false, false, false, false, false, false, false, false, false, false, false, false] rfl rfl (any_of HT_.out (by kernel_rfl)) (fun _ _ _ h => h) (Or.inl ⟨by rfl, ?_⟩) ?_ ?_
                                                                    rotate_left
                                                                    · intro w'
                                                                      go_simp
                                                                      with_reducible rfl
                                                                    rotate_left
                                                                    · simp only [Act.put, List.setIfInBounds_toArray, List.set_cons_zero, List.set_cons_succ, i64_w, i32_w]
                                                                      rfl
                                                                    refine pure_ (i := 4) (N := some 136) (v := ?_) (a' := ?_) #[true, true, true, false, true, false, false, false, false, false, false, false, false, false, false, false, false, false, false, false] rfl rfl (any_of HT_.out (by kernel_rfl)) (fun _ _ _ h => h) (Or.inl ⟨by rfl, ?_⟩) ?_ ?_
                                                                    rotate_left
                                                                    · intro w'
                                                                      go_simp
                                                                      with_reducible rfl
                                                                    rotate_left
                                                                    · simp only [Act.put, List.setIfInBounds_toArray, List.set_cons_zero, List.set_cons_succ, i64_w, i32_w]
                                                                      rfl
                                                                    refine pure_ (i := 5) (N := some 137) (v := ?_) (a' := ?_) #[true, true, true, false, true, true, false, false, false, false, false, false, false, false, false, false, false, false, false, false] rfl rfl (any_of HT_.out (by kernel_rfl)) (fun _ _ _ h => h) (Or.inl ⟨by rfl, ?_⟩) ?_ ?_
                                                                    rotate_left
                                                                    · intro w'
                                                                      go_simp
                                                                      with_reducible rfl
                                                                    rotate_left
                                                                    · simp only [Act.put, List.setIfInBounds_toArray, List.set_cons_zero, List.set_cons_succ, i64_w, i32_w]
                                                                      rfl
                                                                    refine pure_ (i := 6) (N := some 138) (v := ?_) (a' := ?_) #[true, true, true, false, true, true, true, false, false, false, false, false, false, false, false, false, false, false, false, false] rfl rfl (any_of HT_.out (by kernel_rfl)) (fun _ _ _ h => h) (Or.inl ⟨by rfl, ?_⟩) ?_ ?_
                                                                    rotate_left
                                                                    · intro w'
                                                                      go_simp
                                                                      with_reducible rfl
                                                                    rotate_left
                                                                    · simp only [Act.put, List.setIfInBounds_toArray, List.set_cons_zero, List.set_cons_succ, i64_w, i32_w]
                                                                      rfl
                                                                    refine take_ (i := 3) (N := some 135) (v := ?_) (a' := ?_) #[true, true, true, true, true, true, true, false, false, false, false, false, false, false, false, false, false, false, false, false] rfl rfl (take_ofW HT_.out HW_.out (by kernel_rfl)) (fun _ _ _ h => h) (Or.inl ⟨by rfl, ?_⟩) hHeld ?_ ?_
                                                                    rotate_left
                                                                    · rintro w' ⟨s0, s1, s2, s3⟩
                                                                      go_simp
                                                                      with_reducible rfl
                                                                    rotate_left
                                                                    · simp only [Act.put, List.setIfInBounds_toArray, List.set_cons_zero, List.set_cons_succ, i64_w, i32_w]
                                                                      rfl
                                                                    refine take_ (i := 7) (N := some 139) (v := ?_) (a' := ?_) #[true, true, true, true, true, true, true, true, false, false, false, false, false, false, false, false, false, false, false, false] rfl rfl (take_ofW HT_.out HW_.out (by kernel_rfl)) (fun _ _ _ h => h) (Or.inl ⟨by rfl, ?_⟩) hHeld ?_ ?_
                                                                    rotate_left
                                                                    · rintro w' ⟨s0, s1, s2, s3⟩
                                                                      go_simp
                                                                      with_reducible rfl
                                                                    rotate_left
                                                                    · simp only [Act.put, List.setIfInBounds_toArray, List.set_cons_zero, List.set_cons_succ, i64_w, i32_w]
                                                                      rfl
                                                                    refine pure_ (i := 8) (N := some 140) (v := ?_) (a' := ?_) #[true, true, true, true, true, true, true, true, true, false, false, false, false, false, false, false, false, false, false, false] rfl rfl (any_of HT_.out (by kernel_rfl)) (fun _ _ _ h => h) (Or.inl ⟨by rfl, ?_⟩) ?_ ?_
                                                                    rotate_left
                                                                    · intro w'
                                                                      go_simp
                                                                      with_reducible rfl
                                                                    rotate_left
                                                                    · simp only [Act.put, List.setIfInBounds_toArray, List.set_cons_zero, List.set_cons_succ, i64_w, i32_w]
                                                                      rfl
                                                                    refine pure_ (i := 9) (N := some 141) (v := ?_) (a' := ?_) #[true, true, true, true, true, true, true, true, true, true, false, false, false, false, false, false, false, false, false, false] rfl rfl (any_of HT_.out (by kernel_rfl)) (fun _ _ _ h => h) (Or.inl ⟨by rfl, ?_⟩) ?_ ?_
                                                                    rotate_left
                                                                    · intro w'
                                                                      go_simp
                                                                      with_reducible rfl
                                                                    rotate_left
                                                                    · simp only [Act.put, List.setIfInBounds_toArray, List.set_cons_zero, List.set_cons_succ, i64_w, i32_w]
                                                                      rfl
                                                                    refine pure_ (i := 10) (N := some 142) (v := ?_) (a' := ?_) #[true, true, true, true, true, true, true, true, true, true, true, false, false, false, false, false, false, false, false, false] rfl rfl (any_of HT_.out (by kernel_rfl)) (fun _ _ _ h => h) (Or.inl ⟨by rfl, ?_⟩) ?_ ?_
                                                                    rotate_left
                                                                    · intro w'
                                                                      go_simp
                                                                      with_reducible rfl
                                                                    rotate_left
                                                                    · simp only [Act.put, List.setIfInBounds_toArray, List.set_cons_zero, List.set_cons_succ, i64_w, i32_w]
                                                                      rfl
                                                                    refine pure_ (i := 11) (N := some 143) (v := ?_) (a' := ?_) #[true, true, true, true, true, true, true, true, true, true, true, true, false, false, false, false, false, false, false, false] rfl rfl (any_of HT_.out (by kernel_rfl)) (fun _ _ _ h => h) (Or.inl ⟨by rfl, ?_⟩) ?_ ?_
                                                                    rotate_left
                                                                    · intro w'
                                                                      go_simp
                                                                      with_reducible rfl
                                                                    rotate_left
                                                                    · simp only [Act.put, List.setIfInBounds_toArray, List.set_cons_zero, List.set_cons_succ, i64_w, i32_w]
                                                                      rfl
                                                                    refine pure_ (i := 12) (N := some 144) (v := ?_) (a' := ?_) #[true, true, true, true, true, true, true, true, true, true, true, true, true, false, false, false, false, false, false, false] rfl rfl (any_of HT_.out (by kernel_rfl)) (fun _ _ _ h => h) (Or.inl ⟨by rfl, ?_⟩) ?_ ?_
                                                                    rotate_left
                                                                    · intro w'
                                                                      go_simp
                                                                      with_reducible rfl
                                                                    rotate_left
                                                                    · simp only [Act.put, List.setIfInBounds_toArray, List.set_cons_zero, List.set_cons_succ, i64_w, i32_w]
                                                                      rfl
                                                                    refine pure_ (i := 14) (N := some 146) (v := ?_) (a' := ?_) #[true, true, true, true, true, true, true, true, true, true, true, true, true, false, true, false, false, false, false, false] rfl rfl (any_of HT_.out (by kernel_rfl)) (fun _ _ _ h => h) (Or.inl ⟨by rfl, ?_⟩) ?_ ?_
                                                                    rotate_left
                                                                    · intro w'
                                                                      go_simp
                                                                      with_reducible rfl
                                                                    rotate_left
                                                                    · simp only [Act.put, List.setIfInBounds_toArray, List.set_cons_zero, List.set_cons_succ, i64_w, i32_w]
                                                                      rfl
                                                                    refine pure_ (i := 15) (N := some 147) (v := ?_) (a' := ?_) #[true, true, true, true, true, true, true, true, true, true, true, true, true, false, true, true, false, false, false, false] rfl rfl (any_of HT_.out (by kernel_rfl)) (fun _ _ _ h => h) (Or.inl ⟨by rfl, ?_⟩) ?_ ?_
                                                                    rotate_left
                                                                    · intro w'
                                                                      go_simp
                                                                      with_reducible rfl
                                                                    rotate_left
                                                                    · simp only [Act.put, List.setIfInBounds_toArray, List.set_cons_zero, List.set_cons_succ, i64_w, i32_w]
                                                                      rfl
                                                                    refine pure_ (i := 16) (N := some 148) (v := ?_) (a' := ?_) #[true, true, true, true, true, true, true, true, true, true, true, true, true, false, true, true, true, false, false, false] rfl rfl (any_of HT_.out (by kernel_rfl)) (fun _ _ _ h => h) (Or.inl ⟨by rfl, ?_⟩) ?_ ?_
                                                                    rotate_left
                                                                    · intro w'
                                                                      go_simp
                                                                      with_reducible rfl
                                                                    rotate_left
                                                                    · simp only [Act.put, List.setIfInBounds_toArray, List.set_cons_zero, List.set_cons_succ, i64_w, i32_w]
                                                                      rfl
                                                                    refine take_ (i := 13) (N := some 145) (v := ?_) (a' := ?_) #[true, true, true, true, true, true, true, true, true, true, true, true, true, true, true, true, true, false, false, false] rfl rfl (take_ofW HT_.out HW_.out (by kernel_rfl)) (fun _ _ _ h => h) (Or.inl ⟨by rfl, ?_⟩) hHeld ?_ ?_
                                                                    rotate_left
                                                                    · rintro w' ⟨s0, s1, s2, s3⟩
                                                                      go_simp
                                                                      with_reducible rfl
                                                                    rotate_left
                                                                    · simp only [Act.put, List.setIfInBounds_toArray, List.set_cons_zero, List.set_cons_succ, i64_w, i32_w]
                                                                      rfl
                                                                    refine take_ (i := 17) (N := some 149) (v := ?_) (a' := ?_) #[true, true, true, true, true, true, true, true, true, true, true, true, true, true, true, true, true, true, false, false] rfl rfl (take_ofW HT_.out HW_.out (by kernel_rfl)) (fun _ _ _ h => h) (Or.inl ⟨by rfl, ?_⟩) hHeld ?_ ?_
                                                                    rotate_left
                                                                    · rintro w' ⟨s0, s1, s2, s3⟩
                                                                      go_simp
                                                                      with_reducible rfl
                                                                    rotate_left
                                                                    · simp only [Act.put, List.setIfInBounds_toArray, List.set_cons_zero, List.set_cons_succ, i64_w, i32_w]
                                                                      rfl
                                                                    refine pure_ (i := 18) (N := some 150) (v := ?_) (a' := ?_) #[true, true, true, true, true, true, true, true, true, true, true, true, true, true, true, true, true, true, true, false] rfl rfl (any_of HT_.out (by kernel_rfl)) (fun _ _ _ h => h) (Or.inl ⟨by rfl, ?_⟩) ?_ ?_
                                                                    rotate_left
                                                                    · intro w'
                                                                      go_simp
                                                                      with_reducible rfl
                                                                    rotate_left
                                                                    · simp only [Act.put, List.setIfInBounds_toArray, List.set_cons_zero, List.set_cons_succ, i64_w, i32_w]
                                                                      rfl
                                                                    refine pure_ (i := 19) (N := some 151) (v := ?_) (a' := ?_) #[true, true, true, true, true, true, true, true, true, true, true, true, true, true, true, true, true, true, true, true] rfl rfl (any_of HT_.out (by kernel_rfl)) (fun _ _ _ h => h) (Or.inl ⟨by rfl, ?_⟩) ?_ ?_
                                                                    rotate_left
                                                                    · intro w'
                                                                      go_simp
                                                                      with_reducible rfl
                                                                    rotate_left
                                                                    · simp only [Act.put, List.setIfInBounds_toArray, List.set_cons_zero, List.set_cons_succ, i64_w, i32_w]
                                                                      rfl
                                                                    refine done_ (done_of HT_.out (by kernel_rfl)) ?_
                                                                    try go_wp2
                                                                    go_roundg k4
                                                                    case measure => have := HJ7.out; have := HJ17.out; have := HJ43.out; have := HK4.out; omega
                                                                    case rel => exact ⟨(wrap64 (x21_4 + 1)), (by first | rfl | (simp; done) | (simp [*]; done)), H', ⟨by have := HJ7.out; have := HJ17.out; have := HJ43.out; have := HK4.out; omega⟩, ⟨by (with_reducible repeat (first | apply Kd.R_alloc | apply Kd.R_drewN | apply Kd.R_drew)); exact HO_14.out⟩, ⟨by (with_reducible repeat (first | apply Kd.R_alloc | apply Kd.R_drewN | apply Kd.R_drew)); exact HO_19.out⟩, ⟨by repeat (first | (with_reducible first | exact HB.out | apply below_alloc | apply pw_below_drewN | apply below_drew1) | exact HB.out)⟩⟩
                                                                  · rw [if_neg c100] at H
                                                                    exact absurd H (by simp)
                                                                · rw [if_neg c99] at H
                                                                  exact absurd H (by simp)
                                                            · rw [if_neg c95] at H
                                                              exact absurd H (by simp)
                                                          · rw [if_neg c94] at H
                                                            exact absurd H (by simp)
                                                        · rw [if_neg c93] at H
                                                          exact absurd H (by simp)
                                                      · rw [if_neg c92] at H
                                                        exact absurd H (by simp)
                                                  · rw [if_neg c76] at H
                                                    have c76b0 : decide (x21_4 < (t103.length : Int)) = false := decide_eq_false c76
                                                    clear c76
                                                    obtain rfl := Option.some.inj H
                                                    obtain ⟨Ao104, co104, eo104⟩ := Kd.R_slice HO_14.out
                                                    subst eo104
                                                    go_wp2
                                                    go_ret
                                                    exact ⟨by first | rfl | (simp [errW_none, errW_some] <;> rfl) | (simp only [← hji29]; first | rfl | (simp [errW_none, errW_some] <;> rfl)) | (simp [*, errW_none, errW_some] <;> rfl), by repeat (first | (with_reducible first | exact HB.out | apply below_alloc | apply pw_below_drewN | apply below_drew1) | exact HB.out)⟩
                                      · rw [if_neg c42] at H
                                        exact absurd H (by simp)
                                    · rw [if_neg c41] at H
                                      exact absurd H (by simp)
                                  · rw [if_neg c39] at H
                                    exact absurd H (by simp)
                                · rw [if_neg c38] at H
                                  exact absurd H (by simp)
                              · rw [if_neg c37] at H
                                exact absurd H (by simp)
                            · rw [if_neg c35] at H
                              exact absurd H (by simp)
                          · rw [if_neg c32] at H
                            exact absurd H (by simp)
                        · rw [if_neg c31] at H
                          exact absurd H (by simp)
                      · rw [if_neg c30] at H
                        exact absurd H (by simp)
                    · rw [if_neg c28] at H
                      exact absurd H (by simp)
                  · rw [if_neg c27] at H
                    exact absurd H (by simp)
                · rw [if_neg c26] at H
                  exact absurd H (by simp)
/-- THE ONE PURE STATEMENT of observatorylaw29_LotterySplits: yours. -/
def observatorylaw29_LotterySplits.Pure : Prop := ∀ (l0 : List Int) (l1 : List Int) (l2 : List Int) (a3 : Int) (a4 : Int) (a5 : Int), l0.length ≤ maxLen → l0.length * 8 ≤ 140737488351232 → (∀ x ∈ l0, (Lit.int .i64 x).wf = true) → l1.length ≤ maxLen → l1.length * 8 ≤ 140737488351232 → (∀ x ∈ l1, (Lit.int .i64 x).wf = true) → l2.length ≤ maxLen → l2.length * 8 ≤ 140737488351232 → (∀ x ∈ l2, (Lit.int .i64 x).wf = true) → (Lit.int .u8 a3).wf = true → (Lit.int .u16 a4).wf = true → (Lit.int .u16 a5).wf = true → ∃ k, observatorylaw29_LotterySplits.f k l0 l1 l2 a3 a4 a5 = some true
theorem observatorylaw29_LotterySplits.walk (P : observatorylaw29_LotterySplits.Pure) (a0 : Option Addr) (len0 cap0 : Nat) (z0 : List Int) (a1 : Option Addr) (len1 cap1 : Nat) (z1 : List Int) (a2 : Option Addr) (len2 cap2 : Nat) (z2 : List Int) (a3 : Int) (a4 : Int) (a5 : Int) (w : World) (hL : Laid w) (w0 : (a0 = none ∧ len0 = 0 ∧ cap0 = 0 ∧ z0 = []) ∨ ∃ x, a0 = some x ∧ len0 ≤ cap0 ∧ cap0 ≤ maxLen ∧ z0.length = cap0 ∧ (∀ i, i < z0.length → w.cell? (x.add i) = some (.int .i64 (z0.getD i 0))) ∧ ∀ n ∈ z0, (Lit.int .i64 n).wf = true) (y0 : len0 * 8 ≤ 140737488351232) (w1 : (a1 = none ∧ len1 = 0 ∧ cap1 = 0 ∧ z1 = []) ∨ ∃ x, a1 = some x ∧ len1 ≤ cap1 ∧ cap1 ≤ maxLen ∧ z1.length = cap1 ∧ (∀ i, i < z1.length → w.cell? (x.add i) = some (.int .i64 (z1.getD i 0))) ∧ ∀ n ∈ z1, (Lit.int .i64 n).wf = true) (y1 : len1 * 8 ≤ 140737488351232) (w2 : (a2 = none ∧ len2 = 0 ∧ cap2 = 0 ∧ z2 = []) ∨ ∃ x, a2 = some x ∧ len2 ≤ cap2 ∧ cap2 ≤ maxLen ∧ z2.length = cap2 ∧ (∀ i, i < z2.length → w.cell? (x.add i) = some (.int .i64 (z2.getD i 0))) ∧ ∀ n ∈ z2, (Lit.int .i64 n).wf = true) (y2 : len2 * 8 ≤ 140737488351232) (w3 : (Lit.int .u8 a3).wf = true) (w4 : (Lit.int .u16 a4).wf = true) (w5 : (Lit.int .u16 a5).wf = true) :
    Calls Tryz.prog 6 #[.slice a0 len0 cap0, .slice a1 len1 cap1, .slice a2 len2 cap2, .int .u8 a3, .int .u16 a4, .int .u16 a5] w fun e w' => e = .returned (.bool true) ∧ Below w.heap.size w w' := by
  obtain ⟨l0, rfl, hr0, hm0, hw0, hc0⟩ := ReadsInt.ofRowC w0
  obtain ⟨l1, rfl, hr1, hm1, hw1, hc1⟩ := ReadsInt.ofRowC w1
  obtain ⟨l2, rfl, hr2, hm2, hw2, hc2⟩ := ReadsInt.ofRowC w2
  obtain ⟨k, h⟩ := P l0 l1 l2 a3 a4 a5 hm0 y0 hw0 hm1 y1 hw1 hm2 y2 hw2 w3 w4 w5
  refine (observatorylaw29_LotterySplits.calls k _ _ l0 _ _ l1 _ _ l2 a3 a4 a5 true w (Kd.C_of_reads (d := (0 : Int)) (h1 := fun _ => rfl) hr0) hc0 (Kd.C_of_reads (d := (0 : Int)) (h1 := fun _ => rfl) hr1) hc1 (Kd.C_of_reads (d := (0 : Int)) (h1 := fun _ => rfl) hr2) hc2 hL h).mono ?_
  rintro e w' ⟨rfl, hd⟩
  exact ⟨rfl, hd⟩
end Go.Proofs.YtmapgmibbceooaaGreatDoor.XLSpl
end

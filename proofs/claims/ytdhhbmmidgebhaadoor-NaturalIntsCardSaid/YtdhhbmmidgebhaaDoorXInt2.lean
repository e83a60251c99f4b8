/- Written by a program of this session (xprint.sh), out of the translation: Lean functions that tell what Go functions of the program tell, and the proofs that they do, over the given callees; no condition but what each theorem states. -/
import Derived.Test.YtdhhbmmidgebhaaDoorXInt0
namespace Go.Proofs.YtdhhbmmidgebhaaDoor.XInt
open Go.RowKit Go.Proofs.YtdhhbmmidgebhaaDoorW.PrintWords Go.Proofs.YtdhhbmmidgebhaaDoorW.PrintLast Go.Proofs.YtdhhbmmidgebhaaDoorW.PrintMore
attribute [local go_sem] max2_int min2_int max_two min_two max_three min_three max_four min_four   -- for this text's walks alone
set_option linter.unusedVariables false
set_option linter.unusedSimpArgs false

/-! ### observatorylaw03_NaturalInts: function 7 -/
mutual
def observatorylaw03_NaturalInts.j0 : Nat → Int → Int → Bool → Bool → Option (Bool)
  | 0, _, _, _, _ => none
  | k + 1, x0, x1, x5, x46 => if x46 = true then (some x5) else ((natural_Of.f x0).bind fun bt102 => ((natural_Of.f x1).bind fun bt104 => ((natural_Int.f bt102.1).bind fun bt106 => (if bt102.2 = 0 then (if bt104.2 = 0 then (if bt106.2 = 0 then (observatorylaw03_NaturalInts.j1 k x0 x1 x5 bt102.1 bt104.1 (bt106.1 != x0)) else (observatorylaw03_NaturalInts.j1 k x0 x1 x5 bt102.1 bt104.1 true)) else (observatorylaw03_NaturalInts.j1 k x0 x1 x5 bt102.1 bt104.1 true)) else (observatorylaw03_NaturalInts.j1 k x0 x1 x5 bt102.1 bt104.1 true)))))
def observatorylaw03_NaturalInts.j1 : Nat → Int → Int → Bool → ByteArray → ByteArray → Bool → Option (Bool)
  | 0, _, _, _, _, _, _ => none
  | k + 1, x0, x1, x5, x6, x8, x77 => if x77 = true then (some false) else ((natural_Compare.f x6 x8).bind fun t108 => (if ((decide (t108 < 0)) != (decide (x0 < x1))) = true then (observatorylaw03_NaturalInts.j2 k x0 x1 x5 x6 x8 true) else (observatorylaw03_NaturalInts.j2 k x0 x1 x5 x6 x8 ((decide (t108 > 0)) != (decide (x0 > x1))))))
def observatorylaw03_NaturalInts.j2 : Nat → Int → Int → Bool → ByteArray → ByteArray → Bool → Option (Bool)
  | 0, _, _, _, _, _, _ => none
  | k + 1, x0, x1, x5, x6, x8, x94 => if x94 = true then (some false) else ((natural_Add.f x6 x8).bind fun bt109 => ((natural_Int.f bt109.1).bind fun bt111 => (if bt109.2 = 0 then (if (wrap64 (x0 + x1)) ≤ 1000000000000 then (if bt111.2 = 0 then (if bt111.1 = (wrap64 (x0 + x1)) then (if (wrap64 (x0 + x1)) > 1000000000000 then (observatorylaw03_NaturalInts.j3 k x0 x1 x5 x6 x8 (bt111.2 != 9)) else (observatorylaw03_NaturalInts.j3 k x0 x1 x5 x6 x8 false)) else (observatorylaw03_NaturalInts.j3 k x0 x1 x5 x6 x8 true)) else (observatorylaw03_NaturalInts.j3 k x0 x1 x5 x6 x8 true)) else (if (wrap64 (x0 + x1)) > 1000000000000 then (observatorylaw03_NaturalInts.j3 k x0 x1 x5 x6 x8 (bt111.2 != 9)) else (observatorylaw03_NaturalInts.j3 k x0 x1 x5 x6 x8 false))) else (observatorylaw03_NaturalInts.j3 k x0 x1 x5 x6 x8 true))))
def observatorylaw03_NaturalInts.j3 : Nat → Int → Int → Bool → ByteArray → ByteArray → Bool → Option (Bool)
  | 0, _, _, _, _, _, _ => none
  | k + 1, x0, x1, x5, x6, x8, x134 => if x134 = true then (some false) else ((natural_Sub.f x6 x8).bind fun bt113 => ((natural_Int.f bt113.1).bind fun bt115 => (if ((bt113.2 == 0) != (decide (x0 ≥ x1))) = true then (observatorylaw03_NaturalInts.j4 k x0 x1 x5 x6 x8 true) else (if bt113.2 = 0 then (if bt115.1 = (wrap64 (x0 - x1)) then (observatorylaw03_NaturalInts.j4 k x0 x1 x5 x6 x8 false) else (observatorylaw03_NaturalInts.j4 k x0 x1 x5 x6 x8 true)) else (observatorylaw03_NaturalInts.j4 k x0 x1 x5 x6 x8 (bt113.2 != 9))))))
def observatorylaw03_NaturalInts.j4 : Nat → Int → Int → Bool → ByteArray → ByteArray → Bool → Option (Bool)
  | 0, _, _, _, _, _, _ => none
  | k + 1, x0, x1, x5, x6, x8, x170 => if x170 = true then (some false) else (if x1 > 0 then ((natural_Div.f x6 x8).bind fun bt117 => ((natural_Int.f bt117.1).bind fun bt120 => ((natural_Int.f bt117.2.1).bind fun bt122 => (if bt117.2.2 = 0 then (if x1 = 0 then (none) else (if bt120.1 = (wrap64 (Int.tdiv x0 x1)) then (if bt122.1 = (Int.tmod x0 x1) then (observatorylaw03_NaturalInts.j5 k x0 x1 x5 x6 x8) else (some false)) else (some false))) else (some false))))) else (observatorylaw03_NaturalInts.j5 k x0 x1 x5 x6 x8))
def observatorylaw03_NaturalInts.j5 : Nat → Int → Int → Bool → ByteArray → ByteArray → Option (Bool)
  | 0, _, _, _, _, _ => none
  | k + 1, x0, x1, x5, x6, x8 => if x0 ≥ 1000000 then (observatorylaw03_NaturalInts.j6 k x0 x1 x5 x6 x8 true) else (observatorylaw03_NaturalInts.j6 k x0 x1 x5 x6 x8 (decide (x1 ≥ 1000000)))
def observatorylaw03_NaturalInts.j6 : Nat → Int → Int → Bool → ByteArray → ByteArray → Bool → Option (Bool)
  | 0, _, _, _, _, _, _ => none
  | k + 1, x0, x1, x5, x6, x8, x211 => if x211 = true then (some x5) else ((natural_Mul.f x6 x8).bind fun bt124 => ((natural_Int.f bt124.1).bind fun bt126 => (if x5 = true then (if bt124.2 = 0 then (if bt126.2 = 0 then (some (bt126.1 == (wrap64 (x0 * x1)))) else (some false)) else (some false)) else (some false))))
end
def observatorylaw03_NaturalInts.f (k : Nat) (a0 : Int) (a1 : Int) : Option (Bool) := (observatorylaw03_head.f).bind fun t101 => (if a0 < 0 then (observatorylaw03_NaturalInts.j0 k a0 a1 t101 true) else (if a0 > 1000000000000 then (observatorylaw03_NaturalInts.j0 k a0 a1 t101 true) else (if a1 < 0 then (observatorylaw03_NaturalInts.j0 k a0 a1 t101 true) else (observatorylaw03_NaturalInts.j0 k a0 a1 t101 (decide (a1 > 1000000000000))))))
theorem observatorylaw03_NaturalInts.mono_l : ∀ k, (∀ y0 y1 y2 y3, LeO (observatorylaw03_NaturalInts.j0 k y0 y1 y2 y3) (observatorylaw03_NaturalInts.j0 (k + 1) y0 y1 y2 y3)) ∧ (∀ y0 y1 y2 y3 y4 y5, LeO (observatorylaw03_NaturalInts.j1 k y0 y1 y2 y3 y4 y5) (observatorylaw03_NaturalInts.j1 (k + 1) y0 y1 y2 y3 y4 y5)) ∧ (∀ y0 y1 y2 y3 y4 y5, LeO (observatorylaw03_NaturalInts.j2 k y0 y1 y2 y3 y4 y5) (observatorylaw03_NaturalInts.j2 (k + 1) y0 y1 y2 y3 y4 y5)) ∧ (∀ y0 y1 y2 y3 y4 y5, LeO (observatorylaw03_NaturalInts.j3 k y0 y1 y2 y3 y4 y5) (observatorylaw03_NaturalInts.j3 (k + 1) y0 y1 y2 y3 y4 y5)) ∧ (∀ y0 y1 y2 y3 y4 y5, LeO (observatorylaw03_NaturalInts.j4 k y0 y1 y2 y3 y4 y5) (observatorylaw03_NaturalInts.j4 (k + 1) y0 y1 y2 y3 y4 y5)) ∧ (∀ y0 y1 y2 y3 y4, LeO (observatorylaw03_NaturalInts.j5 k y0 y1 y2 y3 y4) (observatorylaw03_NaturalInts.j5 (k + 1) y0 y1 y2 y3 y4)) ∧ (∀ y0 y1 y2 y3 y4 y5, LeO (observatorylaw03_NaturalInts.j6 k y0 y1 y2 y3 y4 y5) (observatorylaw03_NaturalInts.j6 (k + 1) y0 y1 y2 y3 y4 y5))
  | 0 => ⟨fun _ _ _ _ r h => by simp [observatorylaw03_NaturalInts.j0] at h, fun _ _ _ _ _ _ r h => by simp [observatorylaw03_NaturalInts.j1] at h, fun _ _ _ _ _ _ r h => by simp [observatorylaw03_NaturalInts.j2] at h, fun _ _ _ _ _ _ r h => by simp [observatorylaw03_NaturalInts.j3] at h, fun _ _ _ _ _ _ r h => by simp [observatorylaw03_NaturalInts.j4] at h, fun _ _ _ _ _ r h => by simp [observatorylaw03_NaturalInts.j5] at h, fun _ _ _ _ _ _ r h => by simp [observatorylaw03_NaturalInts.j6] at h⟩
  | k + 1 => by
    obtain ⟨ih0, ih1, ih2, ih3, ih4, ih5, ih6⟩ := observatorylaw03_NaturalInts.mono_l k
    refine ⟨?_, ?_, ?_, ?_, ?_, ?_, ?_⟩
    · intro y0 y1 y2 y3
      unfold observatorylaw03_NaturalInts.j0
      repeat' first
      | (with_reducible exact ih0 _ _ _ _)
      | (with_reducible exact ih1 _ _ _ _ _ _)
      | (with_reducible exact ih2 _ _ _ _ _ _)
      | (with_reducible exact ih3 _ _ _ _ _ _)
      | (with_reducible exact ih4 _ _ _ _ _ _)
      | (with_reducible exact ih5 _ _ _ _ _)
      | (with_reducible exact ih6 _ _ _ _ _ _)
      | (with_reducible exact LeO.refl _)
      | (with_reducible exact LeO.none _)
      | (with_reducible refine LeO.ite ?_ ?_)
      | (with_reducible refine LeO.bind ?_ (fun _ => ?_))
      | exact ih0 _ _ _ _
      | exact ih1 _ _ _ _ _ _
      | exact ih2 _ _ _ _ _ _
      | exact ih3 _ _ _ _ _ _
      | exact ih4 _ _ _ _ _ _
      | exact ih5 _ _ _ _ _
      | exact ih6 _ _ _ _ _ _
      | exact LeO.none _
      | refine LeO.ite ?_ ?_
      | refine LeO.bind ?_ (fun _ => ?_)
    · intro y0 y1 y2 y3 y4 y5
      unfold observatorylaw03_NaturalInts.j1
      repeat' first
      | (with_reducible exact ih0 _ _ _ _)
      | (with_reducible exact ih1 _ _ _ _ _ _)
      | (with_reducible exact ih2 _ _ _ _ _ _)
      | (with_reducible exact ih3 _ _ _ _ _ _)
      | (with_reducible exact ih4 _ _ _ _ _ _)
      | (with_reducible exact ih5 _ _ _ _ _)
      | (with_reducible exact ih6 _ _ _ _ _ _)
      | (with_reducible exact LeO.refl _)
      | (with_reducible exact LeO.none _)
      | (with_reducible refine LeO.ite ?_ ?_)
      | (with_reducible refine LeO.bind ?_ (fun _ => ?_))
      | exact ih0 _ _ _ _
      | exact ih1 _ _ _ _ _ _
      | exact ih2 _ _ _ _ _ _
      | exact ih3 _ _ _ _ _ _
      | exact ih4 _ _ _ _ _ _
      | exact ih5 _ _ _ _ _
      | exact ih6 _ _ _ _ _ _
      | exact LeO.none _
      | refine LeO.ite ?_ ?_
      | refine LeO.bind ?_ (fun _ => ?_)
    · intro y0 y1 y2 y3 y4 y5
      unfold observatorylaw03_NaturalInts.j2
      repeat' first
      | (with_reducible exact ih0 _ _ _ _)
      | (with_reducible exact ih1 _ _ _ _ _ _)
      | (with_reducible exact ih2 _ _ _ _ _ _)
      | (with_reducible exact ih3 _ _ _ _ _ _)
      | (with_reducible exact ih4 _ _ _ _ _ _)
      | (with_reducible exact ih5 _ _ _ _ _)
      | (with_reducible exact ih6 _ _ _ _ _ _)
      | (with_reducible exact LeO.refl _)
      | (with_reducible exact LeO.none _)
      | (with_reducible refine LeO.ite ?_ ?_)
      | (with_reducible refine LeO.bind ?_ (fun _ => ?_))
      | exact ih0 _ _ _ _
      | exact ih1 _ _ _ _ _ _
      | exact ih2 _ _ _ _ _ _
      | exact ih3 _ _ _ _ _ _
      | exact ih4 _ _ _ _ _ _
      | exact ih5 _ _ _ _ _
      | exact ih6 _ _ _ _ _ _
      | exact LeO.none _
      | refine LeO.ite ?_ ?_
      | refine LeO.bind ?_ (fun _ => ?_)
    · intro y0 y1 y2 y3 y4 y5
      unfold observatorylaw03_NaturalInts.j3
      repeat' first
      | (with_reducible exact ih0 _ _ _ _)
      | (with_reducible exact ih1 _ _ _ _ _ _)
      | (with_reducible exact ih2 _ _ _ _ _ _)
      | (with_reducible exact ih3 _ _ _ _ _ _)
      | (with_reducible exact ih4 _ _ _ _ _ _)
      | (with_reducible exact ih5 _ _ _ _ _)
      | (with_reducible exact ih6 _ _ _ _ _ _)
      | (with_reducible exact LeO.refl _)
      | (with_reducible exact LeO.none _)
      | (with_reducible refine LeO.ite ?_ ?_)
      | (with_reducible refine LeO.bind ?_ (fun _ => ?_))
      | exact ih0 _ _ _ _
      | exact ih1 _ _ _ _ _ _
      | exact ih2 _ _ _ _ _ _
      | exact ih3 _ _ _ _ _ _
      | exact ih4 _ _ _ _ _ _
      | exact ih5 _ _ _ _ _
      | exact ih6 _ _ _ _ _ _
      | exact LeO.none _
      | refine LeO.ite ?_ ?_
      | refine LeO.bind ?_ (fun _ => ?_)
    · intro y0 y1 y2 y3 y4 y5
      unfold observatorylaw03_NaturalInts.j4
      repeat' first
      | (with_reducible exact ih0 _ _ _ _)
      | (with_reducible exact ih1 _ _ _ _ _ _)
      | (with_reducible exact ih2 _ _ _ _ _ _)
      | (with_reducible exact ih3 _ _ _ _ _ _)
      | (with_reducible exact ih4 _ _ _ _ _ _)
      | (with_reducible exact ih5 _ _ _ _ _)
      | (with_reducible exact ih6 _ _ _ _ _ _)
      | (with_reducible exact LeO.refl _)
      | (with_reducible exact LeO.none _)
      | (with_reducible refine LeO.ite ?_ ?_)
      | (with_reducible refine LeO.bind ?_ (fun _ => ?_))
      | exact ih0 _ _ _ _
      | exact ih1 _ _ _ _ _ _
      | exact ih2 _ _ _ _ _ _
      | exact ih3 _ _ _ _ _ _
      | exact ih4 _ _ _ _ _ _
      | exact ih5 _ _ _ _ _
      | exact ih6 _ _ _ _ _ _
      | exact LeO.none _
      | refine LeO.ite ?_ ?_
      | refine LeO.bind ?_ (fun _ => ?_)
    · intro y0 y1 y2 y3 y4
      unfold observatorylaw03_NaturalInts.j5
      repeat' first
      | (with_reducible exact ih0 _ _ _ _)
      | (with_reducible exact ih1 _ _ _ _ _ _)
      | (with_reducible exact ih2 _ _ _ _ _ _)
      | (with_reducible exact ih3 _ _ _ _ _ _)
      | (with_reducible exact ih4 _ _ _ _ _ _)
      | (with_reducible exact ih5 _ _ _ _ _)
      | (with_reducible exact ih6 _ _ _ _ _ _)
      | (with_reducible exact LeO.refl _)
      | (with_reducible exact LeO.none _)
      | (with_reducible refine LeO.ite ?_ ?_)
      | (with_reducible refine LeO.bind ?_ (fun _ => ?_))
      | exact ih0 _ _ _ _
      | exact ih1 _ _ _ _ _ _
      | exact ih2 _ _ _ _ _ _
      | exact ih3 _ _ _ _ _ _
      | exact ih4 _ _ _ _ _ _
      | exact ih5 _ _ _ _ _
      | exact ih6 _ _ _ _ _ _
      | exact LeO.none _
      | refine LeO.ite ?_ ?_
      | refine LeO.bind ?_ (fun _ => ?_)
    · intro y0 y1 y2 y3 y4 y5
      unfold observatorylaw03_NaturalInts.j6
      repeat' first
      | (with_reducible exact ih0 _ _ _ _)
      | (with_reducible exact ih1 _ _ _ _ _ _)
      | (with_reducible exact ih2 _ _ _ _ _ _)
      | (with_reducible exact ih3 _ _ _ _ _ _)
      | (with_reducible exact ih4 _ _ _ _ _ _)
      | (with_reducible exact ih5 _ _ _ _ _)
      | (with_reducible exact ih6 _ _ _ _ _ _)
      | (with_reducible exact LeO.refl _)
      | (with_reducible exact LeO.none _)
      | (with_reducible refine LeO.ite ?_ ?_)
      | (with_reducible refine LeO.bind ?_ (fun _ => ?_))
      | exact ih0 _ _ _ _
      | exact ih1 _ _ _ _ _ _
      | exact ih2 _ _ _ _ _ _
      | exact ih3 _ _ _ _ _ _
      | exact ih4 _ _ _ _ _ _
      | exact ih5 _ _ _ _ _
      | exact ih6 _ _ _ _ _ _
      | exact LeO.none _
      | refine LeO.ite ?_ ?_
      | refine LeO.bind ?_ (fun _ => ?_)
theorem observatorylaw03_NaturalInts.mono : ∀ a0 a1 k, LeO (observatorylaw03_NaturalInts.f k a0 a1) (observatorylaw03_NaturalInts.f (k + 1) a0 a1) := by
  intro a0 a1 k
  obtain ⟨ih0, ih1, ih2, ih3, ih4, ih5, ih6⟩ := observatorylaw03_NaturalInts.mono_l k
  unfold observatorylaw03_NaturalInts.f
  repeat' first
      | (with_reducible exact ih0 _ _ _ _)
      | (with_reducible exact ih1 _ _ _ _ _ _)
      | (with_reducible exact ih2 _ _ _ _ _ _)
      | (with_reducible exact ih3 _ _ _ _ _ _)
      | (with_reducible exact ih4 _ _ _ _ _ _)
      | (with_reducible exact ih5 _ _ _ _ _)
      | (with_reducible exact ih6 _ _ _ _ _ _)
      | (with_reducible exact LeO.refl _)
      | (with_reducible exact LeO.none _)
      | (with_reducible refine LeO.ite ?_ ?_)
      | (with_reducible refine LeO.bind ?_ (fun _ => ?_))
      | exact ih0 _ _ _ _
      | exact ih1 _ _ _ _ _ _
      | exact ih2 _ _ _ _ _ _
      | exact ih3 _ _ _ _ _ _
      | exact ih4 _ _ _ _ _ _
      | exact ih5 _ _ _ _ _
      | exact ih6 _ _ _ _ _ _
      | exact LeO.none _
      | refine LeO.ite ?_ ?_
      | refine LeO.bind ?_ (fun _ => ?_)
set_option maxHeartbeats 8000000 in
set_option maxRecDepth 100000 in
theorem observatorylaw03_NaturalInts.calls (k : Nat) (a0 : Int) (a1 : Int) (r : Bool) (w : World) (hL : Laid w) (h : observatorylaw03_NaturalInts.f k a0 a1 = some r) :
    Calls Tryd.prog 7 #[.int .i64 a0, .int .i64 a1] w fun e w' => e = .returned (.bool r) ∧ Below w.heap.size w w' := by
  have HLaid := Aside0.mk hL
  clear hL
  have HB := Aside0.mk (Below.refl w.heap.size w)
  have H : ((observatorylaw03_head.f).bind fun t101 => (if a0 < 0 then (observatorylaw03_NaturalInts.j0 k a0 a1 t101 true) else (if a0 > 1000000000000 then (observatorylaw03_NaturalInts.j0 k a0 a1 t101 true) else (if a1 < 0 then (observatorylaw03_NaturalInts.j0 k a0 a1 t101 true) else (observatorylaw03_NaturalInts.j0 k a0 a1 t101 (decide (a1 > 1000000000000))))))) = some r := h
  clear h
  replace H := Option.bind_eq_some_iff.mp H
  obtain ⟨t101, A30, H⟩ := H
  replace H : (if a0 < 0 then (observatorylaw03_NaturalInts.j0 k a0 a1 t101 true) else (if a0 > 1000000000000 then (observatorylaw03_NaturalInts.j0 k a0 a1 t101 true) else (if a1 < 0 then (observatorylaw03_NaturalInts.j0 k a0 a1 t101 true) else (observatorylaw03_NaturalInts.j0 k a0 a1 t101 (decide (a1 > 1000000000000)))))) = some r := H
  have A3 := Aside0.mk A30
  clear A30
  have HC4 := Aside0.mk H
  clear H
  go_enter Tryd.func7, Tryd.ntmps7
  go_upto_region 2 with (first | ((with_reducible refine gate_callee (f := 9) rfl ?_); refine goesL_ (some 32) rfl rfl Tryd.func9 (by kernel_rfl) rfl #[] rfl (by (try simp only [List.map_toArray, List.map_cons, List.map_nil]); first | done | rfl | (simp only [List.length_drop, List.length_take]; rfl)) ?_; (with_reducible refine (observatorylaw03_head.calls  t101 _ ?side1 A3.out).mono ?_); (case side1 => exact Laid.below HLaid.out (by repeat (first | (with_reducible first | exact HB.out | apply below_alloc | apply pw_below_drewN | apply below_drew1) | exact HB.out))); rintro e w5 ⟨rfl, hb⟩; refine ⟨_, rfl, ?_⟩; have n0_ := Aside0.mk (below_step (by repeat (first | (with_reducible first | exact HB.out | apply below_alloc | apply pw_below_drewN | apply below_drew1) | exact HB.out)) hb); clear HB; have HB := n0_; clear n0_; (try clear hb); (try clear hb2); (try clear hk); (try clear hi)))
  (try simp only [Act.put, List.setIfInBounds_toArray, List.set_cons_zero, List.set_cons_succ])
  go_cut [46] (fun v46 wc => ∃ (kq : Nat) (x46_3 : Bool), v46 = .bool x46_3 ∧ Aside0 (observatorylaw03_NaturalInts.j0 kq a0 a1 t101 x46_3 = some r) ∧ Aside0 (kq ≤ k) ∧ Aside0 (Below w.heap.size w wc))
  case first => as_aux_lemma =>
    have H := HC4.out
    clear HC4
    by_cases c6 : a0 < 0
    · rw [if_pos c6] at H
      have c6b0 : decide (a0 < 0) = true := decide_eq_true c6
      clear c6
      (first | rw [c6b0] | (simp only [i64_w, i32_w]; rw [c6b0]) | skip)
      have H' := Aside0.mk H
      clear H
      go_wp2
      go_meet
      case rel => exact ⟨_, (true), (by first | rfl | (simp; done) | (simp [*]; done)), H', ⟨by first | omega | exact Nat.le_refl _⟩, ⟨by repeat (first | (with_reducible first | exact HB.out | apply below_alloc | apply pw_below_drewN | apply below_drew1) | exact HB.out)⟩⟩
    · rw [if_neg c6] at H
      have c6b0 : decide (a0 < 0) = false := decide_eq_false c6
      clear c6
      (first | rw [c6b0] | (simp only [i64_w, i32_w]; rw [c6b0]) | skip)
      by_cases c7 : a0 > 1000000000000
      · rw [if_pos c7] at H
        have c7b0 : decide (1000000000000 < a0) = true := decide_eq_true c7
        clear c7
        have H' := Aside0.mk H
        clear H
        go_wp2
        go_meet
        case rel => exact ⟨_, (true), (by first | rfl | (simp; done) | (simp [*]; done)), H', ⟨by first | omega | exact Nat.le_refl _⟩, ⟨by repeat (first | (with_reducible first | exact HB.out | apply below_alloc | apply pw_below_drewN | apply below_drew1) | exact HB.out)⟩⟩
      · rw [if_neg c7] at H
        have c7b0 : decide (1000000000000 < a0) = false := decide_eq_false c7
        clear c7
        by_cases c8 : a1 < 0
        · rw [if_pos c8] at H
          have c8b0 : decide (a1 < 0) = true := decide_eq_true c8
          clear c8
          have H' := Aside0.mk H
          clear H
          go_wp2
          go_meet
          case rel => exact ⟨_, (true), (by first | rfl | (simp; done) | (simp [*]; done)), H', ⟨by first | omega | exact Nat.le_refl _⟩, ⟨by repeat (first | (with_reducible first | exact HB.out | apply below_alloc | apply pw_below_drewN | apply below_drew1) | exact HB.out)⟩⟩
        · rw [if_neg c8] at H
          have c8b0 : decide (a1 < 0) = false := decide_eq_false c8
          clear c8
          have H' := Aside0.mk H
          clear H
          go_wp2
          go_meet
          case rel => exact ⟨_, (decide (a1 > 1000000000000)), (by first | rfl | (simp; done) | (simp [*]; done)), H', ⟨by first | omega | exact Nat.le_refl _⟩, ⟨by repeat (first | (with_reducible first | exact HB.out | apply below_alloc | apply pw_below_drewN | apply below_drew1) | exact HB.out)⟩⟩
  case rest => as_aux_lemma =>
    clear HC4
    try clear p2
    try clear c6
    try clear c6b0
    try clear c7
    try clear c7b0
    try clear c8
    try clear c8b0
    obtain ⟨kq, x46_3, rfl, HA, HJ3, HB⟩ := hcut
    cases kq with
    | zero => exact absurd HA.out (by simp [observatorylaw03_NaturalInts.j0])
    | succ kj3 =>
      have H := HA.out
      clear HA
      simp only [observatorylaw03_NaturalInts.j0] at H
      by_cases c9 : x46_3 = true
      · subst c9
        have H1 : (some t101) = some r := by rw [if_pos rfl] at H; exact H
        clear H
        have H := H1
        clear H1
        obtain rfl := Option.some.inj H
        go_wp2
        go_ret
        exact ⟨by first | rfl | (simp [errW_none, errW_some] <;> rfl) | (simp [*, errW_none, errW_some] <;> rfl), by repeat (first | (with_reducible first | exact HB.out | apply below_alloc | apply pw_below_drewN | apply below_drew1) | exact HB.out)⟩
      · replace c9 := Bool.eq_false_iff.mpr c9
        subst c9
        have H1 : ((natural_Of.f a0).bind fun bt102 => ((natural_Of.f a1).bind fun bt104 => ((natural_Int.f bt102.1).bind fun bt106 => (if bt102.2 = 0 then (if bt104.2 = 0 then (if bt106.2 = 0 then (observatorylaw03_NaturalInts.j1 kj3 a0 a1 t101 bt102.1 bt104.1 (bt106.1 != a0)) else (observatorylaw03_NaturalInts.j1 kj3 a0 a1 t101 bt102.1 bt104.1 true)) else (observatorylaw03_NaturalInts.j1 kj3 a0 a1 t101 bt102.1 bt104.1 true)) else (observatorylaw03_NaturalInts.j1 kj3 a0 a1 t101 bt102.1 bt104.1 true))))) = some r := by rw [if_neg (show ¬ (false = true) by decide)] at H; exact H
        clear H
        have H := H1
        clear H1
        replace H := Option.bind_eq_some_iff.mp H
        obtain ⟨⟨t102, t103⟩, A100, H⟩ := H
        replace H : ((natural_Of.f a1).bind fun bt104 => ((natural_Int.f t102).bind fun bt106 => (if t103 = 0 then (if bt104.2 = 0 then (if bt106.2 = 0 then (observatorylaw03_NaturalInts.j1 kj3 a0 a1 t101 t102 bt104.1 (bt106.1 != a0)) else (observatorylaw03_NaturalInts.j1 kj3 a0 a1 t101 t102 bt104.1 true)) else (observatorylaw03_NaturalInts.j1 kj3 a0 a1 t101 t102 bt104.1 true)) else (observatorylaw03_NaturalInts.j1 kj3 a0 a1 t101 t102 bt104.1 true)))) = some r := H
        have A10 := Aside0.mk A100
        clear A100
        replace H := Option.bind_eq_some_iff.mp H
        obtain ⟨⟨t104, t105⟩, A110, H⟩ := H
        replace H : ((natural_Int.f t102).bind fun bt106 => (if t103 = 0 then (if t105 = 0 then (if bt106.2 = 0 then (observatorylaw03_NaturalInts.j1 kj3 a0 a1 t101 t102 t104 (bt106.1 != a0)) else (observatorylaw03_NaturalInts.j1 kj3 a0 a1 t101 t102 t104 true)) else (observatorylaw03_NaturalInts.j1 kj3 a0 a1 t101 t102 t104 true)) else (observatorylaw03_NaturalInts.j1 kj3 a0 a1 t101 t102 t104 true))) = some r := H
        have A11 := Aside0.mk A110
        clear A110
        replace H := Option.bind_eq_some_iff.mp H
        obtain ⟨⟨t106, t107⟩, A120, H⟩ := H
        replace H : (if t103 = 0 then (if t105 = 0 then (if t107 = 0 then (observatorylaw03_NaturalInts.j1 kj3 a0 a1 t101 t102 t104 (t106 != a0)) else (observatorylaw03_NaturalInts.j1 kj3 a0 a1 t101 t102 t104 true)) else (observatorylaw03_NaturalInts.j1 kj3 a0 a1 t101 t102 t104 true)) else (observatorylaw03_NaturalInts.j1 kj3 a0 a1 t101 t102 t104 true)) = some r := H
        have A12 := Aside0.mk A120
        clear A120
        have HC13 := Aside0.mk H
        clear H
        go_upto_region 7 with (first | ((with_reducible refine gate_callee (f := 18) rfl ?_); refine goesL_ (some 50) rfl rfl Tryd.func18 (by kernel_rfl) rfl #[.int .i64 a0] rfl (by (try simp only [List.map_toArray, List.map_cons, List.map_nil]); first | done | rfl | (simp only [List.length_drop, List.length_take]; rfl)) ?_; (with_reducible refine (natural_Of.calls a0 t102 t103 _ ?side1 A10.out).mono ?_); (case side1 => exact Laid.below HLaid.out (by repeat (first | (with_reducible first | exact HB.out | apply below_alloc | apply pw_below_drewN | apply below_drew1) | exact HB.out))); rintro e w14 ⟨rfl, hb⟩; refine ⟨_, rfl, ?_⟩; have n0_ := Aside0.mk (below_step (by repeat (first | (with_reducible first | exact HB.out | apply below_alloc | apply pw_below_drewN | apply below_drew1) | exact HB.out)) hb); clear HB; have HB := n0_; clear n0_; (try clear hb); (try clear hb2); (try clear hk); (try clear hi)) | ((with_reducible refine gate_callee (f := 18) rfl ?_); refine goesL_ (some 55) rfl rfl Tryd.func18 (by kernel_rfl) rfl #[.int .i64 a1] rfl (by (try simp only [List.map_toArray, List.map_cons, List.map_nil]); first | done | rfl | (simp only [List.length_drop, List.length_take]; rfl)) ?_; (with_reducible refine (natural_Of.calls a1 t104 t105 _ ?side1 A11.out).mono ?_); (case side1 => exact Laid.below HLaid.out (by repeat (first | (with_reducible first | exact HB.out | apply below_alloc | apply pw_below_drewN | apply below_drew1) | exact HB.out))); rintro e w15 ⟨rfl, hb⟩; refine ⟨_, rfl, ?_⟩; have n0_ := Aside0.mk (below_step (by repeat (first | (with_reducible first | exact HB.out | apply below_alloc | apply pw_below_drewN | apply below_drew1) | exact HB.out)) hb); clear HB; have HB := n0_; clear n0_; (try clear hb); (try clear hb2); (try clear hk); (try clear hi)) | ((with_reducible refine gate_callee (f := 19) rfl ?_); refine goesL_ (some 60) rfl rfl Tryd.func19 (by kernel_rfl) rfl #[.string t102] rfl (by (try simp only [List.map_toArray, List.map_cons, List.map_nil]); first | done | rfl | (simp only [List.length_drop, List.length_take]; rfl)) ?_; (with_reducible refine (natural_Int.calls t102 t106 t107 _ ?side1 A12.out).mono ?_); (case side1 => exact Laid.below HLaid.out (by repeat (first | (with_reducible first | exact HB.out | apply below_alloc | apply pw_below_drewN | apply below_drew1) | exact HB.out))); rintro e w16 ⟨rfl, hb⟩; refine ⟨_, rfl, ?_⟩; have n0_ := Aside0.mk (below_step (by repeat (first | (with_reducible first | exact HB.out | apply below_alloc | apply pw_below_drewN | apply below_drew1) | exact HB.out)) hb); clear HB; have HB := n0_; clear n0_; (try clear hb); (try clear hb2); (try clear hk); (try clear hi)))
        (try simp only [Act.put, List.setIfInBounds_toArray, List.set_cons_zero, List.set_cons_succ])
        go_cut [77] (fun v77 wc => ∃ (kq : Nat) (x77_12 : Bool), v77 = .bool x77_12 ∧ Aside0 (observatorylaw03_NaturalInts.j1 kq a0 a1 t101 t102 t104 x77_12 = some r) ∧ Aside0 (kq ≤ kj3) ∧ Aside0 (Below w.heap.size w wc))
        case first => as_aux_lemma =>
          have H := HC13.out
          clear HC13
          by_cases c17 : t103 = 0
          · rw [if_pos c17] at H
            have c17b0 : (t103 == 0) = true := beq_iff_eq.mpr c17
            have c17b1 : (t103 != 0) = false := bne_eq_false_iff_eq.mpr c17
            clear c17
            (first | rw [c17b0] | (simp only [i64_w, i32_w]; rw [c17b0]) | skip)
            by_cases c18 : t105 = 0
            · rw [if_pos c18] at H
              have c18b0 : (t105 == 0) = true := beq_iff_eq.mpr c18
              have c18b1 : (t105 != 0) = false := bne_eq_false_iff_eq.mpr c18
              clear c18
              by_cases c19 : t107 = 0
              · rw [if_pos c19] at H
                have c19b0 : (t107 == 0) = true := beq_iff_eq.mpr c19
                have c19b1 : (t107 != 0) = false := bne_eq_false_iff_eq.mpr c19
                clear c19
                have H' := Aside0.mk H
                clear H
                go_wp2
                go_meet
                case rel => exact ⟨_, ((t106 != a0)), (by first | rfl | (simp; done) | (simp [*]; done)), H', ⟨by have := HJ3.out; first | omega | exact Nat.le_refl _⟩, ⟨by repeat (first | (with_reducible first | exact HB.out | apply below_alloc | apply pw_below_drewN | apply below_drew1) | exact HB.out)⟩⟩
              · rw [if_neg c19] at H
                have c19b0 : (t107 == 0) = false := beq_eq_false_iff_ne.mpr c19
                have c19b1 : (t107 != 0) = true := bne_iff_ne.mpr c19
                have H' := Aside0.mk H
                clear H
                go_wp2
                go_meet
                case rel => exact ⟨_, (true), (by first | rfl | (simp; done) | (simp [*]; done)), H', ⟨by have := HJ3.out; first | omega | exact Nat.le_refl _⟩, ⟨by repeat (first | (with_reducible first | exact HB.out | apply below_alloc | apply pw_below_drewN | apply below_drew1) | exact HB.out)⟩⟩
            · rw [if_neg c18] at H
              have c18b0 : (t105 == 0) = false := beq_eq_false_iff_ne.mpr c18
              have c18b1 : (t105 != 0) = true := bne_iff_ne.mpr c18
              have H' := Aside0.mk H
              clear H
              go_wp2
              go_meet
              case rel => exact ⟨_, (true), (by first | rfl | (simp; done) | (simp [*]; done)), H', ⟨by have := HJ3.out; first | omega | exact Nat.le_refl _⟩, ⟨by repeat (first | (with_reducible first | exact HB.out | apply below_alloc | apply pw_below_drewN | apply below_drew1) | exact HB.out)⟩⟩
          · rw [if_neg c17] at H
            have c17b0 : (t103 == 0) = false := beq_eq_false_iff_ne.mpr c17
            have c17b1 : (t103 != 0) = true := bne_iff_ne.mpr c17
            (first | rw [c17b0] | (simp only [i64_w, i32_w]; rw [c17b0]) | skip)
            have H' := Aside0.mk H
            clear H
            go_wp2
            go_meet
            case rel => exact ⟨_, (true), (by first | rfl | (simp; done) | (simp [*]; done)), H', ⟨by have := HJ3.out; first | omega | exact Nat.le_refl _⟩, ⟨by repeat (first | (with_reducible first | exact HB.out | apply below_alloc | apply pw_below_drewN | apply below_drew1) | exact HB.out)⟩⟩
        case rest => as_aux_lemma =>
          clear HC13
          try clear c1
          try clear p2
          try clear c6
          try clear c6b0
          try clear c7
          try clear c7b0
          try clear c8
          try clear c8b0
          try clear c9
          try clear c17
          try clear c17b0
          try clear c17b1
          try clear c18
          try clear c18b0
          try clear c18b1
          try clear c19
          try clear c19b0
          try clear c19b1
          try clear p2
          obtain ⟨kq, x77_12, rfl, HA, HJ12, HB⟩ := hcut
          cases kq with
          | zero => exact absurd HA.out (by simp [observatorylaw03_NaturalInts.j1])
          | succ kj12 =>
            have H := HA.out
            clear HA
            simp only [observatorylaw03_NaturalInts.j1] at H
            by_cases c20 : x77_12 = true
            · subst c20
              have H1 : (some false) = some r := by rw [if_pos rfl] at H; exact H
              clear H
              have H := H1
              clear H1
              obtain rfl := Option.some.inj H
              go_wp2
              go_ret
              exact ⟨by first | rfl | (simp [errW_none, errW_some] <;> rfl) | (simp [*, errW_none, errW_some] <;> rfl), by repeat (first | (with_reducible first | exact HB.out | apply below_alloc | apply pw_below_drewN | apply below_drew1) | exact HB.out)⟩
            · replace c20 := Bool.eq_false_iff.mpr c20
              subst c20
              have H1 : ((natural_Compare.f t102 t104).bind fun t108 => (if ((decide (t108 < 0)) != (decide (a0 < a1))) = true then (observatorylaw03_NaturalInts.j2 kj12 a0 a1 t101 t102 t104 true) else (observatorylaw03_NaturalInts.j2 kj12 a0 a1 t101 t102 t104 ((decide (t108 > 0)) != (decide (a0 > a1)))))) = some r := by rw [if_neg (show ¬ (false = true) by decide)] at H; exact H
              clear H
              have H := H1
              clear H1
              replace H := Option.bind_eq_some_iff.mp H
              obtain ⟨t108, A210, H⟩ := H
              replace H : (if ((decide (t108 < 0)) != (decide (a0 < a1))) = true then (observatorylaw03_NaturalInts.j2 kj12 a0 a1 t101 t102 t104 true) else (observatorylaw03_NaturalInts.j2 kj12 a0 a1 t101 t102 t104 ((decide (t108 > 0)) != (decide (a0 > a1))))) = some r := H
              have A21 := Aside0.mk A210
              clear A210
              have HC22 := Aside0.mk H
              clear H
              go_upto_region 10 with (first | ((with_reducible refine gate_callee (f := 14) rfl ?_); refine goesL_ (some 80) rfl rfl Tryd.func14 (by kernel_rfl) rfl #[.string t102, .string t104] rfl (by (try simp only [List.map_toArray, List.map_cons, List.map_nil]); first | done | rfl | (simp only [List.length_drop, List.length_take]; rfl)) ?_; (with_reducible refine (natural_Compare.calls t102 t104 t108 _ ?side1 A21.out).mono ?_); (case side1 => exact Laid.below HLaid.out (by repeat (first | (with_reducible first | exact HB.out | apply below_alloc | apply pw_below_drewN | apply below_drew1) | exact HB.out))); rintro e w23 ⟨rfl, hb⟩; refine ⟨_, rfl, ?_⟩; have n0_ := Aside0.mk (below_step (by repeat (first | (with_reducible first | exact HB.out | apply below_alloc | apply pw_below_drewN | apply below_drew1) | exact HB.out)) hb); clear HB; have HB := n0_; clear n0_; (try clear hb); (try clear hb2); (try clear hk); (try clear hi)))
              (try simp only [Act.put, List.setIfInBounds_toArray, List.set_cons_zero, List.set_cons_succ])
              go_cut [94] (fun v94 wc => ∃ (kq : Nat) (x94_21 : Bool), v94 = .bool x94_21 ∧ Aside0 (observatorylaw03_NaturalInts.j2 kq a0 a1 t101 t102 t104 x94_21 = some r) ∧ Aside0 (kq ≤ kj12) ∧ Aside0 (Below w.heap.size w wc))
              case first => as_aux_lemma =>
                have H := HC22.out
                clear HC22
                by_cases c24 : ((decide (t108 < 0)) != (decide (a0 < a1))) = true
                · rw [if_pos c24] at H
                  have c24b0 : ((decide (t108 < 0)) != (decide (a0 < a1))) = true := c24
                  (try (have c24b1 : decide ((decide (t108 < 0)) = (decide (a0 < a1))) = false := by simpa using c24))
                  (try (have c24b2 : ((decide (t108 < 0)) == (decide (a0 < a1))) = false := by simpa using c24))
                  (try (have c24b3 : ¬ ((decide (t108 < 0)) = (decide (a0 < a1))) := by simpa using c24))
                  clear c24
                  (first | rw [c24b0] | (simp only [i64_w, i32_w]; rw [c24b0]) | skip)
                  have H' := Aside0.mk H
                  clear H
                  go_wp2
                  go_meet
                  case rel => exact ⟨_, (true), (by first | rfl | (simp; done) | (simp [*]; done)), H', ⟨by have := HJ3.out; have := HJ12.out; first | omega | exact Nat.le_refl _⟩, ⟨by repeat (first | (with_reducible first | exact HB.out | apply below_alloc | apply pw_below_drewN | apply below_drew1) | exact HB.out)⟩⟩
                · rw [if_neg c24] at H
                  have c24b0 : ((decide (t108 < 0)) != (decide (a0 < a1))) = false := by simpa using c24
                  (try (have c24b1 : decide ((decide (t108 < 0)) = (decide (a0 < a1))) = true := by simpa using c24))
                  (try (have c24b2 : ((decide (t108 < 0)) == (decide (a0 < a1))) = true := by simpa using c24))
                  clear c24
                  (first | rw [c24b0] | (simp only [i64_w, i32_w]; rw [c24b0]) | skip)
                  have H' := Aside0.mk H
                  clear H
                  go_wp2
                  go_meet
                  case rel => exact ⟨_, (((decide (t108 > 0)) != (decide (a0 > a1)))), (by first | rfl | (simp; done) | (simp [*]; done)), H', ⟨by have := HJ3.out; have := HJ12.out; first | omega | exact Nat.le_refl _⟩, ⟨by repeat (first | (with_reducible first | exact HB.out | apply below_alloc | apply pw_below_drewN | apply below_drew1) | exact HB.out)⟩⟩
              case rest => as_aux_lemma =>
                clear HC22
                try clear c1
                try clear c2
                try clear p2
                try clear c6
                try clear c6b0
                try clear c7
                try clear c7b0
                try clear c8
                try clear c8b0
                try clear c9
                try clear c14
                try clear c17
                try clear c17b0
                try clear c17b1
                try clear c18
                try clear c18b0
                try clear c18b1
                try clear c19
                try clear c19b0
                try clear c19b1
                try clear c20
                try clear c24
                try clear c24b0
                try clear c24b1
                try clear c24b2
                try clear p2
                obtain ⟨kq, x94_21, rfl, HA, HJ21, HB⟩ := hcut
                cases kq with
                | zero => exact absurd HA.out (by simp [observatorylaw03_NaturalInts.j2])
                | succ kj21 =>
                  have H := HA.out
                  clear HA
                  simp only [observatorylaw03_NaturalInts.j2] at H
                  by_cases c25 : x94_21 = true
                  · subst c25
                    have H1 : (some false) = some r := by rw [if_pos rfl] at H; exact H
                    clear H
                    have H := H1
                    clear H1
                    obtain rfl := Option.some.inj H
                    go_wp2
                    go_ret
                    exact ⟨by first | rfl | (simp [errW_none, errW_some] <;> rfl) | (simp [*, errW_none, errW_some] <;> rfl), by repeat (first | (with_reducible first | exact HB.out | apply below_alloc | apply pw_below_drewN | apply below_drew1) | exact HB.out)⟩
                  · replace c25 := Bool.eq_false_iff.mpr c25
                    subst c25
                    have H1 : ((natural_Add.f t102 t104).bind fun bt109 => ((natural_Int.f bt109.1).bind fun bt111 => (if bt109.2 = 0 then (if (wrap64 (a0 + a1)) ≤ 1000000000000 then (if bt111.2 = 0 then (if bt111.1 = (wrap64 (a0 + a1)) then (if (wrap64 (a0 + a1)) > 1000000000000 then (observatorylaw03_NaturalInts.j3 kj21 a0 a1 t101 t102 t104 (bt111.2 != 9)) else (observatorylaw03_NaturalInts.j3 kj21 a0 a1 t101 t102 t104 false)) else (observatorylaw03_NaturalInts.j3 kj21 a0 a1 t101 t102 t104 true)) else (observatorylaw03_NaturalInts.j3 kj21 a0 a1 t101 t102 t104 true)) else (if (wrap64 (a0 + a1)) > 1000000000000 then (observatorylaw03_NaturalInts.j3 kj21 a0 a1 t101 t102 t104 (bt111.2 != 9)) else (observatorylaw03_NaturalInts.j3 kj21 a0 a1 t101 t102 t104 false))) else (observatorylaw03_NaturalInts.j3 kj21 a0 a1 t101 t102 t104 true)))) = some r := by rw [if_neg (show ¬ (false = true) by decide)] at H; exact H
                    clear H
                    have H := H1
                    clear H1
                    replace H := Option.bind_eq_some_iff.mp H
                    obtain ⟨⟨t109, t110⟩, A260, H⟩ := H
                    replace H : ((natural_Int.f t109).bind fun bt111 => (if t110 = 0 then (if (wrap64 (a0 + a1)) ≤ 1000000000000 then (if bt111.2 = 0 then (if bt111.1 = (wrap64 (a0 + a1)) then (if (wrap64 (a0 + a1)) > 1000000000000 then (observatorylaw03_NaturalInts.j3 kj21 a0 a1 t101 t102 t104 (bt111.2 != 9)) else (observatorylaw03_NaturalInts.j3 kj21 a0 a1 t101 t102 t104 false)) else (observatorylaw03_NaturalInts.j3 kj21 a0 a1 t101 t102 t104 true)) else (observatorylaw03_NaturalInts.j3 kj21 a0 a1 t101 t102 t104 true)) else (if (wrap64 (a0 + a1)) > 1000000000000 then (observatorylaw03_NaturalInts.j3 kj21 a0 a1 t101 t102 t104 (bt111.2 != 9)) else (observatorylaw03_NaturalInts.j3 kj21 a0 a1 t101 t102 t104 false))) else (observatorylaw03_NaturalInts.j3 kj21 a0 a1 t101 t102 t104 true))) = some r := H
                    have A26 := Aside0.mk A260
                    clear A260
                    replace H := Option.bind_eq_some_iff.mp H
                    obtain ⟨⟨t111, t112⟩, A270, H⟩ := H
                    replace H : (if t110 = 0 then (if (wrap64 (a0 + a1)) ≤ 1000000000000 then (if t112 = 0 then (if t111 = (wrap64 (a0 + a1)) then (if (wrap64 (a0 + a1)) > 1000000000000 then (observatorylaw03_NaturalInts.j3 kj21 a0 a1 t101 t102 t104 (t112 != 9)) else (observatorylaw03_NaturalInts.j3 kj21 a0 a1 t101 t102 t104 false)) else (observatorylaw03_NaturalInts.j3 kj21 a0 a1 t101 t102 t104 true)) else (observatorylaw03_NaturalInts.j3 kj21 a0 a1 t101 t102 t104 true)) else (if (wrap64 (a0 + a1)) > 1000000000000 then (observatorylaw03_NaturalInts.j3 kj21 a0 a1 t101 t102 t104 (t112 != 9)) else (observatorylaw03_NaturalInts.j3 kj21 a0 a1 t101 t102 t104 false))) else (observatorylaw03_NaturalInts.j3 kj21 a0 a1 t101 t102 t104 true)) = some r := H
                    have A27 := Aside0.mk A270
                    clear A270
                    have HC28 := Aside0.mk H
                    clear H
                    go_upto_region 14 with (first | ((with_reducible refine gate_callee (f := 12) rfl ?_); refine goesL_ (some 98) rfl rfl Tryd.func12 (by kernel_rfl) rfl #[.string t102, .string t104] rfl (by (try simp only [List.map_toArray, List.map_cons, List.map_nil]); first | done | rfl | (simp only [List.length_drop, List.length_take]; rfl)) ?_; (with_reducible refine (natural_Add.calls t102 t104 t109 t110 _ ?side1 A26.out).mono ?_); (case side1 => exact Laid.below HLaid.out (by repeat (first | (with_reducible first | exact HB.out | apply below_alloc | apply pw_below_drewN | apply below_drew1) | exact HB.out))); rintro e w29 ⟨rfl, hb⟩; refine ⟨_, rfl, ?_⟩; have n0_ := Aside0.mk (below_step (by repeat (first | (with_reducible first | exact HB.out | apply below_alloc | apply pw_below_drewN | apply below_drew1) | exact HB.out)) hb); clear HB; have HB := n0_; clear n0_; (try clear hb); (try clear hb2); (try clear hk); (try clear hi)) | ((with_reducible refine gate_callee (f := 19) rfl ?_); refine goesL_ (some 103) rfl rfl Tryd.func19 (by kernel_rfl) rfl #[.string t109] rfl (by (try simp only [List.map_toArray, List.map_cons, List.map_nil]); first | done | rfl | (simp only [List.length_drop, List.length_take]; rfl)) ?_; (with_reducible refine (natural_Int.calls t109 t111 t112 _ ?side1 A27.out).mono ?_); (case side1 => exact Laid.below HLaid.out (by repeat (first | (with_reducible first | exact HB.out | apply below_alloc | apply pw_below_drewN | apply below_drew1) | exact HB.out))); rintro e w30 ⟨rfl, hb⟩; refine ⟨_, rfl, ?_⟩; have n0_ := Aside0.mk (below_step (by repeat (first | (with_reducible first | exact HB.out | apply below_alloc | apply pw_below_drewN | apply below_drew1) | exact HB.out)) hb); clear HB; have HB := n0_; clear n0_; (try clear hb); (try clear hb2); (try clear hk); (try clear hi)))
                    (try simp only [Act.put, List.setIfInBounds_toArray, List.set_cons_zero, List.set_cons_succ])
                    go_cut [134] (fun v134 wc => ∃ (kq : Nat) (x134_27 : Bool), v134 = .bool x134_27 ∧ Aside0 (observatorylaw03_NaturalInts.j3 kq a0 a1 t101 t102 t104 x134_27 = some r) ∧ Aside0 (kq ≤ kj21) ∧ Aside0 (Below w.heap.size w wc))
                    case first => as_aux_lemma =>
                      have H := HC28.out
                      clear HC28
                      by_cases c31 : t110 = 0
                      · rw [if_pos c31] at H
                        have c31b0 : (t110 == 0) = true := beq_iff_eq.mpr c31
                        have c31b1 : (t110 != 0) = false := bne_eq_false_iff_eq.mpr c31
                        clear c31
                        (first | rw [c31b0] | (simp only [i64_w, i32_w]; rw [c31b0]) | skip)
                        by_cases c32 : (wrap64 (a0 + a1)) ≤ 1000000000000
                        · rw [if_pos c32] at H
                          have c32b0 : decide ((wrap64 (a0 + a1)) ≤ 1000000000000) = true := decide_eq_true c32
                          clear c32
                          by_cases c33 : t112 = 0
                          · rw [if_pos c33] at H
                            have c33b0 : (t112 == 0) = true := beq_iff_eq.mpr c33
                            have c33b1 : (t112 != 0) = false := bne_eq_false_iff_eq.mpr c33
                            clear c33
                            by_cases c34 : t111 = (wrap64 (a0 + a1))
                            · rw [if_pos c34] at H
                              have c34b0 : (t111 == (wrap64 (a0 + a1))) = true := beq_iff_eq.mpr c34
                              have c34b1 : (t111 != (wrap64 (a0 + a1))) = false := bne_eq_false_iff_eq.mpr c34
                              clear c34
                              by_cases c35 : (wrap64 (a0 + a1)) > 1000000000000
                              · rw [if_pos c35] at H
                                have c35b0 : decide (1000000000000 < (wrap64 (a0 + a1))) = true := decide_eq_true c35
                                clear c35
                                have H' := Aside0.mk H
                                clear H
                                go_wp2
                                go_meet
                                case rel => exact ⟨_, ((t112 != 9)), (by first | rfl | (simp; done) | (simp [*]; done)), H', ⟨by have := HJ3.out; have := HJ12.out; have := HJ21.out; first | omega | exact Nat.le_refl _⟩, ⟨by repeat (first | (with_reducible first | exact HB.out | apply below_alloc | apply pw_below_drewN | apply below_drew1) | exact HB.out)⟩⟩
                              · rw [if_neg c35] at H
                                have c35b0 : decide (1000000000000 < (wrap64 (a0 + a1))) = false := decide_eq_false c35
                                clear c35
                                have H' := Aside0.mk H
                                clear H
                                go_wp2
                                go_meet
                                case rel => exact ⟨_, (false), (by first | rfl | (simp; done) | (simp [*]; done)), H', ⟨by have := HJ3.out; have := HJ12.out; have := HJ21.out; first | omega | exact Nat.le_refl _⟩, ⟨by repeat (first | (with_reducible first | exact HB.out | apply below_alloc | apply pw_below_drewN | apply below_drew1) | exact HB.out)⟩⟩
                            · rw [if_neg c34] at H
                              have c34b0 : (t111 == (wrap64 (a0 + a1))) = false := beq_eq_false_iff_ne.mpr c34
                              have c34b1 : (t111 != (wrap64 (a0 + a1))) = true := bne_iff_ne.mpr c34
                              have H' := Aside0.mk H
                              clear H
                              go_wp2
                              go_meet
                              case rel => exact ⟨_, (true), (by first | rfl | (simp; done) | (simp [*]; done)), H', ⟨by have := HJ3.out; have := HJ12.out; have := HJ21.out; first | omega | exact Nat.le_refl _⟩, ⟨by repeat (first | (with_reducible first | exact HB.out | apply below_alloc | apply pw_below_drewN | apply below_drew1) | exact HB.out)⟩⟩
                          · rw [if_neg c33] at H
                            have c33b0 : (t112 == 0) = false := beq_eq_false_iff_ne.mpr c33
                            have c33b1 : (t112 != 0) = true := bne_iff_ne.mpr c33
                            have H' := Aside0.mk H
                            clear H
                            go_wp2
                            go_meet
                            case rel => exact ⟨_, (true), (by first | rfl | (simp; done) | (simp [*]; done)), H', ⟨by have := HJ3.out; have := HJ12.out; have := HJ21.out; first | omega | exact Nat.le_refl _⟩, ⟨by repeat (first | (with_reducible first | exact HB.out | apply below_alloc | apply pw_below_drewN | apply below_drew1) | exact HB.out)⟩⟩
                        · rw [if_neg c32] at H
                          have c32b0 : decide ((wrap64 (a0 + a1)) ≤ 1000000000000) = false := decide_eq_false c32
                          clear c32
                          by_cases c36 : (wrap64 (a0 + a1)) > 1000000000000
                          · rw [if_pos c36] at H
                            have c36b0 : decide (1000000000000 < (wrap64 (a0 + a1))) = true := decide_eq_true c36
                            clear c36
                            have H' := Aside0.mk H
                            clear H
                            go_wp2
                            go_meet
                            case rel => exact ⟨_, ((t112 != 9)), (by first | rfl | (simp; done) | (simp [*]; done)), H', ⟨by have := HJ3.out; have := HJ12.out; have := HJ21.out; first | omega | exact Nat.le_refl _⟩, ⟨by repeat (first | (with_reducible first | exact HB.out | apply below_alloc | apply pw_below_drewN | apply below_drew1) | exact HB.out)⟩⟩
                          · rw [if_neg c36] at H
                            have c36b0 : decide (1000000000000 < (wrap64 (a0 + a1))) = false := decide_eq_false c36
                            clear c36
                            have H' := Aside0.mk H
                            clear H
                            go_wp2
                            go_meet
                            case rel => exact ⟨_, (false), (by first | rfl | (simp; done) | (simp [*]; done)), H', ⟨by have := HJ3.out; have := HJ12.out; have := HJ21.out; first | omega | exact Nat.le_refl _⟩, ⟨by repeat (first | (with_reducible first | exact HB.out | apply below_alloc | apply pw_below_drewN | apply below_drew1) | exact HB.out)⟩⟩
                      · rw [if_neg c31] at H
                        have c31b0 : (t110 == 0) = false := beq_eq_false_iff_ne.mpr c31
                        have c31b1 : (t110 != 0) = true := bne_iff_ne.mpr c31
                        (first | rw [c31b0] | (simp only [i64_w, i32_w]; rw [c31b0]) | skip)
                        have H' := Aside0.mk H
                        clear H
                        go_wp2
                        go_meet
                        case rel => exact ⟨_, (true), (by first | rfl | (simp; done) | (simp [*]; done)), H', ⟨by have := HJ3.out; have := HJ12.out; have := HJ21.out; first | omega | exact Nat.le_refl _⟩, ⟨by repeat (first | (with_reducible first | exact HB.out | apply below_alloc | apply pw_below_drewN | apply below_drew1) | exact HB.out)⟩⟩
                    case rest => as_aux_lemma =>
                      clear HC28
                      try clear c1
                      try clear c2
                      try clear p2
                      try clear c3
                      try clear c6
                      try clear c6b0
                      try clear p6
                      try clear c7
                      try clear c7b0
                      try clear c8
                      try clear c8b0
                      try clear c9
                      try clear c12
                      try clear c14
                      try clear c17
                      try clear c17b0
                      try clear c17b1
                      try clear c18
                      try clear c18b0
                      try clear c18b1
                      try clear c19
                      try clear c19b0
                      try clear c19b1
                      try clear c20
                      try clear c24
                      try clear c24b0
                      try clear c24b1
                      try clear c24b2
                      try clear c25
                      try clear c31
                      try clear c31b0
                      try clear c31b1
                      try clear c32
                      try clear c32b0
                      try clear c33
                      try clear c33b0
                      try clear c33b1
                      try clear c34
                      try clear c34b0
                      try clear c34b1
                      try clear c35
                      try clear c35b0
                      try clear c36
                      try clear c36b0
                      try clear p2
                      obtain ⟨kq, x134_27, rfl, HA, HJ27, HB⟩ := hcut
                      cases kq with
                      | zero => exact absurd HA.out (by simp [observatorylaw03_NaturalInts.j3])
                      | succ kj27 =>
                        have H := HA.out
                        clear HA
                        simp only [observatorylaw03_NaturalInts.j3] at H
                        by_cases c37 : x134_27 = true
                        · subst c37
                          have H1 : (some false) = some r := by rw [if_pos rfl] at H; exact H
                          clear H
                          have H := H1
                          clear H1
                          obtain rfl := Option.some.inj H
                          go_wp2
                          go_ret
                          exact ⟨by first | rfl | (simp [errW_none, errW_some] <;> rfl) | (simp [*, errW_none, errW_some] <;> rfl), by repeat (first | (with_reducible first | exact HB.out | apply below_alloc | apply pw_below_drewN | apply below_drew1) | exact HB.out)⟩
                        · replace c37 := Bool.eq_false_iff.mpr c37
                          subst c37
                          have H1 : ((natural_Sub.f t102 t104).bind fun bt113 => ((natural_Int.f bt113.1).bind fun bt115 => (if ((bt113.2 == 0) != (decide (a0 ≥ a1))) = true then (observatorylaw03_NaturalInts.j4 kj27 a0 a1 t101 t102 t104 true) else (if bt113.2 = 0 then (if bt115.1 = (wrap64 (a0 - a1)) then (observatorylaw03_NaturalInts.j4 kj27 a0 a1 t101 t102 t104 false) else (observatorylaw03_NaturalInts.j4 kj27 a0 a1 t101 t102 t104 true)) else (observatorylaw03_NaturalInts.j4 kj27 a0 a1 t101 t102 t104 (bt113.2 != 9)))))) = some r := by rw [if_neg (show ¬ (false = true) by decide)] at H; exact H
                          clear H
                          have H := H1
                          clear H1
                          replace H := Option.bind_eq_some_iff.mp H
                          obtain ⟨⟨t113, t114⟩, A380, H⟩ := H
                          replace H : ((natural_Int.f t113).bind fun bt115 => (if ((t114 == 0) != (decide (a0 ≥ a1))) = true then (observatorylaw03_NaturalInts.j4 kj27 a0 a1 t101 t102 t104 true) else (if t114 = 0 then (if bt115.1 = (wrap64 (a0 - a1)) then (observatorylaw03_NaturalInts.j4 kj27 a0 a1 t101 t102 t104 false) else (observatorylaw03_NaturalInts.j4 kj27 a0 a1 t101 t102 t104 true)) else (observatorylaw03_NaturalInts.j4 kj27 a0 a1 t101 t102 t104 (t114 != 9))))) = some r := H
                          have A38 := Aside0.mk A380
                          clear A380
                          replace H := Option.bind_eq_some_iff.mp H
                          obtain ⟨⟨t115, t116⟩, A390, H⟩ := H
                          replace H : (if ((t114 == 0) != (decide (a0 ≥ a1))) = true then (observatorylaw03_NaturalInts.j4 kj27 a0 a1 t101 t102 t104 true) else (if t114 = 0 then (if t115 = (wrap64 (a0 - a1)) then (observatorylaw03_NaturalInts.j4 kj27 a0 a1 t101 t102 t104 false) else (observatorylaw03_NaturalInts.j4 kj27 a0 a1 t101 t102 t104 true)) else (observatorylaw03_NaturalInts.j4 kj27 a0 a1 t101 t102 t104 (t114 != 9)))) = some r := H
                          have A39 := Aside0.mk A390
                          clear A390
                          have HC40 := Aside0.mk H
                          clear H
                          go_upto_region 18 with (first | ((with_reducible refine gate_callee (f := 15) rfl ?_); refine goesL_ (some 138) rfl rfl Tryd.func15 (by kernel_rfl) rfl #[.string t102, .string t104] rfl (by (try simp only [List.map_toArray, List.map_cons, List.map_nil]); first | done | rfl | (simp only [List.length_drop, List.length_take]; rfl)) ?_; (with_reducible refine (natural_Sub.calls t102 t104 t113 t114 _ ?side1 A38.out).mono ?_); (case side1 => exact Laid.below HLaid.out (by repeat (first | (with_reducible first | exact HB.out | apply below_alloc | apply pw_below_drewN | apply below_drew1) | exact HB.out))); rintro e w41 ⟨rfl, hb⟩; refine ⟨_, rfl, ?_⟩; have n0_ := Aside0.mk (below_step (by repeat (first | (with_reducible first | exact HB.out | apply below_alloc | apply pw_below_drewN | apply below_drew1) | exact HB.out)) hb); clear HB; have HB := n0_; clear n0_; (try clear hb); (try clear hb2); (try clear hk); (try clear hi)) | ((with_reducible refine gate_callee (f := 19) rfl ?_); refine goesL_ (some 143) rfl rfl Tryd.func19 (by kernel_rfl) rfl #[.string t113] rfl (by (try simp only [List.map_toArray, List.map_cons, List.map_nil]); first | done | rfl | (simp only [List.length_drop, List.length_take]; rfl)) ?_; (with_reducible refine (natural_Int.calls t113 t115 t116 _ ?side1 A39.out).mono ?_); (case side1 => exact Laid.below HLaid.out (by repeat (first | (with_reducible first | exact HB.out | apply below_alloc | apply pw_below_drewN | apply below_drew1) | exact HB.out))); rintro e w42 ⟨rfl, hb⟩; refine ⟨_, rfl, ?_⟩; have n0_ := Aside0.mk (below_step (by repeat (first | (with_reducible first | exact HB.out | apply below_alloc | apply pw_below_drewN | apply below_drew1) | exact HB.out)) hb); clear HB; have HB := n0_; clear n0_; (try clear hb); (try clear hb2); (try clear hk); (try clear hi)))
                          (try simp only [Act.put, List.setIfInBounds_toArray, List.set_cons_zero, List.set_cons_succ])
                          go_cut [170] (fun v170 wc => ∃ (kq : Nat) (x170_39 : Bool), v170 = .bool x170_39 ∧ Aside0 (observatorylaw03_NaturalInts.j4 kq a0 a1 t101 t102 t104 x170_39 = some r) ∧ Aside0 (kq ≤ kj27) ∧ Aside0 (Below w.heap.size w wc))
                          case first => as_aux_lemma =>
                            have H := HC40.out
                            clear HC40
                            by_cases c43 : ((t114 == 0) != (decide (a0 ≥ a1))) = true
                            · rw [if_pos c43] at H
                              have c43b0 : ((t114 == 0) != (decide (a0 ≥ a1))) = true := c43
                              (try (have c43b1 : decide ((t114 == 0) = (decide (a0 ≥ a1))) = false := by simpa using c43))
                              (try (have c43b2 : ((t114 == 0) == (decide (a0 ≥ a1))) = false := by simpa using c43))
                              (try (have c43b3 : ¬ ((t114 == 0) = (decide (a0 ≥ a1))) := by simpa using c43))
                              clear c43
                              (first | rw [c43b0] | (simp only [i64_w, i32_w]; rw [c43b0]) | skip)
                              have H' := Aside0.mk H
                              clear H
                              go_wp2
                              go_meet
                              case rel => exact ⟨_, (true), (by first | rfl | (simp; done) | (simp [*]; done)), H', ⟨by have := HJ3.out; have := HJ12.out; have := HJ21.out; have := HJ27.out; first | omega | exact Nat.le_refl _⟩, ⟨by repeat (first | (with_reducible first | exact HB.out | apply below_alloc | apply pw_below_drewN | apply below_drew1) | exact HB.out)⟩⟩
                            · rw [if_neg c43] at H
                              have c43b0 : ((t114 == 0) != (decide (a0 ≥ a1))) = false := by simpa using c43
                              (try (have c43b1 : decide ((t114 == 0) = (decide (a0 ≥ a1))) = true := by simpa using c43))
                              (try (have c43b2 : ((t114 == 0) == (decide (a0 ≥ a1))) = true := by simpa using c43))
                              clear c43
                              (first | rw [c43b0] | (simp only [i64_w, i32_w]; rw [c43b0]) | skip)
                              by_cases c44 : t114 = 0
                              · rw [if_pos c44] at H
                                have c44b0 : (t114 == 0) = true := beq_iff_eq.mpr c44
                                (try (have c43d0 : (decide (a0 ≥ a1)) = true := by have c43d9 := c43b0; rw [c44b0] at c43d9; simpa using c43d9))
                                (try (have c43d1 : a0 ≥ a1 := by simpa using c43d0))
                                have c44b1 : (t114 != 0) = false := bne_eq_false_iff_eq.mpr c44
                                clear c44
                                by_cases c45 : t115 = (wrap64 (a0 - a1))
                                · rw [if_pos c45] at H
                                  have c45b0 : (t115 == (wrap64 (a0 - a1))) = true := beq_iff_eq.mpr c45
                                  have c45b1 : (t115 != (wrap64 (a0 - a1))) = false := bne_eq_false_iff_eq.mpr c45
                                  clear c45
                                  have H' := Aside0.mk H
                                  clear H
                                  go_wp2
                                  go_meet
                                  case rel => exact ⟨_, (false), (by first | rfl | (simp; done) | (simp [*]; done)), H', ⟨by have := HJ3.out; have := HJ12.out; have := HJ21.out; have := HJ27.out; first | omega | exact Nat.le_refl _⟩, ⟨by repeat (first | (with_reducible first | exact HB.out | apply below_alloc | apply pw_below_drewN | apply below_drew1) | exact HB.out)⟩⟩
                                · rw [if_neg c45] at H
                                  have c45b0 : (t115 == (wrap64 (a0 - a1))) = false := beq_eq_false_iff_ne.mpr c45
                                  have c45b1 : (t115 != (wrap64 (a0 - a1))) = true := bne_iff_ne.mpr c45
                                  have H' := Aside0.mk H
                                  clear H
                                  go_wp2
                                  go_meet
                                  case rel => exact ⟨_, (true), (by first | rfl | (simp; done) | (simp [*]; done)), H', ⟨by have := HJ3.out; have := HJ12.out; have := HJ21.out; have := HJ27.out; first | omega | exact Nat.le_refl _⟩, ⟨by repeat (first | (with_reducible first | exact HB.out | apply below_alloc | apply pw_below_drewN | apply below_drew1) | exact HB.out)⟩⟩
                              · rw [if_neg c44] at H
                                have c44b0 : (t114 == 0) = false := beq_eq_false_iff_ne.mpr c44
                                (try (have c43d0 : (decide (a0 ≥ a1)) = false := by have c43d9 := c43b0; rw [c44b0] at c43d9; simpa using c43d9))
                                (try (have c43d1 : ¬ (a0 ≥ a1) := by simpa using c43d0))
                                have c44b1 : (t114 != 0) = true := bne_iff_ne.mpr c44
                                have H' := Aside0.mk H
                                clear H
                                go_wp2
                                go_meet
                                case rel => exact ⟨_, ((t114 != 9)), (by first | rfl | (simp; done) | (simp [*]; done)), H', ⟨by have := HJ3.out; have := HJ12.out; have := HJ21.out; have := HJ27.out; first | omega | exact Nat.le_refl _⟩, ⟨by repeat (first | (with_reducible first | exact HB.out | apply below_alloc | apply pw_below_drewN | apply below_drew1) | exact HB.out)⟩⟩
                          case rest => as_aux_lemma =>
                            clear HC40
                            try clear c1
                            try clear c2
                            try clear p2
                            try clear c3
                            try clear c4
                            try clear c6
                            try clear c6b0
                            try clear p6
                            try clear c7
                            try clear c7b0
                            try clear c8
                            try clear c8b0
                            try clear c9
                            try clear c12
                            try clear c14
                            try clear c15
                            try clear c17
                            try clear c17b0
                            try clear c17b1
                            try clear c18
                            try clear c18b0
                            try clear c18b1
                            try clear c19
                            try clear c19b0
                            try clear c19b1
                            try clear c20
                            try clear c24
                            try clear c24b0
                            try clear c24b1
                            try clear c24b2
                            try clear c25
                            try clear c31
                            try clear c31b0
                            try clear c31b1
                            try clear c32
                            try clear c32b0
                            try clear c33
                            try clear c33b0
                            try clear c33b1
                            try clear c34
                            try clear c34b0
                            try clear c34b1
                            try clear c35
                            try clear c35b0
                            try clear c36
                            try clear c36b0
                            try clear c37
                            try clear c43
                            try clear c43b0
                            try clear c43b1
                            try clear c43b2
                            try clear c44
                            try clear c44b0
                            try clear c44b1
                            try clear c45
                            try clear c45b0
                            try clear c45b1
                            try clear p2
                            try clear p6
                            obtain ⟨kq, x170_39, rfl, HA, HJ39, HB⟩ := hcut
                            cases kq with
                            | zero => exact absurd HA.out (by simp [observatorylaw03_NaturalInts.j4])
                            | succ kj39 =>
                              have H := HA.out
                              clear HA
                              simp only [observatorylaw03_NaturalInts.j4] at H
                              by_cases c46 : x170_39 = true
                              · subst c46
                                have H1 : (some false) = some r := by rw [if_pos rfl] at H; exact H
                                clear H
                                have H := H1
                                clear H1
                                obtain rfl := Option.some.inj H
                                go_wp2
                                go_ret
                                exact ⟨by first | rfl | (simp [errW_none, errW_some] <;> rfl) | (simp [*, errW_none, errW_some] <;> rfl), by repeat (first | (with_reducible first | exact HB.out | apply below_alloc | apply pw_below_drewN | apply below_drew1) | exact HB.out)⟩
                              · replace c46 := Bool.eq_false_iff.mpr c46
                                subst c46
                                have H1 : (if a1 > 0 then ((natural_Div.f t102 t104).bind fun bt117 => ((natural_Int.f bt117.1).bind fun bt120 => ((natural_Int.f bt117.2.1).bind fun bt122 => (if bt117.2.2 = 0 then (if a1 = 0 then (none) else (if bt120.1 = (wrap64 (Int.tdiv a0 a1)) then (if bt122.1 = (Int.tmod a0 a1) then (observatorylaw03_NaturalInts.j5 kj39 a0 a1 t101 t102 t104) else (some false)) else (some false))) else (some false))))) else (observatorylaw03_NaturalInts.j5 kj39 a0 a1 t101 t102 t104)) = some r := by rw [if_neg (show ¬ (false = true) by decide)] at H; exact H
                                clear H
                                have H := H1
                                clear H1
                                have HC47 := Aside0.mk H
                                clear H
                                go_upto_if 172 with (fail)
                                go_cut [] (fun wc => ∃ (kq : Nat), Aside0 (observatorylaw03_NaturalInts.j5 kq a0 a1 t101 t102 t104 = some r) ∧ Aside0 (kq ≤ kj39) ∧ Aside0 (Below w.heap.size w wc))
                                case first => as_aux_lemma =>
                                  have H := HC47.out
                                  clear HC47
                                  by_cases c48 : a1 > 0
                                  · rw [if_pos c48] at H
                                    have c48b0 : decide (0 < a1) = true := decide_eq_true c48
                                    clear c48
                                    (first | rw [c48b0] | (simp only [i64_w, i32_w]; rw [c48b0]) | skip)
                                    replace H := Option.bind_eq_some_iff.mp H
                                    obtain ⟨⟨t117, t118, t119⟩, A490, H⟩ := H
                                    replace H : ((natural_Int.f t117).bind fun bt120 => ((natural_Int.f t118).bind fun bt122 => (if t119 = 0 then (if a1 = 0 then (none) else (if bt120.1 = (wrap64 (Int.tdiv a0 a1)) then (if bt122.1 = (Int.tmod a0 a1) then (observatorylaw03_NaturalInts.j5 kj39 a0 a1 t101 t102 t104) else (some false)) else (some false))) else (some false)))) = some r := H
                                    have A49 := Aside0.mk A490
                                    clear A490
                                    replace H := Option.bind_eq_some_iff.mp H
                                    obtain ⟨⟨t120, t121⟩, A500, H⟩ := H
                                    replace H : ((natural_Int.f t118).bind fun bt122 => (if t119 = 0 then (if a1 = 0 then (none) else (if t120 = (wrap64 (Int.tdiv a0 a1)) then (if bt122.1 = (Int.tmod a0 a1) then (observatorylaw03_NaturalInts.j5 kj39 a0 a1 t101 t102 t104) else (some false)) else (some false))) else (some false))) = some r := H
                                    have A50 := Aside0.mk A500
                                    clear A500
                                    replace H := Option.bind_eq_some_iff.mp H
                                    obtain ⟨⟨t122, t123⟩, A510, H⟩ := H
                                    replace H : (if t119 = 0 then (if a1 = 0 then (none) else (if t120 = (wrap64 (Int.tdiv a0 a1)) then (if t122 = (Int.tmod a0 a1) then (observatorylaw03_NaturalInts.j5 kj39 a0 a1 t101 t102 t104) else (some false)) else (some false))) else (some false)) = some r := H
                                    have A51 := Aside0.mk A510
                                    clear A510
                                    by_cases c52 : t119 = 0
                                    · rw [if_pos c52] at H
                                      have c52b0 : (t119 == 0) = true := beq_iff_eq.mpr c52
                                      have c52b1 : (t119 != 0) = false := bne_eq_false_iff_eq.mpr c52
                                      clear c52
                                      by_cases c53 : a1 = 0
                                      · rw [if_pos c53] at H
                                        exact absurd H (by simp)
                                      · rw [if_neg c53] at H
                                        have c53b0 : (a1 == 0) = false := beq_eq_false_iff_ne.mpr c53
                                        have c53b1 : (a1 != 0) = true := bne_iff_ne.mpr c53
                                        by_cases c54 : t120 = (wrap64 (Int.tdiv a0 a1))
                                        · rw [if_pos c54] at H
                                          have c54b0 : (t120 == (wrap64 (Int.tdiv a0 a1))) = true := beq_iff_eq.mpr c54
                                          have c54b1 : (t120 != (wrap64 (Int.tdiv a0 a1))) = false := bne_eq_false_iff_eq.mpr c54
                                          clear c54
                                          by_cases c55 : t122 = (Int.tmod a0 a1)
                                          · rw [if_pos c55] at H
                                            have c55b0 : (t122 == (Int.tmod a0 a1)) = true := beq_iff_eq.mpr c55
                                            have c55b1 : (t122 != (Int.tmod a0 a1)) = false := bne_eq_false_iff_eq.mpr c55
                                            clear c55
                                            have H' := Aside0.mk H
                                            clear H
                                            go_wp2_with (first | ((with_reducible refine gate_callee (f := 16) rfl ?_); refine goesL_ (some 176) rfl rfl Tryd.func16 (by kernel_rfl) rfl #[.string t102, .string t104] rfl (by (try simp only [List.map_toArray, List.map_cons, List.map_nil]); first | done | rfl | (simp only [List.length_drop, List.length_take]; rfl)) ?_; (with_reducible refine (natural_Div.calls t102 t104 t117 t118 t119 _ ?side1 A49.out).mono ?_); (case side1 => exact Laid.below HLaid.out (by repeat (first | (with_reducible first | exact HB.out | apply below_alloc | apply pw_below_drewN | apply below_drew1) | exact HB.out))); rintro e w56 ⟨rfl, hb⟩; refine ⟨_, rfl, ?_⟩; have n0_ := Aside0.mk (below_step (by repeat (first | (with_reducible first | exact HB.out | apply below_alloc | apply pw_below_drewN | apply below_drew1) | exact HB.out)) hb); clear HB; have HB := n0_; clear n0_; (try clear hb); (try clear hb2); (try clear hk); (try clear hi)) | ((with_reducible refine gate_callee (f := 19) rfl ?_); refine goesL_ (some 182) rfl rfl Tryd.func19 (by kernel_rfl) rfl #[.string t117] rfl (by (try simp only [List.map_toArray, List.map_cons, List.map_nil]); first | done | rfl | (simp only [List.length_drop, List.length_take]; rfl)) ?_; (with_reducible refine (natural_Int.calls t117 t120 t121 _ ?side1 A50.out).mono ?_); (case side1 => exact Laid.below HLaid.out (by repeat (first | (with_reducible first | exact HB.out | apply below_alloc | apply pw_below_drewN | apply below_drew1) | exact HB.out))); rintro e w57 ⟨rfl, hb⟩; refine ⟨_, rfl, ?_⟩; have n0_ := Aside0.mk (below_step (by repeat (first | (with_reducible first | exact HB.out | apply below_alloc | apply pw_below_drewN | apply below_drew1) | exact HB.out)) hb); clear HB; have HB := n0_; clear n0_; (try clear hb); (try clear hb2); (try clear hk); (try clear hi)) | ((with_reducible refine gate_callee (f := 19) rfl ?_); refine goesL_ (some 187) rfl rfl Tryd.func19 (by kernel_rfl) rfl #[.string t118] rfl (by (try simp only [List.map_toArray, List.map_cons, List.map_nil]); first | done | rfl | (simp only [List.length_drop, List.length_take]; rfl)) ?_; (with_reducible refine (natural_Int.calls t118 t122 t123 _ ?side1 A51.out).mono ?_); (case side1 => exact Laid.below HLaid.out (by repeat (first | (with_reducible first | exact HB.out | apply below_alloc | apply pw_below_drewN | apply below_drew1) | exact HB.out))); rintro e w58 ⟨rfl, hb⟩; refine ⟨_, rfl, ?_⟩; have n0_ := Aside0.mk (below_step (by repeat (first | (with_reducible first | exact HB.out | apply below_alloc | apply pw_below_drewN | apply below_drew1) | exact HB.out)) hb); clear HB; have HB := n0_; clear n0_; (try clear hb); (try clear hb2); (try clear hk); (try clear hi)))
                                            go_meet
                                            case rel => exact ⟨_, H', ⟨by have := HJ3.out; have := HJ12.out; have := HJ21.out; have := HJ27.out; have := HJ39.out; first | omega | exact Nat.le_refl _⟩, ⟨by repeat (first | (with_reducible first | exact HB.out | apply below_alloc | apply pw_below_drewN | apply below_drew1) | exact HB.out)⟩⟩
                                          · rw [if_neg c55] at H
                                            have c55b0 : (t122 == (Int.tmod a0 a1)) = false := beq_eq_false_iff_ne.mpr c55
                                            have c55b1 : (t122 != (Int.tmod a0 a1)) = true := bne_iff_ne.mpr c55
                                            obtain rfl := Option.some.inj H
                                            go_wp2_with (first | ((with_reducible refine gate_callee (f := 16) rfl ?_); refine goesL_ (some 176) rfl rfl Tryd.func16 (by kernel_rfl) rfl #[.string t102, .string t104] rfl (by (try simp only [List.map_toArray, List.map_cons, List.map_nil]); first | done | rfl | (simp only [List.length_drop, List.length_take]; rfl)) ?_; (with_reducible refine (natural_Div.calls t102 t104 t117 t118 t119 _ ?side1 A49.out).mono ?_); (case side1 => exact Laid.below HLaid.out (by repeat (first | (with_reducible first | exact HB.out | apply below_alloc | apply pw_below_drewN | apply below_drew1) | exact HB.out))); rintro e w59 ⟨rfl, hb⟩; refine ⟨_, rfl, ?_⟩; have n0_ := Aside0.mk (below_step (by repeat (first | (with_reducible first | exact HB.out | apply below_alloc | apply pw_below_drewN | apply below_drew1) | exact HB.out)) hb); clear HB; have HB := n0_; clear n0_; (try clear hb); (try clear hb2); (try clear hk); (try clear hi)) | ((with_reducible refine gate_callee (f := 19) rfl ?_); refine goesL_ (some 182) rfl rfl Tryd.func19 (by kernel_rfl) rfl #[.string t117] rfl (by (try simp only [List.map_toArray, List.map_cons, List.map_nil]); first | done | rfl | (simp only [List.length_drop, List.length_take]; rfl)) ?_; (with_reducible refine (natural_Int.calls t117 t120 t121 _ ?side1 A50.out).mono ?_); (case side1 => exact Laid.below HLaid.out (by repeat (first | (with_reducible first | exact HB.out | apply below_alloc | apply pw_below_drewN | apply below_drew1) | exact HB.out))); rintro e w60 ⟨rfl, hb⟩; refine ⟨_, rfl, ?_⟩; have n0_ := Aside0.mk (below_step (by repeat (first | (with_reducible first | exact HB.out | apply below_alloc | apply pw_below_drewN | apply below_drew1) | exact HB.out)) hb); clear HB; have HB := n0_; clear n0_; (try clear hb); (try clear hb2); (try clear hk); (try clear hi)) | ((with_reducible refine gate_callee (f := 19) rfl ?_); refine goesL_ (some 187) rfl rfl Tryd.func19 (by kernel_rfl) rfl #[.string t118] rfl (by (try simp only [List.map_toArray, List.map_cons, List.map_nil]); first | done | rfl | (simp only [List.length_drop, List.length_take]; rfl)) ?_; (with_reducible refine (natural_Int.calls t118 t122 t123 _ ?side1 A51.out).mono ?_); (case side1 => exact Laid.below HLaid.out (by repeat (first | (with_reducible first | exact HB.out | apply below_alloc | apply pw_below_drewN | apply below_drew1) | exact HB.out))); rintro e w61 ⟨rfl, hb⟩; refine ⟨_, rfl, ?_⟩; have n0_ := Aside0.mk (below_step (by repeat (first | (with_reducible first | exact HB.out | apply below_alloc | apply pw_below_drewN | apply below_drew1) | exact HB.out)) hb); clear HB; have HB := n0_; clear n0_; (try clear hb); (try clear hb2); (try clear hk); (try clear hi)))
                                            go_ret
                                            exact ⟨by first | rfl | (simp [errW_none, errW_some] <;> rfl) | (simp [*, errW_none, errW_some] <;> rfl), by repeat (first | (with_reducible first | exact HB.out | apply below_alloc | apply pw_below_drewN | apply below_drew1) | exact HB.out)⟩
                                        · rw [if_neg c54] at H
                                          have c54b0 : (t120 == (wrap64 (Int.tdiv a0 a1))) = false := beq_eq_false_iff_ne.mpr c54
                                          have c54b1 : (t120 != (wrap64 (Int.tdiv a0 a1))) = true := bne_iff_ne.mpr c54
                                          obtain rfl := Option.some.inj H
                                          go_wp2_with (first | ((with_reducible refine gate_callee (f := 16) rfl ?_); refine goesL_ (some 176) rfl rfl Tryd.func16 (by kernel_rfl) rfl #[.string t102, .string t104] rfl (by (try simp only [List.map_toArray, List.map_cons, List.map_nil]); first | done | rfl | (simp only [List.length_drop, List.length_take]; rfl)) ?_; (with_reducible refine (natural_Div.calls t102 t104 t117 t118 t119 _ ?side1 A49.out).mono ?_); (case side1 => exact Laid.below HLaid.out (by repeat (first | (with_reducible first | exact HB.out | apply below_alloc | apply pw_below_drewN | apply below_drew1) | exact HB.out))); rintro e w62 ⟨rfl, hb⟩; refine ⟨_, rfl, ?_⟩; have n0_ := Aside0.mk (below_step (by repeat (first | (with_reducible first | exact HB.out | apply below_alloc | apply pw_below_drewN | apply below_drew1) | exact HB.out)) hb); clear HB; have HB := n0_; clear n0_; (try clear hb); (try clear hb2); (try clear hk); (try clear hi)) | ((with_reducible refine gate_callee (f := 19) rfl ?_); refine goesL_ (some 182) rfl rfl Tryd.func19 (by kernel_rfl) rfl #[.string t117] rfl (by (try simp only [List.map_toArray, List.map_cons, List.map_nil]); first | done | rfl | (simp only [List.length_drop, List.length_take]; rfl)) ?_; (with_reducible refine (natural_Int.calls t117 t120 t121 _ ?side1 A50.out).mono ?_); (case side1 => exact Laid.below HLaid.out (by repeat (first | (with_reducible first | exact HB.out | apply below_alloc | apply pw_below_drewN | apply below_drew1) | exact HB.out))); rintro e w63 ⟨rfl, hb⟩; refine ⟨_, rfl, ?_⟩; have n0_ := Aside0.mk (below_step (by repeat (first | (with_reducible first | exact HB.out | apply below_alloc | apply pw_below_drewN | apply below_drew1) | exact HB.out)) hb); clear HB; have HB := n0_; clear n0_; (try clear hb); (try clear hb2); (try clear hk); (try clear hi)) | ((with_reducible refine gate_callee (f := 19) rfl ?_); refine goesL_ (some 187) rfl rfl Tryd.func19 (by kernel_rfl) rfl #[.string t118] rfl (by (try simp only [List.map_toArray, List.map_cons, List.map_nil]); first | done | rfl | (simp only [List.length_drop, List.length_take]; rfl)) ?_; (with_reducible refine (natural_Int.calls t118 t122 t123 _ ?side1 A51.out).mono ?_); (case side1 => exact Laid.below HLaid.out (by repeat (first | (with_reducible first | exact HB.out | apply below_alloc | apply pw_below_drewN | apply below_drew1) | exact HB.out))); rintro e w64 ⟨rfl, hb⟩; refine ⟨_, rfl, ?_⟩; have n0_ := Aside0.mk (below_step (by repeat (first | (with_reducible first | exact HB.out | apply below_alloc | apply pw_below_drewN | apply below_drew1) | exact HB.out)) hb); clear HB; have HB := n0_; clear n0_; (try clear hb); (try clear hb2); (try clear hk); (try clear hi)))
                                          go_ret
                                          exact ⟨by first | rfl | (simp [errW_none, errW_some] <;> rfl) | (simp [*, errW_none, errW_some] <;> rfl), by repeat (first | (with_reducible first | exact HB.out | apply below_alloc | apply pw_below_drewN | apply below_drew1) | exact HB.out)⟩
                                    · rw [if_neg c52] at H
                                      have c52b0 : (t119 == 0) = false := beq_eq_false_iff_ne.mpr c52
                                      have c52b1 : (t119 != 0) = true := bne_iff_ne.mpr c52
                                      obtain rfl := Option.some.inj H
                                      go_wp2_with (first | ((with_reducible refine gate_callee (f := 16) rfl ?_); refine goesL_ (some 176) rfl rfl Tryd.func16 (by kernel_rfl) rfl #[.string t102, .string t104] rfl (by (try simp only [List.map_toArray, List.map_cons, List.map_nil]); first | done | rfl | (simp only [List.length_drop, List.length_take]; rfl)) ?_; (with_reducible refine (natural_Div.calls t102 t104 t117 t118 t119 _ ?side1 A49.out).mono ?_); (case side1 => exact Laid.below HLaid.out (by repeat (first | (with_reducible first | exact HB.out | apply below_alloc | apply pw_below_drewN | apply below_drew1) | exact HB.out))); rintro e w65 ⟨rfl, hb⟩; refine ⟨_, rfl, ?_⟩; have n0_ := Aside0.mk (below_step (by repeat (first | (with_reducible first | exact HB.out | apply below_alloc | apply pw_below_drewN | apply below_drew1) | exact HB.out)) hb); clear HB; have HB := n0_; clear n0_; (try clear hb); (try clear hb2); (try clear hk); (try clear hi)) | ((with_reducible refine gate_callee (f := 19) rfl ?_); refine goesL_ (some 182) rfl rfl Tryd.func19 (by kernel_rfl) rfl #[.string t117] rfl (by (try simp only [List.map_toArray, List.map_cons, List.map_nil]); first | done | rfl | (simp only [List.length_drop, List.length_take]; rfl)) ?_; (with_reducible refine (natural_Int.calls t117 t120 t121 _ ?side1 A50.out).mono ?_); (case side1 => exact Laid.below HLaid.out (by repeat (first | (with_reducible first | exact HB.out | apply below_alloc | apply pw_below_drewN | apply below_drew1) | exact HB.out))); rintro e w66 ⟨rfl, hb⟩; refine ⟨_, rfl, ?_⟩; have n0_ := Aside0.mk (below_step (by repeat (first | (with_reducible first | exact HB.out | apply below_alloc | apply pw_below_drewN | apply below_drew1) | exact HB.out)) hb); clear HB; have HB := n0_; clear n0_; (try clear hb); (try clear hb2); (try clear hk); (try clear hi)) | ((with_reducible refine gate_callee (f := 19) rfl ?_); refine goesL_ (some 187) rfl rfl Tryd.func19 (by kernel_rfl) rfl #[.string t118] rfl (by (try simp only [List.map_toArray, List.map_cons, List.map_nil]); first | done | rfl | (simp only [List.length_drop, List.length_take]; rfl)) ?_; (with_reducible refine (natural_Int.calls t118 t122 t123 _ ?side1 A51.out).mono ?_); (case side1 => exact Laid.below HLaid.out (by repeat (first | (with_reducible first | exact HB.out | apply below_alloc | apply pw_below_drewN | apply below_drew1) | exact HB.out))); rintro e w67 ⟨rfl, hb⟩; refine ⟨_, rfl, ?_⟩; have n0_ := Aside0.mk (below_step (by repeat (first | (with_reducible first | exact HB.out | apply below_alloc | apply pw_below_drewN | apply below_drew1) | exact HB.out)) hb); clear HB; have HB := n0_; clear n0_; (try clear hb); (try clear hb2); (try clear hk); (try clear hi)))
                                      go_ret
                                      exact ⟨by first | rfl | (simp [errW_none, errW_some] <;> rfl) | (simp [*, errW_none, errW_some] <;> rfl), by repeat (first | (with_reducible first | exact HB.out | apply below_alloc | apply pw_below_drewN | apply below_drew1) | exact HB.out)⟩
                                  · rw [if_neg c48] at H
                                    have c48b0 : decide (0 < a1) = false := decide_eq_false c48
                                    clear c48
                                    (first | rw [c48b0] | (simp only [i64_w, i32_w]; rw [c48b0]) | skip)
                                    have H' := Aside0.mk H
                                    clear H
                                    go_wp2
                                    go_meet
                                    case rel => exact ⟨_, H', ⟨by have := HJ3.out; have := HJ12.out; have := HJ21.out; have := HJ27.out; have := HJ39.out; first | omega | exact Nat.le_refl _⟩, ⟨by repeat (first | (with_reducible first | exact HB.out | apply below_alloc | apply pw_below_drewN | apply below_drew1) | exact HB.out)⟩⟩
                                case rest => as_aux_lemma =>
                                  clear HC47
                                  try clear c1
                                  try clear c2
                                  try clear p2
                                  try clear c3
                                  try clear c4
                                  try clear c5
                                  try clear c6
                                  try clear c6b0
                                  try clear p6
                                  try clear c7
                                  try clear c7b0
                                  try clear c8
                                  try clear c8b0
                                  try clear c9
                                  try clear c12
                                  try clear c14
                                  try clear c15
                                  try clear c16
                                  try clear c17
                                  try clear c17b0
                                  try clear c17b1
                                  try clear c18
                                  try clear c18b0
                                  try clear c18b1
                                  try clear c19
                                  try clear c19b0
                                  try clear c19b1
                                  try clear c20
                                  try clear c24
                                  try clear c24b0
                                  try clear c24b1
                                  try clear c24b2
                                  try clear c25
                                  try clear c31
                                  try clear c31b0
                                  try clear c31b1
                                  try clear c32
                                  try clear c32b0
                                  try clear c33
                                  try clear c33b0
                                  try clear c33b1
                                  try clear c34
                                  try clear c34b0
                                  try clear c34b1
                                  try clear c35
                                  try clear c35b0
                                  try clear c36
                                  try clear c36b0
                                  try clear c37
                                  try clear c43
                                  try clear c43b0
                                  try clear c43b1
                                  try clear c43b2
                                  try clear c44
                                  try clear c44b0
                                  try clear c44b1
                                  try clear c45
                                  try clear c45b0
                                  try clear c45b1
                                  try clear c46
                                  try clear c48
                                  try clear c48b0
                                  try clear c52
                                  try clear c52b0
                                  try clear c52b1
                                  try clear c53
                                  try clear c53b0
                                  try clear c53b1
                                  try clear c54
                                  try clear c54b0
                                  try clear c54b1
                                  try clear c55
                                  try clear c55b0
                                  try clear c55b1
                                  try clear p64
                                  try clear p2
                                  try clear p6
                                  obtain ⟨kq, HA, HJ46, HB⟩ := hcut
                                  cases kq with
                                  | zero => exact absurd HA.out (by simp [observatorylaw03_NaturalInts.j5])
                                  | succ kj46 =>
                                    have H := HA.out
                                    clear HA
                                    simp only [observatorylaw03_NaturalInts.j5] at H
                                    have HC68 := Aside0.mk H
                                    clear H
                                    go_upto_region 26 with (fail)
                                    go_cut [211] (fun v211 wc => ∃ (kq : Nat) (x211_67 : Bool), v211 = .bool x211_67 ∧ Aside0 (observatorylaw03_NaturalInts.j6 kq a0 a1 t101 t102 t104 x211_67 = some r) ∧ Aside0 (kq ≤ kj46) ∧ Aside0 (Below w.heap.size w wc))
                                    case first => as_aux_lemma =>
                                      have H := HC68.out
                                      clear HC68
                                      by_cases c69 : a0 ≥ 1000000
                                      · rw [if_pos c69] at H
                                        have c69b0 : decide (1000000 ≤ a0) = true := decide_eq_true c69
                                        clear c69
                                        (first | rw [c69b0] | (simp only [i64_w, i32_w]; rw [c69b0]) | skip)
                                        have H' := Aside0.mk H
                                        clear H
                                        go_wp2
                                        go_meet
                                        case rel => exact ⟨_, (true), (by first | rfl | (simp; done) | (simp [*]; done)), H', ⟨by have := HJ3.out; have := HJ12.out; have := HJ21.out; have := HJ27.out; have := HJ39.out; have := HJ46.out; first | omega | exact Nat.le_refl _⟩, ⟨by repeat (first | (with_reducible first | exact HB.out | apply below_alloc | apply pw_below_drewN | apply below_drew1) | exact HB.out)⟩⟩
                                      · rw [if_neg c69] at H
                                        have c69b0 : decide (1000000 ≤ a0) = false := decide_eq_false c69
                                        clear c69
                                        (first | rw [c69b0] | (simp only [i64_w, i32_w]; rw [c69b0]) | skip)
                                        have H' := Aside0.mk H
                                        clear H
                                        go_wp2
                                        go_meet
                                        case rel => exact ⟨_, (decide (a1 ≥ 1000000)), (by first | rfl | (simp; done) | (simp [*]; done)), H', ⟨by have := HJ3.out; have := HJ12.out; have := HJ21.out; have := HJ27.out; have := HJ39.out; have := HJ46.out; first | omega | exact Nat.le_refl _⟩, ⟨by repeat (first | (with_reducible first | exact HB.out | apply below_alloc | apply pw_below_drewN | apply below_drew1) | exact HB.out)⟩⟩
                                    case rest => as_aux_lemma =>
                                      clear HC68
                                      try clear c1
                                      try clear c2
                                      try clear p2
                                      try clear c3
                                      try clear c4
                                      try clear c5
                                      try clear c6
                                      try clear c6b0
                                      try clear p6
                                      try clear c7
                                      try clear c7b0
                                      try clear c8
                                      try clear c8b0
                                      try clear c9
                                      try clear c12
                                      try clear c14
                                      try clear c15
                                      try clear c16
                                      try clear c17
                                      try clear c17b0
                                      try clear c17b1
                                      try clear c18
                                      try clear c18b0
                                      try clear c18b1
                                      try clear c19
                                      try clear c19b0
                                      try clear c19b1
                                      try clear c20
                                      try clear c24
                                      try clear c24b0
                                      try clear c24b1
                                      try clear c24b2
                                      try clear c25
                                      try clear c31
                                      try clear c31b0
                                      try clear c31b1
                                      try clear c32
                                      try clear c32b0
                                      try clear c33
                                      try clear c33b0
                                      try clear c33b1
                                      try clear c34
                                      try clear c34b0
                                      try clear c34b1
                                      try clear c35
                                      try clear c35b0
                                      try clear c36
                                      try clear c36b0
                                      try clear c37
                                      try clear c43
                                      try clear c43b0
                                      try clear c43b1
                                      try clear c43b2
                                      try clear c44
                                      try clear c44b0
                                      try clear c44b1
                                      try clear c45
                                      try clear c45b0
                                      try clear c45b1
                                      try clear c46
                                      try clear c48
                                      try clear c48b0
                                      try clear c52
                                      try clear c52b0
                                      try clear c52b1
                                      try clear c53
                                      try clear c53b0
                                      try clear c53b1
                                      try clear c54
                                      try clear c54b0
                                      try clear c54b1
                                      try clear c55
                                      try clear c55b0
                                      try clear c55b1
                                      try clear p64
                                      try clear c69
                                      try clear c69b0
                                      try clear p2
                                      try clear p6
                                      try clear p64
                                      obtain ⟨kq, x211_67, rfl, HA, HJ67, HB⟩ := hcut
                                      cases kq with
                                      | zero => exact absurd HA.out (by simp [observatorylaw03_NaturalInts.j6])
                                      | succ kj67 =>
                                        have H := HA.out
                                        clear HA
                                        simp only [observatorylaw03_NaturalInts.j6] at H
                                        by_cases c70 : x211_67 = true
                                        · subst c70
                                          have H1 : (some t101) = some r := by rw [if_pos rfl] at H; exact H
                                          clear H
                                          have H := H1
                                          clear H1
                                          obtain rfl := Option.some.inj H
                                          go_wp2
                                          go_ret
                                          exact ⟨by first | rfl | (simp [errW_none, errW_some] <;> rfl) | (simp [*, errW_none, errW_some] <;> rfl), by repeat (first | (with_reducible first | exact HB.out | apply below_alloc | apply pw_below_drewN | apply below_drew1) | exact HB.out)⟩
                                        · replace c70 := Bool.eq_false_iff.mpr c70
                                          subst c70
                                          have H1 : ((natural_Mul.f t102 t104).bind fun bt124 => ((natural_Int.f bt124.1).bind fun bt126 => (if t101 = true then (if bt124.2 = 0 then (if bt126.2 = 0 then (some (bt126.1 == (wrap64 (a0 * a1)))) else (some false)) else (some false)) else (some false)))) = some r := by rw [if_neg (show ¬ (false = true) by decide)] at H; exact H
                                          clear H
                                          have H := H1
                                          clear H1
                                          replace H := Option.bind_eq_some_iff.mp H
                                          obtain ⟨⟨t124, t125⟩, A710, H⟩ := H
                                          replace H : ((natural_Int.f t124).bind fun bt126 => (if t101 = true then (if t125 = 0 then (if bt126.2 = 0 then (some (bt126.1 == (wrap64 (a0 * a1)))) else (some false)) else (some false)) else (some false))) = some r := H
                                          have A71 := Aside0.mk A710
                                          clear A710
                                          replace H := Option.bind_eq_some_iff.mp H
                                          obtain ⟨⟨t126, t127⟩, A720, H⟩ := H
                                          replace H : (if t101 = true then (if t125 = 0 then (if t127 = 0 then (some (t126 == (wrap64 (a0 * a1)))) else (some false)) else (some false)) else (some false)) = some r := H
                                          have A72 := Aside0.mk A720
                                          clear A720
                                          by_cases c73 : t101 = true
                                          · subst c73
                                            have H1 : (if t125 = 0 then (if t127 = 0 then (some (t126 == (wrap64 (a0 * a1)))) else (some false)) else (some false)) = some r := by rw [if_pos rfl] at H; exact H
                                            clear H
                                            have H := H1
                                            clear H1
                                            by_cases c74 : t125 = 0
                                            · rw [if_pos c74] at H
                                              have c74b0 : (t125 == 0) = true := beq_iff_eq.mpr c74
                                              have c74b1 : (t125 != 0) = false := bne_eq_false_iff_eq.mpr c74
                                              clear c74
                                              by_cases c75 : t127 = 0
                                              · rw [if_pos c75] at H
                                                have c75b0 : (t127 == 0) = true := beq_iff_eq.mpr c75
                                                have c75b1 : (t127 != 0) = false := bne_eq_false_iff_eq.mpr c75
                                                clear c75
                                                obtain rfl := Option.some.inj H
                                                go_wp2_with (first | ((with_reducible refine gate_callee (f := 13) rfl ?_); refine goesL_ (some 216) rfl rfl Tryd.func13 (by kernel_rfl) rfl #[.string t102, .string t104] rfl (by (try simp only [List.map_toArray, List.map_cons, List.map_nil]); first | done | rfl | (simp only [List.length_drop, List.length_take]; rfl)) ?_; (with_reducible refine (natural_Mul.calls t102 t104 t124 t125 _ ?side1 A71.out).mono ?_); (case side1 => exact Laid.below HLaid.out (by repeat (first | (with_reducible first | exact HB.out | apply below_alloc | apply pw_below_drewN | apply below_drew1) | exact HB.out))); rintro e w76 ⟨rfl, hb⟩; refine ⟨_, rfl, ?_⟩; have n0_ := Aside0.mk (below_step (by repeat (first | (with_reducible first | exact HB.out | apply below_alloc | apply pw_below_drewN | apply below_drew1) | exact HB.out)) hb); clear HB; have HB := n0_; clear n0_; (try clear hb); (try clear hb2); (try clear hk); (try clear hi)) | ((with_reducible refine gate_callee (f := 19) rfl ?_); refine goesL_ (some 221) rfl rfl Tryd.func19 (by kernel_rfl) rfl #[.string t124] rfl (by (try simp only [List.map_toArray, List.map_cons, List.map_nil]); first | done | rfl | (simp only [List.length_drop, List.length_take]; rfl)) ?_; (with_reducible refine (natural_Int.calls t124 t126 t127 _ ?side1 A72.out).mono ?_); (case side1 => exact Laid.below HLaid.out (by repeat (first | (with_reducible first | exact HB.out | apply below_alloc | apply pw_below_drewN | apply below_drew1) | exact HB.out))); rintro e w77 ⟨rfl, hb⟩; refine ⟨_, rfl, ?_⟩; have n0_ := Aside0.mk (below_step (by repeat (first | (with_reducible first | exact HB.out | apply below_alloc | apply pw_below_drewN | apply below_drew1) | exact HB.out)) hb); clear HB; have HB := n0_; clear n0_; (try clear hb); (try clear hb2); (try clear hk); (try clear hi)))
                                                go_ret
                                                exact ⟨by first | rfl | (simp [errW_none, errW_some] <;> rfl) | (simp [*, errW_none, errW_some] <;> rfl), by repeat (first | (with_reducible first | exact HB.out | apply below_alloc | apply pw_below_drewN | apply below_drew1) | exact HB.out)⟩
                                              · rw [if_neg c75] at H
                                                have c75b0 : (t127 == 0) = false := beq_eq_false_iff_ne.mpr c75
                                                have c75b1 : (t127 != 0) = true := bne_iff_ne.mpr c75
                                                obtain rfl := Option.some.inj H
                                                go_wp2_with (first | ((with_reducible refine gate_callee (f := 13) rfl ?_); refine goesL_ (some 216) rfl rfl Tryd.func13 (by kernel_rfl) rfl #[.string t102, .string t104] rfl (by (try simp only [List.map_toArray, List.map_cons, List.map_nil]); first | done | rfl | (simp only [List.length_drop, List.length_take]; rfl)) ?_; (with_reducible refine (natural_Mul.calls t102 t104 t124 t125 _ ?side1 A71.out).mono ?_); (case side1 => exact Laid.below HLaid.out (by repeat (first | (with_reducible first | exact HB.out | apply below_alloc | apply pw_below_drewN | apply below_drew1) | exact HB.out))); rintro e w78 ⟨rfl, hb⟩; refine ⟨_, rfl, ?_⟩; have n0_ := Aside0.mk (below_step (by repeat (first | (with_reducible first | exact HB.out | apply below_alloc | apply pw_below_drewN | apply below_drew1) | exact HB.out)) hb); clear HB; have HB := n0_; clear n0_; (try clear hb); (try clear hb2); (try clear hk); (try clear hi)) | ((with_reducible refine gate_callee (f := 19) rfl ?_); refine goesL_ (some 221) rfl rfl Tryd.func19 (by kernel_rfl) rfl #[.string t124] rfl (by (try simp only [List.map_toArray, List.map_cons, List.map_nil]); first | done | rfl | (simp only [List.length_drop, List.length_take]; rfl)) ?_; (with_reducible refine (natural_Int.calls t124 t126 t127 _ ?side1 A72.out).mono ?_); (case side1 => exact Laid.below HLaid.out (by repeat (first | (with_reducible first | exact HB.out | apply below_alloc | apply pw_below_drewN | apply below_drew1) | exact HB.out))); rintro e w79 ⟨rfl, hb⟩; refine ⟨_, rfl, ?_⟩; have n0_ := Aside0.mk (below_step (by repeat (first | (with_reducible first | exact HB.out | apply below_alloc | apply pw_below_drewN | apply below_drew1) | exact HB.out)) hb); clear HB; have HB := n0_; clear n0_; (try clear hb); (try clear hb2); (try clear hk); (try clear hi)))
                                                go_ret
                                                exact ⟨by first | rfl | (simp [errW_none, errW_some] <;> rfl) | (simp [*, errW_none, errW_some] <;> rfl), by repeat (first | (with_reducible first | exact HB.out | apply below_alloc | apply pw_below_drewN | apply below_drew1) | exact HB.out)⟩
                                            · rw [if_neg c74] at H
                                              have c74b0 : (t125 == 0) = false := beq_eq_false_iff_ne.mpr c74
                                              have c74b1 : (t125 != 0) = true := bne_iff_ne.mpr c74
                                              obtain rfl := Option.some.inj H
                                              go_wp2_with (first | ((with_reducible refine gate_callee (f := 13) rfl ?_); refine goesL_ (some 216) rfl rfl Tryd.func13 (by kernel_rfl) rfl #[.string t102, .string t104] rfl (by (try simp only [List.map_toArray, List.map_cons, List.map_nil]); first | done | rfl | (simp only [List.length_drop, List.length_take]; rfl)) ?_; (with_reducible refine (natural_Mul.calls t102 t104 t124 t125 _ ?side1 A71.out).mono ?_); (case side1 => exact Laid.below HLaid.out (by repeat (first | (with_reducible first | exact HB.out | apply below_alloc | apply pw_below_drewN | apply below_drew1) | exact HB.out))); rintro e w80 ⟨rfl, hb⟩; refine ⟨_, rfl, ?_⟩; have n0_ := Aside0.mk (below_step (by repeat (first | (with_reducible first | exact HB.out | apply below_alloc | apply pw_below_drewN | apply below_drew1) | exact HB.out)) hb); clear HB; have HB := n0_; clear n0_; (try clear hb); (try clear hb2); (try clear hk); (try clear hi)) | ((with_reducible refine gate_callee (f := 19) rfl ?_); refine goesL_ (some 221) rfl rfl Tryd.func19 (by kernel_rfl) rfl #[.string t124] rfl (by (try simp only [List.map_toArray, List.map_cons, List.map_nil]); first | done | rfl | (simp only [List.length_drop, List.length_take]; rfl)) ?_; (with_reducible refine (natural_Int.calls t124 t126 t127 _ ?side1 A72.out).mono ?_); (case side1 => exact Laid.below HLaid.out (by repeat (first | (with_reducible first | exact HB.out | apply below_alloc | apply pw_below_drewN | apply below_drew1) | exact HB.out))); rintro e w81 ⟨rfl, hb⟩; refine ⟨_, rfl, ?_⟩; have n0_ := Aside0.mk (below_step (by repeat (first | (with_reducible first | exact HB.out | apply below_alloc | apply pw_below_drewN | apply below_drew1) | exact HB.out)) hb); clear HB; have HB := n0_; clear n0_; (try clear hb); (try clear hb2); (try clear hk); (try clear hi)))
                                              go_ret
                                              exact ⟨by first | rfl | (simp [errW_none, errW_some] <;> rfl) | (simp [*, errW_none, errW_some] <;> rfl), by repeat (first | (with_reducible first | exact HB.out | apply below_alloc | apply pw_below_drewN | apply below_drew1) | exact HB.out)⟩
                                          · replace c73 := Bool.eq_false_iff.mpr c73
                                            subst c73
                                            have H1 : (some false) = some r := by rw [if_neg (show ¬ (false = true) by decide)] at H; exact H
                                            clear H
                                            have H := H1
                                            clear H1
                                            obtain rfl := Option.some.inj H
                                            go_wp2_with (first | ((with_reducible refine gate_callee (f := 13) rfl ?_); refine goesL_ (some 216) rfl rfl Tryd.func13 (by kernel_rfl) rfl #[.string t102, .string t104] rfl (by (try simp only [List.map_toArray, List.map_cons, List.map_nil]); first | done | rfl | (simp only [List.length_drop, List.length_take]; rfl)) ?_; (with_reducible refine (natural_Mul.calls t102 t104 t124 t125 _ ?side1 A71.out).mono ?_); (case side1 => exact Laid.below HLaid.out (by repeat (first | (with_reducible first | exact HB.out | apply below_alloc | apply pw_below_drewN | apply below_drew1) | exact HB.out))); rintro e w82 ⟨rfl, hb⟩; refine ⟨_, rfl, ?_⟩; have n0_ := Aside0.mk (below_step (by repeat (first | (with_reducible first | exact HB.out | apply below_alloc | apply pw_below_drewN | apply below_drew1) | exact HB.out)) hb); clear HB; have HB := n0_; clear n0_; (try clear hb); (try clear hb2); (try clear hk); (try clear hi)) | ((with_reducible refine gate_callee (f := 19) rfl ?_); refine goesL_ (some 221) rfl rfl Tryd.func19 (by kernel_rfl) rfl #[.string t124] rfl (by (try simp only [List.map_toArray, List.map_cons, List.map_nil]); first | done | rfl | (simp only [List.length_drop, List.length_take]; rfl)) ?_; (with_reducible refine (natural_Int.calls t124 t126 t127 _ ?side1 A72.out).mono ?_); (case side1 => exact Laid.below HLaid.out (by repeat (first | (with_reducible first | exact HB.out | apply below_alloc | apply pw_below_drewN | apply below_drew1) | exact HB.out))); rintro e w83 ⟨rfl, hb⟩; refine ⟨_, rfl, ?_⟩; have n0_ := Aside0.mk (below_step (by repeat (first | (with_reducible first | exact HB.out | apply below_alloc | apply pw_below_drewN | apply below_drew1) | exact HB.out)) hb); clear HB; have HB := n0_; clear n0_; (try clear hb); (try clear hb2); (try clear hk); (try clear hi)))
                                            go_ret
                                            exact ⟨by first | rfl | (simp [errW_none, errW_some] <;> rfl) | (simp [*, errW_none, errW_some] <;> rfl), by repeat (first | (with_reducible first | exact HB.out | apply below_alloc | apply pw_below_drewN | apply below_drew1) | exact HB.out)⟩

/-- THE ONE PURE STATEMENT of observatorylaw03_NaturalInts: yours. -/
def observatorylaw03_NaturalInts.Pure : Prop := ∀ (a0 : Int) (a1 : Int), (Lit.int .i64 a0).wf = true → (Lit.int .i64 a1).wf = true → ∃ k, observatorylaw03_NaturalInts.f k a0 a1 = some true
theorem observatorylaw03_NaturalInts.walk (P : observatorylaw03_NaturalInts.Pure) (a0 : Int) (a1 : Int) (w : World) (hL : Laid w) (w0 : (Lit.int .i64 a0).wf = true) (w1 : (Lit.int .i64 a1).wf = true) :
    Calls Tryd.prog 7 #[.int .i64 a0, .int .i64 a1] w fun e w' => e = .returned (.bool true) ∧ Below w.heap.size w w' := by
  obtain ⟨k, h⟩ := P a0 a1 w0 w1
  refine (observatorylaw03_NaturalInts.calls k a0 a1 true w hL h).mono ?_
  rintro e w' ⟨rfl, hd⟩
  exact ⟨rfl, hd⟩

end Go.Proofs.YtdhhbmmidgebhaaDoor.XInt

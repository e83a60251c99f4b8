/- The texts of this claim, laid together by a program of this session (bundle.py). -/
import Derived.Test.YthpomhboogcigaaGreatDoorBLOr1
import Derived.Test.YthpomhboogcigaaGreatDoorBLOr6
import Derived.Test.YthpomhboogcigaaGreatDoorBLOr8
import Derived.Test.YthpomhboogcigaaGreatDoorProg
import Derived.Below
import Derived.Deep.Draws
import Derived.Deep.AppendLies
import Derived.Maps.AppendAt
import Derived.OwnWalk
import Derived.Laws.BytesArg
import Derived.Laws.MakeOwn
import Derived.Laws.OwnMore
import Derived.Deep.OwnRows
import Derived.Tactics
import Derived.Lib.ConvBytes
import Derived.Laws.Slices
import Derived.WalkKit
import Derived.KernelRfl
import Derived.RowKit3
import Derived.Deep.LoopGhost
import Derived.Deep.QuietTactic
import Derived.BigQuiet
import Derived.WideLaws
import Derived.Deep.DeepCutAuto
import Derived.Deep.CutBlock
import Derived.Deep.RegionHeld3
import Derived.Laws.Rows
import Derived.Lib.AppendStr
import Derived.ArgAppend
import Derived.Laws.IdiomCopy
import Derived.OrdersHeld
import Derived.Laws.BitsLemmas
import Derived.RowKit
import Derived.WalkLawsBesides
import Derived.WalkSpells
section -- XRead0
/- Written by a program of this session (xprint.sh), out of the translation: Lean functions that tell what Go functions of the program tell, and the proofs that they do, over the given callees; no condition but what each theorem states. -/
namespace Go.Proofs.YthpomhboogcigaaGreatDoor.XRead
open Go.RowKit Go.Proofs.YthpomhboogcigaaGreatDoorW.PrintWords Go.Proofs.YthpomhboogcigaaGreatDoorW.PrintLast Go.Proofs.YthpomhboogcigaaGreatDoorW.PrintMore
attribute [local go_sem] max2_int min2_int max_two min_two max_three min_three max_four min_four   -- for this text's walks alone
set_option linter.unusedVariables false
set_option linter.unusedSimpArgs false
def errW : Option Int → Value
  | none => .nilIface
  | some c => .iface 0 (.int .i64 c)
theorem errW_none : errW none = .nilIface := rfl
theorem errW_some (c : Int) : errW (some c) = .iface 0 (.int .i64 c) := rfl
theorem info3 : (Tryz.prog.info? 3).map (fun i => (i.zero, i.size, i.bytes)) = some (some (.int .i64 0), 1, 8) := by kernel_rfl
end Go.Proofs.YthpomhboogcigaaGreatDoor.XRead
end
section -- XRead1
/- Written by a program of this session (xprint.sh), out of the translation: Lean functions that tell what Go functions of the program tell, and the proofs that they do, over the given callees; no condition but what each theorem states. -/
namespace Go.Proofs.YthpomhboogcigaaGreatDoor.XRead
open Go.RowKit Go.Proofs.YthpomhboogcigaaGreatDoorW.PrintWords Go.Proofs.YthpomhboogcigaaGreatDoorW.PrintLast Go.Proofs.YthpomhboogcigaaGreatDoorW.PrintMore
attribute [local go_sem] max2_int min2_int max_two min_two max_three min_three max_four min_four   -- for this text's walks alone
set_option linter.unusedVariables false
set_option linter.unusedSimpArgs false
def natural_limbs_trimmed.l0 : Nat → List Int → Int → Option (List Int)
  | 0, _, _ => none
  | k + 1, x0, x3 => if x3 > 0 then (if 0 ≤ (wrap64 (x3 - 1)) then (if (wrap64 (x3 - 1)) < (x0.length : Int) then (if (rd x0 (wrap64 (x3 - 1))) = 0 then (natural_limbs_trimmed.l0 k x0 (wrap64 (x3 - 1))) else (if 0 ≤ x3 then (if x3 ≤ (x0.length : Int) then (some (x0.take (x3 : Int).toNat)) else (none)) else (none))) else (none)) else (none)) else (if 0 ≤ x3 then (if x3 ≤ (x0.length : Int) then (some (x0.take (x3 : Int).toNat)) else (none)) else (none))
def natural_limbs_trimmed.f (k : Nat) (l0 : List Int) : Option (List Int) := natural_limbs_trimmed.l0 k l0 (l0.length : Int)
set_option maxHeartbeats 8000000 in
set_option maxRecDepth 100000 in
theorem natural_limbs_trimmed.calls (k : Nat) (P0_ : Nat → Prop) (u9000_ : Value) (l0 : List Int) (r : List Int) (w0 w : World) (hB : Below w0.heap.size w0 w) (ho0 : Kd.R (Kd.int .i64) 3 w w0.heap.size P0_ u9000_ l0) (h : natural_limbs_trimmed.f k l0 = some r) :
    Calls Tryz.prog 94 #[u9000_] w fun e w' => ∃ v0_ : Value, e = .returned (v0_) ∧ Kd.R (Kd.int .i64) 3 w' w0.heap.size (fun k_ => (P0_ k_ ∨ w.heap.size ≤ k_)) v0_ r ∧ Below w0.heap.size w0 w' ∧ Kept w w' (fun k_ => P0_ k_) := by
  have HO0 := Aside0.mk (show Kd.R (Kd.int .i64) 3 w w0.heap.size (fun k_ => (P0_ k_ ∨ w.heap.size ≤ k_)) u9000_ l0 from Kd.R_mono ho0 (fun k_ hk => (.inl hk)))
  have HK := Aside0.mk (Kept.refl w (fun k_ => P0_ k_))
  have HW0 := Aside0.mk hB.size
  have HB := Aside0.mk hB
  clear hB
  have H : (natural_limbs_trimmed.l0 k l0 (l0.length : Int)) = some r := h
  clear h
  have H' := Aside0.mk H
  clear H
  obtain ⟨Ao2, co2, eo2⟩ := Kd.R_slice HO0.out
  subst eo2
  go_enter Tryz.func94, Tryz.ntmps94
  go_wp2
  go_loopg [3] k (fun kq v3 w' => ∃ (x3_1 : Int), v3 = .int .i64 x3_1 ∧ Aside0 (natural_limbs_trimmed.l0 kq l0 x3_1 = some r) ∧ Aside0 (kq ≤ k) ∧ Aside0 (Kd.R (Kd.int .i64) 3 w' w0.heap.size (fun k_ => (P0_ k_ ∨ w.heap.size ≤ k_)) (.slice Ao2 l0.length co2) l0) ∧ Aside0 (Kept w w' (fun k_ => P0_ k_)) ∧ Aside0 (Below w0.heap.size w0 w'))
  case atStart => exact ⟨((l0.length : Int)), (by first | rfl | (simp; done) | (simp [*]; done)), H', ⟨Nat.le_refl _⟩, ⟨by (with_reducible repeat (first | apply Kd.R_alloc | apply Kd.R_drewN | apply Kd.R_drew)); exact HO0.out⟩, ⟨by repeat (first | (with_reducible first | exact HK.out | apply Kept.alloc | apply Kept.drewN | apply Kept.drew) | exact HK.out)⟩, ⟨by repeat (first | (with_reducible first | exact HB.out | apply below_alloc | apply pw_below_drewN | apply below_drew1) | exact HB.out)⟩⟩
  case round =>
    clear H'
    try clear p2
    obtain ⟨x3_1, rfl, HA, HK1, HO_0, HK, HB⟩ := hrel
    cases gk with
    | zero => exact absurd HA.out (by simp [natural_limbs_trimmed.l0])
    | succ k1 =>
      have H := HA.out
      clear HA
      simp only [natural_limbs_trimmed.l0] at H
      by_cases c3 : x3_1 > 0
      · rw [if_pos c3] at H
        have c3b0 : decide (0 < x3_1) = true := decide_eq_true c3
        clear c3
        obtain ⟨ji4, hji4⟩ : ∃ j_ : Int, (wrap64 (x3_1 - 1)) = j_ := ⟨_, rfl⟩
        replace H : (if 0 ≤ (ji4) then (if (ji4) < (l0.length : Int) then (if (rd l0 (ji4)) = 0 then (natural_limbs_trimmed.l0 k1 l0 ji4) else (if 0 ≤ x3_1 then (if x3_1 ≤ (l0.length : Int) then (some (l0.take (x3_1 : Int).toNat)) else (none)) else (none))) else (none)) else (none)) = some r := by first | (rw [hji4] at H; exact H) | (simp only [hji4] at H ⊢; exact H)
        have hji4w : (IntKind.i64.wrap (x3_1 - 1)) = ji4 := (i64_w _).trans hji4
        by_cases c5 : 0 ≤ (ji4)
        · rw [if_pos c5] at H
          have c5b0 : decide (0 ≤ (ji4)) = true := decide_eq_true c5
          clear c5
          by_cases c6 : (ji4) < (l0.length : Int)
          · rw [if_pos c6] at H
            have c6b0 : decide ((ji4) < (l0.length : Int)) = true := decide_eq_true c6
            clear c6
            by_cases c7 : (rd l0 (ji4)) = 0
            · rw [if_pos c7] at H
              have c7b0 : ((rd l0 (ji4)) == 0) = true := beq_iff_eq.mpr c7
              have c7b1 : ((rd l0 (ji4)) != 0) = false := bne_eq_false_iff_eq.mpr c7
              clear c7
              have H' := Aside0.mk H
              clear H
              have p101 : 0 ≤ ((ji4) : Int) := of_decide_eq_true (by first | (with_reducible assumption) | assumption)
              have q101 : (ji4) < (l0.length : Int) := of_decide_eq_true (by first | (with_reducible assumption) | assumption)
              obtain ⟨ad101, e101, hx101_0⟩ := Kd.at_int (Kd.R_reads' HO_0.out).2.2 (ji4) p101 q101
              cases e101
              replace p101 := eq_true p101
              replace q101 := eq_true q101
              go_wp2
              go_roundg k1
              case measure => have := HK1.out; omega
              case rel => exact ⟨(ji4), (by first | rfl | (simp; done) | (simp only [← hji4] <;> (first | rfl | simp)) | (simp [*]; done)), H', ⟨by have := HK1.out; omega⟩, ⟨by (with_reducible repeat (first | apply Kd.R_alloc | apply Kd.R_drewN | apply Kd.R_drew)); exact HO_0.out⟩, ⟨by repeat (first | (with_reducible first | exact HK.out | apply Kept.alloc | apply Kept.drewN | apply Kept.drew) | exact HK.out)⟩, ⟨by repeat (first | (with_reducible first | exact HB.out | apply below_alloc | apply pw_below_drewN | apply below_drew1) | exact HB.out)⟩⟩
            · rw [if_neg c7] at H
              have c7b0 : ((rd l0 (ji4)) == 0) = false := beq_eq_false_iff_ne.mpr c7
              have c7b1 : ((rd l0 (ji4)) != 0) = true := bne_iff_ne.mpr c7
              by_cases c8 : 0 ≤ x3_1
              · rw [if_pos c8] at H
                have c8b0 := eq_true c8
                have c8b1 : decide (0 ≤ x3_1) = true := decide_eq_true c8
                clear c8
                by_cases c9 : x3_1 ≤ (l0.length : Int)
                · rw [if_pos c9] at H
                  have c9b0 := eq_true c9
                  have c9b1 : decide (x3_1 ≤ (l0.length : Int)) = true := decide_eq_true c9
                  clear c9
                  obtain ⟨y102, hy102⟩ : ∃ y_ : List Int, y_ = (l0.take (x3_1 : Int).toNat) := ⟨_, rfl⟩
                  replace H : (some y102) = some r := by first | (rw [hy102]; with_reducible exact H) | (have H2_ := (Option.bind_some _ _).symm.trans H; rw [hy102]; with_reducible exact H2_) | (have H2_ := (Option.bind_some _ _).symm.trans H; with_reducible exact H2_) | with_reducible exact H | (rw [hy102]; exact H) | exact H
                  have Ny102 := Aside0.mk hy102
                  clear hy102
                  obtain rfl := Option.some.inj H
                  have p101 : 0 ≤ ((ji4) : Int) := of_decide_eq_true (by first | (with_reducible assumption) | assumption)
                  have q101 : (ji4) < (l0.length : Int) := of_decide_eq_true (by first | (with_reducible assumption) | assumption)
                  obtain ⟨ad101, e101, hx101_0⟩ := Kd.at_int (Kd.R_reads' HO_0.out).2.2 (ji4) p101 q101
                  cases e101
                  replace p101 := eq_true p101
                  replace q101 := eq_true q101
                  have q10 : (x3_1 : Int) ≤ ((l0.length : Int) : Int) := of_decide_eq_true (by first | (with_reducible assumption) | assumption)
                  obtain ⟨i010, hi010, _, hsz10, _⟩ := info_parts info3
                  have hcut10 := cut_to (P := Tryz.prog) 81 3 .i64 Tryz.underlying81 hi010 (some ad101) l0.length co2 x3_1 (of_decide_eq_true (by first | (with_reducible assumption) | assumption)) q10 (Kd.R_reads' HO_0.out).2.1
                  have hr10 := Kd.R_take (m := (x3_1 : Int).toNat) HO_0.out (by omega)
                  have hy10 : y102.length = (x3_1 : Int).toNat := (by rw [Ny102.out, List.length_take]; omega)
                  rw [← Ny102.out] at hr10
                  rw [← hy10] at hr10 hcut10
                  clear hy10 hi010 hsz10 HO_0
                  have HO104 := Aside0.mk hr10
                  clear hr10
                  replace q10 := eq_true q10
                  go_wp2
                  go_ret
                  exact ⟨_, by first | rfl | (simp [errW_none, errW_some] <;> rfl) | (simp only [← hji4]; first | rfl | (simp [errW_none, errW_some] <;> rfl)) | (simp [*, errW_none, errW_some] <;> rfl), by (with_reducible repeat (first | apply Kd.R_alloc | apply Kd.R_drewN | apply Kd.R_drew)); exact HO104.out, by repeat (first | (with_reducible first | exact HB.out | apply below_alloc | apply pw_below_drewN | apply below_drew1) | exact HB.out), by repeat (first | (with_reducible first | exact HK.out | apply Kept.alloc | apply Kept.drewN | apply Kept.drew) | exact HK.out)⟩
                · rw [if_neg c9] at H
                  exact absurd H (by simp)
              · rw [if_neg c8] at H
                exact absurd H (by simp)
          · rw [if_neg c6] at H
            exact absurd H (by simp)
        · rw [if_neg c5] at H
          exact absurd H (by simp)
      · rw [if_neg c3] at H
        have c3b0 : decide (0 < x3_1) = false := decide_eq_false c3
        clear c3
        by_cases c11 : 0 ≤ x3_1
        · rw [if_pos c11] at H
          have c11b0 := eq_true c11
          have c11b1 : decide (0 ≤ x3_1) = true := decide_eq_true c11
          clear c11
          by_cases c12 : x3_1 ≤ (l0.length : Int)
          · rw [if_pos c12] at H
            have c12b0 := eq_true c12
            have c12b1 : decide (x3_1 ≤ (l0.length : Int)) = true := decide_eq_true c12
            clear c12
            obtain ⟨y105, hy105⟩ : ∃ y_ : List Int, y_ = (l0.take (x3_1 : Int).toNat) := ⟨_, rfl⟩
            replace H : (some y105) = some r := by first | (rw [hy105]; with_reducible exact H) | (have H2_ := (Option.bind_some _ _).symm.trans H; rw [hy105]; with_reducible exact H2_) | (have H2_ := (Option.bind_some _ _).symm.trans H; with_reducible exact H2_) | with_reducible exact H | (rw [hy105]; exact H) | exact H
            have Ny105 := Aside0.mk hy105
            clear hy105
            obtain rfl := Option.some.inj H
            have q13 : (x3_1 : Int) ≤ ((l0.length : Int) : Int) := of_decide_eq_true (by first | (with_reducible assumption) | assumption)
            obtain ⟨i013, hi013, _, hsz13, _⟩ := info_parts info3
            have hcut13 := cut_to (P := Tryz.prog) 81 3 .i64 Tryz.underlying81 hi013 Ao2 l0.length co2 x3_1 (of_decide_eq_true (by first | (with_reducible assumption) | assumption)) q13 (Kd.R_reads' HO_0.out).2.1
            have hr13 := Kd.R_take (m := (x3_1 : Int).toNat) HO_0.out (by omega)
            have hy13 : y105.length = (x3_1 : Int).toNat := (by rw [Ny105.out, List.length_take]; omega)
            rw [← Ny105.out] at hr13
            rw [← hy13] at hr13 hcut13
            clear hy13 hi013 hsz13 HO_0
            have HO107 := Aside0.mk hr13
            clear hr13
            replace q13 := eq_true q13
            go_wp2
            go_ret
            exact ⟨_, by first | rfl | (simp [errW_none, errW_some] <;> rfl) | (simp [*, errW_none, errW_some] <;> rfl), by (with_reducible repeat (first | apply Kd.R_alloc | apply Kd.R_drewN | apply Kd.R_drew)); exact HO107.out, by repeat (first | (with_reducible first | exact HB.out | apply below_alloc | apply pw_below_drewN | apply below_drew1) | exact HB.out), by repeat (first | (with_reducible first | exact HK.out | apply Kept.alloc | apply Kept.drewN | apply Kept.drew) | exact HK.out)⟩
          · rw [if_neg c12] at H
            exact absurd H (by simp)
        · rw [if_neg c11] at H
          exact absurd H (by simp)
def natural_read.l0 : Nat → ByteArray → List Int → Int → Option (List Int)
  | 0, _, _, _ => none
  | k + 1, x0, x3, x4 => if x4 > 0 then (if 0 ≤ (mx 0 (wrap64 (x4 - 9))) then (if (mx 0 (wrap64 (x4 - 9))) ≤ x4 then (if x4 ≤ (x0.size : Int) then ((strconv_Atoi.f (x0.extract ((mx 0 (wrap64 (x4 - 9))) : Int).toNat (x4 : Int).toNat)).bind fun bt108 => (if x3.length < 17592186044416 then (natural_read.l0 k x0 (x3 ++ [bt108.1]) (wrap64 (x4 - 9))) else (none))) else (none)) else (none)) else (none)) else ((natural_limbs_trimmed.f k x3).bind fun t113 => (some t113))
def natural_read.f (k : Nat) (a0 : ByteArray) : Option (List Int) := natural_read.l0 k a0 ([] : List Int) (a0.size : Int)
set_option maxHeartbeats 8000000 in
set_option maxRecDepth 100000 in
theorem natural_read.calls (k : Nat) (a0 : ByteArray) (r : List Int) (w : World) (h : natural_read.f k a0 = some r) :
    Calls Tryz.prog 73 #[.string a0] w fun e w' => ∃ v0_ : Value, e = .returned (v0_) ∧ Kd.R (Kd.int .i64) 3 w' w.heap.size (fun _ => True) v0_ r ∧ Below w.heap.size w w' := by
  have HB := Aside0.mk (Below.refl w.heap.size w)
  have H : (natural_read.l0 k a0 ([] : List Int) (a0.size : Int)) = some r := h
  clear h
  have H' := Aside0.mk H
  clear H
  go_enter Tryz.func73, Tryz.ntmps73
  go_wp2
  go_loopg [3, 4] k (fun kq v3 v4 w' => ∃ (x3_1 : List Int) (x4_1 : Int), v4 = .int .i64 x4_1 ∧ Aside0 (natural_read.l0 kq a0 x3_1 x4_1 = some r) ∧ Aside0 (kq ≤ k) ∧ Aside0 (Kd.R (Kd.int .i64) 3 w' w.heap.size (fun _ => True) v3 x3_1) ∧ Aside0 (Below w.heap.size w w'))
  case atStart => exact ⟨(([] : List Int)), ((a0.size : Int)), (by first | rfl | (simp; done) | (simp [*]; done)), H', ⟨Nat.le_refl _⟩, ⟨by first | exact Kd.R_nil _ _ _ _ _ | exact Kd.N_nil _ _ _ _ _ | exact Kd.V_nil _ _ _ _ _ | exact Kd.Q_nil _ _ _ _ _ | exact Kd.S_nil _ _ _ _ _⟩, ⟨by repeat (first | (with_reducible first | exact HB.out | apply below_alloc | apply pw_below_drewN | apply below_drew1) | exact HB.out)⟩⟩
  case round =>
    clear H'
    obtain ⟨x3_1, x4_1, rfl, HA, HK1, HO_3, HB⟩ := hrel
    cases gk with
    | zero => exact absurd HA.out (by simp [natural_read.l0])
    | succ k1 =>
      have H := HA.out
      clear HA
      simp only [natural_read.l0] at H
      by_cases c2 : x4_1 > 0
      · rw [if_pos c2] at H
        have c2b0 : decide (0 < x4_1) = true := decide_eq_true c2
        clear c2
        obtain ⟨ji3, hji3⟩ : ∃ j_ : Int, (mx 0 (wrap64 (x4_1 - 9))) = j_ := ⟨_, rfl⟩
        replace H : (if 0 ≤ (ji3) then (if (ji3) ≤ x4_1 then (if x4_1 ≤ (a0.size : Int) then ((strconv_Atoi.f (a0.extract ((ji3) : Int).toNat (x4_1 : Int).toNat)).bind fun bt108 => (if x3_1.length < 17592186044416 then (natural_read.l0 k1 a0 (x3_1 ++ [bt108.1]) (wrap64 (x4_1 - 9))) else (none))) else (none)) else (none)) else (none)) = some r := by first | (rw [hji3] at H; exact H) | (simp only [hji3] at H ⊢; exact H)
        have hji3_ : (if 0 < (wrap64 (x4_1 - 9)) then (wrap64 (x4_1 - 9)) else 0) = ji3 := hji3
        by_cases c4 : 0 ≤ (ji3)
        · rw [if_pos c4] at H
          have c4b0 := eq_true c4
          have c4b1 : decide (0 ≤ (ji3)) = true := decide_eq_true c4
          clear c4
          by_cases c5 : (ji3) ≤ x4_1
          · rw [if_pos c5] at H
            have c5b0 := eq_true c5
            have c5b1 : decide ((ji3) ≤ x4_1) = true := decide_eq_true c5
            clear c5
            by_cases c6 : x4_1 ≤ (a0.size : Int)
            · rw [if_pos c6] at H
              have c6b0 := eq_true c6
              have c6b1 : decide (x4_1 ≤ (a0.size : Int)) = true := decide_eq_true c6
              clear c6
              replace H := Option.bind_eq_some_iff.mp H
              obtain ⟨⟨t108, t109⟩, A70, H⟩ := H
              replace H : (if x3_1.length < 17592186044416 then (natural_read.l0 k1 a0 (x3_1 ++ [t108]) (wrap64 (x4_1 - 9))) else (none)) = some r := H
              have A7 := Aside0.mk A70
              clear A70
              by_cases c8 : x3_1.length < 17592186044416
              · rw [if_pos c8] at H
                have LMc8 := Aside0.mk c8
                clear c8
                obtain ⟨y110, hy110⟩ : ∃ y_ : List Int, y_ = (x3_1 ++ [t108]) := ⟨_, rfl⟩
                replace H : (natural_read.l0 k1 a0 y110 (wrap64 (x4_1 - 9))) = some r := by first | (rw [hy110]; with_reducible exact H) | (have H2_ := (Option.bind_some _ _).symm.trans H; rw [hy110]; with_reducible exact H2_) | (have H2_ := (Option.bind_some _ _).symm.trans H; with_reducible exact H2_) | with_reducible exact H | (rw [hy110]; exact H) | exact H
                have Ny110 := Aside0.mk hy110
                clear hy110
                have H' := Aside0.mk H
                clear H
                go_wp2_with (first | ((with_reducible refine gate_callee (f := 97) rfl ?_); refine goesL_ (some 20) rfl rfl Tryz.func97 (by kernel_rfl) rfl #[.string (a0.extract ((ji3) : Int).toNat (x4_1 : Int).toNat)] rfl (by (try simp only [List.map_toArray, List.map_cons, List.map_nil]); first | done | (simp only [hji3]; rfl) | rfl | (simp only [List.length_drop, List.length_take]; rfl)) ?_; (with_reducible refine (strconv_Atoi.calls (a0.extract ((ji3) : Int).toNat (x4_1 : Int).toNat) t108 t109 _ A7.out).mono ?_); rintro e w9 ⟨rfl, hb⟩; refine ⟨_, rfl, ?_⟩; have n0_ := Aside0.mk (Kd.R_below (by (with_reducible repeat (first | apply Kd.R_alloc | apply Kd.R_drewN | apply Kd.R_drew)); exact HO_3.out) hb); have n1_ := Aside0.mk (below_step (by repeat (first | (with_reducible first | exact HB.out | apply below_alloc | apply pw_below_drewN | apply below_drew1) | exact HB.out)) hb); clear HO_3; clear HB; have HO_3 := n0_; have HB := n1_; clear n0_ n1_; (try clear hb); (try clear hb2); (try clear hk); (try clear hi); (try simp only [errW_none, errW_some])) | ((with_reducible refine gate_builtin (b := .append) (xs := #[.tmp 23, .tmp 25]) rfl ?_); at_builtin; refine Kd.R_append (Kd.int .i64) (w0 := w) w.heap.size rfl (.tmp 23) (.tmp 25) 81 3 (.int .i64 0) 8 rfl Tryz.underlying81 info3 rfl (by decide) (by omega) u3 x3_1 t108 [.int .i64 t108] (fun _ => True) (fun _ => False) rfl rfl ?aP (fun _ hk => hk.elim) ?aF ?aO ?aB ?aS ?aL ?_; (case aP => exact rfl); (case aB => exact (by repeat (first | (with_reducible first | exact HB.out | apply below_alloc | apply pw_below_drewN | apply below_drew1) | exact HB.out))); (case aF => exact (fun _ _ => trivial)); (case aO => exact (by (with_reducible repeat (first | apply Kd.R_alloc | apply Kd.R_drewN | apply Kd.R_drew)); exact HO_3.out)); (case aS => exact (below_size (by repeat (first | (with_reducible first | exact HB.out | apply below_alloc | apply pw_below_drewN | apply below_drew1) | exact HB.out)))); (case aL => have := LMc8.out; omega); intro v111 w10 ho hb hg hat; rw [← Ny110.out] at ho; have n0_ := Aside0.mk (hb); have n1_ := Aside0.mk (ho); clear HB; clear HO_3; have HB := n0_; have HO112 := n1_; clear n0_ n1_; clear ho hb hg hat))
                go_roundg k1
                case measure => have := HK1.out; omega
                case rel => exact ⟨(y110), (wrap64 (x4_1 - 9)), (by first | rfl | (simp; done) | (simp [*]; done)), H', ⟨by have := HK1.out; omega⟩, ⟨by (with_reducible repeat (first | apply Kd.R_alloc | apply Kd.R_drewN | apply Kd.R_drew)); exact HO112.out⟩, ⟨by repeat (first | (with_reducible first | exact HB.out | apply below_alloc | apply pw_below_drewN | apply below_drew1) | exact HB.out)⟩⟩
              · rw [if_neg c8] at H
                exact absurd H (by simp)
            · rw [if_neg c6] at H
              exact absurd H (by simp)
          · rw [if_neg c5] at H
            exact absurd H (by simp)
        · rw [if_neg c4] at H
          exact absurd H (by simp)
      · rw [if_neg c2] at H
        have c2b0 : decide (0 < x4_1) = false := decide_eq_false c2
        clear c2
        replace H := Option.bind_eq_some_iff.mp H
        obtain ⟨t113, A110, H⟩ := H
        replace H : (some t113) = some r := H
        have A11 := Aside0.mk A110
        clear A110
        obtain rfl := Option.some.inj H
        obtain ⟨Ao12, co12, eo12⟩ := Kd.R_slice HO_3.out
        subst eo12
        go_wp2_with (first | ((with_reducible refine gate_callee (f := 94) rfl ?_); refine goesL_ (some 28) rfl rfl Tryz.func94 (by kernel_rfl) rfl #[.slice Ao12 x3_1.length co12] rfl (by (try simp only [List.map_toArray, List.map_cons, List.map_nil]); first | done | rfl | (simp only [List.length_drop, List.length_take]; rfl)) ?_; (with_reducible refine (natural_limbs_trimmed.calls k1 (fun k_ => some k_ = (.slice Ao12 x3_1.length co12 : Value).ownBlock) (.slice Ao12 x3_1.length co12) x3_1 t113 w _ ?side1 ?side2 A11.out).mono ?_); (case side1 => repeat (first | (with_reducible first | exact HB.out | apply below_alloc | apply pw_below_drewN | apply below_drew1) | exact HB.out)); (case side2 => exact Kd.R_tight rfl HO_3.out); rintro e w13 ⟨v114, rfl, ho0, hb, hkp⟩; refine ⟨_, rfl, ?_⟩; have n0_ := Aside0.mk (Kd.R_mono (ok' := fun k_ => True) ho0 (fun k_ hk_ => trivial)); have n1_ := Aside0.mk (hb); clear HB; clear HO_3; have HO115 := n0_; have HB := n1_; clear n0_ n1_; (try clear hb); (try clear hkp); (try clear ho0)))
        go_ret
        exact ⟨_, by first | rfl | (simp [errW_none, errW_some] <;> rfl) | (simp [*, errW_none, errW_some] <;> rfl), by (with_reducible repeat (first | apply Kd.R_alloc | apply Kd.R_drewN | apply Kd.R_drew)); exact HO115.out, by repeat (first | (with_reducible first | exact HB.out | apply below_alloc | apply pw_below_drewN | apply below_drew1) | exact HB.out)⟩
end Go.Proofs.YthpomhboogcigaaGreatDoor.XRead
end
section -- NatRead
namespace Go.Proofs.YthpomhboogcigaaGreatDoor
open Go.RowKit Go.Proofs.YthpomhboogcigaaGreatDoorW.PrintWords Go.Proofs.YthpomhboogcigaaGreatDoorW.PrintMore Go.Proofs.YthpomhboogcigaaGreatDoorW.PrintLast
set_option linter.unusedVariables false
set_option linter.unusedSimpArgs false
theorem rtrim_loop (l : List Int) : ∀ (n k : Nat), n ≤ l.length → l.length ≤ 9000000000000000000 → n < k → XRead.natural_limbs_trimmed.l0 k l (n : Int) = some (trimZ (l.take n))
  | 0, k, h0, hm, hk => by
    obtain ⟨k, rfl⟩ : ∃ m, k = m + 1 := ⟨k - 1, by omega⟩
    simp only [XRead.natural_limbs_trimmed.l0]
    rw [if_neg (by omega), if_pos (by omega), if_pos (by omega)]
    simp [trimZ]
  | n + 1, k, h0, hm, hk => by
    obtain ⟨k, rfl⟩ : ∃ m, k = m + 1 := ⟨k - 1, by omega⟩
    have hw : wrap64 (((n + 1 : Nat) : Int) - 1) = (n : Int) := by unfold wrap64; omega
    have hs : l.take (n + 1) = l.take n ++ [l[n]'(by omega)] := by rw [List.take_succ_eq_append_getElem (by omega)]
    have hr : rd l (n : Int) = l[n]'(by omega) := by simp [rd, List.getElem?_eq_getElem (show n < l.length by omega)]
    simp only [XRead.natural_limbs_trimmed.l0]
    rw [if_pos (by omega), hw, if_pos (by omega), if_pos (by omega), hr]
    by_cases e : l[n]'(by omega) = 0
    · rw [if_pos e, rtrim_loop l n k (by omega) hm (by omega), hs, e, trimZ_snoc_zero]
    · rw [if_neg e, if_pos (by omega), if_pos (by omega), hs, trimZ_snoc _ e, ← hs]
      simp
theorem rtrim_ev (l : List Int) (h : l.length ≤ 9000000000000000000) (k : Nat) (hk : l.length < k) : XRead.natural_limbs_trimmed.f k l = some (trimZ l) := by
  unfold XRead.natural_limbs_trimmed.f
  rw [rtrim_loop l l.length k (Nat.le_refl _) h hk, List.take_length]
theorem extract_list (a : ByteArray) (i j : Nat) : (a.extract i j).data.toList = (a.data.toList.take j).drop i := by
  rw [ByteArray.data_extract, Array.toList_extract, List.extract_eq_take_drop, List.drop_take]
theorem atoi_piece {a : ByteArray} (h : ∀ c ∈ a.data.toList, isDig c = true) (i j : Nat) (hij : i < j) (hj : j ≤ a.size) (h9 : j - i ≤ 9) :
    strconv_Atoi.f (a.extract i j) = some (((num ((a.data.toList.take j).drop i) : Nat) : Int), none) ∧ num ((a.data.toList.take j).drop i) < 1000000000 := by
  have hl : ((a.data.toList.take j).drop i).length = j - i := by
    rw [List.length_drop, List.length_take, size_list, Nat.min_eq_left hj]
  have hd : ∀ c ∈ (a.data.toList.take j).drop i, isDig c = true := fun c hc => h c (List.mem_of_mem_take (List.mem_of_mem_drop hc))
  have hs : (a.extract i j).size = j - i := by rw [← size_list, extract_list, hl]
  constructor
  · unfold strconv_Atoi.f
    rw [if_pos]
    · unfold valS; rw [extract_list]
    · rw [extract_list, hs]
      simp only [Bool.and_eq_true, List.all_eq_true, decide_eq_true_eq]
      exact ⟨⟨hd, by omega⟩, by omega⟩
  · have := num_lt hd
    rw [hl] at this
    have m := tp_mono h9
    have : tp 9 = 1000000000 := by decide
    omega
theorem num_drop_step (l : List UInt8) (i e : Nat) (hie : i ≤ e) (he : e ≤ l.length) : num (l.drop i) = num ((l.take e).drop i) * tp (l.length - e) + num (l.drop e) := by
  have : l.drop i = (l.take e).drop i ++ l.drop e := by
    conv => lhs; rw [← List.take_append_drop e l]
    rw [List.drop_append_of_le_length (by rw [List.length_take]; omega)]
  rw [this, num_append, List.length_drop]
theorem read_loop (a : ByteArray) (h : ∀ c ∈ a.data.toList, isDig c = true) (hs : a.size ≤ 1000) : ∀ (e j : Nat) (out : List Int), e + 9 * j = a.size → out.length = j → Good out → lv out = (num (a.data.toList.drop e) : Nat) →
    ∃ K, ∀ k, K ≤ k → XRead.natural_read.l0 k a out (e : Int) = some (limbs (valS a)) := by
  intro e
  induction e using Nat.strongRecOn with
  | _ e ih =>
  intro j out hej hol hg hlv
  by_cases h0 : e = 0
  · subst h0
    refine ⟨3000, fun k hk => ?_⟩
    obtain ⟨k, rfl⟩ : ∃ m, k = m + 1 := ⟨k - 1, by omega⟩
    simp only [XRead.natural_read.l0]
    rw [if_neg (by omega), rtrim_ev _ (by omega) _ (by omega), trimZ_limbs hg, hlv]
    rfl
  · have hw : wrap64 ((e : Int) - 9) = (e : Int) - 9 := by unfold wrap64; omega
    by_cases h9 : e ≤ 9
    · have hmx : mx 0 ((e : Int) - 9) = ((0 : Nat) : Int) := by unfold mx; split <;> omega
      obtain ⟨hp, hlt⟩ := atoi_piece h 0 e (by omega) (by omega) (by omega)
      have hn := num_drop_step a.data.toList 0 e (by omega) (by rw [size_list]; omega)
      refine ⟨5000, fun k hk => ?_⟩
      obtain ⟨k, rfl⟩ : ∃ m, k = m + 1 := ⟨k - 1, by omega⟩
      simp only [XRead.natural_read.l0]
      rw [if_pos (by omega), hw, hmx, if_pos (by omega), if_pos (by omega), if_pos (by omega), Int.toNat_natCast, Int.toNat_natCast, hp]
      simp only [Option.bind_some]
      rw [if_pos (by omega)]
      obtain ⟨k, rfl⟩ : ∃ m, k = m + 1 := ⟨k - 1, by omega⟩
      simp only [XRead.natural_read.l0]
      have hg2 : Good (out ++ [((num ((a.data.toList.take e).drop 0) : Nat) : Int)]) := hg.append (Good.cons (Int.natCast_nonneg _) (by omega) (fun x hx => absurd hx (by simp)))
      rw [if_neg (by omega), rtrim_ev _ (by simp; omega) _ (by simp; omega), trimZ_limbs hg2, lv_append, hlv, lv_cons, hol, bp_tp]
      simp only [Option.bind_some]
      congr 2
      unfold valS
      rw [List.drop_zero] at hn
      rw [hn, size_list, show a.size - e = 9 * j by omega]
      generalize num ((a.data.toList.take e).drop 0) = x
      generalize num (a.data.toList.drop e) = y
      generalize tp (9 * j) = z
      have e1 : (y : Int) + (z : Int) * ((x : Int) + 1000000000 * lv []) = ((x * z + y : Nat) : Int) := by
        show (y : Int) + (z : Int) * ((x : Int) + 1000000000 * 0) = _
        rw [Int.natCast_add, Int.natCast_mul]; grind
      rw [e1, Int.toNat_natCast]
    · have hmx : mx 0 ((e : Int) - 9) = ((e - 9 : Nat) : Int) := by unfold mx; split <;> omega
      obtain ⟨hp, hlt⟩ := atoi_piece h (e - 9) e (by omega) (by omega) (by omega)
      have hn := num_drop_step a.data.toList (e - 9) e (by omega) (by rw [size_list]; omega)
      have hg2 : Good (out ++ [((num ((a.data.toList.take e).drop (e - 9)) : Nat) : Int)]) := hg.append (Good.cons (Int.natCast_nonneg _) (by omega) (fun x hx => absurd hx (by simp)))
      obtain ⟨K, hK⟩ := ih (e - 9) (by omega) (j + 1) _ (by omega) (by simp [hol]) hg2 (by
        rw [lv_append, hlv, lv_cons, hol, bp_tp, hn, size_list, show a.size - e = 9 * j by omega]
        generalize num ((a.data.toList.take e).drop (e - 9)) = x
        generalize num (a.data.toList.drop e) = y
        generalize tp (9 * j) = z
        show (y : Int) + (z : Int) * ((x : Int) + 1000000000 * 0) = _
        rw [Int.natCast_add, Int.natCast_mul]; grind)
      refine ⟨K + 1, fun k hk => ?_⟩
      obtain ⟨k, rfl⟩ : ∃ m, k = m + 1 := ⟨k - 1, by omega⟩
      simp only [XRead.natural_read.l0]
      rw [if_pos (by omega), hw, hmx, if_pos (by omega), if_pos (by omega), if_pos (by omega), Int.toNat_natCast, Int.toNat_natCast, hp]
      simp only [Option.bind_some]
      rw [if_pos (by omega), show (e : Int) - 9 = ((e - 9 : Nat) : Int) by omega]
      exact hK k (by omega)
/-- read: the canonical limbs of what the string spells. -/
theorem read_calls (a0 : ByteArray) (h : validS a0 = true) (w : World) :
    Calls Tryz.prog 73 #[.string a0] w fun e w' => ∃ v0_ : Value, e = .returned (v0_) ∧ Kd.R (Kd.int .i64) 3 w' w.heap.size (fun _ => True) v0_ (limbs (valS a0)) ∧ Below w.heap.size w w' := by
  obtain ⟨h1, h2, h3, h4⟩ := validL_iff.1 h
  obtain ⟨K, hK⟩ := read_loop a0 h3 (by rw [size_list] at h2; exact h2) a0.size 0 [] (by omega) rfl (fun x hx => absurd hx (by simp)) (by rw [← size_list, List.drop_length]; rfl)
  exact XRead.natural_read.calls K a0 _ w (hK K (Nat.le_refl _))
theorem limbs_len_valS {a : ByteArray} (h : validS a = true) : (limbs (valS a)).length ≤ 112 := by
  obtain ⟨h1, h2, h3, h4⟩ := validL_iff.1 h
  apply limbs_length_le
  rw [bp_tp]
  have := num_lt h3
  have m := tp_mono (show a.data.toList.length ≤ 9 * 112 by omega)
  unfold valS
  omega
end Go.Proofs.YthpomhboogcigaaGreatDoor
end
section -- NatText
namespace Go.Proofs.YthpomhboogcigaaGreatDoor
open Go.RowKit Go.Proofs.YthpomhboogcigaaGreatDoorW.PrintWords Go.Proofs.YthpomhboogcigaaGreatDoorW.PrintMore Go.Proofs.YthpomhboogcigaaGreatDoorW.PrintLast
set_option linter.unusedVariables false
set_option linter.unusedSimpArgs false
theorem builder_later {T e : TypeId} {B b : Nat} {bs : List Value} {w w' : World} (h : Lib.IsBuilder T e B b bs w) (hb : Below w.heap.size w w') : Lib.IsBuilder T e B b bs w' := by
  have one : ∀ p, Lib.BuilderAt T e B b p bs w → Lib.BuilderAt T e B b p bs w' := by
    rintro p ⟨h1, v, h2, h3, h4⟩
    exact ⟨h1, v, (hb.block b (lt_of_block h2)).trans h2, pw_own_below h3 hb, h4⟩
  exact h.elim (fun z => .inl (one _ z)) (fun z => .inr (one _ z))
/-- What has been written behind i rounds: the digits of the i highest limbs. -/
def txt (m i : Nat) : List UInt8 := if i = 0 then [] else Lib.decDigits (lv ((limbs m).drop ((limbs m).length - i))).toNat
theorem drop_pos {m : Nat} {j : Nat} (h : j < (limbs m).length) : 0 < lv ((limbs m).drop j) := by
  have hm : m ≠ 0 := by rintro rfl; rw [limbs_zero] at h; simp at h
  have e := lv_append ((limbs m).take j) ((limbs m).drop j)
  rw [List.take_append_drop, lv_limbs, List.length_take, Nat.min_eq_left (by omega)] at e
  have g := limbs_ge hm
  have b := bp_mono (show j ≤ (limbs m).length - 1 by omega)
  have t := lv_lt ((limbs_good m).take j)
  rw [List.length_take, Nat.min_eq_left (by omega)] at t
  have n : 0 ≤ lv ((limbs m).drop j) := lv_nonneg (fun x hx => limbs_good m x (List.mem_of_mem_drop hx))
  rcases Int.lt_or_eq_of_le n with n | n
  · exact n
  · rw [← n] at e; omega
theorem txt_one {m : Nat} (h : 0 < (limbs m).length) : txt m 1 = Lib.decDigits (at0 (limbs m) ((limbs m).length - 1)).toNat := by
  unfold txt
  rw [if_neg (by decide), lv_drop _ (by omega), show (limbs m).length - 1 + 1 = (limbs m).length by omega, List.drop_length]
  congr 2
  show _ + 1000000000 * 0 = _
  omega
theorem txt_succ {m i : Nat} (h0 : 0 < i) (h : i < (limbs m).length) : txt m (i + 1) = txt m i ++ pad9 (at0 (limbs m) ((limbs m).length - 1 - i)).toNat := by
  have hp := drop_pos (m := m) (j := (limbs m).length - i) (by omega)
  have ha := at0_good (limbs_good m) ((limbs m).length - 1 - i)
  unfold txt
  rw [if_neg (by omega), if_neg (by omega), show (limbs m).length - (i + 1) = (limbs m).length - 1 - i by omega, lv_drop _ (by omega), show (limbs m).length - 1 - i + 1 = (limbs m).length - i by omega]
  generalize lv ((limbs m).drop ((limbs m).length - i)) = D at *
  generalize at0 (limbs m) ((limbs m).length - 1 - i) = x at *
  rw [← dec_pad (by omega) (by omega)]
  congr 1; omega
theorem txt_all {m : Nat} (h : 0 < (limbs m).length) : txt m (limbs m).length = Lib.decDigits m := by
  unfold txt
  rw [if_neg (by omega), Nat.sub_self, List.drop_zero, lv_limbs, Int.toNat_natCast]
theorem txt_len {m : Nat} : ∀ i, i ≤ (limbs m).length → (txt m i).length ≤ 9 * i
  | 0, _ => by simp [txt]
  | 1, h => by
    have ha := at0_good (limbs_good m) ((limbs m).length - 1)
    rw [txt_one (by omega)]
    exact dec9 (by omega)
  | i + 2, h => by
    have ha := at0_good (limbs_good m) ((limbs m).length - 1 - (i + 1))
    have := txt_len (m := m) (i + 1) (by omega)
    rw [txt_succ (by omega) (by omega), List.length_append, pad9_len (by omega)]; omega
theorem itoa_nat {x : Int} (h : 0 ≤ x) : Lib.itoa x = Lib.decDigits x.toNat := by unfold Lib.itoa; rw [if_neg (by omega)]
set_option maxHeartbeats 2000000 in
theorem text_calls (m : Nat) (A0 : Option Addr) (c0 : Nat) (w : World) (hL : Laid w) (hr : Kd.C (Kd.int .i64) w A0 (limbs m).length (limbs m)) (hlen : (limbs m).length ≤ 1000000) :
    Calls Tryz.prog 74 #[.slice A0 (limbs m).length c0] w fun e w' => e = .returned (.tuple #[.string (limS m).1, .int .i64 (limS m).2]) ∧ Below w.heap.size w w' := by
  by_cases h0 : (limbs m).length = 0
  · have hm : m = 0 := limbs_nil.1 (List.length_eq_zero_iff.1 h0)
    subst hm
    have e1 : limS 0 = (⟨#[48]⟩, 0) := by
      unfold limS decS
      rw [dec_zero]; rfl
    rw [e1, limbs_zero]
    show Calls _ _ #[.slice A0 0 c0] _ _
    go_enter Tryz.func74, Tryz.ntmps74
    go_wp2_with fail
    go_ret2
    exact ⟨rfl, Below.refl _ _⟩
  · have hn0 : (((limbs m).length : Int) == 0) = false := by rw [beq_eq_false_iff_ne]; omega
    have hn1 : ((limbs m).length : Int) ≤ 1000000 := by omega
    have HL := Lib.hid hL
    have HR := Lib.hid hr
    have HM := Lib.hid (show 0 < (limbs m).length by omega)
    clear hL hr h0
    obtain ⟨n, hn⟩ : ∃ n, (limbs m).length = n := ⟨_, rfl⟩
    have HN := Lib.hid hn
    rw [hn] at hn0 hn1 ⊢
    have hlen' : n ≤ 1000000 := by omega
    clear hn hlen
    obtain ⟨ad, hA, _⟩ := Kd.at_int HR.out 0 (by omega) (by have := HM.out; omega)
    subst hA
    have HX : ∀ i : Nat, i < n → ∃ x : Int, x = at0 (limbs m) (n - 1 - i) ∧ 0 ≤ x ∧ x < 1000000000 ∧ w.cell? (ad.add (n - 1 - i)) = some (.int .i64 x) := by
      intro i hi
      have hn := HN.out
      obtain ⟨ad', hA', hc'⟩ := Kd.at_int HR.out ((n : Int) - 1 - (i : Int)) (by omega) (by omega)
      injection hA' with hA'
      subst hA'
      have g := at0_good (limbs_good m) (n - 1 - i)
      refine ⟨_, rfl, g.1, g.2, ?_⟩
      rw [show ((n : Int) - 1 - (i : Int)).toNat = n - 1 - i by omega] at hc'
      rw [hc', show (n : Int) - 1 - (i : Int) = ((n - 1 - i : Nat) : Int) by omega, rd_nat]
    have HC := Lib.hid HX
    clear HX
    go_enter Tryz.func74, Tryz.ntmps74
    go_wp2_with fail
    go_loopw [12] (fun c W => ∃ i : Nat, i ≤ n ∧ c = .int .i64 i ∧ Aside0 (Lib.IsBuilder 111 5 w.heap.size w.heap.size (Lib.byteCells (txt m i)) W ∧ Below w.heap.size w W)) (fun c _ => n - (intOf c).toNat)
    case atStart => exact ⟨0, Nat.zero_le _, rfl, ⟨Lib.fresh_isBuilder _ _ w, below_alloc (Below.refl _ _) _⟩⟩
    case round =>
      obtain ⟨i, hi, rfl, HP⟩ := hrel
      by_cases hlt : i < n
      · obtain ⟨x, hx, hx0, hx1, hcw⟩ := HC.out i hlt
        have hcell : wr.cell? (ad.add (n - 1 - i)) = some (.int .i64 x) := pw_cell_below HP.out.2 hcw
        have hin : (i : Int) < (n : Int) := by omega
        have hj0 : 0 ≤ (n : Int) - 1 - (i : Int) := by omega
        have hj1 : (n : Int) - 1 - (i : Int) < (n : Int) := by omega
        have EX := Lib.hid hx
        have hit : strconv_Itoa.f x = some ⟨(Lib.decDigits x.toNat).toArray⟩ := by
          unfold strconv_Itoa.f
          rw [if_pos (by omega), itoa_nat hx0]
        have HI := Lib.hid hit
        have hd9 := dec9 (x := x.toNat) (by omega)
        have hsz : (⟨(Lib.decDigits x.toNat).toArray⟩ : ByteArray).size = (Lib.decDigits x.toNat).length := rfl
        obtain ⟨S, hS⟩ : ∃ S : ByteArray, S = ⟨(Lib.decDigits x.toNat).toArray⟩ := ⟨_, rfl⟩
        rw [← hS] at HI hsz
        have hS9 : S.size ≤ 9 := by omega
        have HS := Lib.hid hS
        clear hx hcw hit hd9 hsz hS
        by_cases hi0 : i = 0
        · have hi1 : ¬ (0 : Int) < (i : Int) := by omega
          have HI0 := Lib.hid hi0
          clear hi0
          go_wp2_with fail
          refine (strconv_Itoa.calls x S _ (HL.out.below HP.out.2) HI.out).mono ?_
          rintro e w2 ⟨rfl, hb2⟩
          have HB2 := Aside0.mk (below_step HP.out.2 hb2)
          have HU2 := Aside0.mk (builder_later HP.out.1 hb2)
          clear hb2
          go_wp2_with fail
          refine (lib_wstring w.heap.size w.heap.size (Lib.byteCells (txt m i)) S _ HU2.out (by rw [Lib.byteCells_length]; have := txt_len (m := m) i (by have := HN.out; omega); omega) HB2.out.size).mono ?_
          rintro e w3 ⟨rfl, hat, hb3⟩
          have HB3 := Aside0.mk (HB2.out.trans hb3)
          have HU3 := Aside0.mk hat
          clear hat hb3
          go_wp2_with fail
          go_roundw
          case rel =>
            refine ⟨i + 1, by omega, by go_num, ⟨.inr ?_, HB3.out⟩⟩
            have e : Lib.byteCells (txt m i) ++ Lib.strCells S = Lib.byteCells (txt m (i + 1)) := by
              rw [HS.out, show Lib.strCells ⟨(Lib.decDigits x.toNat).toArray⟩ = Lib.byteCells (Lib.decDigits x.toNat) from rfl, HI0.out, txt_one HM.out, EX.out, HI0.out, HN.out, Nat.sub_zero]
              rfl
            rw [← e]
            exact HU3.out
          case measure => simp [intOf]; omega
        · have hip : (0 : Int) < (i : Int) := by omega
          go_wp2_with fail
          refine (strconv_Itoa.calls x S _ (HL.out.below HP.out.2) HI.out).mono ?_
          rintro e w2 ⟨rfl, hb2⟩
          have HB2 := Aside0.mk (below_step HP.out.2 hb2)
          have HU2 := Aside0.mk (builder_later HP.out.1 hb2)
          clear hb2
          have hS9' : (S.size : Int) ≤ 9 := by omega
          go_wp2_with fail
          rw [show (9 - (S.size : Int)) = ((9 - S.size : Nat) : Int) from by omega]
          refine (Tryz.strings_Repeat ⟨#[48]⟩ (9 - S.size) w2 (by omega) (by show 1 * _ ≤ _; omega)).mono ?_
          rintro e w3 ⟨rfl, hb3⟩
          have HB3 := Aside0.mk (below_step HB2.out hb3)
          have HU3 := Aside0.mk (builder_later HU2.out hb3)
          clear hb3
          obtain ⟨Z, hZ⟩ : ∃ Z : ByteArray, Z = ⟨(Lib.repeatL (⟨#[48]⟩ : ByteArray).data.toList (9 - S.size)).toArray⟩ := ⟨_, rfl⟩
          rw [← hZ]
          have hZ9 : Z.size ≤ 9 := by
            rw [hZ]
            show (Lib.repeatL [48] (9 - S.size)).length ≤ 9
            rw [Lib.repeatL_length, List.length_singleton]; omega
          have HZ := Lib.hid hZ
          clear hZ
          have hl : (Lib.byteCells (txt m i)).length ≤ 9000000 := by rw [Lib.byteCells_length]; have := txt_len (m := m) i (by have := HN.out; omega); omega
          go_wp2_with fail
          refine (lib_wstring w.heap.size w.heap.size (Lib.byteCells (txt m i)) Z _ HU3.out (by omega) HB3.out.size).mono ?_
          rintro e w4 ⟨rfl, hat, hb4⟩
          have HB4 := Aside0.mk (HB3.out.trans hb4)
          have HU4 := Aside0.mk hat
          clear hat hb4
          go_wp2_with fail
          refine (lib_wstring w.heap.size w.heap.size (Lib.byteCells (txt m i) ++ Lib.strCells Z) S _ (.inr HU4.out) (by rw [List.length_append, Lib.strCells_length]; omega) HB4.out.size).mono ?_
          rintro e w5 ⟨rfl, hat, hb5⟩
          have HB5 := Aside0.mk (HB4.out.trans hb5)
          have HU5 := Aside0.mk hat
          clear hat hb5
          go_wp2_with fail
          go_roundw
          case rel =>
            refine ⟨i + 1, by omega, by go_num, ⟨.inr ?_, HB5.out⟩⟩
            have e : Lib.byteCells (txt m i) ++ Lib.strCells Z ++ Lib.strCells S = Lib.byteCells (txt m (i + 1)) := by
              have hsz : S.size = (Lib.decDigits x.toNat).length := by rw [HS.out]; rfl
              rw [txt_succ (by omega) (by have := HN.out; omega), HN.out, ← EX.out, HZ.out, hsz, HS.out]
              unfold pad9
              rw [Lib.byteCells_append, Lib.byteCells_append, ← List.append_assoc]
              rfl
            rw [← e]
            exact HU5.out
          case measure => simp [intOf]; omega
      · have hni : ¬ (i : Int) < (n : Int) := by omega
        obtain rfl : i = n := by omega
        have hall : txt m i = Lib.decDigits m := by rw [← HN.out]; exact txt_all HM.out
        have hbu := HP.out.1
        rw [hall] at hbu
        have HU := Aside0.mk hbu
        have HD := Lib.hid (Lib.byteCells_length (Lib.decDigits m))
        clear hbu hall
        go_wp2_with fail
        refine (Tryz.Builder_Len w.heap.size w.heap.size _ _ HU.out).mono ?_
        rintro e w2 ⟨rfl, rfl⟩
        rw [HD.out]
        by_cases h1000 : 1000 < (Lib.decDigits m).length
        · have e1 : limS m = (noS, 2) := by unfold limS; rw [if_pos h1000]
          have E1 := Lib.hid e1
          have hh : (1000 : Int) < ((Lib.decDigits m).length : Int) := by omega
          clear e1 h1000
          generalize (Lib.decDigits m).length = q at *
          go_wp2_with fail
          go_ret2
          exact ⟨by rw [E1.out]; rfl, HP.out.2⟩
        · have e1 : limS m = (decS m, 0) := by unfold limS; rw [if_neg h1000]
          have E1 := Lib.hid e1
          have hh : ¬ (1000 : Int) < ((Lib.decDigits m).length : Int) := by omega
          clear e1 h1000
          obtain ⟨q, hq⟩ : ∃ q, q = (Lib.decDigits m).length := ⟨_, rfl⟩
          rw [← hq] at hh ⊢
          clear hq HD
          go_wp2_with fail
          refine (Tryz.Builder_String_any w.heap.size w.heap.size (Lib.decDigits m) _ HU.out HP.out.2.size).mono ?_
          rintro e w3 ⟨rfl, hb3⟩
          have HB3 := Aside0.mk (HP.out.2.trans hb3)
          clear hb3
          obtain ⟨T, hT⟩ : ∃ T : ByteArray, T = ⟨(Lib.decDigits m).toArray⟩ := ⟨_, rfl⟩
          rw [← hT]
          have HT := Lib.hid hT
          clear hT
          go_wp2_with fail
          go_ret2
          exact ⟨by rw [HT.out, E1.out]; rfl, HB3.out⟩
end Go.Proofs.YthpomhboogcigaaGreatDoor
end
section -- NatX
namespace Go.Proofs.YthpomhboogcigaaGreatDoor
open Go.RowKit Go.Proofs.YthpomhboogcigaaGreatDoorW.PrintWords Go.Proofs.YthpomhboogcigaaGreatDoorW.PrintMore Go.Proofs.YthpomhboogcigaaGreatDoorW.PrintLast
set_option linter.unusedVariables false
set_option linter.unusedSimpArgs false
/-- A slice that reads as the limbs of m. -/
def IsN (w : World) (v : Value) (m : Nat) : Prop := ∃ A c, v = .slice A (limbs m).length c ∧ (limbs m).length ≤ c ∧ Kd.C (Kd.int .i64) w A (limbs m).length (limbs m)
theorem IsN.of_R {w : World} {base : Nat} {ok : Nat → Prop} {v : Value} {m : Nat} (h : Kd.R (Kd.int .i64) 3 w base ok v (limbs m)) : IsN w v m := by
  obtain ⟨A, c, e, hl, hr⟩ := Kd.R_reads h
  exact ⟨A, c, e, hl, hr⟩
theorem IsN.below {w w' : World} {v : Value} {m : Nat} (h : IsN w v m) (hb : Below w.heap.size w w') : IsN w' v m := by
  obtain ⟨A, c, e, hl, hr⟩ := h
  exact ⟨A, c, e, hl, Kd.C_below hr hb⟩
theorem gcd_ev : ∀ (n m : Nat), (limbs m).length ≤ 1000 → (limbs n).length ≤ 1000 → Evt (fun k => XLimb.natural_Gcd_1.l0 k (limbs m) (limbs n)) (limbs (Nat.gcd m n)) := by
  intro n
  induction n using Nat.strongRecOn with
  | _ n ih =>
  intro m hm hn
  by_cases h0 : n = 0
  · subst h0
    refine ⟨1, fun k hk => ?_⟩
    obtain ⟨k, rfl⟩ : ∃ m, k = m + 1 := ⟨k - 1, by omega⟩
    simp only [XLimb.natural_Gcd_1.l0]
    rw [limbs_zero, if_neg (by simp), Nat.gcd_zero_right]
  · have hlt := Nat.mod_lt m (Nat.pos_of_ne_zero h0)
    obtain ⟨K1, h1⟩ := div_ev m n (Nat.pos_of_ne_zero h0) hm hn
    obtain ⟨K2, h2⟩ := ih (m % n) hlt n hn (Nat.le_trans (limbs_mono (Nat.le_of_lt hlt)) hn)
    refine ⟨K1 + K2 + 1, fun k hk => ?_⟩
    obtain ⟨k, rfl⟩ : ∃ m, k = m + 1 := ⟨k - 1, by omega⟩
    simp only [XLimb.natural_Gcd_1.l0]
    have hl : 0 < (limbs n).length := List.length_pos_iff.2 (fun z => h0 (limbs_nil.1 z))
    have h1' : XLimb.natural_limbs_div.f k (limbs m) (limbs n) = some (limbs (m / n), limbs (m % n)) := h1 k (by omega)
    rw [if_pos (by omega), h1']
    simp only [Option.bind_some]
    rw [Nat.gcd_comm m n, Nat.gcd_rec n m]
    have := h2 k (by omega)
    rwa [Nat.gcd_comm] at this
theorem op_add (m n : Nat) (hm : (limbs m).length ≤ 1000) (hn : (limbs n).length ≤ 1000) (W : World) (base : Nat) (v1 v2 : Value) (h1 : Kd.R (Kd.int .i64) 3 W base (fun _ => True) v1 (limbs m)) (h2 : Kd.R (Kd.int .i64) 3 W base (fun _ => True) v2 (limbs n)) :
    Calls Tryz.prog 104 #[v1, v2] W fun e W' => ∃ v, e = .returned v ∧ IsN W' v (m + n) ∧ Below W.heap.size W W' := by
  obtain ⟨A1, c1, rfl, l1, r1⟩ := Kd.R_reads h1
  obtain ⟨A2, c2, rfl, l2, r2⟩ := Kd.R_reads h2
  refine (natural_limbs_add.calls A1 c1 _ A2 c2 _ _ W r1 l1 r2 l2 (add_limbs (limbs_good m) (limbs_good n) (by omega) (by omega) (lv_limbs m) (lv_limbs n))).mono ?_
  rintro e W' ⟨v, rfl, hr, hb⟩
  exact ⟨v, rfl, IsN.of_R hr, hb⟩
theorem op_sub (m n : Nat) (hm : (limbs m).length ≤ 1000) (hn : (limbs n).length ≤ 1000) (hle : n ≤ m) (W : World) (base : Nat) (v1 v2 : Value) (h1 : Kd.R (Kd.int .i64) 3 W base (fun _ => True) v1 (limbs m)) (h2 : Kd.R (Kd.int .i64) 3 W base (fun _ => True) v2 (limbs n)) :
    Calls Tryz.prog 78 #[v1, v2] W fun e W' => ∃ v, e = .returned v ∧ IsN W' v (m - n) ∧ Below W.heap.size W W' := by
  obtain ⟨A1, c1, rfl, l1, r1⟩ := Kd.R_reads h1
  obtain ⟨A2, c2, rfl, l2, r2⟩ := Kd.R_reads h2
  refine (natural_limbs_sub.calls A1 c1 _ A2 c2 _ _ W r1 l1 r2 l2 (sub_limbs (limbs_good m) (limbs_good n) (by omega) (by omega) (lv_limbs m) (lv_limbs n) hle)).mono ?_
  rintro e W' ⟨v, rfl, hr, hb⟩
  exact ⟨v, rfl, IsN.of_R hr, hb⟩
theorem op_mul (m n : Nat) (hm : (limbs m).length ≤ 1000) (hn : (limbs n).length ≤ 1000) (W : World) (base : Nat) (v1 v2 : Value) (h1 : Kd.R (Kd.int .i64) 3 W base (fun _ => True) v1 (limbs m)) (h2 : Kd.R (Kd.int .i64) 3 W base (fun _ => True) v2 (limbs n)) :
    Calls Tryz.prog 103 #[v1, v2] W fun e W' => ∃ v, e = .returned v ∧ IsN W' v (m * n) ∧ Below W.heap.size W W' := by
  obtain ⟨A1, c1, rfl, l1, r1⟩ := Kd.R_reads h1
  obtain ⟨A2, c2, rfl, l2, r2⟩ := Kd.R_reads h2
  refine (XLimb.natural_limbs_mul.calls 10000 A1 c1 _ A2 c2 _ _ W r1 l1 r2 l2 (mul_some m n hm hn)).mono ?_
  rintro e W' ⟨v, rfl, hr, hb⟩
  exact ⟨v, rfl, IsN.of_R hr, hb⟩
theorem op_gcd (m n : Nat) (hm : (limbs m).length ≤ 1000) (hn : (limbs n).length ≤ 1000) (W : World) (base : Nat) (v1 v2 : Value) (h1 : Kd.R (Kd.int .i64) 3 W base (fun _ => True) v1 (limbs m)) (h2 : Kd.R (Kd.int .i64) 3 W base (fun _ => True) v2 (limbs n)) :
    Calls Tryz.prog 70 #[v1, v2] W fun e W' => ∃ v, e = .returned v ∧ IsN W' v (Nat.gcd m n) ∧ Below W.heap.size W W' := by
  obtain ⟨A1, c1, rfl, l1, r1⟩ := Kd.R_reads h1
  obtain ⟨A2, c2, rfl, l2, r2⟩ := Kd.R_reads h2
  obtain ⟨K, hK⟩ := gcd_ev n m hm hn
  refine (XLimb.natural_Gcd_1.calls K (fun _ => True) A1 c1 _ (fun _ => True) A2 c2 _ _ W (Kd.R_V h1) (Kd.R_V h2) (hK K (Nat.le_refl _))).mono ?_
  rintro e W' ⟨v, rfl, hr, hb⟩
  obtain ⟨A, c, e, hl, hf⟩ := hr
  exact ⟨v, rfl, ⟨A, c, e, hl, Kd.F_now hf⟩, hb⟩
theorem valid_any (a : ByteArray) (W : World) (hL : Laid W) : Calls Tryz.prog 41 #[.string a] W fun e w' => e = .returned (.bool (validS a)) ∧ Below W.heap.size W w' := natural_Valid.calls a _ W hL rfl
theorem text_any (m : Nat) (hm : (limbs m).length ≤ 1000000) (v : Value) (W : World) (hL : Laid W) (hv : IsN W v m) : Calls Tryz.prog 74 #[v] W fun e w' => e = .returned (.tuple #[.string (limS m).1, .int .i64 (limS m).2]) ∧ Below W.heap.size W w' := by
  obtain ⟨A, c, rfl, hl, hr⟩ := hv
  exact text_calls m A c W hL hr hm
set_option maxHeartbeats 2000000 in
theorem both_add (a b : ByteArray) (w : World) (hL : Laid w) (r : Nat) (hr : (limbs r).length ≤ 1000000)
    (hop : validS a = true → validS b = true → ∀ (W : World) (base : Nat) (v1 v2 : Value), Kd.R (Kd.int .i64) 3 W base (fun _ => True) v1 (limbs (valS a)) → Kd.R (Kd.int .i64) 3 W base (fun _ => True) v2 (limbs (valS b)) →
      Calls Tryz.prog 104 #[v1, v2] W fun e W' => ∃ v, e = .returned v ∧ IsN W' v r ∧ Below W.heap.size W W') :
    Calls Tryz.prog 69 #[.string a, .string b, .func (.func 104) #[] #[]] w fun e w' => e = .returned (.tuple #[.string (if validS a && validS b then (limS r).1 else noS), .int .i64 (if validS a && validS b then (limS r).2 else 1)]) ∧ Below w.heap.size w w' := by
  have HL := Lib.hid hL
  clear hL
  cases ha : validS a with
  | false =>
    have HA := Lib.hid ha
    clear ha hop
    go_enter Tryz.func69, Tryz.ntmps69
    go_wp2_with fail
    refine (valid_any a _ HL.out).mono ?_
    rintro e w1 ⟨rfl, hb1⟩
    rw [HA.out]
    have HB1 := Aside0.mk hb1
    clear hb1
    go_wp2_with fail
    go_ret2
    exact ⟨by simp [noS], HB1.out⟩
  | true =>
  cases hb : validS b with
  | false =>
    have HA := Lib.hid ha
    have HV := Lib.hid hb
    clear ha hb hop
    go_enter Tryz.func69, Tryz.ntmps69
    go_wp2_with fail
    refine (valid_any a _ HL.out).mono ?_
    rintro e w1 ⟨rfl, hb1⟩
    rw [HA.out]
    have HB1 := Aside0.mk hb1
    clear hb1
    go_wp2_with fail
    refine (valid_any b _ (HL.out.below HB1.out)).mono ?_
    rintro e w2 ⟨rfl, hb2⟩
    rw [HV.out]
    have HB2 := Aside0.mk (below_step HB1.out hb2)
    clear hb2
    go_wp2_with fail
    go_ret2
    exact ⟨by simp [noS], HB2.out⟩
  | true =>
    have HA := Lib.hid ha
    have HV := Lib.hid hb
    have HOP := Lib.hid (hop ha hb)
    have RA := Lib.hid (fun W => read_calls a ha W)
    have RB := Lib.hid (fun W => read_calls b hb W)
    clear ha hb hop
    go_enter Tryz.func69, Tryz.ntmps69
    go_wp2_with fail
    refine (valid_any a _ HL.out).mono ?_
    rintro e w1 ⟨rfl, hb1⟩
    rw [HA.out]
    have HB1 := Aside0.mk hb1
    clear hb1
    go_wp2_with fail
    refine (valid_any b _ (HL.out.below HB1.out)).mono ?_
    rintro e w2 ⟨rfl, hb2⟩
    rw [HV.out]
    have HB2 := Aside0.mk (below_step HB1.out hb2)
    clear hb2
    go_wp2_with fail
    refine (RA.out _).mono ?_
    rintro e w3 ⟨v3, rfl, hr3, hb3⟩
    have HR3 := Aside0.mk (Kd.R_lower hr3 HB2.out.size)
    have HB3 := Aside0.mk (below_step HB2.out hb3)
    clear hb3 hr3
    go_wp2_with fail
    refine (RB.out _).mono ?_
    rintro e w4 ⟨v4, rfl, hr4, hb4⟩
    have HR4 := Aside0.mk (Kd.R_lower hr4 HB3.out.size)
    have HR3' := Aside0.mk (Kd.R_below HR3.out hb4)
    have HB4 := Aside0.mk (below_step HB3.out hb4)
    clear hb4 hr4
    go_wp2_with fail
    refine (HOP.out _ _ _ _ HR3'.out HR4.out).mono ?_
    rintro e w5 ⟨v5, rfl, hn5, hb5⟩
    have HB5 := Aside0.mk (below_step HB4.out hb5)
    have HN5 := Aside0.mk hn5
    clear hb5 hn5
    go_wp2_with fail
    refine (text_any r hr _ _ (HL.out.below HB5.out) HN5.out).mono ?_
    rintro e w6 ⟨rfl, hb6⟩
    have HB6 := Aside0.mk (below_step HB5.out hb6)
    clear hb6
    go_wp2_with fail
    go_ret2
    exact ⟨by simp, HB6.out⟩
set_option maxHeartbeats 2000000 in
theorem both_sub (a b : ByteArray) (w : World) (hL : Laid w) (r : Nat) (hr : (limbs r).length ≤ 1000000)
    (hop : validS a = true → validS b = true → ∀ (W : World) (base : Nat) (v1 v2 : Value), Kd.R (Kd.int .i64) 3 W base (fun _ => True) v1 (limbs (valS a)) → Kd.R (Kd.int .i64) 3 W base (fun _ => True) v2 (limbs (valS b)) →
      Calls Tryz.prog 78 #[v1, v2] W fun e W' => ∃ v, e = .returned v ∧ IsN W' v r ∧ Below W.heap.size W W') :
    Calls Tryz.prog 69 #[.string a, .string b, .func (.func 78) #[] #[]] w fun e w' => e = .returned (.tuple #[.string (if validS a && validS b then (limS r).1 else noS), .int .i64 (if validS a && validS b then (limS r).2 else 1)]) ∧ Below w.heap.size w w' := by
  have HL := Lib.hid hL
  clear hL
  cases ha : validS a with
  | false =>
    have HA := Lib.hid ha
    clear ha hop
    go_enter Tryz.func69, Tryz.ntmps69
    go_wp2_with fail
    refine (valid_any a _ HL.out).mono ?_
    rintro e w1 ⟨rfl, hb1⟩
    rw [HA.out]
    have HB1 := Aside0.mk hb1
    clear hb1
    go_wp2_with fail
    go_ret2
    exact ⟨by simp [noS], HB1.out⟩
  | true =>
  cases hb : validS b with
  | false =>
    have HA := Lib.hid ha
    have HV := Lib.hid hb
    clear ha hb hop
    go_enter Tryz.func69, Tryz.ntmps69
    go_wp2_with fail
    refine (valid_any a _ HL.out).mono ?_
    rintro e w1 ⟨rfl, hb1⟩
    rw [HA.out]
    have HB1 := Aside0.mk hb1
    clear hb1
    go_wp2_with fail
    refine (valid_any b _ (HL.out.below HB1.out)).mono ?_
    rintro e w2 ⟨rfl, hb2⟩
    rw [HV.out]
    have HB2 := Aside0.mk (below_step HB1.out hb2)
    clear hb2
    go_wp2_with fail
    go_ret2
    exact ⟨by simp [noS], HB2.out⟩
  | true =>
    have HA := Lib.hid ha
    have HV := Lib.hid hb
    have HOP := Lib.hid (hop ha hb)
    have RA := Lib.hid (fun W => read_calls a ha W)
    have RB := Lib.hid (fun W => read_calls b hb W)
    clear ha hb hop
    go_enter Tryz.func69, Tryz.ntmps69
    go_wp2_with fail
    refine (valid_any a _ HL.out).mono ?_
    rintro e w1 ⟨rfl, hb1⟩
    rw [HA.out]
    have HB1 := Aside0.mk hb1
    clear hb1
    go_wp2_with fail
    refine (valid_any b _ (HL.out.below HB1.out)).mono ?_
    rintro e w2 ⟨rfl, hb2⟩
    rw [HV.out]
    have HB2 := Aside0.mk (below_step HB1.out hb2)
    clear hb2
    go_wp2_with fail
    refine (RA.out _).mono ?_
    rintro e w3 ⟨v3, rfl, hr3, hb3⟩
    have HR3 := Aside0.mk (Kd.R_lower hr3 HB2.out.size)
    have HB3 := Aside0.mk (below_step HB2.out hb3)
    clear hb3 hr3
    go_wp2_with fail
    refine (RB.out _).mono ?_
    rintro e w4 ⟨v4, rfl, hr4, hb4⟩
    have HR4 := Aside0.mk (Kd.R_lower hr4 HB3.out.size)
    have HR3' := Aside0.mk (Kd.R_below HR3.out hb4)
    have HB4 := Aside0.mk (below_step HB3.out hb4)
    clear hb4 hr4
    go_wp2_with fail
    refine (HOP.out _ _ _ _ HR3'.out HR4.out).mono ?_
    rintro e w5 ⟨v5, rfl, hn5, hb5⟩
    have HB5 := Aside0.mk (below_step HB4.out hb5)
    have HN5 := Aside0.mk hn5
    clear hb5 hn5
    go_wp2_with fail
    refine (text_any r hr _ _ (HL.out.below HB5.out) HN5.out).mono ?_
    rintro e w6 ⟨rfl, hb6⟩
    have HB6 := Aside0.mk (below_step HB5.out hb6)
    clear hb6
    go_wp2_with fail
    go_ret2
    exact ⟨by simp, HB6.out⟩
set_option maxHeartbeats 2000000 in
theorem both_mul (a b : ByteArray) (w : World) (hL : Laid w) (r : Nat) (hr : (limbs r).length ≤ 1000000)
    (hop : validS a = true → validS b = true → ∀ (W : World) (base : Nat) (v1 v2 : Value), Kd.R (Kd.int .i64) 3 W base (fun _ => True) v1 (limbs (valS a)) → Kd.R (Kd.int .i64) 3 W base (fun _ => True) v2 (limbs (valS b)) →
      Calls Tryz.prog 103 #[v1, v2] W fun e W' => ∃ v, e = .returned v ∧ IsN W' v r ∧ Below W.heap.size W W') :
    Calls Tryz.prog 69 #[.string a, .string b, .func (.func 103) #[] #[]] w fun e w' => e = .returned (.tuple #[.string (if validS a && validS b then (limS r).1 else noS), .int .i64 (if validS a && validS b then (limS r).2 else 1)]) ∧ Below w.heap.size w w' := by
  have HL := Lib.hid hL
  clear hL
  cases ha : validS a with
  | false =>
    have HA := Lib.hid ha
    clear ha hop
    go_enter Tryz.func69, Tryz.ntmps69
    go_wp2_with fail
    refine (valid_any a _ HL.out).mono ?_
    rintro e w1 ⟨rfl, hb1⟩
    rw [HA.out]
    have HB1 := Aside0.mk hb1
    clear hb1
    go_wp2_with fail
    go_ret2
    exact ⟨by simp [noS], HB1.out⟩
  | true =>
  cases hb : validS b with
  | false =>
    have HA := Lib.hid ha
    have HV := Lib.hid hb
    clear ha hb hop
    go_enter Tryz.func69, Tryz.ntmps69
    go_wp2_with fail
    refine (valid_any a _ HL.out).mono ?_
    rintro e w1 ⟨rfl, hb1⟩
    rw [HA.out]
    have HB1 := Aside0.mk hb1
    clear hb1
    go_wp2_with fail
    refine (valid_any b _ (HL.out.below HB1.out)).mono ?_
    rintro e w2 ⟨rfl, hb2⟩
    rw [HV.out]
    have HB2 := Aside0.mk (below_step HB1.out hb2)
    clear hb2
    go_wp2_with fail
    go_ret2
    exact ⟨by simp [noS], HB2.out⟩
  | true =>
    have HA := Lib.hid ha
    have HV := Lib.hid hb
    have HOP := Lib.hid (hop ha hb)
    have RA := Lib.hid (fun W => read_calls a ha W)
    have RB := Lib.hid (fun W => read_calls b hb W)
    clear ha hb hop
    go_enter Tryz.func69, Tryz.ntmps69
    go_wp2_with fail
    refine (valid_any a _ HL.out).mono ?_
    rintro e w1 ⟨rfl, hb1⟩
    rw [HA.out]
    have HB1 := Aside0.mk hb1
    clear hb1
    go_wp2_with fail
    refine (valid_any b _ (HL.out.below HB1.out)).mono ?_
    rintro e w2 ⟨rfl, hb2⟩
    rw [HV.out]
    have HB2 := Aside0.mk (below_step HB1.out hb2)
    clear hb2
    go_wp2_with fail
    refine (RA.out _).mono ?_
    rintro e w3 ⟨v3, rfl, hr3, hb3⟩
    have HR3 := Aside0.mk (Kd.R_lower hr3 HB2.out.size)
    have HB3 := Aside0.mk (below_step HB2.out hb3)
    clear hb3 hr3
    go_wp2_with fail
    refine (RB.out _).mono ?_
    rintro e w4 ⟨v4, rfl, hr4, hb4⟩
    have HR4 := Aside0.mk (Kd.R_lower hr4 HB3.out.size)
    have HR3' := Aside0.mk (Kd.R_below HR3.out hb4)
    have HB4 := Aside0.mk (below_step HB3.out hb4)
    clear hb4 hr4
    go_wp2_with fail
    refine (HOP.out _ _ _ _ HR3'.out HR4.out).mono ?_
    rintro e w5 ⟨v5, rfl, hn5, hb5⟩
    have HB5 := Aside0.mk (below_step HB4.out hb5)
    have HN5 := Aside0.mk hn5
    clear hb5 hn5
    go_wp2_with fail
    refine (text_any r hr _ _ (HL.out.below HB5.out) HN5.out).mono ?_
    rintro e w6 ⟨rfl, hb6⟩
    have HB6 := Aside0.mk (below_step HB5.out hb6)
    clear hb6
    go_wp2_with fail
    go_ret2
    exact ⟨by simp, HB6.out⟩
set_option maxHeartbeats 2000000 in
theorem both_gcd (a b : ByteArray) (w : World) (hL : Laid w) (r : Nat) (hr : (limbs r).length ≤ 1000000)
    (hop : validS a = true → validS b = true → ∀ (W : World) (base : Nat) (v1 v2 : Value), Kd.R (Kd.int .i64) 3 W base (fun _ => True) v1 (limbs (valS a)) → Kd.R (Kd.int .i64) 3 W base (fun _ => True) v2 (limbs (valS b)) →
      Calls Tryz.prog 70 #[v1, v2] W fun e W' => ∃ v, e = .returned v ∧ IsN W' v r ∧ Below W.heap.size W W') :
    Calls Tryz.prog 69 #[.string a, .string b, .func (.func 70) #[] #[]] w fun e w' => e = .returned (.tuple #[.string (if validS a && validS b then (limS r).1 else noS), .int .i64 (if validS a && validS b then (limS r).2 else 1)]) ∧ Below w.heap.size w w' := by
  have HL := Lib.hid hL
  clear hL
  cases ha : validS a with
  | false =>
    have HA := Lib.hid ha
    clear ha hop
    go_enter Tryz.func69, Tryz.ntmps69
    go_wp2_with fail
    refine (valid_any a _ HL.out).mono ?_
    rintro e w1 ⟨rfl, hb1⟩
    rw [HA.out]
    have HB1 := Aside0.mk hb1
    clear hb1
    go_wp2_with fail
    go_ret2
    exact ⟨by simp [noS], HB1.out⟩
  | true =>
  cases hb : validS b with
  | false =>
    have HA := Lib.hid ha
    have HV := Lib.hid hb
    clear ha hb hop
    go_enter Tryz.func69, Tryz.ntmps69
    go_wp2_with fail
    refine (valid_any a _ HL.out).mono ?_
    rintro e w1 ⟨rfl, hb1⟩
    rw [HA.out]
    have HB1 := Aside0.mk hb1
    clear hb1
    go_wp2_with fail
    refine (valid_any b _ (HL.out.below HB1.out)).mono ?_
    rintro e w2 ⟨rfl, hb2⟩
    rw [HV.out]
    have HB2 := Aside0.mk (below_step HB1.out hb2)
    clear hb2
    go_wp2_with fail
    go_ret2
    exact ⟨by simp [noS], HB2.out⟩
  | true =>
    have HA := Lib.hid ha
    have HV := Lib.hid hb
    have HOP := Lib.hid (hop ha hb)
    have RA := Lib.hid (fun W => read_calls a ha W)
    have RB := Lib.hid (fun W => read_calls b hb W)
    clear ha hb hop
    go_enter Tryz.func69, Tryz.ntmps69
    go_wp2_with fail
    refine (valid_any a _ HL.out).mono ?_
    rintro e w1 ⟨rfl, hb1⟩
    rw [HA.out]
    have HB1 := Aside0.mk hb1
    clear hb1
    go_wp2_with fail
    refine (valid_any b _ (HL.out.below HB1.out)).mono ?_
    rintro e w2 ⟨rfl, hb2⟩
    rw [HV.out]
    have HB2 := Aside0.mk (below_step HB1.out hb2)
    clear hb2
    go_wp2_with fail
    refine (RA.out _).mono ?_
    rintro e w3 ⟨v3, rfl, hr3, hb3⟩
    have HR3 := Aside0.mk (Kd.R_lower hr3 HB2.out.size)
    have HB3 := Aside0.mk (below_step HB2.out hb3)
    clear hb3 hr3
    go_wp2_with fail
    refine (RB.out _).mono ?_
    rintro e w4 ⟨v4, rfl, hr4, hb4⟩
    have HR4 := Aside0.mk (Kd.R_lower hr4 HB3.out.size)
    have HR3' := Aside0.mk (Kd.R_below HR3.out hb4)
    have HB4 := Aside0.mk (below_step HB3.out hb4)
    clear hb4 hr4
    go_wp2_with fail
    refine (HOP.out _ _ _ _ HR3'.out HR4.out).mono ?_
    rintro e w5 ⟨v5, rfl, hn5, hb5⟩
    have HB5 := Aside0.mk (below_step HB4.out hb5)
    have HN5 := Aside0.mk hn5
    clear hb5 hn5
    go_wp2_with fail
    refine (text_any r hr _ _ (HL.out.below HB5.out) HN5.out).mono ?_
    rintro e w6 ⟨rfl, hb6⟩
    have HB6 := Aside0.mk (below_step HB5.out hb6)
    clear hb6
    go_wp2_with fail
    go_ret2
    exact ⟨by simp, HB6.out⟩
def addS (a b : ByteArray) : ByteArray × Int := if validS a && validS b then limS (valS a + valS b) else (noS, 1)
def mulS (a b : ByteArray) : ByteArray × Int := if validS a && validS b then limS (valS a * valS b) else (noS, 1)
def gcdS (a b : ByteArray) : ByteArray × Int := if validS a && validS b then limS (Nat.gcd (valS a) (valS b)) else (noS, 1)
def natural_Add.f (a b : ByteArray) : Option (ByteArray × Int) := some (addS a b)
def natural_Mul.f (a b : ByteArray) : Option (ByteArray × Int) := some (mulS a b)
def natural_Gcd.f (a b : ByteArray) : Option (ByteArray × Int) := some (gcdS a b)
theorem if_fst {c : Bool} {p : ByteArray × Int} : (if c = true then p else (noS, 1)) = (if c = true then p.1 else noS, if c = true then p.2 else 1) := by cases c <;> rfl
theorem len_add (a b : ByteArray) : (limbs (if validS a && validS b then valS a + valS b else 0)).length ≤ 1000000 := by
  split
  · rename_i h
    simp only [Bool.and_eq_true] at h
    have x := limbs_len_valS h.1
    have y := limbs_len_valS h.2
    have : valS a + valS b < 1000000000 * (valS a + valS b + 1) := by omega
    have hle : (limbs (valS a + valS b)).length ≤ 113 := by
      apply limbs_length_le
      have p := limbs_lt (valS a)
      have q := limbs_lt (valS b)
      have p' := bp_mono x
      have q' := bp_mono y
      rw [show (113 : Nat) = 112 + 1 from rfl, bp_succ]
      have := bp_pos 112
      generalize bp 112 = t at *
      omega
    omega
  · rw [limbs_zero]; simp
theorem len_mul (a b : ByteArray) : (limbs (if validS a && validS b then valS a * valS b else 0)).length ≤ 1000000 := by
  split
  · rename_i h
    simp only [Bool.and_eq_true] at h
    have x := limbs_len_valS h.1
    have y := limbs_len_valS h.2
    have := limbs_mul_len (valS a) (valS b)
    omega
  · rw [limbs_zero]; simp
theorem gcd_le (m n : Nat) : Nat.gcd m n ≤ m + n := by
  by_cases h : m = 0
  · subst h; rw [Nat.gcd_zero_left]; omega
  · have := Nat.le_of_dvd (Nat.pos_of_ne_zero h) (Nat.gcd_dvd_left m n); omega
theorem len_gcd (a b : ByteArray) : (limbs (if validS a && validS b then Nat.gcd (valS a) (valS b) else 0)).length ≤ 1000000 := by
  have := len_add a b
  split
  · rename_i h
    rw [if_pos h] at this
    exact Nat.le_trans (limbs_mono (gcd_le _ _)) this
  · rw [limbs_zero]; simp
set_option maxHeartbeats 1000000 in
theorem natural_Add.calls (a0 : ByteArray) (a1 : ByteArray) (r1 : ByteArray) (r2 : Int) (w : World) (hL : Laid w) (h : natural_Add.f a0 a1 = some (r1, r2)) :
    Calls Tryz.prog 77 #[.string a0, .string a1] w fun e w' => e = .returned (.tuple #[.string r1, .int .i64 r2]) ∧ Below w.heap.size w w' := by
  have C := both_add a0 a1 w hL (if validS a0 && validS a1 then valS a0 + valS a1 else 0) (len_add a0 a1) (fun ha hb W base v1 v2 h1 h2 => by
    rw [ha, hb]
    exact op_add _ _ (Nat.le_trans (limbs_len_valS ha) (by decide)) (Nat.le_trans (limbs_len_valS hb) (by decide)) W base v1 v2 h1 h2)
  have hr : (if validS a0 && validS a1 then (limS (if validS a0 && validS a1 then valS a0 + valS a1 else 0)).1 else noS) = r1 ∧ (if validS a0 && validS a1 then (limS (if validS a0 && validS a1 then valS a0 + valS a1 else 0)).2 else 1) = r2 := by
    unfold natural_Add.f addS at h
    rw [if_fst] at h
    simp only [Option.some.injEq, Prod.mk.injEq] at h
    obtain ⟨h1, h2⟩ := h
    rw [← h1, ← h2]
    cases validS a0 && validS a1 <;> simp
  rw [hr.1, hr.2] at C
  have HC := Lib.hid C
  clear C hr h hL
  go_enter Tryz.func77, Tryz.ntmps77
  go_wp2_with fail
  refine HC.out.mono ?_
  rintro e w1 ⟨rfl, hb1⟩
  have HB1 := Aside0.mk hb1
  clear hb1
  go_wp2_with fail
  go_ret2
  exact ⟨rfl, HB1.out⟩
set_option maxHeartbeats 1000000 in
theorem natural_Mul.calls (a0 : ByteArray) (a1 : ByteArray) (r1 : ByteArray) (r2 : Int) (w : World) (hL : Laid w) (h : natural_Mul.f a0 a1 = some (r1, r2)) :
    Calls Tryz.prog 76 #[.string a0, .string a1] w fun e w' => e = .returned (.tuple #[.string r1, .int .i64 r2]) ∧ Below w.heap.size w w' := by
  have C := both_mul a0 a1 w hL (if validS a0 && validS a1 then valS a0 * valS a1 else 0) (len_mul a0 a1) (fun ha hb W base v1 v2 h1 h2 => by
    rw [ha, hb]
    exact op_mul _ _ (Nat.le_trans (limbs_len_valS ha) (by decide)) (Nat.le_trans (limbs_len_valS hb) (by decide)) W base v1 v2 h1 h2)
  have hr : (if validS a0 && validS a1 then (limS (if validS a0 && validS a1 then valS a0 * valS a1 else 0)).1 else noS) = r1 ∧ (if validS a0 && validS a1 then (limS (if validS a0 && validS a1 then valS a0 * valS a1 else 0)).2 else 1) = r2 := by
    unfold natural_Mul.f mulS at h
    rw [if_fst] at h
    simp only [Option.some.injEq, Prod.mk.injEq] at h
    obtain ⟨h1, h2⟩ := h
    rw [← h1, ← h2]
    cases validS a0 && validS a1 <;> simp
  rw [hr.1, hr.2] at C
  have HC := Lib.hid C
  clear C hr h hL
  go_enter Tryz.func76, Tryz.ntmps76
  go_wp2_with fail
  refine HC.out.mono ?_
  rintro e w1 ⟨rfl, hb1⟩
  have HB1 := Aside0.mk hb1
  clear hb1
  go_wp2_with fail
  go_ret2
  exact ⟨rfl, HB1.out⟩
set_option maxHeartbeats 1000000 in
theorem natural_Gcd.calls (a0 : ByteArray) (a1 : ByteArray) (r1 : ByteArray) (r2 : Int) (w : World) (hL : Laid w) (h : natural_Gcd.f a0 a1 = some (r1, r2)) :
    Calls Tryz.prog 46 #[.string a0, .string a1] w fun e w' => e = .returned (.tuple #[.string r1, .int .i64 r2]) ∧ Below w.heap.size w w' := by
  have C := both_gcd a0 a1 w hL (if validS a0 && validS a1 then Nat.gcd (valS a0) (valS a1) else 0) (len_gcd a0 a1) (fun ha hb W base v1 v2 h1 h2 => by
    rw [ha, hb]
    exact op_gcd _ _ (Nat.le_trans (limbs_len_valS ha) (by decide)) (Nat.le_trans (limbs_len_valS hb) (by decide)) W base v1 v2 h1 h2)
  have hr : (if validS a0 && validS a1 then (limS (if validS a0 && validS a1 then Nat.gcd (valS a0) (valS a1) else 0)).1 else noS) = r1 ∧ (if validS a0 && validS a1 then (limS (if validS a0 && validS a1 then Nat.gcd (valS a0) (valS a1) else 0)).2 else 1) = r2 := by
    unfold natural_Gcd.f gcdS at h
    rw [if_fst] at h
    simp only [Option.some.injEq, Prod.mk.injEq] at h
    obtain ⟨h1, h2⟩ := h
    rw [← h1, ← h2]
    cases validS a0 && validS a1 <;> simp
  rw [hr.1, hr.2] at C
  have HC := Lib.hid C
  clear C hr h hL
  go_enter Tryz.func46, Tryz.ntmps46
  go_wp2_with fail
  refine HC.out.mono ?_
  rintro e w1 ⟨rfl, hb1⟩
  have HB1 := Aside0.mk hb1
  clear hb1
  go_wp2_with fail
  go_ret2
  exact ⟨rfl, HB1.out⟩
end Go.Proofs.YthpomhboogcigaaGreatDoor
end
section -- NatY
namespace Go.Proofs.YthpomhboogcigaaGreatDoor
open Go.RowKit Go.Proofs.YthpomhboogcigaaGreatDoorW.PrintWords Go.Proofs.YthpomhboogcigaaGreatDoorW.PrintMore Go.Proofs.YthpomhboogcigaaGreatDoorW.PrintLast
set_option linter.unusedVariables false
set_option linter.unusedSimpArgs false
def cmpS (a b : ByteArray) : Int := if validS a && validS b then cmpI (valS a) (valS b) else 0
def subS (a b : ByteArray) : ByteArray × Int := if validS a && validS b then (if valS a < valS b then (noS, 9) else (decS (valS a - valS b), 0)) else (noS, 1)
def divS (a b : ByteArray) : ByteArray × ByteArray × Int := if validS a && validS b then (if valS b = 0 then (noS, noS, 14) else (decS (valS a / valS b), decS (valS a % valS b), 0)) else (noS, noS, 1)
def natural_Compare.f (a b : ByteArray) : Option Int := some (cmpS a b)
def natural_Sub.f (a b : ByteArray) : Option (ByteArray × Int) := some (subS a b)
def natural_Div.f (a b : ByteArray) : Option (ByteArray × ByteArray × Int) := some (divS a b)
theorem op_compare (m n : Nat) (hm : (limbs m).length ≤ 1000) (hn : (limbs n).length ≤ 1000) (W : World) (base : Nat) (v1 v2 : Value) (h1 : Kd.R (Kd.int .i64) 3 W base (fun _ => True) v1 (limbs m)) (h2 : Kd.R (Kd.int .i64) 3 W base (fun _ => True) v2 (limbs n)) :
    Calls Tryz.prog 75 #[v1, v2] W fun e W' => e = .returned (.int .i64 (cmpI m n)) ∧ Below W.heap.size W W' := by
  obtain ⟨A1, c1, rfl, l1, r1⟩ := Kd.R_reads h1
  obtain ⟨A2, c2, rfl, l2, r2⟩ := Kd.R_reads h2
  refine (XLimb.natural_limbs_compare.calls 10000 A1 c1 _ A2 c2 _ _ W r1 l1 r2 l2 (compare_ev m n (by omega) (by omega) 10000 (by omega))).mono ?_
  rintro e W' ⟨rfl, hd⟩
  exact ⟨rfl, hd.below⟩
set_option maxHeartbeats 2000000 in
theorem natural_Compare.calls (a0 : ByteArray) (a1 : ByteArray) (r : Int) (w : World) (hL : Laid w) (h : natural_Compare.f a0 a1 = some r) :
    Calls Tryz.prog 50 #[.string a0, .string a1] w fun e w' => e = .returned (.int .i64 r) ∧ Below w.heap.size w w' := by
  injection h with h
  subst h
  have HL := Lib.hid hL
  clear hL
  cases ha : validS a0 with
  | false =>
    have e : cmpS a0 a1 = 0 := by unfold cmpS; rw [ha]; rfl
    rw [e]
    have HA := Lib.hid ha
    clear ha e
    go_enter Tryz.func50, Tryz.ntmps50
    go_wp2_with fail
    refine (valid_any a0 _ HL.out).mono ?_
    rintro e w1 ⟨rfl, hb1⟩
    rw [HA.out]
    have HB1 := Aside0.mk hb1
    clear hb1
    go_wp2_with fail
    go_ret
    exact ⟨rfl, HB1.out⟩
  | true =>
  cases hb : validS a1 with
  | false =>
    have e : cmpS a0 a1 = 0 := by unfold cmpS; rw [ha, hb]; rfl
    rw [e]
    have HA := Lib.hid ha
    have HV := Lib.hid hb
    clear ha hb e
    go_enter Tryz.func50, Tryz.ntmps50
    go_wp2_with fail
    refine (valid_any a0 _ HL.out).mono ?_
    rintro e w1 ⟨rfl, hb1⟩
    rw [HA.out]
    have HB1 := Aside0.mk hb1
    clear hb1
    go_wp2_with fail
    refine (valid_any a1 _ (HL.out.below HB1.out)).mono ?_
    rintro e w2 ⟨rfl, hb2⟩
    rw [HV.out]
    have HB2 := Aside0.mk (below_step HB1.out hb2)
    clear hb2
    go_wp2_with fail
    go_ret
    exact ⟨rfl, HB2.out⟩
  | true =>
    have e : cmpS a0 a1 = cmpI (valS a0) (valS a1) := by unfold cmpS; rw [ha, hb]; rfl
    rw [e]
    have HA := Lib.hid ha
    have HV := Lib.hid hb
    have HOP := Lib.hid (op_compare (valS a0) (valS a1) (Nat.le_trans (limbs_len_valS ha) (by decide)) (Nat.le_trans (limbs_len_valS hb) (by decide)))
    have RA := Lib.hid (fun W => read_calls a0 ha W)
    have RB := Lib.hid (fun W => read_calls a1 hb W)
    clear ha hb e
    generalize cmpI (valS a0) (valS a1) = c at *
    go_enter Tryz.func50, Tryz.ntmps50
    go_wp2_with fail
    refine (valid_any a0 _ HL.out).mono ?_
    rintro e w1 ⟨rfl, hb1⟩
    rw [HA.out]
    have HB1 := Aside0.mk hb1
    clear hb1
    go_wp2_with fail
    refine (valid_any a1 _ (HL.out.below HB1.out)).mono ?_
    rintro e w2 ⟨rfl, hb2⟩
    rw [HV.out]
    have HB2 := Aside0.mk (below_step HB1.out hb2)
    clear hb2
    go_wp2_with fail
    refine (RA.out _).mono ?_
    rintro e w3 ⟨v3, rfl, hr3, hb3⟩
    have HR3 := Aside0.mk (Kd.R_lower hr3 HB2.out.size)
    have HB3 := Aside0.mk (below_step HB2.out hb3)
    clear hb3 hr3
    go_wp2_with fail
    refine (RB.out _).mono ?_
    rintro e w4 ⟨v4, rfl, hr4, hb4⟩
    have HR4 := Aside0.mk (Kd.R_lower hr4 HB3.out.size)
    have HR3' := Aside0.mk (Kd.R_below HR3.out hb4)
    have HB4 := Aside0.mk (below_step HB3.out hb4)
    clear hb4 hr4
    go_wp2_with fail
    refine (HOP.out _ _ _ _ HR3'.out HR4.out).mono ?_
    rintro e w5 ⟨rfl, hb5⟩
    have HB5 := Aside0.mk (below_step HB4.out hb5)
    clear hb5
    go_wp2_with fail
    go_ret
    exact ⟨rfl, HB5.out⟩
theorem cmpI_lt {m n : Nat} (h : m < n) : cmpI m n = -1 := by unfold cmpI; rw [if_pos (by omega)]
theorem cmpI_ge {m n : Nat} (h : ¬ m < n) : 0 ≤ cmpI m n := by unfold cmpI; rw [if_neg (by omega)]; split <;> omega
theorem limS_of_le {m : Nat} (h : (Lib.decDigits m).length ≤ 1000) : limS m = (decS m, 0) := by unfold limS; rw [if_neg (by omega)]
theorem dec_le_valS {a : ByteArray} (h : validS a = true) {m : Nat} (hm : m ≤ valS a) : (Lib.decDigits m).length ≤ 1000 := by
  have := dec_mono hm
  rw [dec_len_valS h] at this
  have h2 := (validL_iff.1 h).2.1
  rw [size_list] at h2
  omega
set_option maxHeartbeats 2000000 in
theorem natural_Sub.calls (a0 : ByteArray) (a1 : ByteArray) (r1 : ByteArray) (r2 : Int) (w : World) (hL : Laid w) (h : natural_Sub.f a0 a1 = some (r1, r2)) :
    Calls Tryz.prog 56 #[.string a0, .string a1] w fun e w' => e = .returned (.tuple #[.string r1, .int .i64 r2]) ∧ Below w.heap.size w w' := by
  injection h with h
  have HL := Lib.hid hL
  clear hL
  have CC := Lib.hid (fun W hW => natural_Compare.calls a0 a1 _ W hW rfl)
  have CB := Lib.hid (fun W hW r hr hop => both_sub a0 a1 W hW r hr hop)
  cases ha : validS a0 with
  | false =>
    have e : subS a0 a1 = (noS, 1) := by unfold subS; rw [ha]; rfl
    rw [e] at h
    simp only [Prod.mk.injEq] at h
    obtain ⟨rfl, rfl⟩ := h
    have CB2 := Lib.hid (fun W hW => CB.out W hW 0 (by rw [limbs_zero]; simp) (fun z => by rw [ha] at z; cases z))
    rw [ha] at CB2
    have HA := Lib.hid ha
    clear ha e
    go_enter Tryz.func56, Tryz.ntmps56
    go_wp2_with fail
    refine (valid_any a0 _ HL.out).mono ?_
    rintro e w1 ⟨rfl, hb1⟩
    rw [HA.out]
    have HB1 := Aside0.mk hb1
    clear hb1
    go_wp2_with fail
    refine (CB2.out _ (HL.out.below HB1.out)).mono ?_
    rintro e w2 ⟨rfl, hb2⟩
    have HB2 := Aside0.mk (below_step HB1.out hb2)
    clear hb2
    go_wp2_with fail
    go_ret2
    exact ⟨by simp [noS], HB2.out⟩
  | true =>
  cases hb : validS a1 with
  | false =>
    have e : subS a0 a1 = (noS, 1) := by unfold subS; rw [ha, hb]; rfl
    rw [e] at h
    simp only [Prod.mk.injEq] at h
    obtain ⟨rfl, rfl⟩ := h
    have CB2 := Lib.hid (fun W hW => CB.out W hW 0 (by rw [limbs_zero]; simp) (fun _ z => by rw [hb] at z; cases z))
    rw [ha, hb] at CB2
    have HA := Lib.hid ha
    have HV := Lib.hid hb
    clear ha hb e
    go_enter Tryz.func56, Tryz.ntmps56
    go_wp2_with fail
    refine (valid_any a0 _ HL.out).mono ?_
    rintro e w1 ⟨rfl, hb1⟩
    rw [HA.out]
    have HB1 := Aside0.mk hb1
    clear hb1
    go_wp2_with fail
    refine (valid_any a1 _ (HL.out.below HB1.out)).mono ?_
    rintro e w2 ⟨rfl, hb2⟩
    rw [HV.out]
    have HB2 := Aside0.mk (below_step HB1.out hb2)
    clear hb2
    go_wp2_with fail
    refine (CB2.out _ (HL.out.below HB2.out)).mono ?_
    rintro e w3 ⟨rfl, hb3⟩
    have HB3 := Aside0.mk (below_step HB2.out hb3)
    clear hb3
    go_wp2_with fail
    go_ret2
    exact ⟨by simp [noS], HB3.out⟩
  | true =>
    have ec : cmpS a0 a1 = cmpI (valS a0) (valS a1) := by unfold cmpS; rw [ha, hb]; rfl
    by_cases hlt : valS a0 < valS a1
    · have e : subS a0 a1 = (noS, 9) := by unfold subS; rw [ha, hb, if_pos hlt]; rfl
      rw [e] at h
      simp only [Prod.mk.injEq] at h
      obtain ⟨rfl, rfl⟩ := h
      have EC := Lib.hid (ec.trans (cmpI_lt hlt))
      have HA := Lib.hid ha
      have HV := Lib.hid hb
      clear ha hb e ec hlt CB
      go_enter Tryz.func56, Tryz.ntmps56
      go_wp2_with fail
      refine (valid_any a0 _ HL.out).mono ?_
      rintro e w1 ⟨rfl, hb1⟩
      rw [HA.out]
      have HB1 := Aside0.mk hb1
      clear hb1
      go_wp2_with fail
      refine (valid_any a1 _ (HL.out.below HB1.out)).mono ?_
      rintro e w2 ⟨rfl, hb2⟩
      rw [HV.out]
      have HB2 := Aside0.mk (below_step HB1.out hb2)
      clear hb2
      go_wp2_with fail
      refine (CC.out _ (HL.out.below HB2.out)).mono ?_
      rintro e w3 ⟨rfl, hb3⟩
      rw [EC.out]
      have HB3 := Aside0.mk (below_step HB2.out hb3)
      clear hb3
      go_wp2_with fail
      go_ret2
      exact ⟨by simp [noS], HB3.out⟩
    · have hd := dec_le_valS ha (m := valS a0 - valS a1) (by omega)
      have e : subS a0 a1 = limS (valS a0 - valS a1) := by rw [limS_of_le hd]; unfold subS; rw [ha, hb, if_neg hlt]; rfl
      rw [e] at h
      have h1 := congrArg Prod.fst h
      have h2 := congrArg Prod.snd h
      simp only at h1 h2
      subst h1 h2
      have hg := cmpI_ge hlt
      rw [← ec] at hg
      have CB2 := Lib.hid (fun W hW => CB.out W hW (valS a0 - valS a1) (Nat.le_trans (limbs_mono (Nat.sub_le _ _)) (Nat.le_trans (limbs_len_valS ha) (by decide))) (fun _ _ W base v1 v2 g1 g2 => op_sub _ _ (Nat.le_trans (limbs_len_valS ha) (by decide)) (Nat.le_trans (limbs_len_valS hb) (by decide)) (by omega) W base v1 v2 g1 g2))
      rw [ha, hb] at CB2
      have HA := Lib.hid ha
      have HV := Lib.hid hb
      have hg' : ¬ cmpS a0 a1 < 0 := by omega
      clear ha hb e ec hlt CB hd hg h
      generalize cmpS a0 a1 = c at *
      generalize limS (valS a0 - valS a1) = q at *
      go_enter Tryz.func56, Tryz.ntmps56
      go_wp2_with fail
      refine (valid_any a0 _ HL.out).mono ?_
      rintro e w1 ⟨rfl, hb1⟩
      rw [HA.out]
      have HB1 := Aside0.mk hb1
      clear hb1
      go_wp2_with fail
      refine (valid_any a1 _ (HL.out.below HB1.out)).mono ?_
      rintro e w2 ⟨rfl, hb2⟩
      rw [HV.out]
      have HB2 := Aside0.mk (below_step HB1.out hb2)
      clear hb2
      go_wp2_with fail
      refine (CC.out _ (HL.out.below HB2.out)).mono ?_
      rintro e w3 ⟨rfl, hb3⟩
      have HB3 := Aside0.mk (below_step HB2.out hb3)
      clear hb3
      go_wp2_with fail
      refine (CB2.out _ (HL.out.below HB3.out)).mono ?_
      rintro e w4 ⟨rfl, hb4⟩
      have HB4 := Aside0.mk (below_step HB3.out hb4)
      clear hb4
      go_wp2_with fail
      go_ret2
      exact ⟨by simp, HB4.out⟩
end Go.Proofs.YthpomhboogcigaaGreatDoor
end
section -- NatZ
namespace Go.Proofs.YthpomhboogcigaaGreatDoor
open Go.RowKit Go.Proofs.YthpomhboogcigaaGreatDoorW.PrintWords Go.Proofs.YthpomhboogcigaaGreatDoorW.PrintMore Go.Proofs.YthpomhboogcigaaGreatDoorW.PrintLast
set_option linter.unusedVariables false
set_option linter.unusedSimpArgs false
theorem op_div (m n : Nat) (h0 : 0 < n) (hm : (limbs m).length ≤ 1000) (hn : (limbs n).length ≤ 1000) (W : World) (base : Nat) (v1 v2 : Value) (h1 : Kd.R (Kd.int .i64) 3 W base (fun _ => True) v1 (limbs m)) (h2 : Kd.R (Kd.int .i64) 3 W base (fun _ => True) v2 (limbs n)) :
    Calls Tryz.prog 71 #[v1, v2] W fun e W' => ∃ u1 u2, e = .returned (.tuple #[u1, u2]) ∧ IsN W' u1 (m / n) ∧ IsN W' u2 (m % n) ∧ Below W.heap.size W W' := by
  obtain ⟨A1, c1, rfl, l1, r1⟩ := Kd.R_reads h1
  obtain ⟨A2, c2, rfl, l2, r2⟩ := Kd.R_reads h2
  obtain ⟨K, hK⟩ := div_ev m n h0 hm hn
  refine (XLimb.natural_limbs_div.calls K A1 c1 _ A2 c2 _ _ _ W r1 l1 r2 l2 (hK K (Nat.le_refl _))).mono ?_
  rintro e W' ⟨u1, u2, rfl, g1, g2, hb⟩
  exact ⟨u1, u2, rfl, IsN.of_R g1, IsN.of_R g2, hb⟩
theorem zero_iff {a : ByteArray} (h : validS a = true) : (a.toList == [48]) = decide (valS a = 0) := by
  rw [Bool.eq_iff_iff, beq_iff_eq, decide_eq_true_eq, Lib.toList_data]
  constructor
  · intro e; unfold valS; rw [e]; rfl
  · intro e
    have := congrArg (fun x : ByteArray => x.data.toList) (decS_valS h)
    simp only [e] at this
    rw [← this]
    show Lib.decDigits 0 = _
    exact dec_zero
set_option maxHeartbeats 4000000 in
theorem natural_Div.calls (a0 : ByteArray) (a1 : ByteArray) (r1 : ByteArray) (r2 : ByteArray) (r3 : Int) (w : World) (hL : Laid w) (h : natural_Div.f a0 a1 = some (r1, r2, r3)) :
    Calls Tryz.prog 49 #[.string a0, .string a1] w fun e w' => e = .returned (.tuple #[.string r1, .string r2, .int .i64 r3]) ∧ Below w.heap.size w w' := by
  injection h with h
  have HL := Lib.hid hL
  clear hL
  cases ha : validS a0 with
  | false =>
    have e : divS a0 a1 = (noS, noS, 1) := by unfold divS; rw [ha]; rfl
    rw [e] at h
    simp only [Prod.mk.injEq] at h
    obtain ⟨rfl, rfl, rfl⟩ := h
    have HA := Lib.hid ha
    clear ha e
    go_enter Tryz.func49, Tryz.ntmps49
    go_wp2_with fail
    refine (valid_any a0 _ HL.out).mono ?_
    rintro e w1 ⟨rfl, hb1⟩
    rw [HA.out]
    have HB1 := Aside0.mk hb1
    clear hb1
    go_wp2_with fail
    go_ret3
    exact ⟨rfl, HB1.out⟩
  | true =>
  cases hb : validS a1 with
  | false =>
    have e : divS a0 a1 = (noS, noS, 1) := by unfold divS; rw [ha, hb]; rfl
    rw [e] at h
    simp only [Prod.mk.injEq] at h
    obtain ⟨rfl, rfl, rfl⟩ := h
    have HA := Lib.hid ha
    have HV := Lib.hid hb
    clear ha hb e
    go_enter Tryz.func49, Tryz.ntmps49
    go_wp2_with fail
    refine (valid_any a0 _ HL.out).mono ?_
    rintro e w1 ⟨rfl, hb1⟩
    rw [HA.out]
    have HB1 := Aside0.mk hb1
    clear hb1
    go_wp2_with fail
    refine (valid_any a1 _ (HL.out.below HB1.out)).mono ?_
    rintro e w2 ⟨rfl, hb2⟩
    rw [HV.out]
    have HB2 := Aside0.mk (below_step HB1.out hb2)
    clear hb2
    go_wp2_with fail
    go_ret3
    exact ⟨rfl, HB2.out⟩
  | true =>
    have hz := zero_iff hb
    by_cases h0 : valS a1 = 0
    · have e : divS a0 a1 = (noS, noS, 14) := by unfold divS; rw [ha, hb, if_pos (c := valS a1 = 0) h0]; rfl
      rw [e] at h
      simp only [Prod.mk.injEq] at h
      obtain ⟨rfl, rfl, rfl⟩ := h
      rw [h0] at hz
      have hz' : (a1.toList == [48]) = true := hz.trans rfl
      have HA := Lib.hid ha
      have HV := Lib.hid hb
      clear ha hb e hz h0
      go_enter Tryz.func49, Tryz.ntmps49
      go_wp2_with fail
      refine (valid_any a0 _ HL.out).mono ?_
      rintro e w1 ⟨rfl, hb1⟩
      rw [HA.out]
      have HB1 := Aside0.mk hb1
      clear hb1
      go_wp2_with fail
      refine (valid_any a1 _ (HL.out.below HB1.out)).mono ?_
      rintro e w2 ⟨rfl, hb2⟩
      rw [HV.out]
      have HB2 := Aside0.mk (below_step HB1.out hb2)
      clear hb2
      go_wp2_with fail
      go_ret3
      exact ⟨rfl, HB2.out⟩
    · have e : divS a0 a1 = (decS (valS a0 / valS a1), decS (valS a0 % valS a1), 0) := by unfold divS; rw [ha, hb, if_neg (c := valS a1 = 0) h0]; rfl
      rw [e] at h
      simp only [Prod.mk.injEq] at h
      obtain ⟨rfl, rfl, rfl⟩ := h
      have hz' : (a1.toList == [48]) = false := by rw [hz]; exact decide_eq_false h0
      have hq := limS_of_le (dec_le_valS ha (m := valS a0 / valS a1) (Nat.div_le_self _ _))
      have hm := limS_of_le (dec_le_valS ha (m := valS a0 % valS a1) (Nat.mod_le _ _))
      have lq := Nat.le_trans (limbs_mono (Nat.div_le_self (valS a0) (valS a1))) (limbs_len_valS ha)
      have lm := Nat.le_trans (limbs_mono (Nat.mod_le (valS a0) (valS a1))) (limbs_len_valS ha)
      have HOP := Lib.hid (op_div (valS a0) (valS a1) (Nat.pos_of_ne_zero h0) (Nat.le_trans (limbs_len_valS ha) (by decide)) (Nat.le_trans (limbs_len_valS hb) (by decide)))
      have RA := Lib.hid (fun W => read_calls a0 ha W)
      have RB := Lib.hid (fun W => read_calls a1 hb W)
      have TQ := Lib.hid (fun v W hL hv => text_any (valS a0 / valS a1) (by omega) v W hL hv)
      have TM := Lib.hid (fun v W hL hv => text_any (valS a0 % valS a1) (by omega) v W hL hv)
      rw [hq] at TQ
      rw [hm] at TM
      have HA := Lib.hid ha
      have HV := Lib.hid hb
      clear ha hb e hz h0 hq hm lq lm
      generalize valS a0 / valS a1 = q at *
      generalize valS a0 % valS a1 = r at *
      generalize hsq : decS q = sq at *
      generalize hsr : decS r = sr at *
      clear hsq hsr
      go_enter Tryz.func49, Tryz.ntmps49
      go_wp2_with fail
      refine (valid_any a0 _ HL.out).mono ?_
      rintro e w1 ⟨rfl, hb1⟩
      rw [HA.out]
      have HB1 := Aside0.mk hb1
      clear hb1
      go_wp2_with fail
      refine (valid_any a1 _ (HL.out.below HB1.out)).mono ?_
      rintro e w2 ⟨rfl, hb2⟩
      rw [HV.out]
      have HB2 := Aside0.mk (below_step HB1.out hb2)
      clear hb2
      go_wp2_with fail
      refine (RA.out _).mono ?_
      rintro e w3 ⟨v3, rfl, hr3, hb3⟩
      have HR3 := Aside0.mk (Kd.R_lower hr3 HB2.out.size)
      have HB3 := Aside0.mk (below_step HB2.out hb3)
      clear hb3 hr3
      go_wp2_with fail
      refine (RB.out _).mono ?_
      rintro e w4 ⟨v4, rfl, hr4, hb4⟩
      have HR4 := Aside0.mk (Kd.R_lower hr4 HB3.out.size)
      have HR3' := Aside0.mk (Kd.R_below HR3.out hb4)
      have HB4 := Aside0.mk (below_step HB3.out hb4)
      clear hb4 hr4
      go_wp2_with fail
      refine (HOP.out _ _ _ _ HR3'.out HR4.out).mono ?_
      rintro e w5 ⟨u1, u2, rfl, hn1, hn2, hb5⟩
      have HB5 := Aside0.mk (below_step HB4.out hb5)
      have HN1 := Aside0.mk hn1
      have HN2 := Aside0.mk hn2
      clear hb5 hn1 hn2
      go_wp2_with fail
      refine (TQ.out _ _ (HL.out.below HB5.out) HN1.out).mono ?_
      rintro e w6 ⟨rfl, hb6⟩
      have HB6 := Aside0.mk (below_step HB5.out hb6)
      have HN2' := Aside0.mk (HN2.out.below hb6)
      clear hb6
      go_wp2_with fail
      refine (TM.out _ _ (HL.out.below HB6.out) HN2'.out).mono ?_
      rintro e w7 ⟨rfl, hb7⟩
      have HB7 := Aside0.mk (below_step HB6.out hb7)
      clear hb7
      go_wp2_with fail
      go_ret3
      exact ⟨rfl, HB7.out⟩
end Go.Proofs.YthpomhboogcigaaGreatDoor
end
section -- NatFacts
namespace Go.Proofs.YthpomhboogcigaaGreatDoor
open Go.RowKit Go.Proofs.YthpomhboogcigaaGreatDoorW.PrintWords Go.Proofs.YthpomhboogcigaaGreatDoorW.PrintMore Go.Proofs.YthpomhboogcigaaGreatDoorW.PrintLast
set_option linter.unusedVariables false
set_option linter.unusedSimpArgs false
theorem val_lt {a : ByteArray} (hv : validS a = true) {n : Nat} (h : a.size ≤ n) : valS a < tp n := by
  have := num_lt (validL_iff.1 hv).2.2.1
  rw [size_list] at this
  exact Nat.lt_of_lt_of_le this (tp_mono h)
theorem lim_ok {m n : Nat} (h : m < tp n) (h1 : 1 ≤ n) (h2 : n ≤ 1000) : limS m = (decS m, 0) ∧ validS (decS m) = true ∧ (decS m).size ≤ n := by
  have := dec_len_le h h1
  exact ⟨limS_of_le (by omega), validS_decS (by omega), by rw [size_decS]; exact this⟩
theorem tp_mul_lt {a b m n : Nat} (ha : a < tp m) (hb : b < tp n) : a * b < tp (m + n) := by
  rw [tp_add]
  by_cases h : a = 0
  · subst h; rw [Nat.zero_mul]; exact Nat.mul_pos (tp_pos m) (tp_pos n)
  · calc a * b < a * tp n := Nat.mul_lt_mul_of_pos_left hb (Nat.pos_of_ne_zero h)
      _ ≤ tp m * tp n := Nat.mul_le_mul_right _ (Nat.le_of_lt ha)
theorem gcd_ok {a b : ByteArray} (ha : validS a = true) (hb : validS b = true) : gcdS a b = limS (Nat.gcd (valS a) (valS b)) := by unfold gcdS; rw [ha, hb]; rfl
theorem div_ok {a b : ByteArray} (ha : validS a = true) (hb : validS b = true) (h : ¬ valS b = 0) : divS a b = (decS (valS a / valS b), decS (valS a % valS b), 0) := by unfold divS; rw [ha, hb, if_neg (c := valS b = 0) h]; rfl
theorem cmp_ok {a b : ByteArray} (ha : validS a = true) (hb : validS b = true) : cmpS a b = cmpI (valS a) (valS b) := by unfold cmpS; rw [ha, hb]; rfl
theorem toList_eq {a b : ByteArray} : (a.toList == b.toList) = decide (a = b) := by
  rw [Bool.eq_iff_iff, beq_iff_eq, decide_eq_true_eq, Lib.toList_data, Lib.toList_data]
  constructor
  · intro h; cases a with | mk x => cases b with | mk y => exact congrArg _ (Array.toList_inj.1 h)
  · intro h; rw [h]
end Go.Proofs.YthpomhboogcigaaGreatDoor
end

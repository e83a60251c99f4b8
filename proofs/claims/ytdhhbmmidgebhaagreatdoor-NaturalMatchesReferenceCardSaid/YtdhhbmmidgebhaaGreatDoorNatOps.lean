/- The closures of add, sub and times, and these three operations, in the printed form. -/
import Derived.Test.YtdhhbmmidgebhaaGreatDoorNatColl
import Derived.IntWalk
namespace Go.Proofs.YtdhhbmmidgebhaaGreatDoor
open Go.RowKit Go.Proofs.YtdhhbmmidgebhaaGreatDoorW.PrintWords Go.Proofs.YtdhhbmmidgebhaaGreatDoorW.PrintMore Go.Proofs.YtdhhbmmidgebhaaGreatDoorW.PrintLast
set_option linter.unusedVariables false
set_option linter.unusedSimpArgs false

theorem limb_some (l : List Int) (i : Nat) : XBase.natural_limbs_limb.f l (i : Int) = some (at0 l i) := by
  unfold XBase.natural_limbs_limb.f
  by_cases h : (i : Int) ≥ (l.length : Int)
  · rw [if_pos h]
    simp [at0, List.getElem?_eq_none (show l.length ≤ i by omega)]
  · rw [if_neg h, if_pos (by omega), if_pos (by omega)]
    simp [rd, at0]

theorem quiet0 {P : Program} {f : FuncId} {args : Array Value} {w : World} {n : Nat} {v : Value}
    (h : Calls P f args (w.drewN n) fun e w' => e = .returned v ∧ Drawn0 (w.drewN n) w') : Calls P f args (w.drewN n) fun e w'' => e = .returned v ∧ ∃ m, w'' = w.drewN m :=
  h.mono fun _ _ ⟨he, ⟨m, hm⟩⟩ => ⟨he, n + m, by rw [hm, World.drewN_drewN]⟩
theorem below_drawN (w : World) (n : Nat) : Below w.heap.size w (w.drewN n) := pw_below_drewN (Below.refl _ _) n

set_option maxHeartbeats 1000000 in
theorem add1_calls (b1 b2 : Nat) (A0 A1 : Option Addr) (l0 l1 : List Int) (c0 c1 i : Nat) (w : World)
    (h1 : w.cell? ⟨b1, 0, none⟩ = some (.slice A0 l0.length c0)) (h2 : w.cell? ⟨b2, 0, none⟩ = some (.slice A1 l1.length c1))
    (hr0 : Kd.C (Kd.int .i64) w A0 l0.length l0) (hc0 : l0.length ≤ c0) (hr1 : Kd.C (Kd.int .i64) w A1 l1.length l1) (hc1 : l1.length ≤ c1)
    (g0 : Good l0) (g1 : Good l1) :
    Calls Tryz.prog 46 #[.int .i64 (i : Int), .pointer (some ⟨b1, 0, none⟩), .pointer (some ⟨b2, 0, none⟩)] w fun e w' => e = .returned (.int .i64 (at0 l0 i + at0 l1 i)) ∧ Drawn0 w w' := by
  have C0 := fun W hW => XBase.natural_limbs_limb.calls A0 c0 l0 (i : Int) (at0 l0 i) W (Kd.C_below hr0 hW) hc0 (limb_some l0 i)
  have C1 := fun W hW => XBase.natural_limbs_limb.calls A1 c1 l1 (i : Int) (at0 l1 i) W (Kd.C_below hr1 hW) hc1 (limb_some l1 i)
  have e0 := at0_good g0 i
  have e1 := at0_good g1 i
  have K0 := Lib.hid C0
  have K1 := Lib.hid C1
  clear C0 C1 hr0 hr1 hc0 hc1 g0 g1
  generalize at0 l0 i = x0 at *
  generalize at0 l1 i = x1 at *
  go_enter Tryz.func46, Tryz.ntmps46
  go_wp2
  go_quiet ((first | (go_at_call 47; with_reducible exact quiet0 (K0.out _ (below_drawN _ _))) | (go_at_call 47; with_reducible exact quiet0 (K1.out _ (below_drawN _ _)))))
  go_wp2
  go_ret
  exact ⟨rfl, ⟨⟨_, rfl⟩⟩⟩

set_option maxHeartbeats 1000000 in
theorem sub1_calls (b1 b2 : Nat) (A0 A1 : Option Addr) (l0 l1 : List Int) (c0 c1 i : Nat) (w : World)
    (h1 : w.cell? ⟨b1, 0, none⟩ = some (.slice A0 l0.length c0)) (h2 : w.cell? ⟨b2, 0, none⟩ = some (.slice A1 l1.length c1))
    (hr0 : Kd.C (Kd.int .i64) w A0 l0.length l0) (hc0 : l0.length ≤ c0) (hr1 : Kd.C (Kd.int .i64) w A1 l1.length l1) (hc1 : l1.length ≤ c1)
    (g0 : Good l0) (g1 : Good l1) (hi : i < l0.length) :
    Calls Tryz.prog 49 #[.int .i64 (i : Int), .pointer (some ⟨b1, 0, none⟩), .pointer (some ⟨b2, 0, none⟩)] w fun e w' => e = .returned (.int .i64 (at0 l0 i - at0 l1 i)) ∧ Drawn0 w w' := by
  have C1 := fun W hW => XBase.natural_limbs_limb.calls A1 c1 l1 (i : Int) (at0 l1 i) W (Kd.C_below hr1 hW) hc1 (limb_some l1 i)
  have e0 := at0_good g0 i
  have e1 := at0_good g1 i
  obtain ⟨ad, ea, hx⟩ := Kd.at_int hr0 (i : Int) (by omega) (by omega)
  subst ea
  simp only [Int.toNat_natCast] at hx
  have ex : rd l0 (i : Int) = at0 l0 i := by simp [rd, at0]
  rw [ex] at hx
  have hi1 : (i : Int) < (l0.length : Int) := by omega
  have K1 := Lib.hid C1
  clear C1 hr0 hr1 hc0 hc1 g0 g1 ex
  generalize at0 l0 i = x0 at *
  generalize at0 l1 i = x1 at *
  go_enter Tryz.func49, Tryz.ntmps49
  go_wp2
  go_quiet ((go_at_call 47; with_reducible exact quiet0 (K1.out _ (below_drawN _ _))))
  go_wp2
  go_ret
  exact ⟨rfl, ⟨⟨_, rfl⟩⟩⟩

set_option maxHeartbeats 1000000 in
theorem times1_calls (b1 b2 : Nat) (q : Int) (A1 : Option Addr) (l1 : List Int) (c1 i : Nat) (w : World)
    (h1 : w.cell? ⟨b1, 0, none⟩ = some (.int .i64 q)) (h2 : w.cell? ⟨b2, 0, none⟩ = some (.slice A1 l1.length c1))
    (hr1 : Kd.C (Kd.int .i64) w A1 l1.length l1) (hc1 : l1.length ≤ c1)
    (q0 : 0 ≤ q) (q1 : q < 1000000000) (g1 : Good l1) :
    Calls Tryz.prog 68 #[.int .i64 (i : Int), .pointer (some ⟨b1, 0, none⟩), .pointer (some ⟨b2, 0, none⟩)] w fun e w' => e = .returned (.int .i64 (q * at0 l1 i)) ∧ Drawn0 w w' := by
  have C1 := fun W hW => XBase.natural_limbs_limb.calls A1 c1 l1 (i : Int) (at0 l1 i) W (Kd.C_below hr1 hW) hc1 (limb_some l1 i)
  have e1 := at0_good g1 i
  have K1 := Lib.hid C1
  clear C1 hr1 hc1 g1
  generalize at0 l1 i = x1 at *
  have m0 : 0 ≤ q * x1 := Int.mul_nonneg q0 e1.1
  have m1 : q * x1 ≤ 1000000000000000000 := by
    have a : q * x1 ≤ q * 1000000000 := Int.mul_le_mul_of_nonneg_left (by omega) q0
    omega
  have hw : wrap64 (q * x1) = q * x1 := by unfold wrap64; omega
  have HW := Lib.hid hw
  clear hw
  go_enter Tryz.func68, Tryz.ntmps68
  go_wp2
  go_quiet ((go_at_call 47; with_reducible exact quiet0 (K1.out _ (below_drawN _ _))))
  go_wp2
  go_ret
  exact ⟨by first | rfl | rw [HW.out], ⟨⟨_, rfl⟩⟩⟩

/-! ### add, sub, times: the given callees' contracts -/
theorem heap_two {w : World} {u v : Value} {t t' : TypeId} : (((w.alloc (.cells #[u] t)).alloc (.cells #[v] t')).cell? ⟨w.heap.size, 0, none⟩ = some u) ∧ (((w.alloc (.cells #[u] t)).alloc (.cells #[v] t')).cell? ⟨w.heap.size + 1, 0, none⟩ = some v) :=
  ⟨cell_of_one (heap_new0 w _ _), cell_of_one (heap_new1 w _ _)⟩
theorem below_two (w : World) (o o' : Obj) : Below w.heap.size w ((w.alloc o).alloc o') := below_alloc (below_alloc (Below.refl _ _) _) _
theorem trimZ_coll {f : Nat → Int} {n : Nat} {T : Int} (hT : lv ((List.range n).map f) = T) (h0 : 0 ≤ T) (h1 : T < bp n) : trimZ ((List.range n).map (dg f)) = limbs T.toNat := by
  subst hT; exact coll_limbs f n h0 h1

set_option maxHeartbeats 2000000 in
theorem natural_limbs_add.calls (A0 : Option Addr) (c0 : Nat) (l0 : List Int) (A1 : Option Addr) (c1 : Nat) (l1 : List Int) (r : List Int) (w : World) (hr0 : Kd.C (Kd.int .i64) w A0 l0.length l0) (hc0 : l0.length ≤ c0) (hr1 : Kd.C (Kd.int .i64) w A1 l1.length l1) (hc1 : l1.length ≤ c1) (h : natural_limbs_add.f l0 l1 = some r) :
    Calls Tryz.prog 27 #[.slice A0 l0.length c0, .slice A1 l1.length c1] w fun e w' => ∃ v0_ : Value, e = .returned (v0_) ∧ Kd.R (Kd.int .i64) 3 w' w.heap.size (fun k_ => True) v0_ r ∧ Below w.heap.size w w' := by
  unfold natural_limbs_add.f at h
  split at h
  case isFalse => cases h
  rename_i hg
  simp only [Bool.and_eq_true, okB_iff] at hg
  obtain ⟨⟨g0, m0⟩, g1, m1⟩ := hg
  injection h with h
  have key : ∀ n, l0.length ≤ n → l1.length ≤ n → trimZ ((List.range (n + 1)).map (dg fun i => at0 l0 i + at0 l1 i)) = r := by
    intro n h0 h1
    rw [← h]
    refine trimZ_coll ?_ ?_ ?_
    · rw [lv_map_add, lv_at0 l0 _ (by omega), lv_at0 l1 _ (by omega)]
    · have := lv_nonneg g0; have := lv_nonneg g1; omega
    · have a := lv_lt g0; have b := lv_lt g1
      have a' := bp_mono h0; have b' := bp_mono h1
      have := bp_pos n
      show _ < 1000000000 * bp n
      omega
  have C := fun n (hn : n ≤ 2000000) => collect_add n (fun i => at0 l0 i + at0 l1 i) ⟨w.heap.size, 0, none⟩ ⟨w.heap.size + 1, 0, none⟩ ((w.alloc (.cells #[.slice A0 l0.length c0] 43)).alloc (.cells #[.slice A1 l1.length c1] 43)) hn
    (fun i => by have := at0_good g0 i; have := at0_good g1 i; omega)
    (fun W i hi hb => (add1_calls _ _ A0 A1 l0 l1 c0 c1 i W (pw_cell_below hb heap_two.1) (pw_cell_below hb heap_two.2) (Kd.C_below (Kd.C_below hr0 (below_two _ _ _)) hb) hc0 (Kd.C_below (Kd.C_below hr1 (below_two _ _ _)) hb) hc1 g0 g1))
  have KC := Lib.hid C
  have KK := Lib.hid key
  clear C key hr0 hr1 hc0 hc1 g0 g1 h
  generalize hn0 : l0.length = n0 at *
  generalize hn1 : l1.length = n1 at *
  clear hn0 hn1
  by_cases hlt : (n0 : Int) < (n1 : Int)
  · have hb9 : (n1 : Int) ≤ 1000000 := by omega
    have C1 := KC.out (n1 + 1) (by omega)
    rw [show ((n1 + 1 : Nat) : Int) = (n1 : Int) + 1 from by omega] at C1
    have K1 := Lib.hid C1
    clear C1 KC
    go_enter Tryz.func27, Tryz.ntmps27
    go_wp2_with (go_at_call 45; (with_reducible refine K1.out.mono ?_); rintro e w2 ⟨v2, rfl, hr2, hb2⟩; have HR2 := Aside0.mk hr2; have HB2 := Aside0.mk hb2; clear hr2 hb2)
    go_ret
    have hb := below_then (below_two w _ _) (below_two w _ _).size HB2.out
    have hr := Kd.R_lower HR2.out (below_two w _ _).size
    rw [KK.out n1 (by omega) (Nat.le_refl _)] at hr
    exact ⟨v2, rfl, hr, hb⟩
  · have hb9 : (n0 : Int) ≤ 1000000 := by omega
    have C1 := KC.out (n0 + 1) (by omega)
    rw [show ((n0 + 1 : Nat) : Int) = (n0 : Int) + 1 from by omega] at C1
    have K1 := Lib.hid C1
    clear C1 KC
    go_enter Tryz.func27, Tryz.ntmps27
    go_wp2_with (go_at_call 45; (with_reducible refine K1.out.mono ?_); rintro e w2 ⟨v2, rfl, hr2, hb2⟩; have HR2 := Aside0.mk hr2; have HB2 := Aside0.mk hb2; clear hr2 hb2)
    go_ret
    have hb := below_then (below_two w _ _) (below_two w _ _).size HB2.out
    have hr := Kd.R_lower HR2.out (below_two w _ _).size
    rw [KK.out n0 (Nat.le_refl _) (by omega)] at hr
    exact ⟨v2, rfl, hr, hb⟩
set_option maxHeartbeats 2000000 in
theorem natural_limbs_sub.calls (A0 : Option Addr) (c0 : Nat) (l0 : List Int) (A1 : Option Addr) (c1 : Nat) (l1 : List Int) (r : List Int) (w : World) (hr0 : Kd.C (Kd.int .i64) w A0 l0.length l0) (hc0 : l0.length ≤ c0) (hr1 : Kd.C (Kd.int .i64) w A1 l1.length l1) (hc1 : l1.length ≤ c1) (h : natural_limbs_sub.f l0 l1 = some r) :
    Calls Tryz.prog 30 #[.slice A0 l0.length c0, .slice A1 l1.length c1] w fun e w' => ∃ v0_ : Value, e = .returned (v0_) ∧ Kd.R (Kd.int .i64) 3 w' w.heap.size (fun k_ => True) v0_ r ∧ Below w.heap.size w w' := by
  unfold natural_limbs_sub.f at h
  split at h
  case isFalse => cases h
  rename_i hg
  simp only [Bool.and_eq_true, okB_iff, decide_eq_true_eq] at hg
  obtain ⟨⟨⟨g0, m0⟩, g1, m1⟩, hle⟩ := hg
  injection h with h
  have key : trimZ ((List.range l0.length).map (dg fun i => at0 l0 i - at0 l1 i)) = r := by
    rw [← h]
    have a := lv_lt g0
    refine trimZ_coll ?_ ?_ ?_
    · rw [lv_map_sub, lv_at0 l0 _ (Nat.le_refl _), lv_at0_short g1 _ (by omega)]
    · omega
    · have := lv_nonneg g1; omega
  have C := collect_sub l0.length (fun i => at0 l0 i - at0 l1 i) ⟨w.heap.size, 0, none⟩ ⟨w.heap.size + 1, 0, none⟩ ((w.alloc (.cells #[.slice A0 l0.length c0] 43)).alloc (.cells #[.slice A1 l1.length c1] 43)) (by omega)
    (fun i => by have := at0_good g0 i; have := at0_good g1 i; omega)
    (fun W i hi hb => (sub1_calls _ _ A0 A1 l0 l1 c0 c1 i W (pw_cell_below hb heap_two.1) (pw_cell_below hb heap_two.2) (Kd.C_below (Kd.C_below hr0 (below_two _ _ _)) hb) hc0 (Kd.C_below (Kd.C_below hr1 (below_two _ _ _)) hb) hc1 g0 g1 hi))
  have K1 := Lib.hid C
  have KK := Lib.hid key
  clear C key hr0 hr1 hc0 hc1 g0 g1 h hle
  generalize hn0 : l0.length = n0 at *
  generalize hn1 : l1.length = n1 at *
  clear hn0 hn1
  go_enter Tryz.func30, Tryz.ntmps30
  go_wp2_with (go_at_call 45; (with_reducible refine K1.out.mono ?_); rintro e w2 ⟨v2, rfl, hr2, hb2⟩; have HR2 := Aside0.mk hr2; have HB2 := Aside0.mk hb2; clear hr2 hb2)
  go_ret
  have hb := below_then (below_two w _ _) (below_two w _ _).size HB2.out
  have hr := Kd.R_lower HR2.out (below_two w _ _).size
  rw [KK.out] at hr
  exact ⟨v2, rfl, hr, hb⟩
set_option maxHeartbeats 2000000 in
theorem natural_limbs_times.calls (A0 : Option Addr) (c0 : Nat) (l0 : List Int) (a1 : Int) (r : List Int) (w : World) (hr0 : Kd.C (Kd.int .i64) w A0 l0.length l0) (hc0 : l0.length ≤ c0) (h : natural_limbs_times.f l0 a1 = some r) :
    Calls Tryz.prog 50 #[.slice A0 l0.length c0, .int .i64 a1] w fun e w' => ∃ v0_ : Value, e = .returned (v0_) ∧ Kd.R (Kd.int .i64) 3 w' w.heap.size (fun k_ => True) v0_ r ∧ Below w.heap.size w w' := by
  unfold natural_limbs_times.f at h
  split at h
  case isFalse => cases h
  rename_i hg
  simp only [Bool.and_eq_true, okB_iff, decide_eq_true_eq] at hg
  obtain ⟨⟨g0, m0⟩, q0, q1⟩ := hg
  injection h with h
  have key : trimZ ((List.range (l0.length + 1)).map (dg fun i => a1 * at0 l0 i)) = r := by
    rw [← h]
    have a := lv_lt g0
    have a0 := lv_nonneg g0
    refine trimZ_coll ?_ ?_ ?_
    · rw [lv_map_mul, lv_at0 l0 _ (by omega)]
    · exact Int.mul_nonneg q0 a0
    · have : a1 * lv l0 ≤ 1000000000 * lv l0 := Int.mul_le_mul_of_nonneg_right (by omega) a0
      show _ < 1000000000 * bp l0.length
      omega
  have C := collect_times (l0.length + 1) (fun i => a1 * at0 l0 i) ⟨w.heap.size + 1, 0, none⟩ ⟨w.heap.size, 0, none⟩ ((w.alloc (.cells #[.slice A0 l0.length c0] 43)).alloc (.cells #[.int .i64 a1] 3)) (by omega)
    (fun i => by
      have e1 := at0_good g0 i
      have m0 : 0 ≤ a1 * at0 l0 i := Int.mul_nonneg q0 e1.1
      have : a1 * at0 l0 i ≤ a1 * 1000000000 := Int.mul_le_mul_of_nonneg_left (by omega) q0
      omega)
    (fun W i hi hb => (times1_calls _ _ a1 A0 l0 c0 i W (pw_cell_below hb heap_two.2) (pw_cell_below hb heap_two.1) (Kd.C_below (Kd.C_below hr0 (below_two _ _ _)) hb) hc0 q0 q1 g0))
  rw [show ((l0.length + 1 : Nat) : Int) = (l0.length : Int) + 1 from by omega] at C
  have K1 := Lib.hid C
  have KK := Lib.hid key
  clear C key hr0 hc0 g0 h
  generalize hn0 : l0.length = n0 at *
  clear hn0
  have hb9 : (n0 : Int) ≤ 1000000 := by omega
  go_enter Tryz.func50, Tryz.ntmps50
  go_wp2_with (go_at_call 45; (with_reducible refine K1.out.mono ?_); rintro e w2 ⟨v2, rfl, hr2, hb2⟩; have HR2 := Aside0.mk hr2; have HB2 := Aside0.mk hb2; clear hr2 hb2)
  go_ret
  have hb := below_then (below_two w _ _) (below_two w _ _).size HB2.out
  have hr := Kd.R_lower HR2.out (below_two w _ _).size
  rw [KK.out] at hr
  exact ⟨v2, rfl, hr, hb⟩
#print axioms natural_limbs_times.calls
end Go.Proofs.YtdhhbmmidgebhaaGreatDoor

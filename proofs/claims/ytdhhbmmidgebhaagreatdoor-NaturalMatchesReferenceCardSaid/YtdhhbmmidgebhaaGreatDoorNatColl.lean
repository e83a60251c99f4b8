/- collect over each of its three closures; the operations add, sub and times of limbs, in the printed form. -/
import Derived.Test.YtdhhbmmidgebhaaGreatDoorNatPut
import Derived.Test.YtdhhbmmidgebhaaGreatDoorNatPlain
import Derived.Laws.Rows
import Derived.Test.YtdhhbmmidgebhaaGreatDoorXBase1
namespace Go.Proofs.YtdhhbmmidgebhaaGreatDoor
open Go.RowKit Go.Proofs.YtdhhbmmidgebhaaGreatDoorW.PrintWords Go.Proofs.YtdhhbmmidgebhaaGreatDoorW.PrintMore Go.Proofs.YtdhhbmmidgebhaaGreatDoorW.PrintLast
set_option linter.unusedVariables false
set_option linter.unusedSimpArgs false

/-! ### trimmed -/
theorem trimmed_loop (l : List Int) : ∀ (n k : Nat), n ≤ l.length → l.length ≤ 9000000000000000000 → n < k → XBase.natural_limbs_trimmed.l0 k l (n : Int) = some (trimZ (l.take n))
  | 0, k, h0, hm, hk => by
    obtain ⟨k, rfl⟩ : ∃ m, k = m + 1 := ⟨k - 1, by omega⟩
    simp only [XBase.natural_limbs_trimmed.l0]
    rw [if_neg (by omega), if_pos (by omega), if_pos (by omega)]
    simp [trimZ]
  | n + 1, k, h0, hm, hk => by
    obtain ⟨k, rfl⟩ : ∃ m, k = m + 1 := ⟨k - 1, by omega⟩
    have hw : wrap64 (((n + 1 : Nat) : Int) - 1) = (n : Int) := by unfold wrap64; omega
    have hs : l.take (n + 1) = l.take n ++ [l[n]'(by omega)] := by rw [List.take_succ_eq_append_getElem (by omega)]
    have hr : rd l (n : Int) = l[n]'(by omega) := by simp [rd, List.getElem?_eq_getElem (show n < l.length by omega)]
    simp only [XBase.natural_limbs_trimmed.l0]
    rw [if_pos (by omega), hw, if_pos (by omega), if_pos (by omega), hr]
    by_cases e : l[n]'(by omega) = 0
    · rw [if_pos e, trimmed_loop l n k (by omega) hm (by omega), hs, e, trimZ_snoc_zero]
    · rw [if_neg e, if_pos (by omega), if_pos (by omega), hs, trimZ_snoc _ e, ← hs]
      simp
theorem trimmed_some (l : List Int) (h : l.length ≤ 9000000000000000000) : XBase.natural_limbs_trimmed.f (l.length + 1) l = some (trimZ l) := by
  unfold XBase.natural_limbs_trimmed.f
  rw [trimmed_loop l l.length (l.length + 1) (Nat.le_refl _) h (by omega), List.take_length]

theorem heap_new1 (w : World) (o o2 : Obj) : ((w.alloc o).alloc o2).heap[w.heap.size + 1]? = some o2 := by
  have := heap_alloc_new (w.alloc o) o2
  rwa [show (w.alloc o).heap.size = w.heap.size + 1 by simp] at this
theorem heap_new0 (w : World) (o o2 : Obj) : ((w.alloc o).alloc o2).heap[w.heap.size]? = some o :=
  (Below.heap_alloc (w.alloc o) o2 _ (by simp)).trans (heap_alloc_new w o)
theorem info_int : (Tryz.prog.info? 3).map (fun i => (i.zero, i.size, i.bytes)) = some (some (.int .i64 0), 1, 8) := by kernel_rfl

set_option maxHeartbeats 2000000 in
set_option maxRecDepth 100000 in
theorem collect_add (n : Nat) (f : Nat → Int) (a1 a2 : Addr) (w : World) (hn : n ≤ 2000000)
    (hf : ∀ i, -1000000000000000000 ≤ f i ∧ f i ≤ 1000000000000000000)
    (hof : ∀ (W : World) (i : Nat), i < n → Below w.heap.size w W → Calls Tryz.prog 46 #[.int .i64 (i : Int), .pointer (some a1), .pointer (some a2)] W fun e W' => e = .returned (.int .i64 (f i)) ∧ Drawn0 W W') :
    Calls Tryz.prog 45 #[.int .i64 (n : Int), .func (.func 46) #[] #[.pointer (some a1), .pointer (some a2)]] w fun e w' =>
      ∃ v, e = .returned v ∧ Kd.R (Kd.int .i64) 3 w' w.heap.size (fun _ => True) v (trimZ ((List.range n).map (dg f))) ∧ Below w.heap.size w w' := by
  have HF := Lib.hid hf
  have HOF := Lib.hid hof
  have hcar := Lib.hid (car_bd hf)
  clear hf hof
  have hn0 : (0 : Int) ≤ (n : Int) := by omega
  have hn1 : (n : Int) ≤ 2000000 := by omega
  go_enter Tryz.func45, Tryz.ntmps45
  go_wp2_with ((with_reducible refine gate_dst (N := 10) rfl ?_); refine Kd.R_make (Kd.int .i64) w.heap.size 3 rfl (N := 10) rfl 43 _ _ rfl (n : Int) rfl rfl Tryz.underlying43 (.int .i64 0) 8 info_int rfl (by decide) (by decide) 0 (ok := fun _ => True) (okp := fun _ => True) rfl (fun _ hk => hk) trivial (by omega) (by omega) (Below.refl _ _) (Nat.le_refl _) ?_; intro v1 w1 ho1 hb1 hg1 hnew1; obtain ⟨A1, c1, e1⟩ := Kd.R_slice ho1; rw [List.length_replicate, Int.toNat_natCast] at e1; subst e1; have HO1 := Aside0.mk ho1; have HB1 := Aside0.mk hb1; have HG1 := Aside0.mk hg1.size; clear ho1 hb1 hg1 hnew1)
  have HI := Lib.hid (show PutInv (w1.heap.size + 1) w1.heap.size w.heap.size w (.slice A1 n c1) (car f 0) (rowAt f n 0) ((w1.alloc (.cells #[.slice A1 n c1] 43)).alloc (.cells #[.int .i64 0] 3)) by
    have hs := HG1.out
    have r0 := HO1.out
    rw [Int.toNat_natCast, ← rowAt_zero f n] at r0
    refine ⟨heap_new1 _ _ _, heap_new0 _ _ _, ?_, ?_, by omega, by omega⟩
    · exact Kd.R_alloc (Kd.R_alloc (Kd.R_mono (Kd.R_bound r0) (fun k hk => by have := hk.2.2.1; omega)) _) _
    · exact (HB1.out.alloc hs _).alloc (by simp; omega) _)
  have HS := Lib.hid (show w.heap.size ≤ ((w1.alloc (.cells #[.slice A1 n c1] 43)).alloc (.cells #[.int .i64 0] 3)).heap.size by have := HG1.out; simp; omega)
  have HNE : 0 ≤ n := by omega
  go_loopw [13] (fun c W => ∃ k : Nat, k ≤ n ∧ c = .int .i64 k ∧ Aside0 (PutInv (w1.heap.size + 1) w1.heap.size w.heap.size w (.slice A1 n c1) (car f k) (rowAt f n k) W ∧ w.heap.size ≤ W.heap.size)) (fun c _ => n - (intOf c).toNat)
  case atStart => exact ⟨0, Nat.zero_le _, rfl, ⟨HI.out, HS.out⟩⟩
  case round =>
    obtain ⟨k, hk, rfl, HP⟩ := hrel
    by_cases hlt : k < n
    · have hkn : (k : Int) < (n : Int) := by omega
      have hkl : k < (rowAt f n k).length := by rw [rowAt_length]; exact hlt
      have HL := Lib.hid hkl
      have b1 := HF.out k
      have b2 := hcar.out k
      have B1 := Lib.hid b1
      have B2 := Lib.hid b2
      clear hkl b1 b2
      go_wp2_with (first
        | (go_at_call 46; (with_reducible refine (HOF.out _ k hlt HP.out.1.below).mono ?_); rintro e w' ⟨rfl, ⟨nd, rfl⟩⟩)
        | (go_at_call 67; (with_reducible refine (put_calls (w1.heap.size + 1) w1.heap.size w.heap.size k (f k) (car f k) (rowAt f n k) _ w _ HL.out (Int.le_trans (by decide) B1.out.1) (Int.le_trans B1.out.2 (by decide)) (Int.le_trans (by decide) B2.out.1) (Int.le_trans B2.out.2 (by decide)) (HP.out.1.drewN nd)).mono ?_); rintro e w2 ⟨rfl, hp2⟩; have HP2 := Aside0.mk hp2; clear hp2))
      go_roundw
      case rel =>
        refine ⟨k + 1, by omega, by go_num, ⟨?_, ?_⟩⟩
        · have := HP2.out
          rwa [show (f k + car f k) % 1000000000 = dg f k from rfl, rowAt_succ] at this
        · exact HP2.out.below.size
      case measure => simp [intOf]; omega
    · have hkn : ¬ (k : Int) < (n : Int) := by omega
      obtain rfl : k = n := by omega
      have ho := cell_of_one HP.out.1.out
      have hrow := HP.out.1.row
      rw [rowAt_all] at hrow
      have HR := Aside0.mk hrow
      clear hrow
      go_wp2_with (go_at_call 51; (with_reducible refine (XBase.natural_limbs_trimmed.calls _ _ _ _ _ w _ HP.out.1.below HR.out (trimmed_some _ (by simp; omega))).mono ?_); rintro e w2 ⟨v2, rfl, hr2, hb2, hk2⟩; have HR2 := Aside0.mk hr2; have HB2 := Aside0.mk hb2; clear hr2 hb2 hk2)
      go_ret
      exact ⟨v2, rfl, Kd.R_mono HR2.out (fun _ _ => trivial), HB2.out⟩

set_option maxHeartbeats 2000000 in
set_option maxRecDepth 100000 in
theorem collect_sub (n : Nat) (f : Nat → Int) (a1 a2 : Addr) (w : World) (hn : n ≤ 2000000)
    (hf : ∀ i, -1000000000000000000 ≤ f i ∧ f i ≤ 1000000000000000000)
    (hof : ∀ (W : World) (i : Nat), i < n → Below w.heap.size w W → Calls Tryz.prog 49 #[.int .i64 (i : Int), .pointer (some a1), .pointer (some a2)] W fun e W' => e = .returned (.int .i64 (f i)) ∧ Drawn0 W W') :
    Calls Tryz.prog 45 #[.int .i64 (n : Int), .func (.func 49) #[] #[.pointer (some a1), .pointer (some a2)]] w fun e w' =>
      ∃ v, e = .returned v ∧ Kd.R (Kd.int .i64) 3 w' w.heap.size (fun _ => True) v (trimZ ((List.range n).map (dg f))) ∧ Below w.heap.size w w' := by
  have HF := Lib.hid hf
  have HOF := Lib.hid hof
  have hcar := Lib.hid (car_bd hf)
  clear hf hof
  have hn0 : (0 : Int) ≤ (n : Int) := by omega
  have hn1 : (n : Int) ≤ 2000000 := by omega
  go_enter Tryz.func45, Tryz.ntmps45
  go_wp2_with ((with_reducible refine gate_dst (N := 10) rfl ?_); refine Kd.R_make (Kd.int .i64) w.heap.size 3 rfl (N := 10) rfl 43 _ _ rfl (n : Int) rfl rfl Tryz.underlying43 (.int .i64 0) 8 info_int rfl (by decide) (by decide) 0 (ok := fun _ => True) (okp := fun _ => True) rfl (fun _ hk => hk) trivial (by omega) (by omega) (Below.refl _ _) (Nat.le_refl _) ?_; intro v1 w1 ho1 hb1 hg1 hnew1; obtain ⟨A1, c1, e1⟩ := Kd.R_slice ho1; rw [List.length_replicate, Int.toNat_natCast] at e1; subst e1; have HO1 := Aside0.mk ho1; have HB1 := Aside0.mk hb1; have HG1 := Aside0.mk hg1.size; clear ho1 hb1 hg1 hnew1)
  have HI := Lib.hid (show PutInv (w1.heap.size + 1) w1.heap.size w.heap.size w (.slice A1 n c1) (car f 0) (rowAt f n 0) ((w1.alloc (.cells #[.slice A1 n c1] 43)).alloc (.cells #[.int .i64 0] 3)) by
    have hs := HG1.out
    have r0 := HO1.out
    rw [Int.toNat_natCast, ← rowAt_zero f n] at r0
    refine ⟨heap_new1 _ _ _, heap_new0 _ _ _, ?_, ?_, by omega, by omega⟩
    · exact Kd.R_alloc (Kd.R_alloc (Kd.R_mono (Kd.R_bound r0) (fun k hk => by have := hk.2.2.1; omega)) _) _
    · exact (HB1.out.alloc hs _).alloc (by simp; omega) _)
  have HS := Lib.hid (show w.heap.size ≤ ((w1.alloc (.cells #[.slice A1 n c1] 43)).alloc (.cells #[.int .i64 0] 3)).heap.size by have := HG1.out; simp; omega)
  have HNE : 0 ≤ n := by omega
  go_loopw [13] (fun c W => ∃ k : Nat, k ≤ n ∧ c = .int .i64 k ∧ Aside0 (PutInv (w1.heap.size + 1) w1.heap.size w.heap.size w (.slice A1 n c1) (car f k) (rowAt f n k) W ∧ w.heap.size ≤ W.heap.size)) (fun c _ => n - (intOf c).toNat)
  case atStart => exact ⟨0, Nat.zero_le _, rfl, ⟨HI.out, HS.out⟩⟩
  case round =>
    obtain ⟨k, hk, rfl, HP⟩ := hrel
    by_cases hlt : k < n
    · have hkn : (k : Int) < (n : Int) := by omega
      have hkl : k < (rowAt f n k).length := by rw [rowAt_length]; exact hlt
      have HL := Lib.hid hkl
      have b1 := HF.out k
      have b2 := hcar.out k
      have B1 := Lib.hid b1
      have B2 := Lib.hid b2
      clear hkl b1 b2
      go_wp2_with (first
        | (go_at_call 49; (with_reducible refine (HOF.out _ k hlt HP.out.1.below).mono ?_); rintro e w' ⟨rfl, ⟨nd, rfl⟩⟩)
        | (go_at_call 67; (with_reducible refine (put_calls (w1.heap.size + 1) w1.heap.size w.heap.size k (f k) (car f k) (rowAt f n k) _ w _ HL.out (Int.le_trans (by decide) B1.out.1) (Int.le_trans B1.out.2 (by decide)) (Int.le_trans (by decide) B2.out.1) (Int.le_trans B2.out.2 (by decide)) (HP.out.1.drewN nd)).mono ?_); rintro e w2 ⟨rfl, hp2⟩; have HP2 := Aside0.mk hp2; clear hp2))
      go_roundw
      case rel =>
        refine ⟨k + 1, by omega, by go_num, ⟨?_, ?_⟩⟩
        · have := HP2.out
          rwa [show (f k + car f k) % 1000000000 = dg f k from rfl, rowAt_succ] at this
        · exact HP2.out.below.size
      case measure => simp [intOf]; omega
    · have hkn : ¬ (k : Int) < (n : Int) := by omega
      obtain rfl : k = n := by omega
      have ho := cell_of_one HP.out.1.out
      have hrow := HP.out.1.row
      rw [rowAt_all] at hrow
      have HR := Aside0.mk hrow
      clear hrow
      go_wp2_with (go_at_call 51; (with_reducible refine (XBase.natural_limbs_trimmed.calls _ _ _ _ _ w _ HP.out.1.below HR.out (trimmed_some _ (by simp; omega))).mono ?_); rintro e w2 ⟨v2, rfl, hr2, hb2, hk2⟩; have HR2 := Aside0.mk hr2; have HB2 := Aside0.mk hb2; clear hr2 hb2 hk2)
      go_ret
      exact ⟨v2, rfl, Kd.R_mono HR2.out (fun _ _ => trivial), HB2.out⟩

set_option maxHeartbeats 2000000 in
set_option maxRecDepth 100000 in
theorem collect_times (n : Nat) (f : Nat → Int) (a1 a2 : Addr) (w : World) (hn : n ≤ 2000000)
    (hf : ∀ i, -1000000000000000000 ≤ f i ∧ f i ≤ 1000000000000000000)
    (hof : ∀ (W : World) (i : Nat), i < n → Below w.heap.size w W → Calls Tryz.prog 68 #[.int .i64 (i : Int), .pointer (some a1), .pointer (some a2)] W fun e W' => e = .returned (.int .i64 (f i)) ∧ Drawn0 W W') :
    Calls Tryz.prog 45 #[.int .i64 (n : Int), .func (.func 68) #[] #[.pointer (some a1), .pointer (some a2)]] w fun e w' =>
      ∃ v, e = .returned v ∧ Kd.R (Kd.int .i64) 3 w' w.heap.size (fun _ => True) v (trimZ ((List.range n).map (dg f))) ∧ Below w.heap.size w w' := by
  have HF := Lib.hid hf
  have HOF := Lib.hid hof
  have hcar := Lib.hid (car_bd hf)
  clear hf hof
  have hn0 : (0 : Int) ≤ (n : Int) := by omega
  have hn1 : (n : Int) ≤ 2000000 := by omega
  go_enter Tryz.func45, Tryz.ntmps45
  go_wp2_with ((with_reducible refine gate_dst (N := 10) rfl ?_); refine Kd.R_make (Kd.int .i64) w.heap.size 3 rfl (N := 10) rfl 43 _ _ rfl (n : Int) rfl rfl Tryz.underlying43 (.int .i64 0) 8 info_int rfl (by decide) (by decide) 0 (ok := fun _ => True) (okp := fun _ => True) rfl (fun _ hk => hk) trivial (by omega) (by omega) (Below.refl _ _) (Nat.le_refl _) ?_; intro v1 w1 ho1 hb1 hg1 hnew1; obtain ⟨A1, c1, e1⟩ := Kd.R_slice ho1; rw [List.length_replicate, Int.toNat_natCast] at e1; subst e1; have HO1 := Aside0.mk ho1; have HB1 := Aside0.mk hb1; have HG1 := Aside0.mk hg1.size; clear ho1 hb1 hg1 hnew1)
  have HI := Lib.hid (show PutInv (w1.heap.size + 1) w1.heap.size w.heap.size w (.slice A1 n c1) (car f 0) (rowAt f n 0) ((w1.alloc (.cells #[.slice A1 n c1] 43)).alloc (.cells #[.int .i64 0] 3)) by
    have hs := HG1.out
    have r0 := HO1.out
    rw [Int.toNat_natCast, ← rowAt_zero f n] at r0
    refine ⟨heap_new1 _ _ _, heap_new0 _ _ _, ?_, ?_, by omega, by omega⟩
    · exact Kd.R_alloc (Kd.R_alloc (Kd.R_mono (Kd.R_bound r0) (fun k hk => by have := hk.2.2.1; omega)) _) _
    · exact (HB1.out.alloc hs _).alloc (by simp; omega) _)
  have HS := Lib.hid (show w.heap.size ≤ ((w1.alloc (.cells #[.slice A1 n c1] 43)).alloc (.cells #[.int .i64 0] 3)).heap.size by have := HG1.out; simp; omega)
  have HNE : 0 ≤ n := by omega
  go_loopw [13] (fun c W => ∃ k : Nat, k ≤ n ∧ c = .int .i64 k ∧ Aside0 (PutInv (w1.heap.size + 1) w1.heap.size w.heap.size w (.slice A1 n c1) (car f k) (rowAt f n k) W ∧ w.heap.size ≤ W.heap.size)) (fun c _ => n - (intOf c).toNat)
  case atStart => exact ⟨0, Nat.zero_le _, rfl, ⟨HI.out, HS.out⟩⟩
  case round =>
    obtain ⟨k, hk, rfl, HP⟩ := hrel
    by_cases hlt : k < n
    · have hkn : (k : Int) < (n : Int) := by omega
      have hkl : k < (rowAt f n k).length := by rw [rowAt_length]; exact hlt
      have HL := Lib.hid hkl
      have b1 := HF.out k
      have b2 := hcar.out k
      have B1 := Lib.hid b1
      have B2 := Lib.hid b2
      clear hkl b1 b2
      go_wp2_with (first
        | (go_at_call 68; (with_reducible refine (HOF.out _ k hlt HP.out.1.below).mono ?_); rintro e w' ⟨rfl, ⟨nd, rfl⟩⟩)
        | (go_at_call 67; (with_reducible refine (put_calls (w1.heap.size + 1) w1.heap.size w.heap.size k (f k) (car f k) (rowAt f n k) _ w _ HL.out (Int.le_trans (by decide) B1.out.1) (Int.le_trans B1.out.2 (by decide)) (Int.le_trans (by decide) B2.out.1) (Int.le_trans B2.out.2 (by decide)) (HP.out.1.drewN nd)).mono ?_); rintro e w2 ⟨rfl, hp2⟩; have HP2 := Aside0.mk hp2; clear hp2))
      go_roundw
      case rel =>
        refine ⟨k + 1, by omega, by go_num, ⟨?_, ?_⟩⟩
        · have := HP2.out
          rwa [show (f k + car f k) % 1000000000 = dg f k from rfl, rowAt_succ] at this
        · exact HP2.out.below.size
      case measure => simp [intOf]; omega
    · have hkn : ¬ (k : Int) < (n : Int) := by omega
      obtain rfl : k = n := by omega
      have ho := cell_of_one HP.out.1.out
      have hrow := HP.out.1.row
      rw [rowAt_all] at hrow
      have HR := Aside0.mk hrow
      clear hrow
      go_wp2_with (go_at_call 51; (with_reducible refine (XBase.natural_limbs_trimmed.calls _ _ _ _ _ w _ HP.out.1.below HR.out (trimmed_some _ (by simp; omega))).mono ?_); rintro e w2 ⟨v2, rfl, hr2, hb2, hk2⟩; have HR2 := Aside0.mk hr2; have HB2 := Aside0.mk hb2; clear hr2 hb2 hk2)
      go_ret
      exact ⟨v2, rfl, Kd.R_mono HR2.out (fun _ _ => trivial), HB2.out⟩

end Go.Proofs.YtdhhbmmidgebhaaGreatDoor

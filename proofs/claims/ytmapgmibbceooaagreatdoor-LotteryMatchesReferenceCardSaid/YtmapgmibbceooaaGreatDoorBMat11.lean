/- The texts of this claim, laid together by a program of this session (bundle.py). -/
import Derived.Test.YtmapgmibbceooaaGreatDoorBMat1
import Derived.Test.YtmapgmibbceooaaGreatDoorBMat10
import Derived.Test.YtmapgmibbceooaaGreatDoorProg
import Derived.WalkKit
import Derived.RegionTactic
import Derived.Deep.QuietTactic
import Derived.BigQuiet
import Derived.WalkLawsBesides
import Derived.WalkSpells
import Derived.Lib.Hide
import Derived.Lib.Walk
import Derived.Deep.LoopGhost
import Derived.Laws.OwnMore
import Derived.Deep.OwnRows
import Derived.Deep.RegionWith
section -- LotWithin
namespace Go.Proofs.YtmapgmibbceooaaGreatDoor
open Go.RowKit Go.Proofs.YtmapgmibbceooaaGreatDoorW.PrintWords Go.Proofs.YtmapgmibbceooaaGreatDoorW.PrintMore Go.Proofs.YtmapgmibbceooaaGreatDoorW.PrintLast
set_option linter.unusedVariables false
set_option linter.unusedSimpArgs false
/-- The first place from i on at which p holds; -1 where none does (n places). -/
def firstP (p : Nat → Bool) : Nat → Nat → Int
  | 0, _ => -1
  | n + 1, i => if p i then (i : Int) else firstP p n (i + 1)
theorem firstP_hit {p : Nat → Bool} : ∀ (n i k : Nat), i ≤ k → k < i + n → (∀ j, i ≤ j → j < k → p j = false) → p k = true → firstP p n i = (k : Int)
  | 0, i, k, h1, h2, _, _ => by omega
  | n + 1, i, k, h1, h2, hf, hk => by
    simp only [firstP]
    by_cases e : i = k
    · subst e; rw [if_pos hk]
    · rw [hf i (Nat.le_refl _) (by omega), if_neg (by simp)]
      exact firstP_hit n (i + 1) k (by omega) (by omega) (fun j h1 h2 => hf j (by omega) h2) hk
theorem firstP_miss {p : Nat → Bool} : ∀ (n i : Nat), (∀ j, i ≤ j → j < i + n → p j = false) → firstP p n i = -1
  | 0, i, _ => rfl
  | n + 1, i, hf => by
    simp only [firstP]
    rw [hf i (Nat.le_refl _) (by omega), if_neg (by simp)]
    exact firstP_miss n (i + 1) (fun j h1 h2 => hf j (by omega) (by omega))
theorem firstP_any {p : Int → Bool} (l : List Int) : ∀ (n i : Nat), i + n = l.length → (0 ≤ firstP (fun k => p (ix l k)) n i ↔ (l.drop i).any p = true)
  | 0, i, h => by rw [List.drop_of_length_le (by omega)]; simp [firstP]
  | n + 1, i, h => by
    have ih := firstP_any (p := p) l n (i + 1) (by omega)
    simp only [firstP]
    rw [List.drop_eq_getElem_cons (show i < l.length by omega), List.any_cons]
    have e : ix l i = l[i] := ix_lt (show i < l.length by omega)
    by_cases hp : p (ix l i) = true
    · rw [if_pos hp, ← e, hp]; simp
    · have hp' : p (ix l i) = false := by simpa using hp
      rw [if_neg hp, ← e, hp', Bool.false_or]; exact ih
set_option maxHeartbeats 1000000 in
theorem idx_calls (g : Nat) (lb : Array Value) (eg : ∀ args w, (callFunc g args).run Tryz.prog w = .ok (.enter g args) w) (A0 : Option Addr) (c0 : Nat) (l : List Int) (p : Nat → Bool) (Inv : Nat → World → Prop) (w : World)
    (hlen : l.length ≤ 9223372036854775807) (hr : ∀ k W, Inv k W → Kd.C (Kd.int .i64) W A0 l.length l) (h0 : Inv 0 w)
    (hp : ∀ (k : Nat) (W : World), k < l.length → Inv k W → Calls Tryz.prog g (#[.int .i64 (rd l (k : Int))] ++ lb) W fun e W' => e = .returned (.bool (p k)) ∧ Inv (k + 1) W') :
    Calls Tryz.prog 33 #[.slice A0 l.length c0, .func (.func g) #[] lb] w fun e w' => e = .returned (.int .i64 (firstP p l.length 0)) ∧ ∃ k, Inv k w' := by
  have HP := Lib.hid hp
  have HR := Lib.hid hr
  have H0 := Lib.hid h0
  clear hp hr h0
  go_enter Tryz.func33, Tryz.ntmps33
  go_wp2
  go_loopw [5, 8] (fun _ s8 W => ∃ k : Nat, k ≤ l.length ∧ s8 = .int .i64 k ∧ Aside0 (Inv k W ∧ ∀ j, j < k → p j = false)) (fun _ s8 _ => l.length - (intOf s8).toNat)
  case atStart => exact ⟨0, Nat.zero_le _, rfl, ⟨H0.out, fun j hj => absurd hj (Nat.not_lt_zero _)⟩⟩
  case round =>
    obtain ⟨k, hk, rfl, HI⟩ := hrel
    by_cases hlt : k < l.length
    · have hki : (k : Int) < (l.length : Int) := by omega
      obtain ⟨ad, ea, hx⟩ := Kd.at_int (HR.out k _ HI.out.1) (k : Int) (by omega) hki
      subst ea
      simp only [Int.toNat_natCast] at hx
      have hcall := Lib.hid (HP.out k _ hlt HI.out.1)
      generalize hy : rd l (k : Int) = y at hx hcall
      have HY := Lib.hid hy
      clear hy
      cases hq : p k with
      | true =>
        rw [hq] at hcall
        go_wp2_with fail
        refine (hcall.out).mono ?_
        rintro e w' ⟨rfl, hi⟩
        have HI2 := Aside0.mk hi
        clear hi
        go_wp2
        go_ret
        refine ⟨?_, _, HI2.out⟩
        rw [firstP_hit l.length 0 k (by omega) (by omega) (fun j _ h2 => HI.out.2 j h2) (by assumption)]; rfl
      | false =>
        rw [hq] at hcall
        go_wp2_with fail
        refine (hcall.out).mono ?_
        rintro e w' ⟨rfl, hi⟩
        have HI2 := Aside0.mk hi
        clear hi
        go_wp2
        go_roundw
        case rel =>
          refine ⟨k + 1, by omega, by go_num, ⟨HI2.out, fun j hj => ?_⟩⟩
          by_cases e : j = k
          · subst e; assumption
          · exact HI.out.2 j (by omega)
        case measure => simp [intOf]; omega
    · have hki : ¬ (k : Int) < (l.length : Int) := by omega
      have e : k = l.length := by omega
      have HE := Lib.hid e
      clear e
      go_wp2
      go_ret
      refine ⟨?_, _, HI.out.1⟩
      rw [firstP_miss l.length 0 (fun j _ h2 => HI.out.2 j (by rw [HE.out]; omega))]; rfl
set_option maxHeartbeats 1000000 in
theorem contains_calls (g : Nat) (lb : Array Value) (eg : ∀ args w, (callFunc g args).run Tryz.prog w = .ok (.enter g args) w) (A0 : Option Addr) (c0 : Nat) (l : List Int) (p : Int → Bool) (w : World)
    (hlen : l.length ≤ 9223372036854775807) (hr : Kd.C (Kd.int .i64) w A0 l.length l)
    (hp : ∀ (x : Int) (W : World), Below w.heap.size w W → Calls Tryz.prog g (#[.int .i64 x] ++ lb) W fun e W' => e = .returned (.bool (p x)) ∧ Below w.heap.size w W') :
    Calls Tryz.prog 46 #[.slice A0 l.length c0, .func (.func g) #[] lb] w fun e w' => e = .returned (.bool (l.any p)) ∧ Below w.heap.size w w' := by
  have hi := idx_calls g lb eg A0 c0 l (fun k => p (ix l k)) (fun _ W => Below w.heap.size w W) w hlen (fun k W h => Kd.C_below hr h) (Below.refl _ _) (fun k W hk hb => by
    have e : rd l (k : Int) = ix l k := by simp [rd, ix]
    rw [e]; exact hp _ W hb)
  have ha := firstP_any (p := p) l l.length 0 (by omega)
  rw [List.drop_zero] at ha
  have HI := Lib.hid hi
  have HA := Lib.hid ha
  clear hi ha hp
  generalize firstP (fun k => p (ix l k)) l.length 0 = v at HI HA
  go_enter Tryz.func46, Tryz.ntmps46
  go_wp2_with (go_at_call 33; refine (HI.out).mono ?_; rintro e w' ⟨rfl, hk⟩; have HB := Aside0.mk hk; clear hk)
  go_ret
  obtain ⟨_, hb⟩ := HB.out
  refine ⟨?_, hb⟩
  have e : decide (v ≥ 0) = l.any p := by
    rw [Bool.eq_iff_iff, decide_eq_true_eq]; exact HA.out
  rw [e]; rfl
theorem two_cells {w : World} {u v : Value} {t t' : TypeId} : (((w.alloc (.cells #[u] t)).alloc (.cells #[v] t')).cell? ⟨w.heap.size, 0, none⟩ = some u) ∧ (((w.alloc (.cells #[u] t)).alloc (.cells #[v] t')).cell? ⟨w.heap.size + 1, 0, none⟩ = some v) := by
  constructor
  · refine cell_of_one (t := t) ?_
    exact (Below.heap_alloc (w.alloc _) _ _ (by simp)).trans (heap_alloc_new w _)
  · refine cell_of_one (t := t') ?_
    have := heap_alloc_new (w.alloc (.cells #[u] t)) (.cells #[v] t')
    rwa [show (w.alloc (.cells #[u] t)).heap.size = w.heap.size + 1 by simp] at this
theorem two_below (w : World) (o o' : Obj) : Below w.heap.size w ((w.alloc o).alloc o') := below_alloc (below_alloc (Below.refl _ _) _) _
set_option maxHeartbeats 1000000 in
theorem within1_calls (x lo hi : Int) (b1 b2 : Nat) (w : World) (h1 : w.cell? ⟨b1, 0, none⟩ = some (.int .i64 lo)) (h2 : w.cell? ⟨b2, 0, none⟩ = some (.int .i64 hi)) :
    Calls Tryz.prog 51 #[.int .i64 x, .pointer (some ⟨b1, 0, none⟩), .pointer (some ⟨b2, 0, none⟩)] w fun e w' => e = .returned (.bool (decide (x < lo) || decide (x > hi))) ∧ Below w.heap.size w w' := by
  by_cases hx : x < lo
  · go_enter Tryz.func51, Tryz.ntmps51
    go_wp2
    go_ret
    exact ⟨by (first | (simp [hx]; done) | (simp; omega)), Below.refl _ _⟩
  · go_enter Tryz.func51, Tryz.ntmps51
    go_wp2
    go_ret
    exact ⟨by (first | (simp [hx]; done) | (simp; omega)), Below.refl _ _⟩
def lottery_within.f (lo hi : Int) (l : List Int) : Option Bool := if l.length ≤ 9223372036854775807 then some (inB lo hi l) else none
theorem within_not (lo hi : Int) (l : List Int) : inB lo hi l = !(l.any fun x => decide (x < lo) || decide (x > hi)) := by
  rw [Bool.eq_iff_iff]
  simp only [inB, List.all_eq_true, decide_eq_true_eq, Bool.not_eq_true', List.any_eq_false, Bool.or_eq_true, not_or, Int.not_lt]
set_option maxHeartbeats 1000000 in
theorem lottery_within.calls (a0 a1 : Int) (A2 : Option Addr) (c2 : Nat) (l2 : List Int) (r : Bool) (w : World) (hr2 : Kd.C (Kd.int .i64) w A2 l2.length l2) (hc2 : l2.length ≤ c2) (h : lottery_within.f a0 a1 l2 = some r) :
    Calls Tryz.prog 31 #[.int .i64 a0, .int .i64 a1, .slice A2 l2.length c2] w fun e w' => e = .returned (.bool r) ∧ Below w.heap.size w w' := by
  unfold lottery_within.f at h
  split at h
  case isFalse => cases h
  rename_i hlen
  injection h with h
  subst h
  have HB0 := Lib.hid (two_below w (.cells #[.int .i64 a0] 3) (.cells #[.int .i64 a1] 3))
  have hcon := Lib.hid (contains_calls 51 #[.pointer (some ⟨w.heap.size, 0, none⟩), .pointer (some ⟨w.heap.size + 1, 0, none⟩)] (fun args w => enters_ Tryz.func51 (by kernel_rfl) rfl args w) A2 c2 l2 (fun x => decide (x < a0) || decide (x > a1))
    ((w.alloc (.cells #[.int .i64 a0] 3)).alloc (.cells #[.int .i64 a1] 3)) hlen (Kd.C_alloc (Kd.C_alloc hr2 _) _) (fun x W hb => by
      have hs : ((w.alloc (.cells #[.int .i64 a0] 3)).alloc (.cells #[.int .i64 a1] 3)).heap.size = w.heap.size + 2 := by simp
      rw [hs] at hb ⊢
      have k1 : W.cell? ⟨w.heap.size, 0, none⟩ = some (.int .i64 a0) := (hb.cell (p := ⟨w.heap.size, 0, none⟩) (by show w.heap.size < w.heap.size + 2; omega)).trans (two_cells).1
      have k2 : W.cell? ⟨w.heap.size + 1, 0, none⟩ = some (.int .i64 a1) := (hb.cell (p := ⟨w.heap.size + 1, 0, none⟩) (by show w.heap.size + 1 < w.heap.size + 2; omega)).trans (two_cells).2
      refine (within1_calls x a0 a1 _ _ W k1 k2).mono ?_
      rintro e w' ⟨rfl, hb2⟩
      exact ⟨rfl, hb.trans (hb2.mono (by have := hb.size; rw [hs] at this; exact this))⟩))
  clear hr2 hlen
  go_enter Tryz.func31, Tryz.ntmps31
  go_wp2_with fail
  refine (hcon.out).mono ?_
  rintro e w' ⟨rfl, hb⟩
  have HB := Aside0.mk hb
  clear hb
  go_wp2
  go_ret
  refine ⟨?_, ?_⟩
  · rw [within_not]; rfl
  · exact below_step HB0.out HB.out
end Go.Proofs.YtmapgmibbceooaaGreatDoor
end
section -- LotBest
namespace Go.Proofs.YtmapgmibbceooaaGreatDoor
open Go.RowKit Go.Proofs.YtmapgmibbceooaaGreatDoorW.PrintWords Go.Proofs.YtmapgmibbceooaaGreatDoorW.PrintMore Go.Proofs.YtmapgmibbceooaaGreatDoorW.PrintLast
set_option linter.unusedVariables false
set_option linter.unusedSimpArgs false
set_option maxHeartbeats 1000000 in
theorem before_calls (a b c d : Int) (w : World) (ha : 0 ≤ a ∧ a ≤ 1000000000) (hb : 0 ≤ b ∧ b ≤ 1000) (hc : 0 ≤ c ∧ c ≤ 1000000000) (hd : 0 ≤ d ∧ d ≤ 1000) :
    Calls Tryz.prog 49 #[.agg #[.int .i64 a, .int .i64 b], .agg #[.int .i64 c, .int .i64 d]] w fun e w' => e = .returned (.bool (decide (a * (d + 1) > c * (b + 1)))) ∧ Below w.heap.size w w' := by
  have p1 : 0 ≤ a * (d + 1) ∧ a * (d + 1) ≤ 1001000000000 := by
    refine ⟨Int.mul_nonneg (by omega) (by omega), ?_⟩
    have := Int.mul_le_mul ha.2 (show d + 1 ≤ 1001 by omega) (by omega) (by omega); omega
  have p2 : 0 ≤ c * (b + 1) ∧ c * (b + 1) ≤ 1001000000000 := by
    refine ⟨Int.mul_nonneg (by omega) (by omega), ?_⟩
    have := Int.mul_le_mul hc.2 (show b + 1 ≤ 1001 by omega) (by omega) (by omega); omega
  obtain ⟨ha0, ha1⟩ := ha
  obtain ⟨hb0, hb1⟩ := hb
  obtain ⟨hc0, hc1⟩ := hc
  obtain ⟨hd0, hd1⟩ := hd
  obtain ⟨p10, p11⟩ := p1
  obtain ⟨p20, p21⟩ := p2
  go_enter Tryz.func49, Tryz.ntmps49
  go_wp2
  go_ret
  exact ⟨rfl, two_below _ _ _⟩
/-- The cells of parties. -/
def pcells : List Int → List Int → List Value
  | w :: ws, s :: ss => .int .i64 w :: .int .i64 s :: pcells ws ss
  | _, _ => []
theorem pcells_length : ∀ ws ss : List Int, ws.length = ss.length → (pcells ws ss).length = ws.length * 2
  | [], [], _ => rfl
  | [], _ :: _, h => absurd h (by simp)
  | _ :: _, [], h => absurd h (by simp)
  | w :: ws, s :: ss, h => by simp only [pcells, List.length_cons, pcells_length ws ss (by simpa using h)]; omega
theorem pcells_w : ∀ (ws ss : List Int) (i : Nat), ws.length = ss.length → i < ws.length → (pcells ws ss)[i * 2]? = some (.int .i64 (ix ws i))
  | [], _, i, _, h => absurd h (by simp)
  | _ :: _, [], _, h, _ => absurd h (by simp)
  | w :: ws, s :: ss, 0, _, _ => rfl
  | w :: ws, s :: ss, i + 1, h, hi => by
    have := pcells_w ws ss i (by simpa using h) (by simpa using hi)
    rw [show (i + 1) * 2 = i * 2 + 1 + 1 by omega, ix_cons_succ]; exact this
theorem pcells_s : ∀ (ws ss : List Int) (i : Nat), ws.length = ss.length → i < ws.length → (pcells ws ss)[i * 2 + 1]? = some (.int .i64 (ix ss i))
  | [], _, i, _, h => absurd h (by simp)
  | _ :: _, [], _, h, _ => absurd h (by simp)
  | w :: ws, s :: ss, 0, _, _ => rfl
  | w :: ws, s :: ss, i + 1, h, hi => by
    have := pcells_s ws ss i (by simpa using h) (by simpa using hi)
    rw [show (i + 1) * 2 + 1 = i * 2 + 1 + 1 + 1 by omega, ix_cons_succ]; exact this
theorem pcells_set_w : ∀ (ws ss : List Int) (i : Nat) (x : Int), ws.length = ss.length → (pcells ws ss).set (i * 2) (.int .i64 x) = pcells (ws.set i x) ss
  | [], [], i, x, _ => by simp [pcells]
  | [], _ :: _, _, _, h => absurd h (by simp)
  | _ :: _, [], _, _, h => absurd h (by simp)
  | w :: ws, s :: ss, 0, x, _ => rfl
  | w :: ws, s :: ss, i + 1, x, h => by
    have := pcells_set_w ws ss i x (by simpa using h)
    rw [show (i + 1) * 2 = i * 2 + 1 + 1 by omega]
    simp only [pcells, List.set_cons_succ, this]
theorem pcells_set_s : ∀ (ws ss : List Int) (i : Nat) (x : Int), ws.length = ss.length → (pcells ws ss).set (i * 2 + 1) (.int .i64 x) = pcells ws (ss.set i x)
  | [], [], i, x, _ => by simp [pcells]
  | [], _ :: _, _, _, h => absurd h (by simp)
  | _ :: _, [], _, _, h => absurd h (by simp)
  | w :: ws, s :: ss, 0, x, _ => rfl
  | w :: ws, s :: ss, i + 1, x, h => by
    have := pcells_set_s ws ss i x (by simpa using h)
    rw [show (i + 1) * 2 + 1 = i * 2 + 1 + 1 + 1 by omega]
    simp only [pcells, List.set_cons_succ, this]
theorem pcells_zero : ∀ n : Nat, pcells (List.replicate n 0) (List.replicate n 0) = (madeCells #[.int .i64 0, .int .i64 0] (n * 2)).toList := by
  intro n
  refine List.ext_getElem? fun j => ?_
  by_cases hj : j < n * 2
  · have hl := pcells_length (List.replicate n 0) (List.replicate n 0) rfl
    rw [List.length_replicate] at hl
    have hi : j / 2 < (List.replicate n (0 : Int)).length := by rw [List.length_replicate]; omega
    have e1 : (madeCells #[.int .i64 0, .int .i64 0] (n * 2)).toList[j]? = some (.int .i64 0) := by
      simp [madeCells, hj]
      rcases Nat.mod_two_eq_zero_or_one j with h | h <;> simp [h]
    rw [e1]
    rcases Nat.mod_two_eq_zero_or_one j with h | h
    · have := pcells_w (List.replicate n 0) (List.replicate n 0) (j / 2) rfl hi
      rw [ix_replicate, show j / 2 * 2 = j by omega] at this; exact this
    · have := pcells_s (List.replicate n 0) (List.replicate n 0) (j / 2) rfl hi
      rw [ix_replicate, show j / 2 * 2 + 1 = j by omega] at this; exact this
  · have hl := pcells_length (List.replicate n 0) (List.replicate n 0) rfl
    rw [List.length_replicate] at hl
    rw [List.getElem?_eq_none (by omega), List.getElem?_eq_none (by simp [madeCells]; omega)]
set_option maxHeartbeats 2000000 in
theorem best_calls (g cap : Nat) (ws ss : List Int) (w : World) (hl : ws.length = ss.length) (hn : 0 < ws.length) (hn1 : ws.length ≤ 200) (hw : ∀ i, 0 ≤ ix ws i ∧ ix ws i ≤ 1000000000) (hs : ∀ i, 0 ≤ ix ss i ∧ ix ss i ≤ 1000)
    (hg : g < w.heap.size) (hc : ∀ i, i < ws.length → w.cell? ⟨g, i * 2, none⟩ = some (.int .i64 (ix ws i)) ∧ w.cell? ⟨g, i * 2 + 1, none⟩ = some (.int .i64 (ix ss i))) :
    Calls Tryz.prog 48 #[.slice (some ⟨g, 0, none⟩) ws.length cap, .func (.func 49) #[] #[]] w fun e w' => e = .returned (.int .i64 (bestL ws ss ws.length : Nat)) ∧ Below w.heap.size w w' := by
  have HW := Lib.hid hw
  have HS := Lib.hid hs
  have HC := Lib.hid hc
  clear hw hs hc
  generalize hnn : ws.length = n at *
  have HLN := Lib.hid (And.intro hnn hl)
  clear hnn hl
  go_enter Tryz.func48, Tryz.ntmps48
  go_wp2
  go_loopw [5, 10] (fun s5 s10 W => ∃ k : Nat, k ≤ n ∧ s10 = .int .i64 k ∧ s5 = .int .i64 (bestL ws ss k : Nat) ∧ Aside0 (Below w.heap.size w W)) (fun _ s10 _ => n - (intOf s10).toNat)
  case atStart => exact ⟨0, Nat.zero_le _, rfl, rfl, ⟨Below.refl _ _⟩⟩
  case round =>
    obtain ⟨k, hk, rfl, rfl, HB⟩ := hrel
    by_cases hlt : k < n
    · have hki : (k : Int) < (n : Int) := by omega
      have hb : bestL ws ss k < n := by
        by_cases h0 : 0 < k
        · have := best_lt ws ss k h0; omega
        · have : k = 0 := by omega
          subst this; exact hn
      have hbk : ((bestL ws ss k : Nat) : Int) < (n : Int) := by omega
      have kc1 := (HB.out.cell (p := ⟨g, k * 2, none⟩) hg).trans (HC.out k hlt).1
      have kc2 := (HB.out.cell (p := ⟨g, k * 2 + 1, none⟩) hg).trans (HC.out k hlt).2
      have bc1 := (HB.out.cell (p := ⟨g, bestL ws ss k * 2, none⟩) hg).trans (HC.out _ hb).1
      have bc2 := (HB.out.cell (p := ⟨g, bestL ws ss k * 2 + 1, none⟩) hg).trans (HC.out _ hb).2
      have hgw : g < wr.heap.size := Nat.lt_of_lt_of_le hg HB.out.size
      have hgn : ¬ g = wr.heap.size := by omega
      have hbest : bestL ws ss (k + 1) = if ix ws k * (ix ss (bestL ws ss k) + 1) > ix ws (bestL ws ss k) * (ix ss k + 1) then k else bestL ws ss k := rfl
      have hcall := Lib.hid (fun W => before_calls (ix ws k) (ix ss k) (ix ws (bestL ws ss k)) (ix ss (bestL ws ss k)) W (HW.out _) (HS.out _) (HW.out _) (HS.out _))
      by_cases hc : ix ws k * (ix ss (bestL ws ss k) + 1) > ix ws (bestL ws ss k) * (ix ss k + 1)
      · rw [if_pos hc] at hbest
        rw [decide_eq_true hc] at hcall
        have HBE := Lib.hid hbest
        clear hbest hc
        generalize bestL ws ss k = m at *
        go_wp2
        go_region_with (go_at_call 49; refine (hcall.out _).mono ?_; rintro e w' ⟨rfl, hb1⟩; have HB1 := Aside0.mk hb1; clear hb1)
        all_goals go_wp2
        all_goals go_roundw
        all_goals first
          | exact ⟨k + 1, by omega, by go_num, by rw [HBE.out], ⟨below_step (below_drew (below_alloc HB.out _)) HB1.out⟩⟩
          | (simp [intOf]; omega)
      · rw [if_neg hc] at hbest
        rw [decide_eq_false hc] at hcall
        have HBE := Lib.hid hbest
        clear hbest hc
        generalize bestL ws ss k = m at *
        go_wp2
        go_region_with (go_at_call 49; refine (hcall.out _).mono ?_; rintro e w' ⟨rfl, hb1⟩; have HB1 := Aside0.mk hb1; clear hb1)
        all_goals go_wp2
        all_goals go_roundw
        all_goals first
          | exact ⟨k + 1, by omega, by go_num, by rw [HBE.out], ⟨below_step (below_drew (below_alloc HB.out _)) HB1.out⟩⟩
          | (simp [intOf]; omega)
    · have hki : ¬ (k : Int) < (n : Int) := by omega
      obtain rfl : k = n := by omega
      go_wp2
      go_ret
      exact ⟨rfl, HB.out⟩
def maxL : List Int → Int
  | [] => 0
  | x :: l => l.foldl (fun m y => if m < y then y else m) x
theorem fold_max (l : List Int) (m : Int) : (∀ y ∈ l, y ≤ l.foldl (fun m y => if m < y then y else m) m) ∧ m ≤ l.foldl (fun m y => if m < y then y else m) m ∧ (l.foldl (fun m y => if m < y then y else m) m ∈ l ∨ l.foldl (fun m y => if m < y then y else m) m = m) := by
  induction l generalizing m with
  | nil => simp
  | cons y l ih =>
    simp only [List.foldl_cons]
    by_cases c : m < y
    · rw [if_pos c]
      obtain ⟨h1, h2, h3⟩ := ih y
      refine ⟨fun z hz => ?_, by omega, ?_⟩
      · rcases List.mem_cons.1 hz with rfl | hz
        · exact h2
        · exact h1 z hz
      · rcases h3 with h3 | h3
        · exact Or.inl (List.mem_cons_of_mem _ h3)
        · rw [h3]; exact Or.inl List.mem_cons_self
    · rw [if_neg c]
      obtain ⟨h1, h2, h3⟩ := ih m
      refine ⟨fun z hz => ?_, h2, ?_⟩
      · rcases List.mem_cons.1 hz with rfl | hz
        · omega
        · exact h1 z hz
      · rcases h3 with h3 | h3
        · exact Or.inl (List.mem_cons_of_mem _ h3)
        · exact Or.inr h3
/-- Of numbers that are not negative the greatest is 0 just if all are 0. -/
theorem maxL_zero {l : List Int} (h : ∀ x ∈ l, 0 ≤ x) : maxL l = 0 ↔ ∀ i, ix l i = 0 := by
  cases l with
  | nil => simp [maxL, ix]
  | cons x l =>
    obtain ⟨h1, h2, h3⟩ := fold_max l x
    show l.foldl (fun m y => if m < y then y else m) x = 0 ↔ _
    constructor
    · intro e i
      rw [e] at h1 h2
      cases i with
      | zero => rw [ix_cons_zero]; have := h x List.mem_cons_self; omega
      | succ i =>
        rw [ix_cons_succ]
        by_cases hi : i < l.length
        · have a := h1 _ (ix_mem hi); have b := h _ (List.mem_cons_of_mem _ (ix_mem hi)); omega
        · exact ix_ge (by omega)
    · intro e
      rcases h3 with h3 | h3
      · obtain ⟨i, hi, e2⟩ := mem_ix.1 h3
        rw [← e2, ← ix_cons_succ x]; exact e (i + 1)
      · rw [h3]; have := e 0; rwa [ix_cons_zero] at this
set_option maxHeartbeats 2000000 in
theorem max_calls (A0 : Option Addr) (c0 : Nat) (l : List Int) (w : World) (hl : 0 < l.length) (hl1 : l.length ≤ 1000) (hr : Kd.C (Kd.int .i64) w A0 l.length l) :
    Calls Tryz.prog 47 #[.slice A0 l.length c0] w fun e w' => e = .returned (.int .i64 (maxL l)) ∧ Below w.heap.size w w' := by
  have H1 := fun (k : Nat) (hk : k < l.length) => Kd.at_int hr (k : Int) (by omega) (by omega)
  obtain ⟨ad, ea, hx0⟩ := H1 0 hl
  subst ea
  have hx : ∀ k, k < l.length → w.cell? (ad.add k) = some (.int .i64 (ix l k)) := fun k hk => by
    obtain ⟨ad', e, hx⟩ := H1 k hk
    injection e with e
    subst e
    have e : rd l (k : Int) = ix l k := by simp [rd, ix]
    rw [← e]; exact hx
  clear hx0 H1 hr
  have HX := Lib.hid hx
  have hx0 := hx 0 hl
  rw [show ad.add 0 = ad by simp [Addr.add]] at hx0
  have HM := Lib.hid (show maxL l = (l.drop 1).foldl (fun m y => if m < y then y else m) (ix l 0) by cases l with | nil => simp at hl | cons x l => rfl)
  clear hx
  have hl0 : ¬ (l.length : Int) < 1 := by omega
  go_enter Tryz.func47, Tryz.ntmps47
  go_wp2
  go_loopw [3, 4] (fun s3 s4 W => ∃ (k : Nat) (m : Int), 1 ≤ k ∧ k ≤ l.length ∧ s4 = .int .i64 k ∧ s3 = .int .i64 m ∧ W = w ∧ Aside0 ((l.drop k).foldl (fun m y => if m < y then y else m) m = maxL l)) (fun _ s4 _ => l.length - (intOf s4).toNat)
  case atStart => exact ⟨1, _, Nat.le_refl _, hl, rfl, rfl, rfl, ⟨HM.out.symm⟩⟩
  case round =>
    obtain ⟨k, m, hk1, hk, rfl, rfl, rfl, HF⟩ := hrel
    by_cases hlt : k < l.length
    · have hki : (k : Int) < (l.length : Int) := by omega
      have hxk := HX.out k hlt
      have hst := HF.out
      rw [List.drop_eq_getElem_cons hlt, List.foldl_cons, ← ix_lt hlt] at hst
      have HST := Lib.hid hst
      clear hst
      generalize ix l k = y at *
      go_wp2
      go_roundw
      case rel => exact ⟨k + 1, (if m < y then y else m), by omega, by omega, by go_num, by rw [show max m y = (if m < y then y else m) by split <;> omega], trivial, ⟨HST.out⟩⟩
      case measure => simp [intOf]; omega
    · have hki : ¬ (k : Int) < (l.length : Int) := by omega
      have hf := HF.out
      rw [List.drop_of_length_le (by omega), List.foldl_nil] at hf
      have HE := Lib.hid hf
      clear hf
      go_wp2
      go_ret
      exact ⟨by rw [← HE.out]; rfl, Below.refl _ _⟩
set_option maxHeartbeats 1000000 in
theorem wrong_calls (x : Int) (w : World) :
    Calls Tryz.prog 45 #[.int .i64 x] w fun e w' => e = .returned (.bool (decide (x < 0) || decide (x > 1000000000))) ∧ Below w.heap.size w w' := by
  by_cases hx : x < 0
  · go_enter Tryz.func45, Tryz.ntmps45
    go_wp2
    go_ret
    exact ⟨by (first | (simp [hx]; done) | (simp; omega)), Below.refl _ _⟩
  · go_enter Tryz.func45, Tryz.ntmps45
    go_wp2
    go_ret
    exact ⟨by (first | (simp [hx]; done) | (simp; omega)), Below.refl _ _⟩
end Go.Proofs.YtmapgmibbceooaaGreatDoor
end
section -- LotShare
namespace Go.Proofs.YtmapgmibbceooaaGreatDoor
open Go.RowKit Go.Proofs.YtmapgmibbceooaaGreatDoorW.PrintWords Go.Proofs.YtmapgmibbceooaaGreatDoorW.PrintMore Go.Proofs.YtmapgmibbceooaaGreatDoorW.PrintLast
set_option linter.unusedVariables false
set_option linter.unusedSimpArgs false
theorem wrong_any (l : List Int) : (l.any fun x => decide (x < 0) || decide (x > 1000000000)) = !(inB 0 1000000000 l) := by
  rw [within_not, Bool.not_not]
theorem wrong_any' (l : List Int) (W : World) (A0 : Option Addr) (c0 : Nat) (hlen : l.length ≤ 9223372036854775807) (hr : Kd.C (Kd.int .i64) W A0 l.length l) :
    Calls Tryz.prog 46 #[.slice A0 l.length c0, .func (.func 45) #[] #[]] W fun e w' => e = .returned (.bool (!(inB 0 1000000000 l))) ∧ Below W.heap.size W w' := by
  rw [← wrong_any]
  exact contains_calls 45 #[] (fun args w => enters_ Tryz.func45 (by kernel_rfl) rfl args w) A0 c0 l _ W hlen hr (fun x W' hb => by
    refine (wrong_calls x W').mono ?_
    rintro e w' ⟨rfl, hb2⟩
    exact ⟨rfl, below_step hb hb2⟩)
theorem info_party : (Tryz.prog.info? 70).map (fun i => (i.zero, i.size, i.bytes)) = some (some (.agg #[.int .i64 0, .int .i64 0]), 2, 16) := by kernel_rfl
theorem make_parties (n : Nat) (hn : n ≤ 200) (W : World) : (Instr.makeSlice 68 (.int .i64 (n : Int)) (.int .i64 (n : Int))).run Tryz.prog W = .ok (.slice (some ⟨W.heap.size, 0, none⟩) n n) (W.alloc (.cells (madeCells #[.int .i64 0, .int .i64 0] (n * 2)) 70)) := by
  obtain ⟨i0, hi, hzz⟩ := Option.map_eq_some_iff.1 info_party
  simp only [Prod.mk.injEq] at hzz
  obtain ⟨hz0, hz1, hz2⟩ := hzz
  have hr := run_make (P := Tryz.prog) W 68 70 i0 _ Tryz.underlying68 hi hz0 .i64 .i64 (n : Int) (n : Int) (by omega) (by omega)
    (by rw [hz2]; omega) (by omega)
  simp only [Int.toNat_natCast] at hr
  rw [hz1] at hr
  exact hr
theorem own_parties (W : World) (n base : Nat) (hn : n ≤ 200) (hb : base ≤ W.heap.size) : (W.alloc (.cells (madeCells #[.int .i64 0, .int .i64 0] (n * 2)) 70)).ownsRow base 70 2 (.slice (some ⟨W.heap.size, 0, none⟩) n n) n (pcells (List.replicate n 0) (List.replicate n 0)) := by
  rw [pcells_zero]
  exact World.ownsRow_lit W _ n hb (by unfold maxLen; omega) (by simp [madeCells])
/-- What stands while Share goes round: the parties' row. -/
structure ShInv (base : Nat) (w0 : World) (g n : Nat) (ws ss : List Int) (W : World) : Prop where
  row : W.ownsRow base 70 2 (.slice (some ⟨g, 0, none⟩) n n) n (pcells ws ss)
  below : Below base w0 W
  lw : ws.length = n
  ls : ss.length = n
theorem ShInv.at {base g n : Nat} {w0 W : World} {ws ss : List Int} (h : ShInv base w0 g n ws ss W) {i : Nat} (hi : i < n) : W.cell? ⟨g, i * 2, none⟩ = some (.int .i64 (ix ws i)) ∧ W.cell? ⟨g, i * 2 + 1, none⟩ = some (.int .i64 (ix ss i)) := by
  have l := h.lw.trans h.ls.symm
  have a := h.row.cellAt (i * 2) (by omega)
  have b := h.row.cellAt (i * 2 + 1) (by omega)
  rw [pcells_w _ _ _ l (by rw [h.lw]; exact hi)] at a
  rw [pcells_s _ _ _ l (by rw [h.lw]; exact hi)] at b
  exact ⟨a, b⟩
theorem ShInv.free {base g n : Nat} {w0 W : World} {ws ss : List Int} (h : ShInv base w0 g n ws ss W) (j : Nat) : W.frozen? ⟨g, j, none⟩ = false := h.row.frozenAt j
theorem ShInv.base_le {base g n : Nat} {w0 W : World} {ws ss : List Int} (h : ShInv base w0 g n ws ss W) : base ≤ g := (h.row.lt g rfl).1
theorem ShInv.lt {base g n : Nat} {w0 W : World} {ws ss : List Int} (h : ShInv base w0 g n ws ss W) : g < W.heap.size := (h.row.lt g rfl).2
theorem ShInv.set_w {base g n : Nat} {w0 W : World} {ws ss : List Int} (h : ShInv base w0 g n ws ss W) (i : Nat) (x : Int) : ShInv base w0 g n (ws.set i x) ss (W.setCell ⟨g, i * 2, none⟩ (.int .i64 x)) := by
  have k := (h.row.stored (i * 2) (.int .i64 x)).1
  rw [pcells_set_w _ _ _ _ (h.lw.trans h.ls.symm)] at k
  exact ⟨k, h.below.setCell h.base_le _, by rw [List.length_set]; exact h.lw, h.ls⟩
theorem ShInv.set_s {base g n : Nat} {w0 W : World} {ws ss : List Int} (h : ShInv base w0 g n ws ss W) (i : Nat) (x : Int) : ShInv base w0 g n ws (ss.set i x) (W.setCell ⟨g, i * 2 + 1, none⟩ (.int .i64 x)) := by
  have k := (h.row.stored (i * 2 + 1) (.int .i64 x)).1
  rw [pcells_set_s _ _ _ _ (h.lw.trans h.ls.symm)] at k
  exact ⟨k, h.below.setCell h.base_le _, h.lw, by rw [List.length_set]; exact h.ls⟩
theorem ShInv.later {base g n : Nat} {w0 W W' : World} {ws ss : List Int} (h : ShInv base w0 g n ws ss W) (hb : Below W.heap.size W W') (hs : base ≤ W.heap.size) : ShInv base w0 g n ws ss W' :=
  ⟨own_move h.row (fun k hk => hb.block k (h.row.lt k hk).2), h.below.trans (hb.mono hs), h.lw, h.ls⟩
/-- The weights that have been laid. -/
def laidW (ws : List Int) (k : Nat) : List Int := ws.take k ++ List.replicate (ws.length - k) 0
theorem laidW_zero (ws : List Int) : laidW ws 0 = List.replicate ws.length 0 := by simp [laidW]
theorem laidW_all (ws : List Int) : laidW ws ws.length = ws := by simp [laidW]
theorem laidW_step (ws : List Int) {k : Nat} (h : k < ws.length) : (laidW ws k).set k (ix ws k) = laidW ws (k + 1) := by
  unfold laidW
  rw [take_snoc ws h, List.set_append_right _ _ (by simp; omega)]
  rw [show ws.length - k = (ws.length - (k + 1)) + 1 by omega, List.replicate_succ]
  simp [Nat.min_eq_left (Nat.le_of_lt h)]
theorem laidW_length (ws : List Int) {k : Nat} (h : k ≤ ws.length) : (laidW ws k).length = ws.length := by simp [laidW]; omega
theorem ShInv.far {base g n : Nat} {w0 W : World} {ws ss : List Int} (h : ShInv base w0 g n ws ss W) {p : Addr} (hne : p.block ≠ g) (hp : base ≤ p.block) (u : Value) : ShInv base w0 g n ws ss (W.setCell p u) :=
  ⟨own_setCell h.row (fun e => hne (by simpa [Value.ownBlock] using e)) u, h.below.setCell hp _, h.lw, h.ls⟩
theorem ShInv.grown {base g n : Nat} {w0 W W' : World} {ws ss : List Int} (h : ShInv base w0 g n ws ss W) (hg : W.grownBy W' none) (hb : Below base w0 W') : ShInv base w0 g n ws ss W' :=
  ⟨h.row.kept hg (Or.inr (by simp [Value.ownBlock])), hb, h.lw, h.ls⟩
theorem info_int' : (Tryz.prog.info? 3).map (fun i => (i.zero, i.size, i.bytes)) = some (some (.int .i64 0), 1, 8) := by kernel_rfl
set_option maxHeartbeats 4000000 in
set_option maxRecDepth 100000 in
theorem apportion_Share.ok (total : Nat) (A0 : Option Addr) (c0 : Nat) (ws : List Int) (w : World) (hr : Kd.C (Kd.int .i64) w A0 ws.length ws) (hn0 : 1 ≤ ws.length) (hn1 : ws.length ≤ 200) (hv : inB 0 1000000000 ws = true) (ht1 : total ≤ 720) (hm : ¬ (maxL ws = 0 ∧ 0 < total)) :
    Calls Tryz.prog 26 #[.int .i64 (total : Int), .slice A0 ws.length c0] w fun e w' => ∃ v, e = .returned (.tuple #[v, .int .i64 0]) ∧ Kd.R (Kd.int .i64) 3 w' w.heap.size (fun _ => True) v (runL ws total) ∧ Below w.heap.size w w' := by
  have HR := Lib.hid (fun W (hb : Below w.heap.size w W) => Kd.C_below hr hb)
  have hcon := Lib.hid (fun W (hb : Below w.heap.size w W) => wrong_any' ws W A0 c0 (by omega) (Kd.C_below hr hb))
  have hmax := Lib.hid (fun W (hb : Below w.heap.size w W) => max_calls A0 c0 ws W (by omega) (by omega) (Kd.C_below hr hb))
  rw [hv] at hcon
  have hmk := make_parties ws.length hn1
  have hwb : ∀ i, 0 ≤ ix ws i ∧ ix ws i ≤ 1000000000 := fun i => by
    by_cases h : i < ws.length
    · exact inB_iff.1 hv _ (ix_mem h)
    · rw [ix_ge (by omega)]; decide
  have HWB := Lib.hid hwb
  have i1 : ¬ (ws.length : Int) < 1 := by omega
  have i2 : ¬ (200 : Int) < (ws.length : Int) := by omega
  have i3 : ¬ (total : Int) < 0 := by omega
  have i4 : ¬ (720 : Int) < (total : Int) := by omega
  clear hr hwb hv
  generalize hnn : ws.length = n at *
  have HN := Lib.hid hnn
  clear hnn
  have hcase : (maxL ws = 0 ∧ ¬ (0 : Int) < (total : Int)) ∨ ¬ maxL ws = 0 := by
    by_cases h : maxL ws = 0
    · exact Or.inl ⟨h, fun x => hm ⟨h, by omega⟩⟩
    · exact Or.inr h
  clear hm
  rcases hcase with ⟨i5, i6⟩ | i5
  all_goals
    go_enter Tryz.func26, Tryz.ntmps26
    go_wp2_with fail
    refine (hcon.out _ (Below.refl _ _)).mono ?_
    rintro e w1 ⟨rfl, hb⟩
    have HB1 := Aside0.mk hb
    clear hb
    go_wp2_with fail
    refine (hmax.out _ HB1.out).mono ?_
    rintro e w2 ⟨rfl, hb⟩
    have HB2 := Aside0.mk (below_step HB1.out hb)
    clear hb
    go_wp2
    have HI := Lib.hid (show ShInv w.heap.size w w2.heap.size n (laidW ws 0) (List.replicate n 0) (w2.alloc (.cells (madeCells #[.int .i64 0, .int .i64 0] (n * 2)) 70)) from
      ⟨by rw [laidW_zero, HN.out]; exact own_parties _ _ _ hn1 HB2.out.size, below_alloc HB2.out _, by rw [laidW_length _ (Nat.zero_le _), HN.out], by simp⟩)
    have HG := Lib.hid (show w.heap.size ≤ w2.heap.size from HB2.out.size)
    generalize w2.heap.size = g at *
    go_loopw [48] (fun s48 W => ∃ k : Nat, k ≤ n ∧ s48 = .int .i64 k ∧ Aside0 (ShInv w.heap.size w g n (laidW ws k) (List.replicate n 0) W)) (fun s48 _ => n - (intOf s48).toNat)
    case atStart => exact ⟨0, Nat.zero_le _, rfl, ⟨HI.out⟩⟩
    case round =>
      obtain ⟨k, hk, rfl, HP⟩ := hrel
      by_cases hlt : k < n
      · have hki : (k : Int) < (n : Int) := by omega
        have hrd := HR.out wr HP.out.below
        obtain ⟨ad, ea, hx⟩ := Kd.at_int hrd (k : Int) (by omega) hki
        subst ea
        simp only [Int.toNat_natCast] at hx
        rw [show rd ws (k : Int) = ix ws k by simp [rd, ix]] at hx
        have hc1 := (HP.out.at hlt).1
        have hf1 := HP.out.free (k * 2)
        have HS := Lib.hid (HP.out.set_w k (ix ws k))
        clear hrd
        generalize hy : ix ws k = y at *
        generalize hz : ix (laidW ws k) k = z at *
        have HY := Lib.hid hy
        clear hy hz
        go_wp2
        go_roundw
        case rel => exact ⟨k + 1, by omega, by go_num, ⟨by
          have e := laidW_step ws (k := k) (by rw [HN.out]; exact hlt)
          rw [HY.out] at e
          have := HS.out
          rwa [e] at this⟩⟩
        case measure => simp [intOf]; omega
      · have hki : ¬ (k : Int) < (n : Int) := by omega
        have e : k = n := by omega
        have HP2 := Lib.hid (show ShInv w.heap.size w g n ws (runL ws 0) wr by
          have := HP.out
          rw [e, ← HN.out, laidW_all, HN.out] at this
          rw [show runL ws 0 = List.replicate ws.length 0 from rfl, HN.out]; exact this)
        clear e HP
        go_wp2
        go_loopw [60] (fun s60 W => ∃ k : Nat, k ≤ total ∧ s60 = .int .i64 k ∧ Aside0 (ShInv w.heap.size w g n ws (runL ws k) W)) (fun s60 _ => total - (intOf s60).toNat)
        case atStart => exact ⟨0, Nat.zero_le _, rfl, ⟨HP2.out⟩⟩
        case round =>
          obtain ⟨k, hk, rfl, HP⟩ := hrel
          by_cases hlt : k < total
          · first
              | (exfalso; omega)
              | (skip
                 have hki : (k : Int) < (total : Int) := by omega
                 have hbest := best_calls g n ws (runL ws k) wr (by rw [length_run]) (by rw [HN.out]; exact hn0) (by rw [HN.out]; exact hn1) HWB.out (fun i => ⟨run_nonneg ws k i, by have := run_le ws k i; omega⟩) HP.out.lt (fun i hi => HP.out.at (by rw [← HN.out]; exact hi))
                 have hbl := best_lt ws (runL ws k) ws.length (by rw [HN.out]; exact hn0)
                 rw [HN.out] at hbest hbl
                 have HST := Lib.hid (show runL ws (k + 1) = (runL ws k).set (bestL ws (runL ws k) n) (ix (runL ws k) (bestL ws (runL ws k) n) + 1) by rw [← HN.out]; rfl)
                 have hx0 := run_nonneg ws k (bestL ws (runL ws k) n)
                 have hx1 := run_le ws k (bestL ws (runL ws k) n)
                 generalize bestL ws (runL ws k) n = b at *
                 generalize hx : ix (runL ws k) b = x at *
                 have HX := Lib.hid hx
                 have HBST := Lib.hid hbest
                 clear hx hbest
                 have hbi : (b : Int) < (n : Int) := by omega
                 go_wp2_with fail
                 refine (HBST.out).mono ?_
                 rintro e w3 ⟨rfl, hb⟩
                 have HP3 := Lib.hid (HP.out.later hb (Nat.le_of_lt (Nat.lt_of_le_of_lt HP.out.base_le HP.out.lt)))
                 clear hb
                 have hc1 := (HP3.out.at hbl).2
                 rw [HX.out] at hc1
                 have hc0 := (HP3.out.at hbl).1
                 have hf1 := HP3.out.free (b * 2 + 1)
                 have HS := Lib.hid (HP3.out.set_s b (x + 1))
                 go_wp2
                 go_roundw
                 case rel => exact ⟨k + 1, by omega, by go_num, ⟨by rw [HST.out]; exact HS.out⟩⟩
                 case measure => simp [intOf]; omega)
          · have hki : ¬ (k : Int) < (total : Int) := by omega
            have HPT := Lib.hid (show ShInv w.heap.size w g n ws (runL ws total) wr by
              have e : k = total := by omega
              rw [← e]; exact HP.out)
            have hnle : (n : Int) * 8 ≤ 281474976710656 := by omega
            clear HP HP2 HI i5
            go_wp2_with ((with_reducible refine gate_dst (N := 74) rfl ?_); refine Kd.R_make (Kd.int .i64) w.heap.size 3 rfl (N := 74) rfl 22 _ _ rfl (n : Int) rfl rfl Tryz.underlying22 (.int .i64 0) 8 info_int' rfl (by decide) (by decide) 0 (ok := fun j => j ≠ g) (okp := fun j => j ≠ g) rfl (fun _ hk => hk) (by have := HPT.out.lt; omega) (by omega) (by omega) HPT.out.below HPT.out.below.size ?_; intro v1 w4 ho1 hb1 hg1 hnew1; obtain ⟨A1, c1, e1⟩ := Kd.R_slice ho1; rw [List.length_replicate, Int.toNat_natCast] at e1; subst e1; have HO1 := Aside0.mk ho1; have HP4 := Lib.hid (HPT.out.grown hg1 hb1); clear ho1 hb1 hg1 hnew1)
            go_loopw [77] (fun s77 W => ∃ k : Nat, k ≤ n ∧ s77 = .int .i64 k ∧ Aside0 (ShInv w.heap.size w g n ws (runL ws total) W ∧ Kd.R (Kd.int .i64) 3 W w.heap.size (fun j => j ≠ g) (.slice A1 n c1) (laidW (runL ws total) k))) (fun s77 _ => n - (intOf s77).toNat)
            case atStart => exact ⟨0, Nat.zero_le _, rfl, ⟨HP4.out, by rw [laidW_zero, length_run, HN.out]; exact HO1.out⟩⟩
            case round =>
              obtain ⟨k, hk, rfl, HP⟩ := hrel
              by_cases hlt : k < n
              · have hki : (k : Int) < (n : Int) := by omega
                obtain ⟨hc1, hc2⟩ := HP.out.1.at hlt
                have hlw : (laidW (runL ws total) k).length = n := by rw [laidW_length _ (by rw [length_run, HN.out]; exact hk), length_run, HN.out]
                obtain ⟨go, cap, hv, hgo1, hgo2, hty⟩ := Kd.R_form HP.out.2 (by omega)
                rw [hlw] at hv
                injection hv with hv1 _ hv2
                subst hv1
                subst hv2
                have hgg : ¬ go = g := fun e => HP.out.2.1 go rfl e
                obtain ⟨hx, hxf⟩ := Kd.R_celln (0 : Int) HP.out.2 (k : Int) (by omega) hki
                simp only [Int.toNat_natCast] at hx hxf
                have hgn : ¬ go = wr.heap.size := by omega
                have HST := Lib.hid (laidW_step (runL ws total) (k := k) (by rw [length_run, HN.out]; exact hlt))
                have HGB := Lib.hid hgo1
                have HLT := Lib.hid hgo2
                clear hlw hty
                generalize hxx : ix (runL ws total) k = x at *
                generalize ix ws k = y at *
                go_wp2
                go_roundw
                case rel =>
                  refine ⟨k + 1, by omega, by go_num, ⟨?_, ?_⟩⟩
                  · have hf := ShInv.far HP.out.1 (p := ⟨go, k, none⟩) hgg HGB.out (.int .i64 x)
                    exact hf.later (below_alloc (Below.refl _ _) _) (Nat.le_of_lt (Nat.lt_of_le_of_lt hf.base_le hf.lt))
                  · rw [← HST.out]
                    exact Kd.R_alloc (Kd.R_putn HP.out.2 (k : Int) x) _
                case measure => simp [intOf]; omega
              · have hki : ¬ (k : Int) < (n : Int) := by omega
                have e : k = n := by omega
                have HF := Lib.hid (show Kd.R (Kd.int .i64) 3 wr w.heap.size (fun _ => True) (.slice A1 n c1) (runL ws total) by
                  have := HP.out.2
                  rw [e, show n = (runL ws total).length by rw [length_run, HN.out], laidW_all] at this
                  rw [show (runL ws total).length = n by rw [length_run, HN.out]] at this
                  exact Kd.R_mono this (fun _ _ => trivial))
                clear e
                go_wp2
                go_ret2
                exact ⟨_, rfl, HF.out, HP.out.1.below⟩
end Go.Proofs.YtmapgmibbceooaaGreatDoor
end

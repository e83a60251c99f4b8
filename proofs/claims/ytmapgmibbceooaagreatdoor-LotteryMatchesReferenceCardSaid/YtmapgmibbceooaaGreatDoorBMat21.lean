/- The texts of this claim, laid together by a program of this session (bundle.py). -/
import Derived.Test.YtmapgmibbceooaaGreatDoorBMat16
import Derived.Test.YtmapgmibbceooaaGreatDoorBMat20
section -- RatRefOf
namespace Go.Proofs.YtmapgmibbceooaaGreatDoor
open Go.RowKit Go.Proofs.YtmapgmibbceooaaGreatDoorW.PrintWords Go.Proofs.YtmapgmibbceooaaGreatDoorW.PrintMore Go.Proofs.YtmapgmibbceooaaGreatDoorW.PrintLast
open Go.Lib (decDigits)
set_option linter.unusedVariables false
set_option linter.unusedSimpArgs false
theorem wrapu {x : Int} (h0 : 0 ≤ x) (h1 : x ≤ 18446744073709551615) : IntKind.u64.wrap x = x := by rw [IntKind.wrap_u64]; omega
theorem app_list' (a b : ByteArray) : (a ++ b).data.toList = a.data.toList ++ b.data.toList := by simp
theorem ba_ext {a b : ByteArray} (h : a.data.toList = b.data.toList) : a = b := by
  cases a with | mk x => cases b with | mk y => exact congrArg ByteArray.mk (Array.toList_inj.1 h)
theorem piece (d : Nat) (h : d < 10) : (⟨#[48, 49, 50, 51, 52, 53, 54, 55, 56, 57]⟩ : ByteArray).extract d (d + 1) = ⟨#[UInt8.ofNat (48 + d)]⟩ := digit_piece ⟨d, h⟩
theorem digit_ops (x : Nat) (hx : x ≤ 18446744073709551615) : Int.tmod (x : Int) 10 = ((x % 10 : Nat) : Int) ∧ IntKind.u64.wrap (((x % 10 : Nat) : Int) + 1) = ((x % 10 + 1 : Nat) : Int) ∧ IntKind.u64.wrap (Int.tdiv (x : Int) 10) = ((x / 10 : Nat) : Int) := by
  refine ⟨by rw [Int.tmod_eq_emod_of_nonneg (by omega)]; omega, ?_, ?_⟩
  · rw [wrapu (by omega) (by omega)]; omega
  · rw [Int.tdiv_eq_ediv_of_nonneg (by omega), wrapu (by omega) (by omega)]; omega
theorem abs_loop : ∀ (d x k : Nat) (s : ByteArray), x < tp d → d ≤ 20 → x ≤ 18446744073709551615 → s.size ≤ 100 - d → d < k →
    XRefd.observatoryref04_Abs.l0 k (x : Int) s = some ⟨((if x = 0 then [] else decDigits x) ++ s.data.toList).toArray⟩
  | 0, x, k, s, hx, hd, hx2, hs, hk => by
    obtain ⟨k, rfl⟩ : ∃ m, k = m + 1 := ⟨k - 1, by omega⟩
    have : x = 0 := by have : tp 0 = 1 := rfl; omega
    subst this
    simp only [XRefd.observatoryref04_Abs.l0]
    rw [if_neg (by decide)]; first | rw [if_pos rfl] | rw [if_pos trivial]
    exact congrArg some (ba_ext (by simp))
  | d + 1, x, k, s, hx, hd, hx2, hs, hk => by
    obtain ⟨k, rfl⟩ : ∃ m, k = m + 1 := ⟨k - 1, by omega⟩
    simp only [XRefd.observatoryref04_Abs.l0]
    by_cases h0 : x = 0
    · subst h0
      rw [if_neg (by decide)]; first | rw [if_pos rfl] | rw [if_pos trivial]
      exact congrArg some (ba_ext (by simp))
    · obtain ⟨e1, e2, e3⟩ := digit_ops x hx2
      have ht : tp (d + 1) = 10 * tp d := rfl
      have hp := piece (x % 10) (Nat.mod_lt _ (by decide))
      rw [if_pos (show (x : Int) > 0 by omega), e1, e2, e3]
      simp only [Int.toNat_natCast]
      rw [hp, if_pos (by omega), if_pos (by omega), if_pos (by omega), if_pos (by show 1 + s.size ≤ _; omega)]
      rw [abs_loop d (x / 10) k _ (by omega) (by omega) (by omega) (by rw [ByteArray.size_append]; show 1 + s.size ≤ _; omega) (by omega), if_neg h0]
      refine congrArg some (ba_ext ?_)
      rw [app_list']
      by_cases h10 : x < 10
      · rw [if_pos (by omega), dec_small h10, show x % 10 = x by omega]; simp
      · rw [if_neg (by omega), dec_big h10]; simp
theorem abs_start (x k : Nat) (hx : x ≤ 18446744073709551615) (hk : 30 < k) : XRefd.observatoryref04_Abs.j0 k (x : Int) = some (decS x) := by
  obtain ⟨k, rfl⟩ : ∃ m, k = m + 1 := ⟨k - 1, by omega⟩
  simp only [XRefd.observatoryref04_Abs.j0]
  obtain ⟨e1, e2, e3⟩ := digit_ops x hx
  have hp := piece (x % 10) (Nat.mod_lt _ (by decide))
  rw [e1, e2, e3]
  simp only [Int.toNat_natCast]
  rw [hp, if_pos (by omega), if_pos (by omega), if_pos (by omega)]
  have ht : (18446744073709551616 : Nat) ≤ tp 20 := by decide
  rw [abs_loop 20 (x / 10) k _ (Nat.lt_of_lt_of_le (by omega) ht) (by omega) (by omega) (by show 1 ≤ _; omega) (by omega)]
  refine congrArg some (ba_ext ?_)
  show _ = decDigits x
  by_cases h10 : x < 10
  · rw [if_pos (by omega), dec_small h10, show x % 10 = x by omega]; simp
  · rw [if_neg (by omega), dec_big h10]
theorem abs_f (a : Int) (h : -9223372036854775808 ≤ a ∧ a ≤ 9223372036854775807) : XRefd.observatoryref04_Abs.f 50 a = some (decS a.natAbs) := by
  unfold XRefd.observatoryref04_Abs.f
  by_cases h0 : a < 0
  · have e1 : wrap64 (a + 1) = a + 1 := by unfold wrap64; omega
    have e2 : wrap64 (-(a + 1)) = -(a + 1) := by unfold wrap64; omega
    rw [if_pos h0, e1, e2, wrapu (x := -(a + 1)) (by omega) (by omega), wrapu (x := -(a + 1) + 1) (by omega) (by omega), show -(a + 1) + 1 = ((a.natAbs : Nat) : Int) by omega]
    exact abs_start _ _ (by omega) (by omega)
  · rw [if_neg h0, wrapu (by omega) (by omega), show a = ((a.natAbs : Nat) : Int) by omega, Int.natAbs_natCast]
    exact abs_start _ _ (by omega) (by omega)
theorem rlow_f {neg : Bool} {n d : ByteArray} (hn : validS n = true) (hd : validS d = true) (h0 : valS d ≠ 0) : XRefd.observatoryref04_lowest.f neg n d = some (lowR neg (valS n) (valS d)) := by
  unfold XRefd.observatoryref04_lowest.f lowR
  by_cases e : valS n = 0
  · rw [if_pos ((list0 hn).2 e), if_pos e, XRefd.observatoryref04_Zero.f, str0, str1]; rfl
  · rw [if_neg (fun h => e ((list0 hn).1 h)), if_neg e]
    have hg : (Lib.decDigits (Nat.gcd (valS n) (valS d))).length ≤ 1000 := dec_le_valS hn (Nat.gcd_le_left _ (Nat.pos_of_ne_zero e))
    have hg0 : valS (decS (Nat.gcd (valS n) (valS d))) ≠ 0 := by
      rw [valS_decS]; exact Nat.ne_of_gt (Nat.gcd_pos_of_pos_left _ (Nat.pos_of_ne_zero e))
    simp only [observatoryref03_Gcd.f, observatoryref03_Div.f, Option.bind_some, gcd_ok hn hd, limS_of_le hg, div_ok hn (validS_decS hg) hg0, div_ok hd (validS_decS hg) hg0, valS_decS]
def observatoryref04_Of.f (a b : Int) : Option R4 := if (-9223372036854775808 ≤ a ∧ a ≤ 9223372036854775807) ∧ (-9223372036854775808 ≤ b ∧ b ≤ 9223372036854775807) then some (flat (ofR a b)) else none
theorem observatoryref04_Of.calls (a0 : Int) (a1 : Int) (r1 : Bool) (r2 : ByteArray) (r3 : ByteArray) (r4 : Int) (w : World) (h : observatoryref04_Of.f a0 a1 = some (r1, r2, r3, r4)) :
    Calls Tryz.prog 34 #[.int .i64 a0, .int .i64 a1] w fun e w' => e = .returned (.tuple #[.agg #[.bool r1, .string r2, .string r3], .int .i64 r4]) ∧ Below w.heap.size w w' := by
  unfold observatoryref04_Of.f at h
  split at h
  case isFalse => cases h
  rename_i hb
  refine XRefd.observatoryref04_Of.calls 50 a0 a1 r1 r2 r3 r4 w ?_
  rw [← h]
  unfold XRefd.observatoryref04_Of.f ofR
  by_cases e : a1 = 0
  · rw [if_pos e, if_pos e]; rfl
  · have v0 := validS_decS (Nat.le_trans (dec_abs hb.1) (by decide))
    have v1 := validS_decS (Nat.le_trans (dec_abs hb.2) (by decide))
    rw [if_neg e, if_neg e, abs_f _ hb.1, abs_f _ hb.2]
    simp only [Option.bind_some]
    rw [rlow_f v0 v1 (by rw [valS_decS]; omega), valS_decS, valS_decS]; rfl
end Go.Proofs.YtmapgmibbceooaaGreatDoor
end

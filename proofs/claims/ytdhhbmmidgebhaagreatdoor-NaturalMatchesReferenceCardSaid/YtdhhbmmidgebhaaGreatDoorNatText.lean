/- text: the digits of a number out of its limbs. -/
import Derived.Test.YtdhhbmmidgebhaaGreatDoorNatLib
namespace Go.Proofs.YtdhhbmmidgebhaaGreatDoor
open Go.RowKit Go.Proofs.YtdhhbmmidgebhaaGreatDoorW.PrintWords Go.Proofs.YtdhhbmmidgebhaaGreatDoorW.PrintMore Go.Proofs.YtdhhbmmidgebhaaGreatDoorW.PrintLast
set_option linter.unusedVariables false
set_option linter.unusedSimpArgs false

theorem builder_later {T e : TypeId} {B b : Nat} {bs : List Value} {w w' : World} (h : Lib.IsBuilder T e B b bs w) (hb : Below w.heap.size w w') : Lib.IsBuilder T e B b bs w' := by
  have one : ∀ p, Lib.BuilderAt T e B b p bs w → Lib.BuilderAt T e B b p bs w' := by
    rintro p ⟨h1, v, h2, h3, h4⟩
    exact ⟨h1, v, (hb.block b (lt_of_block h2)).trans h2, pw_own_below h3 hb, h4⟩
  exact h.elim (fun z => .inl (one _ z)) (fun z => .inr (one _ z))
/-- What has been written behind i rounds: the digits of the i highest limbs. -/
def txt (m i : Nat) : List UInt8 := if i = 0 then [] else Lib.decDigits (lv ((limbs m).drop ((limbs m).length - i))).toNat
theorem drop_pos {m : Nat} {j : Nat} (h : j < (limbs m).length) : 0 < lv ((limbs m).drop j) := by
  have hm : m ≠ 0 := by rintro rfl; rw [limbs_zero] at h; simp at h
  have e := lv_append ((limbs m).take j) ((limbs m).drop j)
  rw [List.take_append_drop, lv_limbs, List.length_take, Nat.min_eq_left (by omega)] at e
  have g := limbs_ge hm
  have b := bp_mono (show j ≤ (limbs m).length - 1 by omega)
  have t := lv_lt ((limbs_good m).take j)
  rw [List.length_take, Nat.min_eq_left (by omega)] at t
  have n : 0 ≤ lv ((limbs m).drop j) := lv_nonneg (fun x hx => limbs_good m x (List.mem_of_mem_drop hx))
  rcases Int.lt_or_eq_of_le n with n | n
  · exact n
  · rw [← n] at e; omega
theorem txt_one {m : Nat} (h : 0 < (limbs m).length) : txt m 1 = Lib.decDigits (at0 (limbs m) ((limbs m).length - 1)).toNat := by
  unfold txt
  rw [if_neg (by decide), lv_drop _ (by omega), show (limbs m).length - 1 + 1 = (limbs m).length by omega, List.drop_length]
  congr 2
  show _ + 1000000000 * 0 = _
  omega
theorem txt_succ {m i : Nat} (h0 : 0 < i) (h : i < (limbs m).length) : txt m (i + 1) = txt m i ++ pad9 (at0 (limbs m) ((limbs m).length - 1 - i)).toNat := by
  have hp := drop_pos (m := m) (j := (limbs m).length - i) (by omega)
  have ha := at0_good (limbs_good m) ((limbs m).length - 1 - i)
  unfold txt
  rw [if_neg (by omega), if_neg (by omega), show (limbs m).length - (i + 1) = (limbs m).length - 1 - i by omega, lv_drop _ (by omega), show (limbs m).length - 1 - i + 1 = (limbs m).length - i by omega]
  generalize lv ((limbs m).drop ((limbs m).length - i)) = D at *
  generalize at0 (limbs m) ((limbs m).length - 1 - i) = x at *
  rw [← dec_pad (by omega) (by omega)]
  congr 1; omega
theorem txt_all {m : Nat} (h : 0 < (limbs m).length) : txt m (limbs m).length = Lib.decDigits m := by
  unfold txt
  rw [if_neg (by omega), Nat.sub_self, List.drop_zero, lv_limbs, Int.toNat_natCast]
theorem txt_len {m : Nat} : ∀ i, i ≤ (limbs m).length → (txt m i).length ≤ 9 * i
  | 0, _ => by simp [txt]
  | 1, h => by
    have ha := at0_good (limbs_good m) ((limbs m).length - 1)
    rw [txt_one (by omega)]
    exact dec9 (by omega)
  | i + 2, h => by
    have ha := at0_good (limbs_good m) ((limbs m).length - 1 - (i + 1))
    have := txt_len (m := m) (i + 1) (by omega)
    rw [txt_succ (by omega) (by omega), List.length_append, pad9_len (by omega)]; omega
theorem itoa_nat {x : Int} (h : 0 ≤ x) : Lib.itoa x = Lib.decDigits x.toNat := by unfold Lib.itoa; rw [if_neg (by omega)]

set_option maxHeartbeats 2000000 in
theorem text_calls (m : Nat) (A0 : Option Addr) (c0 : Nat) (w : World) (hL : Laid w) (hr : Kd.C (Kd.int .i64) w A0 (limbs m).length (limbs m)) (hlen : (limbs m).length ≤ 1000000) :
    Calls Tryz.prog 37 #[.slice A0 (limbs m).length c0] w fun e w' => e = .returned (.tuple #[.string (limS m).1, .int .i64 (limS m).2]) ∧ Below w.heap.size w w' := by
  by_cases h0 : (limbs m).length = 0
  · have hm : m = 0 := limbs_nil.1 (List.length_eq_zero_iff.1 h0)
    subst hm
    have e1 : limS 0 = (⟨#[48]⟩, 0) := by
      unfold limS decS
      rw [dec_zero]; rfl
    rw [e1, limbs_zero]
    show Calls _ _ #[.slice A0 0 c0] _ _
    go_enter Tryz.func37, Tryz.ntmps37
    go_wp2_with fail
    go_ret2
    exact ⟨rfl, Below.refl _ _⟩
  · have hn0 : (((limbs m).length : Int) == 0) = false := by rw [beq_eq_false_iff_ne]; omega
    have hn1 : ((limbs m).length : Int) ≤ 1000000 := by omega
    have HL := Lib.hid hL
    have HR := Lib.hid hr
    have HM := Lib.hid (show 0 < (limbs m).length by omega)
    clear hL hr h0
    obtain ⟨n, hn⟩ : ∃ n, (limbs m).length = n := ⟨_, rfl⟩
    have HN := Lib.hid hn
    rw [hn] at hn0 hn1 ⊢
    have hlen' : n ≤ 1000000 := by omega
    clear hn hlen
    obtain ⟨ad, hA, _⟩ := Kd.at_int HR.out 0 (by omega) (by have := HM.out; omega)
    subst hA
    have HX : ∀ i : Nat, i < n → ∃ x : Int, x = at0 (limbs m) (n - 1 - i) ∧ 0 ≤ x ∧ x < 1000000000 ∧ w.cell? (ad.add (n - 1 - i)) = some (.int .i64 x) := by
      intro i hi
      have hn := HN.out
      obtain ⟨ad', hA', hc'⟩ := Kd.at_int HR.out ((n : Int) - 1 - (i : Int)) (by omega) (by omega)
      injection hA' with hA'
      subst hA'
      have g := at0_good (limbs_good m) (n - 1 - i)
      refine ⟨_, rfl, g.1, g.2, ?_⟩
      rw [show ((n : Int) - 1 - (i : Int)).toNat = n - 1 - i by omega] at hc'
      rw [hc', show (n : Int) - 1 - (i : Int) = ((n - 1 - i : Nat) : Int) by omega, rd_nat]
    have HC := Lib.hid HX
    clear HX
    go_enter Tryz.func37, Tryz.ntmps37
    go_wp2_with fail
    go_loopw [12] (fun c W => ∃ i : Nat, i ≤ n ∧ c = .int .i64 i ∧ Aside0 (Lib.IsBuilder 68 5 w.heap.size w.heap.size (Lib.byteCells (txt m i)) W ∧ Below w.heap.size w W)) (fun c _ => n - (intOf c).toNat)
    case atStart => exact ⟨0, Nat.zero_le _, rfl, ⟨Lib.fresh_isBuilder _ _ w, below_alloc (Below.refl _ _) _⟩⟩
    case round =>
      obtain ⟨i, hi, rfl, HP⟩ := hrel
      by_cases hlt : i < n
      · obtain ⟨x, hx, hx0, hx1, hcw⟩ := HC.out i hlt
        have hcell : wr.cell? (ad.add (n - 1 - i)) = some (.int .i64 x) := pw_cell_below HP.out.2 hcw
        have hin : (i : Int) < (n : Int) := by omega
        have hj0 : 0 ≤ (n : Int) - 1 - (i : Int) := by omega
        have hj1 : (n : Int) - 1 - (i : Int) < (n : Int) := by omega
        have EX := Lib.hid hx
        have hit : strconv_Itoa.f x = some ⟨(Lib.decDigits x.toNat).toArray⟩ := by
          unfold strconv_Itoa.f
          rw [if_pos (by omega), itoa_nat hx0]
        have HI := Lib.hid hit
        have hd9 := dec9 (x := x.toNat) (by omega)
        have hsz : (⟨(Lib.decDigits x.toNat).toArray⟩ : ByteArray).size = (Lib.decDigits x.toNat).length := rfl
        obtain ⟨S, hS⟩ : ∃ S : ByteArray, S = ⟨(Lib.decDigits x.toNat).toArray⟩ := ⟨_, rfl⟩
        rw [← hS] at HI hsz
        have hS9 : S.size ≤ 9 := by omega
        have HS := Lib.hid hS
        clear hx hcw hit hd9 hsz hS
        by_cases hi0 : i = 0
        · have hi1 : ¬ (0 : Int) < (i : Int) := by omega
          have HI0 := Lib.hid hi0
          clear hi0
          go_wp2_with fail
          refine (strconv_Itoa.calls x S _ (HL.out.below HP.out.2) HI.out).mono ?_
          rintro e w2 ⟨rfl, hb2⟩
          have HB2 := Aside0.mk (below_step HP.out.2 hb2)
          have HU2 := Aside0.mk (builder_later HP.out.1 hb2)
          clear hb2
          go_wp2_with fail
          refine (lib_wstring w.heap.size w.heap.size (Lib.byteCells (txt m i)) S _ HU2.out (by rw [Lib.byteCells_length]; have := txt_len (m := m) i (by have := HN.out; omega); omega) HB2.out.size).mono ?_
          rintro e w3 ⟨rfl, hat, hb3⟩
          have HB3 := Aside0.mk (HB2.out.trans hb3)
          have HU3 := Aside0.mk hat
          clear hat hb3
          go_wp2_with fail
          go_roundw
          case rel =>
            refine ⟨i + 1, by omega, by go_num, ⟨.inr ?_, HB3.out⟩⟩
            have e : Lib.byteCells (txt m i) ++ Lib.strCells S = Lib.byteCells (txt m (i + 1)) := by
              rw [HS.out, show Lib.strCells ⟨(Lib.decDigits x.toNat).toArray⟩ = Lib.byteCells (Lib.decDigits x.toNat) from rfl, HI0.out, txt_one HM.out, EX.out, HI0.out, HN.out, Nat.sub_zero]
              rfl
            rw [← e]
            exact HU3.out
          case measure => simp [intOf]; omega
        · have hip : (0 : Int) < (i : Int) := by omega
          go_wp2_with fail
          refine (strconv_Itoa.calls x S _ (HL.out.below HP.out.2) HI.out).mono ?_
          rintro e w2 ⟨rfl, hb2⟩
          have HB2 := Aside0.mk (below_step HP.out.2 hb2)
          have HU2 := Aside0.mk (builder_later HP.out.1 hb2)
          clear hb2
          have hS9' : (S.size : Int) ≤ 9 := by omega
          go_wp2_with fail
          rw [show (9 - (S.size : Int)) = ((9 - S.size : Nat) : Int) from by omega]
          refine (Tryz.strings_Repeat ⟨#[48]⟩ (9 - S.size) w2 (by omega) (by show 1 * _ ≤ _; omega)).mono ?_
          rintro e w3 ⟨rfl, hb3⟩
          have HB3 := Aside0.mk (below_step HB2.out hb3)
          have HU3 := Aside0.mk (builder_later HU2.out hb3)
          clear hb3
          obtain ⟨Z, hZ⟩ : ∃ Z : ByteArray, Z = ⟨(Lib.repeatL (⟨#[48]⟩ : ByteArray).data.toList (9 - S.size)).toArray⟩ := ⟨_, rfl⟩
          rw [← hZ]
          have hZ9 : Z.size ≤ 9 := by
            rw [hZ]
            show (Lib.repeatL [48] (9 - S.size)).length ≤ 9
            rw [Lib.repeatL_length, List.length_singleton]; omega
          have HZ := Lib.hid hZ
          clear hZ
          have hl : (Lib.byteCells (txt m i)).length ≤ 9000000 := by rw [Lib.byteCells_length]; have := txt_len (m := m) i (by have := HN.out; omega); omega
          go_wp2_with fail
          refine (lib_wstring w.heap.size w.heap.size (Lib.byteCells (txt m i)) Z _ HU3.out (by omega) HB3.out.size).mono ?_
          rintro e w4 ⟨rfl, hat, hb4⟩
          have HB4 := Aside0.mk (HB3.out.trans hb4)
          have HU4 := Aside0.mk hat
          clear hat hb4
          go_wp2_with fail
          refine (lib_wstring w.heap.size w.heap.size (Lib.byteCells (txt m i) ++ Lib.strCells Z) S _ (.inr HU4.out) (by rw [List.length_append, Lib.strCells_length]; omega) HB4.out.size).mono ?_
          rintro e w5 ⟨rfl, hat, hb5⟩
          have HB5 := Aside0.mk (HB4.out.trans hb5)
          have HU5 := Aside0.mk hat
          clear hat hb5
          go_wp2_with fail
          go_roundw
          case rel =>
            refine ⟨i + 1, by omega, by go_num, ⟨.inr ?_, HB5.out⟩⟩
            have e : Lib.byteCells (txt m i) ++ Lib.strCells Z ++ Lib.strCells S = Lib.byteCells (txt m (i + 1)) := by
              have hsz : S.size = (Lib.decDigits x.toNat).length := by rw [HS.out]; rfl
              rw [txt_succ (by omega) (by have := HN.out; omega), HN.out, ← EX.out, HZ.out, hsz, HS.out]
              unfold pad9
              rw [Lib.byteCells_append, Lib.byteCells_append, ← List.append_assoc]
              rfl
            rw [← e]
            exact HU5.out
          case measure => simp [intOf]; omega
      · have hni : ¬ (i : Int) < (n : Int) := by omega
        obtain rfl : i = n := by omega
        have hall : txt m i = Lib.decDigits m := by rw [← HN.out]; exact txt_all HM.out
        have hbu := HP.out.1
        rw [hall] at hbu
        have HU := Aside0.mk hbu
        have HD := Lib.hid (Lib.byteCells_length (Lib.decDigits m))
        clear hbu hall
        go_wp2_with fail
        refine (Tryz.Builder_Len w.heap.size w.heap.size _ _ HU.out).mono ?_
        rintro e w2 ⟨rfl, rfl⟩
        rw [HD.out]
        by_cases h1000 : 1000 < (Lib.decDigits m).length
        · have e1 : limS m = (noS, 2) := by unfold limS; rw [if_pos h1000]
          have E1 := Lib.hid e1
          have hh : (1000 : Int) < ((Lib.decDigits m).length : Int) := by omega
          clear e1 h1000
          generalize (Lib.decDigits m).length = q at *
          go_wp2_with fail
          go_ret2
          exact ⟨by rw [E1.out]; rfl, HP.out.2⟩
        · have e1 : limS m = (decS m, 0) := by unfold limS; rw [if_neg h1000]
          have E1 := Lib.hid e1
          have hh : ¬ (1000 : Int) < ((Lib.decDigits m).length : Int) := by omega
          clear e1 h1000
          obtain ⟨q, hq⟩ : ∃ q, q = (Lib.decDigits m).length := ⟨_, rfl⟩
          rw [← hq] at hh ⊢
          clear hq HD
          go_wp2_with fail
          refine (Tryz.Builder_String_any w.heap.size w.heap.size (Lib.decDigits m) _ HU.out HP.out.2.size).mono ?_
          rintro e w3 ⟨rfl, hb3⟩
          have HB3 := Aside0.mk (HP.out.2.trans hb3)
          clear hb3
          obtain ⟨T, hT⟩ : ∃ T : ByteArray, T = ⟨(Lib.decDigits m).toArray⟩ := ⟨_, rfl⟩
          rw [← hT]
          have HT := Lib.hid hT
          clear hT
          go_wp2_with fail
          go_ret2
          exact ⟨by rw [HT.out, E1.out]; rfl, HB3.out⟩
#print axioms text_calls
end Go.Proofs.YtdhhbmmidgebhaaGreatDoor

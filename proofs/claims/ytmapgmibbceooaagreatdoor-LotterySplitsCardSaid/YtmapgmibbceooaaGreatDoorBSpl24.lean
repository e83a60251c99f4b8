/- The texts of this claim, laid together by a program of this session (bundle.py). -/
import Derived.Test.YtmapgmibbceooaaGreatDoorBSpl21
import Derived.Test.YtmapgmibbceooaaGreatDoorBSpl23
section -- FinLotterySplits
namespace Go.Proofs.YtmapgmibbceooaaGreatDoor
open Go.RowKit Go.Proofs.YtmapgmibbceooaaGreatDoorW.PrintWords Go.Proofs.YtmapgmibbceooaaGreatDoorW.PrintMore Go.Proofs.YtmapgmibbceooaaGreatDoorW.PrintLast
set_option linter.unusedVariables false
set_option linter.unusedSimpArgs false
theorem u8_bounds {n : Int} (h : (Lit.int .u8 n).wf = true) : 0 ≤ n ∧ n < 256 := by simp [Lit.wf] at h; have e1 : IntKind.u8.min = 0 := rfl; have e2 : IntKind.u8.max = 255 := rfl; omega
theorem u16_bounds {n : Int} (h : (Lit.int .u16 n).wf = true) : 0 ≤ n ∧ n < 65536 := by simp [Lit.wf] at h; have e1 : IntKind.u16.min = 0 := rfl; have e2 : IntKind.u16.max = 65535 := rfl; omega
theorem spl_l0 (o T T' : List Int) (kk : Nat) (hkk : kk < o.length) (ho : o.length ≤ 200) (hT : T.length = o.length) (hT' : T'.length = o.length + 1)
    (heq : ∀ i : Nat, i < o.length → ix o i ≠ ix o kk → ix T' (if kk < i then i + 1 else i) = ix T i) : ∀ (d i k : Nat), i + d = o.length → d < k →
    XLSpl.observatorylaw29_LotterySplits.l0 k o true T (kk : Int) T' (i : Int) = some true
  | 0, i, k, hi, hk => by
    obtain ⟨k, rfl⟩ : ∃ m, k = m + 1 := ⟨k - 1, by omega⟩
    simp only [XLSpl.observatorylaw29_LotterySplits.l0]
    rw [if_neg (by omega)]
  | d + 1, i, k, hi, hk => by
    obtain ⟨k, rfl⟩ : ∃ m, k = m + 1 := ⟨k - 1, by omega⟩
    have ih := spl_l0 o T T' kk hkk ho hT hT' heq d (i + 1) k (by omega) (by omega)
    have he := heq i (by omega)
    simp only [XLSpl.observatorylaw29_LotterySplits.l0]
    rw [if_pos (by omega), ws_i (by omega)]
    by_cases c : (i : Int) > (kk : Int)
    · rw [if_pos (show kk < i by omega)] at he
      rw [if_pos c, if_pos (by omega), if_pos (by omega), if_pos (by omega), if_pos (by omega), rd_ix, rd_ix]
      by_cases e : ix o i = ix o kk
      · rw [if_pos e]; exact ih
      · rw [if_neg e, if_pos (by omega), if_pos (by omega), rd_ix, rd_ix, he e, if_pos rfl]; exact ih
    · rw [if_neg (show ¬ kk < i by omega)] at he
      rw [if_neg c, if_pos (by omega), if_pos (by omega), if_pos (by omega), if_pos (by omega), rd_ix, rd_ix]
      by_cases e : ix o i = ix o kk
      · rw [if_pos e]; exact ih
      · rw [if_neg e, if_pos (by omega), rd_ix, rd_ix, he e, if_pos rfl]; exact ih
theorem pureLotterySplits : XLSpl.observatorylaw29_LotterySplits.Pure := by
  intro s o m a3 a4 a5 _ _ _ _ _ _ _ _ _ h3 h4 h5
  refine ⟨1000, ?_⟩
  have b3 := u8_bounds h3
  have b4 := u16_bounds h4
  have b5 := u16_bounds h5
  unfold XLSpl.observatorylaw29_LotterySplits.f observatorylaw29_head.f observatoryref29_Few.f
  simp only [Option.bind_some]
  cases hf : fewL s o m with
  | false => rfl
  | true =>
    rw [if_pos rfl]
    by_cases h0 : (o.length : Int) = 0
    · rw [if_pos h0]; rfl
    · rw [if_neg h0]
      by_cases h29 : (o.length : Int) > 29
      · rw [decide_eq_true h29]; rfl
      · rw [decide_eq_false h29]
        simp only [XLSpl.observatorylaw29_LotterySplits.j0, Bool.false_eq_true, if_false, lottery_Tickets.f, Option.bind_some]
        unfold ticketsS
        cases hk : okReq s o m with
        | false => rfl
        | true =>
          have V := okReq_iff.1 hk
          have ho := V.o1
          have hom := V.om
          obtain ⟨kk, hkk, hlt⟩ : ∃ kk : Nat, Int.tmod (wrap64 a3) (o.length : Int) = (kk : Int) ∧ kk < o.length := by
            rw [wid (by omega), Int.tmod_eq_emod_of_nonneg b3.1]
            have g1 := Int.emod_nonneg a3 h0
            have g2 := Int.emod_lt_of_pos a3 (show (0 : Int) < o.length by omega)
            exact ⟨(a3 % (o.length : Int)).toNat, by omega, by omega⟩
          have c4 : wrap64 (1 + Int.tmod (wrap64 a4) 10000) = 1 + a4 % 10000 := by
            rw [wid (x := a4) (by omega), Int.tmod_eq_emod_of_nonneg b4.1, wid (by omega)]
          have c5 : wrap64 (1 + Int.tmod (wrap64 a5) 10000) = 1 + a5 % 10000 := by
            rw [wid (x := a5) (by omega), Int.tmod_eq_emod_of_nonneg b5.1, wid (by omega)]
          have V' : OkReq s (moreO o kk) (moreM m kk (1 + a4 % 10000) (1 + a5 % 10000)) := more_valid V hlt (by omega) (by omega) (by omega)
          have L1 := length_moreO (owners := o) hlt
          have eT : ∀ i : Nat, i < o.length → ix o i ≠ ix o kk → ix (ticketsL s (moreO o kk) (moreM m kk (1 + a4 % 10000) (1 + a5 % 10000))) (if kk < i then i + 1 else i) = ix (ticketsL s o m) i := fun i hi h => split_tickets V hlt hi h
          have u3 : (ticketsL s (moreO o kk) (moreM m kk (1 + a4 % 10000) (1 + a5 % 10000))).length = o.length + 1 := by rw [length_tickets]; exact L1
          have q1 : [] ++ List.take (kk + 1) o ++ [ix o kk] ++ List.drop (kk + 1) o = moreO o kk := by unfold moreO; rw [List.nil_append]
          have q2 : [] ++ List.take kk m ++ [1 + a4 % 10000, 1 + a5 % 10000] ++ List.drop (kk + 1) m = moreM m kk (1 + a4 % 10000) (1 + a5 % 10000) := by unfold moreM; rw [List.nil_append]
          have lt1 := List.length_take_le (kk + 1) o
          have lt2 := List.length_take_le kk m
          have ld1 : (List.drop (kk + 1) o).length ≤ o.length := by rw [List.length_drop]; omega
          have ld2 : (List.drop (kk + 1) m).length ≤ m.length := by rw [List.length_drop]; omega
          simp only [if_true, length_tickets, bne_self_eq_false, XLSpl.observatorylaw29_LotterySplits.j1, Bool.false_eq_true, if_false]
          rw [if_neg h0]
          simp only [Option.bind_some, hkk, ws_i (show kk ≤ 9000000000000000000 by omega), Int.toNat_natCast, rd_ix, c4, c5]
          rw [if_pos (by omega), if_pos (by omega), if_pos (by simp only [List.length_nil]; omega), if_pos (by omega), if_pos (by omega), if_pos (by simp only [List.length_append, List.length_cons, List.length_nil]; omega), if_pos (by simp only [List.length_append, List.length_cons, List.length_nil]; omega), if_pos (by omega), if_pos (by simp only [List.length_nil]; omega), if_pos (by simp only [List.length_append, List.length_cons, List.length_nil]; omega), if_pos (by omega), if_pos (by simp only [List.length_append, List.length_cons, List.length_nil]; omega), q1, q2]
          simp only [lottery_Tickets.f, ticketsS, Option.bind_some]
          rw [if_pos (okReq_iff.2 V')]
          simp only [if_true, u3]
          rw [ws_i (by omega), bne_self_eq_false]
          simp only [XLSpl.observatorylaw29_LotterySplits.j2, Bool.false_eq_true, if_false]
          exact spl_l0 o _ _ kk hlt ho (length_tickets _ _ _) u3 eT o.length 0 997 (by omega) (by omega)
end Go.Proofs.YtmapgmibbceooaaGreatDoor
end

/- The texts of this claim, laid together by a program of this session (bundle.py). -/
import Derived.Test.YthpomhboogcigaaGreatDoorBLOr11
import Derived.Test.YthpomhboogcigaaGreatDoorBLOr12
section -- RatJoin
namespace Go.Proofs.YthpomhboogcigaaGreatDoor
open Go.RowKit Go.Proofs.YthpomhboogcigaaGreatDoorW.PrintWords Go.Proofs.YthpomhboogcigaaGreatDoorW.PrintMore Go.Proofs.YthpomhboogcigaaGreatDoorW.PrintLast
set_option linter.unusedVariables false
set_option linter.unusedSimpArgs false
theorem HasR.later {W U : World} {g : Nat} {x : Bool} {y z : ByteArray} [l : Later W U] (h : HasR W g x y z) : HasR U g x y z := h.below l.below
theorem IsS.later {w0 W U : World} {g : Nat} {e : Int} [l : Later W U] (h : XRat.IsS68 w0 W g e) : XRat.IsS68 w0 U g e := h.below l.below
theorem blk_later {W U : World} {g : Nat} {o : Obj} [l : Later W U] (h : W.heap[g]? = some o) : U.heap[g]? = some o := blk_below h l.below
set_option maxHeartbeats 4000000 in
set_option maxRecDepth 100000 in
theorem join_err (neg : Bool) (n : ByteArray) (g gd : Nat) (e : Int) (w : World) (hg : w.heap[g]? = some (.cells #[.int .i64 e] 68 (0, 0))) (he : ¬ e = 0) :
    Calls Tryz.prog 53 #[.bool neg, .string n, .pointer (some ⟨g, 0, none⟩), .pointer (some ⟨gd, 0, none⟩)] w fun x w' => x = .returned (.tuple #[.agg #[.bool false, .string (⟨#[]⟩ : ByteArray), .string (⟨#[]⟩ : ByteArray)], .int .i64 e]) ∧ Below w.heap.size w w' := by
  have hlt := blk_lt hg
  have c1 := blk_cell hg 0
  have hne := Nat.ne_of_lt hlt
  have hne' := Nat.ne_of_gt hlt
  have HL := Lib.hid hlt
  have hw := blk_cell (blk_later hg : (w.alloc (.cells #[.bool false, .string (⟨#[]⟩ : ByteArray), .string (⟨#[]⟩ : ByteArray)] 24)).heap[g]? = _) 0
  have hz := heap_alloc_new w (.cells #[.bool false, .string (⟨#[]⟩ : ByteArray), .string (⟨#[]⟩ : ByteArray)] 24)
  have HZ := Lib.hid hz
  have f1 := blk_frozen hz 0
  have f2 := blk_frozen hz 1
  have f3 := blk_frozen hz 2
  have v1 := blk_cell hz 0
  have v2 := blk_cell hz 1
  have v3 := blk_cell hz 2
  have HB := Lib.hid (below_alloc (Below.refl w.heap.size w) (.cells #[.bool false, .string (⟨#[]⟩ : ByteArray), .string (⟨#[]⟩ : ByteArray)] 24))
  clear hg hlt hz
  go_enter Tryz.func53, Tryz.ntmps53
  go_upto_region 2 with fail
  generalize w.alloc (.cells #[.bool false, .string (⟨#[]⟩ : ByteArray), .string (⟨#[]⟩ : ByteArray)] 24) = W at *
  go_region_held3 (fun W' => W'.cell? ⟨g, 0, none⟩ = some (.int .i64 e)) (go_keep) (fail)
  all_goals go_wp2
  all_goals refine bodyPost_ret (results_ct rfl _ _ (w.heap.size) 24 #[.bool false, .string (⟨#[]⟩ : ByteArray), .string (⟨#[]⟩ : ByteArray)] (0, 0) _ rfl (by (with_reducible repeat (first | refine blk_drewN ?_ _ | refine blk_drew ?_ | refine blk_alloc ?_ _)); refine blk_put (cs := #[.bool false, .string (⟨#[]⟩ : ByteArray), .string (⟨#[]⟩ : ByteArray)]) ?_ 2 _ rfl; (with_reducible repeat (first | refine blk_drewN ?_ _ | refine blk_drew ?_ | refine blk_alloc ?_ _)); refine blk_put (cs := #[.bool false, .string (⟨#[]⟩ : ByteArray), .string (⟨#[]⟩ : ByteArray)]) ?_ 1 _ rfl; (with_reducible repeat (first | refine blk_drewN ?_ _ | refine blk_drew ?_ | refine blk_alloc ?_ _)); refine blk_put (cs := #[.bool false, .string (⟨#[]⟩ : ByteArray), .string (⟨#[]⟩ : ByteArray)]) ?_ 0 _ rfl; (with_reducible repeat (first | refine blk_drewN ?_ _ | refine blk_drew ?_ | refine blk_alloc ?_ _)); exact HZ.out) Tryz.underlying24 rfl (by kernel_rfl)) rfl ?_
  all_goals exact ⟨rfl, by repeat (first | (with_reducible first | exact HB.out | apply below_alloc | apply pw_below_drewN | apply below_drew1 | refine below_set ?_ (Nat.le_refl _)) | exact HB.out)⟩
set_option maxHeartbeats 4000000 in
set_option maxRecDepth 100000 in
theorem join_ok (neg : Bool) (n d : ByteArray) (g gd : Nat) (r1 : Bool) (r2 r3 : ByteArray) (w : World) (hL : Laid w) (hg : w.heap[g]? = some (.cells #[.int .i64 0] 68 (0, 0))) (hd : w.heap[gd]? = some (.cells #[.string d] 22 (0, 0))) (hr : XRat.rational_lowest.f neg n d = some (r1, r2, r3)) :
    Calls Tryz.prog 53 #[.bool neg, .string n, .pointer (some ⟨g, 0, none⟩), .pointer (some ⟨gd, 0, none⟩)] w fun x w' => x = .returned (.tuple #[.agg #[.bool r1, .string r2, .string r3], .int .i64 0]) ∧ Below w.heap.size w w' := by
  have hw := blk_cell (blk_later hg : (w.alloc (.cells #[.bool false, .string (⟨#[]⟩ : ByteArray), .string (⟨#[]⟩ : ByteArray)] 24)).heap[g]? = _) 0
  have hw2 := blk_cell (blk_later hd : (w.alloc (.cells #[.bool false, .string (⟨#[]⟩ : ByteArray), .string (⟨#[]⟩ : ByteArray)] 24)).heap[gd]? = _) 0
  have HZ0 := Lib.hid (heap_alloc_new w (.cells #[.bool false, .string (⟨#[]⟩ : ByteArray), .string (⟨#[]⟩ : ByteArray)] 24))
  have HB := Lib.hid (below_alloc (Below.refl w.heap.size w) (.cells #[.bool false, .string (⟨#[]⟩ : ByteArray), .string (⟨#[]⟩ : ByteArray)] 24))
  have HLW := Lib.hid (fun U (hb : Below w.heap.size w U) => XRat.rational_lowest.calls neg n d _ _ _ U (Laid.below hL hb) hr)
  clear hg hd hr hL
  go_enter Tryz.func53, Tryz.ntmps53
  go_upto_region 1 with fail
  generalize w.alloc (.cells #[.bool false, .string (⟨#[]⟩ : ByteArray), .string (⟨#[]⟩ : ByteArray)] 24) = W at *
  go_wp2_with (go_at_call 42; with_reducible refine (HLW.out _ HB.out).mono ?_; rintro e w5 ⟨rfl, hb⟩; have HB6 := Lib.hid (below_step HB.out hb); have hz := blk_below HZ0.out hb; have HZ5 := Lib.hid hz; have f1 := blk_frozen hz 0; have f2 := blk_frozen hz 1; have f3 := blk_frozen hz 2; have v1 := blk_cell hz 0; have v2 := blk_cell hz 1; have v3 := blk_cell hz 2; clear hb hz)
  refine bodyPost_ret (results_ct rfl _ _ (w.heap.size) 24 #[.bool r1, .string r2, .string r3] (0, 0) _ rfl (by (with_reducible repeat (first | refine blk_drewN ?_ _ | refine blk_drew ?_ | refine blk_alloc ?_ _)); refine blk_put (cs := #[.bool r1, .string r2, .string (⟨#[]⟩ : ByteArray)]) ?_ 2 _ rfl; (with_reducible repeat (first | refine blk_drewN ?_ _ | refine blk_drew ?_ | refine blk_alloc ?_ _)); refine blk_put (cs := #[.bool r1, .string (⟨#[]⟩ : ByteArray), .string (⟨#[]⟩ : ByteArray)]) ?_ 1 _ rfl; (with_reducible repeat (first | refine blk_drewN ?_ _ | refine blk_drew ?_ | refine blk_alloc ?_ _)); refine blk_put (cs := #[.bool false, .string (⟨#[]⟩ : ByteArray), .string (⟨#[]⟩ : ByteArray)]) ?_ 0 _ rfl; (with_reducible repeat (first | refine blk_drewN ?_ _ | refine blk_drew ?_ | refine blk_alloc ?_ _)); exact HZ5.out) Tryz.underlying24 rfl (by kernel_rfl)) rfl ?_
  exact ⟨rfl, by repeat (first | (with_reducible first | exact HB6.out | apply below_alloc | apply pw_below_drewN | apply below_drew1 | refine below_set ?_ (Nat.le_refl _)) | exact HB6.out)⟩
end Go.Proofs.YthpomhboogcigaaGreatDoor
end
section -- RatAddP
namespace Go.Proofs.YthpomhboogcigaaGreatDoor
open Go.RowKit Go.Proofs.YthpomhboogcigaaGreatDoorW.PrintWords Go.Proofs.YthpomhboogcigaaGreatDoorW.PrintMore Go.Proofs.YthpomhboogcigaaGreatDoorW.PrintLast
set_option linter.unusedVariables false
set_option linter.unusedSimpArgs false
def short (n : Nat) : Prop := (Lib.decDigits n).length ≤ 1000
theorem limS_cases (n : Nat) : (short n ∧ limS n = (decS n, 0)) ∨ (1000 < (Lib.decDigits n).length ∧ limS n = (noS, 2)) := by
  unfold short limS
  by_cases h : 1000 < (Lib.decDigits n).length
  · exact Or.inr ⟨h, if_pos h⟩
  · exact Or.inl ⟨by omega, if_neg h⟩
theorem add_over {a b : R3} (V1 : VR a) (V2 : VR b) (h : 1000 < (Lib.decDigits (valS a.2.1 * valS b.2.2)).length ∨ 1000 < (Lib.decDigits (valS b.2.1 * valS a.2.2)).length ∨ 1000 < (Lib.decDigits (valS a.2.2 * valS b.2.2)).length ∨ 1000 < (Lib.decDigits (addNum a b).2).length) : addR a b = (noR, 2) := by
  unfold addR
  rw [validR_iff.2 V1, validR_iff.2 V2]
  simp only [Bool.and_self, if_true]
  exact if_pos h
theorem add_under {a b : R3} (V1 : VR a) (V2 : VR b) (h1 : short (valS a.2.1 * valS b.2.2)) (h2 : short (valS b.2.1 * valS a.2.2)) (h3 : short (valS a.2.2 * valS b.2.2)) (h4 : short (addNum a b).2) : addR a b = (lowR (addNum a b).1 (addNum a b).2 (valS a.2.2 * valS b.2.2), 0) := by
  unfold short at h1 h2 h3 h4
  unfold addR
  rw [validR_iff.2 V1, validR_iff.2 V2]
  simp only [Bool.and_self, if_true]
  exact if_neg (by omega)
/-- The three products: an error, or all are short. -/
theorem add_errs {a a' : Bool} {b c b' c' : ByteArray} (V1 : VR (a, b, c)) (V2 : VR (a', b', c')) {eF : Int} (hF : (if (if (mulS b c').2 = 0 then (mulS b' c).2 else (mulS b c').2) = 0 then (mulS c c').2 else if (mulS b c').2 = 0 then (mulS b' c).2 else (mulS b c').2) = eF) :
    (¬ eF = 0 → addR (a, b, c) (a', b', c') = (noR, eF)) ∧
    (eF = 0 → short (valS b * valS c') ∧ short (valS b' * valS c) ∧ short (valS c * valS c') ∧ (mulS b c').1 = decS (valS b * valS c') ∧ (mulS b' c).1 = decS (valS b' * valS c) ∧ (mulS c c').1 = decS (valS c * valS c')) := by
  have m1 : mulS b c' = limS (valS b * valS c') := by unfold mulS; rw [V1.n, V2.d]; rfl
  have m2 : mulS b' c = limS (valS b' * valS c) := by unfold mulS; rw [V2.n, V1.d]; rfl
  have m3 : mulS c c' = limS (valS c * valS c') := by unfold mulS; rw [V1.d, V2.d]; rfl
  rw [m1, m2, m3] at hF
  rw [m1, m2, m3]
  rcases limS_cases (valS b * valS c') with ⟨h1, e1⟩ | ⟨h1, e1⟩ <;> rcases limS_cases (valS b' * valS c) with ⟨h2, e2⟩ | ⟨h2, e2⟩ <;> rcases limS_cases (valS c * valS c') with ⟨h3, e3⟩ | ⟨h3, e3⟩ <;> rw [e1, e2, e3] at hF <;> rw [e1, e2, e3] <;> simp at hF <;> subst hF
  · exact ⟨fun h => absurd rfl h, fun _ => ⟨h1, h2, h3, rfl, rfl, rfl⟩⟩
  · exact ⟨fun _ => add_over V1 V2 (Or.inr (Or.inr (Or.inl h3))), fun h => by cases h⟩
  · exact ⟨fun _ => add_over V1 V2 (Or.inr (Or.inl h2)), fun h => by cases h⟩
  · exact ⟨fun _ => add_over V1 V2 (Or.inr (Or.inl h2)), fun h => by cases h⟩
  · exact ⟨fun _ => add_over V1 V2 (Or.inl h1), fun h => by cases h⟩
  · exact ⟨fun _ => add_over V1 V2 (Or.inl h1), fun h => by cases h⟩
  · exact ⟨fun _ => add_over V1 V2 (Or.inl h1), fun h => by cases h⟩
  · exact ⟨fun _ => add_over V1 V2 (Or.inl h1), fun h => by cases h⟩
theorem val_short {n : Nat} (h : short n) : validS (decS n) = true := validS_decS h
/-- The same sign: the sum. -/
theorem add_same {a : Bool} {b c b' c' : ByteArray} (V1 : VR (a, b, c)) (V2 : VR (a, b', c')) (h1 : short (valS b * valS c')) (h2 : short (valS b' * valS c)) (h3 : short (valS c * valS c')) :
    (¬ (addS (decS (valS b * valS c')) (decS (valS b' * valS c))).2 = 0 → addR (a, b, c) (a, b', c') = (noR, (addS (decS (valS b * valS c')) (decS (valS b' * valS c))).2)) ∧
    ((addS (decS (valS b * valS c')) (decS (valS b' * valS c))).2 = 0 → XRat.rational_lowest.f a (addS (decS (valS b * valS c')) (decS (valS b' * valS c))).1 (decS (valS c * valS c')) = some (addR (a, b, c) (a, b', c')).1 ∧ (addR (a, b, c) (a, b', c')).2 = 0) := by
  have m : addS (decS (valS b * valS c')) (decS (valS b' * valS c)) = limS (valS b * valS c' + valS b' * valS c) := by
    unfold addS; rw [val_short h1, val_short h2, valS_decS, valS_decS]; rfl
  have hN : addNum (a, b, c) (a, b', c') = (a, valS b * valS c' + valS b' * valS c) := by unfold addNum; exact if_pos rfl
  rw [m]
  rcases limS_cases (valS b * valS c' + valS b' * valS c) with ⟨h4, e4⟩ | ⟨h4, e4⟩ <;> rw [e4]
  · refine ⟨fun h => absurd rfl h, fun _ => ?_⟩
    rw [add_under V1 V2 h1 h2 h3 (by rw [hN]; exact h4), hN]
    have := low_f (neg := a) (val_short h4) (val_short h3) (by rw [valS_decS]; exact Nat.mul_ne_zero V1.d0 V2.d0)
    rw [valS_decS, valS_decS] at this
    exact ⟨this, rfl⟩
  · exact ⟨fun _ => add_over V1 V2 (Or.inr (Or.inr (Or.inr (by rw [hN]; exact h4)))), fun h => by cases h⟩
/-- Other signs: the difference. -/
theorem add_less {a a' : Bool} {b c b' c' : ByteArray} (V1 : VR (a, b, c)) (V2 : VR (a', b', c')) (hne : ¬ a = a') (h1 : short (valS b * valS c')) (h2 : short (valS b' * valS c)) (h3 : short (valS c * valS c')) (hlt : valS b * valS c' < valS b' * valS c) :
    cmpS (decS (valS b * valS c')) (decS (valS b' * valS c)) = -1 ∧ (subS (decS (valS b' * valS c)) (decS (valS b * valS c'))).2 = 0 ∧
    XRat.rational_lowest.f a' (subS (decS (valS b' * valS c)) (decS (valS b * valS c'))).1 (decS (valS c * valS c')) = some (addR (a, b, c) (a', b', c')).1 ∧ (addR (a, b, c) (a', b', c')).2 = 0 := by
  have hN : addNum (a, b, c) (a', b', c') = (a', valS b' * valS c - valS b * valS c') := by unfold addNum; exact (if_neg hne).trans (if_pos hlt)
  have h4 : short (valS b' * valS c - valS b * valS c') := Nat.le_trans (dec_mono (Nat.sub_le _ _)) h2
  have e : subS (decS (valS b' * valS c)) (decS (valS b * valS c')) = (decS (valS b' * valS c - valS b * valS c'), 0) := by
    unfold subS; rw [val_short h1, val_short h2, valS_decS, valS_decS]
    exact (if_pos rfl).trans (if_neg (by omega))
  rw [e, add_under V1 V2 h1 h2 h3 (by rw [hN]; exact h4), hN]
  refine ⟨?_, rfl, ?_, rfl⟩
  · unfold cmpS cmpI; rw [val_short h1, val_short h2, valS_decS, valS_decS]
    exact (if_pos rfl).trans (if_pos (by omega))
  · have := low_f (neg := a') (val_short h4) (val_short h3) (by rw [valS_decS]; exact Nat.mul_ne_zero V1.d0 V2.d0)
    rwa [valS_decS, valS_decS] at this
theorem add_more {a a' : Bool} {b c b' c' : ByteArray} (V1 : VR (a, b, c)) (V2 : VR (a', b', c')) (hne : ¬ a = a') (h1 : short (valS b * valS c')) (h2 : short (valS b' * valS c)) (h3 : short (valS c * valS c')) (hlt : ¬ valS b * valS c' < valS b' * valS c) :
    0 ≤ cmpS (decS (valS b * valS c')) (decS (valS b' * valS c)) ∧ (subS (decS (valS b * valS c')) (decS (valS b' * valS c))).2 = 0 ∧
    XRat.rational_lowest.f a (subS (decS (valS b * valS c')) (decS (valS b' * valS c))).1 (decS (valS c * valS c')) = some (addR (a, b, c) (a', b', c')).1 ∧ (addR (a, b, c) (a', b', c')).2 = 0 := by
  have hN : addNum (a, b, c) (a', b', c') = (a, valS b * valS c' - valS b' * valS c) := by unfold addNum; exact (if_neg hne).trans (if_neg hlt)
  have h4 : short (valS b * valS c' - valS b' * valS c) := Nat.le_trans (dec_mono (Nat.sub_le _ _)) h1
  have e : subS (decS (valS b * valS c')) (decS (valS b' * valS c)) = (decS (valS b * valS c' - valS b' * valS c), 0) := by
    unfold subS; rw [val_short h1, val_short h2, valS_decS, valS_decS]
    exact (if_pos rfl).trans (if_neg (by omega))
  rw [e, add_under V1 V2 h1 h2 h3 (by rw [hN]; exact h4), hN]
  refine ⟨?_, rfl, ?_, rfl⟩
  · unfold cmpS cmpI; rw [val_short h1, val_short h2, valS_decS, valS_decS, if_pos (show (true && true) = true from rfl), if_neg (by omega)]
    split <;> decide
  · have := low_f (neg := a) (val_short h4) (val_short h3) (by rw [valS_decS]; exact Nat.mul_ne_zero V1.d0 V2.d0)
    rwa [valS_decS, valS_decS] at this
end Go.Proofs.YthpomhboogcigaaGreatDoor
end
section -- RatAdd
namespace Go.Proofs.YthpomhboogcigaaGreatDoor
open Go.RowKit Go.Proofs.YthpomhboogcigaaGreatDoorW.PrintWords Go.Proofs.YthpomhboogcigaaGreatDoorW.PrintMore Go.Proofs.YthpomhboogcigaaGreatDoorW.PrintLast
set_option linter.unusedVariables false
set_option linter.unusedSimpArgs false
/-- What stands behind the three products. -/
structure Fin (w F : World) (g q gd : Nat) (e : Int) (a : Bool) (b c : ByteArray) (a' : Bool) (b' c' d : ByteArray) : Prop where
  I : XRat.IsS68 w F g e
  B : Below w.heap.size w F
  A : HasR F q a b c
  C : HasR F (q + 1) a' b' c'
  Z : F.heap[q + 1 + 1]? = some (.cells #[.bool false, .string (⟨#[]⟩ : ByteArray), .string (⟨#[]⟩ : ByteArray)] 24 (0, 0))
  D : F.heap[gd]? = some (.cells #[.string d] 22 (0, 0))
theorem fin_A {w W : World} {g q : Nat} {e : Int} {a : Bool} {b c : ByteArray} {a' : Bool} {b' c' : ByteArray} (d : ByteArray) (hI : XRat.IsS68 w W g e) (hB : Below w.heap.size w W) (hA : HasR W q a b c) (hC : HasR W (q + 1) a' b' c')
    (hZ : W.heap[q + 1 + 1]? = some (.cells #[.bool false, .string (⟨#[]⟩ : ByteArray), .string (⟨#[]⟩ : ByteArray)] 24 (0, 0))) : Fin w (W.alloc (.cells #[.string d] 22)) g q W.heap.size e a b c a' b' c' d :=
  ⟨hI.alloc _, below_alloc hB _, hA.alloc _, hC.alloc _, blk_later hZ, heap_alloc_new W _⟩
theorem HasR.far {W : World} {g gd : Nat} {x : Bool} {y z : ByteArray} (h : HasR W g x y z) (hne : g ≠ gd) (u : Value) : HasR (W.setCell ⟨gd, 0, none⟩ u) g x y z := (heap_setCell_other W ⟨gd, 0, none⟩ g u hne).trans h
theorem fin_B {w W : World} {g q gd : Nat} {e : Int} {a : Bool} {b c : ByteArray} {a' : Bool} {b' c' d0 : ByteArray} (d : ByteArray) (hI : XRat.IsS68 w W g e) (hB : Below w.heap.size w W) (hA : HasR W q a b c) (hC : HasR W (q + 1) a' b' c')
    (hZ : W.heap[q + 1 + 1]? = some (.cells #[.bool false, .string (⟨#[]⟩ : ByteArray), .string (⟨#[]⟩ : ByteArray)] 24 (0, 0))) (hD : W.heap[gd]? = some (.cells #[.string d0] 22 (0, 0)))
    (hn : gd ≠ g) (h1 : q ≠ gd) (h2 : q + 1 ≠ gd) (h3 : q + 1 + 1 ≠ gd) (hge : w.heap.size ≤ gd) : Fin w (W.setCell ⟨gd, 0, none⟩ (.string d)) g q gd e a b c a' b' c' d :=
  ⟨hI.far (p := ⟨gd, 0, none⟩) (fun h => hn h.symm) _, below_set hB hge, hA.far h1 _, hC.far h2 _, (heap_setCell_other W ⟨gd, 0, none⟩ _ _ h3).trans hZ, blk_put hD 0 _ rfl⟩
theorem isS_blk {w0 W : World} {g : Nat} {e : Int} (h : XRat.IsS68 w0 W g e) : W.heap[g]? = some (.cells #[.int .i64 e] 68 (0, 0)) := h.1
theorem sumstake_f (x : ByteArray) (y : Int) : XRat.rational_sums_take.f 0 x y = some (x, y) := rfl
theorem subS_f (x y : ByteArray) : natural_Sub.f x y = some ((subS x y).1, (subS x y).2) := rfl
theorem fin_below {w W W' : World} {g q gd : Nat} {e : Int} {a : Bool} {b c : ByteArray} {a' : Bool} {b' c' d : ByteArray} (h : Fin w W g q gd e a b c a' b' c' d) (hb : Below W.heap.size W W') : Fin w W' g q gd e a b c a' b' c' d :=
  ⟨h.I.below hb, below_step h.B hb, h.A.below hb, h.C.below hb, blk_below h.Z hb, blk_below h.D hb⟩
theorem fin_later {w W W' : World} {g q gd : Nat} {e : Int} {a : Bool} {b c : ByteArray} {a' : Bool} {b' c' d : ByteArray} [l : Later W W'] (h : Fin w W g q gd e a b c a' b' c' d) : Fin w W' g q gd e a b c a' b' c' d := fin_below h l.below
theorem sumsadd_f (e : Int) (x y : ByteArray) : XRat.rational_sums_add.f e x y = some ((addS x y).1, if e = 0 then (addS x y).2 else e) := by
  unfold XRat.rational_sums_add.f XRat.rational_sums_take.f natural_Add.f
  simp only [Option.bind_some]
  by_cases h : e = 0
  · rw [if_pos h, if_pos h]; rfl
  · rw [if_neg h, if_neg h]; rfl
set_option maxHeartbeats 40000000 in
set_option maxRecDepth 100000 in
theorem add_good (a : Bool) (b c : ByteArray) (a' : Bool) (b' c' : ByteArray) (w : World) (hL : Laid w) (h1 : validR (a, b, c) = true) (h2 : validR (a', b', c') = true) (r1 : Bool) (r2 r3 : ByteArray) (r4 : Int) (hr : addR (a, b, c) (a', b', c') = ((r1, r2, r3), r4)) :
    Calls Tryz.prog 25 #[.agg #[.bool a, .string b, .string c], .agg #[.bool a', .string b', .string c']] w fun e w' => e = .returned (.tuple #[.agg #[.bool r1, .string r2, .string r3], .int .i64 r4]) ∧ Below w.heap.size w w' := by
  have HV1 := Lib.hid (fun W (hb : Below w.heap.size w W) => rational_Valid.calls a b c true W (Laid.below hL hb) (by unfold rational_Valid.f; rw [h1]))
  have HV2 := Lib.hid (fun W (hb : Below w.heap.size w W) => rational_Valid.calls a' b' c' true W (Laid.below hL hb) (by unfold rational_Valid.f; rw [h2]))
  have HL := Lib.hid hL
  have V1 := Lib.hid (validR_iff.1 h1)
  have V2 := Lib.hid (validR_iff.1 h2)
  have HX := Lib.hid (boxes w a a' b c b' c')
  clear hL h1 h2
  go_enter Tryz.func25, Tryz.ntmps25
  go_upto_region 4 with (go_at_call 21; first
    | (with_reducible refine (HV1.out _ ?_).mono ?_; (exact three_below _ _ _ _); rintro e w1 ⟨rfl, hb⟩; have HB1 := Lib.hid (below_step (three_below _ _ _ _) hb); have HY1 := Lib.hid ((HX.out _).1.below hb); have HY2 := Lib.hid ((HX.out _).2.below hb); have HY3 := Lib.hid (blk_below (third_box _ _ _ _) hb); clear HX hb; obtain ⟨y1, y2, y3⟩ := HY2.out.cells)
    | (with_reducible refine (HV2.out _ HB1.out).mono ?_; rintro e w2 ⟨rfl, hb⟩; have HB2 := Lib.hid (below_step HB1.out hb); have HZ1 := Lib.hid (HY1.out.below hb); have HZ2 := Lib.hid (HY2.out.below hb); have HZ3 := Lib.hid (blk_below HY3.out hb); clear hb y1 y2 y3 HY1 HY2 HY3 HB1))
  obtain ⟨z1, z2, z3⟩ := (HZ1.out.alloc (.cells #[.int .i64 0] 68)).cells
  obtain ⟨u1, u2, u3⟩ := (HZ2.out.alloc (.cells #[.int .i64 0] 68)).cells
  have HI := Lib.hid (XRat.IsS68.new w w2 0 HB2.out)
  have HB3 := Lib.hid (below_alloc HB2.out (.cells #[.int .i64 0] 68))
  have HG1 := Lib.hid (Nat.ne_of_lt HZ1.out.lt)
  have HG2 := Lib.hid (Nat.ne_of_lt HZ2.out.lt)
  have HW1 := Lib.hid (HZ1.out.alloc (.cells #[.int .i64 0] 68))
  have HW2 := Lib.hid (HZ2.out.alloc (.cells #[.int .i64 0] 68))
  have HW3 := Lib.hid (blk_below HZ3.out (below_alloc (Below.refl _ _) (.cells #[.int .i64 0] 68)))
  have HG3 := Lib.hid (Nat.ne_of_lt (blk_lt HZ3.out))
  generalize hWW : w2.alloc (.cells #[.int .i64 0] 68) = W at *
  generalize hgg : w2.heap.size = g at *
  clear hWW hgg HZ1 HZ2 HZ3 HB2 HV1 HV2
  generalize hq1 : w.heap.size = q at *
  have HM1 := Lib.hid (fun U (hi : XRat.IsS68 w U g 0) (hb : Below w.heap.size w U) => XRat.rational_sums_mul.calls g 0 b c' _ _ w U hi hb HL.out (sums_f 0 b c'))
  have HM2 := Lib.hid (fun e U (hi : XRat.IsS68 w U g e) (hb : Below w.heap.size w U) => XRat.rational_sums_mul.calls g e b' c _ _ w U hi hb HL.out (sums_f e b' c))
  have HM3 := Lib.hid (fun e U (hi : XRat.IsS68 w U g e) (hb : Below w.heap.size w U) => XRat.rational_sums_mul.calls g e c c' _ _ w U hi hb HL.out (sums_f e c c'))
  rw [if_pos rfl] at HM1
  generalize hn : (mulS b c').1 = n at *
  generalize he1 : (mulS b c').2 = e1 at *
  generalize hm : (mulS b' c).1 = m at *
  generalize he2 : (mulS b' c).2 = e2 at *
  generalize hd : (mulS c c').1 = d at *
  generalize he3 : (mulS c c').2 = e3 at *
  have HE := Lib.hid (And.intro hn (And.intro he1 (And.intro hm (And.intro he2 (And.intro hd he3)))))
  clear hn he1 hm he2 hd he3
  go_upto_region 5 with fail
  have HI2 := HI
  have HB2 := Lib.hid (show Below w.heap.size w W by rw [hq1]; exact HB3.out)
  have HA2 := HW1
  have HC2 := HW2
  have HZ2 := HW3
  clear HI HB3 HW1 HW2 HW3
  go_region_held3 (fun W' => W'.cell? ⟨q, 0, none⟩ = some (.bool a) ∧ W'.cell? ⟨q, 1, none⟩ = some (.string b) ∧ W'.cell? ⟨q, 2, none⟩ = some (.string c) ∧ W'.cell? ⟨q + 1, 0, none⟩ = some (.bool a') ∧ W'.cell? ⟨q + 1, 1, none⟩ = some (.string b') ∧ W'.cell? ⟨q + 1, 2, none⟩ = some (.string c')) (go_keep)
    (first
      | (go_at_call 52; with_reducible refine (HM1.out _ (IsS.later HI2.out) (BK HB2.out)).mono ?_; rintro e w3 ⟨rfl, hi_, hb_, hk_⟩; have HI3 := Lib.hid hi_; have HB3 := Lib.hid hb_; have HA3 := Lib.hid (HasR.keep (HasR.later HA2.out) hk_ HG1.out); have HC3 := Lib.hid (HasR.keep (HasR.later HC2.out) hk_ HG2.out); have HZ3 := Lib.hid (hk_.blk (blk_later HZ2.out) HG3.out (by simp)); (first | (have HDN := HDN; have HD := Lib.hid (hk_.blk (blk_later HD.out) HDN.out (by simp)); have hd1 := blk_cell HD.out 0; have hd2 := blk_frozen HD.out 0) | (have HD := Lib.hid (hk_.blk (heap_alloc_new _ _) (Nat.ne_of_gt HI2.out.lt) (by simp)); have HDN := Lib.hid (Nat.ne_of_gt HI2.out.lt); have HGD := Lib.hid (HB2.out.size); have hn1 := Nat.ne_of_lt HA2.out.lt; have hn2 := Nat.ne_of_lt HC2.out.lt; have hn3 := Nat.ne_of_lt (blk_lt HZ2.out); have hn4 := Nat.ne_of_gt HA2.out.lt; have hn5 := Nat.ne_of_gt HC2.out.lt; have hn6 := Nat.ne_of_gt (blk_lt HZ2.out); have hd1 := blk_cell HD.out 0; have hd2 := blk_frozen HD.out 0) | skip); obtain ⟨z1, z2, z3⟩ := HA3.out.cells; obtain ⟨u1, u2, u3⟩ := HC3.out.cells; clear hi_ hb_ hk_)
      | (go_at_call 52; with_reducible refine (HM2.out _ _ (IsS.later HI3.out) (BK HB3.out)).mono ?_; rintro e w4 ⟨rfl, hi_, hb_, hk_⟩; have HI4 := Lib.hid hi_; have HB4 := Lib.hid hb_; have HA4 := Lib.hid (HasR.keep (HasR.later HA3.out) hk_ HG1.out); have HC4 := Lib.hid (HasR.keep (HasR.later HC3.out) hk_ HG2.out); have HZ4 := Lib.hid (hk_.blk (blk_later HZ3.out) HG3.out (by simp)); (first | (have HDN := HDN; have HD := Lib.hid (hk_.blk (blk_later HD.out) HDN.out (by simp)); have hd1 := blk_cell HD.out 0; have hd2 := blk_frozen HD.out 0) | (have HD := Lib.hid (hk_.blk (heap_alloc_new _ _) (Nat.ne_of_gt HI3.out.lt) (by simp)); have HDN := Lib.hid (Nat.ne_of_gt HI3.out.lt); have HGD := Lib.hid (HB3.out.size); have hn1 := Nat.ne_of_lt HA3.out.lt; have hn2 := Nat.ne_of_lt HC3.out.lt; have hn3 := Nat.ne_of_lt (blk_lt HZ3.out); have hn4 := Nat.ne_of_gt HA3.out.lt; have hn5 := Nat.ne_of_gt HC3.out.lt; have hn6 := Nat.ne_of_gt (blk_lt HZ3.out); have hd1 := blk_cell HD.out 0; have hd2 := blk_frozen HD.out 0) | skip); obtain ⟨z1, z2, z3⟩ := HA4.out.cells; obtain ⟨u1, u2, u3⟩ := HC4.out.cells; clear hi_ hb_ hk_)
      | (go_at_call 52; with_reducible refine (HM3.out _ _ (IsS.later HI4.out) (BK HB4.out)).mono ?_; rintro e w5 ⟨rfl, hi_, hb_, hk_⟩; have HI5 := Lib.hid hi_; have HB5 := Lib.hid hb_; have HA5 := Lib.hid (HasR.keep (HasR.later HA4.out) hk_ HG1.out); have HC5 := Lib.hid (HasR.keep (HasR.later HC4.out) hk_ HG2.out); have HZ5 := Lib.hid (hk_.blk (blk_later HZ4.out) HG3.out (by simp)); (first | (have HDN := HDN; have HD := Lib.hid (hk_.blk (blk_later HD.out) HDN.out (by simp)); have hd1 := blk_cell HD.out 0; have hd2 := blk_frozen HD.out 0) | (have HD := Lib.hid (hk_.blk (heap_alloc_new _ _) (Nat.ne_of_gt HI4.out.lt) (by simp)); have HDN := Lib.hid (Nat.ne_of_gt HI4.out.lt); have HGD := Lib.hid (HB4.out.size); have hn1 := Nat.ne_of_lt HA4.out.lt; have hn2 := Nat.ne_of_lt HC4.out.lt; have hn3 := Nat.ne_of_lt (blk_lt HZ4.out); have hn4 := Nat.ne_of_gt HA4.out.lt; have hn5 := Nat.ne_of_gt HC4.out.lt; have hn6 := Nat.ne_of_gt (blk_lt HZ4.out); have hd1 := blk_cell HD.out 0; have hd2 := blk_frozen HD.out 0) | skip); obtain ⟨z1, z2, z3⟩ := HA5.out.cells; obtain ⟨u1, u2, u3⟩ := HC5.out.cells; clear hi_ hb_ hk_))
  all_goals (first | have HF := Lib.hid (fin_B d HI5.out HB5.out HA5.out HC5.out HZ5.out HD.out HDN.out hn1 hn2 hn3 HGD.out) | have HF := Lib.hid (fin_A d HI5.out HB5.out HA5.out HC5.out HZ5.out))
  all_goals clear HI2 HI3 HI4 HI5 HB2 HB3 HB4 HB5 HA2 HA3 HA4 HA5 HC2 HC3 HC4 HC5 HZ2 HZ3 HZ4 HM1 HM2 HM3
  all_goals (try clear HD HDN HGD)
  all_goals (try clear hn1 hn2 hn3 hn4 hn5 hn6)
  all_goals (try clear hd1 hd2)
  all_goals have HGE := Lib.hid (show w.heap.size ≤ q + 1 + 1 by omega)
  all_goals have HDG := Lib.hid (Ne.symm (HF.out.I.ne_blk HF.out.D (by decide)))
  all_goals obtain ⟨rfl, rfl, rfl, rfl, rfl, rfl⟩ := HE.out
  all_goals clear HE
  all_goals generalize hEF : (if (if (mulS b c').2 = 0 then (mulS b' c).2 else (mulS b c').2) = 0 then (mulS c c').2 else if (mulS b c').2 = 0 then (mulS b' c).2 else (mulS b c').2) = eF at HF
  all_goals obtain ⟨z1, z2, z3⟩ := HF.out.A.cells
  all_goals obtain ⟨u1, u2, u3⟩ := HF.out.C.cells
  all_goals have hg := blk_cell HF.out.I.1 0
  all_goals (have f1 := blk_frozen HF.out.Z 0; have f2 := blk_frozen HF.out.Z 1; have f3 := blk_frozen HF.out.Z 2; have v1 := blk_cell HF.out.Z 0; have v2 := blk_cell HF.out.Z 1; have v3 := blk_cell HF.out.Z 2)
  all_goals have hgz : ¬ q + 1 + 1 = g := HG3.out
  all_goals have hgz' : ¬ g = q + 1 + 1 := fun h => HG3.out h.symm
  all_goals have hqz : ¬ q + 1 + 1 = q := by omega
  all_goals have hqz2 : ¬ q + 1 + 1 = q + 1 := by omega
  all_goals have HADD := Lib.hid (fun U (hi : XRat.IsS68 w U g 0) (hb : Below w.heap.size w U) => XRat.rational_sums_add.calls g 0 (mulS b c').1 (mulS b' c).1 _ _ w U hi hb HL.out (sumsadd_f 0 _ _))
  all_goals
    (by_cases he : eF = 0
     · have heq := he
       subst heq
       obtain ⟨s1, s2, s3, en, em, ed⟩ := (add_errs V1.out V2.out hEF).2 rfl
       by_cases ha : a = a'
       · subst ha
         have A := add_same V1.out V2.out s1 s2 s3
         rw [← en, ← em, ← ed] at A
         clear s1 s2 s3 en em ed hEF
         by_cases hs : (addS (mulS b c').1 (mulS b' c).1).2 = 0
         · obtain ⟨A1, A2⟩ := A.2 hs
           rw [hr] at A1 A2
           have A3 : (0 : Int) = r4 := A2.symm
           subst A3
           have HLO := Lib.hid A1
           have HSS := Lib.hid hs
           rw [if_pos rfl, hs] at HADD
           clear A A1 A2 hs hr
           go_upto_region 10 with fail
           go_region_held3 (fun W' => W'.cell? ⟨q, 0, none⟩ = some (.bool a)) (go_keep)
             (first
               | (go_at_call 54; with_reducible refine (HADD.out _ (IsS.later HF.out.I) (BK HF.out.B)).mono ?_; rintro e w6 ⟨rfl, hi_, hb_, hk_⟩; have HI6 := Lib.hid hi_; have HG6 := Lib.hid (isS_blk hi_); (try rw [HSE.out] at HG6); have HB6 := Lib.hid hb_; have HZ6 := Lib.hid (hk_.blk (blk_later HF.out.Z) HG3.out (by simp)); have HD6 := Lib.hid (hk_.blk (blk_later HF.out.D) HDG.out (by simp)); have HA6 := Lib.hid (HasR.keep (HasR.later HF.out.A) hk_ HG1.out); obtain ⟨z1, z2, z3⟩ := HA6.out.cells; clear hi_ hb_ hk_)
               | (go_at_call 53; with_reducible refine (join_ok _ _ _ _ _ _ _ _ _ (Laid.below HL.out (BK HB6.out)) (blk_later HG6.out) (blk_later HD6.out) HLO.out).mono ?_; rintro e w7 ⟨rfl, hb_⟩; have HB7 := Lib.hid (below_step (BK HB6.out) hb_); have HZ7 := Lib.hid (blk_below (blk_later HZ6.out) hb_); have HA7 := Lib.hid ((HasR.later HA6.out).below hb_); obtain ⟨z1, z2, z3⟩ := HA7.out.cells; have f1 := blk_frozen HZ7.out 0; have f2 := blk_frozen HZ7.out 1; have f3 := blk_frozen HZ7.out 2; have v1 := blk_cell HZ7.out 0; have v2 := blk_cell HZ7.out 1; have v3 := blk_cell HZ7.out 2; clear hb_))
           all_goals go_wp2
           all_goals refine bodyPost_ret (results_ct rfl _ _ (q + 1 + 1) 24 #[.bool r1, .string r2, .string r3] (0, 0) _ rfl (by (with_reducible repeat (first | refine blk_drewN ?_ _ | refine blk_drew ?_ | refine blk_alloc ?_ _)); refine blk_put (cs := #[.bool r1, .string r2, .string (⟨#[]⟩ : ByteArray)]) ?_ 2 _ rfl; (with_reducible repeat (first | refine blk_drewN ?_ _ | refine blk_drew ?_ | refine blk_alloc ?_ _)); refine blk_put (cs := #[.bool r1, .string (⟨#[]⟩ : ByteArray), .string (⟨#[]⟩ : ByteArray)]) ?_ 1 _ rfl; (with_reducible repeat (first | refine blk_drewN ?_ _ | refine blk_drew ?_ | refine blk_alloc ?_ _)); refine blk_put (cs := #[.bool false, .string (⟨#[]⟩ : ByteArray), .string (⟨#[]⟩ : ByteArray)]) ?_ 0 _ rfl; (with_reducible repeat (first | refine blk_drewN ?_ _ | refine blk_drew ?_ | refine blk_alloc ?_ _)); exact HZ7.out) Tryz.underlying24 rfl (by kernel_rfl)) rfl ?_
           all_goals exact ⟨rfl, by repeat (first | (with_reducible first | exact HB7.out | apply below_alloc | apply pw_below_drewN | apply below_drew1 | refine below_set ?_ HGE.out) | exact HB7.out)⟩
         · have A2 := (A.1 hs).symm.trans hr
           injection A2 with h4 h5
           injection h4 with h6 h7
           injection h7 with h8 h9
           subst h6; subst h8; subst h9; subst h5
           have HNE := Lib.hid hs
           clear A hr
           rw [if_pos rfl] at HADD
           go_upto_region 10 with fail
           go_region_held3 (fun W' => W'.cell? ⟨q, 0, none⟩ = some (.bool a)) (go_keep)
             (first
               | (go_at_call 54; with_reducible refine (HADD.out _ (IsS.later HF.out.I) (BK HF.out.B)).mono ?_; rintro e w6 ⟨rfl, hi_, hb_, hk_⟩; have HI6 := Lib.hid hi_; have HG6 := Lib.hid (isS_blk hi_); (try rw [HSE.out] at HG6); have HB6 := Lib.hid hb_; have HZ6 := Lib.hid (hk_.blk (blk_later HF.out.Z) HG3.out (by simp)); have HD6 := Lib.hid (hk_.blk (blk_later HF.out.D) HDG.out (by simp)); have HA6 := Lib.hid (HasR.keep (HasR.later HF.out.A) hk_ HG1.out); obtain ⟨z1, z2, z3⟩ := HA6.out.cells; clear hi_ hb_ hk_)
               | (go_at_call 53; with_reducible refine (join_err _ _ _ _ _ _ (blk_later HG6.out) HNE.out).mono ?_; rintro e w7 ⟨rfl, hb_⟩; have HB7 := Lib.hid (below_step (BK HB6.out) hb_); have HZ7 := Lib.hid (blk_below (blk_later HZ6.out) hb_); have HA7 := Lib.hid ((HasR.later HA6.out).below hb_); obtain ⟨z1, z2, z3⟩ := HA7.out.cells; have f1 := blk_frozen HZ7.out 0; have f2 := blk_frozen HZ7.out 1; have f3 := blk_frozen HZ7.out 2; have v1 := blk_cell HZ7.out 0; have v2 := blk_cell HZ7.out 1; have v3 := blk_cell HZ7.out 2; clear hb_))
           all_goals go_wp2
           all_goals refine bodyPost_ret (results_ct rfl _ _ (q + 1 + 1) 24 #[.bool false, .string (⟨#[]⟩ : ByteArray), .string (⟨#[]⟩ : ByteArray)] (0, 0) _ rfl (by (with_reducible repeat (first | refine blk_drewN ?_ _ | refine blk_drew ?_ | refine blk_alloc ?_ _)); refine blk_put (cs := #[.bool false, .string (⟨#[]⟩ : ByteArray), .string (⟨#[]⟩ : ByteArray)]) ?_ 2 _ rfl; (with_reducible repeat (first | refine blk_drewN ?_ _ | refine blk_drew ?_ | refine blk_alloc ?_ _)); refine blk_put (cs := #[.bool false, .string (⟨#[]⟩ : ByteArray), .string (⟨#[]⟩ : ByteArray)]) ?_ 1 _ rfl; (with_reducible repeat (first | refine blk_drewN ?_ _ | refine blk_drew ?_ | refine blk_alloc ?_ _)); refine blk_put (cs := #[.bool false, .string (⟨#[]⟩ : ByteArray), .string (⟨#[]⟩ : ByteArray)]) ?_ 0 _ rfl; (with_reducible repeat (first | refine blk_drewN ?_ _ | refine blk_drew ?_ | refine blk_alloc ?_ _)); exact HZ7.out) Tryz.underlying24 rfl (by kernel_rfl)) rfl ?_
           all_goals exact ⟨rfl, by repeat (first | (with_reducible first | exact HB7.out | apply below_alloc | apply pw_below_drewN | apply below_drew1 | refine below_set ?_ HGE.out) | exact HB7.out)⟩
       · have hab : (a == a') = false := beq_eq_false_iff_ne.2 ha
         have hab2 : decide (a = a') = false := decide_eq_false ha
         by_cases hlt : valS b * valS c' < valS b' * valS c
         · obtain ⟨A0, A1, A2, A3⟩ := add_less V1.out V2.out ha s1 s2 s3 hlt
           rw [← en, ← em, ← ed] at A2
           rw [← en, ← em] at A0 A1
           rw [hr] at A2 A3
           have A4 : (0 : Int) = r4 := A3.symm
           subst A4
           have HLO := Lib.hid A2
           have HSE := Lib.hid A1
           have HCMP := Lib.hid (fun U (hb : Below w.heap.size w U) => natural_Compare.calls (mulS b c').1 (mulS b' c).1 _ U (Laid.below HL.out hb) rfl)
           have hcm := A0
           clear A0 A1 A2 A3 hr s1 s2 s3 en em ed hEF hlt
           go_upto_region 12 with (go_at_call 50; with_reducible refine (HCMP.out _ HF.out.B).mono ?_; rintro e w5' ⟨rfl, hb_⟩; have HF5 := Lib.hid (fin_below HF.out hb_); obtain ⟨z1, z2, z3⟩ := HF5.out.A.cells; obtain ⟨u1, u2, u3⟩ := HF5.out.C.cells; clear hb_)
           go_region_held3 (fun W' => W'.cell? ⟨q + 1, 0, none⟩ = some (.bool a')) (go_keep)
             (first
               | (go_at_call 56; with_reducible refine (natural_Sub.calls (mulS b' c).1 (mulS b c').1 _ _ _ (Laid.below HL.out (BK HF5.out.B)) (subS_f _ _)).mono ?_; rintro e w6 ⟨rfl, hb_⟩; have HF6 := Lib.hid (fin_below (fin_later HF5.out) hb_); obtain ⟨u1, u2, u3⟩ := HF6.out.C.cells; clear hb_)
               | (go_at_call 55; with_reducible refine (XRat.rational_sums_take.calls g 0 _ _ _ _ w _ (IsS.later HF6.out.I) (BK HF6.out.B) (sumstake_f _ _)).mono ?_; rintro e w6' ⟨rfl, hi_, hb_, hk_⟩; have HI6 := Lib.hid hi_; have HG6 := Lib.hid (isS_blk hi_); (try rw [HSE.out] at HG6); have HB6 := Lib.hid hb_; have HZ6 := Lib.hid (hk_.blk (blk_later HF6.out.Z) HG3.out (by simp)); have HD6 := Lib.hid (hk_.blk (blk_later HF6.out.D) HDG.out (by simp)); have HA6 := Lib.hid (HasR.keep (HasR.later HF6.out.C) hk_ HG2.out); obtain ⟨u1, u2, u3⟩ := HA6.out.cells; clear hi_ hb_ hk_)
               | (go_at_call 53; with_reducible refine (join_ok _ _ _ _ _ _ _ _ _ (Laid.below HL.out (BK HB6.out)) (blk_later HG6.out) (blk_later HD6.out) HLO.out).mono ?_; rintro e w7 ⟨rfl, hb_⟩; have HB7 := Lib.hid (below_step (BK HB6.out) hb_); have HZ7 := Lib.hid (blk_below (blk_later HZ6.out) hb_); have HA7 := Lib.hid ((HasR.later HA6.out).below hb_); obtain ⟨u1, u2, u3⟩ := HA7.out.cells; have f1 := blk_frozen HZ7.out 0; have f2 := blk_frozen HZ7.out 1; have f3 := blk_frozen HZ7.out 2; have v1 := blk_cell HZ7.out 0; have v2 := blk_cell HZ7.out 1; have v3 := blk_cell HZ7.out 2; clear hb_))
           all_goals go_wp2
           all_goals refine bodyPost_ret (results_ct rfl _ _ (q + 1 + 1) 24 #[.bool r1, .string r2, .string r3] (0, 0) _ rfl (by (with_reducible repeat (first | refine blk_drewN ?_ _ | refine blk_drew ?_ | refine blk_alloc ?_ _)); refine blk_put (cs := #[.bool r1, .string r2, .string (⟨#[]⟩ : ByteArray)]) ?_ 2 _ rfl; (with_reducible repeat (first | refine blk_drewN ?_ _ | refine blk_drew ?_ | refine blk_alloc ?_ _)); refine blk_put (cs := #[.bool r1, .string (⟨#[]⟩ : ByteArray), .string (⟨#[]⟩ : ByteArray)]) ?_ 1 _ rfl; (with_reducible repeat (first | refine blk_drewN ?_ _ | refine blk_drew ?_ | refine blk_alloc ?_ _)); refine blk_put (cs := #[.bool false, .string (⟨#[]⟩ : ByteArray), .string (⟨#[]⟩ : ByteArray)]) ?_ 0 _ rfl; (with_reducible repeat (first | refine blk_drewN ?_ _ | refine blk_drew ?_ | refine blk_alloc ?_ _)); exact HZ7.out) Tryz.underlying24 rfl (by kernel_rfl)) rfl ?_
           all_goals exact ⟨rfl, by repeat (first | (with_reducible first | exact HB7.out | apply below_alloc | apply pw_below_drewN | apply below_drew1 | refine below_set ?_ HGE.out) | exact HB7.out)⟩
         · obtain ⟨A0, A1, A2, A3⟩ := add_more V1.out V2.out ha s1 s2 s3 hlt
           rw [← en, ← em, ← ed] at A2
           rw [← en, ← em] at A0 A1
           rw [hr] at A2 A3
           have A4 : (0 : Int) = r4 := A3.symm
           subst A4
           have HLO := Lib.hid A2
           have HSE := Lib.hid A1
           have HCMP := Lib.hid (fun U (hb : Below w.heap.size w U) => natural_Compare.calls (mulS b c').1 (mulS b' c).1 _ U (Laid.below HL.out hb) rfl)
           have hcm : ¬ cmpS (mulS b c').1 (mulS b' c).1 < 0 := by omega
           clear A0 A1 A2 A3 hr s1 s2 s3 en em ed hEF hlt
           go_upto_region 13 with (go_at_call 50; with_reducible refine (HCMP.out _ HF.out.B).mono ?_; rintro e w5' ⟨rfl, hb_⟩; have HF5 := Lib.hid (fin_below HF.out hb_); obtain ⟨z1, z2, z3⟩ := HF5.out.A.cells; obtain ⟨u1, u2, u3⟩ := HF5.out.C.cells; clear hb_)
           go_region_held3 (fun W' => W'.cell? ⟨q, 0, none⟩ = some (.bool a)) (go_keep)
             (first
               | (go_at_call 56; with_reducible refine (natural_Sub.calls (mulS b c').1 (mulS b' c).1 _ _ _ (Laid.below HL.out (BK HF5.out.B)) (subS_f _ _)).mono ?_; rintro e w6 ⟨rfl, hb_⟩; have HF6 := Lib.hid (fin_below (fin_later HF5.out) hb_); obtain ⟨z1, z2, z3⟩ := HF6.out.A.cells; clear hb_)
               | (go_at_call 55; with_reducible refine (XRat.rational_sums_take.calls g 0 _ _ _ _ w _ (IsS.later HF6.out.I) (BK HF6.out.B) (sumstake_f _ _)).mono ?_; rintro e w6' ⟨rfl, hi_, hb_, hk_⟩; have HI6 := Lib.hid hi_; have HG6 := Lib.hid (isS_blk hi_); (try rw [HSE.out] at HG6); have HB6 := Lib.hid hb_; have HZ6 := Lib.hid (hk_.blk (blk_later HF6.out.Z) HG3.out (by simp)); have HD6 := Lib.hid (hk_.blk (blk_later HF6.out.D) HDG.out (by simp)); have HA6 := Lib.hid (HasR.keep (HasR.later HF6.out.A) hk_ HG1.out); obtain ⟨z1, z2, z3⟩ := HA6.out.cells; clear hi_ hb_ hk_)
               | (go_at_call 53; with_reducible refine (join_ok _ _ _ _ _ _ _ _ _ (Laid.below HL.out (BK HB6.out)) (blk_later HG6.out) (blk_later HD6.out) HLO.out).mono ?_; rintro e w7 ⟨rfl, hb_⟩; have HB7 := Lib.hid (below_step (BK HB6.out) hb_); have HZ7 := Lib.hid (blk_below (blk_later HZ6.out) hb_); have HA7 := Lib.hid ((HasR.later HA6.out).below hb_); obtain ⟨z1, z2, z3⟩ := HA7.out.cells; have f1 := blk_frozen HZ7.out 0; have f2 := blk_frozen HZ7.out 1; have f3 := blk_frozen HZ7.out 2; have v1 := blk_cell HZ7.out 0; have v2 := blk_cell HZ7.out 1; have v3 := blk_cell HZ7.out 2; clear hb_))
           all_goals go_wp2
           all_goals refine bodyPost_ret (results_ct rfl _ _ (q + 1 + 1) 24 #[.bool r1, .string r2, .string r3] (0, 0) _ rfl (by (with_reducible repeat (first | refine blk_drewN ?_ _ | refine blk_drew ?_ | refine blk_alloc ?_ _)); refine blk_put (cs := #[.bool r1, .string r2, .string (⟨#[]⟩ : ByteArray)]) ?_ 2 _ rfl; (with_reducible repeat (first | refine blk_drewN ?_ _ | refine blk_drew ?_ | refine blk_alloc ?_ _)); refine blk_put (cs := #[.bool r1, .string (⟨#[]⟩ : ByteArray), .string (⟨#[]⟩ : ByteArray)]) ?_ 1 _ rfl; (with_reducible repeat (first | refine blk_drewN ?_ _ | refine blk_drew ?_ | refine blk_alloc ?_ _)); refine blk_put (cs := #[.bool false, .string (⟨#[]⟩ : ByteArray), .string (⟨#[]⟩ : ByteArray)]) ?_ 0 _ rfl; (with_reducible repeat (first | refine blk_drewN ?_ _ | refine blk_drew ?_ | refine blk_alloc ?_ _)); exact HZ7.out) Tryz.underlying24 rfl (by kernel_rfl)) rfl ?_
           all_goals exact ⟨rfl, by repeat (first | (with_reducible first | exact HB7.out | apply below_alloc | apply pw_below_drewN | apply below_drew1 | refine below_set ?_ HGE.out) | exact HB7.out)⟩
     · have h3 := ((add_errs V1.out V2.out hEF).1 he).symm.trans hr
       injection h3 with h4 h5
       injection h4 with h6 h7
       injection h7 with h8 h9
       subst h6; subst h8; subst h9; subst h5
       clear hr hEF HADD
       go_upto_region 7 with fail
       go_region_held3 (fun W' => W'.cell? ⟨g, 0, none⟩ = some (.int .i64 eF)) (go_keep) (fail)
       all_goals go_wp2
       all_goals refine bodyPost_ret (results_ct rfl _ _ (q + 1 + 1) 24 #[.bool false, .string (⟨#[]⟩ : ByteArray), .string (⟨#[]⟩ : ByteArray)] (0, 0) _ rfl (by (with_reducible repeat (first | refine blk_drewN ?_ _ | refine blk_drew ?_ | refine blk_alloc ?_ _)); refine blk_put (cs := #[.bool false, .string (⟨#[]⟩ : ByteArray), .string (⟨#[]⟩ : ByteArray)]) ?_ 2 _ rfl; (with_reducible repeat (first | refine blk_drewN ?_ _ | refine blk_drew ?_ | refine blk_alloc ?_ _)); refine blk_put (cs := #[.bool false, .string (⟨#[]⟩ : ByteArray), .string (⟨#[]⟩ : ByteArray)]) ?_ 1 _ rfl; (with_reducible repeat (first | refine blk_drewN ?_ _ | refine blk_drew ?_ | refine blk_alloc ?_ _)); refine blk_put (cs := #[.bool false, .string (⟨#[]⟩ : ByteArray), .string (⟨#[]⟩ : ByteArray)]) ?_ 0 _ rfl; (with_reducible repeat (first | refine blk_drewN ?_ _ | refine blk_drew ?_ | refine blk_alloc ?_ _)); first | exact HF.out.Z | exact HZ5.out) Tryz.underlying24 rfl (by kernel_rfl)) rfl ?_
       all_goals exact ⟨rfl, by repeat (first | (with_reducible first | exact HF.out.B | apply below_alloc | apply pw_below_drewN | apply below_drew1 | refine below_set ?_ HGE.out) | exact HF.out.B)⟩)
end Go.Proofs.YthpomhboogcigaaGreatDoor
end
section -- RatAdd2
namespace Go.Proofs.YthpomhboogcigaaGreatDoor
open Go.RowKit Go.Proofs.YthpomhboogcigaaGreatDoorW.PrintWords Go.Proofs.YthpomhboogcigaaGreatDoorW.PrintMore Go.Proofs.YthpomhboogcigaaGreatDoorW.PrintLast
set_option linter.unusedVariables false
set_option linter.unusedSimpArgs false
def rational_Add.f (a : Bool) (b c : ByteArray) (a' : Bool) (b' c' : ByteArray) : Option R4 := some (flat (addR (a, b, c) (a', b', c')))
set_option maxHeartbeats 4000000 in
set_option maxRecDepth 100000 in
theorem add_bad1 (a : Bool) (b c : ByteArray) (a' : Bool) (b' c' : ByteArray) (w : World) (hL : Laid w) (h1 : validR (a, b, c) = false) :
    Calls Tryz.prog 25 #[.agg #[.bool a, .string b, .string c], .agg #[.bool a', .string b', .string c']] w fun e w' => e = .returned (.tuple #[.agg #[.bool false, .string (⟨#[]⟩ : ByteArray), .string (⟨#[]⟩ : ByteArray)], .int .i64 1]) ∧ Below w.heap.size w w' := by
  have HV1 := Lib.hid (fun W (hb : Below w.heap.size w W) => rational_Valid.calls a b c false W (Laid.below hL hb) (by unfold rational_Valid.f; rw [h1]))
  have HX := Lib.hid (boxes w a a' b c b' c')
  have HGE := Lib.hid (show w.heap.size ≤ w.heap.size + 1 + 1 by omega)
  clear hL h1
  go_enter Tryz.func25, Tryz.ntmps25
  go_wp2_with (go_at_call 21; first
    | (with_reducible refine (HV1.out _ ?_).mono ?_; (exact three_below _ _ _ _); rintro e w1 ⟨rfl, hb⟩; have HB1 := Lib.hid (below_step (three_below _ _ _ _) hb); have HY1 := Lib.hid ((HX.out _).1.below hb); have HY2 := Lib.hid ((HX.out _).2.below hb); have HY3 := Lib.hid (blk_below (third_box _ _ _ _) hb); clear HX hb; obtain ⟨y1, y2, y3⟩ := HY2.out.cells; have f1 := blk_frozen HY3.out 0; have f2 := blk_frozen HY3.out 1; have f3 := blk_frozen HY3.out 2; have v1 := blk_cell HY3.out 0; have v2 := blk_cell HY3.out 1; have v3 := blk_cell HY3.out 2)
    | fail)
  refine bodyPost_ret (results_ct rfl _ _ (w.heap.size + 1 + 1) 24 #[.bool false, .string (⟨#[]⟩ : ByteArray), .string (⟨#[]⟩ : ByteArray)] (0, 0) _ rfl (by (with_reducible repeat (first | refine blk_drewN ?_ _ | refine blk_drew ?_ | refine blk_alloc ?_ _)); refine blk_put (cs := #[.bool false, .string (⟨#[]⟩ : ByteArray), .string (⟨#[]⟩ : ByteArray)]) ?_ 2 _ rfl; (with_reducible repeat (first | refine blk_drewN ?_ _ | refine blk_drew ?_ | refine blk_alloc ?_ _)); refine blk_put (cs := #[.bool false, .string (⟨#[]⟩ : ByteArray), .string (⟨#[]⟩ : ByteArray)]) ?_ 1 _ rfl; (with_reducible repeat (first | refine blk_drewN ?_ _ | refine blk_drew ?_ | refine blk_alloc ?_ _)); refine blk_put (cs := #[.bool false, .string (⟨#[]⟩ : ByteArray), .string (⟨#[]⟩ : ByteArray)]) ?_ 0 _ rfl; (with_reducible repeat (first | refine blk_drewN ?_ _ | refine blk_drew ?_ | refine blk_alloc ?_ _)); exact HY3.out) Tryz.underlying24 rfl (by kernel_rfl)) rfl ?_
  exact ⟨rfl, by repeat (first | (with_reducible first | exact HB1.out | apply below_alloc | apply pw_below_drewN | apply below_drew1 | refine below_set ?_ HGE.out) | exact HB1.out)⟩
set_option maxHeartbeats 4000000 in
set_option maxRecDepth 100000 in
theorem add_bad2 (a : Bool) (b c : ByteArray) (a' : Bool) (b' c' : ByteArray) (w : World) (hL : Laid w) (h1 : validR (a, b, c) = true) (h2 : validR (a', b', c') = false) :
    Calls Tryz.prog 25 #[.agg #[.bool a, .string b, .string c], .agg #[.bool a', .string b', .string c']] w fun e w' => e = .returned (.tuple #[.agg #[.bool false, .string (⟨#[]⟩ : ByteArray), .string (⟨#[]⟩ : ByteArray)], .int .i64 1]) ∧ Below w.heap.size w w' := by
  have HV1 := Lib.hid (fun W (hb : Below w.heap.size w W) => rational_Valid.calls a b c true W (Laid.below hL hb) (by unfold rational_Valid.f; rw [h1]))
  have HV2 := Lib.hid (fun W (hb : Below w.heap.size w W) => rational_Valid.calls a' b' c' false W (Laid.below hL hb) (by unfold rational_Valid.f; rw [h2]))
  have HX := Lib.hid (boxes w a a' b c b' c')
  have HGE := Lib.hid (show w.heap.size ≤ w.heap.size + 1 + 1 by omega)
  clear hL h1 h2
  go_enter Tryz.func25, Tryz.ntmps25
  go_wp2_with (go_at_call 21; first
    | (with_reducible refine (HV1.out _ ?_).mono ?_; (exact three_below _ _ _ _); rintro e w1 ⟨rfl, hb⟩; have HB1 := Lib.hid (below_step (three_below _ _ _ _) hb); have HY1 := Lib.hid ((HX.out _).1.below hb); have HY2 := Lib.hid ((HX.out _).2.below hb); have HY3 := Lib.hid (blk_below (third_box _ _ _ _) hb); clear HX hb; obtain ⟨y1, y2, y3⟩ := HY2.out.cells)
    | (with_reducible refine (HV2.out _ HB1.out).mono ?_; rintro e w2 ⟨rfl, hb⟩; have HB2 := Lib.hid (below_step HB1.out hb); have hz := blk_below HY3.out hb; have HZ3 := Lib.hid hz; have f1 := blk_frozen hz 0; have f2 := blk_frozen hz 1; have f3 := blk_frozen hz 2; have v1 := blk_cell hz 0; have v2 := blk_cell hz 1; have v3 := blk_cell hz 2; clear hb y1 y2 y3 hz))
  refine bodyPost_ret (results_ct rfl _ _ (w.heap.size + 1 + 1) 24 #[.bool false, .string (⟨#[]⟩ : ByteArray), .string (⟨#[]⟩ : ByteArray)] (0, 0) _ rfl (by (with_reducible repeat (first | refine blk_drewN ?_ _ | refine blk_drew ?_ | refine blk_alloc ?_ _)); refine blk_put (cs := #[.bool false, .string (⟨#[]⟩ : ByteArray), .string (⟨#[]⟩ : ByteArray)]) ?_ 2 _ rfl; (with_reducible repeat (first | refine blk_drewN ?_ _ | refine blk_drew ?_ | refine blk_alloc ?_ _)); refine blk_put (cs := #[.bool false, .string (⟨#[]⟩ : ByteArray), .string (⟨#[]⟩ : ByteArray)]) ?_ 1 _ rfl; (with_reducible repeat (first | refine blk_drewN ?_ _ | refine blk_drew ?_ | refine blk_alloc ?_ _)); refine blk_put (cs := #[.bool false, .string (⟨#[]⟩ : ByteArray), .string (⟨#[]⟩ : ByteArray)]) ?_ 0 _ rfl; (with_reducible repeat (first | refine blk_drewN ?_ _ | refine blk_drew ?_ | refine blk_alloc ?_ _)); exact HZ3.out) Tryz.underlying24 rfl (by kernel_rfl)) rfl ?_
  exact ⟨rfl, by repeat (first | (with_reducible first | exact HB2.out | apply below_alloc | apply pw_below_drewN | apply below_drew1 | refine below_set ?_ HGE.out) | exact HB2.out)⟩
theorem rational_Add.calls (a0_0 : Bool) (a0_1 : ByteArray) (a0_2 : ByteArray) (a1_0 : Bool) (a1_1 : ByteArray) (a1_2 : ByteArray) (r1 : Bool) (r2 : ByteArray) (r3 : ByteArray) (r4 : Int) (w : World) (hL : Laid w) (h : rational_Add.f a0_0 a0_1 a0_2 a1_0 a1_1 a1_2 = some (r1, r2, r3, r4)) :
    Calls Tryz.prog 25 #[.agg #[.bool a0_0, .string a0_1, .string a0_2], .agg #[.bool a1_0, .string a1_1, .string a1_2]] w fun e w' => e = .returned (.tuple #[.agg #[.bool r1, .string r2, .string r3], .int .i64 r4]) ∧ Below w.heap.size w w' := by
  have h' := Option.some.inj h
  unfold flat at h'
  simp only [Prod.mk.injEq] at h'
  obtain ⟨rfl, rfl, rfl, rfl⟩ := h'
  cases h1 : validR (a0_0, a0_1, a0_2) with
  | false =>
    have e : addR (a0_0, a0_1, a0_2) (a1_0, a1_1, a1_2) = (noR, 1) := by unfold addR; rw [h1]; rfl
    rw [e]
    exact add_bad1 a0_0 a0_1 a0_2 a1_0 a1_1 a1_2 w hL h1
  | true =>
    cases h2 : validR (a1_0, a1_1, a1_2) with
    | false =>
      have e : addR (a0_0, a0_1, a0_2) (a1_0, a1_1, a1_2) = (noR, 1) := by unfold addR; rw [h1, h2]; rfl
      rw [e]
      exact add_bad2 a0_0 a0_1 a0_2 a1_0 a1_1 a1_2 w hL h1 h2
    | true => exact add_good a0_0 a0_1 a0_2 a1_0 a1_1 a1_2 w hL h1 h2 _ _ _ _ rfl
end Go.Proofs.YthpomhboogcigaaGreatDoor
end

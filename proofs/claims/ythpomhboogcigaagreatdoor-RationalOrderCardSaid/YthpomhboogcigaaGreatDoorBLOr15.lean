/- The texts of this claim, laid together by a program of this session (bundle.py). -/
import Derived.Test.YthpomhboogcigaaGreatDoorBLOr1
import Derived.Test.YthpomhboogcigaaGreatDoorBLOr11
import Derived.Test.YthpomhboogcigaaGreatDoorBLOr13
import Derived.Test.YthpomhboogcigaaGreatDoorBLOr14
import Derived.Lib.IndexMore
import Derived.Shelf.RegionOpenPlain
import Derived.WalkKit
import Derived.Lib.Walk
import Derived.BigCall
import Derived.BigGuard
import Derived.Deep.Draws
import Derived.Laws.Strings3
import Derived.Shelf.Strings.Search2
import Derived.Lib.CutLaws
import Derived.Test.YthpomhboogcigaaGreatDoorProg
import Derived.Below
import Derived.Deep.AppendLies
import Derived.Maps.AppendAt
import Derived.OwnWalk
import Derived.Laws.BytesArg
import Derived.Laws.MakeOwn
import Derived.Laws.OwnMore
import Derived.Deep.OwnRows
import Derived.Tactics
import Derived.Lib.ConvBytes
import Derived.Laws.Slices
import Derived.KernelRfl
import Derived.RowKit3
import Derived.Deep.LoopGhost
import Derived.Deep.QuietTactic
import Derived.BigQuiet
import Derived.WideLaws
import Derived.Deep.DeepCutAuto
import Derived.Deep.CutBlock
import Derived.Deep.RegionHeld3
import Derived.Laws.Rows
import Derived.Lib.AppendStr
import Derived.ArgAppend
import Derived.Laws.IdiomCopy
import Derived.OrdersHeld
import Derived.Laws.BitsLemmas
import Derived.RowKit
import Derived.Outline
section -- RatText
namespace Go.Proofs.YthpomhboogcigaaGreatDoor
set_option linter.unusedVariables false
set_option linter.unusedSimpArgs false
def baL (l : List UInt8) : ByteArray := ⟨l.toArray⟩
theorem baL_list (l : List UInt8) : (baL l).data.toList = l := by simp [baL]
theorem baL_self (a : ByteArray) : baL a.data.toList = a := by cases a; simp [baL]
theorem baL_eq {a : ByteArray} {l : List UInt8} : a = baL l ↔ a.data.toList = l := ⟨fun h => by rw [h, baL_list], fun h => by rw [← h, baL_self]⟩
def textL (a : R3) : List UInt8 := (if a.1 then [45] else []) ++ (a.2.1.data.toList ++ (if a.2.2.data.toList = [49] then [] else 47 :: a.2.2.data.toList))
def textR (a : R3) : ByteArray × Int := if validR a then (baL (textL a), 0) else (noS, 1)
def cut1 : List UInt8 → List UInt8 × List UInt8 × Bool
  | [] => ([], [], false)
  | c :: l => if c = 47 then ([], l, true) else (c :: (cut1 l).1, (cut1 l).2.1, (cut1 l).2.2)
def restL (t : List UInt8) : List UInt8 := if t.head? == some 45 then t.tail else t
def partsR (t : List UInt8) : R3 := (t.head? == some 45, baL (cut1 (restL t)).1, if (cut1 (restL t)).2.2 then baL (cut1 (restL t)).2.1 else baL [49])
def partsB (t : List UInt8) : Bool := (cut1 (restL t)).2.2 && decide ((cut1 (restL t)).2.1 = [49])
def parseR (t : ByteArray) : R3 × Int := if validR (partsR t.data.toList) && !(partsB t.data.toList) then (partsR t.data.toList, 0) else (noR, 5)
theorem cut1_join : ∀ l : List UInt8, ((cut1 l).2.2 = true ∧ l = (cut1 l).1 ++ 47 :: (cut1 l).2.1) ∨ ((cut1 l).2.2 = false ∧ (cut1 l).1 = l ∧ (cut1 l).2.1 = [])
  | [] => Or.inr ⟨rfl, rfl, rfl⟩
  | c :: l => by
    unfold cut1
    by_cases h : c = 47
    · rw [if_pos h, h]; exact Or.inl ⟨rfl, rfl⟩
    · rw [if_neg h]
      rcases cut1_join l with ⟨h1, h2⟩ | ⟨h1, h2, h3⟩
      · exact Or.inl ⟨h1, by show c :: l = c :: (_ ++ _); rw [← h2]⟩
      · exact Or.inr ⟨h1, by show c :: _ = c :: l; rw [h2], h3⟩
theorem rest_join (t : List UInt8) : t = (if (t.head? == some 45) = true then [45] else []) ++ restL t := by
  unfold restL
  cases t with
  | nil => rfl
  | cons c l =>
    by_cases h : c = 45
    · subst h; rfl
    · have : ((c :: l).head? == some 45) = false := by simp [h]
      rw [this]; rfl
/-- What is read has that string, unless its denominator is written though it is 1. -/
theorem text_partsR (t : List UInt8) : textL (partsR t) = t ↔ partsB t = false := by
  have hj := rest_join t
  unfold textL partsR partsB
  simp only []
  generalize hb : (t.head? == some 45) = b at *
  rcases cut1_join (restL t) with ⟨h1, h2⟩ | ⟨h1, h2, h3⟩
  · rw [h1, if_pos rfl]
    simp only [baL_list, Bool.true_and, decide_eq_false_iff_not]
    by_cases e : (cut1 (restL t)).2.1 = [49]
    · rw [if_pos e]
      refine ⟨fun h => ?_, fun h => absurd e h⟩
      exfalso
      have l1 := congrArg List.length h
      have l2 := congrArg List.length hj
      have l3 := congrArg List.length h2
      simp only [List.length_append, List.length_cons, List.length_nil] at l1 l2 l3
      rw [e] at l3
      simp only [List.length_cons, List.length_nil] at l3
      omega
    · rw [if_neg e]
      refine ⟨fun _ => e, fun _ => ?_⟩
      rw [← h2]; exact hj.symm
  · rw [h1]
    simp only [baL_list, Bool.false_eq_true, if_false, if_true, Bool.false_and, iff_true, List.append_nil]
    rw [h2]; exact hj.symm
theorem textR_ok {a : R3} (h : VR a) : textR a = (baL (textL a), 0) := by unfold textR; rw [validR_iff.2 h]; rfl
theorem cut_eq : ∀ l : List UInt8, Lib.cut l [47] = cut1 l := by
  have hi : ∀ l : List UInt8, ((cut1 l).2.2 = true ∧ Lib.index l [47] = (cut1 l).1.length) ∨ ((cut1 l).2.2 = false ∧ Lib.index l [47] = -1) := by
    intro l
    induction l with
    | nil => exact Or.inr ⟨rfl, rfl⟩
    | cons c l ih =>
      unfold cut1 Lib.index
      by_cases h : c = 47
      · rw [if_pos h, h]; exact Or.inl ⟨rfl, rfl⟩
      · have hp : ([47] : List UInt8).isPrefixOf (c :: l) = false := by simp [List.isPrefixOf, Ne.symm h]
        rw [if_neg h, hp]
        rcases ih with ⟨h1, h2⟩ | ⟨h1, h2⟩
        · refine Or.inl ⟨h1, ?_⟩
          rw [h2]
          have : (((cut1 l).1.length : Int) == -1) = false := by rw [beq_eq_false_iff_ne]; omega
          rw [this]; simp
        · refine Or.inr ⟨h1, ?_⟩
          rw [h2]; rfl
  intro l
  unfold Lib.cut
  rcases hi l with ⟨h1, h2⟩ | ⟨h1, h2⟩
  · rw [h2, if_pos (by omega), Int.toNat_natCast]
    rcases cut1_join l with ⟨h3, h4⟩ | ⟨h3, h4⟩
    · have e : l.take (cut1 l).1.length = (cut1 l).1 ∧ l.drop ((cut1 l).1.length + ([47] : List UInt8).length) = (cut1 l).2.1 := by
        generalize (cut1 l).1 = x at *
        generalize (cut1 l).2.1 = y at *
        subst h4
        refine ⟨List.take_left' rfl, ?_⟩
        rw [← List.drop_drop, List.drop_left' rfl]; rfl
      rw [e.1, e.2, ← h3]
    · rw [h3] at h1; cases h1
  · rw [h2, if_neg (by omega)]
    rcases cut1_join l with ⟨h3, h4⟩ | ⟨h3, h4, h5⟩
    · rw [h3] at h1; cases h1
    · exact Prod.ext h4.symm (Prod.ext h5.symm h3.symm)
end Go.Proofs.YthpomhboogcigaaGreatDoor
end
section -- RatCut
namespace Go.Proofs.YthpomhboogcigaaGreatDoor
open Go.Shelf Go.RowKit Go.Proofs.YthpomhboogcigaaGreatDoorW.PrintWords Go.Proofs.YthpomhboogcigaaGreatDoorW.PrintMore Go.Proofs.YthpomhboogcigaaGreatDoorW.PrintLast
set_option linter.unusedVariables false
set_option linter.unusedSimpArgs false
theorem slash_size : (⟨#[47]⟩ : ByteArray).size = 1 := rfl
set_option maxHeartbeats 2000000 in
set_option maxRecDepth 100000 in
theorem any_cut1 {P : Program} {ρ : Ren} (L : Lays.n220 P ρ) (s : ByteArray) (w : World) (hs : s.size < 4294967281) :
    Calls P (ρ.f 220) #[.string s, .string ⟨#[47]⟩] w fun e w' => e = .returned (.tuple #[.string ⟨(Lib.cut s.data.toList [47]).1.toArray⟩, .string ⟨(Lib.cut s.data.toList [47]).2.1.toArray⟩, .bool (Lib.cut s.data.toList [47]).2.2]) ∧ ∃ n, w' = w.drewN n := by
  rcases Lib.indexB_cases s ⟨#[47]⟩ with hix | ⟨i, hix, hroom⟩
  · obtain ⟨e1, e2, e3⟩ := Lib.cutB_miss s ⟨#[47]⟩ hix
    have hix' : Lib.indexByte s.data.toList 47 = -1 := by rw [← Lib.index_one]; exact hix
    have e1' : (⟨(Lib.cut s.data.toList [47]).1.toArray⟩ : ByteArray) = s := e1
    have e2' : (⟨(Lib.cut s.data.toList [47]).2.1.toArray⟩ : ByteArray) = ByteArray.empty := e2
    have e3' : (Lib.cut s.data.toList [47]).2.2 = false := e3
    rw [e1', e2', e3']
    clear e1 e2 e3 e1' e2' e3' hix
    have t3 := L.t3; have t4 := L.t4; have t9 := L.t9
    have a3 : ∀ w, (isAgg (ρ.t 3)).run P w = .ok false w := run_isAgg_plain L.t3 rfl; have a4 : ∀ w, (isAgg (ρ.t 4)).run P w = .ok false w := run_isAgg_plain L.t4 rfl; have a9 : ∀ w, (isAgg (ρ.t 9)).run P w = .ok false w := run_isAgg_plain L.t9 rfl
    have e219 : ∀ args w, (callFunc (ρ.f 219) args).run P w = .ok (.enter (ρ.f 219) args) w := enters_of L.f219 (by kernel_rfl) rfl
    have mixed := L.mixed; have z3 := L.z3; have v3 := L.v3; have z4 := L.z4; have v4 := L.v4; have z9 := L.z9; have v9 := L.v9
    have HIX := Lib.hid hix'
    clear hix'
    go_enter L.f220, Body.n220_ntmps ρ
    go_wp2_with (go_at_fn (ρ.f 219); refine (Any.stringslite_Index_one { L with } _ _ _).mono ?_; rintro e w' ⟨rfl, rfl⟩; rw [HIX.out])
    go_ret3
    exact ⟨rfl, 0, rfl⟩
  · obtain ⟨e1, e2, e3⟩ := Lib.cutB_hit s ⟨#[47]⟩ i hix
    rw [slash_size] at e2 hroom
    have hix' : Lib.indexByte s.data.toList 47 = (i : Int) := by rw [← Lib.index_one]; exact hix
    have e1' : (⟨(Lib.cut s.data.toList [47]).1.toArray⟩ : ByteArray) = s.extract 0 i := e1
    have e2' : (⟨(Lib.cut s.data.toList [47]).2.1.toArray⟩ : ByteArray) = s.extract (i + 1) s.size := e2
    have e3' : (Lib.cut s.data.toList [47]).2.2 = true := e3
    rw [e1', e2', e3']
    clear e1 e2 e3 e1' e2' e3' hix
    have c1 : (0 : Int) ≤ ↑i := by omega
    have c2 : (↑i : Int) ≤ ↑s.size := by omega
    have c3 : (0 : Int) ≤ ↑i + 1 := by omega
    have c4 : (↑i + 1 : Int) ≤ ↑s.size := by omega
    have t3 := L.t3; have t4 := L.t4; have t9 := L.t9
    have a3 : ∀ w, (isAgg (ρ.t 3)).run P w = .ok false w := run_isAgg_plain L.t3 rfl; have a4 : ∀ w, (isAgg (ρ.t 4)).run P w = .ok false w := run_isAgg_plain L.t4 rfl; have a9 : ∀ w, (isAgg (ρ.t 9)).run P w = .ok false w := run_isAgg_plain L.t9 rfl
    have e219 : ∀ args w, (callFunc (ρ.f 219) args).run P w = .ok (.enter (ρ.f 219) args) w := enters_of L.f219 (by kernel_rfl) rfl
    have mixed := L.mixed; have z3 := L.z3; have v3 := L.v3; have z4 := L.z4; have v4 := L.v4; have z9 := L.z9; have v9 := L.v9
    have HIX := Lib.hid hix'
    clear hix'
    go_enter L.f220, Body.n220_ntmps ρ
    go_wp2_with (go_at_fn (ρ.f 219); refine (Any.stringslite_Index_one { L with } _ _ _).mono ?_; rintro e w' ⟨rfl, rfl⟩; rw [HIX.out])
    go_region_o
    go_wp2
    go_ret3
    exact ⟨rfl, 1, rfl⟩
set_option maxHeartbeats 1000000 in
theorem any_scut1 {P : Program} {ρ : Ren} (L : Lays.n145 P ρ) (s : ByteArray) (w : World) (hs : s.size < 4294967281) :
    Calls P (ρ.f 145) #[.string s, .string ⟨#[47]⟩] w fun e w' => e = .returned (.tuple #[.string ⟨(Lib.cut s.data.toList [47]).1.toArray⟩, .string ⟨(Lib.cut s.data.toList [47]).2.1.toArray⟩, .bool (Lib.cut s.data.toList [47]).2.2]) ∧ ∃ n, w' = w.drewN n := by
  have t4 := L.t4; have t9 := L.t9; have t59 := L.t59
  have a4 : ∀ w, (isAgg (ρ.t 4)).run P w = .ok false w := run_isAgg_plain L.t4 rfl; have a9 : ∀ w, (isAgg (ρ.t 9)).run P w = .ok false w := run_isAgg_plain L.t9 rfl; have a59 : ∀ w, (isAgg (ρ.t 59)).run P w = .ok false w := run_isAgg_plain L.t59 rfl
  have e220 : ∀ args w, (callFunc (ρ.f 220) args).run P w = .ok (.enter (ρ.f 220) args) w := enters_of L.f220 (by kernel_rfl) rfl
  have mixed := L.mixed; have z4 := L.z4; have v4 := L.v4; have z9 := L.z9; have v9 := L.v9; have z59 := L.z59; have v59 := L.v59
  go_enter L.f145, Body.n145_ntmps ρ
  go_wp2_with (go_at_fn (ρ.f 220); refine (any_cut1 { L with } _ _ hs).mono ?_; rintro e w' ⟨rfl, n, rfl⟩)
  go_ret3
  exact ⟨rfl, n, rfl⟩
def strings_Cut.f (s sep : ByteArray) : Option (ByteArray × ByteArray × Bool) := if sep = ⟨#[47]⟩ ∧ s.size < 4294967281 then some (baL (cut1 s.data.toList).1, baL (cut1 s.data.toList).2.1, (cut1 s.data.toList).2.2) else none
theorem strings_Cut.calls (a0 a1 r1 r2 : ByteArray) (r3 : Bool) (w : World) (h : strings_Cut.f a0 a1 = some (r1, r2, r3)) :
    Calls Tryz.prog 45 #[.string a0, .string a1] w fun e w' => e = .returned (.tuple #[.string r1, .string r2, .bool r3]) ∧ Below w.heap.size w w' := by
  unfold strings_Cut.f at h
  split at h
  case isFalse => cases h
  rename_i hc
  obtain ⟨rfl, hs⟩ := hc
  injection h with h
  simp only [Prod.mk.injEq] at h
  obtain ⟨rfl, rfl, rfl⟩ := h
  have hw := any_scut1 Tryz.laysT145 a0 w hs
  rw [cut_eq] at hw
  refine hw.mono ?_
  rintro e w' ⟨rfl, n, rfl⟩
  exact ⟨rfl, pw_below_drewN (Below.refl _ _) n⟩
def strings_CutPrefix.f (s p : ByteArray) : Option (ByteArray × Bool) := if p = ⟨#[45]⟩ then some (baL (restL s.data.toList), s.data.toList.head? == some 45) else none
theorem prefix_eq (l : List UInt8) : Lib.hasPrefix l [45] = (l.head? == some 45) ∧ Lib.trimPrefix l [45] = restL l := by
  have h : Lib.hasPrefix l [45] = (l.head? == some 45) := by
    unfold Lib.hasPrefix
    cases l with
    | nil => rfl
    | cons c l =>
      by_cases h : c = 45
      · subst h; rfl
      · rw [show ((c :: l).head? == some 45) = false by simp [h]]; simp [List.isPrefixOf, Ne.symm h]
  refine ⟨h, ?_⟩
  unfold Lib.trimPrefix restL
  rw [h]
  cases l <;> rfl
theorem strings_CutPrefix.calls (a0 a1 r1 : ByteArray) (r2 : Bool) (w : World) (h : strings_CutPrefix.f a0 a1 = some (r1, r2)) :
    Calls Tryz.prog 44 #[.string a0, .string a1] w fun e w' => e = .returned (.tuple #[.string r1, .bool r2]) ∧ Below w.heap.size w w' := by
  unfold strings_CutPrefix.f at h
  split at h
  case isFalse => cases h
  rename_i hc
  subst hc
  injection h with h
  simp only [Prod.mk.injEq] at h
  obtain ⟨rfl, rfl⟩ := h
  refine (Tryz.strings_CutPrefix a0 ⟨#[45]⟩ w).mono ?_
  rintro e w' ⟨rfl, rfl⟩
  obtain ⟨h1, h2⟩ := prefix_eq a0.data.toList
  rw [h1, h2]
  exact ⟨rfl, Below.refl _ _⟩
end Go.Proofs.YthpomhboogcigaaGreatDoor
end
section -- RatFns2
namespace Go.Proofs.YthpomhboogcigaaGreatDoor
open Go.RowKit Go.Proofs.YthpomhboogcigaaGreatDoorW.PrintWords Go.Proofs.YthpomhboogcigaaGreatDoorW.PrintMore Go.Proofs.YthpomhboogcigaaGreatDoorW.PrintLast
set_option linter.unusedVariables false
set_option linter.unusedSimpArgs false
theorem list_ext {a b : ByteArray} (h : a.toList = b.toList) : a = b := by
  have := toList_eq (a := a) (b := b)
  rw [h] at this
  simpa using this
theorem eq0_iff {b : ByteArray} : b.toList = ([48] : List UInt8) ↔ b = decS 0 := by
  rw [← str0]
  constructor
  · intro h; exact list_ext (h.trans (Lib.toList_data ⟨#[48]⟩).symm)
  · rintro rfl; exact Lib.toList_data ⟨#[48]⟩
def rational_minus.f (a : Bool) (b c : ByteArray) : Option (Bool × ByteArray × ByteArray) := some (minusR (a, b, c))
theorem rational_minus.calls (a0_0 : Bool) (a0_1 : ByteArray) (a0_2 : ByteArray) (r1 : Bool) (r2 : ByteArray) (r3 : ByteArray) (w : World) (h : rational_minus.f a0_0 a0_1 a0_2 = some (r1, r2, r3)) :
    Calls Tryz.prog 48 #[.agg #[.bool a0_0, .string a0_1, .string a0_2]] w fun e w' => e = .returned (.agg #[.bool r1, .string r2, .string r3]) ∧ Below w.heap.size w w' := by
  refine XRat.rational_minus.calls a0_0 a0_1 a0_2 r1 r2 r3 w ?_
  rw [← h]
  unfold XRat.rational_minus.f rational_minus.f minusR
  cases a0_0 with
  | true => rfl
  | false =>
    rw [if_neg (by simp)]
    by_cases e : a0_1.toList = ([48] : List UInt8)
    · have e' := eq0_iff.1 e
      simp [e, ← e']
    · have e' := fun x => e (eq0_iff.2 x)
      show some ((!(a0_1.toList == ([48] : List UInt8))), a0_1, a0_2) = some (!false && !decide (a0_1 = decS 0), a0_1, a0_2)
      rw [beq_eq_false_iff_ne.2 e, decide_eq_false e']; rfl
def rational_Text.f (a : Bool) (b c : ByteArray) : Option (ByteArray × Int) := some (textR (a, b, c))
theorem text_fR (a : Bool) (b c : ByteArray) : XRat.rational_Text.f 1 a b c = some (textR (a, b, c)) := by
  unfold XRat.rational_Text.f textR
  rw [valid_fR]
  simp only [Option.bind_some]
  cases hv : validR (a, b, c) with
  | false => rfl
  | true =>
    have V := validR_iff.1 hv
    obtain ⟨_, s1, _, _⟩ := validL_iff.1 V.n
    obtain ⟨_, s2, _, _⟩ := validL_iff.1 V.d
    have s1' : b.size ≤ 1000 := s1
    have s2' : c.size ≤ 1000 := s2
    have z1 : ((⟨#[47]⟩ : ByteArray) ++ c).size = 1 + c.size := by rw [ByteArray.size_append]; rfl
    have z2 : (b ++ ((⟨#[47]⟩ : ByteArray) ++ c)).size = b.size + (1 + c.size) := by rw [ByteArray.size_append, z1]
    rw [if_pos rfl, if_pos (show true = true from rfl), z1, z2]
    have hl : c.toList = c.data.toList := Lib.toList_data c
    by_cases e : c.toList = ([49] : List UInt8)
    · rw [if_pos e]
      have e' : c.data.toList = [49] := by rw [← hl]; exact e
      cases a with
      | true =>
        rw [if_pos rfl, if_pos (by omega)]
        refine congrArg (fun x => some (x, (0 : Int))) (baL_eq.2 ?_)
        unfold textL
        simp only [e', if_true, ByteArray.data_append, Array.toList_append, List.append_nil]
      | false =>
        rw [if_neg (by simp)]
        refine congrArg (fun x => some (x, (0 : Int))) (baL_eq.2 ?_)
        unfold textL
        simp [e']
    · rw [if_neg e, if_pos (by omega), if_pos (by omega)]
      have e' : ¬ c.data.toList = [49] := by rw [← hl]; exact e
      cases a with
      | true =>
        rw [if_pos rfl, if_pos (by omega)]
        refine congrArg (fun x => some (x, (0 : Int))) (baL_eq.2 ?_)
        unfold textL
        simp only [e', if_true, if_false, ByteArray.data_append, Array.toList_append]
        rfl
      | false =>
        rw [if_neg (by simp)]
        refine congrArg (fun x => some (x, (0 : Int))) (baL_eq.2 ?_)
        unfold textL
        simp only [e', if_false, ByteArray.data_append, Array.toList_append, Bool.false_eq_true, List.nil_append]
        rfl
theorem rational_Text.calls (a0_0 : Bool) (a0_1 : ByteArray) (a0_2 : ByteArray) (r1 : ByteArray) (r2 : Int) (w : World) (hL : Laid w) (h : rational_Text.f a0_0 a0_1 a0_2 = some (r1, r2)) :
    Calls Tryz.prog 17 #[.agg #[.bool a0_0, .string a0_1, .string a0_2]] w fun e w' => e = .returned (.tuple #[.string r1, .int .i64 r2]) ∧ Below w.heap.size w w' :=
  XRat.rational_Text.calls 1 a0_0 a0_1 a0_2 r1 r2 w hL (by rw [text_fR]; exact h)
end Go.Proofs.YthpomhboogcigaaGreatDoor
end
section -- XSub0
/- Written by a program of this session (xprint.sh), out of the translation: Lean functions that tell what Go functions of the program tell, and the proofs that they do, over the given callees; no condition but what each theorem states. -/
namespace Go.Proofs.YthpomhboogcigaaGreatDoor.XSub
open Go.RowKit Go.Proofs.YthpomhboogcigaaGreatDoorW.PrintWords Go.Proofs.YthpomhboogcigaaGreatDoorW.PrintLast Go.Proofs.YthpomhboogcigaaGreatDoorW.PrintMore
attribute [local go_sem] max2_int min2_int max_two min_two max_three min_three max_four min_four   -- for this text's walks alone
set_option linter.unusedVariables false
set_option linter.unusedSimpArgs false
def errW : Option Int → Value
  | none => .nilIface
  | some c => .iface 0 (.int .i64 c)
theorem errW_none : errW none = .nilIface := rfl
theorem errW_some (c : Int) : errW (some c) = .iface 0 (.int .i64 c) := rfl
end Go.Proofs.YthpomhboogcigaaGreatDoor.XSub
end
section -- XSub1
/- Written by a program of this session (xprint.sh), out of the translation: Lean functions that tell what Go functions of the program tell, and the proofs that they do, over the given callees; no condition but what each theorem states. -/
namespace Go.Proofs.YthpomhboogcigaaGreatDoor.XSub
open Go.RowKit Go.Proofs.YthpomhboogcigaaGreatDoorW.PrintWords Go.Proofs.YthpomhboogcigaaGreatDoorW.PrintLast Go.Proofs.YthpomhboogcigaaGreatDoorW.PrintMore
attribute [local go_sem] max2_int min2_int max_two min_two max_three min_three max_four min_four   -- for this text's walks alone
set_option linter.unusedVariables false
set_option linter.unusedSimpArgs false
def rational_Sub.f (a0_0 : Bool) (a0_1 : ByteArray) (a0_2 : ByteArray) (a1_0 : Bool) (a1_1 : ByteArray) (a1_2 : ByteArray) : Option (Bool × ByteArray × ByteArray × Int) := (rational_Valid.f a1_0 a1_1 a1_2).bind fun t104 => (if t104 = true then ((rational_minus.f a1_0 a1_1 a1_2).bind fun bt105 => ((rational_Add.f a0_0 a0_1 a0_2 bt105.1 bt105.2.1 bt105.2.2).bind fun bt108 => (some (bt108.1, bt108.2.1, bt108.2.2.1, bt108.2.2.2)))) else (some (false, (⟨#[]⟩ : ByteArray), (⟨#[]⟩ : ByteArray), 1)))
def rational_Sub.T3 : Bool × List (List Nat × List Nat) := (true, [([], []), ([], []), ([1], [1]), ([0, 2, 2], [0, 2]), ([3], [3]), ([3], [3]), ([4, 3, 0, 1, 2, 3, 4, 5], [4]), ([5, 6, 0, 1, 2, 3, 4, 5, 6], [5])])
def rational_Sub.B3 : List Nat := [0, 0, 2, 7, 15, 15, 63, 127]
theorem rational_Sub.tab3 : rtab .any (opsOf Tryz.f27 3) = rational_Sub.T3 := by kernel_rfl
theorem rational_Sub.bits3 : waitsOk rational_Sub.T3.2 rational_Sub.B3 = true := by kernel_rfl
set_option maxHeartbeats 8000000 in
set_option maxRecDepth 100000 in
theorem rational_Sub.calls (a0_0 : Bool) (a0_1 : ByteArray) (a0_2 : ByteArray) (a1_0 : Bool) (a1_1 : ByteArray) (a1_2 : ByteArray) (r1 : Bool) (r2 : ByteArray) (r3 : ByteArray) (r4 : Int) (w : World) (hL : Laid w) (h : rational_Sub.f a0_0 a0_1 a0_2 a1_0 a1_1 a1_2 = some (r1, r2, r3, r4)) :
    Calls Tryz.prog 27 #[.agg #[.bool a0_0, .string a0_1, .string a0_2], .agg #[.bool a1_0, .string a1_1, .string a1_2]] w fun e w' => e = .returned (.tuple #[.agg #[.bool r1, .string r2, .string r3], .int .i64 r4]) ∧ Below w.heap.size w w' := by
  have HLaid := Aside0.mk hL
  clear hL
  have hu24 := Tryz.underlying24
  have HB := Aside0.mk (Below.refl w.heap.size w)
  have H : ((rational_Valid.f a1_0 a1_1 a1_2).bind fun t104 => (if t104 = true then ((rational_minus.f a1_0 a1_1 a1_2).bind fun bt105 => ((rational_Add.f a0_0 a0_1 a0_2 bt105.1 bt105.2.1 bt105.2.2).bind fun bt108 => (some (bt108.1, bt108.2.1, bt108.2.2.1, bt108.2.2.2)))) else (some (false, (⟨#[]⟩ : ByteArray), (⟨#[]⟩ : ByteArray), 1)))) = some (r1, r2, r3, r4) := h
  clear h
  replace H := Option.bind_eq_some_iff.mp H
  obtain ⟨t104, A30, H⟩ := H
  replace H : (if t104 = true then ((rational_minus.f a1_0 a1_1 a1_2).bind fun bt105 => ((rational_Add.f a0_0 a0_1 a0_2 bt105.1 bt105.2.1 bt105.2.2).bind fun bt108 => (some (bt108.1, bt108.2.1, bt108.2.2.1, bt108.2.2.2)))) else (some (false, (⟨#[]⟩ : ByteArray), (⟨#[]⟩ : ByteArray), 1))) = some (r1, r2, r3, r4) := H
  have A3 := Aside0.mk A30
  clear A30
  by_cases c4 : t104 = true
  · subst c4
    have H1 : ((rational_minus.f a1_0 a1_1 a1_2).bind fun bt105 => ((rational_Add.f a0_0 a0_1 a0_2 bt105.1 bt105.2.1 bt105.2.2).bind fun bt108 => (some (bt108.1, bt108.2.1, bt108.2.2.1, bt108.2.2.2)))) = some (r1, r2, r3, r4) := by rw [if_pos rfl] at H; exact H
    clear H
    have H := H1
    clear H1
    replace H := Option.bind_eq_some_iff.mp H
    obtain ⟨⟨t105, t106, t107⟩, A50, H⟩ := H
    replace H : ((rational_Add.f a0_0 a0_1 a0_2 t105 t106 t107).bind fun bt108 => (some (bt108.1, bt108.2.1, bt108.2.2.1, bt108.2.2.2))) = some (r1, r2, r3, r4) := H
    have A5 := Aside0.mk A50
    clear A50
    replace H := Option.bind_eq_some_iff.mp H
    obtain ⟨⟨t108, t109, t110, t111⟩, A60, H⟩ := H
    replace H : (some (t108, t109, t110, t111)) = some (r1, r2, r3, r4) := H
    have A6 := Aside0.mk A60
    clear A60
    simp only [Option.some.injEq, Prod.mk.injEq] at H
    obtain ⟨rfl, rfl, rfl, rfl⟩ := H
    go_enter Tryz.func27, Tryz.ntmps27
    try go_wp2_with (first | ((with_reducible refine gate_dst (N := 2) rfl ?_); refine box_event ?hg (N := 2) ?hd (cs := #[.bool a0_0, .string a0_1, .string a0_2]) (t := 24) ?hr ?_; (case hd => rfl); (case hg => rfl); (case hr => first | (go_simp; done) | (go_simp; rfl)); intro gb101 hg w7 hbox hb; have n0_ := Aside0.mk (below_step (by repeat (first | (with_reducible first | exact HB.out | apply below_alloc | apply pw_below_drewN | apply below_drew1) | exact HB.out)) hb); have n1_ := Aside0.mk (hbox); have n2_ := Aside0.mk ((by rw [hg]; exact (below_size (by repeat (first | (with_reducible first | exact HB.out | apply below_alloc | apply pw_below_drewN | apply below_drew1) | exact HB.out))) : w.heap.size ≤ gb101)); have n3_ := Aside0.mk ((by rw [hg]; exact (below_size (by repeat (first | (with_reducible first | exact HB.out | apply below_alloc | apply pw_below_drewN | apply below_drew1) | exact HB.out))) : w.heap.size ≤ gb101)); clear HB; have HB := n0_; have BK101 := n1_; have GW101 := n2_; have GE101 := n3_; clear n0_ n1_ n2_ n3_; clear hb hbox hg) | ((with_reducible refine gate_dst (N := 3) rfl ?_); refine box_event ?hg (N := 3) ?hd (cs := #[.bool a1_0, .string a1_1, .string a1_2]) (t := 24) ?hr ?_; (case hd => rfl); (case hg => rfl); (case hr => first | (go_simp; done) | (go_simp; rfl)); intro gb102 hg w8 hbox hb; have n0_ := Aside0.mk (blk_below (g := gb101) (o := .cells #[.bool a0_0, .string a0_1, .string a0_2] 24 (0, 0)) (by (with_reducible repeat (first | refine blk_drewN ?_ _ | refine blk_drew ?_ | refine blk_alloc ?_ _)); exact BK101.out) hb); have n1_ := Aside0.mk (below_step (by repeat (first | (with_reducible first | exact HB.out | apply below_alloc | apply pw_below_drewN | apply below_drew1 | refine below_set ?_ GE101.out) | exact HB.out)) hb); have n2_ := Aside0.mk (hbox); have n3_ := Aside0.mk ((by rw [hg]; exact (below_size (by repeat (first | (with_reducible first | exact HB.out | apply below_alloc | apply pw_below_drewN | apply below_drew1 | refine below_set ?_ GE101.out) | exact HB.out))) : w.heap.size ≤ gb102)); have n4_ := Aside0.mk ((by rw [hg]; exact (below_size (by repeat (first | (with_reducible first | exact HB.out | apply below_alloc | apply pw_below_drewN | apply below_drew1 | refine below_set ?_ GE101.out) | exact HB.out))) : w.heap.size ≤ gb102)); have n5_ := Aside0.mk ((by rw [hg]; exact Nat.ne_of_lt (blk_lt (g := gb101) (o := .cells #[.bool a0_0, .string a0_1, .string a0_2] 24 (0, 0)) (by (with_reducible repeat (first | refine blk_drewN ?_ _ | refine blk_drew ?_ | refine blk_alloc ?_ _)); exact BK101.out)) : gb101 ≠ gb102)); have n6_ := Aside0.mk ((by rw [hg]; exact Nat.ne_of_gt (blk_lt (g := gb101) (o := .cells #[.bool a0_0, .string a0_1, .string a0_2] 24 (0, 0)) (by (with_reducible repeat (first | refine blk_drewN ?_ _ | refine blk_drew ?_ | refine blk_alloc ?_ _)); exact BK101.out)) : gb102 ≠ gb101)); clear BK101; clear HB; have BK101 := n0_; have HB := n1_; have BK102 := n2_; have GW102 := n3_; have GE102 := n4_; have NB101_102 := n5_; have NB102_101 := n6_; clear n0_ n1_ n2_ n3_ n4_ n5_ n6_; clear hb hbox hg) | ((with_reducible refine gate_dst (N := 4) rfl ?_); refine box_event ?hg (N := 4) ?hd (cs := #[.bool false, .string (⟨#[]⟩ : ByteArray), .string (⟨#[]⟩ : ByteArray)]) (t := 24) ?hr ?_; (case hd => rfl); (case hg => rfl); (case hr => first | (go_simp; done) | (go_simp; rfl)); intro gb103 hg w9 hbox hb; have n0_ := Aside0.mk (blk_below (g := gb101) (o := .cells #[.bool a0_0, .string a0_1, .string a0_2] 24 (0, 0)) (by (with_reducible repeat (first | refine blk_drewN ?_ _ | refine blk_drew ?_ | refine blk_alloc ?_ _)); exact BK101.out) hb); have n1_ := Aside0.mk (blk_below (g := gb102) (o := .cells #[.bool a1_0, .string a1_1, .string a1_2] 24 (0, 0)) (by (with_reducible repeat (first | refine blk_drewN ?_ _ | refine blk_drew ?_ | refine blk_alloc ?_ _)); exact BK102.out) hb); have n2_ := Aside0.mk (below_step (by repeat (first | (with_reducible first | exact HB.out | apply below_alloc | apply pw_below_drewN | apply below_drew1 | refine below_set ?_ GE101.out | refine below_set ?_ GE102.out) | exact HB.out)) hb); have n3_ := Aside0.mk (hbox); have n4_ := Aside0.mk ((by rw [hg]; exact (below_size (by repeat (first | (with_reducible first | exact HB.out | apply below_alloc | apply pw_below_drewN | apply below_drew1 | refine below_set ?_ GE101.out | refine below_set ?_ GE102.out) | exact HB.out))) : w.heap.size ≤ gb103)); have n5_ := Aside0.mk ((by rw [hg]; exact (below_size (by repeat (first | (with_reducible first | exact HB.out | apply below_alloc | apply pw_below_drewN | apply below_drew1 | refine below_set ?_ GE101.out | refine below_set ?_ GE102.out) | exact HB.out))) : w.heap.size ≤ gb103)); have n6_ := Aside0.mk ((by rw [hg]; exact Nat.ne_of_lt (blk_lt (g := gb101) (o := .cells #[.bool a0_0, .string a0_1, .string a0_2] 24 (0, 0)) (by (with_reducible repeat (first | refine blk_drewN ?_ _ | refine blk_drew ?_ | refine blk_alloc ?_ _)); exact BK101.out)) : gb101 ≠ gb103)); have n7_ := Aside0.mk ((by rw [hg]; exact Nat.ne_of_gt (blk_lt (g := gb101) (o := .cells #[.bool a0_0, .string a0_1, .string a0_2] 24 (0, 0)) (by (with_reducible repeat (first | refine blk_drewN ?_ _ | refine blk_drew ?_ | refine blk_alloc ?_ _)); exact BK101.out)) : gb103 ≠ gb101)); have n8_ := Aside0.mk ((by rw [hg]; exact Nat.ne_of_lt (blk_lt (g := gb102) (o := .cells #[.bool a1_0, .string a1_1, .string a1_2] 24 (0, 0)) (by (with_reducible repeat (first | refine blk_drewN ?_ _ | refine blk_drew ?_ | refine blk_alloc ?_ _)); exact BK102.out)) : gb102 ≠ gb103)); have n9_ := Aside0.mk ((by rw [hg]; exact Nat.ne_of_gt (blk_lt (g := gb102) (o := .cells #[.bool a1_0, .string a1_1, .string a1_2] 24 (0, 0)) (by (with_reducible repeat (first | refine blk_drewN ?_ _ | refine blk_drew ?_ | refine blk_alloc ?_ _)); exact BK102.out)) : gb103 ≠ gb102)); clear BK101; clear BK102; clear HB; have BK101 := n0_; have BK102 := n1_; have HB := n2_; have BK103 := n3_; have GW103 := n4_; have GE103 := n5_; have NB101_103 := n6_; have NB103_101 := n7_; have NB102_103 := n8_; have NB103_102 := n9_; clear n0_ n1_ n2_ n3_ n4_ n5_ n6_ n7_ n8_ n9_; clear hb hbox hg; have hnb10 := NB102_101.out; have hnc10 := NB101_102.out; have hnb11 := NB102_103.out; have hnc11 := NB103_102.out; have hcz12_0 : w9.cell? ⟨gb102, 0, none⟩ = some (.bool a1_0) := (blk_cell BK102.out 0).trans rfl; have hcz12_1 : w9.cell? ⟨gb102, 1, none⟩ = some (.string a1_1) := (blk_cell BK102.out 1).trans rfl; have hcz12_2 : w9.cell? ⟨gb102, 2, none⟩ = some (.string a1_2) := (blk_cell BK102.out 2).trans rfl; have hfz12_0 := blk_frozen BK102.out 0; have hfz12_1 := blk_frozen BK102.out 1; have hfz12_2 := blk_frozen BK102.out 2) | ((with_reducible refine gate_callee (f := 21) rfl ?_); refine goesL_ (some 7) rfl rfl Tryz.func21 (by kernel_rfl) rfl #[.agg #[.bool a1_0, .string a1_1, .string a1_2]] rfl (by (try simp only [List.map_toArray, List.map_cons, List.map_nil]); first | done | rfl | (simp only [List.length_drop, List.length_take]; rfl)) ?_; (with_reducible refine (rational_Valid.calls a1_0 a1_1 a1_2 true _ ?side1 A3.out).mono ?_); (case side1 => exact Laid.below HLaid.out (by repeat (first | (with_reducible first | exact HB.out | apply below_alloc | apply pw_below_drewN | apply below_drew1 | refine below_set ?_ GE101.out | refine below_set ?_ GE102.out | refine below_set ?_ GE103.out) | exact HB.out))); rintro e w13 ⟨rfl, hb⟩; refine ⟨_, rfl, ?_⟩; have n0_ := Aside0.mk (blk_below (g := gb101) (o := .cells #[.bool a0_0, .string a0_1, .string a0_2] 24 (0, 0)) (by (with_reducible repeat (first | refine blk_drewN ?_ _ | refine blk_drew ?_ | refine blk_alloc ?_ _)); exact BK101.out) hb); have n1_ := Aside0.mk (blk_below (g := gb102) (o := .cells #[.bool a1_0, .string a1_1, .string a1_2] 24 (0, 0)) (by (with_reducible repeat (first | refine blk_drewN ?_ _ | refine blk_drew ?_ | refine blk_alloc ?_ _)); exact BK102.out) hb); have n2_ := Aside0.mk (blk_below (g := gb103) (o := .cells #[.bool false, .string (⟨#[]⟩ : ByteArray), .string (⟨#[]⟩ : ByteArray)] 24 (0, 0)) (by (with_reducible repeat (first | refine blk_drewN ?_ _ | refine blk_drew ?_ | refine blk_alloc ?_ _)); exact BK103.out) hb); have n3_ := Aside0.mk (below_step (by repeat (first | (with_reducible first | exact HB.out | apply below_alloc | apply pw_below_drewN | apply below_drew1 | refine below_set ?_ GE101.out | refine below_set ?_ GE102.out | refine below_set ?_ GE103.out) | exact HB.out)) hb); clear BK101; clear BK102; clear BK103; clear HB; have BK101 := n0_; have BK102 := n1_; have BK103 := n2_; have HB := n3_; clear n0_ n1_ n2_ n3_; (try clear hb); (try clear hb2); (try clear hk); (try clear hi)))
    have n0_ := Aside0.mk (blk_drew BK101.out)
    have n1_ := Aside0.mk (blk_drew BK102.out)
    have n2_ := Aside0.mk (blk_drew BK103.out)
    have n3_ := Aside0.mk (below_drew1 HB.out)
    clear BK101
    clear BK102
    clear BK103
    clear HB
    have BK101 := n0_
    have BK102 := n1_
    have BK103 := n2_
    have HB := n3_
    clear n0_ n1_ n2_ n3_
    refine start_ (n := 8) (S := fun w' => w'.cell? ⟨gb101, 0, none⟩ = some (.bool a0_0) ∧ w'.cell? ⟨gb101, 1, none⟩ = some (.string a0_1) ∧ w'.cell? ⟨gb101, 2, none⟩ = some (.string a0_2) ∧ w'.cell? ⟨gb102, 0, none⟩ = some (.bool a1_0) ∧ w'.cell? ⟨gb102, 1, none⟩ = some (.string a1_1) ∧ w'.cell? ⟨gb102, 2, none⟩ = some (.string a1_2)) (ds := []) #[false, false, false, false, false, false, false, false] (by kernel_rfl) rfl rfl ⟨(blk_cell BK101.out 0).trans rfl, (blk_cell BK101.out 1).trans rfl, (blk_cell BK101.out 2).trans rfl, (blk_cell BK102.out 0).trans rfl, (blk_cell BK102.out 1).trans rfl, (blk_cell BK102.out 2).trans rfl⟩ (fun hHeld => ?_); refine with_tabW rational_Sub.tab3 rational_Sub.bits3 (fun HT_ HW_ => ?_)
    generalize w13.drew = w14 at BK101 BK102 BK103 HB hHeld ⊢
    refine take_ (i := 0) (N := some 10) (v := ?_) (a' := ?_) #[true, false, false, false, false, false, false, false] rfl rfl (take_ofW HT_.out HW_.out (by kernel_rfl)) (fun _ _ _ h => h) (Or.inl ⟨by rfl, ?_⟩) hHeld ?_ ?_
    rotate_left
    · rintro w' ⟨s0, s1, s2, s3, s4, s5⟩
      go_simp
      with_reducible rfl
    rotate_left
    · simp only [Act.put, List.setIfInBounds_toArray, List.set_cons_zero, List.set_cons_succ, i64_w, i32_w]
      rfl
    refine take_ (i := 1) (N := some 11) (v := ?_) (a' := ?_) #[true, true, false, false, false, false, false, false] rfl rfl (take_ofW HT_.out HW_.out (by kernel_rfl)) (fun _ _ _ h => h) (Or.inl ⟨by rfl, ?_⟩) hHeld ?_ ?_
    rotate_left
    · rintro w' ⟨s0, s1, s2, s3, s4, s5⟩
      go_simp
      with_reducible rfl
    rotate_left
    · simp only [Act.put, List.setIfInBounds_toArray, List.set_cons_zero, List.set_cons_succ, i64_w, i32_w]
      rfl
    refine one_ (i := 2) (N := some 12) #[true, true, true, false, false, false, false, false] rfl rfl (one_of HT_.out (by kernel_rfl)) (by decide) (fun K hK => ?_)
    refine goes_ Tryz.func48 (by kernel_rfl) rfl #[.agg #[.bool a1_0, .string a1_1, .string a1_2]] (by rfl) rfl rfl (by (try simp only [List.map_toArray, List.map_cons, List.map_nil]); first | done | rfl | (simp only [List.length_drop, List.length_take]; rfl)) ?_
    with_reducible refine (rational_minus.calls a1_0 a1_1 a1_2 t105 t106 t107 _ A5.out).mono ?_
    rintro e w15 ⟨rfl, hb⟩
    refine ⟨_, rfl, ?_⟩
    have n0_ := Aside0.mk (blk_below (g := gb101) (o := .cells #[.bool a0_0, .string a0_1, .string a0_2] 24 (0, 0)) (by (with_reducible repeat (first | refine blk_drewN ?_ _ | refine blk_drew ?_ | refine blk_alloc ?_ _)); exact BK101.out) hb)
    have n1_ := Aside0.mk (blk_below (g := gb102) (o := .cells #[.bool a1_0, .string a1_1, .string a1_2] 24 (0, 0)) (by (with_reducible repeat (first | refine blk_drewN ?_ _ | refine blk_drew ?_ | refine blk_alloc ?_ _)); exact BK102.out) hb)
    have n2_ := Aside0.mk (blk_below (g := gb103) (o := .cells #[.bool false, .string (⟨#[]⟩ : ByteArray), .string (⟨#[]⟩ : ByteArray)] 24 (0, 0)) (by (with_reducible repeat (first | refine blk_drewN ?_ _ | refine blk_drew ?_ | refine blk_alloc ?_ _)); exact BK103.out) hb)
    have n3_ := Aside0.mk (below_step (by repeat (first | (with_reducible first | exact HB.out | apply below_alloc | apply pw_below_drewN | apply below_drew1 | refine below_set ?_ GE101.out | refine below_set ?_ GE102.out | refine below_set ?_ GE103.out) | exact HB.out)) hb)
    clear BK101
    clear BK102
    clear BK103
    clear HB
    have BK101 := n0_
    have BK102 := n1_
    have BK103 := n2_
    have HB := n3_
    clear n0_ n1_ n2_ n3_
    (try clear hb)
    (try clear hb2)
    (try clear hk)
    (try clear hi)
    refine hK.out _ _ ⟨(blk_cell BK101.out 0).trans rfl, (blk_cell BK101.out 1).trans rfl, (blk_cell BK101.out 2).trans rfl, (blk_cell BK102.out 0).trans rfl, (blk_cell BK102.out 1).trans rfl, (blk_cell BK102.out 2).trans rfl⟩ (fun hHeld => ?_)
    clear hK K
    refine norm_ (a' := ?_) ?_ ?_
    rotate_left
    · show Act.put _ (some 12) _ = _
      simp only [Act.put, List.setIfInBounds_toArray, List.set_cons_zero, List.set_cons_succ, i64_w, i32_w]
      rfl
    refine one_ (i := 3) (N := some 13) #[true, true, true, true, false, false, false, false] rfl rfl (one_of HT_.out (by kernel_rfl)) (by decide) (fun K hK => ?_)
    refine goes_ Tryz.func25 (by kernel_rfl) rfl #[.agg #[.bool a0_0, .string a0_1, .string a0_2], .agg #[.bool t105, .string t106, .string t107]] (by rfl) rfl rfl (by (try simp only [List.map_toArray, List.map_cons, List.map_nil]); first | done | rfl | (simp only [List.length_drop, List.length_take]; rfl)) ?_
    with_reducible refine (rational_Add.calls a0_0 a0_1 a0_2 t105 t106 t107 t108 t109 t110 t111 _ ?side1 A6.out).mono ?_
    (case side1 => exact Laid.below HLaid.out (by repeat (first | (with_reducible first | exact HB.out | apply below_alloc | apply pw_below_drewN | apply below_drew1 | refine below_set ?_ GE101.out | refine below_set ?_ GE102.out | refine below_set ?_ GE103.out) | exact HB.out)))
    rintro e w16 ⟨rfl, hb⟩
    refine ⟨_, rfl, ?_⟩
    have n0_ := Aside0.mk (blk_below (g := gb101) (o := .cells #[.bool a0_0, .string a0_1, .string a0_2] 24 (0, 0)) (by (with_reducible repeat (first | refine blk_drewN ?_ _ | refine blk_drew ?_ | refine blk_alloc ?_ _)); exact BK101.out) hb)
    have n1_ := Aside0.mk (blk_below (g := gb102) (o := .cells #[.bool a1_0, .string a1_1, .string a1_2] 24 (0, 0)) (by (with_reducible repeat (first | refine blk_drewN ?_ _ | refine blk_drew ?_ | refine blk_alloc ?_ _)); exact BK102.out) hb)
    have n2_ := Aside0.mk (blk_below (g := gb103) (o := .cells #[.bool false, .string (⟨#[]⟩ : ByteArray), .string (⟨#[]⟩ : ByteArray)] 24 (0, 0)) (by (with_reducible repeat (first | refine blk_drewN ?_ _ | refine blk_drew ?_ | refine blk_alloc ?_ _)); exact BK103.out) hb)
    have n3_ := Aside0.mk (below_step (by repeat (first | (with_reducible first | exact HB.out | apply below_alloc | apply pw_below_drewN | apply below_drew1 | refine below_set ?_ GE101.out | refine below_set ?_ GE102.out | refine below_set ?_ GE103.out) | exact HB.out)) hb)
    clear BK101
    clear BK102
    clear BK103
    clear HB
    have BK101 := n0_
    have BK102 := n1_
    have BK103 := n2_
    have HB := n3_
    clear n0_ n1_ n2_ n3_
    (try clear hb)
    (try clear hb2)
    (try clear hk)
    (try clear hi)
    refine hK.out _ _ ⟨(blk_cell BK101.out 0).trans rfl, (blk_cell BK101.out 1).trans rfl, (blk_cell BK101.out 2).trans rfl, (blk_cell BK102.out 0).trans rfl, (blk_cell BK102.out 1).trans rfl, (blk_cell BK102.out 2).trans rfl⟩ (fun hHeld => ?_)
    clear hK K
    refine norm_ (a' := ?_) ?_ ?_
    rotate_left
    · show Act.put _ (some 13) _ = _
      simp only [Act.put, List.setIfInBounds_toArray, List.set_cons_zero, List.set_cons_succ, i64_w, i32_w]
      rfl
    refine pure_ (i := 4) (N := some 14) (v := ?_) (a' := ?_) #[true, true, true, true, true, false, false, false] rfl rfl (any_of HT_.out (by kernel_rfl)) (fun _ _ _ h => h) (Or.inl ⟨by rfl, ?_⟩) ?_ ?_
    rotate_left
    · intro w'
      go_simp
      with_reducible rfl
    rotate_left
    · simp only [Act.put, List.setIfInBounds_toArray, List.set_cons_zero, List.set_cons_succ, i64_w, i32_w]
      rfl
    refine pure_ (i := 5) (N := some 15) (v := ?_) (a' := ?_) #[true, true, true, true, true, true, false, false] rfl rfl (any_of HT_.out (by kernel_rfl)) (fun _ _ _ h => h) (Or.inl ⟨by rfl, ?_⟩) ?_ ?_
    rotate_left
    · intro w'
      go_simp
      with_reducible rfl
    rotate_left
    · simp only [Act.put, List.setIfInBounds_toArray, List.set_cons_zero, List.set_cons_succ, i64_w, i32_w]
      rfl
    refine one_ (i := 6) (N := none) #[true, true, true, true, true, true, true, false] rfl rfl (one_of HT_.out (by kernel_rfl)) (by decide) (fun K hK => ?_)
    have hs17 : w16.cell? ⟨gb103, 0, none⟩ = some (.bool false) := (blk_cell BK103.out 0).trans rfl
    have hfs17 := blk_frozen BK103.out 0
    have hns17_0 := NB101_103.out
    have hns17_1 := NB102_103.out
    have hms17_0 := NB103_101.out
    have hms17_1 := NB103_102.out
    have hs18 : w16.cell? ⟨gb103, 1, none⟩ = some (.string (⟨#[]⟩ : ByteArray)) := (blk_cell BK103.out 1).trans rfl
    have hfs18 := blk_frozen BK103.out 1
    have hns18_0 := NB101_103.out
    have hns18_1 := NB102_103.out
    have hms18_0 := NB103_101.out
    have hms18_1 := NB103_102.out
    have hs19 : w16.cell? ⟨gb103, 2, none⟩ = some (.string (⟨#[]⟩ : ByteArray)) := (blk_cell BK103.out 2).trans rfl
    have hfs19 := blk_frozen BK103.out 2
    have hns19_0 := NB101_103.out
    have hns19_1 := NB102_103.out
    have hms19_0 := NB103_101.out
    have hms19_1 := NB103_102.out
    refine skip_ (w1 := ?_) (by rfl) rfl ?_ ?_
    rotate_left
    · go_simp
      rfl
    refine hK.out _ _ ⟨((cell_far (p := ⟨gb103, _, none⟩) NB101_103.out _).trans (((cell_far (p := ⟨gb103, _, none⟩) NB101_103.out _).trans (((cell_far (p := ⟨gb103, _, none⟩) NB101_103.out _).trans (hHeld.1)))))), ((cell_far (p := ⟨gb103, _, none⟩) NB101_103.out _).trans (((cell_far (p := ⟨gb103, _, none⟩) NB101_103.out _).trans (((cell_far (p := ⟨gb103, _, none⟩) NB101_103.out _).trans (hHeld.2.1)))))), ((cell_far (p := ⟨gb103, _, none⟩) NB101_103.out _).trans (((cell_far (p := ⟨gb103, _, none⟩) NB101_103.out _).trans (((cell_far (p := ⟨gb103, _, none⟩) NB101_103.out _).trans (hHeld.2.2.1)))))), ((cell_far (p := ⟨gb103, _, none⟩) NB102_103.out _).trans (((cell_far (p := ⟨gb103, _, none⟩) NB102_103.out _).trans (((cell_far (p := ⟨gb103, _, none⟩) NB102_103.out _).trans (hHeld.2.2.2.1)))))), ((cell_far (p := ⟨gb103, _, none⟩) NB102_103.out _).trans (((cell_far (p := ⟨gb103, _, none⟩) NB102_103.out _).trans (((cell_far (p := ⟨gb103, _, none⟩) NB102_103.out _).trans (hHeld.2.2.2.2.1)))))), ((cell_far (p := ⟨gb103, _, none⟩) NB102_103.out _).trans (((cell_far (p := ⟨gb103, _, none⟩) NB102_103.out _).trans (((cell_far (p := ⟨gb103, _, none⟩) NB102_103.out _).trans (hHeld.2.2.2.2.2))))))⟩ (fun hHeld => ?_)
    clear hK K
    refine pure_ (i := 7) (N := some 5) (v := ?_) (a' := ?_) #[true, true, true, true, true, true, true, true] rfl rfl (any_of HT_.out (by kernel_rfl)) (fun _ _ _ h => h) (Or.inl ⟨by rfl, ?_⟩) ?_ ?_
    rotate_left
    · intro w'
      go_simp
      with_reducible rfl
    rotate_left
    · simp only [Act.put, List.setIfInBounds_toArray, List.set_cons_zero, List.set_cons_succ, i64_w, i32_w]
      rfl
    refine done_ (done_of HT_.out (by kernel_rfl)) ?_
    try go_wp2
    refine bodyPost_ret (results_ct rfl _ _ gb103 24 #[.bool t108, .string t109, .string t110] (0, 0) _ rfl (by (with_reducible repeat (first | refine blk_drewN ?_ _ | refine blk_drew ?_ | refine blk_alloc ?_ _)); refine blk_put (cs := #[.bool t108, .string t109, .string (⟨#[]⟩ : ByteArray)]) ?_ 2 _ rfl; (with_reducible repeat (first | refine blk_drewN ?_ _ | refine blk_drew ?_ | refine blk_alloc ?_ _)); refine blk_put (cs := #[.bool t108, .string (⟨#[]⟩ : ByteArray), .string (⟨#[]⟩ : ByteArray)]) ?_ 1 _ rfl; (with_reducible repeat (first | refine blk_drewN ?_ _ | refine blk_drew ?_ | refine blk_alloc ?_ _)); refine blk_put (cs := #[.bool false, .string (⟨#[]⟩ : ByteArray), .string (⟨#[]⟩ : ByteArray)]) ?_ 0 _ rfl; (with_reducible repeat (first | refine blk_drewN ?_ _ | refine blk_drew ?_ | refine blk_alloc ?_ _)); exact BK103.out) Tryz.underlying24 rfl (by kernel_rfl)) rfl ?_
    exact ⟨by first | rfl | (simp [errW_none, errW_some] <;> rfl) | (simp [*, errW_none, errW_some] <;> rfl), by repeat (first | (with_reducible first | exact HB.out | apply below_alloc | apply pw_below_drewN | apply below_drew1 | refine below_set ?_ GE101.out | refine below_set ?_ GE102.out | refine below_set ?_ GE103.out) | exact HB.out)⟩
  · replace c4 := Bool.eq_false_iff.mpr c4
    subst c4
    have H1 : (some (false, (⟨#[]⟩ : ByteArray), (⟨#[]⟩ : ByteArray), 1)) = some (r1, r2, r3, r4) := by rw [if_neg (show ¬ (false = true) by decide)] at H; exact H
    clear H
    have H := H1
    clear H1
    simp only [Option.some.injEq, Prod.mk.injEq] at H
    obtain ⟨rfl, rfl, rfl, rfl⟩ := H
    go_enter Tryz.func27, Tryz.ntmps27
    go_wp2_with (first | ((with_reducible refine gate_dst (N := 2) rfl ?_); refine box_event ?hg (N := 2) ?hd (cs := #[.bool a0_0, .string a0_1, .string a0_2]) (t := 24) ?hr ?_; (case hd => rfl); (case hg => rfl); (case hr => first | (go_simp; done) | (go_simp; rfl)); intro gb101 hg w20 hbox hb; have n0_ := Aside0.mk (below_step (by repeat (first | (with_reducible first | exact HB.out | apply below_alloc | apply pw_below_drewN | apply below_drew1) | exact HB.out)) hb); have n1_ := Aside0.mk (hbox); have n2_ := Aside0.mk ((by rw [hg]; exact (below_size (by repeat (first | (with_reducible first | exact HB.out | apply below_alloc | apply pw_below_drewN | apply below_drew1) | exact HB.out))) : w.heap.size ≤ gb101)); have n3_ := Aside0.mk ((by rw [hg]; exact (below_size (by repeat (first | (with_reducible first | exact HB.out | apply below_alloc | apply pw_below_drewN | apply below_drew1) | exact HB.out))) : w.heap.size ≤ gb101)); clear HB; have HB := n0_; have BK101 := n1_; have GW101 := n2_; have GE101 := n3_; clear n0_ n1_ n2_ n3_; clear hb hbox hg) | ((with_reducible refine gate_dst (N := 3) rfl ?_); refine box_event ?hg (N := 3) ?hd (cs := #[.bool a1_0, .string a1_1, .string a1_2]) (t := 24) ?hr ?_; (case hd => rfl); (case hg => rfl); (case hr => first | (go_simp; done) | (go_simp; rfl)); intro gb102 hg w21 hbox hb; have n0_ := Aside0.mk (blk_below (g := gb101) (o := .cells #[.bool a0_0, .string a0_1, .string a0_2] 24 (0, 0)) (by (with_reducible repeat (first | refine blk_drewN ?_ _ | refine blk_drew ?_ | refine blk_alloc ?_ _)); exact BK101.out) hb); have n1_ := Aside0.mk (below_step (by repeat (first | (with_reducible first | exact HB.out | apply below_alloc | apply pw_below_drewN | apply below_drew1 | refine below_set ?_ GE101.out) | exact HB.out)) hb); have n2_ := Aside0.mk (hbox); have n3_ := Aside0.mk ((by rw [hg]; exact (below_size (by repeat (first | (with_reducible first | exact HB.out | apply below_alloc | apply pw_below_drewN | apply below_drew1 | refine below_set ?_ GE101.out) | exact HB.out))) : w.heap.size ≤ gb102)); have n4_ := Aside0.mk ((by rw [hg]; exact (below_size (by repeat (first | (with_reducible first | exact HB.out | apply below_alloc | apply pw_below_drewN | apply below_drew1 | refine below_set ?_ GE101.out) | exact HB.out))) : w.heap.size ≤ gb102)); have n5_ := Aside0.mk ((by rw [hg]; exact Nat.ne_of_lt (blk_lt (g := gb101) (o := .cells #[.bool a0_0, .string a0_1, .string a0_2] 24 (0, 0)) (by (with_reducible repeat (first | refine blk_drewN ?_ _ | refine blk_drew ?_ | refine blk_alloc ?_ _)); exact BK101.out)) : gb101 ≠ gb102)); have n6_ := Aside0.mk ((by rw [hg]; exact Nat.ne_of_gt (blk_lt (g := gb101) (o := .cells #[.bool a0_0, .string a0_1, .string a0_2] 24 (0, 0)) (by (with_reducible repeat (first | refine blk_drewN ?_ _ | refine blk_drew ?_ | refine blk_alloc ?_ _)); exact BK101.out)) : gb102 ≠ gb101)); clear BK101; clear HB; have BK101 := n0_; have HB := n1_; have BK102 := n2_; have GW102 := n3_; have GE102 := n4_; have NB101_102 := n5_; have NB102_101 := n6_; clear n0_ n1_ n2_ n3_ n4_ n5_ n6_; clear hb hbox hg) | ((with_reducible refine gate_dst (N := 4) rfl ?_); refine box_event ?hg (N := 4) ?hd (cs := #[.bool false, .string (⟨#[]⟩ : ByteArray), .string (⟨#[]⟩ : ByteArray)]) (t := 24) ?hr ?_; (case hd => rfl); (case hg => rfl); (case hr => first | (go_simp; done) | (go_simp; rfl)); intro gb103 hg w22 hbox hb; have n0_ := Aside0.mk (blk_below (g := gb101) (o := .cells #[.bool a0_0, .string a0_1, .string a0_2] 24 (0, 0)) (by (with_reducible repeat (first | refine blk_drewN ?_ _ | refine blk_drew ?_ | refine blk_alloc ?_ _)); exact BK101.out) hb); have n1_ := Aside0.mk (blk_below (g := gb102) (o := .cells #[.bool a1_0, .string a1_1, .string a1_2] 24 (0, 0)) (by (with_reducible repeat (first | refine blk_drewN ?_ _ | refine blk_drew ?_ | refine blk_alloc ?_ _)); exact BK102.out) hb); have n2_ := Aside0.mk (below_step (by repeat (first | (with_reducible first | exact HB.out | apply below_alloc | apply pw_below_drewN | apply below_drew1 | refine below_set ?_ GE101.out | refine below_set ?_ GE102.out) | exact HB.out)) hb); have n3_ := Aside0.mk (hbox); have n4_ := Aside0.mk ((by rw [hg]; exact (below_size (by repeat (first | (with_reducible first | exact HB.out | apply below_alloc | apply pw_below_drewN | apply below_drew1 | refine below_set ?_ GE101.out | refine below_set ?_ GE102.out) | exact HB.out))) : w.heap.size ≤ gb103)); have n5_ := Aside0.mk ((by rw [hg]; exact (below_size (by repeat (first | (with_reducible first | exact HB.out | apply below_alloc | apply pw_below_drewN | apply below_drew1 | refine below_set ?_ GE101.out | refine below_set ?_ GE102.out) | exact HB.out))) : w.heap.size ≤ gb103)); have n6_ := Aside0.mk ((by rw [hg]; exact Nat.ne_of_lt (blk_lt (g := gb101) (o := .cells #[.bool a0_0, .string a0_1, .string a0_2] 24 (0, 0)) (by (with_reducible repeat (first | refine blk_drewN ?_ _ | refine blk_drew ?_ | refine blk_alloc ?_ _)); exact BK101.out)) : gb101 ≠ gb103)); have n7_ := Aside0.mk ((by rw [hg]; exact Nat.ne_of_gt (blk_lt (g := gb101) (o := .cells #[.bool a0_0, .string a0_1, .string a0_2] 24 (0, 0)) (by (with_reducible repeat (first | refine blk_drewN ?_ _ | refine blk_drew ?_ | refine blk_alloc ?_ _)); exact BK101.out)) : gb103 ≠ gb101)); have n8_ := Aside0.mk ((by rw [hg]; exact Nat.ne_of_lt (blk_lt (g := gb102) (o := .cells #[.bool a1_0, .string a1_1, .string a1_2] 24 (0, 0)) (by (with_reducible repeat (first | refine blk_drewN ?_ _ | refine blk_drew ?_ | refine blk_alloc ?_ _)); exact BK102.out)) : gb102 ≠ gb103)); have n9_ := Aside0.mk ((by rw [hg]; exact Nat.ne_of_gt (blk_lt (g := gb102) (o := .cells #[.bool a1_0, .string a1_1, .string a1_2] 24 (0, 0)) (by (with_reducible repeat (first | refine blk_drewN ?_ _ | refine blk_drew ?_ | refine blk_alloc ?_ _)); exact BK102.out)) : gb103 ≠ gb102)); clear BK101; clear BK102; clear HB; have BK101 := n0_; have BK102 := n1_; have HB := n2_; have BK103 := n3_; have GW103 := n4_; have GE103 := n5_; have NB101_103 := n6_; have NB103_101 := n7_; have NB102_103 := n8_; have NB103_102 := n9_; clear n0_ n1_ n2_ n3_ n4_ n5_ n6_ n7_ n8_ n9_; clear hb hbox hg; have hnb23 := NB102_101.out; have hnc23 := NB101_102.out; have hnb24 := NB102_103.out; have hnc24 := NB103_102.out; have hcz25_0 : w22.cell? ⟨gb102, 0, none⟩ = some (.bool a1_0) := (blk_cell BK102.out 0).trans rfl; have hcz25_1 : w22.cell? ⟨gb102, 1, none⟩ = some (.string a1_1) := (blk_cell BK102.out 1).trans rfl; have hcz25_2 : w22.cell? ⟨gb102, 2, none⟩ = some (.string a1_2) := (blk_cell BK102.out 2).trans rfl; have hfz25_0 := blk_frozen BK102.out 0; have hfz25_1 := blk_frozen BK102.out 1; have hfz25_2 := blk_frozen BK102.out 2) | ((with_reducible refine gate_callee (f := 21) rfl ?_); refine goesL_ (some 7) rfl rfl Tryz.func21 (by kernel_rfl) rfl #[.agg #[.bool a1_0, .string a1_1, .string a1_2]] rfl (by (try simp only [List.map_toArray, List.map_cons, List.map_nil]); first | done | rfl | (simp only [List.length_drop, List.length_take]; rfl)) ?_; (with_reducible refine (rational_Valid.calls a1_0 a1_1 a1_2 false _ ?side1 A3.out).mono ?_); (case side1 => exact Laid.below HLaid.out (by repeat (first | (with_reducible first | exact HB.out | apply below_alloc | apply pw_below_drewN | apply below_drew1 | refine below_set ?_ GE101.out | refine below_set ?_ GE102.out | refine below_set ?_ GE103.out) | exact HB.out))); rintro e w26 ⟨rfl, hb⟩; refine ⟨_, rfl, ?_⟩; have n0_ := Aside0.mk (blk_below (g := gb101) (o := .cells #[.bool a0_0, .string a0_1, .string a0_2] 24 (0, 0)) (by (with_reducible repeat (first | refine blk_drewN ?_ _ | refine blk_drew ?_ | refine blk_alloc ?_ _)); exact BK101.out) hb); have n1_ := Aside0.mk (blk_below (g := gb102) (o := .cells #[.bool a1_0, .string a1_1, .string a1_2] 24 (0, 0)) (by (with_reducible repeat (first | refine blk_drewN ?_ _ | refine blk_drew ?_ | refine blk_alloc ?_ _)); exact BK102.out) hb); have n2_ := Aside0.mk (blk_below (g := gb103) (o := .cells #[.bool false, .string (⟨#[]⟩ : ByteArray), .string (⟨#[]⟩ : ByteArray)] 24 (0, 0)) (by (with_reducible repeat (first | refine blk_drewN ?_ _ | refine blk_drew ?_ | refine blk_alloc ?_ _)); exact BK103.out) hb); have n3_ := Aside0.mk (below_step (by repeat (first | (with_reducible first | exact HB.out | apply below_alloc | apply pw_below_drewN | apply below_drew1 | refine below_set ?_ GE101.out | refine below_set ?_ GE102.out | refine below_set ?_ GE103.out) | exact HB.out)) hb); clear BK101; clear BK102; clear BK103; clear HB; have BK101 := n0_; have BK102 := n1_; have BK103 := n2_; have HB := n3_; clear n0_ n1_ n2_ n3_; (try clear hb); (try clear hb2); (try clear hk); (try clear hi); have hnb27 := NB103_101.out; have hnc27 := NB101_103.out; have hcz28_0 : w26.cell? ⟨gb103, 0, none⟩ = some (.bool false) := (blk_cell BK103.out 0).trans rfl; have hcz28_1 : w26.cell? ⟨gb103, 1, none⟩ = some (.string (⟨#[]⟩ : ByteArray)) := (blk_cell BK103.out 1).trans rfl; have hcz28_2 : w26.cell? ⟨gb103, 2, none⟩ = some (.string (⟨#[]⟩ : ByteArray)) := (blk_cell BK103.out 2).trans rfl; have hfz28_0 := blk_frozen BK103.out 0; have hfz28_1 := blk_frozen BK103.out 1; have hfz28_2 := blk_frozen BK103.out 2))
    refine bodyPost_ret (results_ct rfl _ _ gb103 24 #[.bool false, .string (⟨#[]⟩ : ByteArray), .string (⟨#[]⟩ : ByteArray)] (0, 0) _ rfl (by (with_reducible repeat (first | refine blk_drewN ?_ _ | refine blk_drew ?_ | refine blk_alloc ?_ _)); refine blk_put (cs := #[.bool false, .string (⟨#[]⟩ : ByteArray), .string (⟨#[]⟩ : ByteArray)]) ?_ 2 _ rfl; (with_reducible repeat (first | refine blk_drewN ?_ _ | refine blk_drew ?_ | refine blk_alloc ?_ _)); refine blk_put (cs := #[.bool false, .string (⟨#[]⟩ : ByteArray), .string (⟨#[]⟩ : ByteArray)]) ?_ 1 _ rfl; (with_reducible repeat (first | refine blk_drewN ?_ _ | refine blk_drew ?_ | refine blk_alloc ?_ _)); refine blk_put (cs := #[.bool false, .string (⟨#[]⟩ : ByteArray), .string (⟨#[]⟩ : ByteArray)]) ?_ 0 _ rfl; (with_reducible repeat (first | refine blk_drewN ?_ _ | refine blk_drew ?_ | refine blk_alloc ?_ _)); exact BK103.out) Tryz.underlying24 rfl (by kernel_rfl)) rfl ?_
    exact ⟨by first | rfl | (simp [errW_none, errW_some] <;> rfl) | (simp [*, errW_none, errW_some] <;> rfl), by repeat (first | (with_reducible first | exact HB.out | apply below_alloc | apply pw_below_drewN | apply below_drew1 | refine below_set ?_ GE101.out | refine below_set ?_ GE102.out | refine below_set ?_ GE103.out) | exact HB.out)⟩
def rational_Div.j0 : Nat → Bool → Bool → ByteArray → ByteArray → Bool → ByteArray → ByteArray → Option (Bool × ByteArray × ByteArray × Int)
  | 0, _, _, _, _, _, _, _ => none
  | k + 1, x6, x113000, x113001, x113002, x114000, x114001, x114002 => if x6 = true then (some (false, (⟨#[]⟩ : ByteArray), (⟨#[]⟩ : ByteArray), 1)) else (if x114001.toList = ([48] : List UInt8) then (some (false, (⟨#[]⟩ : ByteArray), (⟨#[]⟩ : ByteArray), 14)) else ((rational_Mul.f x113000 x113001 x113002 x114000 x114002 x114001).bind fun bt117 => (some (bt117.1, bt117.2.1, bt117.2.2.1, bt117.2.2.2))))
def rational_Div.f (k : Nat) (a0_0 : Bool) (a0_1 : ByteArray) (a0_2 : ByteArray) (a1_0 : Bool) (a1_1 : ByteArray) (a1_2 : ByteArray) : Option (Bool × ByteArray × ByteArray × Int) := (rational_Valid.f a0_0 a0_1 a0_2).bind fun t115 => (if t115 = true then ((rational_Valid.f a1_0 a1_1 a1_2).bind fun t116 => (rational_Div.j0 k (!t116) a0_0 a0_1 a0_2 a1_0 a1_1 a1_2)) else (rational_Div.j0 k true a0_0 a0_1 a0_2 a1_0 a1_1 a1_2))
set_option maxHeartbeats 8000000 in
set_option maxRecDepth 100000 in
theorem rational_Div.calls (k : Nat) (a0_0 : Bool) (a0_1 : ByteArray) (a0_2 : ByteArray) (a1_0 : Bool) (a1_1 : ByteArray) (a1_2 : ByteArray) (r1 : Bool) (r2 : ByteArray) (r3 : ByteArray) (r4 : Int) (w : World) (hL : Laid w) (h : rational_Div.f k a0_0 a0_1 a0_2 a1_0 a1_1 a1_2 = some (r1, r2, r3, r4)) :
    Calls Tryz.prog 31 #[.agg #[.bool a0_0, .string a0_1, .string a0_2], .agg #[.bool a1_0, .string a1_1, .string a1_2]] w fun e w' => e = .returned (.tuple #[.agg #[.bool r1, .string r2, .string r3], .int .i64 r4]) ∧ Below w.heap.size w w' := by
  have HLaid := Aside0.mk hL
  clear hL
  have hu24 := Tryz.underlying24
  have HB := Aside0.mk (Below.refl w.heap.size w)
  have H : ((rational_Valid.f a0_0 a0_1 a0_2).bind fun t115 => (if t115 = true then ((rational_Valid.f a1_0 a1_1 a1_2).bind fun t116 => (rational_Div.j0 k (!t116) a0_0 a0_1 a0_2 a1_0 a1_1 a1_2)) else (rational_Div.j0 k true a0_0 a0_1 a0_2 a1_0 a1_1 a1_2))) = some (r1, r2, r3, r4) := h
  clear h
  have HC3 := Aside0.mk H
  clear H
  go_enter Tryz.func31, Tryz.ntmps31
  go_upto_region 1 with (first | ((with_reducible refine gate_dst (N := 2) rfl ?_); refine box_event ?hg (N := 2) ?hd (cs := #[.bool a0_0, .string a0_1, .string a0_2]) (t := 24) ?hr ?_; (case hd => rfl); (case hg => rfl); (case hr => first | (go_simp; done) | (go_simp; rfl)); intro gb112 hg w4 hbox hb; have n0_ := Aside0.mk (below_step (by repeat (first | (with_reducible first | exact HB.out | apply below_alloc | apply pw_below_drewN | apply below_drew1) | exact HB.out)) hb); have n1_ := Aside0.mk (hbox); have n2_ := Aside0.mk ((by rw [hg]; exact (below_size (by repeat (first | (with_reducible first | exact HB.out | apply below_alloc | apply pw_below_drewN | apply below_drew1) | exact HB.out))) : w.heap.size ≤ gb112)); have n3_ := Aside0.mk ((by rw [hg]; exact (below_size (by repeat (first | (with_reducible first | exact HB.out | apply below_alloc | apply pw_below_drewN | apply below_drew1) | exact HB.out))) : w.heap.size ≤ gb112)); clear HB; have HB := n0_; have BK112 := n1_; have GW112 := n2_; have GE112 := n3_; clear n0_ n1_ n2_ n3_; clear hb hbox hg) | ((with_reducible refine gate_dst (N := 3) rfl ?_); refine box_event ?hg (N := 3) ?hd (cs := #[.bool a1_0, .string a1_1, .string a1_2]) (t := 24) ?hr ?_; (case hd => rfl); (case hg => rfl); (case hr => first | (go_simp; done) | (go_simp; rfl)); intro gb113 hg w5 hbox hb; have n0_ := Aside0.mk (blk_below (g := gb112) (o := .cells #[.bool a0_0, .string a0_1, .string a0_2] 24 (0, 0)) (by (with_reducible repeat (first | refine blk_drewN ?_ _ | refine blk_drew ?_ | refine blk_alloc ?_ _)); exact BK112.out) hb); have n1_ := Aside0.mk (below_step (by repeat (first | (with_reducible first | exact HB.out | apply below_alloc | apply pw_below_drewN | apply below_drew1 | refine below_set ?_ GE112.out) | exact HB.out)) hb); have n2_ := Aside0.mk (hbox); have n3_ := Aside0.mk ((by rw [hg]; exact (below_size (by repeat (first | (with_reducible first | exact HB.out | apply below_alloc | apply pw_below_drewN | apply below_drew1 | refine below_set ?_ GE112.out) | exact HB.out))) : w.heap.size ≤ gb113)); have n4_ := Aside0.mk ((by rw [hg]; exact (below_size (by repeat (first | (with_reducible first | exact HB.out | apply below_alloc | apply pw_below_drewN | apply below_drew1 | refine below_set ?_ GE112.out) | exact HB.out))) : w.heap.size ≤ gb113)); have n5_ := Aside0.mk ((by rw [hg]; exact Nat.ne_of_lt (blk_lt (g := gb112) (o := .cells #[.bool a0_0, .string a0_1, .string a0_2] 24 (0, 0)) (by (with_reducible repeat (first | refine blk_drewN ?_ _ | refine blk_drew ?_ | refine blk_alloc ?_ _)); exact BK112.out)) : gb112 ≠ gb113)); have n6_ := Aside0.mk ((by rw [hg]; exact Nat.ne_of_gt (blk_lt (g := gb112) (o := .cells #[.bool a0_0, .string a0_1, .string a0_2] 24 (0, 0)) (by (with_reducible repeat (first | refine blk_drewN ?_ _ | refine blk_drew ?_ | refine blk_alloc ?_ _)); exact BK112.out)) : gb113 ≠ gb112)); clear BK112; clear HB; have BK112 := n0_; have HB := n1_; have BK113 := n2_; have GW113 := n3_; have GE113 := n4_; have NB112_113 := n5_; have NB113_112 := n6_; clear n0_ n1_ n2_ n3_ n4_ n5_ n6_; clear hb hbox hg) | ((with_reducible refine gate_dst (N := 4) rfl ?_); refine box_event ?hg (N := 4) ?hd (cs := #[.bool false, .string (⟨#[]⟩ : ByteArray), .string (⟨#[]⟩ : ByteArray)]) (t := 24) ?hr ?_; (case hd => rfl); (case hg => rfl); (case hr => first | (go_simp; done) | (go_simp; rfl)); intro gb114 hg w6 hbox hb; have n0_ := Aside0.mk (blk_below (g := gb112) (o := .cells #[.bool a0_0, .string a0_1, .string a0_2] 24 (0, 0)) (by (with_reducible repeat (first | refine blk_drewN ?_ _ | refine blk_drew ?_ | refine blk_alloc ?_ _)); exact BK112.out) hb); have n1_ := Aside0.mk (blk_below (g := gb113) (o := .cells #[.bool a1_0, .string a1_1, .string a1_2] 24 (0, 0)) (by (with_reducible repeat (first | refine blk_drewN ?_ _ | refine blk_drew ?_ | refine blk_alloc ?_ _)); exact BK113.out) hb); have n2_ := Aside0.mk (below_step (by repeat (first | (with_reducible first | exact HB.out | apply below_alloc | apply pw_below_drewN | apply below_drew1 | refine below_set ?_ GE112.out | refine below_set ?_ GE113.out) | exact HB.out)) hb); have n3_ := Aside0.mk (hbox); have n4_ := Aside0.mk ((by rw [hg]; exact (below_size (by repeat (first | (with_reducible first | exact HB.out | apply below_alloc | apply pw_below_drewN | apply below_drew1 | refine below_set ?_ GE112.out | refine below_set ?_ GE113.out) | exact HB.out))) : w.heap.size ≤ gb114)); have n5_ := Aside0.mk ((by rw [hg]; exact (below_size (by repeat (first | (with_reducible first | exact HB.out | apply below_alloc | apply pw_below_drewN | apply below_drew1 | refine below_set ?_ GE112.out | refine below_set ?_ GE113.out) | exact HB.out))) : w.heap.size ≤ gb114)); have n6_ := Aside0.mk ((by rw [hg]; exact Nat.ne_of_lt (blk_lt (g := gb112) (o := .cells #[.bool a0_0, .string a0_1, .string a0_2] 24 (0, 0)) (by (with_reducible repeat (first | refine blk_drewN ?_ _ | refine blk_drew ?_ | refine blk_alloc ?_ _)); exact BK112.out)) : gb112 ≠ gb114)); have n7_ := Aside0.mk ((by rw [hg]; exact Nat.ne_of_gt (blk_lt (g := gb112) (o := .cells #[.bool a0_0, .string a0_1, .string a0_2] 24 (0, 0)) (by (with_reducible repeat (first | refine blk_drewN ?_ _ | refine blk_drew ?_ | refine blk_alloc ?_ _)); exact BK112.out)) : gb114 ≠ gb112)); have n8_ := Aside0.mk ((by rw [hg]; exact Nat.ne_of_lt (blk_lt (g := gb113) (o := .cells #[.bool a1_0, .string a1_1, .string a1_2] 24 (0, 0)) (by (with_reducible repeat (first | refine blk_drewN ?_ _ | refine blk_drew ?_ | refine blk_alloc ?_ _)); exact BK113.out)) : gb113 ≠ gb114)); have n9_ := Aside0.mk ((by rw [hg]; exact Nat.ne_of_gt (blk_lt (g := gb113) (o := .cells #[.bool a1_0, .string a1_1, .string a1_2] 24 (0, 0)) (by (with_reducible repeat (first | refine blk_drewN ?_ _ | refine blk_drew ?_ | refine blk_alloc ?_ _)); exact BK113.out)) : gb114 ≠ gb113)); clear BK112; clear BK113; clear HB; have BK112 := n0_; have BK113 := n1_; have HB := n2_; have BK114 := n3_; have GW114 := n4_; have GE114 := n5_; have NB112_114 := n6_; have NB114_112 := n7_; have NB113_114 := n8_; have NB114_113 := n9_; clear n0_ n1_ n2_ n3_ n4_ n5_ n6_ n7_ n8_ n9_; clear hb hbox hg))
  (try simp only [Act.put, List.setIfInBounds_toArray, List.set_cons_zero, List.set_cons_succ])
  go_cut [6] (fun v6 wc => ∃ (kq : Nat) (x6_2 : Bool), v6 = .bool x6_2 ∧ Aside0 (rational_Div.j0 kq x6_2 a0_0 a0_1 a0_2 a1_0 a1_1 a1_2 = some (r1, r2, r3, r4)) ∧ Aside0 (kq ≤ k) ∧ Aside0 (wc.heap[gb112]? = some (.cells #[.bool a0_0, .string a0_1, .string a0_2] 24 (0, 0))) ∧ Aside0 (wc.heap[gb113]? = some (.cells #[.bool a1_0, .string a1_1, .string a1_2] 24 (0, 0))) ∧ Aside0 (wc.heap[gb114]? = some (.cells #[.bool false, .string (⟨#[]⟩ : ByteArray), .string (⟨#[]⟩ : ByteArray)] 24 (0, 0))) ∧ Aside0 (Below w.heap.size w wc))
  case first =>
    have H := HC3.out
    clear HC3
    replace H := Option.bind_eq_some_iff.mp H
    obtain ⟨t115, A70, H⟩ := H
    replace H : (if t115 = true then ((rational_Valid.f a1_0 a1_1 a1_2).bind fun t116 => (rational_Div.j0 k (!t116) a0_0 a0_1 a0_2 a1_0 a1_1 a1_2)) else (rational_Div.j0 k true a0_0 a0_1 a0_2 a1_0 a1_1 a1_2)) = some (r1, r2, r3, r4) := H
    have A7 := Aside0.mk A70
    clear A70
    by_cases c8 : t115 = true
    · subst c8
      have H1 : ((rational_Valid.f a1_0 a1_1 a1_2).bind fun t116 => (rational_Div.j0 k (!t116) a0_0 a0_1 a0_2 a1_0 a1_1 a1_2)) = some (r1, r2, r3, r4) := by rw [if_pos rfl] at H; exact H
      clear H
      have H := H1
      clear H1
      replace H := Option.bind_eq_some_iff.mp H
      obtain ⟨t116, A90, H⟩ := H
      replace H : (rational_Div.j0 k (!t116) a0_0 a0_1 a0_2 a1_0 a1_1 a1_2) = some (r1, r2, r3, r4) := H
      have A9 := Aside0.mk A90
      clear A90
      have H' := Aside0.mk H
      clear H
      have hnb10 := NB112_113.out
      have hnc10 := NB113_112.out
      have hnb11 := NB112_114.out
      have hnc11 := NB114_112.out
      have hcz12_0 : w6.cell? ⟨gb112, 0, none⟩ = some (.bool a0_0) := (blk_cell BK112.out 0).trans rfl
      have hcz12_1 : w6.cell? ⟨gb112, 1, none⟩ = some (.string a0_1) := (blk_cell BK112.out 1).trans rfl
      have hcz12_2 : w6.cell? ⟨gb112, 2, none⟩ = some (.string a0_2) := (blk_cell BK112.out 2).trans rfl
      have hfz12_0 := blk_frozen BK112.out 0
      have hfz12_1 := blk_frozen BK112.out 1
      have hfz12_2 := blk_frozen BK112.out 2
      go_wp2_with (first | ((with_reducible refine gate_callee (f := 21) rfl ?_); refine goesL_ (some 8) rfl rfl Tryz.func21 (by kernel_rfl) rfl #[.agg #[.bool a0_0, .string a0_1, .string a0_2]] rfl (by (try simp only [List.map_toArray, List.map_cons, List.map_nil]); first | done | rfl | (simp only [List.length_drop, List.length_take]; rfl)) ?_; (with_reducible refine (rational_Valid.calls a0_0 a0_1 a0_2 true _ ?side1 A7.out).mono ?_); (case side1 => exact Laid.below HLaid.out (by repeat (first | (with_reducible first | exact HB.out | apply below_alloc | apply pw_below_drewN | apply below_drew1 | refine below_set ?_ GE112.out | refine below_set ?_ GE113.out | refine below_set ?_ GE114.out) | exact HB.out))); rintro e w13 ⟨rfl, hb⟩; refine ⟨_, rfl, ?_⟩; have n0_ := Aside0.mk (blk_below (g := gb112) (o := .cells #[.bool a0_0, .string a0_1, .string a0_2] 24 (0, 0)) (by (with_reducible repeat (first | refine blk_drewN ?_ _ | refine blk_drew ?_ | refine blk_alloc ?_ _)); exact BK112.out) hb); have n1_ := Aside0.mk (blk_below (g := gb113) (o := .cells #[.bool a1_0, .string a1_1, .string a1_2] 24 (0, 0)) (by (with_reducible repeat (first | refine blk_drewN ?_ _ | refine blk_drew ?_ | refine blk_alloc ?_ _)); exact BK113.out) hb); have n2_ := Aside0.mk (blk_below (g := gb114) (o := .cells #[.bool false, .string (⟨#[]⟩ : ByteArray), .string (⟨#[]⟩ : ByteArray)] 24 (0, 0)) (by (with_reducible repeat (first | refine blk_drewN ?_ _ | refine blk_drew ?_ | refine blk_alloc ?_ _)); exact BK114.out) hb); have n3_ := Aside0.mk (below_step (by repeat (first | (with_reducible first | exact HB.out | apply below_alloc | apply pw_below_drewN | apply below_drew1 | refine below_set ?_ GE112.out | refine below_set ?_ GE113.out | refine below_set ?_ GE114.out) | exact HB.out)) hb); clear BK112; clear BK113; clear BK114; clear HB; have BK112 := n0_; have BK113 := n1_; have BK114 := n2_; have HB := n3_; clear n0_ n1_ n2_ n3_; (try clear hb); (try clear hb2); (try clear hk); (try clear hi); have hnb14 := NB113_114.out; have hnc14 := NB114_113.out; have hcz15_0 : w13.cell? ⟨gb113, 0, none⟩ = some (.bool a1_0) := (blk_cell BK113.out 0).trans rfl; have hcz15_1 : w13.cell? ⟨gb113, 1, none⟩ = some (.string a1_1) := (blk_cell BK113.out 1).trans rfl; have hcz15_2 : w13.cell? ⟨gb113, 2, none⟩ = some (.string a1_2) := (blk_cell BK113.out 2).trans rfl; have hfz15_0 := blk_frozen BK113.out 0; have hfz15_1 := blk_frozen BK113.out 1; have hfz15_2 := blk_frozen BK113.out 2) | (go_at_call 21; (with_reducible refine (rational_Valid.calls a1_0 a1_1 a1_2 t116 _ ?side1 A9.out).mono ?_); (case side1 => exact Laid.below HLaid.out (by repeat (first | (with_reducible first | exact HB.out | apply below_alloc | apply pw_below_drewN | apply below_drew1 | refine below_set ?_ GE112.out | refine below_set ?_ GE113.out | refine below_set ?_ GE114.out) | exact HB.out))); rintro e w16 ⟨rfl, hb⟩; have n0_ := Aside0.mk (blk_below (g := gb112) (o := .cells #[.bool a0_0, .string a0_1, .string a0_2] 24 (0, 0)) (by (with_reducible repeat (first | refine blk_drewN ?_ _ | refine blk_drew ?_ | refine blk_alloc ?_ _)); exact BK112.out) hb); have n1_ := Aside0.mk (blk_below (g := gb113) (o := .cells #[.bool a1_0, .string a1_1, .string a1_2] 24 (0, 0)) (by (with_reducible repeat (first | refine blk_drewN ?_ _ | refine blk_drew ?_ | refine blk_alloc ?_ _)); exact BK113.out) hb); have n2_ := Aside0.mk (blk_below (g := gb114) (o := .cells #[.bool false, .string (⟨#[]⟩ : ByteArray), .string (⟨#[]⟩ : ByteArray)] 24 (0, 0)) (by (with_reducible repeat (first | refine blk_drewN ?_ _ | refine blk_drew ?_ | refine blk_alloc ?_ _)); exact BK114.out) hb); have n3_ := Aside0.mk (below_step (by repeat (first | (with_reducible first | exact HB.out | apply below_alloc | apply pw_below_drewN | apply below_drew1 | refine below_set ?_ GE112.out | refine below_set ?_ GE113.out | refine below_set ?_ GE114.out) | exact HB.out)) hb); clear BK112; clear BK113; clear BK114; clear HB; have BK112 := n0_; have BK113 := n1_; have BK114 := n2_; have HB := n3_; clear n0_ n1_ n2_ n3_; (try clear hb); (try clear hb2); (try clear hk); (try clear hi)))
      go_meet
      case rel => exact ⟨_, (!t116), (by first | rfl | (simp; done) | (simp [*]; done)), H', ⟨by first | omega | exact Nat.le_refl _⟩, ⟨by (with_reducible repeat (first | refine blk_drewN ?_ _ | refine blk_drew ?_ | refine blk_alloc ?_ _)); exact BK112.out⟩, ⟨by (with_reducible repeat (first | refine blk_drewN ?_ _ | refine blk_drew ?_ | refine blk_alloc ?_ _)); exact BK113.out⟩, ⟨by (with_reducible repeat (first | refine blk_drewN ?_ _ | refine blk_drew ?_ | refine blk_alloc ?_ _)); exact BK114.out⟩, ⟨by repeat (first | (with_reducible first | exact HB.out | apply below_alloc | apply pw_below_drewN | apply below_drew1 | refine below_set ?_ GE112.out | refine below_set ?_ GE113.out | refine below_set ?_ GE114.out) | exact HB.out)⟩⟩
    · replace c8 := Bool.eq_false_iff.mpr c8
      subst c8
      have H1 : (rational_Div.j0 k true a0_0 a0_1 a0_2 a1_0 a1_1 a1_2) = some (r1, r2, r3, r4) := by rw [if_neg (show ¬ (false = true) by decide)] at H; exact H
      clear H
      have H := H1
      clear H1
      have H' := Aside0.mk H
      clear H
      have hnb17 := NB112_113.out
      have hnc17 := NB113_112.out
      have hnb18 := NB112_114.out
      have hnc18 := NB114_112.out
      have hcz19_0 : w6.cell? ⟨gb112, 0, none⟩ = some (.bool a0_0) := (blk_cell BK112.out 0).trans rfl
      have hcz19_1 : w6.cell? ⟨gb112, 1, none⟩ = some (.string a0_1) := (blk_cell BK112.out 1).trans rfl
      have hcz19_2 : w6.cell? ⟨gb112, 2, none⟩ = some (.string a0_2) := (blk_cell BK112.out 2).trans rfl
      have hfz19_0 := blk_frozen BK112.out 0
      have hfz19_1 := blk_frozen BK112.out 1
      have hfz19_2 := blk_frozen BK112.out 2
      go_wp2_with (first | ((with_reducible refine gate_callee (f := 21) rfl ?_); refine goesL_ (some 8) rfl rfl Tryz.func21 (by kernel_rfl) rfl #[.agg #[.bool a0_0, .string a0_1, .string a0_2]] rfl (by (try simp only [List.map_toArray, List.map_cons, List.map_nil]); first | done | rfl | (simp only [List.length_drop, List.length_take]; rfl)) ?_; (with_reducible refine (rational_Valid.calls a0_0 a0_1 a0_2 false _ ?side1 A7.out).mono ?_); (case side1 => exact Laid.below HLaid.out (by repeat (first | (with_reducible first | exact HB.out | apply below_alloc | apply pw_below_drewN | apply below_drew1 | refine below_set ?_ GE112.out | refine below_set ?_ GE113.out | refine below_set ?_ GE114.out) | exact HB.out))); rintro e w20 ⟨rfl, hb⟩; refine ⟨_, rfl, ?_⟩; have n0_ := Aside0.mk (blk_below (g := gb112) (o := .cells #[.bool a0_0, .string a0_1, .string a0_2] 24 (0, 0)) (by (with_reducible repeat (first | refine blk_drewN ?_ _ | refine blk_drew ?_ | refine blk_alloc ?_ _)); exact BK112.out) hb); have n1_ := Aside0.mk (blk_below (g := gb113) (o := .cells #[.bool a1_0, .string a1_1, .string a1_2] 24 (0, 0)) (by (with_reducible repeat (first | refine blk_drewN ?_ _ | refine blk_drew ?_ | refine blk_alloc ?_ _)); exact BK113.out) hb); have n2_ := Aside0.mk (blk_below (g := gb114) (o := .cells #[.bool false, .string (⟨#[]⟩ : ByteArray), .string (⟨#[]⟩ : ByteArray)] 24 (0, 0)) (by (with_reducible repeat (first | refine blk_drewN ?_ _ | refine blk_drew ?_ | refine blk_alloc ?_ _)); exact BK114.out) hb); have n3_ := Aside0.mk (below_step (by repeat (first | (with_reducible first | exact HB.out | apply below_alloc | apply pw_below_drewN | apply below_drew1 | refine below_set ?_ GE112.out | refine below_set ?_ GE113.out | refine below_set ?_ GE114.out) | exact HB.out)) hb); clear BK112; clear BK113; clear BK114; clear HB; have BK112 := n0_; have BK113 := n1_; have BK114 := n2_; have HB := n3_; clear n0_ n1_ n2_ n3_; (try clear hb); (try clear hb2); (try clear hk); (try clear hi)))
      go_meet
      case rel => exact ⟨_, (true), (by first | rfl | (simp; done) | (simp [*]; done)), H', ⟨by first | omega | exact Nat.le_refl _⟩, ⟨by (with_reducible repeat (first | refine blk_drewN ?_ _ | refine blk_drew ?_ | refine blk_alloc ?_ _)); exact BK112.out⟩, ⟨by (with_reducible repeat (first | refine blk_drewN ?_ _ | refine blk_drew ?_ | refine blk_alloc ?_ _)); exact BK113.out⟩, ⟨by (with_reducible repeat (first | refine blk_drewN ?_ _ | refine blk_drew ?_ | refine blk_alloc ?_ _)); exact BK114.out⟩, ⟨by repeat (first | (with_reducible first | exact HB.out | apply below_alloc | apply pw_below_drewN | apply below_drew1 | refine below_set ?_ GE112.out | refine below_set ?_ GE113.out | refine below_set ?_ GE114.out) | exact HB.out)⟩⟩
  case rest =>
    clear HC3
    try clear c1
    try clear c2
    try clear p2
    try clear c3
    try clear c8
    try clear c10
    try clear c11
    try clear c14
    try clear c17
    try clear c18
    try clear hcz12_0
    try clear hcz12_1
    try clear hcz12_2
    try clear hcz15_0
    try clear hcz15_1
    try clear hcz15_2
    try clear hcz19_0
    try clear hcz19_1
    try clear hcz19_2
    try clear hfz12_0
    try clear hfz12_1
    try clear hfz12_2
    try clear hfz15_0
    try clear hfz15_1
    try clear hfz15_2
    try clear hfz19_0
    try clear hfz19_1
    try clear hfz19_2
    obtain ⟨kq, x6_2, rfl, HA, HJ2, BK112, BK113, BK114, HB⟩ := hcut
    cases kq with
    | zero => exact absurd HA.out (by simp [rational_Div.j0])
    | succ kj2 =>
      have H := HA.out
      clear HA
      simp only [rational_Div.j0] at H
      by_cases c21 : x6_2 = true
      · subst c21
        have H1 : (some (false, (⟨#[]⟩ : ByteArray), (⟨#[]⟩ : ByteArray), 1)) = some (r1, r2, r3, r4) := by rw [if_pos rfl] at H; exact H
        clear H
        have H := H1
        clear H1
        simp only [Option.some.injEq, Prod.mk.injEq] at H
        obtain ⟨rfl, rfl, rfl, rfl⟩ := H
        have hnb22 := NB114_112.out
        have hnc22 := NB112_114.out
        have hnb23 := NB114_113.out
        have hnc23 := NB113_114.out
        have hcz24_0 : wc.cell? ⟨gb114, 0, none⟩ = some (.bool false) := (blk_cell BK114.out 0).trans rfl
        have hcz24_1 : wc.cell? ⟨gb114, 1, none⟩ = some (.string (⟨#[]⟩ : ByteArray)) := (blk_cell BK114.out 1).trans rfl
        have hcz24_2 : wc.cell? ⟨gb114, 2, none⟩ = some (.string (⟨#[]⟩ : ByteArray)) := (blk_cell BK114.out 2).trans rfl
        have hfz24_0 := blk_frozen BK114.out 0
        have hfz24_1 := blk_frozen BK114.out 1
        have hfz24_2 := blk_frozen BK114.out 2
        go_wp2
        refine bodyPost_ret (results_ct rfl _ _ gb114 24 #[.bool false, .string (⟨#[]⟩ : ByteArray), .string (⟨#[]⟩ : ByteArray)] (0, 0) _ rfl (by (with_reducible repeat (first | refine blk_drewN ?_ _ | refine blk_drew ?_ | refine blk_alloc ?_ _)); refine blk_put (cs := #[.bool false, .string (⟨#[]⟩ : ByteArray), .string (⟨#[]⟩ : ByteArray)]) ?_ 2 _ rfl; (with_reducible repeat (first | refine blk_drewN ?_ _ | refine blk_drew ?_ | refine blk_alloc ?_ _)); refine blk_put (cs := #[.bool false, .string (⟨#[]⟩ : ByteArray), .string (⟨#[]⟩ : ByteArray)]) ?_ 1 _ rfl; (with_reducible repeat (first | refine blk_drewN ?_ _ | refine blk_drew ?_ | refine blk_alloc ?_ _)); refine blk_put (cs := #[.bool false, .string (⟨#[]⟩ : ByteArray), .string (⟨#[]⟩ : ByteArray)]) ?_ 0 _ rfl; (with_reducible repeat (first | refine blk_drewN ?_ _ | refine blk_drew ?_ | refine blk_alloc ?_ _)); exact BK114.out) Tryz.underlying24 rfl (by kernel_rfl)) rfl ?_
        exact ⟨by first | rfl | (simp [errW_none, errW_some] <;> rfl) | (simp [*, errW_none, errW_some] <;> rfl), by repeat (first | (with_reducible first | exact HB.out | apply below_alloc | apply pw_below_drewN | apply below_drew1 | refine below_set ?_ GE112.out | refine below_set ?_ GE113.out | refine below_set ?_ GE114.out) | exact HB.out)⟩
      · replace c21 := Bool.eq_false_iff.mpr c21
        subst c21
        have H1 : (if a1_1.toList = ([48] : List UInt8) then (some (false, (⟨#[]⟩ : ByteArray), (⟨#[]⟩ : ByteArray), 14)) else ((rational_Mul.f a0_0 a0_1 a0_2 a1_0 a1_2 a1_1).bind fun bt117 => (some (bt117.1, bt117.2.1, bt117.2.2.1, bt117.2.2.2)))) = some (r1, r2, r3, r4) := by rw [if_neg (show ¬ (false = true) by decide)] at H; exact H
        clear H
        have H := H1
        clear H1
        by_cases c25 : a1_1.toList = ([48] : List UInt8)
        · rw [if_pos c25] at H
          have c25b0 : (a1_1.toList == ([48] : List UInt8)) = true := beq_iff_eq.mpr c25
          have c25b1 : (a1_1.toList != ([48] : List UInt8)) = false := bne_eq_false_iff_eq.mpr c25
          clear c25
          simp only [Option.some.injEq, Prod.mk.injEq] at H
          obtain ⟨rfl, rfl, rfl, rfl⟩ := H
          have hnb26 := NB113_112.out
          have hnc26 := NB112_113.out
          have hnb27 := NB113_114.out
          have hnc27 := NB114_113.out
          have hcz28_0 : wc.cell? ⟨gb113, 0, none⟩ = some (.bool a1_0) := (blk_cell BK113.out 0).trans rfl
          have hcz28_1 : wc.cell? ⟨gb113, 1, none⟩ = some (.string a1_1) := (blk_cell BK113.out 1).trans rfl
          have hcz28_2 : wc.cell? ⟨gb113, 2, none⟩ = some (.string a1_2) := (blk_cell BK113.out 2).trans rfl
          have hfz28_0 := blk_frozen BK113.out 0
          have hfz28_1 := blk_frozen BK113.out 1
          have hfz28_2 := blk_frozen BK113.out 2
          have hnb29 := NB114_112.out
          have hnc29 := NB112_114.out
          have hcz30_0 : wc.cell? ⟨gb114, 0, none⟩ = some (.bool false) := (blk_cell BK114.out 0).trans rfl
          have hcz30_1 : wc.cell? ⟨gb114, 1, none⟩ = some (.string (⟨#[]⟩ : ByteArray)) := (blk_cell BK114.out 1).trans rfl
          have hcz30_2 : wc.cell? ⟨gb114, 2, none⟩ = some (.string (⟨#[]⟩ : ByteArray)) := (blk_cell BK114.out 2).trans rfl
          have hfz30_0 := blk_frozen BK114.out 0
          have hfz30_1 := blk_frozen BK114.out 1
          have hfz30_2 := blk_frozen BK114.out 2
          go_wp2
          refine bodyPost_ret (results_ct rfl _ _ gb114 24 #[.bool false, .string (⟨#[]⟩ : ByteArray), .string (⟨#[]⟩ : ByteArray)] (0, 0) _ rfl (by (with_reducible repeat (first | refine blk_drewN ?_ _ | refine blk_drew ?_ | refine blk_alloc ?_ _)); refine blk_put (cs := #[.bool false, .string (⟨#[]⟩ : ByteArray), .string (⟨#[]⟩ : ByteArray)]) ?_ 2 _ rfl; (with_reducible repeat (first | refine blk_drewN ?_ _ | refine blk_drew ?_ | refine blk_alloc ?_ _)); refine blk_put (cs := #[.bool false, .string (⟨#[]⟩ : ByteArray), .string (⟨#[]⟩ : ByteArray)]) ?_ 1 _ rfl; (with_reducible repeat (first | refine blk_drewN ?_ _ | refine blk_drew ?_ | refine blk_alloc ?_ _)); refine blk_put (cs := #[.bool false, .string (⟨#[]⟩ : ByteArray), .string (⟨#[]⟩ : ByteArray)]) ?_ 0 _ rfl; (with_reducible repeat (first | refine blk_drewN ?_ _ | refine blk_drew ?_ | refine blk_alloc ?_ _)); exact BK114.out) Tryz.underlying24 rfl (by kernel_rfl)) rfl ?_
          exact ⟨by first | rfl | (simp [errW_none, errW_some] <;> rfl) | (simp [*, errW_none, errW_some] <;> rfl), by repeat (first | (with_reducible first | exact HB.out | apply below_alloc | apply pw_below_drewN | apply below_drew1 | refine below_set ?_ GE112.out | refine below_set ?_ GE113.out | refine below_set ?_ GE114.out) | exact HB.out)⟩
        · rw [if_neg c25] at H
          have c25b0 : (a1_1.toList == ([48] : List UInt8)) = false := beq_eq_false_iff_ne.mpr c25
          have c25b1 : (a1_1.toList != ([48] : List UInt8)) = true := bne_iff_ne.mpr c25
          replace H := Option.bind_eq_some_iff.mp H
          obtain ⟨⟨t117, t118, t119, t120⟩, A310, H⟩ := H
          replace H : (some (t117, t118, t119, t120)) = some (r1, r2, r3, r4) := H
          have A31 := Aside0.mk A310
          clear A310
          simp only [Option.some.injEq, Prod.mk.injEq] at H
          obtain ⟨rfl, rfl, rfl, rfl⟩ := H
          have hnb32 := NB113_112.out
          have hnc32 := NB112_113.out
          have hnb33 := NB113_114.out
          have hnc33 := NB114_113.out
          have hcz34_0 : wc.cell? ⟨gb113, 0, none⟩ = some (.bool a1_0) := (blk_cell BK113.out 0).trans rfl
          have hcz34_1 : wc.cell? ⟨gb113, 1, none⟩ = some (.string a1_1) := (blk_cell BK113.out 1).trans rfl
          have hcz34_2 : wc.cell? ⟨gb113, 2, none⟩ = some (.string a1_2) := (blk_cell BK113.out 2).trans rfl
          have hfz34_0 := blk_frozen BK113.out 0
          have hfz34_1 := blk_frozen BK113.out 1
          have hfz34_2 := blk_frozen BK113.out 2
          have hnb35 := NB112_114.out
          have hnc35 := NB114_112.out
          have hcz36_0 : wc.cell? ⟨gb112, 0, none⟩ = some (.bool a0_0) := (blk_cell BK112.out 0).trans rfl
          have hcz36_1 : wc.cell? ⟨gb112, 1, none⟩ = some (.string a0_1) := (blk_cell BK112.out 1).trans rfl
          have hcz36_2 : wc.cell? ⟨gb112, 2, none⟩ = some (.string a0_2) := (blk_cell BK112.out 2).trans rfl
          have hfz36_0 := blk_frozen BK112.out 0
          have hfz36_1 := blk_frozen BK112.out 1
          have hfz36_2 := blk_frozen BK112.out 2
          go_wp2_with (first | ((with_reducible refine gate_callee (f := 29) rfl ?_); refine goesL_ (some 29) rfl rfl Tryz.func29 (by kernel_rfl) rfl #[.agg #[.bool a0_0, .string a0_1, .string a0_2], .agg #[.bool a1_0, .string a1_2, .string a1_1]] rfl (by (try simp only [List.map_toArray, List.map_cons, List.map_nil]); first | done | rfl | (simp only [List.length_drop, List.length_take]; rfl)) ?_; (with_reducible refine (rational_Mul.calls a0_0 a0_1 a0_2 a1_0 a1_2 a1_1 t117 t118 t119 t120 _ ?side1 A31.out).mono ?_); (case side1 => exact Laid.below HLaid.out (by repeat (first | (with_reducible first | exact HB.out | apply below_alloc | apply pw_below_drewN | apply below_drew1 | refine below_set ?_ GE112.out | refine below_set ?_ GE113.out | refine below_set ?_ GE114.out) | exact HB.out))); rintro e w37 ⟨rfl, hb⟩; refine ⟨_, rfl, ?_⟩; have n0_ := Aside0.mk (blk_below (g := gb112) (o := .cells #[.bool a0_0, .string a0_1, .string a0_2] 24 (0, 0)) (by (with_reducible repeat (first | refine blk_drewN ?_ _ | refine blk_drew ?_ | refine blk_alloc ?_ _)); exact BK112.out) hb); have n1_ := Aside0.mk (blk_below (g := gb113) (o := .cells #[.bool a1_0, .string a1_1, .string a1_2] 24 (0, 0)) (by (with_reducible repeat (first | refine blk_drewN ?_ _ | refine blk_drew ?_ | refine blk_alloc ?_ _)); exact BK113.out) hb); have n2_ := Aside0.mk (blk_below (g := gb114) (o := .cells #[.bool false, .string (⟨#[]⟩ : ByteArray), .string (⟨#[]⟩ : ByteArray)] 24 (0, 0)) (by (with_reducible repeat (first | refine blk_drewN ?_ _ | refine blk_drew ?_ | refine blk_alloc ?_ _)); exact BK114.out) hb); have n3_ := Aside0.mk (below_step (by repeat (first | (with_reducible first | exact HB.out | apply below_alloc | apply pw_below_drewN | apply below_drew1 | refine below_set ?_ GE112.out | refine below_set ?_ GE113.out | refine below_set ?_ GE114.out) | exact HB.out)) hb); clear BK112; clear BK113; clear BK114; clear HB; have BK112 := n0_; have BK113 := n1_; have BK114 := n2_; have HB := n3_; clear n0_ n1_ n2_ n3_; (try clear hb); (try clear hb2); (try clear hk); (try clear hi); have hcz38_0 : w37.cell? ⟨gb114, 0, none⟩ = some (.bool false) := (blk_cell BK114.out 0).trans rfl; have hcz38_1 : w37.cell? ⟨gb114, 1, none⟩ = some (.string (⟨#[]⟩ : ByteArray)) := (blk_cell BK114.out 1).trans rfl; have hcz38_2 : w37.cell? ⟨gb114, 2, none⟩ = some (.string (⟨#[]⟩ : ByteArray)) := (blk_cell BK114.out 2).trans rfl; have hfz38_0 := blk_frozen BK114.out 0; have hfz38_1 := blk_frozen BK114.out 1; have hfz38_2 := blk_frozen BK114.out 2))
          refine bodyPost_ret (results_ct rfl _ _ gb114 24 #[.bool t117, .string t118, .string t119] (0, 0) _ rfl (by (with_reducible repeat (first | refine blk_drewN ?_ _ | refine blk_drew ?_ | refine blk_alloc ?_ _)); refine blk_put (cs := #[.bool t117, .string t118, .string (⟨#[]⟩ : ByteArray)]) ?_ 2 _ rfl; (with_reducible repeat (first | refine blk_drewN ?_ _ | refine blk_drew ?_ | refine blk_alloc ?_ _)); refine blk_put (cs := #[.bool t117, .string (⟨#[]⟩ : ByteArray), .string (⟨#[]⟩ : ByteArray)]) ?_ 1 _ rfl; (with_reducible repeat (first | refine blk_drewN ?_ _ | refine blk_drew ?_ | refine blk_alloc ?_ _)); refine blk_put (cs := #[.bool false, .string (⟨#[]⟩ : ByteArray), .string (⟨#[]⟩ : ByteArray)]) ?_ 0 _ rfl; (with_reducible repeat (first | refine blk_drewN ?_ _ | refine blk_drew ?_ | refine blk_alloc ?_ _)); exact BK114.out) Tryz.underlying24 rfl (by kernel_rfl)) rfl ?_
          exact ⟨by first | rfl | (simp [errW_none, errW_some] <;> rfl) | (simp [*, errW_none, errW_some] <;> rfl), by repeat (first | (with_reducible first | exact HB.out | apply below_alloc | apply pw_below_drewN | apply below_drew1 | refine below_set ?_ GE112.out | refine below_set ?_ GE113.out | refine below_set ?_ GE114.out) | exact HB.out)⟩
def rational_Parse.f (a0 : ByteArray) : Option (Bool × ByteArray × ByteArray × Int) := (strings_CutPrefix.f a0 (⟨#[45]⟩ : ByteArray)).bind fun bt122 => ((strings_Cut.f bt122.1 (⟨#[47]⟩ : ByteArray)).bind fun bt124 => (if bt124.2.2 = true then ((rational_Text.f bt122.2 bt124.1 bt124.2.1).bind fun bt128 => (if bt128.2 = 0 then (if bt128.1.toList = a0.toList then (some (bt122.2, bt124.1, bt124.2.1, 0)) else (some (false, (⟨#[]⟩ : ByteArray), (⟨#[]⟩ : ByteArray), 5))) else (some (false, (⟨#[]⟩ : ByteArray), (⟨#[]⟩ : ByteArray), 5)))) else ((rational_Text.f bt122.2 bt124.1 (⟨#[49]⟩ : ByteArray)).bind fun bt131 => (if bt131.2 = 0 then (if bt131.1.toList = a0.toList then (some (bt122.2, bt124.1, (⟨#[49]⟩ : ByteArray), 0)) else (some (false, (⟨#[]⟩ : ByteArray), (⟨#[]⟩ : ByteArray), 5))) else (some (false, (⟨#[]⟩ : ByteArray), (⟨#[]⟩ : ByteArray), 5))))))
set_option maxHeartbeats 8000000 in
set_option maxRecDepth 100000 in
theorem rational_Parse.calls (a0 : ByteArray) (r1 : Bool) (r2 : ByteArray) (r3 : ByteArray) (r4 : Int) (w : World) (hL : Laid w) (h : rational_Parse.f a0 = some (r1, r2, r3, r4)) :
    Calls Tryz.prog 19 #[.string a0] w fun e w' => e = .returned (.tuple #[.agg #[.bool r1, .string r2, .string r3], .int .i64 r4]) ∧ Below w.heap.size w w' := by
  have HLaid := Aside0.mk hL
  clear hL
  have hu24 := Tryz.underlying24
  have HB := Aside0.mk (Below.refl w.heap.size w)
  have H : ((strings_CutPrefix.f a0 (⟨#[45]⟩ : ByteArray)).bind fun bt122 => ((strings_Cut.f bt122.1 (⟨#[47]⟩ : ByteArray)).bind fun bt124 => (if bt124.2.2 = true then ((rational_Text.f bt122.2 bt124.1 bt124.2.1).bind fun bt128 => (if bt128.2 = 0 then (if bt128.1.toList = a0.toList then (some (bt122.2, bt124.1, bt124.2.1, 0)) else (some (false, (⟨#[]⟩ : ByteArray), (⟨#[]⟩ : ByteArray), 5))) else (some (false, (⟨#[]⟩ : ByteArray), (⟨#[]⟩ : ByteArray), 5)))) else ((rational_Text.f bt122.2 bt124.1 (⟨#[49]⟩ : ByteArray)).bind fun bt131 => (if bt131.2 = 0 then (if bt131.1.toList = a0.toList then (some (bt122.2, bt124.1, (⟨#[49]⟩ : ByteArray), 0)) else (some (false, (⟨#[]⟩ : ByteArray), (⟨#[]⟩ : ByteArray), 5))) else (some (false, (⟨#[]⟩ : ByteArray), (⟨#[]⟩ : ByteArray), 5))))))) = some (r1, r2, r3, r4) := h
  clear h
  replace H := Option.bind_eq_some_iff.mp H
  obtain ⟨⟨t122, t123⟩, A20, H⟩ := H
  replace H : ((strings_Cut.f t122 (⟨#[47]⟩ : ByteArray)).bind fun bt124 => (if bt124.2.2 = true then ((rational_Text.f t123 bt124.1 bt124.2.1).bind fun bt128 => (if bt128.2 = 0 then (if bt128.1.toList = a0.toList then (some (t123, bt124.1, bt124.2.1, 0)) else (some (false, (⟨#[]⟩ : ByteArray), (⟨#[]⟩ : ByteArray), 5))) else (some (false, (⟨#[]⟩ : ByteArray), (⟨#[]⟩ : ByteArray), 5)))) else ((rational_Text.f t123 bt124.1 (⟨#[49]⟩ : ByteArray)).bind fun bt131 => (if bt131.2 = 0 then (if bt131.1.toList = a0.toList then (some (t123, bt124.1, (⟨#[49]⟩ : ByteArray), 0)) else (some (false, (⟨#[]⟩ : ByteArray), (⟨#[]⟩ : ByteArray), 5))) else (some (false, (⟨#[]⟩ : ByteArray), (⟨#[]⟩ : ByteArray), 5)))))) = some (r1, r2, r3, r4) := H
  have A2 := Aside0.mk A20
  clear A20
  replace H := Option.bind_eq_some_iff.mp H
  obtain ⟨⟨t124, t125, t126⟩, A30, H⟩ := H
  replace H : (if t126 = true then ((rational_Text.f t123 t124 t125).bind fun bt128 => (if bt128.2 = 0 then (if bt128.1.toList = a0.toList then (some (t123, t124, t125, 0)) else (some (false, (⟨#[]⟩ : ByteArray), (⟨#[]⟩ : ByteArray), 5))) else (some (false, (⟨#[]⟩ : ByteArray), (⟨#[]⟩ : ByteArray), 5)))) else ((rational_Text.f t123 t124 (⟨#[49]⟩ : ByteArray)).bind fun bt131 => (if bt131.2 = 0 then (if bt131.1.toList = a0.toList then (some (t123, t124, (⟨#[49]⟩ : ByteArray), 0)) else (some (false, (⟨#[]⟩ : ByteArray), (⟨#[]⟩ : ByteArray), 5))) else (some (false, (⟨#[]⟩ : ByteArray), (⟨#[]⟩ : ByteArray), 5))))) = some (r1, r2, r3, r4) := H
  have A3 := Aside0.mk A30
  clear A30
  by_cases c4 : t126 = true
  · subst c4
    have H1 : ((rational_Text.f t123 t124 t125).bind fun bt128 => (if bt128.2 = 0 then (if bt128.1.toList = a0.toList then (some (t123, t124, t125, 0)) else (some (false, (⟨#[]⟩ : ByteArray), (⟨#[]⟩ : ByteArray), 5))) else (some (false, (⟨#[]⟩ : ByteArray), (⟨#[]⟩ : ByteArray), 5)))) = some (r1, r2, r3, r4) := by rw [if_pos rfl] at H; exact H
    clear H
    have H := H1
    clear H1
    replace H := Option.bind_eq_some_iff.mp H
    obtain ⟨⟨t128, t129⟩, A50, H⟩ := H
    replace H : (if t129 = 0 then (if t128.toList = a0.toList then (some (t123, t124, t125, 0)) else (some (false, (⟨#[]⟩ : ByteArray), (⟨#[]⟩ : ByteArray), 5))) else (some (false, (⟨#[]⟩ : ByteArray), (⟨#[]⟩ : ByteArray), 5))) = some (r1, r2, r3, r4) := H
    have A5 := Aside0.mk A50
    clear A50
    by_cases c6 : t129 = 0
    · rw [if_pos c6] at H
      have c6b0 : (t129 == 0) = true := beq_iff_eq.mpr c6
      have c6b1 : (t129 != 0) = false := bne_eq_false_iff_eq.mpr c6
      clear c6
      by_cases c7 : t128.toList = a0.toList
      · rw [if_pos c7] at H
        have c7b0 : (t128.toList == a0.toList) = true := beq_iff_eq.mpr c7
        have c7b1 : (t128.toList != a0.toList) = false := bne_eq_false_iff_eq.mpr c7
        clear c7
        simp only [Option.some.injEq, Prod.mk.injEq] at H
        obtain ⟨rfl, rfl, rfl, rfl⟩ := H
        go_enter Tryz.func19, Tryz.ntmps19
        go_wp2_with (first | ((with_reducible refine gate_dst (N := 2) rfl ?_); refine box_event ?hg (N := 2) ?hd (cs := #[.bool false, .string (⟨#[]⟩ : ByteArray), .string (⟨#[]⟩ : ByteArray)]) (t := 24) ?hr ?_; (case hd => rfl); (case hg => rfl); (case hr => first | (go_simp; done) | (go_simp; rfl)); intro gb121 hg w8 hbox hb; have n0_ := Aside0.mk (below_step (by repeat (first | (with_reducible first | exact HB.out | apply below_alloc | apply pw_below_drewN | apply below_drew1) | exact HB.out)) hb); have n1_ := Aside0.mk (hbox); have n2_ := Aside0.mk ((by rw [hg]; exact (below_size (by repeat (first | (with_reducible first | exact HB.out | apply below_alloc | apply pw_below_drewN | apply below_drew1) | exact HB.out))) : w.heap.size ≤ gb121)); have n3_ := Aside0.mk ((by rw [hg]; exact (below_size (by repeat (first | (with_reducible first | exact HB.out | apply below_alloc | apply pw_below_drewN | apply below_drew1) | exact HB.out))) : w.heap.size ≤ gb121)); clear HB; have HB := n0_; have BK121 := n1_; have GW121 := n2_; have GE121 := n3_; clear n0_ n1_ n2_ n3_; clear hb hbox hg) | ((with_reducible refine gate_callee (f := 44) rfl ?_); refine goesL_ (some 14) rfl rfl Tryz.func44 (by kernel_rfl) rfl #[.string a0, .string (⟨#[45]⟩ : ByteArray)] rfl (by (try simp only [List.map_toArray, List.map_cons, List.map_nil]); first | done | rfl | (simp only [List.length_drop, List.length_take]; rfl)) ?_; (with_reducible refine (strings_CutPrefix.calls a0 (⟨#[45]⟩ : ByteArray) t122 t123 _ A2.out).mono ?_); rintro e w9 ⟨rfl, hb⟩; refine ⟨_, rfl, ?_⟩; have n0_ := Aside0.mk (blk_below (g := gb121) (o := .cells #[.bool false, .string (⟨#[]⟩ : ByteArray), .string (⟨#[]⟩ : ByteArray)] 24 (0, 0)) (by (with_reducible repeat (first | refine blk_drewN ?_ _ | refine blk_drew ?_ | refine blk_alloc ?_ _)); exact BK121.out) hb); have n1_ := Aside0.mk (below_step (by repeat (first | (with_reducible first | exact HB.out | apply below_alloc | apply pw_below_drewN | apply below_drew1 | refine below_set ?_ GE121.out) | exact HB.out)) hb); clear BK121; clear HB; have BK121 := n0_; have HB := n1_; clear n0_ n1_; (try clear hb); (try clear hb2); (try clear hk); (try clear hi)) | ((with_reducible refine gate_callee (f := 45) rfl ?_); refine goesL_ (some 19) rfl rfl Tryz.func45 (by kernel_rfl) rfl #[.string t122, .string (⟨#[47]⟩ : ByteArray)] rfl (by (try simp only [List.map_toArray, List.map_cons, List.map_nil]); first | done | rfl | (simp only [List.length_drop, List.length_take]; rfl)) ?_; (with_reducible refine (strings_Cut.calls t122 (⟨#[47]⟩ : ByteArray) t124 t125 true _ A3.out).mono ?_); rintro e w10 ⟨rfl, hb⟩; refine ⟨_, rfl, ?_⟩; have n0_ := Aside0.mk (blk_below (g := gb121) (o := .cells #[.bool false, .string (⟨#[]⟩ : ByteArray), .string (⟨#[]⟩ : ByteArray)] 24 (0, 0)) (by (with_reducible repeat (first | refine blk_drewN ?_ _ | refine blk_drew ?_ | refine blk_alloc ?_ _)); exact BK121.out) hb); have n1_ := Aside0.mk (below_step (by repeat (first | (with_reducible first | exact HB.out | apply below_alloc | apply pw_below_drewN | apply below_drew1 | refine below_set ?_ GE121.out) | exact HB.out)) hb); clear BK121; clear HB; have BK121 := n0_; have HB := n1_; clear n0_ n1_; (try clear hb); (try clear hb2); (try clear hk); (try clear hi)) | ((with_reducible refine gate_dst (N := 9) rfl ?_); refine box_event ?hg (N := 9) ?hd (cs := #[.bool false, .string (⟨#[]⟩ : ByteArray), .string (⟨#[]⟩ : ByteArray)]) (t := 24) ?hr ?_; (case hd => rfl); (case hg => rfl); (case hr => first | (go_simp; done) | (go_simp; rfl)); intro gb127 hg w11 hbox hb; have n0_ := Aside0.mk (blk_below (g := gb121) (o := .cells #[.bool false, .string (⟨#[]⟩ : ByteArray), .string (⟨#[]⟩ : ByteArray)] 24 (0, 0)) (by (with_reducible repeat (first | refine blk_drewN ?_ _ | refine blk_drew ?_ | refine blk_alloc ?_ _)); exact BK121.out) hb); have n1_ := Aside0.mk (below_step (by repeat (first | (with_reducible first | exact HB.out | apply below_alloc | apply pw_below_drewN | apply below_drew1 | refine below_set ?_ GE121.out) | exact HB.out)) hb); have n2_ := Aside0.mk (hbox); have n3_ := Aside0.mk ((by rw [hg]; exact (below_size (by repeat (first | (with_reducible first | exact HB.out | apply below_alloc | apply pw_below_drewN | apply below_drew1 | refine below_set ?_ GE121.out) | exact HB.out))) : w.heap.size ≤ gb127)); have n4_ := Aside0.mk ((by rw [hg]; exact (below_size (by repeat (first | (with_reducible first | exact HB.out | apply below_alloc | apply pw_below_drewN | apply below_drew1 | refine below_set ?_ GE121.out) | exact HB.out))) : w.heap.size ≤ gb127)); have n5_ := Aside0.mk ((by rw [hg]; exact Nat.ne_of_lt (blk_lt (g := gb121) (o := .cells #[.bool false, .string (⟨#[]⟩ : ByteArray), .string (⟨#[]⟩ : ByteArray)] 24 (0, 0)) (by (with_reducible repeat (first | refine blk_drewN ?_ _ | refine blk_drew ?_ | refine blk_alloc ?_ _)); exact BK121.out)) : gb121 ≠ gb127)); have n6_ := Aside0.mk ((by rw [hg]; exact Nat.ne_of_gt (blk_lt (g := gb121) (o := .cells #[.bool false, .string (⟨#[]⟩ : ByteArray), .string (⟨#[]⟩ : ByteArray)] 24 (0, 0)) (by (with_reducible repeat (first | refine blk_drewN ?_ _ | refine blk_drew ?_ | refine blk_alloc ?_ _)); exact BK121.out)) : gb127 ≠ gb121)); clear BK121; clear HB; have BK121 := n0_; have HB := n1_; have BK127 := n2_; have GW127 := n3_; have GE127 := n4_; have NB121_127 := n5_; have NB127_121 := n6_; clear n0_ n1_ n2_ n3_ n4_ n5_ n6_; clear hb hbox hg; have hnb12 := NB127_121.out; have hnc12 := NB121_127.out; have hcz13_0 : w11.cell? ⟨gb127, 0, none⟩ = some (.bool false) := (blk_cell BK127.out 0).trans rfl; have hcz13_1 : w11.cell? ⟨gb127, 1, none⟩ = some (.string (⟨#[]⟩ : ByteArray)) := (blk_cell BK127.out 1).trans rfl; have hcz13_2 : w11.cell? ⟨gb127, 2, none⟩ = some (.string (⟨#[]⟩ : ByteArray)) := (blk_cell BK127.out 2).trans rfl; have hfz13_0 := blk_frozen BK127.out 0; have hfz13_1 := blk_frozen BK127.out 1; have hfz13_2 := blk_frozen BK127.out 2) | ((with_reducible refine gate_callee (f := 17) rfl ?_); refine goesL_ (some 31) rfl rfl Tryz.func17 (by kernel_rfl) rfl #[.agg #[.bool t123, .string t124, .string t125]] rfl (by (try simp only [List.map_toArray, List.map_cons, List.map_nil]); first | done | rfl | (simp only [List.length_drop, List.length_take]; rfl)) ?_; (with_reducible refine (rational_Text.calls t123 t124 t125 t128 t129 _ ?side1 A5.out).mono ?_); (case side1 => exact Laid.below HLaid.out (by repeat (first | (with_reducible first | exact HB.out | apply below_alloc | apply pw_below_drewN | apply below_drew1 | refine below_set ?_ GE121.out | refine below_set ?_ GE127.out) | exact HB.out))); rintro e w14 ⟨rfl, hb⟩; refine ⟨_, rfl, ?_⟩; have n0_ := Aside0.mk (blk_below (g := gb121) (o := .cells #[.bool false, .string (⟨#[]⟩ : ByteArray), .string (⟨#[]⟩ : ByteArray)] 24 (0, 0)) (by (with_reducible repeat (first | refine blk_drewN ?_ _ | refine blk_drew ?_ | refine blk_alloc ?_ _)); refine blk_far ?_ NB121_127.out _; (with_reducible repeat (first | refine blk_drewN ?_ _ | refine blk_drew ?_ | refine blk_alloc ?_ _)); refine blk_far ?_ NB121_127.out _; (with_reducible repeat (first | refine blk_drewN ?_ _ | refine blk_drew ?_ | refine blk_alloc ?_ _)); refine blk_far ?_ NB121_127.out _; (with_reducible repeat (first | refine blk_drewN ?_ _ | refine blk_drew ?_ | refine blk_alloc ?_ _)); exact BK121.out) hb); have n1_ := Aside0.mk (blk_below (g := gb127) (o := .cells #[.bool t123, .string t124, .string t125] 24 (0, 0)) (by (with_reducible repeat (first | refine blk_drewN ?_ _ | refine blk_drew ?_ | refine blk_alloc ?_ _)); refine blk_put (cs := #[.bool t123, .string t124, .string (⟨#[]⟩ : ByteArray)]) ?_ 2 _ rfl; (with_reducible repeat (first | refine blk_drewN ?_ _ | refine blk_drew ?_ | refine blk_alloc ?_ _)); refine blk_put (cs := #[.bool t123, .string (⟨#[]⟩ : ByteArray), .string (⟨#[]⟩ : ByteArray)]) ?_ 1 _ rfl; (with_reducible repeat (first | refine blk_drewN ?_ _ | refine blk_drew ?_ | refine blk_alloc ?_ _)); refine blk_put (cs := #[.bool false, .string (⟨#[]⟩ : ByteArray), .string (⟨#[]⟩ : ByteArray)]) ?_ 0 _ rfl; (with_reducible repeat (first | refine blk_drewN ?_ _ | refine blk_drew ?_ | refine blk_alloc ?_ _)); exact BK127.out) hb); have n2_ := Aside0.mk (below_step (by repeat (first | (with_reducible first | exact HB.out | apply below_alloc | apply pw_below_drewN | apply below_drew1 | refine below_set ?_ GE121.out | refine below_set ?_ GE127.out) | exact HB.out)) hb); clear BK121; clear BK127; clear HB; have BK121 := n0_; have BK127 := n1_; have HB := n2_; clear n0_ n1_ n2_; (try clear hb); (try clear hb2); (try clear hk); (try clear hi); have hcz15_0 : w14.cell? ⟨gb127, 0, none⟩ = some (.bool t123) := (blk_cell BK127.out 0).trans rfl; have hcz15_1 : w14.cell? ⟨gb127, 1, none⟩ = some (.string t124) := (blk_cell BK127.out 1).trans rfl; have hcz15_2 : w14.cell? ⟨gb127, 2, none⟩ = some (.string t125) := (blk_cell BK127.out 2).trans rfl; have hfz15_0 := blk_frozen BK127.out 0; have hfz15_1 := blk_frozen BK127.out 1; have hfz15_2 := blk_frozen BK127.out 2; have hcz16_0 : w14.cell? ⟨gb121, 0, none⟩ = some (.bool false) := (blk_cell BK121.out 0).trans rfl; have hcz16_1 : w14.cell? ⟨gb121, 1, none⟩ = some (.string (⟨#[]⟩ : ByteArray)) := (blk_cell BK121.out 1).trans rfl; have hcz16_2 : w14.cell? ⟨gb121, 2, none⟩ = some (.string (⟨#[]⟩ : ByteArray)) := (blk_cell BK121.out 2).trans rfl; have hfz16_0 := blk_frozen BK121.out 0; have hfz16_1 := blk_frozen BK121.out 1; have hfz16_2 := blk_frozen BK121.out 2))
        refine bodyPost_ret (results_ct rfl _ _ gb121 24 #[.bool t123, .string t124, .string t125] (0, 0) _ rfl (by (with_reducible repeat (first | refine blk_drewN ?_ _ | refine blk_drew ?_ | refine blk_alloc ?_ _)); refine blk_put (cs := #[.bool t123, .string t124, .string (⟨#[]⟩ : ByteArray)]) ?_ 2 _ rfl; (with_reducible repeat (first | refine blk_drewN ?_ _ | refine blk_drew ?_ | refine blk_alloc ?_ _)); refine blk_put (cs := #[.bool t123, .string (⟨#[]⟩ : ByteArray), .string (⟨#[]⟩ : ByteArray)]) ?_ 1 _ rfl; (with_reducible repeat (first | refine blk_drewN ?_ _ | refine blk_drew ?_ | refine blk_alloc ?_ _)); refine blk_put (cs := #[.bool false, .string (⟨#[]⟩ : ByteArray), .string (⟨#[]⟩ : ByteArray)]) ?_ 0 _ rfl; (with_reducible repeat (first | refine blk_drewN ?_ _ | refine blk_drew ?_ | refine blk_alloc ?_ _)); exact BK121.out) Tryz.underlying24 rfl (by kernel_rfl)) rfl ?_
        exact ⟨by first | rfl | (simp [errW_none, errW_some] <;> rfl) | (simp [*, errW_none, errW_some] <;> rfl), by repeat (first | (with_reducible first | exact HB.out | apply below_alloc | apply pw_below_drewN | apply below_drew1 | refine below_set ?_ GE121.out | refine below_set ?_ GE127.out) | exact HB.out)⟩
      · rw [if_neg c7] at H
        have c7b0 : (t128.toList == a0.toList) = false := beq_eq_false_iff_ne.mpr c7
        have c7b1 : (t128.toList != a0.toList) = true := bne_iff_ne.mpr c7
        simp only [Option.some.injEq, Prod.mk.injEq] at H
        obtain ⟨rfl, rfl, rfl, rfl⟩ := H
        go_enter Tryz.func19, Tryz.ntmps19
        go_wp2_with (first | ((with_reducible refine gate_dst (N := 2) rfl ?_); refine box_event ?hg (N := 2) ?hd (cs := #[.bool false, .string (⟨#[]⟩ : ByteArray), .string (⟨#[]⟩ : ByteArray)]) (t := 24) ?hr ?_; (case hd => rfl); (case hg => rfl); (case hr => first | (go_simp; done) | (go_simp; rfl)); intro gb121 hg w17 hbox hb; have n0_ := Aside0.mk (below_step (by repeat (first | (with_reducible first | exact HB.out | apply below_alloc | apply pw_below_drewN | apply below_drew1) | exact HB.out)) hb); have n1_ := Aside0.mk (hbox); have n2_ := Aside0.mk ((by rw [hg]; exact (below_size (by repeat (first | (with_reducible first | exact HB.out | apply below_alloc | apply pw_below_drewN | apply below_drew1) | exact HB.out))) : w.heap.size ≤ gb121)); have n3_ := Aside0.mk ((by rw [hg]; exact (below_size (by repeat (first | (with_reducible first | exact HB.out | apply below_alloc | apply pw_below_drewN | apply below_drew1) | exact HB.out))) : w.heap.size ≤ gb121)); clear HB; have HB := n0_; have BK121 := n1_; have GW121 := n2_; have GE121 := n3_; clear n0_ n1_ n2_ n3_; clear hb hbox hg) | ((with_reducible refine gate_callee (f := 44) rfl ?_); refine goesL_ (some 14) rfl rfl Tryz.func44 (by kernel_rfl) rfl #[.string a0, .string (⟨#[45]⟩ : ByteArray)] rfl (by (try simp only [List.map_toArray, List.map_cons, List.map_nil]); first | done | rfl | (simp only [List.length_drop, List.length_take]; rfl)) ?_; (with_reducible refine (strings_CutPrefix.calls a0 (⟨#[45]⟩ : ByteArray) t122 t123 _ A2.out).mono ?_); rintro e w18 ⟨rfl, hb⟩; refine ⟨_, rfl, ?_⟩; have n0_ := Aside0.mk (blk_below (g := gb121) (o := .cells #[.bool false, .string (⟨#[]⟩ : ByteArray), .string (⟨#[]⟩ : ByteArray)] 24 (0, 0)) (by (with_reducible repeat (first | refine blk_drewN ?_ _ | refine blk_drew ?_ | refine blk_alloc ?_ _)); exact BK121.out) hb); have n1_ := Aside0.mk (below_step (by repeat (first | (with_reducible first | exact HB.out | apply below_alloc | apply pw_below_drewN | apply below_drew1 | refine below_set ?_ GE121.out) | exact HB.out)) hb); clear BK121; clear HB; have BK121 := n0_; have HB := n1_; clear n0_ n1_; (try clear hb); (try clear hb2); (try clear hk); (try clear hi)) | ((with_reducible refine gate_callee (f := 45) rfl ?_); refine goesL_ (some 19) rfl rfl Tryz.func45 (by kernel_rfl) rfl #[.string t122, .string (⟨#[47]⟩ : ByteArray)] rfl (by (try simp only [List.map_toArray, List.map_cons, List.map_nil]); first | done | rfl | (simp only [List.length_drop, List.length_take]; rfl)) ?_; (with_reducible refine (strings_Cut.calls t122 (⟨#[47]⟩ : ByteArray) t124 t125 true _ A3.out).mono ?_); rintro e w19 ⟨rfl, hb⟩; refine ⟨_, rfl, ?_⟩; have n0_ := Aside0.mk (blk_below (g := gb121) (o := .cells #[.bool false, .string (⟨#[]⟩ : ByteArray), .string (⟨#[]⟩ : ByteArray)] 24 (0, 0)) (by (with_reducible repeat (first | refine blk_drewN ?_ _ | refine blk_drew ?_ | refine blk_alloc ?_ _)); exact BK121.out) hb); have n1_ := Aside0.mk (below_step (by repeat (first | (with_reducible first | exact HB.out | apply below_alloc | apply pw_below_drewN | apply below_drew1 | refine below_set ?_ GE121.out) | exact HB.out)) hb); clear BK121; clear HB; have BK121 := n0_; have HB := n1_; clear n0_ n1_; (try clear hb); (try clear hb2); (try clear hk); (try clear hi)) | ((with_reducible refine gate_dst (N := 9) rfl ?_); refine box_event ?hg (N := 9) ?hd (cs := #[.bool false, .string (⟨#[]⟩ : ByteArray), .string (⟨#[]⟩ : ByteArray)]) (t := 24) ?hr ?_; (case hd => rfl); (case hg => rfl); (case hr => first | (go_simp; done) | (go_simp; rfl)); intro gb127 hg w20 hbox hb; have n0_ := Aside0.mk (blk_below (g := gb121) (o := .cells #[.bool false, .string (⟨#[]⟩ : ByteArray), .string (⟨#[]⟩ : ByteArray)] 24 (0, 0)) (by (with_reducible repeat (first | refine blk_drewN ?_ _ | refine blk_drew ?_ | refine blk_alloc ?_ _)); exact BK121.out) hb); have n1_ := Aside0.mk (below_step (by repeat (first | (with_reducible first | exact HB.out | apply below_alloc | apply pw_below_drewN | apply below_drew1 | refine below_set ?_ GE121.out) | exact HB.out)) hb); have n2_ := Aside0.mk (hbox); have n3_ := Aside0.mk ((by rw [hg]; exact (below_size (by repeat (first | (with_reducible first | exact HB.out | apply below_alloc | apply pw_below_drewN | apply below_drew1 | refine below_set ?_ GE121.out) | exact HB.out))) : w.heap.size ≤ gb127)); have n4_ := Aside0.mk ((by rw [hg]; exact (below_size (by repeat (first | (with_reducible first | exact HB.out | apply below_alloc | apply pw_below_drewN | apply below_drew1 | refine below_set ?_ GE121.out) | exact HB.out))) : w.heap.size ≤ gb127)); have n5_ := Aside0.mk ((by rw [hg]; exact Nat.ne_of_lt (blk_lt (g := gb121) (o := .cells #[.bool false, .string (⟨#[]⟩ : ByteArray), .string (⟨#[]⟩ : ByteArray)] 24 (0, 0)) (by (with_reducible repeat (first | refine blk_drewN ?_ _ | refine blk_drew ?_ | refine blk_alloc ?_ _)); exact BK121.out)) : gb121 ≠ gb127)); have n6_ := Aside0.mk ((by rw [hg]; exact Nat.ne_of_gt (blk_lt (g := gb121) (o := .cells #[.bool false, .string (⟨#[]⟩ : ByteArray), .string (⟨#[]⟩ : ByteArray)] 24 (0, 0)) (by (with_reducible repeat (first | refine blk_drewN ?_ _ | refine blk_drew ?_ | refine blk_alloc ?_ _)); exact BK121.out)) : gb127 ≠ gb121)); clear BK121; clear HB; have BK121 := n0_; have HB := n1_; have BK127 := n2_; have GW127 := n3_; have GE127 := n4_; have NB121_127 := n5_; have NB127_121 := n6_; clear n0_ n1_ n2_ n3_ n4_ n5_ n6_; clear hb hbox hg; have hnb21 := NB127_121.out; have hnc21 := NB121_127.out; have hcz22_0 : w20.cell? ⟨gb127, 0, none⟩ = some (.bool false) := (blk_cell BK127.out 0).trans rfl; have hcz22_1 : w20.cell? ⟨gb127, 1, none⟩ = some (.string (⟨#[]⟩ : ByteArray)) := (blk_cell BK127.out 1).trans rfl; have hcz22_2 : w20.cell? ⟨gb127, 2, none⟩ = some (.string (⟨#[]⟩ : ByteArray)) := (blk_cell BK127.out 2).trans rfl; have hfz22_0 := blk_frozen BK127.out 0; have hfz22_1 := blk_frozen BK127.out 1; have hfz22_2 := blk_frozen BK127.out 2) | ((with_reducible refine gate_callee (f := 17) rfl ?_); refine goesL_ (some 31) rfl rfl Tryz.func17 (by kernel_rfl) rfl #[.agg #[.bool t123, .string t124, .string t125]] rfl (by (try simp only [List.map_toArray, List.map_cons, List.map_nil]); first | done | rfl | (simp only [List.length_drop, List.length_take]; rfl)) ?_; (with_reducible refine (rational_Text.calls t123 t124 t125 t128 t129 _ ?side1 A5.out).mono ?_); (case side1 => exact Laid.below HLaid.out (by repeat (first | (with_reducible first | exact HB.out | apply below_alloc | apply pw_below_drewN | apply below_drew1 | refine below_set ?_ GE121.out | refine below_set ?_ GE127.out) | exact HB.out))); rintro e w23 ⟨rfl, hb⟩; refine ⟨_, rfl, ?_⟩; have n0_ := Aside0.mk (blk_below (g := gb121) (o := .cells #[.bool false, .string (⟨#[]⟩ : ByteArray), .string (⟨#[]⟩ : ByteArray)] 24 (0, 0)) (by (with_reducible repeat (first | refine blk_drewN ?_ _ | refine blk_drew ?_ | refine blk_alloc ?_ _)); refine blk_far ?_ NB121_127.out _; (with_reducible repeat (first | refine blk_drewN ?_ _ | refine blk_drew ?_ | refine blk_alloc ?_ _)); refine blk_far ?_ NB121_127.out _; (with_reducible repeat (first | refine blk_drewN ?_ _ | refine blk_drew ?_ | refine blk_alloc ?_ _)); refine blk_far ?_ NB121_127.out _; (with_reducible repeat (first | refine blk_drewN ?_ _ | refine blk_drew ?_ | refine blk_alloc ?_ _)); exact BK121.out) hb); have n1_ := Aside0.mk (blk_below (g := gb127) (o := .cells #[.bool t123, .string t124, .string t125] 24 (0, 0)) (by (with_reducible repeat (first | refine blk_drewN ?_ _ | refine blk_drew ?_ | refine blk_alloc ?_ _)); refine blk_put (cs := #[.bool t123, .string t124, .string (⟨#[]⟩ : ByteArray)]) ?_ 2 _ rfl; (with_reducible repeat (first | refine blk_drewN ?_ _ | refine blk_drew ?_ | refine blk_alloc ?_ _)); refine blk_put (cs := #[.bool t123, .string (⟨#[]⟩ : ByteArray), .string (⟨#[]⟩ : ByteArray)]) ?_ 1 _ rfl; (with_reducible repeat (first | refine blk_drewN ?_ _ | refine blk_drew ?_ | refine blk_alloc ?_ _)); refine blk_put (cs := #[.bool false, .string (⟨#[]⟩ : ByteArray), .string (⟨#[]⟩ : ByteArray)]) ?_ 0 _ rfl; (with_reducible repeat (first | refine blk_drewN ?_ _ | refine blk_drew ?_ | refine blk_alloc ?_ _)); exact BK127.out) hb); have n2_ := Aside0.mk (below_step (by repeat (first | (with_reducible first | exact HB.out | apply below_alloc | apply pw_below_drewN | apply below_drew1 | refine below_set ?_ GE121.out | refine below_set ?_ GE127.out) | exact HB.out)) hb); clear BK121; clear BK127; clear HB; have BK121 := n0_; have BK127 := n1_; have HB := n2_; clear n0_ n1_ n2_; (try clear hb); (try clear hb2); (try clear hk); (try clear hi); have hcz24_0 : w23.cell? ⟨gb121, 0, none⟩ = some (.bool false) := (blk_cell BK121.out 0).trans rfl; have hcz24_1 : w23.cell? ⟨gb121, 1, none⟩ = some (.string (⟨#[]⟩ : ByteArray)) := (blk_cell BK121.out 1).trans rfl; have hcz24_2 : w23.cell? ⟨gb121, 2, none⟩ = some (.string (⟨#[]⟩ : ByteArray)) := (blk_cell BK121.out 2).trans rfl; have hfz24_0 := blk_frozen BK121.out 0; have hfz24_1 := blk_frozen BK121.out 1; have hfz24_2 := blk_frozen BK121.out 2))
        refine bodyPost_ret (results_ct rfl _ _ gb121 24 #[.bool false, .string (⟨#[]⟩ : ByteArray), .string (⟨#[]⟩ : ByteArray)] (0, 0) _ rfl (by (with_reducible repeat (first | refine blk_drewN ?_ _ | refine blk_drew ?_ | refine blk_alloc ?_ _)); refine blk_put (cs := #[.bool false, .string (⟨#[]⟩ : ByteArray), .string (⟨#[]⟩ : ByteArray)]) ?_ 2 _ rfl; (with_reducible repeat (first | refine blk_drewN ?_ _ | refine blk_drew ?_ | refine blk_alloc ?_ _)); refine blk_put (cs := #[.bool false, .string (⟨#[]⟩ : ByteArray), .string (⟨#[]⟩ : ByteArray)]) ?_ 1 _ rfl; (with_reducible repeat (first | refine blk_drewN ?_ _ | refine blk_drew ?_ | refine blk_alloc ?_ _)); refine blk_put (cs := #[.bool false, .string (⟨#[]⟩ : ByteArray), .string (⟨#[]⟩ : ByteArray)]) ?_ 0 _ rfl; (with_reducible repeat (first | refine blk_drewN ?_ _ | refine blk_drew ?_ | refine blk_alloc ?_ _)); exact BK121.out) Tryz.underlying24 rfl (by kernel_rfl)) rfl ?_
        exact ⟨by first | rfl | (simp [errW_none, errW_some] <;> rfl) | (simp [*, errW_none, errW_some] <;> rfl), by repeat (first | (with_reducible first | exact HB.out | apply below_alloc | apply pw_below_drewN | apply below_drew1 | refine below_set ?_ GE121.out | refine below_set ?_ GE127.out) | exact HB.out)⟩
    · rw [if_neg c6] at H
      have c6b0 : (t129 == 0) = false := beq_eq_false_iff_ne.mpr c6
      have c6b1 : (t129 != 0) = true := bne_iff_ne.mpr c6
      simp only [Option.some.injEq, Prod.mk.injEq] at H
      obtain ⟨rfl, rfl, rfl, rfl⟩ := H
      go_enter Tryz.func19, Tryz.ntmps19
      go_wp2_with (first | ((with_reducible refine gate_dst (N := 2) rfl ?_); refine box_event ?hg (N := 2) ?hd (cs := #[.bool false, .string (⟨#[]⟩ : ByteArray), .string (⟨#[]⟩ : ByteArray)]) (t := 24) ?hr ?_; (case hd => rfl); (case hg => rfl); (case hr => first | (go_simp; done) | (go_simp; rfl)); intro gb121 hg w25 hbox hb; have n0_ := Aside0.mk (below_step (by repeat (first | (with_reducible first | exact HB.out | apply below_alloc | apply pw_below_drewN | apply below_drew1) | exact HB.out)) hb); have n1_ := Aside0.mk (hbox); have n2_ := Aside0.mk ((by rw [hg]; exact (below_size (by repeat (first | (with_reducible first | exact HB.out | apply below_alloc | apply pw_below_drewN | apply below_drew1) | exact HB.out))) : w.heap.size ≤ gb121)); have n3_ := Aside0.mk ((by rw [hg]; exact (below_size (by repeat (first | (with_reducible first | exact HB.out | apply below_alloc | apply pw_below_drewN | apply below_drew1) | exact HB.out))) : w.heap.size ≤ gb121)); clear HB; have HB := n0_; have BK121 := n1_; have GW121 := n2_; have GE121 := n3_; clear n0_ n1_ n2_ n3_; clear hb hbox hg) | ((with_reducible refine gate_callee (f := 44) rfl ?_); refine goesL_ (some 14) rfl rfl Tryz.func44 (by kernel_rfl) rfl #[.string a0, .string (⟨#[45]⟩ : ByteArray)] rfl (by (try simp only [List.map_toArray, List.map_cons, List.map_nil]); first | done | rfl | (simp only [List.length_drop, List.length_take]; rfl)) ?_; (with_reducible refine (strings_CutPrefix.calls a0 (⟨#[45]⟩ : ByteArray) t122 t123 _ A2.out).mono ?_); rintro e w26 ⟨rfl, hb⟩; refine ⟨_, rfl, ?_⟩; have n0_ := Aside0.mk (blk_below (g := gb121) (o := .cells #[.bool false, .string (⟨#[]⟩ : ByteArray), .string (⟨#[]⟩ : ByteArray)] 24 (0, 0)) (by (with_reducible repeat (first | refine blk_drewN ?_ _ | refine blk_drew ?_ | refine blk_alloc ?_ _)); exact BK121.out) hb); have n1_ := Aside0.mk (below_step (by repeat (first | (with_reducible first | exact HB.out | apply below_alloc | apply pw_below_drewN | apply below_drew1 | refine below_set ?_ GE121.out) | exact HB.out)) hb); clear BK121; clear HB; have BK121 := n0_; have HB := n1_; clear n0_ n1_; (try clear hb); (try clear hb2); (try clear hk); (try clear hi)) | ((with_reducible refine gate_callee (f := 45) rfl ?_); refine goesL_ (some 19) rfl rfl Tryz.func45 (by kernel_rfl) rfl #[.string t122, .string (⟨#[47]⟩ : ByteArray)] rfl (by (try simp only [List.map_toArray, List.map_cons, List.map_nil]); first | done | rfl | (simp only [List.length_drop, List.length_take]; rfl)) ?_; (with_reducible refine (strings_Cut.calls t122 (⟨#[47]⟩ : ByteArray) t124 t125 true _ A3.out).mono ?_); rintro e w27 ⟨rfl, hb⟩; refine ⟨_, rfl, ?_⟩; have n0_ := Aside0.mk (blk_below (g := gb121) (o := .cells #[.bool false, .string (⟨#[]⟩ : ByteArray), .string (⟨#[]⟩ : ByteArray)] 24 (0, 0)) (by (with_reducible repeat (first | refine blk_drewN ?_ _ | refine blk_drew ?_ | refine blk_alloc ?_ _)); exact BK121.out) hb); have n1_ := Aside0.mk (below_step (by repeat (first | (with_reducible first | exact HB.out | apply below_alloc | apply pw_below_drewN | apply below_drew1 | refine below_set ?_ GE121.out) | exact HB.out)) hb); clear BK121; clear HB; have BK121 := n0_; have HB := n1_; clear n0_ n1_; (try clear hb); (try clear hb2); (try clear hk); (try clear hi)) | ((with_reducible refine gate_dst (N := 9) rfl ?_); refine box_event ?hg (N := 9) ?hd (cs := #[.bool false, .string (⟨#[]⟩ : ByteArray), .string (⟨#[]⟩ : ByteArray)]) (t := 24) ?hr ?_; (case hd => rfl); (case hg => rfl); (case hr => first | (go_simp; done) | (go_simp; rfl)); intro gb127 hg w28 hbox hb; have n0_ := Aside0.mk (blk_below (g := gb121) (o := .cells #[.bool false, .string (⟨#[]⟩ : ByteArray), .string (⟨#[]⟩ : ByteArray)] 24 (0, 0)) (by (with_reducible repeat (first | refine blk_drewN ?_ _ | refine blk_drew ?_ | refine blk_alloc ?_ _)); exact BK121.out) hb); have n1_ := Aside0.mk (below_step (by repeat (first | (with_reducible first | exact HB.out | apply below_alloc | apply pw_below_drewN | apply below_drew1 | refine below_set ?_ GE121.out) | exact HB.out)) hb); have n2_ := Aside0.mk (hbox); have n3_ := Aside0.mk ((by rw [hg]; exact (below_size (by repeat (first | (with_reducible first | exact HB.out | apply below_alloc | apply pw_below_drewN | apply below_drew1 | refine below_set ?_ GE121.out) | exact HB.out))) : w.heap.size ≤ gb127)); have n4_ := Aside0.mk ((by rw [hg]; exact (below_size (by repeat (first | (with_reducible first | exact HB.out | apply below_alloc | apply pw_below_drewN | apply below_drew1 | refine below_set ?_ GE121.out) | exact HB.out))) : w.heap.size ≤ gb127)); have n5_ := Aside0.mk ((by rw [hg]; exact Nat.ne_of_lt (blk_lt (g := gb121) (o := .cells #[.bool false, .string (⟨#[]⟩ : ByteArray), .string (⟨#[]⟩ : ByteArray)] 24 (0, 0)) (by (with_reducible repeat (first | refine blk_drewN ?_ _ | refine blk_drew ?_ | refine blk_alloc ?_ _)); exact BK121.out)) : gb121 ≠ gb127)); have n6_ := Aside0.mk ((by rw [hg]; exact Nat.ne_of_gt (blk_lt (g := gb121) (o := .cells #[.bool false, .string (⟨#[]⟩ : ByteArray), .string (⟨#[]⟩ : ByteArray)] 24 (0, 0)) (by (with_reducible repeat (first | refine blk_drewN ?_ _ | refine blk_drew ?_ | refine blk_alloc ?_ _)); exact BK121.out)) : gb127 ≠ gb121)); clear BK121; clear HB; have BK121 := n0_; have HB := n1_; have BK127 := n2_; have GW127 := n3_; have GE127 := n4_; have NB121_127 := n5_; have NB127_121 := n6_; clear n0_ n1_ n2_ n3_ n4_ n5_ n6_; clear hb hbox hg; have hnb29 := NB127_121.out; have hnc29 := NB121_127.out; have hcz30_0 : w28.cell? ⟨gb127, 0, none⟩ = some (.bool false) := (blk_cell BK127.out 0).trans rfl; have hcz30_1 : w28.cell? ⟨gb127, 1, none⟩ = some (.string (⟨#[]⟩ : ByteArray)) := (blk_cell BK127.out 1).trans rfl; have hcz30_2 : w28.cell? ⟨gb127, 2, none⟩ = some (.string (⟨#[]⟩ : ByteArray)) := (blk_cell BK127.out 2).trans rfl; have hfz30_0 := blk_frozen BK127.out 0; have hfz30_1 := blk_frozen BK127.out 1; have hfz30_2 := blk_frozen BK127.out 2) | ((with_reducible refine gate_callee (f := 17) rfl ?_); refine goesL_ (some 31) rfl rfl Tryz.func17 (by kernel_rfl) rfl #[.agg #[.bool t123, .string t124, .string t125]] rfl (by (try simp only [List.map_toArray, List.map_cons, List.map_nil]); first | done | rfl | (simp only [List.length_drop, List.length_take]; rfl)) ?_; (with_reducible refine (rational_Text.calls t123 t124 t125 t128 t129 _ ?side1 A5.out).mono ?_); (case side1 => exact Laid.below HLaid.out (by repeat (first | (with_reducible first | exact HB.out | apply below_alloc | apply pw_below_drewN | apply below_drew1 | refine below_set ?_ GE121.out | refine below_set ?_ GE127.out) | exact HB.out))); rintro e w31 ⟨rfl, hb⟩; refine ⟨_, rfl, ?_⟩; have n0_ := Aside0.mk (blk_below (g := gb121) (o := .cells #[.bool false, .string (⟨#[]⟩ : ByteArray), .string (⟨#[]⟩ : ByteArray)] 24 (0, 0)) (by (with_reducible repeat (first | refine blk_drewN ?_ _ | refine blk_drew ?_ | refine blk_alloc ?_ _)); refine blk_far ?_ NB121_127.out _; (with_reducible repeat (first | refine blk_drewN ?_ _ | refine blk_drew ?_ | refine blk_alloc ?_ _)); refine blk_far ?_ NB121_127.out _; (with_reducible repeat (first | refine blk_drewN ?_ _ | refine blk_drew ?_ | refine blk_alloc ?_ _)); refine blk_far ?_ NB121_127.out _; (with_reducible repeat (first | refine blk_drewN ?_ _ | refine blk_drew ?_ | refine blk_alloc ?_ _)); exact BK121.out) hb); have n1_ := Aside0.mk (blk_below (g := gb127) (o := .cells #[.bool t123, .string t124, .string t125] 24 (0, 0)) (by (with_reducible repeat (first | refine blk_drewN ?_ _ | refine blk_drew ?_ | refine blk_alloc ?_ _)); refine blk_put (cs := #[.bool t123, .string t124, .string (⟨#[]⟩ : ByteArray)]) ?_ 2 _ rfl; (with_reducible repeat (first | refine blk_drewN ?_ _ | refine blk_drew ?_ | refine blk_alloc ?_ _)); refine blk_put (cs := #[.bool t123, .string (⟨#[]⟩ : ByteArray), .string (⟨#[]⟩ : ByteArray)]) ?_ 1 _ rfl; (with_reducible repeat (first | refine blk_drewN ?_ _ | refine blk_drew ?_ | refine blk_alloc ?_ _)); refine blk_put (cs := #[.bool false, .string (⟨#[]⟩ : ByteArray), .string (⟨#[]⟩ : ByteArray)]) ?_ 0 _ rfl; (with_reducible repeat (first | refine blk_drewN ?_ _ | refine blk_drew ?_ | refine blk_alloc ?_ _)); exact BK127.out) hb); have n2_ := Aside0.mk (below_step (by repeat (first | (with_reducible first | exact HB.out | apply below_alloc | apply pw_below_drewN | apply below_drew1 | refine below_set ?_ GE121.out | refine below_set ?_ GE127.out) | exact HB.out)) hb); clear BK121; clear BK127; clear HB; have BK121 := n0_; have BK127 := n1_; have HB := n2_; clear n0_ n1_ n2_; (try clear hb); (try clear hb2); (try clear hk); (try clear hi); have hcz32_0 : w31.cell? ⟨gb121, 0, none⟩ = some (.bool false) := (blk_cell BK121.out 0).trans rfl; have hcz32_1 : w31.cell? ⟨gb121, 1, none⟩ = some (.string (⟨#[]⟩ : ByteArray)) := (blk_cell BK121.out 1).trans rfl; have hcz32_2 : w31.cell? ⟨gb121, 2, none⟩ = some (.string (⟨#[]⟩ : ByteArray)) := (blk_cell BK121.out 2).trans rfl; have hfz32_0 := blk_frozen BK121.out 0; have hfz32_1 := blk_frozen BK121.out 1; have hfz32_2 := blk_frozen BK121.out 2))
      refine bodyPost_ret (results_ct rfl _ _ gb121 24 #[.bool false, .string (⟨#[]⟩ : ByteArray), .string (⟨#[]⟩ : ByteArray)] (0, 0) _ rfl (by (with_reducible repeat (first | refine blk_drewN ?_ _ | refine blk_drew ?_ | refine blk_alloc ?_ _)); refine blk_put (cs := #[.bool false, .string (⟨#[]⟩ : ByteArray), .string (⟨#[]⟩ : ByteArray)]) ?_ 2 _ rfl; (with_reducible repeat (first | refine blk_drewN ?_ _ | refine blk_drew ?_ | refine blk_alloc ?_ _)); refine blk_put (cs := #[.bool false, .string (⟨#[]⟩ : ByteArray), .string (⟨#[]⟩ : ByteArray)]) ?_ 1 _ rfl; (with_reducible repeat (first | refine blk_drewN ?_ _ | refine blk_drew ?_ | refine blk_alloc ?_ _)); refine blk_put (cs := #[.bool false, .string (⟨#[]⟩ : ByteArray), .string (⟨#[]⟩ : ByteArray)]) ?_ 0 _ rfl; (with_reducible repeat (first | refine blk_drewN ?_ _ | refine blk_drew ?_ | refine blk_alloc ?_ _)); exact BK121.out) Tryz.underlying24 rfl (by kernel_rfl)) rfl ?_
      exact ⟨by first | rfl | (simp [errW_none, errW_some] <;> rfl) | (simp [*, errW_none, errW_some] <;> rfl), by repeat (first | (with_reducible first | exact HB.out | apply below_alloc | apply pw_below_drewN | apply below_drew1 | refine below_set ?_ GE121.out | refine below_set ?_ GE127.out) | exact HB.out)⟩
  · replace c4 := Bool.eq_false_iff.mpr c4
    subst c4
    have H1 : ((rational_Text.f t123 t124 (⟨#[49]⟩ : ByteArray)).bind fun bt131 => (if bt131.2 = 0 then (if bt131.1.toList = a0.toList then (some (t123, t124, (⟨#[49]⟩ : ByteArray), 0)) else (some (false, (⟨#[]⟩ : ByteArray), (⟨#[]⟩ : ByteArray), 5))) else (some (false, (⟨#[]⟩ : ByteArray), (⟨#[]⟩ : ByteArray), 5)))) = some (r1, r2, r3, r4) := by rw [if_neg (show ¬ (false = true) by decide)] at H; exact H
    clear H
    have H := H1
    clear H1
    replace H := Option.bind_eq_some_iff.mp H
    obtain ⟨⟨t131, t132⟩, A330, H⟩ := H
    replace H : (if t132 = 0 then (if t131.toList = a0.toList then (some (t123, t124, (⟨#[49]⟩ : ByteArray), 0)) else (some (false, (⟨#[]⟩ : ByteArray), (⟨#[]⟩ : ByteArray), 5))) else (some (false, (⟨#[]⟩ : ByteArray), (⟨#[]⟩ : ByteArray), 5))) = some (r1, r2, r3, r4) := H
    have A33 := Aside0.mk A330
    clear A330
    by_cases c34 : t132 = 0
    · rw [if_pos c34] at H
      have c34b0 : (t132 == 0) = true := beq_iff_eq.mpr c34
      have c34b1 : (t132 != 0) = false := bne_eq_false_iff_eq.mpr c34
      clear c34
      by_cases c35 : t131.toList = a0.toList
      · rw [if_pos c35] at H
        have c35b0 : (t131.toList == a0.toList) = true := beq_iff_eq.mpr c35
        have c35b1 : (t131.toList != a0.toList) = false := bne_eq_false_iff_eq.mpr c35
        clear c35
        simp only [Option.some.injEq, Prod.mk.injEq] at H
        obtain ⟨rfl, rfl, rfl, rfl⟩ := H
        go_enter Tryz.func19, Tryz.ntmps19
        go_wp2_with (first | ((with_reducible refine gate_dst (N := 2) rfl ?_); refine box_event ?hg (N := 2) ?hd (cs := #[.bool false, .string (⟨#[]⟩ : ByteArray), .string (⟨#[]⟩ : ByteArray)]) (t := 24) ?hr ?_; (case hd => rfl); (case hg => rfl); (case hr => first | (go_simp; done) | (go_simp; rfl)); intro gb121 hg w36 hbox hb; have n0_ := Aside0.mk (below_step (by repeat (first | (with_reducible first | exact HB.out | apply below_alloc | apply pw_below_drewN | apply below_drew1) | exact HB.out)) hb); have n1_ := Aside0.mk (hbox); have n2_ := Aside0.mk ((by rw [hg]; exact (below_size (by repeat (first | (with_reducible first | exact HB.out | apply below_alloc | apply pw_below_drewN | apply below_drew1) | exact HB.out))) : w.heap.size ≤ gb121)); have n3_ := Aside0.mk ((by rw [hg]; exact (below_size (by repeat (first | (with_reducible first | exact HB.out | apply below_alloc | apply pw_below_drewN | apply below_drew1) | exact HB.out))) : w.heap.size ≤ gb121)); clear HB; have HB := n0_; have BK121 := n1_; have GW121 := n2_; have GE121 := n3_; clear n0_ n1_ n2_ n3_; clear hb hbox hg) | ((with_reducible refine gate_callee (f := 44) rfl ?_); refine goesL_ (some 14) rfl rfl Tryz.func44 (by kernel_rfl) rfl #[.string a0, .string (⟨#[45]⟩ : ByteArray)] rfl (by (try simp only [List.map_toArray, List.map_cons, List.map_nil]); first | done | rfl | (simp only [List.length_drop, List.length_take]; rfl)) ?_; (with_reducible refine (strings_CutPrefix.calls a0 (⟨#[45]⟩ : ByteArray) t122 t123 _ A2.out).mono ?_); rintro e w37 ⟨rfl, hb⟩; refine ⟨_, rfl, ?_⟩; have n0_ := Aside0.mk (blk_below (g := gb121) (o := .cells #[.bool false, .string (⟨#[]⟩ : ByteArray), .string (⟨#[]⟩ : ByteArray)] 24 (0, 0)) (by (with_reducible repeat (first | refine blk_drewN ?_ _ | refine blk_drew ?_ | refine blk_alloc ?_ _)); exact BK121.out) hb); have n1_ := Aside0.mk (below_step (by repeat (first | (with_reducible first | exact HB.out | apply below_alloc | apply pw_below_drewN | apply below_drew1 | refine below_set ?_ GE121.out) | exact HB.out)) hb); clear BK121; clear HB; have BK121 := n0_; have HB := n1_; clear n0_ n1_; (try clear hb); (try clear hb2); (try clear hk); (try clear hi)) | ((with_reducible refine gate_callee (f := 45) rfl ?_); refine goesL_ (some 19) rfl rfl Tryz.func45 (by kernel_rfl) rfl #[.string t122, .string (⟨#[47]⟩ : ByteArray)] rfl (by (try simp only [List.map_toArray, List.map_cons, List.map_nil]); first | done | rfl | (simp only [List.length_drop, List.length_take]; rfl)) ?_; (with_reducible refine (strings_Cut.calls t122 (⟨#[47]⟩ : ByteArray) t124 t125 false _ A3.out).mono ?_); rintro e w38 ⟨rfl, hb⟩; refine ⟨_, rfl, ?_⟩; have n0_ := Aside0.mk (blk_below (g := gb121) (o := .cells #[.bool false, .string (⟨#[]⟩ : ByteArray), .string (⟨#[]⟩ : ByteArray)] 24 (0, 0)) (by (with_reducible repeat (first | refine blk_drewN ?_ _ | refine blk_drew ?_ | refine blk_alloc ?_ _)); exact BK121.out) hb); have n1_ := Aside0.mk (below_step (by repeat (first | (with_reducible first | exact HB.out | apply below_alloc | apply pw_below_drewN | apply below_drew1 | refine below_set ?_ GE121.out) | exact HB.out)) hb); clear BK121; clear HB; have BK121 := n0_; have HB := n1_; clear n0_ n1_; (try clear hb); (try clear hb2); (try clear hk); (try clear hi)) | ((with_reducible refine gate_dst (N := 9) rfl ?_); refine box_event ?hg (N := 9) ?hd (cs := #[.bool false, .string (⟨#[]⟩ : ByteArray), .string (⟨#[]⟩ : ByteArray)]) (t := 24) ?hr ?_; (case hd => rfl); (case hg => rfl); (case hr => first | (go_simp; done) | (go_simp; rfl)); intro gb130 hg w39 hbox hb; have n0_ := Aside0.mk (blk_below (g := gb121) (o := .cells #[.bool false, .string (⟨#[]⟩ : ByteArray), .string (⟨#[]⟩ : ByteArray)] 24 (0, 0)) (by (with_reducible repeat (first | refine blk_drewN ?_ _ | refine blk_drew ?_ | refine blk_alloc ?_ _)); exact BK121.out) hb); have n1_ := Aside0.mk (below_step (by repeat (first | (with_reducible first | exact HB.out | apply below_alloc | apply pw_below_drewN | apply below_drew1 | refine below_set ?_ GE121.out) | exact HB.out)) hb); have n2_ := Aside0.mk (hbox); have n3_ := Aside0.mk ((by rw [hg]; exact (below_size (by repeat (first | (with_reducible first | exact HB.out | apply below_alloc | apply pw_below_drewN | apply below_drew1 | refine below_set ?_ GE121.out) | exact HB.out))) : w.heap.size ≤ gb130)); have n4_ := Aside0.mk ((by rw [hg]; exact (below_size (by repeat (first | (with_reducible first | exact HB.out | apply below_alloc | apply pw_below_drewN | apply below_drew1 | refine below_set ?_ GE121.out) | exact HB.out))) : w.heap.size ≤ gb130)); have n5_ := Aside0.mk ((by rw [hg]; exact Nat.ne_of_lt (blk_lt (g := gb121) (o := .cells #[.bool false, .string (⟨#[]⟩ : ByteArray), .string (⟨#[]⟩ : ByteArray)] 24 (0, 0)) (by (with_reducible repeat (first | refine blk_drewN ?_ _ | refine blk_drew ?_ | refine blk_alloc ?_ _)); exact BK121.out)) : gb121 ≠ gb130)); have n6_ := Aside0.mk ((by rw [hg]; exact Nat.ne_of_gt (blk_lt (g := gb121) (o := .cells #[.bool false, .string (⟨#[]⟩ : ByteArray), .string (⟨#[]⟩ : ByteArray)] 24 (0, 0)) (by (with_reducible repeat (first | refine blk_drewN ?_ _ | refine blk_drew ?_ | refine blk_alloc ?_ _)); exact BK121.out)) : gb130 ≠ gb121)); clear BK121; clear HB; have BK121 := n0_; have HB := n1_; have BK130 := n2_; have GW130 := n3_; have GE130 := n4_; have NB121_130 := n5_; have NB130_121 := n6_; clear n0_ n1_ n2_ n3_ n4_ n5_ n6_; clear hb hbox hg; have hnb40 := NB130_121.out; have hnc40 := NB121_130.out; have hcz41_0 : w39.cell? ⟨gb130, 0, none⟩ = some (.bool false) := (blk_cell BK130.out 0).trans rfl; have hcz41_1 : w39.cell? ⟨gb130, 1, none⟩ = some (.string (⟨#[]⟩ : ByteArray)) := (blk_cell BK130.out 1).trans rfl; have hcz41_2 : w39.cell? ⟨gb130, 2, none⟩ = some (.string (⟨#[]⟩ : ByteArray)) := (blk_cell BK130.out 2).trans rfl; have hfz41_0 := blk_frozen BK130.out 0; have hfz41_1 := blk_frozen BK130.out 1; have hfz41_2 := blk_frozen BK130.out 2) | ((with_reducible refine gate_callee (f := 17) rfl ?_); refine goesL_ (some 31) rfl rfl Tryz.func17 (by kernel_rfl) rfl #[.agg #[.bool t123, .string t124, .string (⟨#[49]⟩ : ByteArray)]] rfl (by (try simp only [List.map_toArray, List.map_cons, List.map_nil]); first | done | rfl | (simp only [List.length_drop, List.length_take]; rfl)) ?_; (with_reducible refine (rational_Text.calls t123 t124 (⟨#[49]⟩ : ByteArray) t131 t132 _ ?side1 A33.out).mono ?_); (case side1 => exact Laid.below HLaid.out (by repeat (first | (with_reducible first | exact HB.out | apply below_alloc | apply pw_below_drewN | apply below_drew1 | refine below_set ?_ GE121.out | refine below_set ?_ GE130.out) | exact HB.out))); rintro e w42 ⟨rfl, hb⟩; refine ⟨_, rfl, ?_⟩; have n0_ := Aside0.mk (blk_below (g := gb121) (o := .cells #[.bool false, .string (⟨#[]⟩ : ByteArray), .string (⟨#[]⟩ : ByteArray)] 24 (0, 0)) (by (with_reducible repeat (first | refine blk_drewN ?_ _ | refine blk_drew ?_ | refine blk_alloc ?_ _)); refine blk_far ?_ NB121_130.out _; (with_reducible repeat (first | refine blk_drewN ?_ _ | refine blk_drew ?_ | refine blk_alloc ?_ _)); refine blk_far ?_ NB121_130.out _; (with_reducible repeat (first | refine blk_drewN ?_ _ | refine blk_drew ?_ | refine blk_alloc ?_ _)); refine blk_far ?_ NB121_130.out _; (with_reducible repeat (first | refine blk_drewN ?_ _ | refine blk_drew ?_ | refine blk_alloc ?_ _)); exact BK121.out) hb); have n1_ := Aside0.mk (blk_below (g := gb130) (o := .cells #[.bool t123, .string t124, .string (⟨#[49]⟩ : ByteArray)] 24 (0, 0)) (by (with_reducible repeat (first | refine blk_drewN ?_ _ | refine blk_drew ?_ | refine blk_alloc ?_ _)); refine blk_put (cs := #[.bool t123, .string t124, .string (⟨#[]⟩ : ByteArray)]) ?_ 2 _ rfl; (with_reducible repeat (first | refine blk_drewN ?_ _ | refine blk_drew ?_ | refine blk_alloc ?_ _)); refine blk_put (cs := #[.bool t123, .string (⟨#[]⟩ : ByteArray), .string (⟨#[]⟩ : ByteArray)]) ?_ 1 _ rfl; (with_reducible repeat (first | refine blk_drewN ?_ _ | refine blk_drew ?_ | refine blk_alloc ?_ _)); refine blk_put (cs := #[.bool false, .string (⟨#[]⟩ : ByteArray), .string (⟨#[]⟩ : ByteArray)]) ?_ 0 _ rfl; (with_reducible repeat (first | refine blk_drewN ?_ _ | refine blk_drew ?_ | refine blk_alloc ?_ _)); exact BK130.out) hb); have n2_ := Aside0.mk (below_step (by repeat (first | (with_reducible first | exact HB.out | apply below_alloc | apply pw_below_drewN | apply below_drew1 | refine below_set ?_ GE121.out | refine below_set ?_ GE130.out) | exact HB.out)) hb); clear BK121; clear BK130; clear HB; have BK121 := n0_; have BK130 := n1_; have HB := n2_; clear n0_ n1_ n2_; (try clear hb); (try clear hb2); (try clear hk); (try clear hi); have hcz43_0 : w42.cell? ⟨gb130, 0, none⟩ = some (.bool t123) := (blk_cell BK130.out 0).trans rfl; have hcz43_1 : w42.cell? ⟨gb130, 1, none⟩ = some (.string t124) := (blk_cell BK130.out 1).trans rfl; have hcz43_2 : w42.cell? ⟨gb130, 2, none⟩ = some (.string (⟨#[49]⟩ : ByteArray)) := (blk_cell BK130.out 2).trans rfl; have hfz43_0 := blk_frozen BK130.out 0; have hfz43_1 := blk_frozen BK130.out 1; have hfz43_2 := blk_frozen BK130.out 2; have hcz44_0 : w42.cell? ⟨gb121, 0, none⟩ = some (.bool false) := (blk_cell BK121.out 0).trans rfl; have hcz44_1 : w42.cell? ⟨gb121, 1, none⟩ = some (.string (⟨#[]⟩ : ByteArray)) := (blk_cell BK121.out 1).trans rfl; have hcz44_2 : w42.cell? ⟨gb121, 2, none⟩ = some (.string (⟨#[]⟩ : ByteArray)) := (blk_cell BK121.out 2).trans rfl; have hfz44_0 := blk_frozen BK121.out 0; have hfz44_1 := blk_frozen BK121.out 1; have hfz44_2 := blk_frozen BK121.out 2))
        refine bodyPost_ret (results_ct rfl _ _ gb121 24 #[.bool t123, .string t124, .string (⟨#[49]⟩ : ByteArray)] (0, 0) _ rfl (by (with_reducible repeat (first | refine blk_drewN ?_ _ | refine blk_drew ?_ | refine blk_alloc ?_ _)); refine blk_put (cs := #[.bool t123, .string t124, .string (⟨#[]⟩ : ByteArray)]) ?_ 2 _ rfl; (with_reducible repeat (first | refine blk_drewN ?_ _ | refine blk_drew ?_ | refine blk_alloc ?_ _)); refine blk_put (cs := #[.bool t123, .string (⟨#[]⟩ : ByteArray), .string (⟨#[]⟩ : ByteArray)]) ?_ 1 _ rfl; (with_reducible repeat (first | refine blk_drewN ?_ _ | refine blk_drew ?_ | refine blk_alloc ?_ _)); refine blk_put (cs := #[.bool false, .string (⟨#[]⟩ : ByteArray), .string (⟨#[]⟩ : ByteArray)]) ?_ 0 _ rfl; (with_reducible repeat (first | refine blk_drewN ?_ _ | refine blk_drew ?_ | refine blk_alloc ?_ _)); exact BK121.out) Tryz.underlying24 rfl (by kernel_rfl)) rfl ?_
        exact ⟨by first | rfl | (simp [errW_none, errW_some] <;> rfl) | (simp [*, errW_none, errW_some] <;> rfl), by repeat (first | (with_reducible first | exact HB.out | apply below_alloc | apply pw_below_drewN | apply below_drew1 | refine below_set ?_ GE121.out | refine below_set ?_ GE130.out) | exact HB.out)⟩
      · rw [if_neg c35] at H
        have c35b0 : (t131.toList == a0.toList) = false := beq_eq_false_iff_ne.mpr c35
        have c35b1 : (t131.toList != a0.toList) = true := bne_iff_ne.mpr c35
        simp only [Option.some.injEq, Prod.mk.injEq] at H
        obtain ⟨rfl, rfl, rfl, rfl⟩ := H
        go_enter Tryz.func19, Tryz.ntmps19
        go_wp2_with (first | ((with_reducible refine gate_dst (N := 2) rfl ?_); refine box_event ?hg (N := 2) ?hd (cs := #[.bool false, .string (⟨#[]⟩ : ByteArray), .string (⟨#[]⟩ : ByteArray)]) (t := 24) ?hr ?_; (case hd => rfl); (case hg => rfl); (case hr => first | (go_simp; done) | (go_simp; rfl)); intro gb121 hg w45 hbox hb; have n0_ := Aside0.mk (below_step (by repeat (first | (with_reducible first | exact HB.out | apply below_alloc | apply pw_below_drewN | apply below_drew1) | exact HB.out)) hb); have n1_ := Aside0.mk (hbox); have n2_ := Aside0.mk ((by rw [hg]; exact (below_size (by repeat (first | (with_reducible first | exact HB.out | apply below_alloc | apply pw_below_drewN | apply below_drew1) | exact HB.out))) : w.heap.size ≤ gb121)); have n3_ := Aside0.mk ((by rw [hg]; exact (below_size (by repeat (first | (with_reducible first | exact HB.out | apply below_alloc | apply pw_below_drewN | apply below_drew1) | exact HB.out))) : w.heap.size ≤ gb121)); clear HB; have HB := n0_; have BK121 := n1_; have GW121 := n2_; have GE121 := n3_; clear n0_ n1_ n2_ n3_; clear hb hbox hg) | ((with_reducible refine gate_callee (f := 44) rfl ?_); refine goesL_ (some 14) rfl rfl Tryz.func44 (by kernel_rfl) rfl #[.string a0, .string (⟨#[45]⟩ : ByteArray)] rfl (by (try simp only [List.map_toArray, List.map_cons, List.map_nil]); first | done | rfl | (simp only [List.length_drop, List.length_take]; rfl)) ?_; (with_reducible refine (strings_CutPrefix.calls a0 (⟨#[45]⟩ : ByteArray) t122 t123 _ A2.out).mono ?_); rintro e w46 ⟨rfl, hb⟩; refine ⟨_, rfl, ?_⟩; have n0_ := Aside0.mk (blk_below (g := gb121) (o := .cells #[.bool false, .string (⟨#[]⟩ : ByteArray), .string (⟨#[]⟩ : ByteArray)] 24 (0, 0)) (by (with_reducible repeat (first | refine blk_drewN ?_ _ | refine blk_drew ?_ | refine blk_alloc ?_ _)); exact BK121.out) hb); have n1_ := Aside0.mk (below_step (by repeat (first | (with_reducible first | exact HB.out | apply below_alloc | apply pw_below_drewN | apply below_drew1 | refine below_set ?_ GE121.out) | exact HB.out)) hb); clear BK121; clear HB; have BK121 := n0_; have HB := n1_; clear n0_ n1_; (try clear hb); (try clear hb2); (try clear hk); (try clear hi)) | ((with_reducible refine gate_callee (f := 45) rfl ?_); refine goesL_ (some 19) rfl rfl Tryz.func45 (by kernel_rfl) rfl #[.string t122, .string (⟨#[47]⟩ : ByteArray)] rfl (by (try simp only [List.map_toArray, List.map_cons, List.map_nil]); first | done | rfl | (simp only [List.length_drop, List.length_take]; rfl)) ?_; (with_reducible refine (strings_Cut.calls t122 (⟨#[47]⟩ : ByteArray) t124 t125 false _ A3.out).mono ?_); rintro e w47 ⟨rfl, hb⟩; refine ⟨_, rfl, ?_⟩; have n0_ := Aside0.mk (blk_below (g := gb121) (o := .cells #[.bool false, .string (⟨#[]⟩ : ByteArray), .string (⟨#[]⟩ : ByteArray)] 24 (0, 0)) (by (with_reducible repeat (first | refine blk_drewN ?_ _ | refine blk_drew ?_ | refine blk_alloc ?_ _)); exact BK121.out) hb); have n1_ := Aside0.mk (below_step (by repeat (first | (with_reducible first | exact HB.out | apply below_alloc | apply pw_below_drewN | apply below_drew1 | refine below_set ?_ GE121.out) | exact HB.out)) hb); clear BK121; clear HB; have BK121 := n0_; have HB := n1_; clear n0_ n1_; (try clear hb); (try clear hb2); (try clear hk); (try clear hi)) | ((with_reducible refine gate_dst (N := 9) rfl ?_); refine box_event ?hg (N := 9) ?hd (cs := #[.bool false, .string (⟨#[]⟩ : ByteArray), .string (⟨#[]⟩ : ByteArray)]) (t := 24) ?hr ?_; (case hd => rfl); (case hg => rfl); (case hr => first | (go_simp; done) | (go_simp; rfl)); intro gb130 hg w48 hbox hb; have n0_ := Aside0.mk (blk_below (g := gb121) (o := .cells #[.bool false, .string (⟨#[]⟩ : ByteArray), .string (⟨#[]⟩ : ByteArray)] 24 (0, 0)) (by (with_reducible repeat (first | refine blk_drewN ?_ _ | refine blk_drew ?_ | refine blk_alloc ?_ _)); exact BK121.out) hb); have n1_ := Aside0.mk (below_step (by repeat (first | (with_reducible first | exact HB.out | apply below_alloc | apply pw_below_drewN | apply below_drew1 | refine below_set ?_ GE121.out) | exact HB.out)) hb); have n2_ := Aside0.mk (hbox); have n3_ := Aside0.mk ((by rw [hg]; exact (below_size (by repeat (first | (with_reducible first | exact HB.out | apply below_alloc | apply pw_below_drewN | apply below_drew1 | refine below_set ?_ GE121.out) | exact HB.out))) : w.heap.size ≤ gb130)); have n4_ := Aside0.mk ((by rw [hg]; exact (below_size (by repeat (first | (with_reducible first | exact HB.out | apply below_alloc | apply pw_below_drewN | apply below_drew1 | refine below_set ?_ GE121.out) | exact HB.out))) : w.heap.size ≤ gb130)); have n5_ := Aside0.mk ((by rw [hg]; exact Nat.ne_of_lt (blk_lt (g := gb121) (o := .cells #[.bool false, .string (⟨#[]⟩ : ByteArray), .string (⟨#[]⟩ : ByteArray)] 24 (0, 0)) (by (with_reducible repeat (first | refine blk_drewN ?_ _ | refine blk_drew ?_ | refine blk_alloc ?_ _)); exact BK121.out)) : gb121 ≠ gb130)); have n6_ := Aside0.mk ((by rw [hg]; exact Nat.ne_of_gt (blk_lt (g := gb121) (o := .cells #[.bool false, .string (⟨#[]⟩ : ByteArray), .string (⟨#[]⟩ : ByteArray)] 24 (0, 0)) (by (with_reducible repeat (first | refine blk_drewN ?_ _ | refine blk_drew ?_ | refine blk_alloc ?_ _)); exact BK121.out)) : gb130 ≠ gb121)); clear BK121; clear HB; have BK121 := n0_; have HB := n1_; have BK130 := n2_; have GW130 := n3_; have GE130 := n4_; have NB121_130 := n5_; have NB130_121 := n6_; clear n0_ n1_ n2_ n3_ n4_ n5_ n6_; clear hb hbox hg; have hnb49 := NB130_121.out; have hnc49 := NB121_130.out; have hcz50_0 : w48.cell? ⟨gb130, 0, none⟩ = some (.bool false) := (blk_cell BK130.out 0).trans rfl; have hcz50_1 : w48.cell? ⟨gb130, 1, none⟩ = some (.string (⟨#[]⟩ : ByteArray)) := (blk_cell BK130.out 1).trans rfl; have hcz50_2 : w48.cell? ⟨gb130, 2, none⟩ = some (.string (⟨#[]⟩ : ByteArray)) := (blk_cell BK130.out 2).trans rfl; have hfz50_0 := blk_frozen BK130.out 0; have hfz50_1 := blk_frozen BK130.out 1; have hfz50_2 := blk_frozen BK130.out 2) | ((with_reducible refine gate_callee (f := 17) rfl ?_); refine goesL_ (some 31) rfl rfl Tryz.func17 (by kernel_rfl) rfl #[.agg #[.bool t123, .string t124, .string (⟨#[49]⟩ : ByteArray)]] rfl (by (try simp only [List.map_toArray, List.map_cons, List.map_nil]); first | done | rfl | (simp only [List.length_drop, List.length_take]; rfl)) ?_; (with_reducible refine (rational_Text.calls t123 t124 (⟨#[49]⟩ : ByteArray) t131 t132 _ ?side1 A33.out).mono ?_); (case side1 => exact Laid.below HLaid.out (by repeat (first | (with_reducible first | exact HB.out | apply below_alloc | apply pw_below_drewN | apply below_drew1 | refine below_set ?_ GE121.out | refine below_set ?_ GE130.out) | exact HB.out))); rintro e w51 ⟨rfl, hb⟩; refine ⟨_, rfl, ?_⟩; have n0_ := Aside0.mk (blk_below (g := gb121) (o := .cells #[.bool false, .string (⟨#[]⟩ : ByteArray), .string (⟨#[]⟩ : ByteArray)] 24 (0, 0)) (by (with_reducible repeat (first | refine blk_drewN ?_ _ | refine blk_drew ?_ | refine blk_alloc ?_ _)); refine blk_far ?_ NB121_130.out _; (with_reducible repeat (first | refine blk_drewN ?_ _ | refine blk_drew ?_ | refine blk_alloc ?_ _)); refine blk_far ?_ NB121_130.out _; (with_reducible repeat (first | refine blk_drewN ?_ _ | refine blk_drew ?_ | refine blk_alloc ?_ _)); refine blk_far ?_ NB121_130.out _; (with_reducible repeat (first | refine blk_drewN ?_ _ | refine blk_drew ?_ | refine blk_alloc ?_ _)); exact BK121.out) hb); have n1_ := Aside0.mk (blk_below (g := gb130) (o := .cells #[.bool t123, .string t124, .string (⟨#[49]⟩ : ByteArray)] 24 (0, 0)) (by (with_reducible repeat (first | refine blk_drewN ?_ _ | refine blk_drew ?_ | refine blk_alloc ?_ _)); refine blk_put (cs := #[.bool t123, .string t124, .string (⟨#[]⟩ : ByteArray)]) ?_ 2 _ rfl; (with_reducible repeat (first | refine blk_drewN ?_ _ | refine blk_drew ?_ | refine blk_alloc ?_ _)); refine blk_put (cs := #[.bool t123, .string (⟨#[]⟩ : ByteArray), .string (⟨#[]⟩ : ByteArray)]) ?_ 1 _ rfl; (with_reducible repeat (first | refine blk_drewN ?_ _ | refine blk_drew ?_ | refine blk_alloc ?_ _)); refine blk_put (cs := #[.bool false, .string (⟨#[]⟩ : ByteArray), .string (⟨#[]⟩ : ByteArray)]) ?_ 0 _ rfl; (with_reducible repeat (first | refine blk_drewN ?_ _ | refine blk_drew ?_ | refine blk_alloc ?_ _)); exact BK130.out) hb); have n2_ := Aside0.mk (below_step (by repeat (first | (with_reducible first | exact HB.out | apply below_alloc | apply pw_below_drewN | apply below_drew1 | refine below_set ?_ GE121.out | refine below_set ?_ GE130.out) | exact HB.out)) hb); clear BK121; clear BK130; clear HB; have BK121 := n0_; have BK130 := n1_; have HB := n2_; clear n0_ n1_ n2_; (try clear hb); (try clear hb2); (try clear hk); (try clear hi); have hcz52_0 : w51.cell? ⟨gb121, 0, none⟩ = some (.bool false) := (blk_cell BK121.out 0).trans rfl; have hcz52_1 : w51.cell? ⟨gb121, 1, none⟩ = some (.string (⟨#[]⟩ : ByteArray)) := (blk_cell BK121.out 1).trans rfl; have hcz52_2 : w51.cell? ⟨gb121, 2, none⟩ = some (.string (⟨#[]⟩ : ByteArray)) := (blk_cell BK121.out 2).trans rfl; have hfz52_0 := blk_frozen BK121.out 0; have hfz52_1 := blk_frozen BK121.out 1; have hfz52_2 := blk_frozen BK121.out 2))
        refine bodyPost_ret (results_ct rfl _ _ gb121 24 #[.bool false, .string (⟨#[]⟩ : ByteArray), .string (⟨#[]⟩ : ByteArray)] (0, 0) _ rfl (by (with_reducible repeat (first | refine blk_drewN ?_ _ | refine blk_drew ?_ | refine blk_alloc ?_ _)); refine blk_put (cs := #[.bool false, .string (⟨#[]⟩ : ByteArray), .string (⟨#[]⟩ : ByteArray)]) ?_ 2 _ rfl; (with_reducible repeat (first | refine blk_drewN ?_ _ | refine blk_drew ?_ | refine blk_alloc ?_ _)); refine blk_put (cs := #[.bool false, .string (⟨#[]⟩ : ByteArray), .string (⟨#[]⟩ : ByteArray)]) ?_ 1 _ rfl; (with_reducible repeat (first | refine blk_drewN ?_ _ | refine blk_drew ?_ | refine blk_alloc ?_ _)); refine blk_put (cs := #[.bool false, .string (⟨#[]⟩ : ByteArray), .string (⟨#[]⟩ : ByteArray)]) ?_ 0 _ rfl; (with_reducible repeat (first | refine blk_drewN ?_ _ | refine blk_drew ?_ | refine blk_alloc ?_ _)); exact BK121.out) Tryz.underlying24 rfl (by kernel_rfl)) rfl ?_
        exact ⟨by first | rfl | (simp [errW_none, errW_some] <;> rfl) | (simp [*, errW_none, errW_some] <;> rfl), by repeat (first | (with_reducible first | exact HB.out | apply below_alloc | apply pw_below_drewN | apply below_drew1 | refine below_set ?_ GE121.out | refine below_set ?_ GE130.out) | exact HB.out)⟩
    · rw [if_neg c34] at H
      have c34b0 : (t132 == 0) = false := beq_eq_false_iff_ne.mpr c34
      have c34b1 : (t132 != 0) = true := bne_iff_ne.mpr c34
      simp only [Option.some.injEq, Prod.mk.injEq] at H
      obtain ⟨rfl, rfl, rfl, rfl⟩ := H
      go_enter Tryz.func19, Tryz.ntmps19
      go_wp2_with (first | ((with_reducible refine gate_dst (N := 2) rfl ?_); refine box_event ?hg (N := 2) ?hd (cs := #[.bool false, .string (⟨#[]⟩ : ByteArray), .string (⟨#[]⟩ : ByteArray)]) (t := 24) ?hr ?_; (case hd => rfl); (case hg => rfl); (case hr => first | (go_simp; done) | (go_simp; rfl)); intro gb121 hg w53 hbox hb; have n0_ := Aside0.mk (below_step (by repeat (first | (with_reducible first | exact HB.out | apply below_alloc | apply pw_below_drewN | apply below_drew1) | exact HB.out)) hb); have n1_ := Aside0.mk (hbox); have n2_ := Aside0.mk ((by rw [hg]; exact (below_size (by repeat (first | (with_reducible first | exact HB.out | apply below_alloc | apply pw_below_drewN | apply below_drew1) | exact HB.out))) : w.heap.size ≤ gb121)); have n3_ := Aside0.mk ((by rw [hg]; exact (below_size (by repeat (first | (with_reducible first | exact HB.out | apply below_alloc | apply pw_below_drewN | apply below_drew1) | exact HB.out))) : w.heap.size ≤ gb121)); clear HB; have HB := n0_; have BK121 := n1_; have GW121 := n2_; have GE121 := n3_; clear n0_ n1_ n2_ n3_; clear hb hbox hg) | ((with_reducible refine gate_callee (f := 44) rfl ?_); refine goesL_ (some 14) rfl rfl Tryz.func44 (by kernel_rfl) rfl #[.string a0, .string (⟨#[45]⟩ : ByteArray)] rfl (by (try simp only [List.map_toArray, List.map_cons, List.map_nil]); first | done | rfl | (simp only [List.length_drop, List.length_take]; rfl)) ?_; (with_reducible refine (strings_CutPrefix.calls a0 (⟨#[45]⟩ : ByteArray) t122 t123 _ A2.out).mono ?_); rintro e w54 ⟨rfl, hb⟩; refine ⟨_, rfl, ?_⟩; have n0_ := Aside0.mk (blk_below (g := gb121) (o := .cells #[.bool false, .string (⟨#[]⟩ : ByteArray), .string (⟨#[]⟩ : ByteArray)] 24 (0, 0)) (by (with_reducible repeat (first | refine blk_drewN ?_ _ | refine blk_drew ?_ | refine blk_alloc ?_ _)); exact BK121.out) hb); have n1_ := Aside0.mk (below_step (by repeat (first | (with_reducible first | exact HB.out | apply below_alloc | apply pw_below_drewN | apply below_drew1 | refine below_set ?_ GE121.out) | exact HB.out)) hb); clear BK121; clear HB; have BK121 := n0_; have HB := n1_; clear n0_ n1_; (try clear hb); (try clear hb2); (try clear hk); (try clear hi)) | ((with_reducible refine gate_callee (f := 45) rfl ?_); refine goesL_ (some 19) rfl rfl Tryz.func45 (by kernel_rfl) rfl #[.string t122, .string (⟨#[47]⟩ : ByteArray)] rfl (by (try simp only [List.map_toArray, List.map_cons, List.map_nil]); first | done | rfl | (simp only [List.length_drop, List.length_take]; rfl)) ?_; (with_reducible refine (strings_Cut.calls t122 (⟨#[47]⟩ : ByteArray) t124 t125 false _ A3.out).mono ?_); rintro e w55 ⟨rfl, hb⟩; refine ⟨_, rfl, ?_⟩; have n0_ := Aside0.mk (blk_below (g := gb121) (o := .cells #[.bool false, .string (⟨#[]⟩ : ByteArray), .string (⟨#[]⟩ : ByteArray)] 24 (0, 0)) (by (with_reducible repeat (first | refine blk_drewN ?_ _ | refine blk_drew ?_ | refine blk_alloc ?_ _)); exact BK121.out) hb); have n1_ := Aside0.mk (below_step (by repeat (first | (with_reducible first | exact HB.out | apply below_alloc | apply pw_below_drewN | apply below_drew1 | refine below_set ?_ GE121.out) | exact HB.out)) hb); clear BK121; clear HB; have BK121 := n0_; have HB := n1_; clear n0_ n1_; (try clear hb); (try clear hb2); (try clear hk); (try clear hi)) | ((with_reducible refine gate_dst (N := 9) rfl ?_); refine box_event ?hg (N := 9) ?hd (cs := #[.bool false, .string (⟨#[]⟩ : ByteArray), .string (⟨#[]⟩ : ByteArray)]) (t := 24) ?hr ?_; (case hd => rfl); (case hg => rfl); (case hr => first | (go_simp; done) | (go_simp; rfl)); intro gb130 hg w56 hbox hb; have n0_ := Aside0.mk (blk_below (g := gb121) (o := .cells #[.bool false, .string (⟨#[]⟩ : ByteArray), .string (⟨#[]⟩ : ByteArray)] 24 (0, 0)) (by (with_reducible repeat (first | refine blk_drewN ?_ _ | refine blk_drew ?_ | refine blk_alloc ?_ _)); exact BK121.out) hb); have n1_ := Aside0.mk (below_step (by repeat (first | (with_reducible first | exact HB.out | apply below_alloc | apply pw_below_drewN | apply below_drew1 | refine below_set ?_ GE121.out) | exact HB.out)) hb); have n2_ := Aside0.mk (hbox); have n3_ := Aside0.mk ((by rw [hg]; exact (below_size (by repeat (first | (with_reducible first | exact HB.out | apply below_alloc | apply pw_below_drewN | apply below_drew1 | refine below_set ?_ GE121.out) | exact HB.out))) : w.heap.size ≤ gb130)); have n4_ := Aside0.mk ((by rw [hg]; exact (below_size (by repeat (first | (with_reducible first | exact HB.out | apply below_alloc | apply pw_below_drewN | apply below_drew1 | refine below_set ?_ GE121.out) | exact HB.out))) : w.heap.size ≤ gb130)); have n5_ := Aside0.mk ((by rw [hg]; exact Nat.ne_of_lt (blk_lt (g := gb121) (o := .cells #[.bool false, .string (⟨#[]⟩ : ByteArray), .string (⟨#[]⟩ : ByteArray)] 24 (0, 0)) (by (with_reducible repeat (first | refine blk_drewN ?_ _ | refine blk_drew ?_ | refine blk_alloc ?_ _)); exact BK121.out)) : gb121 ≠ gb130)); have n6_ := Aside0.mk ((by rw [hg]; exact Nat.ne_of_gt (blk_lt (g := gb121) (o := .cells #[.bool false, .string (⟨#[]⟩ : ByteArray), .string (⟨#[]⟩ : ByteArray)] 24 (0, 0)) (by (with_reducible repeat (first | refine blk_drewN ?_ _ | refine blk_drew ?_ | refine blk_alloc ?_ _)); exact BK121.out)) : gb130 ≠ gb121)); clear BK121; clear HB; have BK121 := n0_; have HB := n1_; have BK130 := n2_; have GW130 := n3_; have GE130 := n4_; have NB121_130 := n5_; have NB130_121 := n6_; clear n0_ n1_ n2_ n3_ n4_ n5_ n6_; clear hb hbox hg; have hnb57 := NB130_121.out; have hnc57 := NB121_130.out; have hcz58_0 : w56.cell? ⟨gb130, 0, none⟩ = some (.bool false) := (blk_cell BK130.out 0).trans rfl; have hcz58_1 : w56.cell? ⟨gb130, 1, none⟩ = some (.string (⟨#[]⟩ : ByteArray)) := (blk_cell BK130.out 1).trans rfl; have hcz58_2 : w56.cell? ⟨gb130, 2, none⟩ = some (.string (⟨#[]⟩ : ByteArray)) := (blk_cell BK130.out 2).trans rfl; have hfz58_0 := blk_frozen BK130.out 0; have hfz58_1 := blk_frozen BK130.out 1; have hfz58_2 := blk_frozen BK130.out 2) | ((with_reducible refine gate_callee (f := 17) rfl ?_); refine goesL_ (some 31) rfl rfl Tryz.func17 (by kernel_rfl) rfl #[.agg #[.bool t123, .string t124, .string (⟨#[49]⟩ : ByteArray)]] rfl (by (try simp only [List.map_toArray, List.map_cons, List.map_nil]); first | done | rfl | (simp only [List.length_drop, List.length_take]; rfl)) ?_; (with_reducible refine (rational_Text.calls t123 t124 (⟨#[49]⟩ : ByteArray) t131 t132 _ ?side1 A33.out).mono ?_); (case side1 => exact Laid.below HLaid.out (by repeat (first | (with_reducible first | exact HB.out | apply below_alloc | apply pw_below_drewN | apply below_drew1 | refine below_set ?_ GE121.out | refine below_set ?_ GE130.out) | exact HB.out))); rintro e w59 ⟨rfl, hb⟩; refine ⟨_, rfl, ?_⟩; have n0_ := Aside0.mk (blk_below (g := gb121) (o := .cells #[.bool false, .string (⟨#[]⟩ : ByteArray), .string (⟨#[]⟩ : ByteArray)] 24 (0, 0)) (by (with_reducible repeat (first | refine blk_drewN ?_ _ | refine blk_drew ?_ | refine blk_alloc ?_ _)); refine blk_far ?_ NB121_130.out _; (with_reducible repeat (first | refine blk_drewN ?_ _ | refine blk_drew ?_ | refine blk_alloc ?_ _)); refine blk_far ?_ NB121_130.out _; (with_reducible repeat (first | refine blk_drewN ?_ _ | refine blk_drew ?_ | refine blk_alloc ?_ _)); refine blk_far ?_ NB121_130.out _; (with_reducible repeat (first | refine blk_drewN ?_ _ | refine blk_drew ?_ | refine blk_alloc ?_ _)); exact BK121.out) hb); have n1_ := Aside0.mk (blk_below (g := gb130) (o := .cells #[.bool t123, .string t124, .string (⟨#[49]⟩ : ByteArray)] 24 (0, 0)) (by (with_reducible repeat (first | refine blk_drewN ?_ _ | refine blk_drew ?_ | refine blk_alloc ?_ _)); refine blk_put (cs := #[.bool t123, .string t124, .string (⟨#[]⟩ : ByteArray)]) ?_ 2 _ rfl; (with_reducible repeat (first | refine blk_drewN ?_ _ | refine blk_drew ?_ | refine blk_alloc ?_ _)); refine blk_put (cs := #[.bool t123, .string (⟨#[]⟩ : ByteArray), .string (⟨#[]⟩ : ByteArray)]) ?_ 1 _ rfl; (with_reducible repeat (first | refine blk_drewN ?_ _ | refine blk_drew ?_ | refine blk_alloc ?_ _)); refine blk_put (cs := #[.bool false, .string (⟨#[]⟩ : ByteArray), .string (⟨#[]⟩ : ByteArray)]) ?_ 0 _ rfl; (with_reducible repeat (first | refine blk_drewN ?_ _ | refine blk_drew ?_ | refine blk_alloc ?_ _)); exact BK130.out) hb); have n2_ := Aside0.mk (below_step (by repeat (first | (with_reducible first | exact HB.out | apply below_alloc | apply pw_below_drewN | apply below_drew1 | refine below_set ?_ GE121.out | refine below_set ?_ GE130.out) | exact HB.out)) hb); clear BK121; clear BK130; clear HB; have BK121 := n0_; have BK130 := n1_; have HB := n2_; clear n0_ n1_ n2_; (try clear hb); (try clear hb2); (try clear hk); (try clear hi); have hcz60_0 : w59.cell? ⟨gb121, 0, none⟩ = some (.bool false) := (blk_cell BK121.out 0).trans rfl; have hcz60_1 : w59.cell? ⟨gb121, 1, none⟩ = some (.string (⟨#[]⟩ : ByteArray)) := (blk_cell BK121.out 1).trans rfl; have hcz60_2 : w59.cell? ⟨gb121, 2, none⟩ = some (.string (⟨#[]⟩ : ByteArray)) := (blk_cell BK121.out 2).trans rfl; have hfz60_0 := blk_frozen BK121.out 0; have hfz60_1 := blk_frozen BK121.out 1; have hfz60_2 := blk_frozen BK121.out 2))
      refine bodyPost_ret (results_ct rfl _ _ gb121 24 #[.bool false, .string (⟨#[]⟩ : ByteArray), .string (⟨#[]⟩ : ByteArray)] (0, 0) _ rfl (by (with_reducible repeat (first | refine blk_drewN ?_ _ | refine blk_drew ?_ | refine blk_alloc ?_ _)); refine blk_put (cs := #[.bool false, .string (⟨#[]⟩ : ByteArray), .string (⟨#[]⟩ : ByteArray)]) ?_ 2 _ rfl; (with_reducible repeat (first | refine blk_drewN ?_ _ | refine blk_drew ?_ | refine blk_alloc ?_ _)); refine blk_put (cs := #[.bool false, .string (⟨#[]⟩ : ByteArray), .string (⟨#[]⟩ : ByteArray)]) ?_ 1 _ rfl; (with_reducible repeat (first | refine blk_drewN ?_ _ | refine blk_drew ?_ | refine blk_alloc ?_ _)); refine blk_put (cs := #[.bool false, .string (⟨#[]⟩ : ByteArray), .string (⟨#[]⟩ : ByteArray)]) ?_ 0 _ rfl; (with_reducible repeat (first | refine blk_drewN ?_ _ | refine blk_drew ?_ | refine blk_alloc ?_ _)); exact BK121.out) Tryz.underlying24 rfl (by kernel_rfl)) rfl ?_
      exact ⟨by first | rfl | (simp [errW_none, errW_some] <;> rfl) | (simp [*, errW_none, errW_some] <;> rfl), by repeat (first | (with_reducible first | exact HB.out | apply below_alloc | apply pw_below_drewN | apply below_drew1 | refine below_set ?_ GE121.out | refine below_set ?_ GE130.out) | exact HB.out)⟩
end Go.Proofs.YthpomhboogcigaaGreatDoor.XSub
end
section -- RatCompare
namespace Go.Proofs.YthpomhboogcigaaGreatDoor
open Go.RowKit Go.Proofs.YthpomhboogcigaaGreatDoorW.PrintWords Go.Proofs.YthpomhboogcigaaGreatDoorW.PrintMore Go.Proofs.YthpomhboogcigaaGreatDoorW.PrintLast
set_option linter.unusedVariables false
set_option linter.unusedSimpArgs false
theorem two_below (w : World) (o o' : Obj) : Below w.heap.size w ((w.alloc o).alloc o') := below_alloc (below_alloc (Below.refl _ _) _) _
theorem boxes2 (w : World) (x x' : Bool) (y z y' z' : ByteArray) : HasR ((w.alloc (.cells #[.bool x, .string y, .string z] 24)).alloc (.cells #[.bool x', .string y', .string z'] 24)) w.heap.size x y z ∧ HasR ((w.alloc (.cells #[.bool x, .string y, .string z] 24)).alloc (.cells #[.bool x', .string y', .string z'] 24)) (w.heap.size + 1) x' y' z' := by
  refine ⟨HasR.new.alloc _, ?_⟩
  have := HasR.new (W := w.alloc (.cells #[.bool x, .string y, .string z] 24)) (x := x') (y := y') (z := z')
  rwa [show (w.alloc (.cells #[.bool x, .string y, .string z] 24)).heap.size = w.heap.size + 1 by simp] at this
/-- What an array of two strings holds. -/
def Arr (W : World) (g : Nat) (x y : ByteArray) : Prop := W.heap[g]? = some (.cells #[.string x, .string y] 62 (0, 0))
/-- What stands behind the first test. -/
structure Cm2 (w W : World) (a1 : Bool) (n1 d1 : ByteArray) (a2 : Bool) (n2 d2 : ByteArray) : Prop where
  A : HasR W w.heap.size a1 n1 d1
  C : HasR W (w.heap.size + 1) a2 n2 d2
  B : Below w.heap.size w W
structure Cm3 (w W : World) (P Q : Nat) (n1 d1 n2 d2 : ByteArray) : Prop where
  A : Arr W P n1 d1
  C : Arr W Q n2 d2
  N : P ≠ Q
  p : w.heap.size ≤ P
  q : w.heap.size ≤ Q
  B : Below w.heap.size w W
theorem HasR.put3 {W : World} {g : Nat} {x : Bool} {b c : ByteArray} (h : HasR W g x b c) (y : Bool) (n d : ByteArray) : HasR (((W.setCell ⟨g, 0, none⟩ (.bool y)).setCell ⟨g, 1, none⟩ (.string n)).setCell ⟨g, 2, none⟩ (.string d)) g y n d := by
  have h1 : (W.setCell ⟨g, 0, none⟩ (.bool y)).heap[g]? = some (.cells #[.bool y, .string b, .string c] 24 (0, 0)) := blk_put h 0 _ rfl
  have h2 : ((W.setCell ⟨g, 0, none⟩ (.bool y)).setCell ⟨g, 1, none⟩ (.string n)).heap[g]? = some (.cells #[.bool y, .string n, .string c] 24 (0, 0)) := blk_put h1 1 _ rfl
  exact blk_put h2 2 _ rfl
theorem HasR.far' {W : World} {g gd : Nat} {x : Bool} {y z : ByteArray} (h : HasR W g x y z) (hne : g ≠ gd) (i : Nat) (u : Value) : HasR (W.setCell ⟨gd, i, none⟩ u) g x y z := (heap_setCell_other W ⟨gd, i, none⟩ g u hne).trans h
theorem Arr.drewn {W : World} {g : Nat} {x y : ByteArray} (h : Arr W g x y) : Arr W.drew g x y := h
theorem swap_end {w W : World} {x x' : Bool} {b c b' c' : ByteArray} (n1 d1 n2 d2 : ByteArray) (h1 : HasR W w.heap.size x b c) (h2 : HasR W (w.heap.size + 1) x' b' c') (hb : Below w.heap.size w W) :
    Cm2 w ((((((W.setCell ⟨w.heap.size, 0, none⟩ (.bool false)).setCell ⟨w.heap.size, 1, none⟩ (.string n1)).setCell ⟨w.heap.size, 2, none⟩ (.string d1)).setCell ⟨w.heap.size + 1, 0, none⟩ (.bool false)).setCell ⟨w.heap.size + 1, 1, none⟩ (.string n2)).setCell ⟨w.heap.size + 1, 2, none⟩ (.string d2)) false n1 d1 false n2 d2 := by
  have hne : w.heap.size ≠ w.heap.size + 1 := by omega
  have hne' : w.heap.size + 1 ≠ w.heap.size := by omega
  refine ⟨(((h1.put3 _ _ _).far' hne _ _).far' hne _ _).far' hne _ _, (((h2.far' hne' _ _).far' hne' _ _).far' hne' _ _).put3 _ _ _, ?_⟩
  exact below_set (below_set (below_set (below_set (below_set (below_set hb (Nat.le_refl _)) (Nat.le_refl _)) (Nat.le_refl _)) (Nat.le_succ _)) (Nat.le_succ _)) (Nat.le_succ _)
theorem Arr.later {W U : World} {g : Nat} {x y : ByteArray} [l : Later W U] (h : Arr W g x y) : Arr U g x y := blk_below h l.below
theorem Arr.new (W : World) (x y : ByteArray) : Arr (W.alloc (.cells #[.string x, .string y] 62)) W.heap.size x y := heap_alloc_new W _
theorem Arr.new2 (W : World) (o : Obj) (x y : ByteArray) : Arr ((W.alloc o).alloc (.cells #[.string x, .string y] 62)) (W.heap.size + 1) x y := by
  have := Arr.new (W.alloc o) x y
  rwa [show (W.alloc o).heap.size = W.heap.size + 1 by simp] at this
theorem arr_end {w W : World} (n1 d1 n2 d2 : ByteArray) (hb : Below w.heap.size w W) : Cm3 w ((W.alloc (.cells #[.string n1, .string d1] 62)).alloc (.cells #[.string n2, .string d2] 62)).drew W.heap.size (W.heap.size + 1) n1 d1 n2 d2 :=
  ⟨Arr.later (Arr.new W n1 d1), Arr.drewn (Arr.new2 W _ n2 d2), by omega, hb.size, Nat.le_succ_of_le hb.size, BK hb⟩
theorem arr_end' {w W : World} (n1 d1 n2 d2 : ByteArray) (hb : Below w.heap.size w W) : Cm3 w ((W.alloc (.cells #[.string n2, .string d2] 62)).alloc (.cells #[.string n1, .string d1] 62)).drew (W.heap.size + 1) W.heap.size n1 d1 n2 d2 :=
  ⟨Arr.drewn (Arr.new2 W _ n1 d1), Arr.later (Arr.new W n2 d2), by omega, Nat.le_succ_of_le hb.size, hb.size, BK hb⟩
theorem Cm3.below {w W U : World} {P Q : Nat} {n1 d1 n2 d2 : ByteArray} (h : Cm3 w W P Q n1 d1 n2 d2) (hb : Below W.heap.size W U) : Cm3 w U P Q n1 d1 n2 d2 :=
  ⟨blk_below h.A hb, blk_below h.C hb, h.N, h.p, h.q, below_step h.B hb⟩
theorem Cm3.later {w W U : World} {P Q : Nat} {n1 d1 n2 d2 : ByteArray} [l : Later W U] (h : Cm3 w W P Q n1 d1 n2 d2) : Cm3 w U P Q n1 d1 n2 d2 := h.below l.below
theorem arr_far {W : World} {g q : Nat} {x y : ByteArray} (h : Arr W g x y) (i : Nat) (u : Value) (hne : g ≠ q) : Arr (W.setCell ⟨q, i, none⟩ u) g x y := (heap_setCell_other W ⟨q, i, none⟩ g u hne).trans h
theorem Cm3.put {w W : World} {P Q : Nat} {n1 d1 n2 d2 : ByteArray} (h : Cm3 w W P Q n1 d1 n2 d2) (x1 y1 x2 y2 : ByteArray) :
    Cm3 w ((((W.setCell ⟨P, 0, none⟩ (.string x1)).setCell ⟨P, 1, none⟩ (.string y1)).setCell ⟨Q, 0, none⟩ (.string x2)).setCell ⟨Q, 1, none⟩ (.string y2)) P Q x1 y1 x2 y2 := by
  refine ⟨?_, ?_, h.N, h.p, h.q, ?_⟩
  · refine arr_far (arr_far ?_ _ _ h.N) _ _ h.N
    exact blk_put (cs := #[.string x1, .string d1]) (blk_put h.A 0 _ rfl) 1 _ rfl
  · have h' := arr_far (arr_far h.C 0 (.string x1) (Ne.symm h.N)) 1 (.string y1) (Ne.symm h.N)
    exact blk_put (cs := #[.string x2, .string d2]) (blk_put h' 0 _ rfl) 1 _ rfl
  · exact below_set (below_set (below_set (below_set h.B h.p) h.p) h.q) h.q
/-- What holds at the head of each round. -/
structure CmL (w W : World) (P Q : Nat) (k : Nat) (z : Int) (n1 d1 n2 d2 : ByteArray) : Prop where
  M : Cm3 w W P Q n1 d1 n2 d2
  v1 : validS n1 = true
  v2 : validS d1 = true
  v3 : validS n2 = true
  v4 : validS d2 = true
  o1 : valS d1 ≠ 0
  o2 : valS d2 ≠ 0
  res : cmpN (valS n1 * valS d2) (valS n2 * valS d1) = z
  ne : z ≠ 0
  k : valS d1 + valS d2 = k
theorem CmL.facts {w W : World} {P Q k : Nat} {z : Int} {n1 d1 n2 d2 : ByteArray} (h : CmL w W P Q k z n1 d1 n2 d2) :
    ∃ m r n s : ByteArray, ∃ x : Int, divS n1 d1 = (m, r, 0) ∧ divS n2 d2 = (n, s, 0) ∧ cmpS m n = x ∧
      ((x = -1 ∧ z = -1) ∨ (x = 1 ∧ z = 1) ∨ (x = 0 ∧ (r.toList == ([48] : List UInt8)) = true ∧ z = -1) ∨ (x = 0 ∧ (r.toList == ([48] : List UInt8)) = false ∧ (s.toList == ([48] : List UInt8)) = true ∧ z = 1) ∨
       (x = 0 ∧ (r.toList == ([48] : List UInt8)) = false ∧ (s.toList == ([48] : List UInt8)) = false ∧ ∃ k', k' < k ∧ ∀ U, Cm3 w U P Q d2 s d1 r → CmL w U P Q k' z d2 s d1 r)) := by
  have b1 := Nat.pos_of_ne_zero h.o1
  have b2 := Nat.pos_of_ne_zero h.o2
  have vm := validS_decS (dec_le_valS h.v1 (Nat.div_le_self (valS n1) (valS d1)))
  have vr := validS_decS (dec_le_valS h.v1 (Nat.mod_le (valS n1) (valS d1)))
  have vn := validS_decS (dec_le_valS h.v3 (Nat.div_le_self (valS n2) (valS d2)))
  have vs := validS_decS (dec_le_valS h.v3 (Nat.mod_le (valS n2) (valS d2)))
  have zr := zero_iff vr
  have zs := zero_iff vs
  rw [valS_decS] at zr zs
  obtain ⟨c1, c2, c3, c4, c5⟩ := cf_round (a := valS n1) (b := valS d1) (c := valS n2) (d := valS d2) b1 b2
  have hres := h.res
  refine ⟨_, _, _, _, cmpN (valS n1 / valS d1) (valS n2 / valS d2), div_ok h.v1 h.v2 h.o1, div_ok h.v3 h.v4 h.o2, by rw [cmp_ok vm vn, valS_decS, valS_decS]; rfl, ?_⟩
  rcases Nat.lt_trichotomy (valS n1 / valS d1) (valS n2 / valS d2) with hl | he | hg
  · exact Or.inl ⟨cmpN_lt hl, by rw [← hres, ← c1 (by omega), cmpN_lt hl]⟩
  · refine Or.inr (Or.inr ?_)
    by_cases hr : valS n1 % valS d1 = 0
    · refine Or.inl ⟨cmpN_eq he, by rw [zr]; exact decide_eq_true hr, ?_⟩
      by_cases hs : valS n2 % valS d2 = 0
      · exact absurd (by rw [← hres]; exact c2 he hr hs) h.ne
      · rw [← hres]; exact c3 he hr hs
    · refine Or.inr ?_
      by_cases hs : valS n2 % valS d2 = 0
      · exact Or.inl ⟨cmpN_eq he, by rw [zr]; exact decide_eq_false hr, by rw [zs]; exact decide_eq_true hs, by rw [← hres]; exact c4 he hr hs⟩
      · refine Or.inr ⟨cmpN_eq he, by rw [zr]; exact decide_eq_false hr, by rw [zs]; exact decide_eq_false hs, ?_⟩
        have l1 := Nat.mod_lt (valS n1) b1
        have l2 := Nat.mod_lt (valS n2) b2
        refine ⟨valS n2 % valS d2 + valS n1 % valS d1, by rw [← h.k]; omega, fun U hU => ⟨hU, h.v4, vs, h.v2, vr, ?_, ?_, ?_, h.ne, by rw [valS_decS, valS_decS]⟩⟩
        · rw [valS_decS]; exact hs
        · rw [valS_decS]; exact hr
        · rw [valS_decS, valS_decS, ← hres]; exact c5 he
  · exact Or.inr (Or.inl ⟨cmpN_gt hg, by rw [← hres, ← c1 (by omega), cmpN_gt hg]⟩)
/-- The relation of the loop. -/
def CmR (w W : World) (P Q : Nat) (k : Nat) (z : Int) : Prop := ∃ n1 d1 n2 d2, CmL w W P Q k z n1 d1 n2 d2
theorem Arr.cells {W : World} {g : Nat} {x y : ByteArray} (h : Arr W g x y) : W.cell? ⟨g, 0, none⟩ = some (.string x) ∧ W.cell? ⟨g, 1, none⟩ = some (.string y) := ⟨blk_cell h 0, blk_cell h 1⟩
theorem cm_ne {s : Bool} {b c b' c' : ByteArray} {z : Int} (V1 : VR (s, b, c)) (V2 : VR (s, b', c')) (hne : (b.toList == b'.toList && c.toList == c'.toList) = false) (hr : cmpR (s, b, c) (s, b', c') = z) : z ≠ 0 := by
  rw [← hr]; intro e
  have h := (cmp_same V1 V2).1 e
  simp only [Prod.mk.injEq] at h
  rw [h.2.1, h.2.2] at hne
  simp at hne
set_option maxHeartbeats 1000000 in
theorem cml_start {w W : World} {P Q : Nat} {n1 d1 n2 d2 : ByteArray} {z : Int} (V1 : VR (false, n1, d1)) (V2 : VR (false, n2, d2)) (hr : cmpR (false, n1, d1) (false, n2, d2) = z) (hz : z ≠ 0) (hm : Cm3 w W P Q n1 d1 n2 d2) : CmR w W P Q (valS d1 + valS d2) z :=
  ⟨n1, d1, n2, d2, hm, V1.n, V1.d, V2.n, V2.d, V1.d0, V2.d0, by rw [← hr, cmp_cross V1 V2 rfl rfl], hz, rfl⟩
theorem neg_pos {b c : ByteArray} (V : VR (true, b, c)) : VR (false, b, c) := by
  have h := (minus_VR V).1
  unfold minusR at h
  simpa using h
theorem cmp_flip {b c b' c' : ByteArray} (V1 : VR (true, b, c)) (V2 : VR (true, b', c')) : cmpR (false, b', c') (false, b, c) = cmpR (true, b, c) (true, b', c') := by
  have e : ∀ n d : ByteArray, minusR (true, n, d) = (false, n, d) := fun n d => by unfold minusR; simp
  have h := cmp_neg V1 V2
  rwa [e, e] at h
set_option maxHeartbeats 4000000 in
set_option maxRecDepth 100000 in
theorem cmp_mp (b c b' c' : ByteArray) (w : World) (hL : Laid w) (h1 : validR (true, b, c) = true) (h2 : validR (false, b', c') = true) :
    Calls Tryz.prog 23 #[.agg #[.bool true, .string b, .string c], .agg #[.bool false, .string b', .string c']] w fun e w' => e = .returned (.int .i64 (-1)) ∧ Below w.heap.size w w' := by
  have HV1 := Lib.hid (fun W (hb : Below w.heap.size w W) => rational_Valid.calls true b c true W (Laid.below hL hb) (by unfold rational_Valid.f; rw [h1]))
  have HV2 := Lib.hid (fun W (hb : Below w.heap.size w W) => rational_Valid.calls false b' c' true W (Laid.below hL hb) (by unfold rational_Valid.f; rw [h2]))
  have HL := Lib.hid hL
  have HX := Lib.hid (boxes2 w true false b c b' c')
  clear hL h1 h2
  have hu := Tryz.underlying24
  go_enter Tryz.func23, Tryz.ntmps23
  go_wp2_with (go_at_call 21; first
    | (with_reducible refine (HV1.out _ ?_).mono ?_; (exact two_below _ _ _); rintro e w1 ⟨rfl, hb⟩; have HB1 := Lib.hid (below_step (two_below _ _ _) hb); have HY1 := Lib.hid ((HX.out).1.below hb); have HY2 := Lib.hid ((HX.out).2.below hb); clear HX hb; obtain ⟨y1, y2, y3⟩ := HY2.out.cells)
    | (with_reducible refine (HV2.out _ HB1.out).mono ?_; rintro e w2 ⟨rfl, hb⟩; have HB2 := Lib.hid (below_step HB1.out hb); have HZ1 := Lib.hid (HY1.out.below hb); have HZ2 := Lib.hid (HY2.out.below hb); clear hb y1 y2 y3 HY1 HY2 HB1; obtain ⟨y1, y2, y3⟩ := HZ1.out.cells; obtain ⟨z1, z2, z3⟩ := HZ2.out.cells))
  go_ret
  exact ⟨rfl, HB2.out⟩
set_option maxHeartbeats 4000000 in
set_option maxRecDepth 100000 in
theorem cmp_pm (b c b' c' : ByteArray) (w : World) (hL : Laid w) (h1 : validR (false, b, c) = true) (h2 : validR (true, b', c') = true) :
    Calls Tryz.prog 23 #[.agg #[.bool false, .string b, .string c], .agg #[.bool true, .string b', .string c']] w fun e w' => e = .returned (.int .i64 (1)) ∧ Below w.heap.size w w' := by
  have HV1 := Lib.hid (fun W (hb : Below w.heap.size w W) => rational_Valid.calls false b c true W (Laid.below hL hb) (by unfold rational_Valid.f; rw [h1]))
  have HV2 := Lib.hid (fun W (hb : Below w.heap.size w W) => rational_Valid.calls true b' c' true W (Laid.below hL hb) (by unfold rational_Valid.f; rw [h2]))
  have HL := Lib.hid hL
  have HX := Lib.hid (boxes2 w false true b c b' c')
  clear hL h1 h2
  have hu := Tryz.underlying24
  go_enter Tryz.func23, Tryz.ntmps23
  go_wp2_with (go_at_call 21; first
    | (with_reducible refine (HV1.out _ ?_).mono ?_; (exact two_below _ _ _); rintro e w1 ⟨rfl, hb⟩; have HB1 := Lib.hid (below_step (two_below _ _ _) hb); have HY1 := Lib.hid ((HX.out).1.below hb); have HY2 := Lib.hid ((HX.out).2.below hb); clear HX hb; obtain ⟨y1, y2, y3⟩ := HY2.out.cells)
    | (with_reducible refine (HV2.out _ HB1.out).mono ?_; rintro e w2 ⟨rfl, hb⟩; have HB2 := Lib.hid (below_step HB1.out hb); have HZ1 := Lib.hid (HY1.out.below hb); have HZ2 := Lib.hid (HY2.out.below hb); clear hb y1 y2 y3 HY1 HY2 HB1; obtain ⟨y1, y2, y3⟩ := HZ1.out.cells; obtain ⟨z1, z2, z3⟩ := HZ2.out.cells))
  go_ret
  exact ⟨rfl, HB2.out⟩
set_option maxHeartbeats 4000000 in
set_option maxRecDepth 100000 in
theorem cmp_pp (b c b' c' : ByteArray) (w : World) (hL : Laid w) (h1 : validR (false, b, c) = true) (h2 : validR (false, b', c') = true) (hne : (b.toList == b'.toList && c.toList == c'.toList) = false) (z : Int) (hr : cmpR (false, b, c) (false, b', c') = z) :
    Calls Tryz.prog 23 #[.agg #[.bool false, .string b, .string c], .agg #[.bool false, .string b', .string c']] w fun e w' => e = .returned (.int .i64 z) ∧ Below w.heap.size w w' := by
  have HR := Lib.hid hr
  have HNE := Lib.hid hne
  have V1 := Lib.hid (validR_iff.1 h1)
  have V2 := Lib.hid (validR_iff.1 h2)
  clear hr hne
  have HV1 := Lib.hid (fun W (hb : Below w.heap.size w W) => rational_Valid.calls false b c true W (Laid.below hL hb) (by unfold rational_Valid.f; rw [h1]))
  have HV2 := Lib.hid (fun W (hb : Below w.heap.size w W) => rational_Valid.calls false b' c' true W (Laid.below hL hb) (by unfold rational_Valid.f; rw [h2]))
  have HL := Lib.hid hL
  have HX := Lib.hid (boxes2 w false false b c b' c')
  clear hL h1 h2
  have hu := Tryz.underlying24
  go_enter Tryz.func23, Tryz.ntmps23
  go_upto_block 0 with fail
  go_cut [] (fun wx => Cm2 w wx false b c false b' c')
  case first =>
    go_wp2_with (go_at_call 21; first
    | (with_reducible refine (HV1.out _ ?_).mono ?_; (exact two_below _ _ _); rintro e w1 ⟨rfl, hb⟩; have HB1 := Lib.hid (below_step (two_below _ _ _) hb); have HY1 := Lib.hid ((HX.out).1.below hb); have HY2 := Lib.hid ((HX.out).2.below hb); clear HX hb; obtain ⟨y1, y2, y3⟩ := HY2.out.cells)
    | (with_reducible refine (HV2.out _ HB1.out).mono ?_; rintro e w2 ⟨rfl, hb⟩; have HB2 := Lib.hid (below_step HB1.out hb); have HZ1 := Lib.hid (HY1.out.below hb); have HZ2 := Lib.hid (HY2.out.below hb); clear hb y1 y2 y3 HY1 HY2 HB1; obtain ⟨y1, y2, y3⟩ := HZ1.out.cells; obtain ⟨z1, z2, z3⟩ := HZ2.out.cells))
    all_goals first
      | (go_meet; exact ⟨HZ1.out, HZ2.out, HB2.out⟩)
      | (exfalso; have h_ := HNE.out; rw [‹b.toList = b'.toList›, ‹c.toList = c'.toList›] at h_; simp at h_)
  case rest =>
    have HM := Lib.hid hcut
    obtain ⟨y1, y2, y3⟩ := hcut.A.cells
    obtain ⟨z1, z2, z3⟩ := hcut.C.cells
    clear hcut HV1 HV2 HX
    go_upto_region 9 with fail
    go_cut [5, 6] (fun s5 s6 wx => ∃ P Q : Nat, s5 = .pointer (some ⟨P, 0, none⟩) ∧ s6 = .pointer (some ⟨Q, 0, none⟩) ∧ Cm3 w wx P Q b c b' c')
    case first =>
      go_region_held3 (fun W' => W'.cell? ⟨w.heap.size, 1, none⟩ = some (.string b) ∧ W'.cell? ⟨w.heap.size, 2, none⟩ = some (.string c) ∧ W'.cell? ⟨w.heap.size + 1, 1, none⟩ = some (.string b') ∧ W'.cell? ⟨w.heap.size + 1, 2, none⟩ = some (.string c')) (go_keep) (fail)
      all_goals (go_wp2_with fail)
      all_goals go_meet
      all_goals first | exact ⟨_, _, rfl, rfl, arr_end _ _ _ _ HM.out.B⟩ | exact ⟨_, _, rfl, rfl, arr_end' _ _ _ _ HM.out.B⟩
    case rest =>
    obtain ⟨P, Q, rfl, rfl, hm⟩ := hcut
    have HS := Lib.hid (cml_start V1.out V2.out HR.out (cm_ne V1.out V2.out HNE.out HR.out) hm)
    clear hm HM y1 y2 y3 z1 z2 z3 hu
    have HDL := Lib.hid (fun (x y m r : ByteArray) (U : World) (hb : Below w.heap.size w U) (h : divS x y = (m, r, 0)) => natural_Div.calls x y m r 0 U (Laid.below HL.out hb) (congrArg some h))
    have HCL := Lib.hid (fun (x y : ByteArray) (v : Int) (U : World) (hb : Below w.heap.size w U) (h : cmpS x y = v) => natural_Compare.calls x y v U (Laid.below HL.out hb) (congrArg some h))
    clear HL HR HNE V1 V2
    go_wp2_with fail
    go_loopg [] (valS c + valS c') (fun k wr => CmR w wr P Q k z)
    case atStart => exact HS.out
    case round =>
      clear HS
      obtain ⟨n1, d1, n2, d2, hl⟩ := hrel
      obtain ⟨m, r, n, s, x, hd1, hd2, hc, hcases⟩ := hl.facts
      have HM := Lib.hid hl.M
      have HD1 := Lib.hid hd1
      have HD2 := Lib.hid hd2
      have HCM := Lib.hid hc
      have hN := hl.M.N
      have hN' := Ne.symm hl.M.N
      clear hl hd1 hd2 hc
      obtain ⟨a0, a1⟩ := HM.out.A.cells; obtain ⟨b0, b1⟩ := HM.out.C.cells; have fa0 := blk_frozen HM.out.A 0; have fa1 := blk_frozen HM.out.A 1; have fb0 := blk_frozen HM.out.C 0; have fb1 := blk_frozen HM.out.C 1
      rcases hcases with ⟨rfl, rfl⟩ | ⟨rfl, rfl⟩ | ⟨rfl, h1, rfl⟩ | ⟨rfl, h1, h2, rfl⟩ | ⟨rfl, h1, h2, k', hk, hU⟩
      · go_wp2_with (first
        | (go_at_call 49; (first | (with_reducible refine (HDL.out n1 d1 m r _ (BK HM.out.B) HD1.out).mono ?_) | (with_reducible refine (HDL.out n2 d2 n s _ (BK HM.out.B) HD2.out).mono ?_)); rintro e w5 ⟨rfl, hb_⟩; have HM2 := Lib.hid ((Cm3.later HM.out).below hb_); clear hb_ HM a0 a1 b0 b1 fa0 fa1 fb0 fb1; have HM := HM2; clear HM2; obtain ⟨a0, a1⟩ := HM.out.A.cells; obtain ⟨b0, b1⟩ := HM.out.C.cells; have fa0 := blk_frozen HM.out.A 0; have fa1 := blk_frozen HM.out.A 1; have fb0 := blk_frozen HM.out.C 0; have fb1 := blk_frozen HM.out.C 1)
        | (go_at_call 50; (with_reducible refine (HCL.out m n _ _ (BK HM.out.B) HCM.out).mono ?_); rintro e w5 ⟨rfl, hb_⟩; have HM2 := Lib.hid ((Cm3.later HM.out).below hb_); clear hb_ HM a0 a1 b0 b1 fa0 fa1 fb0 fb1; have HM := HM2; clear HM2; obtain ⟨a0, a1⟩ := HM.out.A.cells; obtain ⟨b0, b1⟩ := HM.out.C.cells; have fa0 := blk_frozen HM.out.A 0; have fa1 := blk_frozen HM.out.A 1; have fb0 := blk_frozen HM.out.C 0; have fb1 := blk_frozen HM.out.C 1))
        go_ret
        exact ⟨rfl, HM.out.B⟩
      · go_wp2_with (first
        | (go_at_call 49; (first | (with_reducible refine (HDL.out n1 d1 m r _ (BK HM.out.B) HD1.out).mono ?_) | (with_reducible refine (HDL.out n2 d2 n s _ (BK HM.out.B) HD2.out).mono ?_)); rintro e w5 ⟨rfl, hb_⟩; have HM2 := Lib.hid ((Cm3.later HM.out).below hb_); clear hb_ HM a0 a1 b0 b1 fa0 fa1 fb0 fb1; have HM := HM2; clear HM2; obtain ⟨a0, a1⟩ := HM.out.A.cells; obtain ⟨b0, b1⟩ := HM.out.C.cells; have fa0 := blk_frozen HM.out.A 0; have fa1 := blk_frozen HM.out.A 1; have fb0 := blk_frozen HM.out.C 0; have fb1 := blk_frozen HM.out.C 1)
        | (go_at_call 50; (with_reducible refine (HCL.out m n _ _ (BK HM.out.B) HCM.out).mono ?_); rintro e w5 ⟨rfl, hb_⟩; have HM2 := Lib.hid ((Cm3.later HM.out).below hb_); clear hb_ HM a0 a1 b0 b1 fa0 fa1 fb0 fb1; have HM := HM2; clear HM2; obtain ⟨a0, a1⟩ := HM.out.A.cells; obtain ⟨b0, b1⟩ := HM.out.C.cells; have fa0 := blk_frozen HM.out.A 0; have fa1 := blk_frozen HM.out.A 1; have fb0 := blk_frozen HM.out.C 0; have fb1 := blk_frozen HM.out.C 1))
        go_ret
        exact ⟨rfl, HM.out.B⟩
      · go_wp2_with (first
        | (go_at_call 49; (first | (with_reducible refine (HDL.out n1 d1 m r _ (BK HM.out.B) HD1.out).mono ?_) | (with_reducible refine (HDL.out n2 d2 n s _ (BK HM.out.B) HD2.out).mono ?_)); rintro e w5 ⟨rfl, hb_⟩; have HM2 := Lib.hid ((Cm3.later HM.out).below hb_); clear hb_ HM a0 a1 b0 b1 fa0 fa1 fb0 fb1; have HM := HM2; clear HM2; obtain ⟨a0, a1⟩ := HM.out.A.cells; obtain ⟨b0, b1⟩ := HM.out.C.cells; have fa0 := blk_frozen HM.out.A 0; have fa1 := blk_frozen HM.out.A 1; have fb0 := blk_frozen HM.out.C 0; have fb1 := blk_frozen HM.out.C 1)
        | (go_at_call 50; (with_reducible refine (HCL.out m n _ _ (BK HM.out.B) HCM.out).mono ?_); rintro e w5 ⟨rfl, hb_⟩; have HM2 := Lib.hid ((Cm3.later HM.out).below hb_); clear hb_ HM a0 a1 b0 b1 fa0 fa1 fb0 fb1; have HM := HM2; clear HM2; obtain ⟨a0, a1⟩ := HM.out.A.cells; obtain ⟨b0, b1⟩ := HM.out.C.cells; have fa0 := blk_frozen HM.out.A 0; have fa1 := blk_frozen HM.out.A 1; have fb0 := blk_frozen HM.out.C 0; have fb1 := blk_frozen HM.out.C 1))
        go_ret
        exact ⟨rfl, HM.out.B⟩
      · go_wp2_with (first
        | (go_at_call 49; (first | (with_reducible refine (HDL.out n1 d1 m r _ (BK HM.out.B) HD1.out).mono ?_) | (with_reducible refine (HDL.out n2 d2 n s _ (BK HM.out.B) HD2.out).mono ?_)); rintro e w5 ⟨rfl, hb_⟩; have HM2 := Lib.hid ((Cm3.later HM.out).below hb_); clear hb_ HM a0 a1 b0 b1 fa0 fa1 fb0 fb1; have HM := HM2; clear HM2; obtain ⟨a0, a1⟩ := HM.out.A.cells; obtain ⟨b0, b1⟩ := HM.out.C.cells; have fa0 := blk_frozen HM.out.A 0; have fa1 := blk_frozen HM.out.A 1; have fb0 := blk_frozen HM.out.C 0; have fb1 := blk_frozen HM.out.C 1)
        | (go_at_call 50; (with_reducible refine (HCL.out m n _ _ (BK HM.out.B) HCM.out).mono ?_); rintro e w5 ⟨rfl, hb_⟩; have HM2 := Lib.hid ((Cm3.later HM.out).below hb_); clear hb_ HM a0 a1 b0 b1 fa0 fa1 fb0 fb1; have HM := HM2; clear HM2; obtain ⟨a0, a1⟩ := HM.out.A.cells; obtain ⟨b0, b1⟩ := HM.out.C.cells; have fa0 := blk_frozen HM.out.A 0; have fa1 := blk_frozen HM.out.A 1; have fb0 := blk_frozen HM.out.C 0; have fb1 := blk_frozen HM.out.C 1))
        go_ret
        exact ⟨rfl, HM.out.B⟩
      · have HU := Lib.hid hU
        have HK := Lib.hid hk
        clear hU hk
        go_wp2_with (first
        | (go_at_call 49; (first | (with_reducible refine (HDL.out n1 d1 m r _ (BK HM.out.B) HD1.out).mono ?_) | (with_reducible refine (HDL.out n2 d2 n s _ (BK HM.out.B) HD2.out).mono ?_)); rintro e w5 ⟨rfl, hb_⟩; have HM2 := Lib.hid ((Cm3.later HM.out).below hb_); clear hb_ HM a0 a1 b0 b1 fa0 fa1 fb0 fb1; have HM := HM2; clear HM2; obtain ⟨a0, a1⟩ := HM.out.A.cells; obtain ⟨b0, b1⟩ := HM.out.C.cells; have fa0 := blk_frozen HM.out.A 0; have fa1 := blk_frozen HM.out.A 1; have fb0 := blk_frozen HM.out.C 0; have fb1 := blk_frozen HM.out.C 1)
        | (go_at_call 50; (with_reducible refine (HCL.out m n _ _ (BK HM.out.B) HCM.out).mono ?_); rintro e w5 ⟨rfl, hb_⟩; have HM2 := Lib.hid ((Cm3.later HM.out).below hb_); clear hb_ HM a0 a1 b0 b1 fa0 fa1 fb0 fb1; have HM := HM2; clear HM2; obtain ⟨a0, a1⟩ := HM.out.A.cells; obtain ⟨b0, b1⟩ := HM.out.C.cells; have fa0 := blk_frozen HM.out.A 0; have fa1 := blk_frozen HM.out.A 1; have fb0 := blk_frozen HM.out.C 0; have fb1 := blk_frozen HM.out.C 1))
        go_roundg k'
        case measure => exact HK.out
        case rel => exact ⟨_, _, _, _, HU.out _ (Cm3.later (HM.out.put _ _ _ _))⟩
set_option maxHeartbeats 4000000 in
set_option maxRecDepth 100000 in
theorem cmp_mm (b c b' c' : ByteArray) (w : World) (hL : Laid w) (h1 : validR (true, b, c) = true) (h2 : validR (true, b', c') = true) (hne : (b.toList == b'.toList && c.toList == c'.toList) = false) (z : Int) (hr : cmpR (true, b, c) (true, b', c') = z) :
    Calls Tryz.prog 23 #[.agg #[.bool true, .string b, .string c], .agg #[.bool true, .string b', .string c']] w fun e w' => e = .returned (.int .i64 z) ∧ Below w.heap.size w w' := by
  have HR := Lib.hid hr
  have HNE := Lib.hid hne
  have V1 := Lib.hid (validR_iff.1 h1)
  have V2 := Lib.hid (validR_iff.1 h2)
  clear hr hne
  have HV1 := Lib.hid (fun W (hb : Below w.heap.size w W) => rational_Valid.calls true b c true W (Laid.below hL hb) (by unfold rational_Valid.f; rw [h1]))
  have HV2 := Lib.hid (fun W (hb : Below w.heap.size w W) => rational_Valid.calls true b' c' true W (Laid.below hL hb) (by unfold rational_Valid.f; rw [h2]))
  have HL := Lib.hid hL
  have HX := Lib.hid (boxes2 w true true b c b' c')
  clear hL h1 h2
  have hu := Tryz.underlying24
  go_enter Tryz.func23, Tryz.ntmps23
  go_upto_block 0 with fail
  go_cut [] (fun wx => Cm2 w wx false b' c' false b c)
  case first =>
    go_upto_region 8 with (go_at_call 21; first
    | (with_reducible refine (HV1.out _ ?_).mono ?_; (exact two_below _ _ _); rintro e w1 ⟨rfl, hb⟩; have HB1 := Lib.hid (below_step (two_below _ _ _) hb); have HY1 := Lib.hid ((HX.out).1.below hb); have HY2 := Lib.hid ((HX.out).2.below hb); clear HX hb; obtain ⟨y1, y2, y3⟩ := HY2.out.cells)
    | (with_reducible refine (HV2.out _ HB1.out).mono ?_; rintro e w2 ⟨rfl, hb⟩; have HB2 := Lib.hid (below_step HB1.out hb); have HZ1 := Lib.hid (HY1.out.below hb); have HZ2 := Lib.hid (HY2.out.below hb); clear hb y1 y2 y3 HY1 HY2 HB1; obtain ⟨y1, y2, y3⟩ := HZ1.out.cells; obtain ⟨z1, z2, z3⟩ := HZ2.out.cells))
    all_goals have HMA := Lib.hid (fun W => XRat.rational_minus.calls true b c _ _ _ W rfl)
    all_goals have HMB := Lib.hid (fun W => XRat.rational_minus.calls true b' c' _ _ _ W rfl)
    all_goals try (exfalso; have h_ := HNE.out; rw [‹b.toList = b'.toList›, ‹c.toList = c'.toList›] at h_; simp at h_; done)
    all_goals
      go_region_with
        ((first
          | (go_at_call 48; with_reducible refine (HMB.out _).mono ?_; rintro e w3 ⟨rfl, hb_⟩)
          | (go_at_call 48; with_reducible refine (HMA.out _).mono ?_; rintro e w4 ⟨rfl, hb_⟩)); have HZ3 := Lib.hid (HasR.below (HasR.later HZ1.out) hb_); have HZ4 := Lib.hid (HasR.below (HasR.later HZ2.out) hb_); have HB3 := Lib.hid (below_step (BK HB2.out) hb_); clear hb_ HZ1 HZ2 HB2 y1 y2 y3 z1 z2 z3; have HZ1 := HZ3; have HZ2 := HZ4; have HB2 := HB3; clear HZ3 HZ4 HB3; obtain ⟨y1, y2, y3⟩ := HZ1.out.cells; obtain ⟨z1, z2, z3⟩ := HZ2.out.cells; (try clear f1 f2 f3 g1 g2 g3); have f1 := blk_frozen HZ1.out 0; have f2 := blk_frozen HZ1.out 1; have f3 := blk_frozen HZ1.out 2; have g1 := blk_frozen HZ2.out 0; have g2 := blk_frozen HZ2.out 1; have g3 := blk_frozen HZ2.out 2)
    all_goals (go_wp2_with fail)
    all_goals go_meet
    all_goals exact swap_end b' c' b c HZ1.out HZ2.out HB2.out
  case rest =>
    have HM := Lib.hid hcut
    obtain ⟨y1, y2, y3⟩ := hcut.A.cells
    obtain ⟨z1, z2, z3⟩ := hcut.C.cells
    clear hcut HV1 HV2 HX
    go_upto_region 9 with fail
    go_cut [5, 6] (fun s5 s6 wx => ∃ P Q : Nat, s5 = .pointer (some ⟨P, 0, none⟩) ∧ s6 = .pointer (some ⟨Q, 0, none⟩) ∧ Cm3 w wx P Q b' c' b c)
    case first =>
      go_region_held3 (fun W' => W'.cell? ⟨w.heap.size, 1, none⟩ = some (.string b') ∧ W'.cell? ⟨w.heap.size, 2, none⟩ = some (.string c') ∧ W'.cell? ⟨w.heap.size + 1, 1, none⟩ = some (.string b) ∧ W'.cell? ⟨w.heap.size + 1, 2, none⟩ = some (.string c)) (go_keep) (fail)
      all_goals (go_wp2_with fail)
      all_goals go_meet
      all_goals first | exact ⟨_, _, rfl, rfl, arr_end _ _ _ _ HM.out.B⟩ | exact ⟨_, _, rfl, rfl, arr_end' _ _ _ _ HM.out.B⟩
    case rest =>
    obtain ⟨P, Q, rfl, rfl, hm⟩ := hcut
    have HS := Lib.hid (cml_start (neg_pos V2.out) (neg_pos V1.out) ((cmp_flip V1.out V2.out).trans HR.out) (cm_ne V1.out V2.out HNE.out HR.out) hm)
    clear hm HM y1 y2 y3 z1 z2 z3 hu
    have HDL := Lib.hid (fun (x y m r : ByteArray) (U : World) (hb : Below w.heap.size w U) (h : divS x y = (m, r, 0)) => natural_Div.calls x y m r 0 U (Laid.below HL.out hb) (congrArg some h))
    have HCL := Lib.hid (fun (x y : ByteArray) (v : Int) (U : World) (hb : Below w.heap.size w U) (h : cmpS x y = v) => natural_Compare.calls x y v U (Laid.below HL.out hb) (congrArg some h))
    clear HL HR HNE V1 V2
    go_wp2_with fail
    go_loopg [] (valS c' + valS c) (fun k wr => CmR w wr P Q k z)
    case atStart => exact HS.out
    case round =>
      clear HS
      obtain ⟨n1, d1, n2, d2, hl⟩ := hrel
      obtain ⟨m, r, n, s, x, hd1, hd2, hc, hcases⟩ := hl.facts
      have HM := Lib.hid hl.M
      have HD1 := Lib.hid hd1
      have HD2 := Lib.hid hd2
      have HCM := Lib.hid hc
      have hN := hl.M.N
      have hN' := Ne.symm hl.M.N
      clear hl hd1 hd2 hc
      obtain ⟨a0, a1⟩ := HM.out.A.cells; obtain ⟨b0, b1⟩ := HM.out.C.cells; have fa0 := blk_frozen HM.out.A 0; have fa1 := blk_frozen HM.out.A 1; have fb0 := blk_frozen HM.out.C 0; have fb1 := blk_frozen HM.out.C 1
      rcases hcases with ⟨rfl, rfl⟩ | ⟨rfl, rfl⟩ | ⟨rfl, h1, rfl⟩ | ⟨rfl, h1, h2, rfl⟩ | ⟨rfl, h1, h2, k', hk, hU⟩
      · go_wp2_with (first
        | (go_at_call 49; (first | (with_reducible refine (HDL.out n1 d1 m r _ (BK HM.out.B) HD1.out).mono ?_) | (with_reducible refine (HDL.out n2 d2 n s _ (BK HM.out.B) HD2.out).mono ?_)); rintro e w5 ⟨rfl, hb_⟩; have HM2 := Lib.hid ((Cm3.later HM.out).below hb_); clear hb_ HM a0 a1 b0 b1 fa0 fa1 fb0 fb1; have HM := HM2; clear HM2; obtain ⟨a0, a1⟩ := HM.out.A.cells; obtain ⟨b0, b1⟩ := HM.out.C.cells; have fa0 := blk_frozen HM.out.A 0; have fa1 := blk_frozen HM.out.A 1; have fb0 := blk_frozen HM.out.C 0; have fb1 := blk_frozen HM.out.C 1)
        | (go_at_call 50; (with_reducible refine (HCL.out m n _ _ (BK HM.out.B) HCM.out).mono ?_); rintro e w5 ⟨rfl, hb_⟩; have HM2 := Lib.hid ((Cm3.later HM.out).below hb_); clear hb_ HM a0 a1 b0 b1 fa0 fa1 fb0 fb1; have HM := HM2; clear HM2; obtain ⟨a0, a1⟩ := HM.out.A.cells; obtain ⟨b0, b1⟩ := HM.out.C.cells; have fa0 := blk_frozen HM.out.A 0; have fa1 := blk_frozen HM.out.A 1; have fb0 := blk_frozen HM.out.C 0; have fb1 := blk_frozen HM.out.C 1))
        go_ret
        exact ⟨rfl, HM.out.B⟩
      · go_wp2_with (first
        | (go_at_call 49; (first | (with_reducible refine (HDL.out n1 d1 m r _ (BK HM.out.B) HD1.out).mono ?_) | (with_reducible refine (HDL.out n2 d2 n s _ (BK HM.out.B) HD2.out).mono ?_)); rintro e w5 ⟨rfl, hb_⟩; have HM2 := Lib.hid ((Cm3.later HM.out).below hb_); clear hb_ HM a0 a1 b0 b1 fa0 fa1 fb0 fb1; have HM := HM2; clear HM2; obtain ⟨a0, a1⟩ := HM.out.A.cells; obtain ⟨b0, b1⟩ := HM.out.C.cells; have fa0 := blk_frozen HM.out.A 0; have fa1 := blk_frozen HM.out.A 1; have fb0 := blk_frozen HM.out.C 0; have fb1 := blk_frozen HM.out.C 1)
        | (go_at_call 50; (with_reducible refine (HCL.out m n _ _ (BK HM.out.B) HCM.out).mono ?_); rintro e w5 ⟨rfl, hb_⟩; have HM2 := Lib.hid ((Cm3.later HM.out).below hb_); clear hb_ HM a0 a1 b0 b1 fa0 fa1 fb0 fb1; have HM := HM2; clear HM2; obtain ⟨a0, a1⟩ := HM.out.A.cells; obtain ⟨b0, b1⟩ := HM.out.C.cells; have fa0 := blk_frozen HM.out.A 0; have fa1 := blk_frozen HM.out.A 1; have fb0 := blk_frozen HM.out.C 0; have fb1 := blk_frozen HM.out.C 1))
        go_ret
        exact ⟨rfl, HM.out.B⟩
      · go_wp2_with (first
        | (go_at_call 49; (first | (with_reducible refine (HDL.out n1 d1 m r _ (BK HM.out.B) HD1.out).mono ?_) | (with_reducible refine (HDL.out n2 d2 n s _ (BK HM.out.B) HD2.out).mono ?_)); rintro e w5 ⟨rfl, hb_⟩; have HM2 := Lib.hid ((Cm3.later HM.out).below hb_); clear hb_ HM a0 a1 b0 b1 fa0 fa1 fb0 fb1; have HM := HM2; clear HM2; obtain ⟨a0, a1⟩ := HM.out.A.cells; obtain ⟨b0, b1⟩ := HM.out.C.cells; have fa0 := blk_frozen HM.out.A 0; have fa1 := blk_frozen HM.out.A 1; have fb0 := blk_frozen HM.out.C 0; have fb1 := blk_frozen HM.out.C 1)
        | (go_at_call 50; (with_reducible refine (HCL.out m n _ _ (BK HM.out.B) HCM.out).mono ?_); rintro e w5 ⟨rfl, hb_⟩; have HM2 := Lib.hid ((Cm3.later HM.out).below hb_); clear hb_ HM a0 a1 b0 b1 fa0 fa1 fb0 fb1; have HM := HM2; clear HM2; obtain ⟨a0, a1⟩ := HM.out.A.cells; obtain ⟨b0, b1⟩ := HM.out.C.cells; have fa0 := blk_frozen HM.out.A 0; have fa1 := blk_frozen HM.out.A 1; have fb0 := blk_frozen HM.out.C 0; have fb1 := blk_frozen HM.out.C 1))
        go_ret
        exact ⟨rfl, HM.out.B⟩
      · go_wp2_with (first
        | (go_at_call 49; (first | (with_reducible refine (HDL.out n1 d1 m r _ (BK HM.out.B) HD1.out).mono ?_) | (with_reducible refine (HDL.out n2 d2 n s _ (BK HM.out.B) HD2.out).mono ?_)); rintro e w5 ⟨rfl, hb_⟩; have HM2 := Lib.hid ((Cm3.later HM.out).below hb_); clear hb_ HM a0 a1 b0 b1 fa0 fa1 fb0 fb1; have HM := HM2; clear HM2; obtain ⟨a0, a1⟩ := HM.out.A.cells; obtain ⟨b0, b1⟩ := HM.out.C.cells; have fa0 := blk_frozen HM.out.A 0; have fa1 := blk_frozen HM.out.A 1; have fb0 := blk_frozen HM.out.C 0; have fb1 := blk_frozen HM.out.C 1)
        | (go_at_call 50; (with_reducible refine (HCL.out m n _ _ (BK HM.out.B) HCM.out).mono ?_); rintro e w5 ⟨rfl, hb_⟩; have HM2 := Lib.hid ((Cm3.later HM.out).below hb_); clear hb_ HM a0 a1 b0 b1 fa0 fa1 fb0 fb1; have HM := HM2; clear HM2; obtain ⟨a0, a1⟩ := HM.out.A.cells; obtain ⟨b0, b1⟩ := HM.out.C.cells; have fa0 := blk_frozen HM.out.A 0; have fa1 := blk_frozen HM.out.A 1; have fb0 := blk_frozen HM.out.C 0; have fb1 := blk_frozen HM.out.C 1))
        go_ret
        exact ⟨rfl, HM.out.B⟩
      · have HU := Lib.hid hU
        have HK := Lib.hid hk
        clear hU hk
        go_wp2_with (first
        | (go_at_call 49; (first | (with_reducible refine (HDL.out n1 d1 m r _ (BK HM.out.B) HD1.out).mono ?_) | (with_reducible refine (HDL.out n2 d2 n s _ (BK HM.out.B) HD2.out).mono ?_)); rintro e w5 ⟨rfl, hb_⟩; have HM2 := Lib.hid ((Cm3.later HM.out).below hb_); clear hb_ HM a0 a1 b0 b1 fa0 fa1 fb0 fb1; have HM := HM2; clear HM2; obtain ⟨a0, a1⟩ := HM.out.A.cells; obtain ⟨b0, b1⟩ := HM.out.C.cells; have fa0 := blk_frozen HM.out.A 0; have fa1 := blk_frozen HM.out.A 1; have fb0 := blk_frozen HM.out.C 0; have fb1 := blk_frozen HM.out.C 1)
        | (go_at_call 50; (with_reducible refine (HCL.out m n _ _ (BK HM.out.B) HCM.out).mono ?_); rintro e w5 ⟨rfl, hb_⟩; have HM2 := Lib.hid ((Cm3.later HM.out).below hb_); clear hb_ HM a0 a1 b0 b1 fa0 fa1 fb0 fb1; have HM := HM2; clear HM2; obtain ⟨a0, a1⟩ := HM.out.A.cells; obtain ⟨b0, b1⟩ := HM.out.C.cells; have fa0 := blk_frozen HM.out.A 0; have fa1 := blk_frozen HM.out.A 1; have fb0 := blk_frozen HM.out.C 0; have fb1 := blk_frozen HM.out.C 1))
        go_roundg k'
        case measure => exact HK.out
        case rel => exact ⟨_, _, _, _, HU.out _ (Cm3.later (HM.out.put _ _ _ _))⟩
set_option maxHeartbeats 4000000 in
set_option maxRecDepth 100000 in
theorem cmp_bad1 (a : Bool) (b c : ByteArray) (a' : Bool) (b' c' : ByteArray) (w : World) (hL : Laid w) (h1 : validR (a, b, c) = false) :
    Calls Tryz.prog 23 #[.agg #[.bool a, .string b, .string c], .agg #[.bool a', .string b', .string c']] w fun e w' => e = .returned (.int .i64 0) ∧ Below w.heap.size w w' := by
  have HV1 := Lib.hid (fun W (hb : Below w.heap.size w W) => rational_Valid.calls a b c false W (Laid.below hL hb) (by unfold rational_Valid.f; rw [h1]))
  clear hL h1
  have hu := Tryz.underlying24
  go_enter Tryz.func23, Tryz.ntmps23
  go_wp2_with (go_at_call 21; (with_reducible refine (HV1.out _ ?_).mono ?_); (exact two_below _ _ _); rintro e w1 ⟨rfl, hb⟩; have HB1 := Lib.hid (below_step (two_below _ _ _) hb); clear hb)
  go_ret
  exact ⟨rfl, HB1.out⟩
set_option maxHeartbeats 4000000 in
set_option maxRecDepth 100000 in
theorem cmp_bad2 (a : Bool) (b c : ByteArray) (a' : Bool) (b' c' : ByteArray) (w : World) (hL : Laid w) (h1 : validR (a, b, c) = true) (h2 : validR (a', b', c') = false) :
    Calls Tryz.prog 23 #[.agg #[.bool a, .string b, .string c], .agg #[.bool a', .string b', .string c']] w fun e w' => e = .returned (.int .i64 0) ∧ Below w.heap.size w w' := by
  have HV1 := Lib.hid (fun W (hb : Below w.heap.size w W) => rational_Valid.calls a b c true W (Laid.below hL hb) (by unfold rational_Valid.f; rw [h1]))
  have HV2 := Lib.hid (fun W (hb : Below w.heap.size w W) => rational_Valid.calls a' b' c' false W (Laid.below hL hb) (by unfold rational_Valid.f; rw [h2]))
  have HX := Lib.hid (boxes2 w a a' b c b' c')
  clear hL h1 h2
  have hu := Tryz.underlying24
  go_enter Tryz.func23, Tryz.ntmps23
  go_wp2_with (go_at_call 21; first
    | (with_reducible refine (HV1.out _ ?_).mono ?_; (exact two_below _ _ _); rintro e w1 ⟨rfl, hb⟩; have HB1 := Lib.hid (below_step (two_below _ _ _) hb); have HY2 := Lib.hid ((HX.out).2.below hb); clear HX hb; obtain ⟨y1, y2, y3⟩ := HY2.out.cells)
    | (with_reducible refine (HV2.out _ HB1.out).mono ?_; rintro e w2 ⟨rfl, hb⟩; have HB2 := Lib.hid (below_step HB1.out hb); clear hb y1 y2 y3 HY2 HB1))
  go_ret
  exact ⟨rfl, HB2.out⟩
set_option maxHeartbeats 4000000 in
set_option maxRecDepth 100000 in
theorem cmp_eq (a : Bool) (b c : ByteArray) (w : World) (hL : Laid w) (h1 : validR (a, b, c) = true) :
    Calls Tryz.prog 23 #[.agg #[.bool a, .string b, .string c], .agg #[.bool a, .string b, .string c]] w fun e w' => e = .returned (.int .i64 0) ∧ Below w.heap.size w w' := by
  have HV1 := Lib.hid (fun W (hb : Below w.heap.size w W) => rational_Valid.calls a b c true W (Laid.below hL hb) (by unfold rational_Valid.f; rw [h1]))
  have HX := Lib.hid (boxes2 w a a b c b c)
  clear hL h1
  have hu := Tryz.underlying24
  go_enter Tryz.func23, Tryz.ntmps23
  go_wp2_with (go_at_call 21; first
    | (with_reducible refine (HV1.out _ HB1.out).mono ?_; rintro e w2 ⟨rfl, hb⟩; have HB2 := Lib.hid (below_step HB1.out hb); have HZ1 := Lib.hid (HY1.out.below hb); have HZ2 := Lib.hid (HY2.out.below hb); clear hb y1 y2 y3 HY1 HY2 HB1; obtain ⟨y1, y2, y3⟩ := HZ1.out.cells; obtain ⟨z1, z2, z3⟩ := HZ2.out.cells)
    | (with_reducible refine (HV1.out _ ?_).mono ?_; (exact two_below _ _ _); rintro e w1 ⟨rfl, hb⟩; have HB1 := Lib.hid (below_step (two_below _ _ _) hb); have HY1 := Lib.hid ((HX.out).1.below hb); have HY2 := Lib.hid ((HX.out).2.below hb); clear HX hb; obtain ⟨y1, y2, y3⟩ := HY2.out.cells))
  go_ret
  exact ⟨rfl, HB2.out⟩
def rational_Compare.f (a : Bool) (b c : ByteArray) (a' : Bool) (b' c' : ByteArray) : Option Int := some (cmpR (a, b, c) (a', b', c'))
theorem rational_Compare.calls (a0_0 : Bool) (a0_1 : ByteArray) (a0_2 : ByteArray) (a1_0 : Bool) (a1_1 : ByteArray) (a1_2 : ByteArray) (r : Int) (w : World) (hL : Laid w) (h : rational_Compare.f a0_0 a0_1 a0_2 a1_0 a1_1 a1_2 = some r) :
    Calls Tryz.prog 23 #[.agg #[.bool a0_0, .string a0_1, .string a0_2], .agg #[.bool a1_0, .string a1_1, .string a1_2]] w fun e w' => e = .returned (.int .i64 r) ∧ Below w.heap.size w w' := by
  have h' : cmpR (a0_0, a0_1, a0_2) (a1_0, a1_1, a1_2) = r := Option.some.inj h
  clear h
  cases h1 : validR (a0_0, a0_1, a0_2) with
  | false =>
    rw [cmp_bad (fun x => by rw [h1] at x; exact absurd x.1 (by simp))] at h'
    subst h'
    exact cmp_bad1 a0_0 a0_1 a0_2 a1_0 a1_1 a1_2 w hL h1
  | true =>
    cases h2 : validR (a1_0, a1_1, a1_2) with
    | false =>
      rw [cmp_bad (fun x => by rw [h2] at x; exact absurd x.2 (by simp))] at h'
      subst h'
      exact cmp_bad2 a0_0 a0_1 a0_2 a1_0 a1_1 a1_2 w hL h1 h2
    | true =>
      have V1 := validR_iff.1 h1
      have V2 := validR_iff.1 h2
      cases a0_0 with
      | false =>
        cases a1_0 with
        | false =>
          cases hs : (a0_1.toList == a1_1.toList && a0_2.toList == a1_2.toList) with
          | false => exact cmp_pp a0_1 a0_2 a1_1 a1_2 w hL h1 h2 hs r h'
          | true =>
            rw [Bool.and_eq_true, beq_iff_eq, beq_iff_eq] at hs
            obtain rfl := list_ext hs.1
            obtain rfl := list_ext hs.2
            rw [(cmp_same V1 V1).2 rfl] at h'
            subst h'
            exact cmp_eq false a0_1 a0_2 w hL h1
        | true =>
          rw [(cmp_signs V1 V2).2 rfl rfl] at h'
          subst h'
          exact cmp_pm a0_1 a0_2 a1_1 a1_2 w hL h1 h2
      | true =>
        cases a1_0 with
        | false =>
          rw [(cmp_signs V1 V2).1 rfl rfl] at h'
          subst h'
          exact cmp_mp a0_1 a0_2 a1_1 a1_2 w hL h1 h2
        | true =>
          cases hs : (a0_1.toList == a1_1.toList && a0_2.toList == a1_2.toList) with
          | false => exact cmp_mm a0_1 a0_2 a1_1 a1_2 w hL h1 h2 hs r h'
          | true =>
            rw [Bool.and_eq_true, beq_iff_eq, beq_iff_eq] at hs
            obtain rfl := list_ext hs.1
            obtain rfl := list_ext hs.2
            rw [(cmp_same V1 V1).2 rfl] at h'
            subst h'
            exact cmp_eq true a0_1 a0_2 w hL h1
end Go.Proofs.YthpomhboogcigaaGreatDoor
end
section -- RatFns3
namespace Go.Proofs.YthpomhboogcigaaGreatDoor
open Go.RowKit Go.Proofs.YthpomhboogcigaaGreatDoorW.PrintWords Go.Proofs.YthpomhboogcigaaGreatDoorW.PrintMore Go.Proofs.YthpomhboogcigaaGreatDoorW.PrintLast
set_option linter.unusedVariables false
set_option linter.unusedSimpArgs false
def rational_Sub.f (a : Bool) (b c : ByteArray) (a' : Bool) (b' c' : ByteArray) : Option R4 := some (flat (subR (a, b, c) (a', b', c')))
theorem sub_fR (a : Bool) (b c : ByteArray) (a' : Bool) (b' c' : ByteArray) : XSub.rational_Sub.f a b c a' b' c' = some (flat (subR (a, b, c) (a', b', c'))) := by
  unfold XSub.rational_Sub.f rational_Valid.f rational_minus.f rational_Add.f subR
  simp only [Option.bind_some]
  cases hv : validR (a', b', c') with
  | false => rfl
  | true => rw [if_pos rfl, if_pos rfl]
theorem rational_Sub.calls (a0_0 : Bool) (a0_1 : ByteArray) (a0_2 : ByteArray) (a1_0 : Bool) (a1_1 : ByteArray) (a1_2 : ByteArray) (r1 : Bool) (r2 : ByteArray) (r3 : ByteArray) (r4 : Int) (w : World) (hL : Laid w) (h : rational_Sub.f a0_0 a0_1 a0_2 a1_0 a1_1 a1_2 = some (r1, r2, r3, r4)) :
    Calls Tryz.prog 27 #[.agg #[.bool a0_0, .string a0_1, .string a0_2], .agg #[.bool a1_0, .string a1_1, .string a1_2]] w fun e w' => e = .returned (.tuple #[.agg #[.bool r1, .string r2, .string r3], .int .i64 r4]) ∧ Below w.heap.size w w' :=
  XSub.rational_Sub.calls a0_0 a0_1 a0_2 a1_0 a1_1 a1_2 r1 r2 r3 r4 w hL (by rw [sub_fR]; exact h)
def rational_Div.f (a : Bool) (b c : ByteArray) (a' : Bool) (b' c' : ByteArray) : Option R4 := some (flat (divR (a, b, c) (a', b', c')))
theorem div_fR (a : Bool) (b c : ByteArray) (a' : Bool) (b' c' : ByteArray) : XSub.rational_Div.f 1 a b c a' b' c' = some (flat (divR (a, b, c) (a', b', c'))) := by
  unfold XSub.rational_Div.f rational_Valid.f divR
  simp only [Option.bind_some, XSub.rational_Div.j0, rational_Mul.f]
  cases hv : validR (a, b, c) with
  | false => rfl
  | true =>
    cases hv' : validR (a', b', c') with
    | false => rfl
    | true =>
      rw [if_pos rfl, if_neg (by simp), if_pos (show (true && true) = true from rfl)]
      by_cases e : b' = decS 0
      · rw [if_pos (eq0_iff.2 e), if_pos e]; rfl
      · rw [if_neg (fun x => e (eq0_iff.1 x)), if_neg e]
theorem rational_Div.calls (a0_0 : Bool) (a0_1 : ByteArray) (a0_2 : ByteArray) (a1_0 : Bool) (a1_1 : ByteArray) (a1_2 : ByteArray) (r1 : Bool) (r2 : ByteArray) (r3 : ByteArray) (r4 : Int) (w : World) (hL : Laid w) (h : rational_Div.f a0_0 a0_1 a0_2 a1_0 a1_1 a1_2 = some (r1, r2, r3, r4)) :
    Calls Tryz.prog 31 #[.agg #[.bool a0_0, .string a0_1, .string a0_2], .agg #[.bool a1_0, .string a1_1, .string a1_2]] w fun e w' => e = .returned (.tuple #[.agg #[.bool r1, .string r2, .string r3], .int .i64 r4]) ∧ Below w.heap.size w w' :=
  XSub.rational_Div.calls 1 a0_0 a0_1 a0_2 a1_0 a1_1 a1_2 r1 r2 r3 r4 w hL (by rw [div_fR]; exact h)
def rational_Parse.f (t : ByteArray) : Option R4 := if t.size < 4294967281 then some (flat (parseR t)) else none
theorem rest_len (l : List UInt8) : (restL l).length ≤ l.length := by
  unfold restL
  split
  · rw [List.length_tail]; omega
  · exact Nat.le_refl _
theorem parse_fR (t : ByteArray) (ht : t.size < 4294967281) : XSub.rational_Parse.f t = some (flat (parseR t)) := by
  have hrest : (baL (restL t.data.toList)).size < 4294967281 := Nat.lt_of_le_of_lt (show (baL (restL t.data.toList)).size ≤ t.size by
    rw [← size_list, baL_list]; exact rest_len _) ht
  have hj := text_partsR t.data.toList
  unfold XSub.rational_Parse.f strings_CutPrefix.f strings_Cut.f rational_Text.f
  simp only [if_true, Option.bind_some, baL_list, true_and, if_pos hrest]
  have key : ∀ a : R3, a = partsR t.data.toList → (if (textR a).2 = 0 then (if (textR a).1.toList = t.toList then (some (a.1, a.2.1, a.2.2, (0 : Int))) else (some (false, (⟨#[]⟩ : ByteArray), (⟨#[]⟩ : ByteArray), 5))) else (some (false, (⟨#[]⟩ : ByteArray), (⟨#[]⟩ : ByteArray), 5))) = some (flat (parseR t)) := by
    intro a ha
    unfold parseR
    rw [← ha]
    rw [← ha] at hj
    cases hv : validR a with
    | false =>
      have e : textR a = (noS, 1) := by unfold textR; rw [hv]; rfl
      rw [e, if_neg (by decide)]; rfl
    | true =>
      rw [textR_ok (validR_iff.1 hv), if_pos rfl]
      have e : (baL (textL a)).toList = t.toList ↔ textL a = t.data.toList := by
        rw [Lib.toList_data, Lib.toList_data, baL_list]
      cases hB : partsB t.data.toList with
      | true =>
        rw [if_neg (fun h => by rw [hj.1 (e.1 h)] at hB; cases hB)]; rfl
      | false =>
        rw [if_pos (e.2 (hj.2 hB))]; rfl
  cases hc : (cut1 (restL t.data.toList)).2.2 with
  | true =>
    rw [if_pos rfl]
    exact key (t.data.toList.head? == some 45, baL (cut1 (restL t.data.toList)).1, baL (cut1 (restL t.data.toList)).2.1) (by unfold partsR; rw [hc]; rfl)
  | false =>
    rw [if_neg (by simp)]
    exact key (t.data.toList.head? == some 45, baL (cut1 (restL t.data.toList)).1, ⟨#[49]⟩) (by unfold partsR; rw [hc]; rfl)
theorem rational_Parse.calls (a0 : ByteArray) (r1 : Bool) (r2 : ByteArray) (r3 : ByteArray) (r4 : Int) (w : World) (hL : Laid w) (h : rational_Parse.f a0 = some (r1, r2, r3, r4)) :
    Calls Tryz.prog 19 #[.string a0] w fun e w' => e = .returned (.tuple #[.agg #[.bool r1, .string r2, .string r3], .int .i64 r4]) ∧ Below w.heap.size w w' := by
  unfold rational_Parse.f at h
  split at h
  case isFalse => cases h
  rename_i hs
  exact XSub.rational_Parse.calls a0 r1 r2 r3 r4 w hL (by rw [parse_fR a0 hs]; exact h)
end Go.Proofs.YthpomhboogcigaaGreatDoor
end
section -- XRt0
/- Written by a program of this session (xprint.sh), out of the translation: Lean functions that tell what Go functions of the program tell, and the proofs that they do, over the given callees; no condition but what each theorem states. -/
namespace Go.Proofs.YthpomhboogcigaaGreatDoor.XRt
open Go.RowKit Go.Proofs.YthpomhboogcigaaGreatDoorW.PrintWords Go.Proofs.YthpomhboogcigaaGreatDoorW.PrintLast Go.Proofs.YthpomhboogcigaaGreatDoorW.PrintMore
attribute [local go_sem] max2_int min2_int max_two min_two max_three min_three max_four min_four   -- for this text's walks alone
set_option linter.unusedVariables false
set_option linter.unusedSimpArgs false
def errW : Option Int → Value
  | none => .nilIface
  | some c => .iface 0 (.int .i64 c)
theorem errW_none : errW none = .nilIface := rfl
theorem errW_some (c : Int) : errW (some c) = .iface 0 (.int .i64 c) := rfl
structure S24 where
  f0 : Bool
  f1 : ByteArray
  f2 : ByteArray
def z24 : S24 := ⟨false, (⟨#[]⟩ : ByteArray), (⟨#[]⟩ : ByteArray)⟩
def k24 : Kd S24 := Kd.iso (Kd.pair Kd.bool (Kd.pair Kd.string Kd.string)) (fun x : S24 => (x.f0, x.f1, x.f2))
theorem k24_open {w : World} {x : S24} {cs : List Value} (h : k24.K w x cs) : cs = [.bool x.f0, .string x.f1, .string x.f2] := by
  obtain ⟨_, _, rfl, rfl, ⟨_, _, rfl, rfl, rfl⟩⟩ := h
  exact rfl
theorem k24_mkM (w : World) (base : Nat) (ok : Nat → Prop) (x : S24)  : k24.M w base ok x [.bool x.f0, .string x.f1, .string x.f2] := ⟨[.bool x.f0], [.string x.f1, .string x.f2], rfl, rfl, ⟨[.string x.f1], [.string x.f2], rfl, rfl, rfl⟩⟩
def rd_T24 (xs : List S24) (i : Int) : S24 := xs.getD i.toNat z24
theorem at_T24 {w : World} {A : Option Addr} {n : Nat} {xs : List S24} (h : Kd.C k24 w A n xs) (i : Int) (h0 : 0 ≤ i) (h1 : i < n) : ∃ ad , A = some ad ∧ w.cell? (ad.add (i.toNat * 3)) = some (.bool (rd_T24 xs i).f0) ∧ w.cell? ⟨(ad.add (i.toNat * 3)).block, (ad.add (i.toNat * 3)).off + 1, none⟩ = some (.string (rd_T24 xs i).f1) ∧ w.cell? ⟨(ad.add (i.toNat * 3)).block, (ad.add (i.toNat * 3)).off + 2, none⟩ = some (.string (rd_T24 xs i).f2) := by
  obtain ⟨ad, c, e, _, hK, hc0⟩ := Kd.C_get h z24 i h0 h1
  have hc : ∀ j u, c[j]? = some u → w.cell? (ad.add (i.toNat * 3 + j)) = some u := hc0
  obtain rfl := k24_open hK
  exact ⟨ad, e, hc 0 _ rfl, by rw [← add_field _ _ 1 (by omega)]; exact hc 1 _ rfl, by rw [← add_field _ _ 2 (by omega)]; exact hc 2 _ rfl⟩
end Go.Proofs.YthpomhboogcigaaGreatDoor.XRt
end
section -- XRt1
/- Written by a program of this session (xprint.sh), out of the translation: Lean functions that tell what Go functions of the program tell, and the proofs that they do, over the given callees; no condition but what each theorem states. -/
namespace Go.Proofs.YthpomhboogcigaaGreatDoor.XRt
open Go.RowKit Go.Proofs.YthpomhboogcigaaGreatDoorW.PrintWords Go.Proofs.YthpomhboogcigaaGreatDoorW.PrintLast Go.Proofs.YthpomhboogcigaaGreatDoorW.PrintMore
attribute [local go_sem] max2_int min2_int max_two min_two max_three min_three max_four min_four   -- for this text's walks alone
set_option linter.unusedVariables false
set_option linter.unusedSimpArgs false
def observatorylaw04_rat.f (a0 : Bool) (a1 : ByteArray) (a2 : ByteArray) : Option (Bool × ByteArray × ByteArray) := some (a0, a1, a2)
set_option maxHeartbeats 8000000 in
set_option maxRecDepth 100000 in
theorem observatorylaw04_rat.calls (a0 : Bool) (a1 : ByteArray) (a2 : ByteArray) (r1 : Bool) (r2 : ByteArray) (r3 : ByteArray) (w : World) (h : observatorylaw04_rat.f a0 a1 a2 = some (r1, r2, r3)) :
    Calls Tryz.prog 35 #[.bool a0, .string a1, .string a2] w fun e w' => e = .returned (.agg #[.bool r1, .string r2, .string r3]) ∧ Below w.heap.size w w' := by
  have hu24 := Tryz.underlying24
  have HB := Aside0.mk (Below.refl w.heap.size w)
  have H : (some (a0, a1, a2)) = some (r1, r2, r3) := h
  clear h
  simp only [Option.some.injEq, Prod.mk.injEq] at H
  obtain ⟨rfl, rfl, rfl⟩ := H
  go_enter Tryz.func35, Tryz.ntmps35
  go_wp2_with (first | ((with_reducible refine gate_dst (N := 6) rfl ?_); refine box_event ?hg (N := 6) ?hd (cs := #[.bool false, .string (⟨#[]⟩ : ByteArray), .string (⟨#[]⟩ : ByteArray)]) (t := 24) ?hr ?_; (case hd => rfl); (case hg => rfl); (case hr => first | (go_simp; done) | (go_simp; rfl)); intro gb101 hg w4 hbox hb; have n0_ := Aside0.mk (below_step (by repeat (first | (with_reducible first | exact HB.out | apply below_alloc | apply pw_below_drewN | apply below_drew1) | exact HB.out)) hb); have n1_ := Aside0.mk (hbox); have n2_ := Aside0.mk ((by rw [hg]; exact (below_size (by repeat (first | (with_reducible first | exact HB.out | apply below_alloc | apply pw_below_drewN | apply below_drew1) | exact HB.out))) : w.heap.size ≤ gb101)); have n3_ := Aside0.mk ((by rw [hg]; exact (below_size (by repeat (first | (with_reducible first | exact HB.out | apply below_alloc | apply pw_below_drewN | apply below_drew1) | exact HB.out))) : w.heap.size ≤ gb101)); clear HB; have HB := n0_; have BK101 := n1_; have GW101 := n2_; have GE101 := n3_; clear n0_ n1_ n2_ n3_; clear hb hbox hg; have hcz5_0 : w4.cell? ⟨gb101, 0, none⟩ = some (.bool false) := (blk_cell BK101.out 0).trans rfl; have hcz5_1 : w4.cell? ⟨gb101, 1, none⟩ = some (.string (⟨#[]⟩ : ByteArray)) := (blk_cell BK101.out 1).trans rfl; have hcz5_2 : w4.cell? ⟨gb101, 2, none⟩ = some (.string (⟨#[]⟩ : ByteArray)) := (blk_cell BK101.out 2).trans rfl; have hfz5_0 := blk_frozen BK101.out 0; have hfz5_1 := blk_frozen BK101.out 1; have hfz5_2 := blk_frozen BK101.out 2))
  refine bodyPost_ret (results_cell_row rfl _ _ gb101 24 #[.bool a0, .string a1, .string a2] (0, 0) _ rfl (by (with_reducible repeat (first | refine blk_drewN ?_ _ | refine blk_drew ?_ | refine blk_alloc ?_ _)); refine blk_put (cs := #[.bool a0, .string a1, .string (⟨#[]⟩ : ByteArray)]) ?_ 2 _ rfl; (with_reducible repeat (first | refine blk_drewN ?_ _ | refine blk_drew ?_ | refine blk_alloc ?_ _)); refine blk_put (cs := #[.bool a0, .string (⟨#[]⟩ : ByteArray), .string (⟨#[]⟩ : ByteArray)]) ?_ 1 _ rfl; (with_reducible repeat (first | refine blk_drewN ?_ _ | refine blk_drew ?_ | refine blk_alloc ?_ _)); refine blk_put (cs := #[.bool false, .string (⟨#[]⟩ : ByteArray), .string (⟨#[]⟩ : ByteArray)]) ?_ 0 _ rfl; (with_reducible repeat (first | refine blk_drewN ?_ _ | refine blk_drew ?_ | refine blk_alloc ?_ _)); exact BK101.out) Tryz.underlying24 rfl (by kernel_rfl)) rfl ?_
  exact ⟨by first | rfl | (simp [errW_none, errW_some] <;> rfl) | (simp [*, errW_none, errW_some] <;> rfl), by repeat (first | (with_reducible first | exact HB.out | apply below_alloc | apply pw_below_drewN | apply below_drew1 | refine below_set ?_ GE101.out) | exact HB.out)⟩
def observatoryref04_Few.l0 : Nat → Int → List (S24) → Int → Option (Bool)
  | 0, _, _, _ => none
  | k + 1, x0, x1, x5 => if x5 < (x1.length : Int) then (if 0 ≤ x5 then (if (((rd_T24 x1 x5).f1).size : Int) > x0 then (some false) else (if (((rd_T24 x1 x5).f2).size : Int) > x0 then (some false) else (observatoryref04_Few.l0 k x0 x1 (wrap64 (x5 + 1))))) else (none)) else (some true)
def observatoryref04_Few.f (k : Nat) (a0 : Int) (l1 : List (S24)) : Option (Bool) := observatoryref04_Few.l0 k a0 l1 0
set_option maxHeartbeats 8000000 in
set_option maxRecDepth 100000 in
theorem observatoryref04_Few.calls (k : Nat) (a0 : Int) (A1 : Option Addr) (c1 : Nat) (l1 : List (S24)) (r : Bool) (w : World) (hr1 : Kd.C k24 w A1 l1.length l1) (hc1 : l1.length ≤ c1) (h : observatoryref04_Few.f k a0 l1 = some r) :
    Calls Tryz.prog 38 #[.int .i64 a0, .slice A1 l1.length c1] w fun e w' => e = .returned (.bool r) ∧ Drawn0 w w' := by
  have HR1 := Aside0.mk hr1
  have HC1 := Aside0.mk hc1
  clear hr1 hc1
  have H : (observatoryref04_Few.l0 k a0 l1 0) = some r := h
  clear h
  have H' := Aside0.mk H
  clear H
  go_enter Tryz.func38, Tryz.ntmps38
  go_wp2
  go_loopg [5] k (fun kq v5 w' => ∃ (x5_1 : Int), v5 = .int .i64 x5_1 ∧ Aside0 (observatoryref04_Few.l0 kq a0 l1 x5_1 = some r) ∧ Aside0 (kq ≤ k) ∧ Drawn0 w w')
  case atStart => exact ⟨(0), (by first | rfl | (simp; done) | (simp [*]; done)), H', ⟨Nat.le_refl _⟩, by repeat (first | exact Drawn0.refl _ | apply Drawn0.step)⟩
  case round =>
    clear H'
    try clear c1
    try clear p2
    obtain ⟨x5_1, rfl, HA, HK1, ⟨m1, rfl⟩⟩ := hrel
    cases gk with
    | zero => exact absurd HA.out (by simp [observatoryref04_Few.l0])
    | succ k1 =>
      have H := HA.out
      clear HA
      simp only [observatoryref04_Few.l0] at H
      by_cases c3 : x5_1 < (l1.length : Int)
      · rw [if_pos c3] at H
        have c3b0 : decide (x5_1 < (l1.length : Int)) = true := decide_eq_true c3
        clear c3
        by_cases c4 : 0 ≤ x5_1
        · rw [if_pos c4] at H
          have c4b0 : decide (0 ≤ x5_1) = true := decide_eq_true c4
          clear c4
          by_cases c5 : (((rd_T24 l1 x5_1).f1).size : Int) > a0
          · rw [if_pos c5] at H
            have c5b0 : decide (a0 < (((rd_T24 l1 x5_1).f1).size : Int)) = true := decide_eq_true c5
            clear c5
            obtain rfl := Option.some.inj H
            have p102 : 0 ≤ (x5_1 : Int) := of_decide_eq_true (by first | (with_reducible assumption) | assumption)
            have q102 : x5_1 < (l1.length : Int) := of_decide_eq_true (by first | (with_reducible assumption) | assumption)
            obtain ⟨ad102, e102, hx102_0, hx102_1, hx102_2⟩ := at_T24 HR1.out x5_1 p102 q102
            cases e102
            replace p102 := eq_true p102
            replace q102 := eq_true q102
            go_wp2
            go_ret
            exact ⟨by first | rfl | (simp; done) | (simp [*]; done), by repeat (first | exact Drawn0.refl _ | apply Drawn0.step)⟩
          · rw [if_neg c5] at H
            have c5b0 : decide (a0 < (((rd_T24 l1 x5_1).f1).size : Int)) = false := decide_eq_false c5
            clear c5
            by_cases c6 : (((rd_T24 l1 x5_1).f2).size : Int) > a0
            · rw [if_pos c6] at H
              have c6b0 : decide (a0 < (((rd_T24 l1 x5_1).f2).size : Int)) = true := decide_eq_true c6
              clear c6
              obtain rfl := Option.some.inj H
              have p102 : 0 ≤ (x5_1 : Int) := of_decide_eq_true (by first | (with_reducible assumption) | assumption)
              have q102 : x5_1 < (l1.length : Int) := of_decide_eq_true (by first | (with_reducible assumption) | assumption)
              obtain ⟨ad102, e102, hx102_0, hx102_1, hx102_2⟩ := at_T24 HR1.out x5_1 p102 q102
              cases e102
              replace p102 := eq_true p102
              replace q102 := eq_true q102
              have p103 : 0 ≤ (x5_1 : Int) := of_decide_eq_true (by first | (with_reducible assumption) | assumption)
              have q103 : x5_1 < (l1.length : Int) := of_decide_eq_true (by first | (with_reducible assumption) | assumption)
              obtain ⟨ad103, e103, hx103_0, hx103_1, hx103_2⟩ := at_T24 HR1.out x5_1 p103 q103
              obtain rfl : ad102 = ad103 := (by injection e103)
              replace p103 := eq_true p103
              replace q103 := eq_true q103
              go_wp2
              go_ret
              exact ⟨by first | rfl | (simp; done) | (simp [*]; done), by repeat (first | exact Drawn0.refl _ | apply Drawn0.step)⟩
            · rw [if_neg c6] at H
              have c6b0 : decide (a0 < (((rd_T24 l1 x5_1).f2).size : Int)) = false := decide_eq_false c6
              clear c6
              have H' := Aside0.mk H
              clear H
              have p102 : 0 ≤ (x5_1 : Int) := of_decide_eq_true (by first | (with_reducible assumption) | assumption)
              have q102 : x5_1 < (l1.length : Int) := of_decide_eq_true (by first | (with_reducible assumption) | assumption)
              obtain ⟨ad102, e102, hx102_0, hx102_1, hx102_2⟩ := at_T24 HR1.out x5_1 p102 q102
              cases e102
              replace p102 := eq_true p102
              replace q102 := eq_true q102
              have p103 : 0 ≤ (x5_1 : Int) := of_decide_eq_true (by first | (with_reducible assumption) | assumption)
              have q103 : x5_1 < (l1.length : Int) := of_decide_eq_true (by first | (with_reducible assumption) | assumption)
              obtain ⟨ad103, e103, hx103_0, hx103_1, hx103_2⟩ := at_T24 HR1.out x5_1 p103 q103
              obtain rfl : ad102 = ad103 := (by injection e103)
              replace p103 := eq_true p103
              replace q103 := eq_true q103
              go_wp2
              go_roundg k1
              case measure => have := HK1.out; omega
              case rel => exact ⟨(wrap64 (x5_1 + 1)), (by first | rfl | (simp; done) | (simp [*]; done)), H', ⟨by have := HK1.out; omega⟩, by repeat (first | exact Drawn0.refl _ | apply Drawn0.step)⟩
        · rw [if_neg c4] at H
          exact absurd H (by simp)
      · rw [if_neg c3] at H
        have c3b0 : decide (x5_1 < (l1.length : Int)) = false := decide_eq_false c3
        clear c3
        obtain rfl := Option.some.inj H
        go_wp2
        go_ret
        exact ⟨by first | rfl | (simp; done) | (simp [*]; done), by repeat (first | exact Drawn0.refl _ | apply Drawn0.step)⟩
def observatorylaw04_few.f (k : Nat) (l0 : List (S24)) : Option (Bool) := (observatoryref04_Few.f k 40 l0).bind fun t104 => (some t104)
set_option maxHeartbeats 8000000 in
set_option maxRecDepth 100000 in
theorem observatorylaw04_few.calls (k : Nat) (A0 : Option Addr) (c0 : Nat) (l0 : List (S24)) (r : Bool) (w : World) (hr0 : Kd.C k24 w A0 l0.length l0) (hc0 : l0.length ≤ c0) (h : observatorylaw04_few.f k l0 = some r) :
    Calls Tryz.prog 12 #[.slice A0 l0.length c0] w fun e w' => e = .returned (.bool r) ∧ Drawn0 w w' := by
  have HR0 := Aside0.mk hr0
  have HC0 := Aside0.mk hc0
  clear hr0 hc0
  have H : ((observatoryref04_Few.f k 40 l0).bind fun t104 => (some t104)) = some r := h
  clear h
  replace H := Option.bind_eq_some_iff.mp H
  obtain ⟨t104, A20, H⟩ := H
  replace H : (some t104) = some r := H
  have A2 := Aside0.mk A20
  clear A20
  obtain rfl := Option.some.inj H
  go_enter Tryz.func12, Tryz.ntmps12
  go_wp2_with (first | ((with_reducible refine gate_callee (f := 38) rfl ?_); refine goesL_ (some 4) rfl rfl Tryz.func38 (by kernel_rfl) rfl #[.int .i64 40, .slice A0 l0.length c0] rfl (by (try simp only [List.map_toArray, List.map_cons, List.map_nil]); first | done | rfl | (simp only [List.length_drop, List.length_take]; rfl)) ?_; (with_reducible refine (observatoryref04_Few.calls k 40 _ _ l0 t104 _ ?side1 ?side2 A2.out).mono ?_); (case side1 => repeat (first | exact HR0.out | (with_reducible refine Kd.C_alloc ?_ _) | (with_reducible refine Kd.C_drewN ?_ _) | (with_reducible refine Kd.C_drew ?_))); (case side2 => exact HC0.out); rintro e w' ⟨rfl, ⟨nd, rfl⟩⟩; refine ⟨_, rfl, ?_⟩))
  go_ret
  exact ⟨by first | rfl | (simp; done) | (simp [*]; done), by repeat (first | exact Drawn0.refl _ | apply Drawn0.step)⟩
end Go.Proofs.YthpomhboogcigaaGreatDoor.XRt
end
section -- RatHead
namespace Go.Proofs.YthpomhboogcigaaGreatDoor
open Go.RowKit Go.Proofs.YthpomhboogcigaaGreatDoorW.PrintWords Go.Proofs.YthpomhboogcigaaGreatDoorW.PrintMore Go.Proofs.YthpomhboogcigaaGreatDoorW.PrintLast
set_option linter.unusedVariables false
set_option linter.unusedSimpArgs false
/-- Boxes of rational numbers, each with what it holds. -/
structure HBx (W : World) (l : List (Nat × R3)) : Prop where
  all : ∀ p ∈ l, HasR W p.1 p.2.1 p.2.2.1 p.2.2.2
  ne : l.Pairwise (fun p q => p.1 ≠ q.1)
theorem HBx.below {W U : World} {l : List (Nat × R3)} (h : HBx W l) (hb : Below W.heap.size W U) : HBx U l := ⟨fun p hp => (h.all p hp).below hb, h.ne⟩
theorem HBx.later {W U : World} {l : List (Nat × R3)} [q : Later W U] (h : HBx W l) : HBx U l := h.below q.below
theorem HBx.nil (W : World) : HBx W [] := ⟨fun _ h => (by cases h), List.Pairwise.nil⟩
theorem HBx.get {W : World} {l : List (Nat × R3)} {g : Nat} {x : Bool} {y z : ByteArray} (h : HBx W l) (hm : (g, (x, y, z)) ∈ l) : HasR W g x y z := h.all _ hm
theorem HBx.cons {W : World} {l : List (Nat × R3)} (x : Bool) (y z : ByteArray) (h : HBx W l) : HBx (W.alloc (.cells #[.bool x, .string y, .string z] 24)) ((W.heap.size, (x, y, z)) :: l) := by
  refine ⟨fun p hp => ?_, List.Pairwise.cons (fun p hp => ?_) h.ne⟩
  · rcases List.mem_cons.1 hp with rfl | hp
    · exact HasR.new
    · exact (h.all p hp).alloc _
  · exact Nat.ne_of_gt (h.all p hp).lt
theorem HBx.cons2 {W : World} {l : List (Nat × R3)} (x : Bool) (y z : ByteArray) (x' : Bool) (y' z' : ByteArray) (h : HBx W l) : HBx ((W.alloc (.cells #[.bool x, .string y, .string z] 24)).alloc (.cells #[.bool x', .string y', .string z'] 24)) ((W.heap.size + 1, (x', y', z')) :: (W.heap.size, (x, y, z)) :: l) := by
  have h2 := (h.cons x y z).cons x' y' z'
  rwa [show (W.alloc (.cells #[.bool x, .string y, .string z] 24)).heap.size = W.heap.size + 1 by simp] at h2
theorem HBx.far {W : World} {g : Nat} {r : R3} {l : List (Nat × R3)} (h : HBx W ((g, r) :: l)) (i : Nat) (v : Value) : HBx (W.setCell ⟨g, i, none⟩ v) l := by
  cases h.ne with
  | cons h1 h2 => exact ⟨fun p hp => (h.all p (List.mem_cons_of_mem _ hp)).far' (Ne.symm (h1 p hp)) i v, h2⟩
theorem HBx.tail {W : World} {p : Nat × R3} {l : List (Nat × R3)} (h : HBx W (p :: l)) : HBx W l := by
  cases h.ne with
  | cons h1 h2 => exact ⟨fun q hq => h.all q (List.mem_cons_of_mem _ hq), h2⟩
theorem HBx.ne_new {W : World} {l : List (Nat × R3)} {g : Nat} {r : R3} (h : HBx W l) (hm : (g, r) ∈ l) : W.heap.size ≠ g := Nat.ne_of_gt (h.all _ hm).lt
theorem HBx.drewn {W : World} {l : List (Nat × R3)} (h : HBx W l) : HBx W.drew l := ⟨h.all, h.ne⟩
theorem HBx.far3 {W : World} {g : Nat} {r : R3} {l : List (Nat × R3)} (h : HBx W ((g, r) :: l)) (u v x : Value) : HBx (((W.setCell ⟨g, 0, none⟩ u).setCell ⟨g, 1, none⟩ v).setCell ⟨g, 2, none⟩ x) l := by
  cases h.ne with
  | cons h1 h2 => exact ⟨fun p hp => (((h.all p (List.mem_cons_of_mem _ hp)).far' (Ne.symm (h1 p hp)) 0 u).far' (Ne.symm (h1 p hp)) 1 v).far' (Ne.symm (h1 p hp)) 2 x, h2⟩
def LI (k : Nat) (v : Value) : Prop := (k = 7 ∧ v = .int .i64 0) ∨ (k = 6 ∧ v = .int .i64 1) ∨ (k = 5 ∧ v = .int .i64 2) ∨ (k = 4 ∧ v = .int .i64 3) ∨ (k = 3 ∧ v = .int .i64 4) ∨ (k = 2 ∧ v = .int .i64 5) ∨ (k = 1 ∧ v = .int .i64 6) ∨ (k = 0 ∧ v = .int .i64 7)
theorem HBx.head {W : World} {g : Nat} {x : Bool} {y z : ByteArray} {l : List (Nat × R3)} (h : HBx W ((g, (x, y, z)) :: l)) : HasR W g x y z := h.all _ (List.mem_cons_self ..)
set_option maxHeartbeats 40000000 in
set_option maxRecDepth 100000 in
theorem rhead_calls (w : World) (hL : Laid w) :
    Calls Tryz.prog 11 #[] w fun e w' => e = .returned (.bool true) ∧ Below w.heap.size w w' := by
  have K0 := Lib.hid (fun U (hb : Below w.heap.size w U) => XRt.observatorylaw04_rat.calls false (⟨#[49]⟩ : ByteArray) (⟨#[50]⟩ : ByteArray) false (⟨#[49]⟩ : ByteArray) (⟨#[50]⟩ : ByteArray) U (by decide +kernel))
  have K1 := Lib.hid (fun U (hb : Below w.heap.size w U) => XRt.observatorylaw04_rat.calls false (⟨#[49]⟩ : ByteArray) (⟨#[51]⟩ : ByteArray) false (⟨#[49]⟩ : ByteArray) (⟨#[51]⟩ : ByteArray) U (by decide +kernel))
  have K2 := Lib.hid (fun U (hb : Below w.heap.size w U) => rational_Of.calls (6) (-8) true (⟨#[51]⟩ : ByteArray) (⟨#[52]⟩ : ByteArray) (0) U (Laid.below hL hb) (by decide +kernel))
  have K3 := Lib.hid (fun U (hb : Below w.heap.size w U) => rational_Of.calls (0) (-5) false (⟨#[48]⟩ : ByteArray) (⟨#[49]⟩ : ByteArray) (0) U (Laid.below hL hb) (by decide +kernel))
  have K4 := Lib.hid (fun U (hb : Below w.heap.size w U) => rational_Of.calls (1) (0) false (⟨#[]⟩ : ByteArray) (⟨#[]⟩ : ByteArray) (14) U (Laid.below hL hb) (by decide +kernel))
  have K5 := Lib.hid (fun U (hb : Below w.heap.size w U) => rational_Add.calls false (⟨#[49]⟩ : ByteArray) (⟨#[50]⟩ : ByteArray) false (⟨#[49]⟩ : ByteArray) (⟨#[51]⟩ : ByteArray) false (⟨#[53]⟩ : ByteArray) (⟨#[54]⟩ : ByteArray) (0) U (Laid.below hL hb) (by decide +kernel))
  have K6 := Lib.hid (fun U (hb : Below w.heap.size w U) => rational_Sub.calls false (⟨#[49]⟩ : ByteArray) (⟨#[50]⟩ : ByteArray) false (⟨#[49]⟩ : ByteArray) (⟨#[50]⟩ : ByteArray) false (⟨#[48]⟩ : ByteArray) (⟨#[49]⟩ : ByteArray) (0) U (Laid.below hL hb) (by decide +kernel))
  have K7 := Lib.hid (fun U (hb : Below w.heap.size w U) => XRt.observatorylaw04_rat.calls true (⟨#[49]⟩ : ByteArray) (⟨#[50]⟩ : ByteArray) true (⟨#[49]⟩ : ByteArray) (⟨#[50]⟩ : ByteArray) U (by decide +kernel))
  have K8 := Lib.hid (fun U (hb : Below w.heap.size w U) => XRt.observatorylaw04_rat.calls false (⟨#[51]⟩ : ByteArray) (⟨#[52]⟩ : ByteArray) false (⟨#[51]⟩ : ByteArray) (⟨#[52]⟩ : ByteArray) U (by decide +kernel))
  have K9 := Lib.hid (fun U (hb : Below w.heap.size w U) => rational_Div.calls true (⟨#[49]⟩ : ByteArray) (⟨#[50]⟩ : ByteArray) false (⟨#[51]⟩ : ByteArray) (⟨#[52]⟩ : ByteArray) true (⟨#[50]⟩ : ByteArray) (⟨#[51]⟩ : ByteArray) (0) U (Laid.below hL hb) (by decide +kernel))
  have K10 := Lib.hid (fun U (hb : Below w.heap.size w U) => XRt.observatorylaw04_rat.calls false (⟨#[48]⟩ : ByteArray) (⟨#[49]⟩ : ByteArray) false (⟨#[48]⟩ : ByteArray) (⟨#[49]⟩ : ByteArray) U (by decide +kernel))
  have K11 := Lib.hid (fun U (hb : Below w.heap.size w U) => rational_Div.calls false (⟨#[49]⟩ : ByteArray) (⟨#[50]⟩ : ByteArray) false (⟨#[48]⟩ : ByteArray) (⟨#[49]⟩ : ByteArray) false (⟨#[]⟩ : ByteArray) (⟨#[]⟩ : ByteArray) (14) U (Laid.below hL hb) (by decide +kernel))
  have K12 := Lib.hid (fun U (hb : Below w.heap.size w U) => rational_Parse.calls (⟨#[45, 51, 47, 52]⟩) true (⟨#[51]⟩ : ByteArray) (⟨#[52]⟩ : ByteArray) (0) U (Laid.below hL hb) (by decide +kernel))
  have K13 := Lib.hid (fun U (hb : Below w.heap.size w U) => XRt.observatorylaw04_rat.calls true (⟨#[51]⟩ : ByteArray) (⟨#[52]⟩ : ByteArray) true (⟨#[51]⟩ : ByteArray) (⟨#[52]⟩ : ByteArray) U (by decide +kernel))
  have K14 := Lib.hid (fun U (hb : Below w.heap.size w U) => rational_Text.calls true (⟨#[51]⟩ : ByteArray) (⟨#[52]⟩ : ByteArray) (⟨#[45, 51, 47, 52]⟩) (0) U (Laid.below hL hb) (by decide +kernel))
  have K15 := Lib.hid (fun U (hb : Below w.heap.size w U) => XRt.observatorylaw04_rat.calls true (⟨#[51]⟩ : ByteArray) (⟨#[52]⟩ : ByteArray) true (⟨#[51]⟩ : ByteArray) (⟨#[52]⟩ : ByteArray) U (by decide +kernel))
  have K16 := Lib.hid (fun U (hb : Below w.heap.size w U) => XRt.observatorylaw04_rat.calls false (⟨#[48]⟩ : ByteArray) (⟨#[49]⟩ : ByteArray) false (⟨#[48]⟩ : ByteArray) (⟨#[49]⟩ : ByteArray) U (by decide +kernel))
  have K17 := Lib.hid (fun U (hb : Below w.heap.size w U) => XRt.observatorylaw04_rat.calls false (⟨#[53]⟩ : ByteArray) (⟨#[54]⟩ : ByteArray) false (⟨#[53]⟩ : ByteArray) (⟨#[54]⟩ : ByteArray) U (by decide +kernel))
  have K18 := Lib.hid (fun U (hb : Below w.heap.size w U) => XRt.observatorylaw04_rat.calls true (⟨#[50]⟩ : ByteArray) (⟨#[51]⟩ : ByteArray) true (⟨#[50]⟩ : ByteArray) (⟨#[51]⟩ : ByteArray) U (by decide +kernel))
  have K19 := Lib.hid (fun U (hb : Below w.heap.size w U) => XRt.observatorylaw04_rat.calls true (⟨#[49]⟩ : ByteArray) (⟨#[50]⟩ : ByteArray) true (⟨#[49]⟩ : ByteArray) (⟨#[50]⟩ : ByteArray) U (by decide +kernel))
  have K20 := Lib.hid (fun U (hb : Below w.heap.size w U) => rational_Compare.calls true (⟨#[49]⟩ : ByteArray) (⟨#[50]⟩ : ByteArray) false (⟨#[49]⟩ : ByteArray) (⟨#[51]⟩ : ByteArray) (-1) U (Laid.below hL hb) (by decide +kernel))
  have K21 := Lib.hid (fun U (hb : Below w.heap.size w U) => XRt.observatorylaw04_rat.calls false (⟨#[50]⟩ : ByteArray) (⟨#[51]⟩ : ByteArray) false (⟨#[50]⟩ : ByteArray) (⟨#[51]⟩ : ByteArray) U (by decide +kernel))
  have K22 := Lib.hid (fun U (hb : Below w.heap.size w U) => XRt.observatorylaw04_rat.calls false (⟨#[51]⟩ : ByteArray) (⟨#[52]⟩ : ByteArray) false (⟨#[51]⟩ : ByteArray) (⟨#[52]⟩ : ByteArray) U (by decide +kernel))
  have K23 := Lib.hid (fun U (hb : Below w.heap.size w U) => rational_Compare.calls false (⟨#[50]⟩ : ByteArray) (⟨#[51]⟩ : ByteArray) false (⟨#[51]⟩ : ByteArray) (⟨#[52]⟩ : ByteArray) (-1) U (Laid.below hL hb) (by decide +kernel))
  have K24 := Lib.hid (fun U (hb : Below w.heap.size w U) => rational_Parse.calls (⟨#[54, 47, 56]⟩) false (⟨#[]⟩ : ByteArray) (⟨#[]⟩ : ByteArray) (5) U (Laid.below hL hb) (by decide +kernel))
  have K25 := Lib.hid (fun U (hb : Below w.heap.size w U) => rational_Parse.calls (⟨#[53, 47, 49]⟩) false (⟨#[]⟩ : ByteArray) (⟨#[]⟩ : ByteArray) (5) U (Laid.below hL hb) (by decide +kernel))
  have K26 := Lib.hid (fun U (hb : Below w.heap.size w U) => rational_Parse.calls (⟨#[45, 48]⟩) false (⟨#[]⟩ : ByteArray) (⟨#[]⟩ : ByteArray) (5) U (Laid.below hL hb) (by decide +kernel))
  have K27 := Lib.hid (fun U (hb : Below w.heap.size w U) => rational_Parse.calls (⟨#[]⟩) false (⟨#[]⟩ : ByteArray) (⟨#[]⟩ : ByteArray) (5) U (Laid.below hL hb) (by decide +kernel))
  have K28 := Lib.hid (fun U (hb : Below w.heap.size w U) => rational_Parse.calls (⟨#[49, 47, 48]⟩) false (⟨#[]⟩ : ByteArray) (⟨#[]⟩ : ByteArray) (5) U (Laid.below hL hb) (by decide +kernel))
  have K29 := Lib.hid (fun U (hb : Below w.heap.size w U) => rational_Parse.calls (⟨#[47, 50]⟩) false (⟨#[]⟩ : ByteArray) (⟨#[]⟩ : ByteArray) (5) U (Laid.below hL hb) (by decide +kernel))
  have K30 := Lib.hid (fun U (hb : Below w.heap.size w U) => rational_Parse.calls (⟨#[48, 49]⟩) false (⟨#[]⟩ : ByteArray) (⟨#[]⟩ : ByteArray) (5) U (Laid.below hL hb) (by decide +kernel))
  have K31 := Lib.hid (fun U (hb : Below w.heap.size w U) => rational_Valid.calls false (⟨#[49]⟩ : ByteArray) (⟨#[50]⟩ : ByteArray) true U (Laid.below hL hb) (by decide +kernel))
  have K32 := Lib.hid (fun U (hb : Below w.heap.size w U) => rational_Valid.calls false (⟨#[]⟩ : ByteArray) (⟨#[]⟩ : ByteArray) false U (Laid.below hL hb) (by decide +kernel))
  have K33 := Lib.hid (fun U (hb : Below w.heap.size w U) => XRt.observatorylaw04_rat.calls false (⟨#[50]⟩ : ByteArray) (⟨#[52]⟩ : ByteArray) false (⟨#[50]⟩ : ByteArray) (⟨#[52]⟩ : ByteArray) U (by decide +kernel))
  have K34 := Lib.hid (fun U (hb : Below w.heap.size w U) => rational_Valid.calls false (⟨#[50]⟩ : ByteArray) (⟨#[52]⟩ : ByteArray) false U (Laid.below hL hb) (by decide +kernel))
  have HS := Lib.hid (HBx.nil w)
  have HB := Lib.hid (Below.refl w.heap.size w)
  clear hL
  have hu := Tryz.underlying24
  go_enter Tryz.func11, Tryz.ntmps11
  go_upto_region 2 with (first
      | (go_at_call 35; (with_reducible refine (K0.out _ (BK HB.out)).mono ?_); rintro e w_ ⟨rfl, hb_⟩; have HS2 := Lib.hid (HBx.below (HBx.later HS.out) hb_); have HB2 := Lib.hid (below_step (BK HB.out) hb_); clear hb_ HS HB; have HS := HS2; have HB := HB2; clear HS2 HB2)
      | (go_at_call 35; (with_reducible refine (K1.out _ (BK HB.out)).mono ?_); rintro e w_ ⟨rfl, hb_⟩; have HS2 := Lib.hid (HBx.below (HBx.later HS.out) hb_); have HB2 := Lib.hid (below_step (BK HB.out) hb_); clear hb_ HS HB; have HS := HS2; have HB := HB2; clear HS2 HB2))
  have HS2 := Lib.hid (HBx.cons2 false (⟨#[49]⟩ : ByteArray) (⟨#[50]⟩ : ByteArray) false (⟨#[49]⟩ : ByteArray) (⟨#[51]⟩ : ByteArray) HS.out)
  have HB2 := Lib.hid (below_alloc (below_alloc HB.out (.cells #[.bool false, .string (⟨#[49]⟩ : ByteArray), .string (⟨#[50]⟩ : ByteArray)] 24)) (.cells #[.bool false, .string (⟨#[49]⟩ : ByteArray), .string (⟨#[51]⟩ : ByteArray)] 24))
  clear HS HB
  have HS := HS2
  have HB := HB2
  clear HS2 HB2
  have hg2_ : (w_.alloc (.cells #[.bool false, .string (⟨#[49]⟩ : ByteArray), .string (⟨#[50]⟩ : ByteArray)] 24)).heap.size = w_.heap.size + 1 := by simp
  generalize hW_ : (w_.alloc (.cells #[.bool false, .string (⟨#[49]⟩ : ByteArray), .string (⟨#[50]⟩ : ByteArray)] 24)).alloc (.cells #[.bool false, .string (⟨#[49]⟩ : ByteArray), .string (⟨#[51]⟩ : ByteArray)] 24) = W_ at *
  clear hg2_
  generalize hh_ : w_.heap.size + 1 = g2 at *
  generalize hg_ : w_.heap.size = g1 at *
  clear hW_ hg_ hh_
  clear w_
  go_upto_region 3 with (first
      | (go_at_call 13; (with_reducible refine (K2.out _ (BK HB.out)).mono ?_); rintro e w_ ⟨rfl, hb_⟩; have HS2 := Lib.hid (HBx.below (HBx.later HS.out) hb_); have HB2 := Lib.hid (below_step (BK HB.out) hb_); clear hb_ HS HB; have HS := HS2; have HB := HB2; clear HS2 HB2))
  have HS2 := Lib.hid (HBx.cons true (⟨#[51]⟩ : ByteArray) (⟨#[52]⟩ : ByteArray) HS.out)
  have HB2 := Lib.hid (below_alloc HB.out (.cells #[.bool true, .string (⟨#[51]⟩ : ByteArray), .string (⟨#[52]⟩ : ByteArray)] 24))
  clear HS HB
  have HS := HS2
  have HB := HB2
  clear HS2 HB2
  generalize hW_ : w_.alloc (.cells #[.bool true, .string (⟨#[51]⟩ : ByteArray), .string (⟨#[52]⟩ : ByteArray)] 24) = W_ at *
  generalize hg_ : w_.heap.size = g3 at *
  clear hW_ hg_
  clear w_
  go_upto_region 4 with (first
      | (go_at_call 13; (with_reducible refine (K3.out _ (BK HB.out)).mono ?_); rintro e w_ ⟨rfl, hb_⟩; have HS2 := Lib.hid (HBx.below (HBx.later HS.out) hb_); have HB2 := Lib.hid (below_step (BK HB.out) hb_); clear hb_ HS HB; have HS := HS2; have HB := HB2; clear HS2 HB2))
  have HS2 := Lib.hid (HBx.cons false (⟨#[48]⟩ : ByteArray) (⟨#[49]⟩ : ByteArray) HS.out)
  have HB2 := Lib.hid (below_alloc HB.out (.cells #[.bool false, .string (⟨#[48]⟩ : ByteArray), .string (⟨#[49]⟩ : ByteArray)] 24))
  clear HS HB
  have HS := HS2
  have HB := HB2
  clear HS2 HB2
  generalize hW_ : w_.alloc (.cells #[.bool false, .string (⟨#[48]⟩ : ByteArray), .string (⟨#[49]⟩ : ByteArray)] 24) = W_ at *
  generalize hg_ : w_.heap.size = g5 at *
  clear hW_ hg_
  clear w_
  go_upto_region 5 with (first
      | (go_at_call 13; (with_reducible refine (K4.out _ (BK HB.out)).mono ?_); rintro e w_ ⟨rfl, hb_⟩; have HS2 := Lib.hid (HBx.below (HBx.later HS.out) hb_); have HB2 := Lib.hid (below_step (BK HB.out) hb_); clear hb_ HS HB; have HS := HS2; have HB := HB2; clear HS2 HB2))
  have HS2 := Lib.hid (HBx.cons false (⟨#[]⟩ : ByteArray) (⟨#[]⟩ : ByteArray) HS.out)
  have HB2 := Lib.hid (below_alloc HB.out (.cells #[.bool false, .string (⟨#[]⟩ : ByteArray), .string (⟨#[]⟩ : ByteArray)] 24))
  clear HS HB
  have HS := HS2
  have HB := HB2
  clear HS2 HB2
  generalize hW_ : w_.alloc (.cells #[.bool false, .string (⟨#[]⟩ : ByteArray), .string (⟨#[]⟩ : ByteArray)] 24) = W_ at *
  generalize hg_ : w_.heap.size = g7 at *
  clear hW_ hg_
  clear w_
  obtain ⟨y01, y02, y03⟩ := (HS.out.get (g := g1) (x := false) (y := (⟨#[49]⟩ : ByteArray)) (z := (⟨#[50]⟩ : ByteArray)) (by simp)).cells
  obtain ⟨y11, y12, y13⟩ := (HS.out.get (g := g2) (x := false) (y := (⟨#[49]⟩ : ByteArray)) (z := (⟨#[51]⟩ : ByteArray)) (by simp)).cells
  go_upto_region 6 with (first
      | (go_at_call 25; (with_reducible refine (K5.out _ (BK HB.out)).mono ?_); rintro e w_ ⟨rfl, hb_⟩; have HS2 := Lib.hid (HBx.below (HBx.later HS.out) hb_); have HB2 := Lib.hid (below_step (BK HB.out) hb_); clear hb_ HS HB; have HS := HS2; have HB := HB2; clear HS2 HB2))
  clear y01 y02 y03
  clear y11 y12 y13
  have HS2 := Lib.hid (HBx.cons false (⟨#[53]⟩ : ByteArray) (⟨#[54]⟩ : ByteArray) HS.out)
  have HB2 := Lib.hid (below_alloc HB.out (.cells #[.bool false, .string (⟨#[53]⟩ : ByteArray), .string (⟨#[54]⟩ : ByteArray)] 24))
  clear HS HB
  have HS := HS2
  have HB := HB2
  clear HS2 HB2
  generalize hW_ : w_.alloc (.cells #[.bool false, .string (⟨#[53]⟩ : ByteArray), .string (⟨#[54]⟩ : ByteArray)] 24) = W_ at *
  generalize hg_ : w_.heap.size = g9 at *
  clear hW_ hg_
  clear w_
  obtain ⟨y01, y02, y03⟩ := (HS.out.get (g := g1) (x := false) (y := (⟨#[49]⟩ : ByteArray)) (z := (⟨#[50]⟩ : ByteArray)) (by simp)).cells
  go_upto_region 7 with (first
      | (go_at_call 27; (with_reducible refine (K6.out _ (BK HB.out)).mono ?_); rintro e w_ ⟨rfl, hb_⟩; have HS2 := Lib.hid (HBx.below (HBx.later HS.out) hb_); have HB2 := Lib.hid (below_step (BK HB.out) hb_); clear hb_ HS HB; have HS := HS2; have HB := HB2; clear HS2 HB2))
  clear y01 y02 y03
  have HS2 := Lib.hid (HBx.cons false (⟨#[48]⟩ : ByteArray) (⟨#[49]⟩ : ByteArray) HS.out)
  have HB2 := Lib.hid (below_alloc HB.out (.cells #[.bool false, .string (⟨#[48]⟩ : ByteArray), .string (⟨#[49]⟩ : ByteArray)] 24))
  clear HS HB
  have HS := HS2
  have HB := HB2
  clear HS2 HB2
  generalize hW_ : w_.alloc (.cells #[.bool false, .string (⟨#[48]⟩ : ByteArray), .string (⟨#[49]⟩ : ByteArray)] 24) = W_ at *
  generalize hg_ : w_.heap.size = g11 at *
  clear hW_ hg_
  clear w_
  go_upto_region 8 with (first
      | (go_at_call 35; (with_reducible refine (K7.out _ (BK HB.out)).mono ?_); rintro e w_ ⟨rfl, hb_⟩; have HS2 := Lib.hid (HBx.below (HBx.later HS.out) hb_); have HB2 := Lib.hid (below_step (BK HB.out) hb_); clear hb_ HS HB; have HS := HS2; have HB := HB2; clear HS2 HB2)
      | (go_at_call 35; (with_reducible refine (K8.out _ (BK HB.out)).mono ?_); rintro e w_ ⟨rfl, hb_⟩; have HS2 := Lib.hid (HBx.below (HBx.later HS.out) hb_); have HB2 := Lib.hid (below_step (BK HB.out) hb_); clear hb_ HS HB; have HS := HS2; have HB := HB2; clear HS2 HB2)
      | (go_at_call 31; (with_reducible refine (K9.out _ (BK HB.out)).mono ?_); rintro e w_ ⟨rfl, hb_⟩; have HS2 := Lib.hid (HBx.below (HBx.later HS.out) hb_); have HB2 := Lib.hid (below_step (BK HB.out) hb_); clear hb_ HS HB; have HS := HS2; have HB := HB2; clear HS2 HB2))
  have HS2 := Lib.hid (HBx.cons true (⟨#[50]⟩ : ByteArray) (⟨#[51]⟩ : ByteArray) HS.out)
  have HB2 := Lib.hid (below_alloc HB.out (.cells #[.bool true, .string (⟨#[50]⟩ : ByteArray), .string (⟨#[51]⟩ : ByteArray)] 24))
  clear HS HB
  have HS := HS2
  have HB := HB2
  clear HS2 HB2
  generalize hW_ : w_.alloc (.cells #[.bool true, .string (⟨#[50]⟩ : ByteArray), .string (⟨#[51]⟩ : ByteArray)] 24) = W_ at *
  generalize hg_ : w_.heap.size = g13 at *
  clear hW_ hg_
  clear w_
  go_cut [16] (fun s16 wx => s16 = .int .i64 14 ∧ HBx wx [(g13, (true, (⟨#[50]⟩ : ByteArray), (⟨#[51]⟩ : ByteArray))), (g11, (false, (⟨#[48]⟩ : ByteArray), (⟨#[49]⟩ : ByteArray))), (g9, (false, (⟨#[53]⟩ : ByteArray), (⟨#[54]⟩ : ByteArray))), (g7, (false, (⟨#[]⟩ : ByteArray), (⟨#[]⟩ : ByteArray))), (g5, (false, (⟨#[48]⟩ : ByteArray), (⟨#[49]⟩ : ByteArray))), (g3, (true, (⟨#[51]⟩ : ByteArray), (⟨#[52]⟩ : ByteArray))), (g2, (false, (⟨#[49]⟩ : ByteArray), (⟨#[51]⟩ : ByteArray))), (g1, (false, (⟨#[49]⟩ : ByteArray), (⟨#[50]⟩ : ByteArray)))] ∧ Below w.heap.size w wx)
  case first =>
    have HM1 := Lib.hid (show (g1, ((false, (⟨#[49]⟩ : ByteArray), (⟨#[50]⟩ : ByteArray)) : R3)) ∈ ([(g13, (true, (⟨#[50]⟩ : ByteArray), (⟨#[51]⟩ : ByteArray))), (g11, (false, (⟨#[48]⟩ : ByteArray), (⟨#[49]⟩ : ByteArray))), (g9, (false, (⟨#[53]⟩ : ByteArray), (⟨#[54]⟩ : ByteArray))), (g7, (false, (⟨#[]⟩ : ByteArray), (⟨#[]⟩ : ByteArray))), (g5, (false, (⟨#[48]⟩ : ByteArray), (⟨#[49]⟩ : ByteArray))), (g3, (true, (⟨#[51]⟩ : ByteArray), (⟨#[52]⟩ : ByteArray))), (g2, (false, (⟨#[49]⟩ : ByteArray), (⟨#[51]⟩ : ByteArray))), (g1, (false, (⟨#[49]⟩ : ByteArray), (⟨#[50]⟩ : ByteArray)))] : List (Nat × R3)) by simp)
    obtain ⟨y01, y02, y03⟩ := (HS.out.get (g := g1) (x := false) (y := (⟨#[49]⟩ : ByteArray)) (z := (⟨#[50]⟩ : ByteArray)) (by simp)).cells
    go_region_held3 (fun W' => W'.cell? ⟨g1, 0, none⟩ = some (.bool false) ∧ W'.cell? ⟨g1, 1, none⟩ = some (.string (⟨#[49]⟩ : ByteArray)) ∧ W'.cell? ⟨g1, 2, none⟩ = some (.string (⟨#[50]⟩ : ByteArray))) (go_keep)
      ((first
        | (go_at_call 35; (with_reducible refine (K10.out _ (BK HB.out)).mono ?_); rintro e w_ ⟨rfl, hb_⟩; (first | (have HS2 := Lib.hid (HBx.below (HBx.drewn (HBx.cons false ⟨#[]⟩ ⟨#[]⟩ HS.out)) hb_); have HN := Lib.hid (HS.out.ne_new HM1.out); have HGE := Lib.hid (HB.out.size); have hn1_ := HN.out; have hn2_ := Ne.symm HN.out; have HB2 := Lib.hid (below_step (BK HB.out) hb_); clear hb_ HS HB; have HS := HS2; have HB := HB2; clear HS2 HB2) | (have HS2 := Lib.hid (HBx.below (HBx.cons false ⟨#[]⟩ ⟨#[]⟩ HS.out) hb_); have HN := Lib.hid (HS.out.ne_new HM1.out); have HGE := Lib.hid (HB.out.size); have hn1_ := HN.out; have hn2_ := Ne.symm HN.out; have HB2 := Lib.hid (below_step (BK HB.out) hb_); clear hb_ HS HB; have HS := HS2; have HB := HB2; clear HS2 HB2) | (have HS2 := Lib.hid (HBx.below (HBx.later HS.out) hb_); have HB2 := Lib.hid (below_step (BK HB.out) hb_); clear hb_ HS HB; have HS := HS2; have HB := HB2; clear HS2 HB2)); (try clear q1 q2 q3 q4 q5 q6); obtain ⟨q1, q2, q3⟩ := (HS.out.head).cells; have q4 := blk_frozen HS.out.head 0; have q5 := blk_frozen HS.out.head 1; have q6 := blk_frozen HS.out.head 2; (try clear y01 y02 y03); obtain ⟨y01, y02, y03⟩ := (HS.out.get (g := g1) (x := false) (y := (⟨#[49]⟩ : ByteArray)) (z := (⟨#[50]⟩ : ByteArray)) (by simp)).cells)
        | (go_at_call 31; (with_reducible refine (K11.out _ (BK HB.out)).mono ?_); rintro e w_ ⟨rfl, hb_⟩; (first | (have HS2 := Lib.hid (HBx.below (HBx.drewn (HBx.cons false ⟨#[]⟩ ⟨#[]⟩ HS.out)) hb_); have HN := Lib.hid (HS.out.ne_new HM1.out); have HGE := Lib.hid (HB.out.size); have hn1_ := HN.out; have hn2_ := Ne.symm HN.out; have HB2 := Lib.hid (below_step (BK HB.out) hb_); clear hb_ HS HB; have HS := HS2; have HB := HB2; clear HS2 HB2) | (have HS2 := Lib.hid (HBx.below (HBx.cons false ⟨#[]⟩ ⟨#[]⟩ HS.out) hb_); have HN := Lib.hid (HS.out.ne_new HM1.out); have HGE := Lib.hid (HB.out.size); have hn1_ := HN.out; have hn2_ := Ne.symm HN.out; have HB2 := Lib.hid (below_step (BK HB.out) hb_); clear hb_ HS HB; have HS := HS2; have HB := HB2; clear HS2 HB2) | (have HS2 := Lib.hid (HBx.below (HBx.later HS.out) hb_); have HB2 := Lib.hid (below_step (BK HB.out) hb_); clear hb_ HS HB; have HS := HS2; have HB := HB2; clear HS2 HB2)); (try clear q1 q2 q3 q4 q5 q6); obtain ⟨q1, q2, q3⟩ := (HS.out.head).cells; have q4 := blk_frozen HS.out.head 0; have q5 := blk_frozen HS.out.head 1; have q6 := blk_frozen HS.out.head 2; (try clear y01 y02 y03); obtain ⟨y01, y02, y03⟩ := (HS.out.get (g := g1) (x := false) (y := (⟨#[49]⟩ : ByteArray)) (z := (⟨#[50]⟩ : ByteArray)) (by simp)).cells)))
    all_goals (go_wp2_with fail)
    all_goals go_meet
    all_goals first | exact ⟨rfl, (HBx.cons _ _ _ HS.out).tail, BK HB.out⟩ | exact ⟨rfl, HBx.far3 HS.out _ _ _, below_set (below_set (below_set HB.out HGE.out) HGE.out) HGE.out⟩
  case rest =>
  obtain ⟨rfl, hs_, hb_⟩ := hcut
  have HS2 := Lib.hid hs_
  have HB2 := Lib.hid hb_
  clear hs_ hb_ HS HB
  have HS := HS2
  have HB := HB2
  clear HS2 HB2
  generalize hW_ : wc = W_ at *
  clear hW_
  go_upto_region 10 with (first
      | (go_at_call 19; (with_reducible refine (K12.out _ (BK HB.out)).mono ?_); rintro e w_ ⟨rfl, hb_⟩; have HS2 := Lib.hid (HBx.below (HBx.later HS.out) hb_); have HB2 := Lib.hid (below_step (BK HB.out) hb_); clear hb_ HS HB; have HS := HS2; have HB := HB2; clear HS2 HB2))
  have HS2 := Lib.hid (HBx.cons true (⟨#[51]⟩ : ByteArray) (⟨#[52]⟩ : ByteArray) HS.out)
  have HB2 := Lib.hid (below_alloc HB.out (.cells #[.bool true, .string (⟨#[51]⟩ : ByteArray), .string (⟨#[52]⟩ : ByteArray)] 24))
  clear HS HB
  have HS := HS2
  have HB := HB2
  clear HS2 HB2
  generalize hW_ : w_.alloc (.cells #[.bool true, .string (⟨#[51]⟩ : ByteArray), .string (⟨#[52]⟩ : ByteArray)] 24) = W_ at *
  generalize hg_ : w_.heap.size = g17 at *
  clear hW_ hg_
  clear w_
  go_upto_region 11 with (first
      | (go_at_call 35; (with_reducible refine (K13.out _ (BK HB.out)).mono ?_); rintro e w_ ⟨rfl, hb_⟩; have HS2 := Lib.hid (HBx.below (HBx.later HS.out) hb_); have HB2 := Lib.hid (below_step (BK HB.out) hb_); clear hb_ HS HB; have HS := HS2; have HB := HB2; clear HS2 HB2)
      | (go_at_call 17; (with_reducible refine (K14.out _ (BK HB.out)).mono ?_); rintro e w_ ⟨rfl, hb_⟩; have HS2 := Lib.hid (HBx.below (HBx.later HS.out) hb_); have HB2 := Lib.hid (below_step (BK HB.out) hb_); clear hb_ HS HB; have HS := HS2; have HB := HB2; clear HS2 HB2))
  go_cut [21] (fun s21 wx => s21 = .bool true ∧ HBx wx [(g17, (true, (⟨#[51]⟩ : ByteArray), (⟨#[52]⟩ : ByteArray))), (g13, (true, (⟨#[50]⟩ : ByteArray), (⟨#[51]⟩ : ByteArray))), (g11, (false, (⟨#[48]⟩ : ByteArray), (⟨#[49]⟩ : ByteArray))), (g9, (false, (⟨#[53]⟩ : ByteArray), (⟨#[54]⟩ : ByteArray))), (g7, (false, (⟨#[]⟩ : ByteArray), (⟨#[]⟩ : ByteArray))), (g5, (false, (⟨#[48]⟩ : ByteArray), (⟨#[49]⟩ : ByteArray))), (g3, (true, (⟨#[51]⟩ : ByteArray), (⟨#[52]⟩ : ByteArray))), (g2, (false, (⟨#[49]⟩ : ByteArray), (⟨#[51]⟩ : ByteArray))), (g1, (false, (⟨#[49]⟩ : ByteArray), (⟨#[50]⟩ : ByteArray)))] ∧ Below w.heap.size w wx)
  case first =>
    obtain ⟨y01, y02, y03⟩ := (HS.out.get (g := g3) (x := true) (y := (⟨#[51]⟩ : ByteArray)) (z := (⟨#[52]⟩ : ByteArray)) (by simp)).cells
    obtain ⟨y11, y12, y13⟩ := (HS.out.get (g := g5) (x := false) (y := (⟨#[48]⟩ : ByteArray)) (z := (⟨#[49]⟩ : ByteArray)) (by simp)).cells
    obtain ⟨y21, y22, y23⟩ := (HS.out.get (g := g9) (x := false) (y := (⟨#[53]⟩ : ByteArray)) (z := (⟨#[54]⟩ : ByteArray)) (by simp)).cells
    obtain ⟨y31, y32, y33⟩ := (HS.out.get (g := g11) (x := false) (y := (⟨#[48]⟩ : ByteArray)) (z := (⟨#[49]⟩ : ByteArray)) (by simp)).cells
    go_region_held3 (fun W' => W'.cell? ⟨g3, 0, none⟩ = some (.bool true) ∧ W'.cell? ⟨g3, 1, none⟩ = some (.string (⟨#[51]⟩ : ByteArray)) ∧ W'.cell? ⟨g3, 2, none⟩ = some (.string (⟨#[52]⟩ : ByteArray)) ∧ W'.cell? ⟨g5, 0, none⟩ = some (.bool false) ∧ W'.cell? ⟨g5, 1, none⟩ = some (.string (⟨#[48]⟩ : ByteArray)) ∧ W'.cell? ⟨g5, 2, none⟩ = some (.string (⟨#[49]⟩ : ByteArray)) ∧ W'.cell? ⟨g9, 0, none⟩ = some (.bool false) ∧ W'.cell? ⟨g9, 1, none⟩ = some (.string (⟨#[53]⟩ : ByteArray)) ∧ W'.cell? ⟨g9, 2, none⟩ = some (.string (⟨#[54]⟩ : ByteArray)) ∧ W'.cell? ⟨g11, 0, none⟩ = some (.bool false) ∧ W'.cell? ⟨g11, 1, none⟩ = some (.string (⟨#[48]⟩ : ByteArray)) ∧ W'.cell? ⟨g11, 2, none⟩ = some (.string (⟨#[49]⟩ : ByteArray))) (go_keep)
      ((first
        | (go_at_call 35; (with_reducible refine (K15.out _ (BK HB.out)).mono ?_); rintro e w_ ⟨rfl, hb_⟩; have HS2 := Lib.hid (HBx.below (HBx.later HS.out) hb_); have HB2 := Lib.hid (below_step (BK HB.out) hb_); clear hb_ HS HB; have HS := HS2; have HB := HB2; clear HS2 HB2; (try clear y01 y02 y03 y11 y12 y13 y21 y22 y23 y31 y32 y33); obtain ⟨y01, y02, y03⟩ := (HS.out.get (g := g3) (x := true) (y := (⟨#[51]⟩ : ByteArray)) (z := (⟨#[52]⟩ : ByteArray)) (by simp)).cells; obtain ⟨y11, y12, y13⟩ := (HS.out.get (g := g5) (x := false) (y := (⟨#[48]⟩ : ByteArray)) (z := (⟨#[49]⟩ : ByteArray)) (by simp)).cells; obtain ⟨y21, y22, y23⟩ := (HS.out.get (g := g9) (x := false) (y := (⟨#[53]⟩ : ByteArray)) (z := (⟨#[54]⟩ : ByteArray)) (by simp)).cells; obtain ⟨y31, y32, y33⟩ := (HS.out.get (g := g11) (x := false) (y := (⟨#[48]⟩ : ByteArray)) (z := (⟨#[49]⟩ : ByteArray)) (by simp)).cells)
        | (go_at_call 35; (with_reducible refine (K16.out _ (BK HB.out)).mono ?_); rintro e w_ ⟨rfl, hb_⟩; have HS2 := Lib.hid (HBx.below (HBx.later HS.out) hb_); have HB2 := Lib.hid (below_step (BK HB.out) hb_); clear hb_ HS HB; have HS := HS2; have HB := HB2; clear HS2 HB2; (try clear y01 y02 y03 y11 y12 y13 y21 y22 y23 y31 y32 y33); obtain ⟨y01, y02, y03⟩ := (HS.out.get (g := g3) (x := true) (y := (⟨#[51]⟩ : ByteArray)) (z := (⟨#[52]⟩ : ByteArray)) (by simp)).cells; obtain ⟨y11, y12, y13⟩ := (HS.out.get (g := g5) (x := false) (y := (⟨#[48]⟩ : ByteArray)) (z := (⟨#[49]⟩ : ByteArray)) (by simp)).cells; obtain ⟨y21, y22, y23⟩ := (HS.out.get (g := g9) (x := false) (y := (⟨#[53]⟩ : ByteArray)) (z := (⟨#[54]⟩ : ByteArray)) (by simp)).cells; obtain ⟨y31, y32, y33⟩ := (HS.out.get (g := g11) (x := false) (y := (⟨#[48]⟩ : ByteArray)) (z := (⟨#[49]⟩ : ByteArray)) (by simp)).cells)
        | (go_at_call 35; (with_reducible refine (K17.out _ (BK HB.out)).mono ?_); rintro e w_ ⟨rfl, hb_⟩; have HS2 := Lib.hid (HBx.below (HBx.later HS.out) hb_); have HB2 := Lib.hid (below_step (BK HB.out) hb_); clear hb_ HS HB; have HS := HS2; have HB := HB2; clear HS2 HB2; (try clear y01 y02 y03 y11 y12 y13 y21 y22 y23 y31 y32 y33); obtain ⟨y01, y02, y03⟩ := (HS.out.get (g := g3) (x := true) (y := (⟨#[51]⟩ : ByteArray)) (z := (⟨#[52]⟩ : ByteArray)) (by simp)).cells; obtain ⟨y11, y12, y13⟩ := (HS.out.get (g := g5) (x := false) (y := (⟨#[48]⟩ : ByteArray)) (z := (⟨#[49]⟩ : ByteArray)) (by simp)).cells; obtain ⟨y21, y22, y23⟩ := (HS.out.get (g := g9) (x := false) (y := (⟨#[53]⟩ : ByteArray)) (z := (⟨#[54]⟩ : ByteArray)) (by simp)).cells; obtain ⟨y31, y32, y33⟩ := (HS.out.get (g := g11) (x := false) (y := (⟨#[48]⟩ : ByteArray)) (z := (⟨#[49]⟩ : ByteArray)) (by simp)).cells)))
    all_goals (go_wp2_with fail)
    all_goals go_meet
    all_goals exact ⟨rfl, HBx.later HS.out, BK HB.out⟩
  case rest =>
  obtain ⟨rfl, hs_, hb_⟩ := hcut
  have HS2 := Lib.hid hs_
  have HB2 := Lib.hid hb_
  clear hs_ hb_ HS HB
  have HS := HS2
  have HB := HB2
  clear HS2 HB2
  generalize hW_ : wc = W_ at *
  clear hW_
  go_upto_region 12 with fail
  go_cut [22] (fun s22 wx => s22 = .bool true ∧ HBx wx [(g17, (true, (⟨#[51]⟩ : ByteArray), (⟨#[52]⟩ : ByteArray))), (g13, (true, (⟨#[50]⟩ : ByteArray), (⟨#[51]⟩ : ByteArray))), (g11, (false, (⟨#[48]⟩ : ByteArray), (⟨#[49]⟩ : ByteArray))), (g9, (false, (⟨#[53]⟩ : ByteArray), (⟨#[54]⟩ : ByteArray))), (g7, (false, (⟨#[]⟩ : ByteArray), (⟨#[]⟩ : ByteArray))), (g5, (false, (⟨#[48]⟩ : ByteArray), (⟨#[49]⟩ : ByteArray))), (g3, (true, (⟨#[51]⟩ : ByteArray), (⟨#[52]⟩ : ByteArray))), (g2, (false, (⟨#[49]⟩ : ByteArray), (⟨#[51]⟩ : ByteArray))), (g1, (false, (⟨#[49]⟩ : ByteArray), (⟨#[50]⟩ : ByteArray)))] ∧ Below w.heap.size w wx)
  case first =>
    obtain ⟨y01, y02, y03⟩ := (HS.out.get (g := g13) (x := true) (y := (⟨#[50]⟩ : ByteArray)) (z := (⟨#[51]⟩ : ByteArray)) (by simp)).cells
    obtain ⟨y11, y12, y13⟩ := (HS.out.get (g := g17) (x := true) (y := (⟨#[51]⟩ : ByteArray)) (z := (⟨#[52]⟩ : ByteArray)) (by simp)).cells
    obtain ⟨y21, y22, y23⟩ := (HS.out.get (g := g3) (x := true) (y := (⟨#[51]⟩ : ByteArray)) (z := (⟨#[52]⟩ : ByteArray)) (by simp)).cells
    obtain ⟨y31, y32, y33⟩ := (HS.out.get (g := g2) (x := false) (y := (⟨#[49]⟩ : ByteArray)) (z := (⟨#[51]⟩ : ByteArray)) (by simp)).cells
    go_region_held3 (fun W' => W'.cell? ⟨g13, 0, none⟩ = some (.bool true) ∧ W'.cell? ⟨g13, 1, none⟩ = some (.string (⟨#[50]⟩ : ByteArray)) ∧ W'.cell? ⟨g13, 2, none⟩ = some (.string (⟨#[51]⟩ : ByteArray)) ∧ W'.cell? ⟨g17, 0, none⟩ = some (.bool true) ∧ W'.cell? ⟨g17, 1, none⟩ = some (.string (⟨#[51]⟩ : ByteArray)) ∧ W'.cell? ⟨g17, 2, none⟩ = some (.string (⟨#[52]⟩ : ByteArray)) ∧ W'.cell? ⟨g3, 0, none⟩ = some (.bool true) ∧ W'.cell? ⟨g3, 1, none⟩ = some (.string (⟨#[51]⟩ : ByteArray)) ∧ W'.cell? ⟨g3, 2, none⟩ = some (.string (⟨#[52]⟩ : ByteArray)) ∧ W'.cell? ⟨g2, 0, none⟩ = some (.bool false) ∧ W'.cell? ⟨g2, 1, none⟩ = some (.string (⟨#[49]⟩ : ByteArray)) ∧ W'.cell? ⟨g2, 2, none⟩ = some (.string (⟨#[51]⟩ : ByteArray))) (go_keep)
      ((first
        | (go_at_call 35; (with_reducible refine (K18.out _ (BK HB.out)).mono ?_); rintro e w_ ⟨rfl, hb_⟩; have HS2 := Lib.hid (HBx.below (HBx.later HS.out) hb_); have HB2 := Lib.hid (below_step (BK HB.out) hb_); clear hb_ HS HB; have HS := HS2; have HB := HB2; clear HS2 HB2; (try clear y01 y02 y03 y11 y12 y13 y21 y22 y23 y31 y32 y33); obtain ⟨y01, y02, y03⟩ := (HS.out.get (g := g13) (x := true) (y := (⟨#[50]⟩ : ByteArray)) (z := (⟨#[51]⟩ : ByteArray)) (by simp)).cells; obtain ⟨y11, y12, y13⟩ := (HS.out.get (g := g17) (x := true) (y := (⟨#[51]⟩ : ByteArray)) (z := (⟨#[52]⟩ : ByteArray)) (by simp)).cells; obtain ⟨y21, y22, y23⟩ := (HS.out.get (g := g3) (x := true) (y := (⟨#[51]⟩ : ByteArray)) (z := (⟨#[52]⟩ : ByteArray)) (by simp)).cells; obtain ⟨y31, y32, y33⟩ := (HS.out.get (g := g2) (x := false) (y := (⟨#[49]⟩ : ByteArray)) (z := (⟨#[51]⟩ : ByteArray)) (by simp)).cells)
        | (go_at_call 35; (with_reducible refine (K19.out _ (BK HB.out)).mono ?_); rintro e w_ ⟨rfl, hb_⟩; have HS2 := Lib.hid (HBx.below (HBx.later HS.out) hb_); have HB2 := Lib.hid (below_step (BK HB.out) hb_); clear hb_ HS HB; have HS := HS2; have HB := HB2; clear HS2 HB2; (try clear y01 y02 y03 y11 y12 y13 y21 y22 y23 y31 y32 y33); obtain ⟨y01, y02, y03⟩ := (HS.out.get (g := g13) (x := true) (y := (⟨#[50]⟩ : ByteArray)) (z := (⟨#[51]⟩ : ByteArray)) (by simp)).cells; obtain ⟨y11, y12, y13⟩ := (HS.out.get (g := g17) (x := true) (y := (⟨#[51]⟩ : ByteArray)) (z := (⟨#[52]⟩ : ByteArray)) (by simp)).cells; obtain ⟨y21, y22, y23⟩ := (HS.out.get (g := g3) (x := true) (y := (⟨#[51]⟩ : ByteArray)) (z := (⟨#[52]⟩ : ByteArray)) (by simp)).cells; obtain ⟨y31, y32, y33⟩ := (HS.out.get (g := g2) (x := false) (y := (⟨#[49]⟩ : ByteArray)) (z := (⟨#[51]⟩ : ByteArray)) (by simp)).cells)
        | (go_at_call 23; (with_reducible refine (K20.out _ (BK HB.out)).mono ?_); rintro e w_ ⟨rfl, hb_⟩; have HS2 := Lib.hid (HBx.below (HBx.later HS.out) hb_); have HB2 := Lib.hid (below_step (BK HB.out) hb_); clear hb_ HS HB; have HS := HS2; have HB := HB2; clear HS2 HB2; (try clear y01 y02 y03 y11 y12 y13 y21 y22 y23 y31 y32 y33); obtain ⟨y01, y02, y03⟩ := (HS.out.get (g := g13) (x := true) (y := (⟨#[50]⟩ : ByteArray)) (z := (⟨#[51]⟩ : ByteArray)) (by simp)).cells; obtain ⟨y11, y12, y13⟩ := (HS.out.get (g := g17) (x := true) (y := (⟨#[51]⟩ : ByteArray)) (z := (⟨#[52]⟩ : ByteArray)) (by simp)).cells; obtain ⟨y21, y22, y23⟩ := (HS.out.get (g := g3) (x := true) (y := (⟨#[51]⟩ : ByteArray)) (z := (⟨#[52]⟩ : ByteArray)) (by simp)).cells; obtain ⟨y31, y32, y33⟩ := (HS.out.get (g := g2) (x := false) (y := (⟨#[49]⟩ : ByteArray)) (z := (⟨#[51]⟩ : ByteArray)) (by simp)).cells)
        | (go_at_call 35; (with_reducible refine (K21.out _ (BK HB.out)).mono ?_); rintro e w_ ⟨rfl, hb_⟩; have HS2 := Lib.hid (HBx.below (HBx.later HS.out) hb_); have HB2 := Lib.hid (below_step (BK HB.out) hb_); clear hb_ HS HB; have HS := HS2; have HB := HB2; clear HS2 HB2; (try clear y01 y02 y03 y11 y12 y13 y21 y22 y23 y31 y32 y33); obtain ⟨y01, y02, y03⟩ := (HS.out.get (g := g13) (x := true) (y := (⟨#[50]⟩ : ByteArray)) (z := (⟨#[51]⟩ : ByteArray)) (by simp)).cells; obtain ⟨y11, y12, y13⟩ := (HS.out.get (g := g17) (x := true) (y := (⟨#[51]⟩ : ByteArray)) (z := (⟨#[52]⟩ : ByteArray)) (by simp)).cells; obtain ⟨y21, y22, y23⟩ := (HS.out.get (g := g3) (x := true) (y := (⟨#[51]⟩ : ByteArray)) (z := (⟨#[52]⟩ : ByteArray)) (by simp)).cells; obtain ⟨y31, y32, y33⟩ := (HS.out.get (g := g2) (x := false) (y := (⟨#[49]⟩ : ByteArray)) (z := (⟨#[51]⟩ : ByteArray)) (by simp)).cells)
        | (go_at_call 35; (with_reducible refine (K22.out _ (BK HB.out)).mono ?_); rintro e w_ ⟨rfl, hb_⟩; have HS2 := Lib.hid (HBx.below (HBx.later HS.out) hb_); have HB2 := Lib.hid (below_step (BK HB.out) hb_); clear hb_ HS HB; have HS := HS2; have HB := HB2; clear HS2 HB2; (try clear y01 y02 y03 y11 y12 y13 y21 y22 y23 y31 y32 y33); obtain ⟨y01, y02, y03⟩ := (HS.out.get (g := g13) (x := true) (y := (⟨#[50]⟩ : ByteArray)) (z := (⟨#[51]⟩ : ByteArray)) (by simp)).cells; obtain ⟨y11, y12, y13⟩ := (HS.out.get (g := g17) (x := true) (y := (⟨#[51]⟩ : ByteArray)) (z := (⟨#[52]⟩ : ByteArray)) (by simp)).cells; obtain ⟨y21, y22, y23⟩ := (HS.out.get (g := g3) (x := true) (y := (⟨#[51]⟩ : ByteArray)) (z := (⟨#[52]⟩ : ByteArray)) (by simp)).cells; obtain ⟨y31, y32, y33⟩ := (HS.out.get (g := g2) (x := false) (y := (⟨#[49]⟩ : ByteArray)) (z := (⟨#[51]⟩ : ByteArray)) (by simp)).cells)
        | (go_at_call 23; (with_reducible refine (K23.out _ (BK HB.out)).mono ?_); rintro e w_ ⟨rfl, hb_⟩; have HS2 := Lib.hid (HBx.below (HBx.later HS.out) hb_); have HB2 := Lib.hid (below_step (BK HB.out) hb_); clear hb_ HS HB; have HS := HS2; have HB := HB2; clear HS2 HB2; (try clear y01 y02 y03 y11 y12 y13 y21 y22 y23 y31 y32 y33); obtain ⟨y01, y02, y03⟩ := (HS.out.get (g := g13) (x := true) (y := (⟨#[50]⟩ : ByteArray)) (z := (⟨#[51]⟩ : ByteArray)) (by simp)).cells; obtain ⟨y11, y12, y13⟩ := (HS.out.get (g := g17) (x := true) (y := (⟨#[51]⟩ : ByteArray)) (z := (⟨#[52]⟩ : ByteArray)) (by simp)).cells; obtain ⟨y21, y22, y23⟩ := (HS.out.get (g := g3) (x := true) (y := (⟨#[51]⟩ : ByteArray)) (z := (⟨#[52]⟩ : ByteArray)) (by simp)).cells; obtain ⟨y31, y32, y33⟩ := (HS.out.get (g := g2) (x := false) (y := (⟨#[49]⟩ : ByteArray)) (z := (⟨#[51]⟩ : ByteArray)) (by simp)).cells)))
    all_goals (go_wp2_with fail)
    all_goals go_meet
    all_goals exact ⟨rfl, HBx.later HS.out, BK HB.out⟩
  case rest =>
  obtain ⟨rfl, hs_, hb_⟩ := hcut
  have HS2 := Lib.hid hs_
  have HB2 := Lib.hid hb_
  clear hs_ hb_ HS HB
  have HS := HS2
  have HB := HB2
  clear HS2 HB2
  generalize hW_ : wc = W_ at *
  clear hW_
  go_wp2_with fail
  have HSL := Lib.hid (heap_alloc_new W_ (.cells #[.string (⟨#[54, 47, 56]⟩ : ByteArray), .string (⟨#[53, 47, 49]⟩ : ByteArray), .string (⟨#[45, 48]⟩ : ByteArray), .string (⟨#[]⟩ : ByteArray), .string (⟨#[49, 47, 48]⟩ : ByteArray), .string (⟨#[47, 50]⟩ : ByteArray), .string (⟨#[48, 49]⟩ : ByteArray)] 9))
  have HS2 := Lib.hid (HBx.later (U := W_.alloc (.cells #[.string (⟨#[54, 47, 56]⟩ : ByteArray), .string (⟨#[53, 47, 49]⟩ : ByteArray), .string (⟨#[45, 48]⟩ : ByteArray), .string (⟨#[]⟩ : ByteArray), .string (⟨#[49, 47, 48]⟩ : ByteArray), .string (⟨#[47, 50]⟩ : ByteArray), .string (⟨#[48, 49]⟩ : ByteArray)] 9)) HS.out)
  have HB2 := Lib.hid (below_alloc HB.out (.cells #[.string (⟨#[54, 47, 56]⟩ : ByteArray), .string (⟨#[53, 47, 49]⟩ : ByteArray), .string (⟨#[45, 48]⟩ : ByteArray), .string (⟨#[]⟩ : ByteArray), .string (⟨#[49, 47, 48]⟩ : ByteArray), .string (⟨#[47, 50]⟩ : ByteArray), .string (⟨#[48, 49]⟩ : ByteArray)] 9))
  clear HS HB
  have HS := HS2
  have HB := HB2
  clear HS2 HB2
  generalize hW_ : W_.alloc (.cells #[.string (⟨#[54, 47, 56]⟩ : ByteArray), .string (⟨#[53, 47, 49]⟩ : ByteArray), .string (⟨#[45, 48]⟩ : ByteArray), .string (⟨#[]⟩ : ByteArray), .string (⟨#[49, 47, 48]⟩ : ByteArray), .string (⟨#[47, 50]⟩ : ByteArray), .string (⟨#[48, 49]⟩ : ByteArray)] 9) = V_ at *
  generalize hg_ : W_.heap.size = gs at *
  clear hW_ hg_
  go_loopg [24] 7 (fun k s24 wr => LI k s24 ∧ HBx wr [(g17, (true, (⟨#[51]⟩ : ByteArray), (⟨#[52]⟩ : ByteArray))), (g13, (true, (⟨#[50]⟩ : ByteArray), (⟨#[51]⟩ : ByteArray))), (g11, (false, (⟨#[48]⟩ : ByteArray), (⟨#[49]⟩ : ByteArray))), (g9, (false, (⟨#[53]⟩ : ByteArray), (⟨#[54]⟩ : ByteArray))), (g7, (false, (⟨#[]⟩ : ByteArray), (⟨#[]⟩ : ByteArray))), (g5, (false, (⟨#[48]⟩ : ByteArray), (⟨#[49]⟩ : ByteArray))), (g3, (true, (⟨#[51]⟩ : ByteArray), (⟨#[52]⟩ : ByteArray))), (g2, (false, (⟨#[49]⟩ : ByteArray), (⟨#[51]⟩ : ByteArray))), (g1, (false, (⟨#[49]⟩ : ByteArray), (⟨#[50]⟩ : ByteArray)))] ∧ Below w.heap.size w wr ∧ wr.heap[gs]? = some (.cells #[.string (⟨#[54, 47, 56]⟩ : ByteArray), .string (⟨#[53, 47, 49]⟩ : ByteArray), .string (⟨#[45, 48]⟩ : ByteArray), .string (⟨#[]⟩ : ByteArray), .string (⟨#[49, 47, 48]⟩ : ByteArray), .string (⟨#[47, 50]⟩ : ByteArray), .string (⟨#[48, 49]⟩ : ByteArray)] 9))
  case atStart => exact ⟨Or.inl ⟨rfl, rfl⟩, HS.out, HB.out, HSL.out⟩
  case round =>
    clear HS HB HSL
    obtain ⟨hli, hs_, hb_, hl_⟩ := hrel
    have HS := Lib.hid hs_
    have HB := Lib.hid hb_
    have HSL := Lib.hid hl_
    clear hs_ hb_ hl_
    rcases hli with ⟨rfl, rfl⟩ | ⟨rfl, rfl⟩ | ⟨rfl, rfl⟩ | ⟨rfl, rfl⟩ | ⟨rfl, rfl⟩ | ⟨rfl, rfl⟩ | ⟨rfl, rfl⟩ | ⟨rfl, rfl⟩
    · have c_ : wr.cell? ⟨gs, 0, none⟩ = some (.string (⟨#[54, 47, 56]⟩ : ByteArray)) := blk_cell HSL.out 0
      go_wp2_with (go_at_call 19; (with_reducible refine (K24.out _ (BK HB.out)).mono ?_); rintro e w_ ⟨rfl, hb_⟩; have HS2 := Lib.hid (HBx.below (HBx.later HS.out) hb_); have HB2 := Lib.hid (below_step (BK HB.out) hb_); have HSL2 := Lib.hid (blk_below HSL.out hb_); clear hb_ HS HB HSL; have HS := HS2; have HB := HB2; have HSL := HSL2; clear HS2 HB2 HSL2)
      go_roundg 6
      case measure => decide
      case rel => exact ⟨by unfold LI; simp, (HBx.cons _ _ _ HS.out).tail, BK HB.out, blk_later HSL.out⟩
    · have c_ : wr.cell? ⟨gs, 1, none⟩ = some (.string (⟨#[53, 47, 49]⟩ : ByteArray)) := blk_cell HSL.out 1
      go_wp2_with (go_at_call 19; (with_reducible refine (K25.out _ (BK HB.out)).mono ?_); rintro e w_ ⟨rfl, hb_⟩; have HS2 := Lib.hid (HBx.below (HBx.later HS.out) hb_); have HB2 := Lib.hid (below_step (BK HB.out) hb_); have HSL2 := Lib.hid (blk_below HSL.out hb_); clear hb_ HS HB HSL; have HS := HS2; have HB := HB2; have HSL := HSL2; clear HS2 HB2 HSL2)
      go_roundg 5
      case measure => decide
      case rel => exact ⟨by unfold LI; simp, (HBx.cons _ _ _ HS.out).tail, BK HB.out, blk_later HSL.out⟩
    · have c_ : wr.cell? ⟨gs, 2, none⟩ = some (.string (⟨#[45, 48]⟩ : ByteArray)) := blk_cell HSL.out 2
      go_wp2_with (go_at_call 19; (with_reducible refine (K26.out _ (BK HB.out)).mono ?_); rintro e w_ ⟨rfl, hb_⟩; have HS2 := Lib.hid (HBx.below (HBx.later HS.out) hb_); have HB2 := Lib.hid (below_step (BK HB.out) hb_); have HSL2 := Lib.hid (blk_below HSL.out hb_); clear hb_ HS HB HSL; have HS := HS2; have HB := HB2; have HSL := HSL2; clear HS2 HB2 HSL2)
      go_roundg 4
      case measure => decide
      case rel => exact ⟨by unfold LI; simp, (HBx.cons _ _ _ HS.out).tail, BK HB.out, blk_later HSL.out⟩
    · have c_ : wr.cell? ⟨gs, 3, none⟩ = some (.string (⟨#[]⟩ : ByteArray)) := blk_cell HSL.out 3
      go_wp2_with (go_at_call 19; (with_reducible refine (K27.out _ (BK HB.out)).mono ?_); rintro e w_ ⟨rfl, hb_⟩; have HS2 := Lib.hid (HBx.below (HBx.later HS.out) hb_); have HB2 := Lib.hid (below_step (BK HB.out) hb_); have HSL2 := Lib.hid (blk_below HSL.out hb_); clear hb_ HS HB HSL; have HS := HS2; have HB := HB2; have HSL := HSL2; clear HS2 HB2 HSL2)
      go_roundg 3
      case measure => decide
      case rel => exact ⟨by unfold LI; simp, (HBx.cons _ _ _ HS.out).tail, BK HB.out, blk_later HSL.out⟩
    · have c_ : wr.cell? ⟨gs, 4, none⟩ = some (.string (⟨#[49, 47, 48]⟩ : ByteArray)) := blk_cell HSL.out 4
      go_wp2_with (go_at_call 19; (with_reducible refine (K28.out _ (BK HB.out)).mono ?_); rintro e w_ ⟨rfl, hb_⟩; have HS2 := Lib.hid (HBx.below (HBx.later HS.out) hb_); have HB2 := Lib.hid (below_step (BK HB.out) hb_); have HSL2 := Lib.hid (blk_below HSL.out hb_); clear hb_ HS HB HSL; have HS := HS2; have HB := HB2; have HSL := HSL2; clear HS2 HB2 HSL2)
      go_roundg 2
      case measure => decide
      case rel => exact ⟨by unfold LI; simp, (HBx.cons _ _ _ HS.out).tail, BK HB.out, blk_later HSL.out⟩
    · have c_ : wr.cell? ⟨gs, 5, none⟩ = some (.string (⟨#[47, 50]⟩ : ByteArray)) := blk_cell HSL.out 5
      go_wp2_with (go_at_call 19; (with_reducible refine (K29.out _ (BK HB.out)).mono ?_); rintro e w_ ⟨rfl, hb_⟩; have HS2 := Lib.hid (HBx.below (HBx.later HS.out) hb_); have HB2 := Lib.hid (below_step (BK HB.out) hb_); have HSL2 := Lib.hid (blk_below HSL.out hb_); clear hb_ HS HB HSL; have HS := HS2; have HB := HB2; have HSL := HSL2; clear HS2 HB2 HSL2)
      go_roundg 1
      case measure => decide
      case rel => exact ⟨by unfold LI; simp, (HBx.cons _ _ _ HS.out).tail, BK HB.out, blk_later HSL.out⟩
    · have c_ : wr.cell? ⟨gs, 6, none⟩ = some (.string (⟨#[48, 49]⟩ : ByteArray)) := blk_cell HSL.out 6
      go_wp2_with (go_at_call 19; (with_reducible refine (K30.out _ (BK HB.out)).mono ?_); rintro e w_ ⟨rfl, hb_⟩; have HS2 := Lib.hid (HBx.below (HBx.later HS.out) hb_); have HB2 := Lib.hid (below_step (BK HB.out) hb_); have HSL2 := Lib.hid (blk_below HSL.out hb_); clear hb_ HS HB HSL; have HS := HS2; have HB := HB2; have HSL := HSL2; clear HS2 HB2 HSL2)
      go_roundg 0
      case measure => decide
      case rel => exact ⟨by unfold LI; simp, (HBx.cons _ _ _ HS.out).tail, BK HB.out, blk_later HSL.out⟩
    · obtain ⟨y01, y02, y03⟩ := (HS.out.get (g := g1) (x := false) (y := (⟨#[49]⟩ : ByteArray)) (z := (⟨#[50]⟩ : ByteArray)) (by simp)).cells
      go_wp2_with (first
      | (go_at_call 21; (with_reducible refine (K31.out _ (BK HB.out)).mono ?_); rintro e w_ ⟨rfl, hb_⟩; have HS2 := Lib.hid (HBx.below (HBx.later HS.out) hb_); have HB2 := Lib.hid (below_step (BK HB.out) hb_); clear hb_ HS HB; have HS := HS2; have HB := HB2; clear HS2 HB2)
      | (go_at_call 21; (with_reducible refine (K32.out _ (BK HB.out)).mono ?_); rintro e w_ ⟨rfl, hb_⟩; have HS2 := Lib.hid (HBx.below (HBx.later HS.out) hb_); have HB2 := Lib.hid (below_step (BK HB.out) hb_); clear hb_ HS HB; have HS := HS2; have HB := HB2; clear HS2 HB2)
      | (go_at_call 35; (with_reducible refine (K33.out _ (BK HB.out)).mono ?_); rintro e w_ ⟨rfl, hb_⟩; have HS2 := Lib.hid (HBx.below (HBx.later HS.out) hb_); have HB2 := Lib.hid (below_step (BK HB.out) hb_); clear hb_ HS HB; have HS := HS2; have HB := HB2; clear HS2 HB2)
      | (go_at_call 21; (with_reducible refine (K34.out _ (BK HB.out)).mono ?_); rintro e w_ ⟨rfl, hb_⟩; have HS2 := Lib.hid (HBx.below (HBx.later HS.out) hb_); have HB2 := Lib.hid (below_step (BK HB.out) hb_); clear hb_ HS HB; have HS := HS2; have HB := HB2; clear HS2 HB2))
      go_ret
      exact ⟨rfl, HB.out⟩
end Go.Proofs.YthpomhboogcigaaGreatDoor
end

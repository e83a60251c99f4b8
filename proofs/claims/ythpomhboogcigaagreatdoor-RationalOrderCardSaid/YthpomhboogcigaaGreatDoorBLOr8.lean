/- The texts of this claim, laid together by a program of this session (bundle.py). -/
import Derived.Test.YthpomhboogcigaaGreatDoorBLOr2
import Derived.Test.YthpomhboogcigaaGreatDoorBLOr6
import Derived.Test.YthpomhboogcigaaGreatDoorBLOr7
import Derived.WalkSmall
import Derived.Lib.SmallJoins
section -- NatLib
namespace Go.Proofs.YthpomhboogcigaaGreatDoor
open Go.Shelf Go.RowKit Go.Proofs.YthpomhboogcigaaGreatDoorW.PrintWords Go.Proofs.YthpomhboogcigaaGreatDoorW.PrintMore Go.Proofs.YthpomhboogcigaaGreatDoorW.PrintLast
set_option linter.unusedVariables false
set_option linter.unusedSimpArgs false
/-- The library's variables hold what they hold when the program begins. -/
structure Laid (w : World) : Prop where
  pow : Lib.TabIs Tryz.prog w "internal/strconv.uint64pow10" .u64 Lib.pow10Tab
  rng : ∃ tp p, w.var? Tryz.prog "strconv.ErrRange" = some #[.iface tp p]
theorem var_stays {P : Program} {w w' : World} {n : String} {cs : Array Value} (hb : Below w.heap.size w w') (hv : w.var? P n = some cs) : w'.var? P n = some cs := by
  unfold World.var? at hv ⊢
  cases hg : P.globalNamed n with
  | none => rw [hg] at hv; cases hv
  | some g =>
    rw [hg] at hv
    simp only [Option.bind_some] at hv ⊢
    have hlt : g < w.heap.size := by
      by_cases e : g < w.heap.size
      · exact e
      · rw [Array.getElem?_eq_none (by omega)] at hv; cases hv
    rw [hb.block g hlt]
    exact hv
theorem Laid.below {w w' : World} (h : Laid w) (hb : Below w.heap.size w w') : Laid w' := by
  obtain ⟨h1, tp, p, h2⟩ := h
  exact ⟨var_stays hb h1, tp, p, var_stays hb h2⟩
theorem lib_wstring (B b : Nat) (bs : List Value) (s : ByteArray) (w : World) (h : Lib.IsBuilder 111 5 B b bs w) (hlen : bs.length + s.size ≤ 140737488355328) (hBw : B ≤ w.heap.size) :
    Calls Tryz.prog 99 #[.pointer (some ⟨b, 0, none⟩), .string s] w fun e w' => e = .returned (.tuple #[.int .i64 s.size, .nilIface]) ∧ (Lib.BuilderAt 111 5 B b (.pointer (some ⟨b, 0, none⟩)) (bs ++ Lib.strCells s) w' ∧ Below B w w') := Any.Builder_WriteString { Tryz.lays105 with } Tryz.Builder_Extra_105 B b bs s w h hlen hBw
theorem lib_trim (s cutset : ByteArray) (w : World) (hs : s.size ≤ 9223372036854775807) (hcs : cutset.size < 4294967281) (hascii : ∀ (j : Nat) b, cutset.data.toList[j]? = some b → b.toNat < 128) :
    Calls Tryz.prog 66 #[.string s, .string cutset] w fun e w' => e = .returned (.string ⟨(Lib.trimS s.data.toList cutset.data.toList).toArray⟩) ∧ Below w.heap.size w w' := Any.strings_Trim_laid Tryz.laysT160 (by kernel_rfl) s cutset w hs hcs hascii
theorem below_grow (w : World) (k : Nat) (os : Array Obj) : Below w.heap.size w (Sort.grow (w.drewN k) os) :=
  ⟨rfl, rfl, rfl, by simp [Sort.grow, World.drewN], fun i hi => by
    show ((w.drewN k).heap ++ os)[i]? = _
    rw [Array.getElem?_append_left (show i < (w.drewN k).heap.size from hi)]; rfl⟩
def strconv_Itoa.f (n : Int) : Option ByteArray := if -9223372036854775808 ≤ n ∧ n ≤ 9223372036854775807 then some ⟨(Lib.itoa n).toArray⟩ else none
theorem strconv_Itoa.calls (a0 : Int) (r : ByteArray) (w : World) (hL : Laid w) (h : strconv_Itoa.f a0 = some r) :
    Calls Tryz.prog 98 #[.int .i64 a0] w fun e w' => e = .returned (.string r) ∧ Below w.heap.size w w' := by
  unfold strconv_Itoa.f at h
  split at h
  case isFalse => cases h
  rename_i hn
  injection h with h
  subst h
  refine (Tryz.strconv_Itoa a0 hn.1 hn.2 w hL.pow).mono ?_
  rintro e w' ⟨rfl, k, os, rfl⟩
  exact ⟨rfl, below_grow w k os⟩
/-- strconv.Atoi at digits that spell an int. -/
def strconv_Atoi.f (s : ByteArray) : Option (Int × Option Int) := if s.data.toList.all isDig && decide (1 ≤ s.size) && decide (s.size ≤ 18) then some (valS s, none) else none
theorem strconv_Atoi.ok {a0 : ByteArray} (h1 : ∀ c ∈ a0.data.toList, isDig c = true) (h2 : 1 ≤ a0.size) (h3 : num a0.data.toList < 9223372036854775808) (h4 : a0.size ≤ 9223372036854775806) (w : World) :
    Calls Tryz.prog 97 #[.string a0] w fun e w' => e = .returned (.tuple #[.int .i64 (valS a0), .nilIface]) ∧ Below w.heap.size w w' := by
  have hne : a0.data.toList ≠ [] := by intro e; have := size_list a0; rw [e] at this; simp at this; omega
  have ha : Lib.atoiAll a0.data.toList = .ok (valS a0 : Int) := by rw [atoi_digits h1 hne, if_pos h3]; rfl
  refine (Tryz.strconv_Atoi_ok a0 h4 _ ha w).mono ?_
  rintro e w' ⟨rfl, hw⟩
  refine ⟨rfl, ?_⟩
  rcases hw with rfl | ⟨t, rfl⟩
  · exact Below.refl _ _
  · exact Joins.below_bytesWorld _ _ _ _ (Nat.le_refl _)
theorem tp18 : tp 18 = 1000000000000000000 := by decide
def atoiErrW : Option Int → Value
  | none => .nilIface
  | some c => .iface 0 (.int .i64 c)
theorem strconv_Atoi.calls (a0 : ByteArray) (r1 : Int) (r2 : Option Int) (w : World) (h : strconv_Atoi.f a0 = some (r1, r2)) :
    Calls Tryz.prog 97 #[.string a0] w fun e w' => e = .returned (.tuple #[.int .i64 r1, atoiErrW r2]) ∧ Below w.heap.size w w' := by
  unfold strconv_Atoi.f at h
  split at h
  case isFalse => cases h
  rename_i hg
  simp only [Bool.and_eq_true, List.all_eq_true, decide_eq_true_eq] at hg
  obtain ⟨⟨h1, h2⟩, h3⟩ := hg
  simp only [Option.some.injEq, Prod.mk.injEq] at h
  obtain ⟨rfl, rfl⟩ := h
  have hu := num_lt h1
  have hm := tp_mono (show a0.data.toList.length ≤ 18 from h3)
  rw [tp18] at hm
  exact strconv_Atoi.ok h1 h2 (by omega) (by omega) w
def natural_Valid.f (a : ByteArray) : Option Bool := some (validS a)
theorem bt0 (a : ByteArray) (h : 0 < a.size) : (((a[0]'h).toNat : Int) != 48) = !(a.data.toList.head? == some 48) := by
  obtain ⟨⟨l⟩⟩ := a
  cases l with
  | nil => simp [ByteArray.size] at h
  | cons c r =>
    show (((c.toNat : Int)) != 48) = !(some c == some 48)
    by_cases e : c = 48
    · subst e; rfl
    · have h1 : ((c.toNat : Int) != 48) = true := by
        rw [bne_iff_ne]; intro z; exact e (UInt8.toNat_inj.1 (by show c.toNat = 48; omega))
      have h2 : (some c == some (48 : UInt8)) = false := by simpa using e
      rw [h1, h2]; rfl
theorem valid_trim (a0 : ByteArray) (hs : a0.size ≤ 1000) (w : World) : Calls Tryz.prog 66 #[.string a0, .string ⟨#[48, 49, 50, 51, 52, 53, 54, 55, 56, 57]⟩] w fun e w' => ∃ T : ByteArray, e = .returned (.string T) ∧ T.toList.isEmpty = a0.data.toList.all isDig ∧ Below w.heap.size w w' := by
  refine (lib_trim a0 _ w (by omega) (by decide) (ascii_of_all (by decide))).mono ?_
  rintro e w' ⟨rfl, hb⟩
  refine ⟨_, rfl, ?_, hb⟩
  rw [Lib.toList_data]
  have := trim_digits a0.data.toList
  rw [Bool.eq_iff_iff, List.isEmpty_iff, List.all_eq_true]
  exact this
set_option maxHeartbeats 1000000 in
theorem natural_Valid.calls (a0 : ByteArray) (r : Bool) (w : World) (hL : Laid w) (h : natural_Valid.f a0 = some r) :
    Calls Tryz.prog 41 #[.string a0] w fun e w' => e = .returned (.bool r) ∧ Below w.heap.size w w' := by
  injection h with h
  subst h
  clear hL
  by_cases h1 : (1 : Int) ≤ (a0.size : Int)
  case neg =>
    have e : validS a0 = false := by
      rw [Bool.eq_false_iff]; intro z; have := (validL_iff.1 z).1; rw [size_list] at this; omega
    rw [e]
    go_enter Tryz.func41, Tryz.ntmps41
    go_wp2_with fail
    go_ret
    exact ⟨rfl, Below.refl _ _⟩
  by_cases h2 : (a0.size : Int) ≤ 1000
  case neg =>
    have e : validS a0 = false := by
      rw [Bool.eq_false_iff]; intro z; have := (validL_iff.1 z).2.1; rw [size_list] at this; omega
    rw [e]
    go_enter Tryz.func41, Tryz.ntmps41
    go_wp2_with fail
    go_ret
    exact ⟨rfl, Below.refl _ _⟩
  have h0 : (0 : Int) < (a0.size : Int) := by omega
  have hs : a0.size ≤ 1000 := by omega
  by_cases hd : a0.data.toList.all isDig = true
  case neg =>
    have e : validS a0 = false := by
      rw [Bool.eq_false_iff]; intro z; exact hd (List.all_eq_true.2 (validL_iff.1 z).2.2.1)
    rw [e]
    have hd' : a0.data.toList.all isDig = false := by simpa using hd
    have HT := Lib.hid (fun W => valid_trim a0 hs W)
    have HD := Lib.hid hd'
    clear hd hd' e
    go_enter Tryz.func41, Tryz.ntmps41
    go_wp2_with (go_at_call 66; (with_reducible refine (HT.out _).mono ?_); rintro e w2 ⟨T, rfl, hT, hb⟩; rw [HD.out] at hT; have HB := Aside0.mk hb; clear hb)
    go_ret
    exact ⟨rfl, HB.out⟩
  have HT := Lib.hid (fun W => valid_trim a0 hs W)
  have HD := Lib.hid hd
  have hb0 := bt0 a0 (by omega)
  have hv : validS a0 = (!(a0.data.toList.head? == some 48) || decide (a0.data.toList.length = 1)) := by
    unfold validS validL
    rw [hd, size_list]; simp [show 1 ≤ a0.size by omega, hs]
  rw [hv, size_list]
  clear hd hv
  by_cases hh : (a0.data.toList.head? == some 48) = true
  · rw [hh] at hb0 ⊢
    by_cases hn : a0.size = 1
    · have hn1 : ((a0.size : Int) == 1) = true := by rw [beq_iff_eq]; omega
      rw [show (!true || decide (a0.size = 1)) = true by simp [hn]]
      have HN := Lib.hid hn
      clear hn hh
      go_enter Tryz.func41, Tryz.ntmps41
      go_wp2_with (go_at_call 66; (with_reducible refine (HT.out _).mono ?_); rintro e w2 ⟨T, rfl, hT, hb⟩; rw [HD.out] at hT; have HB := Aside0.mk hb; clear hb)
      go_ret
      exact ⟨rfl, HB.out⟩
    · have hn1 : ((a0.size : Int) == 1) = false := by rw [beq_eq_false_iff_ne]; omega
      rw [show (!true || decide (a0.size = 1)) = false by simp [hn]]
      have HN := Lib.hid hn
      clear hn hh
      go_enter Tryz.func41, Tryz.ntmps41
      go_wp2_with (go_at_call 66; (with_reducible refine (HT.out _).mono ?_); rintro e w2 ⟨T, rfl, hT, hb⟩; rw [HD.out] at hT; have HB := Aside0.mk hb; clear hb)
      go_ret
      exact ⟨rfl, HB.out⟩
  · have hh' : (a0.data.toList.head? == some 48) = false := by simpa using hh
    rw [hh'] at hb0 ⊢
    rw [show (!false || decide (a0.size = 1)) = true by simp]
    clear hh hh'
    go_enter Tryz.func41, Tryz.ntmps41
    go_wp2_with (go_at_call 66; (with_reducible refine (HT.out _).mono ?_); rintro e w2 ⟨T, rfl, hT, hb⟩; rw [HD.out] at hT; have HB := Aside0.mk hb; clear hb)
    go_ret
    exact ⟨rfl, HB.out⟩
end Go.Proofs.YthpomhboogcigaaGreatDoor
end

/- The texts of this claim, laid together by a program of this session (bundle.py). -/
import Derived.Test.YthpomhboogcigaaGreatDoorBLOr1
import Derived.Test.YthpomhboogcigaaGreatDoorProg
import Derived.WalkKit
import Derived.RegionTactic
import Derived.Deep.QuietTactic
import Derived.BigQuiet
import Derived.WalkLawsBesides
import Derived.WalkSpells
import Derived.Lib.Hide
section -- NatPut
namespace Go.Proofs.YthpomhboogcigaaGreatDoor
open Go.RowKit Go.Proofs.YthpomhboogcigaaGreatDoorW.PrintWords Go.Proofs.YthpomhboogcigaaGreatDoorW.PrintMore
set_option linter.unusedVariables false
set_option linter.unusedSimpArgs false
theorem tmod_lt' (x : Int) : -1000000000 < x.tmod 1000000000 ∧ x.tmod 1000000000 < 1000000000 := by
  have a := Int.lt_tmod_of_pos x (show (0 : Int) < 1000000000 by decide)
  have b := Int.tmod_lt_of_pos x (show (0 : Int) < 1000000000 by decide)
  omega
theorem tmod_ediv_pos (x : Int) (h : 0 ≤ x.tmod 1000000000) : x.tdiv 1000000000 = x / 1000000000 ∧ x.tmod 1000000000 = x % 1000000000 := by
  have e := Int.mul_tdiv_add_tmod x 1000000000
  have l := tmod_lt' x
  omega
theorem tmod_ediv_neg (x : Int) (h : x.tmod 1000000000 < 0) : x.tdiv 1000000000 - 1 = x / 1000000000 ∧ x.tmod 1000000000 + 1000000000 = x % 1000000000 := by
  have e := Int.mul_tdiv_add_tmod x 1000000000
  have l := tmod_lt' x
  omega
/-- What stands while collect goes round: the cell of what is carried, the cell of the slice, the slice's row. -/
structure PutInv (cb ob base : Nat) (w0 : World) (v : Value) (c : Int) (xs : List Int) (W : World) : Prop where
  carry : W.heap[cb]? = some (.cells #[.int .i64 c] 3 (0, 0))
  out : W.heap[ob]? = some (.cells #[v] 81 (0, 0))
  row : Kd.R (Kd.int .i64) 3 W base (fun k => k ≠ cb) v xs
  below : Below base w0 W
  cbase : base ≤ cb
  obase : base ≤ ob
theorem PutInv.later {cb ob base : Nat} {w0 W W' : World} {v : Value} {c : Int} {xs : List Int} (h : PutInv cb ob base w0 v c xs W) (hb : Below W.heap.size W W') (hs : base ≤ W.heap.size) : PutInv cb ob base w0 v c xs W' :=
  ⟨(hb.block cb (lt_of_block h.carry)).trans h.carry, (hb.block ob (lt_of_block h.out)).trans h.out, Kd.R_below h.row hb, h.below.trans (hb.mono hs), h.cbase, h.obase⟩
theorem PutInv.ne {cb ob base : Nat} {w0 W : World} {v : Value} {c : Int} {xs : List Int} (h : PutInv cb ob base w0 v c xs W) : cb ≠ ob := by
  intro e
  have a := h.carry
  rw [e, h.out] at a
  injection a with a
  injection a with a b
  exact absurd b (by decide)
theorem PutInv.carry_set {cb ob base : Nat} {w0 W : World} {v : Value} {c : Int} {xs : List Int} (h : PutInv cb ob base w0 v c xs W) (c' : Int) : PutInv cb ob base w0 v c' xs (W.setCell ⟨cb, 0, none⟩ (.int .i64 c')) :=
  ⟨one_setCell h.carry, (Below.heap_setCell W ⟨cb, 0, none⟩ (.int .i64 c') ob (show ob ≠ cb from fun e => h.ne e.symm)).trans h.out, Kd.R_far h.row (fun _ hk => hk) _, h.below.setCell h.cbase _, h.cbase, h.obase⟩
theorem PutInv.row_set {cb ob base g cap n : Nat} {w0 W : World} {c : Int} {xs : List Int} (h : PutInv cb ob base w0 (.slice (some ⟨g, 0, none⟩) n cap) c xs W) (i : Nat) (x : Int) :
    PutInv cb ob base w0 (.slice (some ⟨g, 0, none⟩) n cap) c (xs.set i x) (W.setCell ⟨g, i, none⟩ (.int .i64 x)) := by
  have hg : cb ≠ g := fun e => h.row.1 g rfl e.symm
  have ho : ob ≠ g := fun e => Kd.R_ne h.row h.out (by decide) (by rw [e]; rfl)
  refine ⟨(Below.heap_setCell W ⟨g, i, none⟩ (.int .i64 x) cb hg).trans h.carry, (Below.heap_setCell W ⟨g, i, none⟩ (.int .i64 x) ob ho).trans h.out, ?_, h.below.setCell (Kd.R_base h.row g rfl) _, h.cbase, h.obase⟩
  exact Kd.R_putn h.row (i : Int) x
theorem PutInv.drewN {cb ob base : Nat} {w0 W : World} {v : Value} {c : Int} {xs : List Int} (h : PutInv cb ob base w0 v c xs W) (n : Nat) : PutInv cb ob base w0 v c xs (W.drewN n) :=
  ⟨h.carry, h.out, Kd.R_drewN h.row n, pw_below_drewN h.below n, h.cbase, h.obase⟩
theorem PutInv.drew {cb ob base : Nat} {w0 W : World} {v : Value} {c : Int} {xs : List Int} (h : PutInv cb ob base w0 v c xs W) : PutInv cb ob base w0 v c xs W.drew :=
  ⟨h.carry, h.out, Kd.R_drew h.row, below_drew h.below, h.cbase, h.obase⟩
set_option maxHeartbeats 1000000 in
theorem put_calls (cb ob base : Nat) (i : Nat) (s carry : Int) (xs : List Int) (v : Value) (w0 w : World)
    (hi : i < xs.length)
    (hs1 : -4000000000000000000 ≤ s) (hs2 : s ≤ 4000000000000000000) (hk1 : -4000000000000000000 ≤ carry) (hk2 : carry ≤ 4000000000000000000)
    (H : PutInv cb ob base w0 v carry xs w) :
    Calls Tryz.prog 131 #[.int .i64 (i : Int), .int .i64 s, .pointer (some ⟨cb, 0, none⟩), .pointer (some ⟨ob, 0, none⟩)] w fun e w' => e = .returned (.tuple #[]) ∧
      PutInv cb ob base w0 v ((s + carry) / 1000000000) (xs.set i ((s + carry) % 1000000000)) w' := by
  obtain ⟨g, cap, hv, _, _, _⟩ := Kd.R_form H.row (by omega)
  subst hv
  have hn : (xs.length : Int) ≤ 9223372036854775807 := by
    obtain ⟨A, c, e, hc, hr⟩ := Kd.R_reads H.row
    have := Kd.C_max hr
    omega
  have hc := cell_of_one H.carry
  have hcf := free_of_one H.carry
  have ho := cell_of_one H.out
  have hne : ¬ cb = ob := H.ne
  have hng : ¬ cb = g := fun e => H.row.1 g rfl e.symm
  obtain ⟨hx, hxf⟩ := Kd.R_cell (0 : Int) H.row (i : Int) (by omega) (by omega)
  simp only [Int.toNat_natCast] at hx hxf
  have hi' : (i : Int) < (xs.length : Int) := by omega
  have hb := tmod_lt' (s + carry)
  have HH := Lib.hid H
  clear H
  generalize xs.length = n at *
  by_cases h : 0 ≤ (s + carry).tmod 1000000000
  · have E := tmod_ediv_pos (s + carry) h
    have EQ := Lib.hid E
    clear E
    go_enter Tryz.func131, Tryz.ntmps131
    go_wp2
    go_end0
    refine ⟨rfl, ?_⟩
    rw [← EQ.out.1, ← EQ.out.2]
    exact (HH.out.carry_set _).row_set i _
  · have h' : (s + carry).tmod 1000000000 < 0 := by omega
    have E := tmod_ediv_neg (s + carry) h'
    have q1 : -4611686018427387904 ≤ (s + carry).tdiv 1000000000 := by omega
    have q2 : (s + carry).tdiv 1000000000 ≤ 4611686018427387904 := by omega
    have EQ := Lib.hid E
    clear E h
    go_enter Tryz.func131, Tryz.ntmps131
    go_wp2
    go_region
    all_goals go_wp2
    all_goals go_end0
    all_goals refine ⟨rfl, ?_⟩
    all_goals rw [← EQ.out.1, ← EQ.out.2]
    all_goals exact (((HH.out.carry_set _).carry_set _).row_set i _).drew
end Go.Proofs.YthpomhboogcigaaGreatDoor
end

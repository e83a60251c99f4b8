/- Written by a program of this session (xprint.sh), out of the translation: Lean functions that tell what Go functions of the program tell, and the proofs that they do, over the given callees; no condition but what each theorem states. -/
import Derived.Test.YtdhhbmmidgebhaaGreatDoorXMat0
namespace Go.Proofs.YtdhhbmmidgebhaaGreatDoor.XMat
open Go.RowKit Go.Proofs.YtdhhbmmidgebhaaGreatDoorW.PrintWords Go.Proofs.YtdhhbmmidgebhaaGreatDoorW.PrintLast Go.Proofs.YtdhhbmmidgebhaaGreatDoorW.PrintMore
attribute [local go_sem] max2_int min2_int max_two min_two max_three min_three max_four min_four   -- for this text's walks alone
set_option linter.unusedVariables false
set_option linter.unusedSimpArgs false

-- given: function 5 (observatorylaw03_head)

-- given: function 6 (observatorylaw03_few)

-- given: function 7 (natural_Add)

-- given: function 8 (observatoryref03_Add)

-- given: function 9 (natural_Sub)

-- given: function 10 (observatoryref03_Sub)

-- given: function 11 (natural_Mul)

-- given: function 12 (observatoryref03_Mul)

-- given: function 13 (natural_Div)

-- given: function 14 (observatoryref03_Div)

-- given: function 15 (natural_Gcd)

-- given: function 16 (observatoryref03_Gcd)

-- given: function 17 (natural_Of)

-- given: function 18 (observatoryref03_Of)

-- given: function 19 (natural_Int)

-- given: function 20 (observatoryref03_Int)

-- given: function 21 (natural_Valid)

-- given: function 22 (observatoryref03_Valid)

-- given: function 23 (natural_Compare)

-- given: function 24 (observatoryref03_Compare)

/-! ### observatorylaw03_NaturalMatchesReference: function 3 -/
mutual
def observatorylaw03_NaturalMatchesReference.j0 : Nat → ByteArray → ByteArray → Int → Bool → Bool → Option (Bool)
  | 0, _, _, _, _, _ => none
  | k + 1, x0, x1, x2, x7, x20 => (natural_Div.f x0 x1).bind fun bt118 => ((observatoryref03_Div.f x0 x1).bind fun bt121 => ((natural_Gcd.f x0 x1).bind fun bt124 => ((observatoryref03_Gcd.f x0 x1).bind fun bt126 => (if bt118.1.toList = bt121.1.toList then (if bt118.2.1.toList = bt121.2.1.toList then (if bt118.2.2 = bt121.2.2 then (if bt124.1.toList = bt126.1.toList then (observatorylaw03_NaturalMatchesReference.j1 k x0 x1 x2 x7 x20 (bt124.2 == bt126.2)) else (observatorylaw03_NaturalMatchesReference.j1 k x0 x1 x2 x7 x20 false)) else (observatorylaw03_NaturalMatchesReference.j1 k x0 x1 x2 x7 x20 false)) else (observatorylaw03_NaturalMatchesReference.j1 k x0 x1 x2 x7 x20 false)) else (observatorylaw03_NaturalMatchesReference.j1 k x0 x1 x2 x7 x20 false)))))
def observatorylaw03_NaturalMatchesReference.j1 : Nat → ByteArray → ByteArray → Int → Bool → Bool → Bool → Option (Bool)
  | 0, _, _, _, _, _, _ => none
  | k + 1, x0, x1, x2, x7, x20, x31 => (natural_Of.f x2).bind fun bt128 => ((observatoryref03_Of.f x2).bind fun bt130 => ((natural_Int.f x0).bind fun bt132 => ((observatoryref03_Int.f x0).bind fun bt134 => (if x7 = true then (if x20 = true then (if x31 = true then (if bt128.1.toList = bt130.1.toList then (if bt128.2 = bt130.2 then (if bt132.1 = bt134.1 then (if bt132.2 = bt134.2 then ((natural_Valid.f x0).bind fun t136 => ((observatoryref03_Valid.f x0).bind fun t137 => (if (t136 == t137) = true then ((natural_Compare.f x0 x1).bind fun t138 => ((observatoryref03_Compare.f x0 x1).bind fun t139 => (some (t138 == t139)))) else (some false)))) else (some false)) else (some false)) else (some false)) else (some false)) else (some false)) else (some false)) else (some false)))))
end
def observatorylaw03_NaturalMatchesReference.f (k : Nat) (a0 : ByteArray) (a1 : ByteArray) (a2 : Int) : Option (Bool) := (observatorylaw03_head.f).bind fun t101 => ((observatorylaw03_few.f (([a0, a1] : List ByteArray))).bind fun t105 => (if t105 = true then ((natural_Add.f a0 a1).bind fun bt106 => ((observatoryref03_Add.f a0 a1).bind fun bt108 => ((natural_Sub.f a0 a1).bind fun bt110 => ((observatoryref03_Sub.f a0 a1).bind fun bt112 => ((natural_Mul.f a0 a1).bind fun bt114 => ((observatoryref03_Mul.f a0 a1).bind fun bt116 => (if bt106.1.toList = bt108.1.toList then (if bt106.2 = bt108.2 then (if bt110.1.toList = bt112.1.toList then (if bt110.2 = bt112.2 then (if bt114.1.toList = bt116.1.toList then (observatorylaw03_NaturalMatchesReference.j0 k a0 a1 a2 t101 (bt114.2 == bt116.2)) else (observatorylaw03_NaturalMatchesReference.j0 k a0 a1 a2 t101 false)) else (observatorylaw03_NaturalMatchesReference.j0 k a0 a1 a2 t101 false)) else (observatorylaw03_NaturalMatchesReference.j0 k a0 a1 a2 t101 false)) else (observatorylaw03_NaturalMatchesReference.j0 k a0 a1 a2 t101 false)) else (observatorylaw03_NaturalMatchesReference.j0 k a0 a1 a2 t101 false)))))))) else (some t101)))
theorem observatorylaw03_NaturalMatchesReference.mono_l : ∀ k, (∀ y0 y1 y2 y3 y4, LeO (observatorylaw03_NaturalMatchesReference.j0 k y0 y1 y2 y3 y4) (observatorylaw03_NaturalMatchesReference.j0 (k + 1) y0 y1 y2 y3 y4)) ∧ (∀ y0 y1 y2 y3 y4 y5, LeO (observatorylaw03_NaturalMatchesReference.j1 k y0 y1 y2 y3 y4 y5) (observatorylaw03_NaturalMatchesReference.j1 (k + 1) y0 y1 y2 y3 y4 y5))
  | 0 => ⟨fun _ _ _ _ _ r h => by simp [observatorylaw03_NaturalMatchesReference.j0] at h, fun _ _ _ _ _ _ r h => by simp [observatorylaw03_NaturalMatchesReference.j1] at h⟩
  | k + 1 => by
    obtain ⟨ih0, ih1⟩ := observatorylaw03_NaturalMatchesReference.mono_l k
    refine ⟨?_, ?_⟩
    · intro y0 y1 y2 y3 y4
      unfold observatorylaw03_NaturalMatchesReference.j0
      repeat' first
      | (with_reducible exact ih0 _ _ _ _ _)
      | (with_reducible exact ih1 _ _ _ _ _ _)
      | (with_reducible exact LeO.refl _)
      | (with_reducible exact LeO.none _)
      | (with_reducible refine LeO.ite ?_ ?_)
      | (with_reducible refine LeO.bind ?_ (fun _ => ?_))
      | exact ih0 _ _ _ _ _
      | exact ih1 _ _ _ _ _ _
      | exact LeO.none _
      | refine LeO.ite ?_ ?_
      | refine LeO.bind ?_ (fun _ => ?_)
    · intro y0 y1 y2 y3 y4 y5
      unfold observatorylaw03_NaturalMatchesReference.j1
      repeat' first
      | (with_reducible exact ih0 _ _ _ _ _)
      | (with_reducible exact ih1 _ _ _ _ _ _)
      | (with_reducible exact LeO.refl _)
      | (with_reducible exact LeO.none _)
      | (with_reducible refine LeO.ite ?_ ?_)
      | (with_reducible refine LeO.bind ?_ (fun _ => ?_))
      | exact ih0 _ _ _ _ _
      | exact ih1 _ _ _ _ _ _
      | exact LeO.none _
      | refine LeO.ite ?_ ?_
      | refine LeO.bind ?_ (fun _ => ?_)
theorem observatorylaw03_NaturalMatchesReference.mono : ∀ a0 a1 a2 k, LeO (observatorylaw03_NaturalMatchesReference.f k a0 a1 a2) (observatorylaw03_NaturalMatchesReference.f (k + 1) a0 a1 a2) := by
  intro a0 a1 a2 k
  obtain ⟨ih0, ih1⟩ := observatorylaw03_NaturalMatchesReference.mono_l k
  unfold observatorylaw03_NaturalMatchesReference.f
  repeat' first
      | (with_reducible exact ih0 _ _ _ _ _)
      | (with_reducible exact ih1 _ _ _ _ _ _)
      | (with_reducible exact LeO.refl _)
      | (with_reducible exact LeO.none _)
      | (with_reducible refine LeO.ite ?_ ?_)
      | (with_reducible refine LeO.bind ?_ (fun _ => ?_))
      | exact ih0 _ _ _ _ _
      | exact ih1 _ _ _ _ _ _
      | exact LeO.none _
      | refine LeO.ite ?_ ?_
      | refine LeO.bind ?_ (fun _ => ?_)
set_option maxHeartbeats 8000000 in
set_option maxRecDepth 100000 in
theorem observatorylaw03_NaturalMatchesReference.calls (k : Nat) (a0 : ByteArray) (a1 : ByteArray) (a2 : Int) (r : Bool) (w : World) (hL : Laid w) (h : observatorylaw03_NaturalMatchesReference.f k a0 a1 a2 = some r) :
    Calls Tryz.prog 3 #[.string a0, .string a1, .int .i64 a2] w fun e w' => e = .returned (.bool r) ∧ Below w.heap.size w w' := by
  have HLaid := Aside0.mk hL
  clear hL
  have HB := Aside0.mk (Below.refl w.heap.size w)
  have H : ((observatorylaw03_head.f).bind fun t101 => ((observatorylaw03_few.f (([a0, a1] : List ByteArray))).bind fun t105 => (if t105 = true then ((natural_Add.f a0 a1).bind fun bt106 => ((observatoryref03_Add.f a0 a1).bind fun bt108 => ((natural_Sub.f a0 a1).bind fun bt110 => ((observatoryref03_Sub.f a0 a1).bind fun bt112 => ((natural_Mul.f a0 a1).bind fun bt114 => ((observatoryref03_Mul.f a0 a1).bind fun bt116 => (if bt106.1.toList = bt108.1.toList then (if bt106.2 = bt108.2 then (if bt110.1.toList = bt112.1.toList then (if bt110.2 = bt112.2 then (if bt114.1.toList = bt116.1.toList then (observatorylaw03_NaturalMatchesReference.j0 k a0 a1 a2 t101 (bt114.2 == bt116.2)) else (observatorylaw03_NaturalMatchesReference.j0 k a0 a1 a2 t101 false)) else (observatorylaw03_NaturalMatchesReference.j0 k a0 a1 a2 t101 false)) else (observatorylaw03_NaturalMatchesReference.j0 k a0 a1 a2 t101 false)) else (observatorylaw03_NaturalMatchesReference.j0 k a0 a1 a2 t101 false)) else (observatorylaw03_NaturalMatchesReference.j0 k a0 a1 a2 t101 false)))))))) else (some t101)))) = some r := h
  clear h
  replace H := Option.bind_eq_some_iff.mp H
  obtain ⟨t101, A40, H⟩ := H
  replace H : ((observatorylaw03_few.f (([a0, a1] : List ByteArray))).bind fun t105 => (if t105 = true then ((natural_Add.f a0 a1).bind fun bt106 => ((observatoryref03_Add.f a0 a1).bind fun bt108 => ((natural_Sub.f a0 a1).bind fun bt110 => ((observatoryref03_Sub.f a0 a1).bind fun bt112 => ((natural_Mul.f a0 a1).bind fun bt114 => ((observatoryref03_Mul.f a0 a1).bind fun bt116 => (if bt106.1.toList = bt108.1.toList then (if bt106.2 = bt108.2 then (if bt110.1.toList = bt112.1.toList then (if bt110.2 = bt112.2 then (if bt114.1.toList = bt116.1.toList then (observatorylaw03_NaturalMatchesReference.j0 k a0 a1 a2 t101 (bt114.2 == bt116.2)) else (observatorylaw03_NaturalMatchesReference.j0 k a0 a1 a2 t101 false)) else (observatorylaw03_NaturalMatchesReference.j0 k a0 a1 a2 t101 false)) else (observatorylaw03_NaturalMatchesReference.j0 k a0 a1 a2 t101 false)) else (observatorylaw03_NaturalMatchesReference.j0 k a0 a1 a2 t101 false)) else (observatorylaw03_NaturalMatchesReference.j0 k a0 a1 a2 t101 false)))))))) else (some t101))) = some r := H
  have A4 := Aside0.mk A40
  clear A40
  obtain ⟨y102, hy102⟩ : ∃ y_ : List ByteArray, y_ = (([a0, a1] : List ByteArray)) := ⟨_, rfl⟩
  replace H : ((observatorylaw03_few.f y102).bind fun t105 => (if t105 = true then ((natural_Add.f a0 a1).bind fun bt106 => ((observatoryref03_Add.f a0 a1).bind fun bt108 => ((natural_Sub.f a0 a1).bind fun bt110 => ((observatoryref03_Sub.f a0 a1).bind fun bt112 => ((natural_Mul.f a0 a1).bind fun bt114 => ((observatoryref03_Mul.f a0 a1).bind fun bt116 => (if bt106.1.toList = bt108.1.toList then (if bt106.2 = bt108.2 then (if bt110.1.toList = bt112.1.toList then (if bt110.2 = bt112.2 then (if bt114.1.toList = bt116.1.toList then (observatorylaw03_NaturalMatchesReference.j0 k a0 a1 a2 t101 (bt114.2 == bt116.2)) else (observatorylaw03_NaturalMatchesReference.j0 k a0 a1 a2 t101 false)) else (observatorylaw03_NaturalMatchesReference.j0 k a0 a1 a2 t101 false)) else (observatorylaw03_NaturalMatchesReference.j0 k a0 a1 a2 t101 false)) else (observatorylaw03_NaturalMatchesReference.j0 k a0 a1 a2 t101 false)) else (observatorylaw03_NaturalMatchesReference.j0 k a0 a1 a2 t101 false)))))))) else (some t101))) = some r := by first | (rw [hy102]; with_reducible exact H) | (have H2_ := (Option.bind_some _ _).symm.trans H; rw [hy102]; with_reducible exact H2_) | (have H2_ := (Option.bind_some _ _).symm.trans H; with_reducible exact H2_) | with_reducible exact H | (rw [hy102]; exact H) | exact H
  have Ny102 := Aside0.mk hy102
  clear hy102
  replace H := Option.bind_eq_some_iff.mp H
  obtain ⟨t105, A50, H⟩ := H
  replace H : (if t105 = true then ((natural_Add.f a0 a1).bind fun bt106 => ((observatoryref03_Add.f a0 a1).bind fun bt108 => ((natural_Sub.f a0 a1).bind fun bt110 => ((observatoryref03_Sub.f a0 a1).bind fun bt112 => ((natural_Mul.f a0 a1).bind fun bt114 => ((observatoryref03_Mul.f a0 a1).bind fun bt116 => (if bt106.1.toList = bt108.1.toList then (if bt106.2 = bt108.2 then (if bt110.1.toList = bt112.1.toList then (if bt110.2 = bt112.2 then (if bt114.1.toList = bt116.1.toList then (observatorylaw03_NaturalMatchesReference.j0 k a0 a1 a2 t101 (bt114.2 == bt116.2)) else (observatorylaw03_NaturalMatchesReference.j0 k a0 a1 a2 t101 false)) else (observatorylaw03_NaturalMatchesReference.j0 k a0 a1 a2 t101 false)) else (observatorylaw03_NaturalMatchesReference.j0 k a0 a1 a2 t101 false)) else (observatorylaw03_NaturalMatchesReference.j0 k a0 a1 a2 t101 false)) else (observatorylaw03_NaturalMatchesReference.j0 k a0 a1 a2 t101 false)))))))) else (some t101)) = some r := H
  have A5 := Aside0.mk A50
  clear A50
  by_cases c6 : t105 = true
  · subst c6
    have H1 : ((natural_Add.f a0 a1).bind fun bt106 => ((observatoryref03_Add.f a0 a1).bind fun bt108 => ((natural_Sub.f a0 a1).bind fun bt110 => ((observatoryref03_Sub.f a0 a1).bind fun bt112 => ((natural_Mul.f a0 a1).bind fun bt114 => ((observatoryref03_Mul.f a0 a1).bind fun bt116 => (if bt106.1.toList = bt108.1.toList then (if bt106.2 = bt108.2 then (if bt110.1.toList = bt112.1.toList then (if bt110.2 = bt112.2 then (if bt114.1.toList = bt116.1.toList then (observatorylaw03_NaturalMatchesReference.j0 k a0 a1 a2 t101 (bt114.2 == bt116.2)) else (observatorylaw03_NaturalMatchesReference.j0 k a0 a1 a2 t101 false)) else (observatorylaw03_NaturalMatchesReference.j0 k a0 a1 a2 t101 false)) else (observatorylaw03_NaturalMatchesReference.j0 k a0 a1 a2 t101 false)) else (observatorylaw03_NaturalMatchesReference.j0 k a0 a1 a2 t101 false)) else (observatorylaw03_NaturalMatchesReference.j0 k a0 a1 a2 t101 false)))))))) = some r := by rw [if_pos rfl] at H; exact H
    clear H
    have H := H1
    clear H1
    replace H := Option.bind_eq_some_iff.mp H
    obtain ⟨⟨t106, t107⟩, A70, H⟩ := H
    replace H : ((observatoryref03_Add.f a0 a1).bind fun bt108 => ((natural_Sub.f a0 a1).bind fun bt110 => ((observatoryref03_Sub.f a0 a1).bind fun bt112 => ((natural_Mul.f a0 a1).bind fun bt114 => ((observatoryref03_Mul.f a0 a1).bind fun bt116 => (if t106.toList = bt108.1.toList then (if t107 = bt108.2 then (if bt110.1.toList = bt112.1.toList then (if bt110.2 = bt112.2 then (if bt114.1.toList = bt116.1.toList then (observatorylaw03_NaturalMatchesReference.j0 k a0 a1 a2 t101 (bt114.2 == bt116.2)) else (observatorylaw03_NaturalMatchesReference.j0 k a0 a1 a2 t101 false)) else (observatorylaw03_NaturalMatchesReference.j0 k a0 a1 a2 t101 false)) else (observatorylaw03_NaturalMatchesReference.j0 k a0 a1 a2 t101 false)) else (observatorylaw03_NaturalMatchesReference.j0 k a0 a1 a2 t101 false)) else (observatorylaw03_NaturalMatchesReference.j0 k a0 a1 a2 t101 false))))))) = some r := H
    have A7 := Aside0.mk A70
    clear A70
    replace H := Option.bind_eq_some_iff.mp H
    obtain ⟨⟨t108, t109⟩, A80, H⟩ := H
    replace H : ((natural_Sub.f a0 a1).bind fun bt110 => ((observatoryref03_Sub.f a0 a1).bind fun bt112 => ((natural_Mul.f a0 a1).bind fun bt114 => ((observatoryref03_Mul.f a0 a1).bind fun bt116 => (if t106.toList = t108.toList then (if t107 = t109 then (if bt110.1.toList = bt112.1.toList then (if bt110.2 = bt112.2 then (if bt114.1.toList = bt116.1.toList then (observatorylaw03_NaturalMatchesReference.j0 k a0 a1 a2 t101 (bt114.2 == bt116.2)) else (observatorylaw03_NaturalMatchesReference.j0 k a0 a1 a2 t101 false)) else (observatorylaw03_NaturalMatchesReference.j0 k a0 a1 a2 t101 false)) else (observatorylaw03_NaturalMatchesReference.j0 k a0 a1 a2 t101 false)) else (observatorylaw03_NaturalMatchesReference.j0 k a0 a1 a2 t101 false)) else (observatorylaw03_NaturalMatchesReference.j0 k a0 a1 a2 t101 false)))))) = some r := H
    have A8 := Aside0.mk A80
    clear A80
    replace H := Option.bind_eq_some_iff.mp H
    obtain ⟨⟨t110, t111⟩, A90, H⟩ := H
    replace H : ((observatoryref03_Sub.f a0 a1).bind fun bt112 => ((natural_Mul.f a0 a1).bind fun bt114 => ((observatoryref03_Mul.f a0 a1).bind fun bt116 => (if t106.toList = t108.toList then (if t107 = t109 then (if t110.toList = bt112.1.toList then (if t111 = bt112.2 then (if bt114.1.toList = bt116.1.toList then (observatorylaw03_NaturalMatchesReference.j0 k a0 a1 a2 t101 (bt114.2 == bt116.2)) else (observatorylaw03_NaturalMatchesReference.j0 k a0 a1 a2 t101 false)) else (observatorylaw03_NaturalMatchesReference.j0 k a0 a1 a2 t101 false)) else (observatorylaw03_NaturalMatchesReference.j0 k a0 a1 a2 t101 false)) else (observatorylaw03_NaturalMatchesReference.j0 k a0 a1 a2 t101 false)) else (observatorylaw03_NaturalMatchesReference.j0 k a0 a1 a2 t101 false))))) = some r := H
    have A9 := Aside0.mk A90
    clear A90
    replace H := Option.bind_eq_some_iff.mp H
    obtain ⟨⟨t112, t113⟩, A100, H⟩ := H
    replace H : ((natural_Mul.f a0 a1).bind fun bt114 => ((observatoryref03_Mul.f a0 a1).bind fun bt116 => (if t106.toList = t108.toList then (if t107 = t109 then (if t110.toList = t112.toList then (if t111 = t113 then (if bt114.1.toList = bt116.1.toList then (observatorylaw03_NaturalMatchesReference.j0 k a0 a1 a2 t101 (bt114.2 == bt116.2)) else (observatorylaw03_NaturalMatchesReference.j0 k a0 a1 a2 t101 false)) else (observatorylaw03_NaturalMatchesReference.j0 k a0 a1 a2 t101 false)) else (observatorylaw03_NaturalMatchesReference.j0 k a0 a1 a2 t101 false)) else (observatorylaw03_NaturalMatchesReference.j0 k a0 a1 a2 t101 false)) else (observatorylaw03_NaturalMatchesReference.j0 k a0 a1 a2 t101 false)))) = some r := H
    have A10 := Aside0.mk A100
    clear A100
    replace H := Option.bind_eq_some_iff.mp H
    obtain ⟨⟨t114, t115⟩, A110, H⟩ := H
    replace H : ((observatoryref03_Mul.f a0 a1).bind fun bt116 => (if t106.toList = t108.toList then (if t107 = t109 then (if t110.toList = t112.toList then (if t111 = t113 then (if t114.toList = bt116.1.toList then (observatorylaw03_NaturalMatchesReference.j0 k a0 a1 a2 t101 (t115 == bt116.2)) else (observatorylaw03_NaturalMatchesReference.j0 k a0 a1 a2 t101 false)) else (observatorylaw03_NaturalMatchesReference.j0 k a0 a1 a2 t101 false)) else (observatorylaw03_NaturalMatchesReference.j0 k a0 a1 a2 t101 false)) else (observatorylaw03_NaturalMatchesReference.j0 k a0 a1 a2 t101 false)) else (observatorylaw03_NaturalMatchesReference.j0 k a0 a1 a2 t101 false))) = some r := H
    have A11 := Aside0.mk A110
    clear A110
    replace H := Option.bind_eq_some_iff.mp H
    obtain ⟨⟨t116, t117⟩, A120, H⟩ := H
    replace H : (if t106.toList = t108.toList then (if t107 = t109 then (if t110.toList = t112.toList then (if t111 = t113 then (if t114.toList = t116.toList then (observatorylaw03_NaturalMatchesReference.j0 k a0 a1 a2 t101 (t115 == t117)) else (observatorylaw03_NaturalMatchesReference.j0 k a0 a1 a2 t101 false)) else (observatorylaw03_NaturalMatchesReference.j0 k a0 a1 a2 t101 false)) else (observatorylaw03_NaturalMatchesReference.j0 k a0 a1 a2 t101 false)) else (observatorylaw03_NaturalMatchesReference.j0 k a0 a1 a2 t101 false)) else (observatorylaw03_NaturalMatchesReference.j0 k a0 a1 a2 t101 false)) = some r := H
    have A12 := Aside0.mk A120
    clear A120
    have HC13 := Aside0.mk H
    clear H
    go_enter Tryz.func3, Tryz.ntmps3
    go_upto_region 10 with (first | ((with_reducible refine gate_callee (f := 5) rfl ?_); refine goesL_ (some 40) rfl rfl Tryz.func5 (by kernel_rfl) rfl #[] rfl (by (try simp only [List.map_toArray, List.map_cons, List.map_nil]); first | done | rfl | (simp only [List.length_drop, List.length_take]; rfl)) ?_; (with_reducible refine (observatorylaw03_head.calls  t101 _ ?side1 A4.out).mono ?_); (case side1 => exact Laid.below HLaid.out (by repeat (first | (with_reducible first | exact HB.out | apply below_alloc | apply pw_below_drewN | apply below_drew1) | exact HB.out))); rintro e w14 ⟨rfl, hb⟩; refine ⟨_, rfl, ?_⟩; have n0_ := Aside0.mk (below_step (by repeat (first | (with_reducible first | exact HB.out | apply below_alloc | apply pw_below_drewN | apply below_drew1) | exact HB.out)) hb); clear HB; have HB := n0_; clear n0_; (try clear hb); (try clear hb2); (try clear hk); (try clear hi)) | ((with_reducible refine gate_dst (N := 43) rfl ?_); refine Kd.R_lit Kd.string _ 22 ?hg (N := 43) ?hd (xs := ([a0, a1] : List ByteArray)) (inner := [.string a0, .string a1]) (ok := fun _ => True) (okp := fun _ => True) ?hr ?hp (fun _ hk => hk) trivial (Below.refl _ _) (Nat.le_refl _) (by simp) ?_; (case hd => rfl); (case hg => rfl); (case hr => first | (go_simp; done) | (go_simp; rfl)); (case hp => exact (Reps.one (show Kd.M Kd.string _ _ _ a0 [.string a0] from rfl) (Reps.one (show Kd.M Kd.string _ _ _ a1 [.string a1] from rfl) (Reps.none _ _)))); intro v103 w15 ho16 hb hg_ hnew_; clear hg_ hnew_; (first | rw [← Ny102.out] at ho16 | (simp only [Int.reduceToNat] at ho16; rw [← Ny102.out] at ho16)); have n0_ := Aside0.mk (Kd.R_lower ho16 (below_size (by repeat (first | (with_reducible first | exact HB.out | apply below_alloc | apply pw_below_drewN | apply below_drew1) | exact HB.out)))); have n1_ := Aside0.mk (below_step (by repeat (first | (with_reducible first | exact HB.out | apply below_alloc | apply pw_below_drewN | apply below_drew1) | exact HB.out)) hb); clear HB; have HO104 := n0_; have HB := n1_; clear n0_ n1_; clear hb ho16; obtain ⟨Ao17, co17, eo17⟩ := Kd.R_slice HO104.out; subst eo17) | ((with_reducible refine gate_callee (f := 6) rfl ?_); refine goesL_ (some 44) rfl rfl Tryz.func6 (by kernel_rfl) rfl #[.slice Ao17 y102.length co17] rfl (by (try simp only [List.map_toArray, List.map_cons, List.map_nil]); first | done | rfl | (simp only [List.length_drop, List.length_take]; rfl)) ?_; (with_reducible refine (observatorylaw03_few.calls _ _ y102 true _ ?side1 ?side2 A5.out).mono ?_); (case side1 => repeat (first | exact (Kd.R_reads' HO104.out).2.2 | (with_reducible refine Kd.C_alloc ?_ _) | (with_reducible refine Kd.C_drewN ?_ _) | (with_reducible refine Kd.C_drew ?_))); (case side2 => exact (Kd.R_reads' HO104.out).2.1); rintro e w18 ⟨rfl, hb⟩; refine ⟨_, rfl, ?_⟩; have n0_ := Aside0.mk (Kd.R_below (by (with_reducible repeat (first | apply Kd.R_alloc | apply Kd.R_drewN | apply Kd.R_drew)); exact HO104.out) hb); have n1_ := Aside0.mk (below_step (by repeat (first | (with_reducible first | exact HB.out | apply below_alloc | apply pw_below_drewN | apply below_drew1) | exact HB.out)) hb); clear HO104; clear HB; have HO104 := n0_; have HB := n1_; clear n0_ n1_; (try clear hb); (try clear hb2); (try clear hk); (try clear hi)) | ((with_reducible refine gate_callee (f := 7) rfl ?_); refine goesL_ (some 50) rfl rfl Tryz.func7 (by kernel_rfl) rfl #[.string a0, .string a1] rfl (by (try simp only [List.map_toArray, List.map_cons, List.map_nil]); first | done | rfl | (simp only [List.length_drop, List.length_take]; rfl)) ?_; (with_reducible refine (natural_Add.calls a0 a1 t106 t107 _ ?side1 A7.out).mono ?_); (case side1 => exact Laid.below HLaid.out (by repeat (first | (with_reducible first | exact HB.out | apply below_alloc | apply pw_below_drewN | apply below_drew1) | exact HB.out))); rintro e w19 ⟨rfl, hb⟩; refine ⟨_, rfl, ?_⟩; have n0_ := Aside0.mk (Kd.R_below (by (with_reducible repeat (first | apply Kd.R_alloc | apply Kd.R_drewN | apply Kd.R_drew)); exact HO104.out) hb); have n1_ := Aside0.mk (below_step (by repeat (first | (with_reducible first | exact HB.out | apply below_alloc | apply pw_below_drewN | apply below_drew1) | exact HB.out)) hb); clear HO104; clear HB; have HO104 := n0_; have HB := n1_; clear n0_ n1_; (try clear hb); (try clear hb2); (try clear hk); (try clear hi)) | ((with_reducible refine gate_callee (f := 8) rfl ?_); refine goesL_ (some 56) rfl rfl Tryz.func8 (by kernel_rfl) rfl #[.string a0, .string a1] rfl (by (try simp only [List.map_toArray, List.map_cons, List.map_nil]); first | done | rfl | (simp only [List.length_drop, List.length_take]; rfl)) ?_; (with_reducible refine (observatoryref03_Add.calls a0 a1 t108 t109 _ A8.out).mono ?_); rintro e w20 ⟨rfl, hb⟩; refine ⟨_, rfl, ?_⟩; have n0_ := Aside0.mk (Kd.R_below (by (with_reducible repeat (first | apply Kd.R_alloc | apply Kd.R_drewN | apply Kd.R_drew)); exact HO104.out) hb); have n1_ := Aside0.mk (below_step (by repeat (first | (with_reducible first | exact HB.out | apply below_alloc | apply pw_below_drewN | apply below_drew1) | exact HB.out)) hb); clear HO104; clear HB; have HO104 := n0_; have HB := n1_; clear n0_ n1_; (try clear hb); (try clear hb2); (try clear hk); (try clear hi)) | ((with_reducible refine gate_callee (f := 9) rfl ?_); refine goesL_ (some 62) rfl rfl Tryz.func9 (by kernel_rfl) rfl #[.string a0, .string a1] rfl (by (try simp only [List.map_toArray, List.map_cons, List.map_nil]); first | done | rfl | (simp only [List.length_drop, List.length_take]; rfl)) ?_; (with_reducible refine (natural_Sub.calls a0 a1 t110 t111 _ ?side1 A9.out).mono ?_); (case side1 => exact Laid.below HLaid.out (by repeat (first | (with_reducible first | exact HB.out | apply below_alloc | apply pw_below_drewN | apply below_drew1) | exact HB.out))); rintro e w21 ⟨rfl, hb⟩; refine ⟨_, rfl, ?_⟩; have n0_ := Aside0.mk (Kd.R_below (by (with_reducible repeat (first | apply Kd.R_alloc | apply Kd.R_drewN | apply Kd.R_drew)); exact HO104.out) hb); have n1_ := Aside0.mk (below_step (by repeat (first | (with_reducible first | exact HB.out | apply below_alloc | apply pw_below_drewN | apply below_drew1) | exact HB.out)) hb); clear HO104; clear HB; have HO104 := n0_; have HB := n1_; clear n0_ n1_; (try clear hb); (try clear hb2); (try clear hk); (try clear hi)) | ((with_reducible refine gate_callee (f := 10) rfl ?_); refine goesL_ (some 68) rfl rfl Tryz.func10 (by kernel_rfl) rfl #[.string a0, .string a1] rfl (by (try simp only [List.map_toArray, List.map_cons, List.map_nil]); first | done | rfl | (simp only [List.length_drop, List.length_take]; rfl)) ?_; (with_reducible refine (observatoryref03_Sub.calls a0 a1 t112 t113 _ A10.out).mono ?_); rintro e w22 ⟨rfl, hb⟩; refine ⟨_, rfl, ?_⟩; have n0_ := Aside0.mk (Kd.R_below (by (with_reducible repeat (first | apply Kd.R_alloc | apply Kd.R_drewN | apply Kd.R_drew)); exact HO104.out) hb); have n1_ := Aside0.mk (below_step (by repeat (first | (with_reducible first | exact HB.out | apply below_alloc | apply pw_below_drewN | apply below_drew1) | exact HB.out)) hb); clear HO104; clear HB; have HO104 := n0_; have HB := n1_; clear n0_ n1_; (try clear hb); (try clear hb2); (try clear hk); (try clear hi)) | ((with_reducible refine gate_callee (f := 11) rfl ?_); refine goesL_ (some 74) rfl rfl Tryz.func11 (by kernel_rfl) rfl #[.string a0, .string a1] rfl (by (try simp only [List.map_toArray, List.map_cons, List.map_nil]); first | done | rfl | (simp only [List.length_drop, List.length_take]; rfl)) ?_; (with_reducible refine (natural_Mul.calls a0 a1 t114 t115 _ ?side1 A11.out).mono ?_); (case side1 => exact Laid.below HLaid.out (by repeat (first | (with_reducible first | exact HB.out | apply below_alloc | apply pw_below_drewN | apply below_drew1) | exact HB.out))); rintro e w23 ⟨rfl, hb⟩; refine ⟨_, rfl, ?_⟩; have n0_ := Aside0.mk (Kd.R_below (by (with_reducible repeat (first | apply Kd.R_alloc | apply Kd.R_drewN | apply Kd.R_drew)); exact HO104.out) hb); have n1_ := Aside0.mk (below_step (by repeat (first | (with_reducible first | exact HB.out | apply below_alloc | apply pw_below_drewN | apply below_drew1) | exact HB.out)) hb); clear HO104; clear HB; have HO104 := n0_; have HB := n1_; clear n0_ n1_; (try clear hb); (try clear hb2); (try clear hk); (try clear hi)) | ((with_reducible refine gate_callee (f := 12) rfl ?_); refine goesL_ (some 80) rfl rfl Tryz.func12 (by kernel_rfl) rfl #[.string a0, .string a1] rfl (by (try simp only [List.map_toArray, List.map_cons, List.map_nil]); first | done | rfl | (simp only [List.length_drop, List.length_take]; rfl)) ?_; (with_reducible refine (observatoryref03_Mul.calls a0 a1 t116 t117 _ A12.out).mono ?_); rintro e w24 ⟨rfl, hb⟩; refine ⟨_, rfl, ?_⟩; have n0_ := Aside0.mk (Kd.R_below (by (with_reducible repeat (first | apply Kd.R_alloc | apply Kd.R_drewN | apply Kd.R_drew)); exact HO104.out) hb); have n1_ := Aside0.mk (below_step (by repeat (first | (with_reducible first | exact HB.out | apply below_alloc | apply pw_below_drewN | apply below_drew1) | exact HB.out)) hb); clear HO104; clear HB; have HO104 := n0_; have HB := n1_; clear n0_ n1_; (try clear hb); (try clear hb2); (try clear hk); (try clear hi)))
    (try simp only [Act.put, List.setIfInBounds_toArray, List.set_cons_zero, List.set_cons_succ])
    go_cut [20] (fun v20 wc => ∃ (kq : Nat) (x20_12 : Bool), v20 = .bool x20_12 ∧ Aside0 (observatorylaw03_NaturalMatchesReference.j0 kq a0 a1 a2 t101 x20_12 = some r) ∧ Aside0 (kq ≤ k) ∧ Aside0 (Below w.heap.size w wc))
    case first => as_aux_lemma =>
      have H := HC13.out
      clear HC13
      by_cases c25 : t106.toList = t108.toList
      · rw [if_pos c25] at H
        have c25b0 : (t106.toList == t108.toList) = true := beq_iff_eq.mpr c25
        have c25b1 : (t106.toList != t108.toList) = false := bne_eq_false_iff_eq.mpr c25
        clear c25
        (first | rw [c25b0] | (simp only [i64_w, i32_w]; rw [c25b0]) | skip)
        by_cases c26 : t107 = t109
        · rw [if_pos c26] at H
          have c26b0 : (t107 == t109) = true := beq_iff_eq.mpr c26
          have c26b1 : (t107 != t109) = false := bne_eq_false_iff_eq.mpr c26
          clear c26
          by_cases c27 : t110.toList = t112.toList
          · rw [if_pos c27] at H
            have c27b0 : (t110.toList == t112.toList) = true := beq_iff_eq.mpr c27
            have c27b1 : (t110.toList != t112.toList) = false := bne_eq_false_iff_eq.mpr c27
            clear c27
            by_cases c28 : t111 = t113
            · rw [if_pos c28] at H
              have c28b0 : (t111 == t113) = true := beq_iff_eq.mpr c28
              have c28b1 : (t111 != t113) = false := bne_eq_false_iff_eq.mpr c28
              clear c28
              by_cases c29 : t114.toList = t116.toList
              · rw [if_pos c29] at H
                have c29b0 : (t114.toList == t116.toList) = true := beq_iff_eq.mpr c29
                have c29b1 : (t114.toList != t116.toList) = false := bne_eq_false_iff_eq.mpr c29
                clear c29
                have H' := Aside0.mk H
                clear H
                go_wp2
                go_meet
                case rel => exact ⟨_, ((t115 == t117)), (by first | rfl | (simp; done) | (simp [*]; done)), H', ⟨by first | omega | exact Nat.le_refl _⟩, ⟨by repeat (first | (with_reducible first | exact HB.out | apply below_alloc | apply pw_below_drewN | apply below_drew1) | exact HB.out)⟩⟩
              · rw [if_neg c29] at H
                have c29b0 : (t114.toList == t116.toList) = false := beq_eq_false_iff_ne.mpr c29
                have c29b1 : (t114.toList != t116.toList) = true := bne_iff_ne.mpr c29
                have H' := Aside0.mk H
                clear H
                go_wp2
                go_meet
                case rel => exact ⟨_, (false), (by first | rfl | (simp; done) | (simp [*]; done)), H', ⟨by first | omega | exact Nat.le_refl _⟩, ⟨by repeat (first | (with_reducible first | exact HB.out | apply below_alloc | apply pw_below_drewN | apply below_drew1) | exact HB.out)⟩⟩
            · rw [if_neg c28] at H
              have c28b0 : (t111 == t113) = false := beq_eq_false_iff_ne.mpr c28
              have c28b1 : (t111 != t113) = true := bne_iff_ne.mpr c28
              have H' := Aside0.mk H
              clear H
              go_wp2
              go_meet
              case rel => exact ⟨_, (false), (by first | rfl | (simp; done) | (simp [*]; done)), H', ⟨by first | omega | exact Nat.le_refl _⟩, ⟨by repeat (first | (with_reducible first | exact HB.out | apply below_alloc | apply pw_below_drewN | apply below_drew1) | exact HB.out)⟩⟩
          · rw [if_neg c27] at H
            have c27b0 : (t110.toList == t112.toList) = false := beq_eq_false_iff_ne.mpr c27
            have c27b1 : (t110.toList != t112.toList) = true := bne_iff_ne.mpr c27
            have H' := Aside0.mk H
            clear H
            go_wp2
            go_meet
            case rel => exact ⟨_, (false), (by first | rfl | (simp; done) | (simp [*]; done)), H', ⟨by first | omega | exact Nat.le_refl _⟩, ⟨by repeat (first | (with_reducible first | exact HB.out | apply below_alloc | apply pw_below_drewN | apply below_drew1) | exact HB.out)⟩⟩
        · rw [if_neg c26] at H
          have c26b0 : (t107 == t109) = false := beq_eq_false_iff_ne.mpr c26
          have c26b1 : (t107 != t109) = true := bne_iff_ne.mpr c26
          have H' := Aside0.mk H
          clear H
          go_wp2
          go_meet
          case rel => exact ⟨_, (false), (by first | rfl | (simp; done) | (simp [*]; done)), H', ⟨by first | omega | exact Nat.le_refl _⟩, ⟨by repeat (first | (with_reducible first | exact HB.out | apply below_alloc | apply pw_below_drewN | apply below_drew1) | exact HB.out)⟩⟩
      · rw [if_neg c25] at H
        have c25b0 : (t106.toList == t108.toList) = false := beq_eq_false_iff_ne.mpr c25
        have c25b1 : (t106.toList != t108.toList) = true := bne_iff_ne.mpr c25
        (first | rw [c25b0] | (simp only [i64_w, i32_w]; rw [c25b0]) | skip)
        have H' := Aside0.mk H
        clear H
        go_wp2
        go_meet
        case rel => exact ⟨_, (false), (by first | rfl | (simp; done) | (simp [*]; done)), H', ⟨by first | omega | exact Nat.le_refl _⟩, ⟨by repeat (first | (with_reducible first | exact HB.out | apply below_alloc | apply pw_below_drewN | apply below_drew1) | exact HB.out)⟩⟩
    case rest => as_aux_lemma =>
      clear HC13
      try clear c1
      try clear c2
      try clear p2
      try clear c3
      try clear c5
      try clear c6
      try clear c7
      try clear c8
      try clear c9
      try clear c10
      try clear c11
      try clear c12
      try clear c25
      try clear c25b0
      try clear c25b1
      try clear c26
      try clear c26b0
      try clear c26b1
      try clear c27
      try clear c27b0
      try clear c27b1
      try clear c28
      try clear c28b0
      try clear c28b1
      try clear c29
      try clear c29b0
      try clear c29b1
      obtain ⟨kq, x20_12, rfl, HA, HJ12, HB⟩ := hcut
      cases kq with
      | zero => exact absurd HA.out (by simp [observatorylaw03_NaturalMatchesReference.j0])
      | succ kj12 =>
        have H := HA.out
        clear HA
        simp only [observatorylaw03_NaturalMatchesReference.j0] at H
        replace H := Option.bind_eq_some_iff.mp H
        obtain ⟨⟨t118, t119, t120⟩, A300, H⟩ := H
        replace H : ((observatoryref03_Div.f a0 a1).bind fun bt121 => ((natural_Gcd.f a0 a1).bind fun bt124 => ((observatoryref03_Gcd.f a0 a1).bind fun bt126 => (if t118.toList = bt121.1.toList then (if t119.toList = bt121.2.1.toList then (if t120 = bt121.2.2 then (if bt124.1.toList = bt126.1.toList then (observatorylaw03_NaturalMatchesReference.j1 kj12 a0 a1 a2 t101 x20_12 (bt124.2 == bt126.2)) else (observatorylaw03_NaturalMatchesReference.j1 kj12 a0 a1 a2 t101 x20_12 false)) else (observatorylaw03_NaturalMatchesReference.j1 kj12 a0 a1 a2 t101 x20_12 false)) else (observatorylaw03_NaturalMatchesReference.j1 kj12 a0 a1 a2 t101 x20_12 false)) else (observatorylaw03_NaturalMatchesReference.j1 kj12 a0 a1 a2 t101 x20_12 false))))) = some r := H
        have A30 := Aside0.mk A300
        clear A300
        replace H := Option.bind_eq_some_iff.mp H
        obtain ⟨⟨t121, t122, t123⟩, A310, H⟩ := H
        replace H : ((natural_Gcd.f a0 a1).bind fun bt124 => ((observatoryref03_Gcd.f a0 a1).bind fun bt126 => (if t118.toList = t121.toList then (if t119.toList = t122.toList then (if t120 = t123 then (if bt124.1.toList = bt126.1.toList then (observatorylaw03_NaturalMatchesReference.j1 kj12 a0 a1 a2 t101 x20_12 (bt124.2 == bt126.2)) else (observatorylaw03_NaturalMatchesReference.j1 kj12 a0 a1 a2 t101 x20_12 false)) else (observatorylaw03_NaturalMatchesReference.j1 kj12 a0 a1 a2 t101 x20_12 false)) else (observatorylaw03_NaturalMatchesReference.j1 kj12 a0 a1 a2 t101 x20_12 false)) else (observatorylaw03_NaturalMatchesReference.j1 kj12 a0 a1 a2 t101 x20_12 false)))) = some r := H
        have A31 := Aside0.mk A310
        clear A310
        replace H := Option.bind_eq_some_iff.mp H
        obtain ⟨⟨t124, t125⟩, A320, H⟩ := H
        replace H : ((observatoryref03_Gcd.f a0 a1).bind fun bt126 => (if t118.toList = t121.toList then (if t119.toList = t122.toList then (if t120 = t123 then (if t124.toList = bt126.1.toList then (observatorylaw03_NaturalMatchesReference.j1 kj12 a0 a1 a2 t101 x20_12 (t125 == bt126.2)) else (observatorylaw03_NaturalMatchesReference.j1 kj12 a0 a1 a2 t101 x20_12 false)) else (observatorylaw03_NaturalMatchesReference.j1 kj12 a0 a1 a2 t101 x20_12 false)) else (observatorylaw03_NaturalMatchesReference.j1 kj12 a0 a1 a2 t101 x20_12 false)) else (observatorylaw03_NaturalMatchesReference.j1 kj12 a0 a1 a2 t101 x20_12 false))) = some r := H
        have A32 := Aside0.mk A320
        clear A320
        replace H := Option.bind_eq_some_iff.mp H
        obtain ⟨⟨t126, t127⟩, A330, H⟩ := H
        replace H : (if t118.toList = t121.toList then (if t119.toList = t122.toList then (if t120 = t123 then (if t124.toList = t126.toList then (observatorylaw03_NaturalMatchesReference.j1 kj12 a0 a1 a2 t101 x20_12 (t125 == t127)) else (observatorylaw03_NaturalMatchesReference.j1 kj12 a0 a1 a2 t101 x20_12 false)) else (observatorylaw03_NaturalMatchesReference.j1 kj12 a0 a1 a2 t101 x20_12 false)) else (observatorylaw03_NaturalMatchesReference.j1 kj12 a0 a1 a2 t101 x20_12 false)) else (observatorylaw03_NaturalMatchesReference.j1 kj12 a0 a1 a2 t101 x20_12 false)) = some r := H
        have A33 := Aside0.mk A330
        clear A330
        have HC34 := Aside0.mk H
        clear H
        go_upto_region 15 with (first | ((with_reducible refine gate_callee (f := 13) rfl ?_); refine goesL_ (some 114) rfl rfl Tryz.func13 (by kernel_rfl) rfl #[.string a0, .string a1] rfl (by (try simp only [List.map_toArray, List.map_cons, List.map_nil]); first | done | rfl | (simp only [List.length_drop, List.length_take]; rfl)) ?_; (with_reducible refine (natural_Div.calls a0 a1 t118 t119 t120 _ ?side1 A30.out).mono ?_); (case side1 => exact Laid.below HLaid.out (by repeat (first | (with_reducible first | exact HB.out | apply below_alloc | apply pw_below_drewN | apply below_drew1) | exact HB.out))); rintro e w35 ⟨rfl, hb⟩; refine ⟨_, rfl, ?_⟩; have n0_ := Aside0.mk (below_step (by repeat (first | (with_reducible first | exact HB.out | apply below_alloc | apply pw_below_drewN | apply below_drew1) | exact HB.out)) hb); clear HB; have HB := n0_; clear n0_; (try clear hb); (try clear hb2); (try clear hk); (try clear hi)) | ((with_reducible refine gate_callee (f := 14) rfl ?_); refine goesL_ (some 121) rfl rfl Tryz.func14 (by kernel_rfl) rfl #[.string a0, .string a1] rfl (by (try simp only [List.map_toArray, List.map_cons, List.map_nil]); first | done | rfl | (simp only [List.length_drop, List.length_take]; rfl)) ?_; (with_reducible refine (observatoryref03_Div.calls a0 a1 t121 t122 t123 _ A31.out).mono ?_); rintro e w36 ⟨rfl, hb⟩; refine ⟨_, rfl, ?_⟩; have n0_ := Aside0.mk (below_step (by repeat (first | (with_reducible first | exact HB.out | apply below_alloc | apply pw_below_drewN | apply below_drew1) | exact HB.out)) hb); clear HB; have HB := n0_; clear n0_; (try clear hb); (try clear hb2); (try clear hk); (try clear hi)) | ((with_reducible refine gate_callee (f := 15) rfl ?_); refine goesL_ (some 128) rfl rfl Tryz.func15 (by kernel_rfl) rfl #[.string a0, .string a1] rfl (by (try simp only [List.map_toArray, List.map_cons, List.map_nil]); first | done | rfl | (simp only [List.length_drop, List.length_take]; rfl)) ?_; (with_reducible refine (natural_Gcd.calls a0 a1 t124 t125 _ ?side1 A32.out).mono ?_); (case side1 => exact Laid.below HLaid.out (by repeat (first | (with_reducible first | exact HB.out | apply below_alloc | apply pw_below_drewN | apply below_drew1) | exact HB.out))); rintro e w37 ⟨rfl, hb⟩; refine ⟨_, rfl, ?_⟩; have n0_ := Aside0.mk (below_step (by repeat (first | (with_reducible first | exact HB.out | apply below_alloc | apply pw_below_drewN | apply below_drew1) | exact HB.out)) hb); clear HB; have HB := n0_; clear n0_; (try clear hb); (try clear hb2); (try clear hk); (try clear hi)) | ((with_reducible refine gate_callee (f := 16) rfl ?_); refine goesL_ (some 134) rfl rfl Tryz.func16 (by kernel_rfl) rfl #[.string a0, .string a1] rfl (by (try simp only [List.map_toArray, List.map_cons, List.map_nil]); first | done | rfl | (simp only [List.length_drop, List.length_take]; rfl)) ?_; (with_reducible refine (observatoryref03_Gcd.calls a0 a1 t126 t127 _ A33.out).mono ?_); rintro e w38 ⟨rfl, hb⟩; refine ⟨_, rfl, ?_⟩; have n0_ := Aside0.mk (below_step (by repeat (first | (with_reducible first | exact HB.out | apply below_alloc | apply pw_below_drewN | apply below_drew1) | exact HB.out)) hb); clear HB; have HB := n0_; clear n0_; (try clear hb); (try clear hb2); (try clear hk); (try clear hi)))
        (try simp only [Act.put, List.setIfInBounds_toArray, List.set_cons_zero, List.set_cons_succ])
        go_cut [31] (fun v31 wc => ∃ (kq : Nat) (x31_33 : Bool), v31 = .bool x31_33 ∧ Aside0 (observatorylaw03_NaturalMatchesReference.j1 kq a0 a1 a2 t101 x20_12 x31_33 = some r) ∧ Aside0 (kq ≤ kj12) ∧ Aside0 (Below w.heap.size w wc))
        case first => as_aux_lemma =>
          have H := HC34.out
          clear HC34
          by_cases c39 : t118.toList = t121.toList
          · rw [if_pos c39] at H
            have c39b0 : (t118.toList == t121.toList) = true := beq_iff_eq.mpr c39
            have c39b1 : (t118.toList != t121.toList) = false := bne_eq_false_iff_eq.mpr c39
            clear c39
            (first | rw [c39b0] | (simp only [i64_w, i32_w]; rw [c39b0]) | skip)
            by_cases c40 : t119.toList = t122.toList
            · rw [if_pos c40] at H
              have c40b0 : (t119.toList == t122.toList) = true := beq_iff_eq.mpr c40
              have c40b1 : (t119.toList != t122.toList) = false := bne_eq_false_iff_eq.mpr c40
              clear c40
              by_cases c41 : t120 = t123
              · rw [if_pos c41] at H
                have c41b0 : (t120 == t123) = true := beq_iff_eq.mpr c41
                have c41b1 : (t120 != t123) = false := bne_eq_false_iff_eq.mpr c41
                clear c41
                by_cases c42 : t124.toList = t126.toList
                · rw [if_pos c42] at H
                  have c42b0 : (t124.toList == t126.toList) = true := beq_iff_eq.mpr c42
                  have c42b1 : (t124.toList != t126.toList) = false := bne_eq_false_iff_eq.mpr c42
                  clear c42
                  have H' := Aside0.mk H
                  clear H
                  go_wp2
                  go_meet
                  case rel => exact ⟨_, ((t125 == t127)), (by first | rfl | (simp; done) | (simp [*]; done)), H', ⟨by have := HJ12.out; first | omega | exact Nat.le_refl _⟩, ⟨by repeat (first | (with_reducible first | exact HB.out | apply below_alloc | apply pw_below_drewN | apply below_drew1) | exact HB.out)⟩⟩
                · rw [if_neg c42] at H
                  have c42b0 : (t124.toList == t126.toList) = false := beq_eq_false_iff_ne.mpr c42
                  have c42b1 : (t124.toList != t126.toList) = true := bne_iff_ne.mpr c42
                  have H' := Aside0.mk H
                  clear H
                  go_wp2
                  go_meet
                  case rel => exact ⟨_, (false), (by first | rfl | (simp; done) | (simp [*]; done)), H', ⟨by have := HJ12.out; first | omega | exact Nat.le_refl _⟩, ⟨by repeat (first | (with_reducible first | exact HB.out | apply below_alloc | apply pw_below_drewN | apply below_drew1) | exact HB.out)⟩⟩
              · rw [if_neg c41] at H
                have c41b0 : (t120 == t123) = false := beq_eq_false_iff_ne.mpr c41
                have c41b1 : (t120 != t123) = true := bne_iff_ne.mpr c41
                have H' := Aside0.mk H
                clear H
                go_wp2
                go_meet
                case rel => exact ⟨_, (false), (by first | rfl | (simp; done) | (simp [*]; done)), H', ⟨by have := HJ12.out; first | omega | exact Nat.le_refl _⟩, ⟨by repeat (first | (with_reducible first | exact HB.out | apply below_alloc | apply pw_below_drewN | apply below_drew1) | exact HB.out)⟩⟩
            · rw [if_neg c40] at H
              have c40b0 : (t119.toList == t122.toList) = false := beq_eq_false_iff_ne.mpr c40
              have c40b1 : (t119.toList != t122.toList) = true := bne_iff_ne.mpr c40
              have H' := Aside0.mk H
              clear H
              go_wp2
              go_meet
              case rel => exact ⟨_, (false), (by first | rfl | (simp; done) | (simp [*]; done)), H', ⟨by have := HJ12.out; first | omega | exact Nat.le_refl _⟩, ⟨by repeat (first | (with_reducible first | exact HB.out | apply below_alloc | apply pw_below_drewN | apply below_drew1) | exact HB.out)⟩⟩
          · rw [if_neg c39] at H
            have c39b0 : (t118.toList == t121.toList) = false := beq_eq_false_iff_ne.mpr c39
            have c39b1 : (t118.toList != t121.toList) = true := bne_iff_ne.mpr c39
            (first | rw [c39b0] | (simp only [i64_w, i32_w]; rw [c39b0]) | skip)
            have H' := Aside0.mk H
            clear H
            go_wp2
            go_meet
            case rel => exact ⟨_, (false), (by first | rfl | (simp; done) | (simp [*]; done)), H', ⟨by have := HJ12.out; first | omega | exact Nat.le_refl _⟩, ⟨by repeat (first | (with_reducible first | exact HB.out | apply below_alloc | apply pw_below_drewN | apply below_drew1) | exact HB.out)⟩⟩
        case rest => as_aux_lemma =>
          clear HC34
          try clear c1
          try clear c2
          try clear p2
          try clear c3
          try clear c4
          try clear c5
          try clear c6
          try clear c7
          try clear c8
          try clear c9
          try clear c10
          try clear c11
          try clear c12
          try clear c13
          try clear c14
          try clear c15
          try clear c16
          try clear c25
          try clear c25b0
          try clear c25b1
          try clear c26
          try clear c26b0
          try clear c26b1
          try clear c27
          try clear c27b0
          try clear c27b1
          try clear c28
          try clear c28b0
          try clear c28b1
          try clear c29
          try clear c29b0
          try clear c29b1
          try clear c39
          try clear c39b0
          try clear c39b1
          try clear c40
          try clear c40b0
          try clear c40b1
          try clear c41
          try clear c41b0
          try clear c41b1
          try clear c42
          try clear c42b0
          try clear c42b1
          try clear p2
          obtain ⟨kq, x31_33, rfl, HA, HJ33, HB⟩ := hcut
          cases kq with
          | zero => exact absurd HA.out (by simp [observatorylaw03_NaturalMatchesReference.j1])
          | succ kj33 =>
            have H := HA.out
            clear HA
            simp only [observatorylaw03_NaturalMatchesReference.j1] at H
            replace H := Option.bind_eq_some_iff.mp H
            obtain ⟨⟨t128, t129⟩, A430, H⟩ := H
            replace H : ((observatoryref03_Of.f a2).bind fun bt130 => ((natural_Int.f a0).bind fun bt132 => ((observatoryref03_Int.f a0).bind fun bt134 => (if t101 = true then (if x20_12 = true then (if x31_33 = true then (if t128.toList = bt130.1.toList then (if t129 = bt130.2 then (if bt132.1 = bt134.1 then (if bt132.2 = bt134.2 then ((natural_Valid.f a0).bind fun t136 => ((observatoryref03_Valid.f a0).bind fun t137 => (if (t136 == t137) = true then ((natural_Compare.f a0 a1).bind fun t138 => ((observatoryref03_Compare.f a0 a1).bind fun t139 => (some (t138 == t139)))) else (some false)))) else (some false)) else (some false)) else (some false)) else (some false)) else (some false)) else (some false)) else (some false))))) = some r := H
            have A43 := Aside0.mk A430
            clear A430
            replace H := Option.bind_eq_some_iff.mp H
            obtain ⟨⟨t130, t131⟩, A440, H⟩ := H
            replace H : ((natural_Int.f a0).bind fun bt132 => ((observatoryref03_Int.f a0).bind fun bt134 => (if t101 = true then (if x20_12 = true then (if x31_33 = true then (if t128.toList = t130.toList then (if t129 = t131 then (if bt132.1 = bt134.1 then (if bt132.2 = bt134.2 then ((natural_Valid.f a0).bind fun t136 => ((observatoryref03_Valid.f a0).bind fun t137 => (if (t136 == t137) = true then ((natural_Compare.f a0 a1).bind fun t138 => ((observatoryref03_Compare.f a0 a1).bind fun t139 => (some (t138 == t139)))) else (some false)))) else (some false)) else (some false)) else (some false)) else (some false)) else (some false)) else (some false)) else (some false)))) = some r := H
            have A44 := Aside0.mk A440
            clear A440
            replace H := Option.bind_eq_some_iff.mp H
            obtain ⟨⟨t132, t133⟩, A450, H⟩ := H
            replace H : ((observatoryref03_Int.f a0).bind fun bt134 => (if t101 = true then (if x20_12 = true then (if x31_33 = true then (if t128.toList = t130.toList then (if t129 = t131 then (if t132 = bt134.1 then (if t133 = bt134.2 then ((natural_Valid.f a0).bind fun t136 => ((observatoryref03_Valid.f a0).bind fun t137 => (if (t136 == t137) = true then ((natural_Compare.f a0 a1).bind fun t138 => ((observatoryref03_Compare.f a0 a1).bind fun t139 => (some (t138 == t139)))) else (some false)))) else (some false)) else (some false)) else (some false)) else (some false)) else (some false)) else (some false)) else (some false))) = some r := H
            have A45 := Aside0.mk A450
            clear A450
            replace H := Option.bind_eq_some_iff.mp H
            obtain ⟨⟨t134, t135⟩, A460, H⟩ := H
            replace H : (if t101 = true then (if x20_12 = true then (if x31_33 = true then (if t128.toList = t130.toList then (if t129 = t131 then (if t132 = t134 then (if t133 = t135 then ((natural_Valid.f a0).bind fun t136 => ((observatoryref03_Valid.f a0).bind fun t137 => (if (t136 == t137) = true then ((natural_Compare.f a0 a1).bind fun t138 => ((observatoryref03_Compare.f a0 a1).bind fun t139 => (some (t138 == t139)))) else (some false)))) else (some false)) else (some false)) else (some false)) else (some false)) else (some false)) else (some false)) else (some false)) = some r := H
            have A46 := Aside0.mk A460
            clear A460
            by_cases c47 : t101 = true
            · subst c47
              have H1 : (if x20_12 = true then (if x31_33 = true then (if t128.toList = t130.toList then (if t129 = t131 then (if t132 = t134 then (if t133 = t135 then ((natural_Valid.f a0).bind fun t136 => ((observatoryref03_Valid.f a0).bind fun t137 => (if (t136 == t137) = true then ((natural_Compare.f a0 a1).bind fun t138 => ((observatoryref03_Compare.f a0 a1).bind fun t139 => (some (t138 == t139)))) else (some false)))) else (some false)) else (some false)) else (some false)) else (some false)) else (some false)) else (some false)) = some r := by rw [if_pos rfl] at H; exact H
              clear H
              have H := H1
              clear H1
              by_cases c48 : x20_12 = true
              · subst c48
                have H1 : (if x31_33 = true then (if t128.toList = t130.toList then (if t129 = t131 then (if t132 = t134 then (if t133 = t135 then ((natural_Valid.f a0).bind fun t136 => ((observatoryref03_Valid.f a0).bind fun t137 => (if (t136 == t137) = true then ((natural_Compare.f a0 a1).bind fun t138 => ((observatoryref03_Compare.f a0 a1).bind fun t139 => (some (t138 == t139)))) else (some false)))) else (some false)) else (some false)) else (some false)) else (some false)) else (some false)) = some r := by rw [if_pos rfl] at H; exact H
                clear H
                have H := H1
                clear H1
                by_cases c49 : x31_33 = true
                · subst c49
                  have H1 : (if t128.toList = t130.toList then (if t129 = t131 then (if t132 = t134 then (if t133 = t135 then ((natural_Valid.f a0).bind fun t136 => ((observatoryref03_Valid.f a0).bind fun t137 => (if (t136 == t137) = true then ((natural_Compare.f a0 a1).bind fun t138 => ((observatoryref03_Compare.f a0 a1).bind fun t139 => (some (t138 == t139)))) else (some false)))) else (some false)) else (some false)) else (some false)) else (some false)) = some r := by rw [if_pos rfl] at H; exact H
                  clear H
                  have H := H1
                  clear H1
                  by_cases c50 : t128.toList = t130.toList
                  · rw [if_pos c50] at H
                    have c50b0 : (t128.toList == t130.toList) = true := beq_iff_eq.mpr c50
                    have c50b1 : (t128.toList != t130.toList) = false := bne_eq_false_iff_eq.mpr c50
                    clear c50
                    by_cases c51 : t129 = t131
                    · rw [if_pos c51] at H
                      have c51b0 : (t129 == t131) = true := beq_iff_eq.mpr c51
                      have c51b1 : (t129 != t131) = false := bne_eq_false_iff_eq.mpr c51
                      clear c51
                      by_cases c52 : t132 = t134
                      · rw [if_pos c52] at H
                        have c52b0 : (t132 == t134) = true := beq_iff_eq.mpr c52
                        have c52b1 : (t132 != t134) = false := bne_eq_false_iff_eq.mpr c52
                        clear c52
                        by_cases c53 : t133 = t135
                        · rw [if_pos c53] at H
                          have c53b0 : (t133 == t135) = true := beq_iff_eq.mpr c53
                          have c53b1 : (t133 != t135) = false := bne_eq_false_iff_eq.mpr c53
                          clear c53
                          replace H := Option.bind_eq_some_iff.mp H
                          obtain ⟨t136, A540, H⟩ := H
                          replace H : ((observatoryref03_Valid.f a0).bind fun t137 => (if (t136 == t137) = true then ((natural_Compare.f a0 a1).bind fun t138 => ((observatoryref03_Compare.f a0 a1).bind fun t139 => (some (t138 == t139)))) else (some false))) = some r := H
                          have A54 := Aside0.mk A540
                          clear A540
                          replace H := Option.bind_eq_some_iff.mp H
                          obtain ⟨t137, A550, H⟩ := H
                          replace H : (if (t136 == t137) = true then ((natural_Compare.f a0 a1).bind fun t138 => ((observatoryref03_Compare.f a0 a1).bind fun t139 => (some (t138 == t139)))) else (some false)) = some r := H
                          have A55 := Aside0.mk A550
                          clear A550
                          by_cases c56 : (t136 == t137) = true
                          · rw [if_pos c56] at H
                            have c56b0 : (t136 == t137) = true := c56
                            (try (have c56b1 : decide (t136 = t137) = true := by simpa using c56))
                            (try (have c56b2 : (t136 == t137) = true := by simpa using c56))
                            clear c56
                            replace H := Option.bind_eq_some_iff.mp H
                            obtain ⟨t138, A570, H⟩ := H
                            replace H : ((observatoryref03_Compare.f a0 a1).bind fun t139 => (some (t138 == t139))) = some r := H
                            have A57 := Aside0.mk A570
                            clear A570
                            replace H := Option.bind_eq_some_iff.mp H
                            obtain ⟨t139, A580, H⟩ := H
                            replace H : (some (t138 == t139)) = some r := H
                            have A58 := Aside0.mk A580
                            clear A580
                            obtain rfl := Option.some.inj H
                            go_wp2_with (first | ((with_reducible refine gate_callee (f := 17) rfl ?_); refine goesL_ (some 162) rfl rfl Tryz.func17 (by kernel_rfl) rfl #[.int .i64 a2] rfl (by (try simp only [List.map_toArray, List.map_cons, List.map_nil]); first | done | rfl | (simp only [List.length_drop, List.length_take]; rfl)) ?_; (with_reducible refine (natural_Of.calls a2 t128 t129 _ ?side1 A43.out).mono ?_); (case side1 => exact Laid.below HLaid.out (by repeat (first | (with_reducible first | exact HB.out | apply below_alloc | apply pw_below_drewN | apply below_drew1) | exact HB.out))); rintro e w59 ⟨rfl, hb⟩; refine ⟨_, rfl, ?_⟩; have n0_ := Aside0.mk (below_step (by repeat (first | (with_reducible first | exact HB.out | apply below_alloc | apply pw_below_drewN | apply below_drew1) | exact HB.out)) hb); clear HB; have HB := n0_; clear n0_; (try clear hb); (try clear hb2); (try clear hk); (try clear hi)) | ((with_reducible refine gate_callee (f := 18) rfl ?_); refine goesL_ (some 167) rfl rfl Tryz.func18 (by kernel_rfl) rfl #[.int .i64 a2] rfl (by (try simp only [List.map_toArray, List.map_cons, List.map_nil]); first | done | rfl | (simp only [List.length_drop, List.length_take]; rfl)) ?_; (with_reducible refine (observatoryref03_Of.calls a2 t130 t131 _ A44.out).mono ?_); rintro e w60 ⟨rfl, hb⟩; refine ⟨_, rfl, ?_⟩; have n0_ := Aside0.mk (below_step (by repeat (first | (with_reducible first | exact HB.out | apply below_alloc | apply pw_below_drewN | apply below_drew1) | exact HB.out)) hb); clear HB; have HB := n0_; clear n0_; (try clear hb); (try clear hb2); (try clear hk); (try clear hi)) | ((with_reducible refine gate_callee (f := 19) rfl ?_); refine goesL_ (some 172) rfl rfl Tryz.func19 (by kernel_rfl) rfl #[.string a0] rfl (by (try simp only [List.map_toArray, List.map_cons, List.map_nil]); first | done | rfl | (simp only [List.length_drop, List.length_take]; rfl)) ?_; (with_reducible refine (natural_Int.calls a0 t132 t133 _ ?side1 A45.out).mono ?_); (case side1 => exact Laid.below HLaid.out (by repeat (first | (with_reducible first | exact HB.out | apply below_alloc | apply pw_below_drewN | apply below_drew1) | exact HB.out))); rintro e w61 ⟨rfl, hb⟩; refine ⟨_, rfl, ?_⟩; have n0_ := Aside0.mk (below_step (by repeat (first | (with_reducible first | exact HB.out | apply below_alloc | apply pw_below_drewN | apply below_drew1) | exact HB.out)) hb); clear HB; have HB := n0_; clear n0_; (try clear hb); (try clear hb2); (try clear hk); (try clear hi)) | ((with_reducible refine gate_callee (f := 20) rfl ?_); refine goesL_ (some 177) rfl rfl Tryz.func20 (by kernel_rfl) rfl #[.string a0] rfl (by (try simp only [List.map_toArray, List.map_cons, List.map_nil]); first | done | rfl | (simp only [List.length_drop, List.length_take]; rfl)) ?_; (with_reducible refine (observatoryref03_Int.calls a0 t134 t135 _ A46.out).mono ?_); rintro e w62 ⟨rfl, hb⟩; refine ⟨_, rfl, ?_⟩; have n0_ := Aside0.mk (below_step (by repeat (first | (with_reducible first | exact HB.out | apply below_alloc | apply pw_below_drewN | apply below_drew1) | exact HB.out)) hb); clear HB; have HB := n0_; clear n0_; (try clear hb); (try clear hb2); (try clear hk); (try clear hi)) | (go_at_call 21; (with_reducible refine (natural_Valid.calls a0 t136 _ ?side1 A54.out).mono ?_); (case side1 => exact Laid.below HLaid.out (by repeat (first | (with_reducible first | exact HB.out | apply below_alloc | apply pw_below_drewN | apply below_drew1) | exact HB.out))); rintro e w63 ⟨rfl, hb⟩; have n0_ := Aside0.mk (below_step (by repeat (first | (with_reducible first | exact HB.out | apply below_alloc | apply pw_below_drewN | apply below_drew1) | exact HB.out)) hb); clear HB; have HB := n0_; clear n0_; (try clear hb); (try clear hb2); (try clear hk); (try clear hi)) | (go_at_call 22; (with_reducible refine (observatoryref03_Valid.calls a0 t137 _ A55.out).mono ?_); rintro e w64 ⟨rfl, hb⟩; have n0_ := Aside0.mk (below_step (by repeat (first | (with_reducible first | exact HB.out | apply below_alloc | apply pw_below_drewN | apply below_drew1) | exact HB.out)) hb); clear HB; have HB := n0_; clear n0_; (try clear hb); (try clear hb2); (try clear hk); (try clear hi)) | (go_at_call 23; (with_reducible refine (natural_Compare.calls a0 a1 t138 _ ?side1 A57.out).mono ?_); (case side1 => exact Laid.below HLaid.out (by repeat (first | (with_reducible first | exact HB.out | apply below_alloc | apply pw_below_drewN | apply below_drew1) | exact HB.out))); rintro e w65 ⟨rfl, hb⟩; have n0_ := Aside0.mk (below_step (by repeat (first | (with_reducible first | exact HB.out | apply below_alloc | apply pw_below_drewN | apply below_drew1) | exact HB.out)) hb); clear HB; have HB := n0_; clear n0_; (try clear hb); (try clear hb2); (try clear hk); (try clear hi)) | (go_at_call 24; (with_reducible refine (observatoryref03_Compare.calls a0 a1 t139 _ A58.out).mono ?_); rintro e w66 ⟨rfl, hb⟩; have n0_ := Aside0.mk (below_step (by repeat (first | (with_reducible first | exact HB.out | apply below_alloc | apply pw_below_drewN | apply below_drew1) | exact HB.out)) hb); clear HB; have HB := n0_; clear n0_; (try clear hb); (try clear hb2); (try clear hk); (try clear hi)))
                            go_ret
                            exact ⟨by first | rfl | (simp [errW_none, errW_some] <;> rfl) | (simp [*, errW_none, errW_some] <;> rfl), by repeat (first | (with_reducible first | exact HB.out | apply below_alloc | apply pw_below_drewN | apply below_drew1) | exact HB.out)⟩
                          · rw [if_neg c56] at H
                            have c56b0 : (t136 == t137) = false := by simpa using c56
                            (try (have c56b1 : decide (t136 = t137) = false := by simpa using c56))
                            (try (have c56b2 : (t136 == t137) = false := by simpa using c56))
                            (try (have c56b3 : ¬ (t136 = t137) := by simpa using c56))
                            clear c56
                            obtain rfl := Option.some.inj H
                            go_wp2_with (first | ((with_reducible refine gate_callee (f := 17) rfl ?_); refine goesL_ (some 162) rfl rfl Tryz.func17 (by kernel_rfl) rfl #[.int .i64 a2] rfl (by (try simp only [List.map_toArray, List.map_cons, List.map_nil]); first | done | rfl | (simp only [List.length_drop, List.length_take]; rfl)) ?_; (with_reducible refine (natural_Of.calls a2 t128 t129 _ ?side1 A43.out).mono ?_); (case side1 => exact Laid.below HLaid.out (by repeat (first | (with_reducible first | exact HB.out | apply below_alloc | apply pw_below_drewN | apply below_drew1) | exact HB.out))); rintro e w67 ⟨rfl, hb⟩; refine ⟨_, rfl, ?_⟩; have n0_ := Aside0.mk (below_step (by repeat (first | (with_reducible first | exact HB.out | apply below_alloc | apply pw_below_drewN | apply below_drew1) | exact HB.out)) hb); clear HB; have HB := n0_; clear n0_; (try clear hb); (try clear hb2); (try clear hk); (try clear hi)) | ((with_reducible refine gate_callee (f := 18) rfl ?_); refine goesL_ (some 167) rfl rfl Tryz.func18 (by kernel_rfl) rfl #[.int .i64 a2] rfl (by (try simp only [List.map_toArray, List.map_cons, List.map_nil]); first | done | rfl | (simp only [List.length_drop, List.length_take]; rfl)) ?_; (with_reducible refine (observatoryref03_Of.calls a2 t130 t131 _ A44.out).mono ?_); rintro e w68 ⟨rfl, hb⟩; refine ⟨_, rfl, ?_⟩; have n0_ := Aside0.mk (below_step (by repeat (first | (with_reducible first | exact HB.out | apply below_alloc | apply pw_below_drewN | apply below_drew1) | exact HB.out)) hb); clear HB; have HB := n0_; clear n0_; (try clear hb); (try clear hb2); (try clear hk); (try clear hi)) | ((with_reducible refine gate_callee (f := 19) rfl ?_); refine goesL_ (some 172) rfl rfl Tryz.func19 (by kernel_rfl) rfl #[.string a0] rfl (by (try simp only [List.map_toArray, List.map_cons, List.map_nil]); first | done | rfl | (simp only [List.length_drop, List.length_take]; rfl)) ?_; (with_reducible refine (natural_Int.calls a0 t132 t133 _ ?side1 A45.out).mono ?_); (case side1 => exact Laid.below HLaid.out (by repeat (first | (with_reducible first | exact HB.out | apply below_alloc | apply pw_below_drewN | apply below_drew1) | exact HB.out))); rintro e w69 ⟨rfl, hb⟩; refine ⟨_, rfl, ?_⟩; have n0_ := Aside0.mk (below_step (by repeat (first | (with_reducible first | exact HB.out | apply below_alloc | apply pw_below_drewN | apply below_drew1) | exact HB.out)) hb); clear HB; have HB := n0_; clear n0_; (try clear hb); (try clear hb2); (try clear hk); (try clear hi)) | ((with_reducible refine gate_callee (f := 20) rfl ?_); refine goesL_ (some 177) rfl rfl Tryz.func20 (by kernel_rfl) rfl #[.string a0] rfl (by (try simp only [List.map_toArray, List.map_cons, List.map_nil]); first | done | rfl | (simp only [List.length_drop, List.length_take]; rfl)) ?_; (with_reducible refine (observatoryref03_Int.calls a0 t134 t135 _ A46.out).mono ?_); rintro e w70 ⟨rfl, hb⟩; refine ⟨_, rfl, ?_⟩; have n0_ := Aside0.mk (below_step (by repeat (first | (with_reducible first | exact HB.out | apply below_alloc | apply pw_below_drewN | apply below_drew1) | exact HB.out)) hb); clear HB; have HB := n0_; clear n0_; (try clear hb); (try clear hb2); (try clear hk); (try clear hi)) | (go_at_call 21; (with_reducible refine (natural_Valid.calls a0 t136 _ ?side1 A54.out).mono ?_); (case side1 => exact Laid.below HLaid.out (by repeat (first | (with_reducible first | exact HB.out | apply below_alloc | apply pw_below_drewN | apply below_drew1) | exact HB.out))); rintro e w71 ⟨rfl, hb⟩; have n0_ := Aside0.mk (below_step (by repeat (first | (with_reducible first | exact HB.out | apply below_alloc | apply pw_below_drewN | apply below_drew1) | exact HB.out)) hb); clear HB; have HB := n0_; clear n0_; (try clear hb); (try clear hb2); (try clear hk); (try clear hi)) | (go_at_call 22; (with_reducible refine (observatoryref03_Valid.calls a0 t137 _ A55.out).mono ?_); rintro e w72 ⟨rfl, hb⟩; have n0_ := Aside0.mk (below_step (by repeat (first | (with_reducible first | exact HB.out | apply below_alloc | apply pw_below_drewN | apply below_drew1) | exact HB.out)) hb); clear HB; have HB := n0_; clear n0_; (try clear hb); (try clear hb2); (try clear hk); (try clear hi)))
                            go_ret
                            exact ⟨by first | rfl | (simp [errW_none, errW_some] <;> rfl) | (simp [*, errW_none, errW_some] <;> rfl), by repeat (first | (with_reducible first | exact HB.out | apply below_alloc | apply pw_below_drewN | apply below_drew1) | exact HB.out)⟩
                        · rw [if_neg c53] at H
                          have c53b0 : (t133 == t135) = false := beq_eq_false_iff_ne.mpr c53
                          have c53b1 : (t133 != t135) = true := bne_iff_ne.mpr c53
                          obtain rfl := Option.some.inj H
                          go_wp2_with (first | ((with_reducible refine gate_callee (f := 17) rfl ?_); refine goesL_ (some 162) rfl rfl Tryz.func17 (by kernel_rfl) rfl #[.int .i64 a2] rfl (by (try simp only [List.map_toArray, List.map_cons, List.map_nil]); first | done | rfl | (simp only [List.length_drop, List.length_take]; rfl)) ?_; (with_reducible refine (natural_Of.calls a2 t128 t129 _ ?side1 A43.out).mono ?_); (case side1 => exact Laid.below HLaid.out (by repeat (first | (with_reducible first | exact HB.out | apply below_alloc | apply pw_below_drewN | apply below_drew1) | exact HB.out))); rintro e w73 ⟨rfl, hb⟩; refine ⟨_, rfl, ?_⟩; have n0_ := Aside0.mk (below_step (by repeat (first | (with_reducible first | exact HB.out | apply below_alloc | apply pw_below_drewN | apply below_drew1) | exact HB.out)) hb); clear HB; have HB := n0_; clear n0_; (try clear hb); (try clear hb2); (try clear hk); (try clear hi)) | ((with_reducible refine gate_callee (f := 18) rfl ?_); refine goesL_ (some 167) rfl rfl Tryz.func18 (by kernel_rfl) rfl #[.int .i64 a2] rfl (by (try simp only [List.map_toArray, List.map_cons, List.map_nil]); first | done | rfl | (simp only [List.length_drop, List.length_take]; rfl)) ?_; (with_reducible refine (observatoryref03_Of.calls a2 t130 t131 _ A44.out).mono ?_); rintro e w74 ⟨rfl, hb⟩; refine ⟨_, rfl, ?_⟩; have n0_ := Aside0.mk (below_step (by repeat (first | (with_reducible first | exact HB.out | apply below_alloc | apply pw_below_drewN | apply below_drew1) | exact HB.out)) hb); clear HB; have HB := n0_; clear n0_; (try clear hb); (try clear hb2); (try clear hk); (try clear hi)) | ((with_reducible refine gate_callee (f := 19) rfl ?_); refine goesL_ (some 172) rfl rfl Tryz.func19 (by kernel_rfl) rfl #[.string a0] rfl (by (try simp only [List.map_toArray, List.map_cons, List.map_nil]); first | done | rfl | (simp only [List.length_drop, List.length_take]; rfl)) ?_; (with_reducible refine (natural_Int.calls a0 t132 t133 _ ?side1 A45.out).mono ?_); (case side1 => exact Laid.below HLaid.out (by repeat (first | (with_reducible first | exact HB.out | apply below_alloc | apply pw_below_drewN | apply below_drew1) | exact HB.out))); rintro e w75 ⟨rfl, hb⟩; refine ⟨_, rfl, ?_⟩; have n0_ := Aside0.mk (below_step (by repeat (first | (with_reducible first | exact HB.out | apply below_alloc | apply pw_below_drewN | apply below_drew1) | exact HB.out)) hb); clear HB; have HB := n0_; clear n0_; (try clear hb); (try clear hb2); (try clear hk); (try clear hi)) | ((with_reducible refine gate_callee (f := 20) rfl ?_); refine goesL_ (some 177) rfl rfl Tryz.func20 (by kernel_rfl) rfl #[.string a0] rfl (by (try simp only [List.map_toArray, List.map_cons, List.map_nil]); first | done | rfl | (simp only [List.length_drop, List.length_take]; rfl)) ?_; (with_reducible refine (observatoryref03_Int.calls a0 t134 t135 _ A46.out).mono ?_); rintro e w76 ⟨rfl, hb⟩; refine ⟨_, rfl, ?_⟩; have n0_ := Aside0.mk (below_step (by repeat (first | (with_reducible first | exact HB.out | apply below_alloc | apply pw_below_drewN | apply below_drew1) | exact HB.out)) hb); clear HB; have HB := n0_; clear n0_; (try clear hb); (try clear hb2); (try clear hk); (try clear hi)))
                          go_ret
                          exact ⟨by first | rfl | (simp [errW_none, errW_some] <;> rfl) | (simp [*, errW_none, errW_some] <;> rfl), by repeat (first | (with_reducible first | exact HB.out | apply below_alloc | apply pw_below_drewN | apply below_drew1) | exact HB.out)⟩
                      · rw [if_neg c52] at H
                        have c52b0 : (t132 == t134) = false := beq_eq_false_iff_ne.mpr c52
                        have c52b1 : (t132 != t134) = true := bne_iff_ne.mpr c52
                        obtain rfl := Option.some.inj H
                        go_wp2_with (first | ((with_reducible refine gate_callee (f := 17) rfl ?_); refine goesL_ (some 162) rfl rfl Tryz.func17 (by kernel_rfl) rfl #[.int .i64 a2] rfl (by (try simp only [List.map_toArray, List.map_cons, List.map_nil]); first | done | rfl | (simp only [List.length_drop, List.length_take]; rfl)) ?_; (with_reducible refine (natural_Of.calls a2 t128 t129 _ ?side1 A43.out).mono ?_); (case side1 => exact Laid.below HLaid.out (by repeat (first | (with_reducible first | exact HB.out | apply below_alloc | apply pw_below_drewN | apply below_drew1) | exact HB.out))); rintro e w77 ⟨rfl, hb⟩; refine ⟨_, rfl, ?_⟩; have n0_ := Aside0.mk (below_step (by repeat (first | (with_reducible first | exact HB.out | apply below_alloc | apply pw_below_drewN | apply below_drew1) | exact HB.out)) hb); clear HB; have HB := n0_; clear n0_; (try clear hb); (try clear hb2); (try clear hk); (try clear hi)) | ((with_reducible refine gate_callee (f := 18) rfl ?_); refine goesL_ (some 167) rfl rfl Tryz.func18 (by kernel_rfl) rfl #[.int .i64 a2] rfl (by (try simp only [List.map_toArray, List.map_cons, List.map_nil]); first | done | rfl | (simp only [List.length_drop, List.length_take]; rfl)) ?_; (with_reducible refine (observatoryref03_Of.calls a2 t130 t131 _ A44.out).mono ?_); rintro e w78 ⟨rfl, hb⟩; refine ⟨_, rfl, ?_⟩; have n0_ := Aside0.mk (below_step (by repeat (first | (with_reducible first | exact HB.out | apply below_alloc | apply pw_below_drewN | apply below_drew1) | exact HB.out)) hb); clear HB; have HB := n0_; clear n0_; (try clear hb); (try clear hb2); (try clear hk); (try clear hi)) | ((with_reducible refine gate_callee (f := 19) rfl ?_); refine goesL_ (some 172) rfl rfl Tryz.func19 (by kernel_rfl) rfl #[.string a0] rfl (by (try simp only [List.map_toArray, List.map_cons, List.map_nil]); first | done | rfl | (simp only [List.length_drop, List.length_take]; rfl)) ?_; (with_reducible refine (natural_Int.calls a0 t132 t133 _ ?side1 A45.out).mono ?_); (case side1 => exact Laid.below HLaid.out (by repeat (first | (with_reducible first | exact HB.out | apply below_alloc | apply pw_below_drewN | apply below_drew1) | exact HB.out))); rintro e w79 ⟨rfl, hb⟩; refine ⟨_, rfl, ?_⟩; have n0_ := Aside0.mk (below_step (by repeat (first | (with_reducible first | exact HB.out | apply below_alloc | apply pw_below_drewN | apply below_drew1) | exact HB.out)) hb); clear HB; have HB := n0_; clear n0_; (try clear hb); (try clear hb2); (try clear hk); (try clear hi)) | ((with_reducible refine gate_callee (f := 20) rfl ?_); refine goesL_ (some 177) rfl rfl Tryz.func20 (by kernel_rfl) rfl #[.string a0] rfl (by (try simp only [List.map_toArray, List.map_cons, List.map_nil]); first | done | rfl | (simp only [List.length_drop, List.length_take]; rfl)) ?_; (with_reducible refine (observatoryref03_Int.calls a0 t134 t135 _ A46.out).mono ?_); rintro e w80 ⟨rfl, hb⟩; refine ⟨_, rfl, ?_⟩; have n0_ := Aside0.mk (below_step (by repeat (first | (with_reducible first | exact HB.out | apply below_alloc | apply pw_below_drewN | apply below_drew1) | exact HB.out)) hb); clear HB; have HB := n0_; clear n0_; (try clear hb); (try clear hb2); (try clear hk); (try clear hi)))
                        go_ret
                        exact ⟨by first | rfl | (simp [errW_none, errW_some] <;> rfl) | (simp [*, errW_none, errW_some] <;> rfl), by repeat (first | (with_reducible first | exact HB.out | apply below_alloc | apply pw_below_drewN | apply below_drew1) | exact HB.out)⟩
                    · rw [if_neg c51] at H
                      have c51b0 : (t129 == t131) = false := beq_eq_false_iff_ne.mpr c51
                      have c51b1 : (t129 != t131) = true := bne_iff_ne.mpr c51
                      obtain rfl := Option.some.inj H
                      go_wp2_with (first | ((with_reducible refine gate_callee (f := 17) rfl ?_); refine goesL_ (some 162) rfl rfl Tryz.func17 (by kernel_rfl) rfl #[.int .i64 a2] rfl (by (try simp only [List.map_toArray, List.map_cons, List.map_nil]); first | done | rfl | (simp only [List.length_drop, List.length_take]; rfl)) ?_; (with_reducible refine (natural_Of.calls a2 t128 t129 _ ?side1 A43.out).mono ?_); (case side1 => exact Laid.below HLaid.out (by repeat (first | (with_reducible first | exact HB.out | apply below_alloc | apply pw_below_drewN | apply below_drew1) | exact HB.out))); rintro e w81 ⟨rfl, hb⟩; refine ⟨_, rfl, ?_⟩; have n0_ := Aside0.mk (below_step (by repeat (first | (with_reducible first | exact HB.out | apply below_alloc | apply pw_below_drewN | apply below_drew1) | exact HB.out)) hb); clear HB; have HB := n0_; clear n0_; (try clear hb); (try clear hb2); (try clear hk); (try clear hi)) | ((with_reducible refine gate_callee (f := 18) rfl ?_); refine goesL_ (some 167) rfl rfl Tryz.func18 (by kernel_rfl) rfl #[.int .i64 a2] rfl (by (try simp only [List.map_toArray, List.map_cons, List.map_nil]); first | done | rfl | (simp only [List.length_drop, List.length_take]; rfl)) ?_; (with_reducible refine (observatoryref03_Of.calls a2 t130 t131 _ A44.out).mono ?_); rintro e w82 ⟨rfl, hb⟩; refine ⟨_, rfl, ?_⟩; have n0_ := Aside0.mk (below_step (by repeat (first | (with_reducible first | exact HB.out | apply below_alloc | apply pw_below_drewN | apply below_drew1) | exact HB.out)) hb); clear HB; have HB := n0_; clear n0_; (try clear hb); (try clear hb2); (try clear hk); (try clear hi)) | ((with_reducible refine gate_callee (f := 19) rfl ?_); refine goesL_ (some 172) rfl rfl Tryz.func19 (by kernel_rfl) rfl #[.string a0] rfl (by (try simp only [List.map_toArray, List.map_cons, List.map_nil]); first | done | rfl | (simp only [List.length_drop, List.length_take]; rfl)) ?_; (with_reducible refine (natural_Int.calls a0 t132 t133 _ ?side1 A45.out).mono ?_); (case side1 => exact Laid.below HLaid.out (by repeat (first | (with_reducible first | exact HB.out | apply below_alloc | apply pw_below_drewN | apply below_drew1) | exact HB.out))); rintro e w83 ⟨rfl, hb⟩; refine ⟨_, rfl, ?_⟩; have n0_ := Aside0.mk (below_step (by repeat (first | (with_reducible first | exact HB.out | apply below_alloc | apply pw_below_drewN | apply below_drew1) | exact HB.out)) hb); clear HB; have HB := n0_; clear n0_; (try clear hb); (try clear hb2); (try clear hk); (try clear hi)) | ((with_reducible refine gate_callee (f := 20) rfl ?_); refine goesL_ (some 177) rfl rfl Tryz.func20 (by kernel_rfl) rfl #[.string a0] rfl (by (try simp only [List.map_toArray, List.map_cons, List.map_nil]); first | done | rfl | (simp only [List.length_drop, List.length_take]; rfl)) ?_; (with_reducible refine (observatoryref03_Int.calls a0 t134 t135 _ A46.out).mono ?_); rintro e w84 ⟨rfl, hb⟩; refine ⟨_, rfl, ?_⟩; have n0_ := Aside0.mk (below_step (by repeat (first | (with_reducible first | exact HB.out | apply below_alloc | apply pw_below_drewN | apply below_drew1) | exact HB.out)) hb); clear HB; have HB := n0_; clear n0_; (try clear hb); (try clear hb2); (try clear hk); (try clear hi)))
                      go_ret
                      exact ⟨by first | rfl | (simp [errW_none, errW_some] <;> rfl) | (simp [*, errW_none, errW_some] <;> rfl), by repeat (first | (with_reducible first | exact HB.out | apply below_alloc | apply pw_below_drewN | apply below_drew1) | exact HB.out)⟩
                  · rw [if_neg c50] at H
                    have c50b0 : (t128.toList == t130.toList) = false := beq_eq_false_iff_ne.mpr c50
                    have c50b1 : (t128.toList != t130.toList) = true := bne_iff_ne.mpr c50
                    obtain rfl := Option.some.inj H
                    go_wp2_with (first | ((with_reducible refine gate_callee (f := 17) rfl ?_); refine goesL_ (some 162) rfl rfl Tryz.func17 (by kernel_rfl) rfl #[.int .i64 a2] rfl (by (try simp only [List.map_toArray, List.map_cons, List.map_nil]); first | done | rfl | (simp only [List.length_drop, List.length_take]; rfl)) ?_; (with_reducible refine (natural_Of.calls a2 t128 t129 _ ?side1 A43.out).mono ?_); (case side1 => exact Laid.below HLaid.out (by repeat (first | (with_reducible first | exact HB.out | apply below_alloc | apply pw_below_drewN | apply below_drew1) | exact HB.out))); rintro e w85 ⟨rfl, hb⟩; refine ⟨_, rfl, ?_⟩; have n0_ := Aside0.mk (below_step (by repeat (first | (with_reducible first | exact HB.out | apply below_alloc | apply pw_below_drewN | apply below_drew1) | exact HB.out)) hb); clear HB; have HB := n0_; clear n0_; (try clear hb); (try clear hb2); (try clear hk); (try clear hi)) | ((with_reducible refine gate_callee (f := 18) rfl ?_); refine goesL_ (some 167) rfl rfl Tryz.func18 (by kernel_rfl) rfl #[.int .i64 a2] rfl (by (try simp only [List.map_toArray, List.map_cons, List.map_nil]); first | done | rfl | (simp only [List.length_drop, List.length_take]; rfl)) ?_; (with_reducible refine (observatoryref03_Of.calls a2 t130 t131 _ A44.out).mono ?_); rintro e w86 ⟨rfl, hb⟩; refine ⟨_, rfl, ?_⟩; have n0_ := Aside0.mk (below_step (by repeat (first | (with_reducible first | exact HB.out | apply below_alloc | apply pw_below_drewN | apply below_drew1) | exact HB.out)) hb); clear HB; have HB := n0_; clear n0_; (try clear hb); (try clear hb2); (try clear hk); (try clear hi)) | ((with_reducible refine gate_callee (f := 19) rfl ?_); refine goesL_ (some 172) rfl rfl Tryz.func19 (by kernel_rfl) rfl #[.string a0] rfl (by (try simp only [List.map_toArray, List.map_cons, List.map_nil]); first | done | rfl | (simp only [List.length_drop, List.length_take]; rfl)) ?_; (with_reducible refine (natural_Int.calls a0 t132 t133 _ ?side1 A45.out).mono ?_); (case side1 => exact Laid.below HLaid.out (by repeat (first | (with_reducible first | exact HB.out | apply below_alloc | apply pw_below_drewN | apply below_drew1) | exact HB.out))); rintro e w87 ⟨rfl, hb⟩; refine ⟨_, rfl, ?_⟩; have n0_ := Aside0.mk (below_step (by repeat (first | (with_reducible first | exact HB.out | apply below_alloc | apply pw_below_drewN | apply below_drew1) | exact HB.out)) hb); clear HB; have HB := n0_; clear n0_; (try clear hb); (try clear hb2); (try clear hk); (try clear hi)) | ((with_reducible refine gate_callee (f := 20) rfl ?_); refine goesL_ (some 177) rfl rfl Tryz.func20 (by kernel_rfl) rfl #[.string a0] rfl (by (try simp only [List.map_toArray, List.map_cons, List.map_nil]); first | done | rfl | (simp only [List.length_drop, List.length_take]; rfl)) ?_; (with_reducible refine (observatoryref03_Int.calls a0 t134 t135 _ A46.out).mono ?_); rintro e w88 ⟨rfl, hb⟩; refine ⟨_, rfl, ?_⟩; have n0_ := Aside0.mk (below_step (by repeat (first | (with_reducible first | exact HB.out | apply below_alloc | apply pw_below_drewN | apply below_drew1) | exact HB.out)) hb); clear HB; have HB := n0_; clear n0_; (try clear hb); (try clear hb2); (try clear hk); (try clear hi)))
                    go_ret
                    exact ⟨by first | rfl | (simp [errW_none, errW_some] <;> rfl) | (simp [*, errW_none, errW_some] <;> rfl), by repeat (first | (with_reducible first | exact HB.out | apply below_alloc | apply pw_below_drewN | apply below_drew1) | exact HB.out)⟩
                · replace c49 := Bool.eq_false_iff.mpr c49
                  subst c49
                  have H1 : (some false) = some r := by rw [if_neg (show ¬ (false = true) by decide)] at H; exact H
                  clear H
                  have H := H1
                  clear H1
                  obtain rfl := Option.some.inj H
                  go_wp2_with (first | ((with_reducible refine gate_callee (f := 17) rfl ?_); refine goesL_ (some 162) rfl rfl Tryz.func17 (by kernel_rfl) rfl #[.int .i64 a2] rfl (by (try simp only [List.map_toArray, List.map_cons, List.map_nil]); first | done | rfl | (simp only [List.length_drop, List.length_take]; rfl)) ?_; (with_reducible refine (natural_Of.calls a2 t128 t129 _ ?side1 A43.out).mono ?_); (case side1 => exact Laid.below HLaid.out (by repeat (first | (with_reducible first | exact HB.out | apply below_alloc | apply pw_below_drewN | apply below_drew1) | exact HB.out))); rintro e w89 ⟨rfl, hb⟩; refine ⟨_, rfl, ?_⟩; have n0_ := Aside0.mk (below_step (by repeat (first | (with_reducible first | exact HB.out | apply below_alloc | apply pw_below_drewN | apply below_drew1) | exact HB.out)) hb); clear HB; have HB := n0_; clear n0_; (try clear hb); (try clear hb2); (try clear hk); (try clear hi)) | ((with_reducible refine gate_callee (f := 18) rfl ?_); refine goesL_ (some 167) rfl rfl Tryz.func18 (by kernel_rfl) rfl #[.int .i64 a2] rfl (by (try simp only [List.map_toArray, List.map_cons, List.map_nil]); first | done | rfl | (simp only [List.length_drop, List.length_take]; rfl)) ?_; (with_reducible refine (observatoryref03_Of.calls a2 t130 t131 _ A44.out).mono ?_); rintro e w90 ⟨rfl, hb⟩; refine ⟨_, rfl, ?_⟩; have n0_ := Aside0.mk (below_step (by repeat (first | (with_reducible first | exact HB.out | apply below_alloc | apply pw_below_drewN | apply below_drew1) | exact HB.out)) hb); clear HB; have HB := n0_; clear n0_; (try clear hb); (try clear hb2); (try clear hk); (try clear hi)) | ((with_reducible refine gate_callee (f := 19) rfl ?_); refine goesL_ (some 172) rfl rfl Tryz.func19 (by kernel_rfl) rfl #[.string a0] rfl (by (try simp only [List.map_toArray, List.map_cons, List.map_nil]); first | done | rfl | (simp only [List.length_drop, List.length_take]; rfl)) ?_; (with_reducible refine (natural_Int.calls a0 t132 t133 _ ?side1 A45.out).mono ?_); (case side1 => exact Laid.below HLaid.out (by repeat (first | (with_reducible first | exact HB.out | apply below_alloc | apply pw_below_drewN | apply below_drew1) | exact HB.out))); rintro e w91 ⟨rfl, hb⟩; refine ⟨_, rfl, ?_⟩; have n0_ := Aside0.mk (below_step (by repeat (first | (with_reducible first | exact HB.out | apply below_alloc | apply pw_below_drewN | apply below_drew1) | exact HB.out)) hb); clear HB; have HB := n0_; clear n0_; (try clear hb); (try clear hb2); (try clear hk); (try clear hi)) | ((with_reducible refine gate_callee (f := 20) rfl ?_); refine goesL_ (some 177) rfl rfl Tryz.func20 (by kernel_rfl) rfl #[.string a0] rfl (by (try simp only [List.map_toArray, List.map_cons, List.map_nil]); first | done | rfl | (simp only [List.length_drop, List.length_take]; rfl)) ?_; (with_reducible refine (observatoryref03_Int.calls a0 t134 t135 _ A46.out).mono ?_); rintro e w92 ⟨rfl, hb⟩; refine ⟨_, rfl, ?_⟩; have n0_ := Aside0.mk (below_step (by repeat (first | (with_reducible first | exact HB.out | apply below_alloc | apply pw_below_drewN | apply below_drew1) | exact HB.out)) hb); clear HB; have HB := n0_; clear n0_; (try clear hb); (try clear hb2); (try clear hk); (try clear hi)))
                  go_ret
                  exact ⟨by first | rfl | (simp [errW_none, errW_some] <;> rfl) | (simp [*, errW_none, errW_some] <;> rfl), by repeat (first | (with_reducible first | exact HB.out | apply below_alloc | apply pw_below_drewN | apply below_drew1) | exact HB.out)⟩
              · replace c48 := Bool.eq_false_iff.mpr c48
                subst c48
                have H1 : (some false) = some r := by rw [if_neg (show ¬ (false = true) by decide)] at H; exact H
                clear H
                have H := H1
                clear H1
                obtain rfl := Option.some.inj H
                go_wp2_with (first | ((with_reducible refine gate_callee (f := 17) rfl ?_); refine goesL_ (some 162) rfl rfl Tryz.func17 (by kernel_rfl) rfl #[.int .i64 a2] rfl (by (try simp only [List.map_toArray, List.map_cons, List.map_nil]); first | done | rfl | (simp only [List.length_drop, List.length_take]; rfl)) ?_; (with_reducible refine (natural_Of.calls a2 t128 t129 _ ?side1 A43.out).mono ?_); (case side1 => exact Laid.below HLaid.out (by repeat (first | (with_reducible first | exact HB.out | apply below_alloc | apply pw_below_drewN | apply below_drew1) | exact HB.out))); rintro e w93 ⟨rfl, hb⟩; refine ⟨_, rfl, ?_⟩; have n0_ := Aside0.mk (below_step (by repeat (first | (with_reducible first | exact HB.out | apply below_alloc | apply pw_below_drewN | apply below_drew1) | exact HB.out)) hb); clear HB; have HB := n0_; clear n0_; (try clear hb); (try clear hb2); (try clear hk); (try clear hi)) | ((with_reducible refine gate_callee (f := 18) rfl ?_); refine goesL_ (some 167) rfl rfl Tryz.func18 (by kernel_rfl) rfl #[.int .i64 a2] rfl (by (try simp only [List.map_toArray, List.map_cons, List.map_nil]); first | done | rfl | (simp only [List.length_drop, List.length_take]; rfl)) ?_; (with_reducible refine (observatoryref03_Of.calls a2 t130 t131 _ A44.out).mono ?_); rintro e w94 ⟨rfl, hb⟩; refine ⟨_, rfl, ?_⟩; have n0_ := Aside0.mk (below_step (by repeat (first | (with_reducible first | exact HB.out | apply below_alloc | apply pw_below_drewN | apply below_drew1) | exact HB.out)) hb); clear HB; have HB := n0_; clear n0_; (try clear hb); (try clear hb2); (try clear hk); (try clear hi)) | ((with_reducible refine gate_callee (f := 19) rfl ?_); refine goesL_ (some 172) rfl rfl Tryz.func19 (by kernel_rfl) rfl #[.string a0] rfl (by (try simp only [List.map_toArray, List.map_cons, List.map_nil]); first | done | rfl | (simp only [List.length_drop, List.length_take]; rfl)) ?_; (with_reducible refine (natural_Int.calls a0 t132 t133 _ ?side1 A45.out).mono ?_); (case side1 => exact Laid.below HLaid.out (by repeat (first | (with_reducible first | exact HB.out | apply below_alloc | apply pw_below_drewN | apply below_drew1) | exact HB.out))); rintro e w95 ⟨rfl, hb⟩; refine ⟨_, rfl, ?_⟩; have n0_ := Aside0.mk (below_step (by repeat (first | (with_reducible first | exact HB.out | apply below_alloc | apply pw_below_drewN | apply below_drew1) | exact HB.out)) hb); clear HB; have HB := n0_; clear n0_; (try clear hb); (try clear hb2); (try clear hk); (try clear hi)) | ((with_reducible refine gate_callee (f := 20) rfl ?_); refine goesL_ (some 177) rfl rfl Tryz.func20 (by kernel_rfl) rfl #[.string a0] rfl (by (try simp only [List.map_toArray, List.map_cons, List.map_nil]); first | done | rfl | (simp only [List.length_drop, List.length_take]; rfl)) ?_; (with_reducible refine (observatoryref03_Int.calls a0 t134 t135 _ A46.out).mono ?_); rintro e w96 ⟨rfl, hb⟩; refine ⟨_, rfl, ?_⟩; have n0_ := Aside0.mk (below_step (by repeat (first | (with_reducible first | exact HB.out | apply below_alloc | apply pw_below_drewN | apply below_drew1) | exact HB.out)) hb); clear HB; have HB := n0_; clear n0_; (try clear hb); (try clear hb2); (try clear hk); (try clear hi)))
                go_ret
                exact ⟨by first | rfl | (simp [errW_none, errW_some] <;> rfl) | (simp [*, errW_none, errW_some] <;> rfl), by repeat (first | (with_reducible first | exact HB.out | apply below_alloc | apply pw_below_drewN | apply below_drew1) | exact HB.out)⟩
            · replace c47 := Bool.eq_false_iff.mpr c47
              subst c47
              have H1 : (some false) = some r := by rw [if_neg (show ¬ (false = true) by decide)] at H; exact H
              clear H
              have H := H1
              clear H1
              obtain rfl := Option.some.inj H
              go_wp2_with (first | ((with_reducible refine gate_callee (f := 17) rfl ?_); refine goesL_ (some 162) rfl rfl Tryz.func17 (by kernel_rfl) rfl #[.int .i64 a2] rfl (by (try simp only [List.map_toArray, List.map_cons, List.map_nil]); first | done | rfl | (simp only [List.length_drop, List.length_take]; rfl)) ?_; (with_reducible refine (natural_Of.calls a2 t128 t129 _ ?side1 A43.out).mono ?_); (case side1 => exact Laid.below HLaid.out (by repeat (first | (with_reducible first | exact HB.out | apply below_alloc | apply pw_below_drewN | apply below_drew1) | exact HB.out))); rintro e w97 ⟨rfl, hb⟩; refine ⟨_, rfl, ?_⟩; have n0_ := Aside0.mk (below_step (by repeat (first | (with_reducible first | exact HB.out | apply below_alloc | apply pw_below_drewN | apply below_drew1) | exact HB.out)) hb); clear HB; have HB := n0_; clear n0_; (try clear hb); (try clear hb2); (try clear hk); (try clear hi)) | ((with_reducible refine gate_callee (f := 18) rfl ?_); refine goesL_ (some 167) rfl rfl Tryz.func18 (by kernel_rfl) rfl #[.int .i64 a2] rfl (by (try simp only [List.map_toArray, List.map_cons, List.map_nil]); first | done | rfl | (simp only [List.length_drop, List.length_take]; rfl)) ?_; (with_reducible refine (observatoryref03_Of.calls a2 t130 t131 _ A44.out).mono ?_); rintro e w98 ⟨rfl, hb⟩; refine ⟨_, rfl, ?_⟩; have n0_ := Aside0.mk (below_step (by repeat (first | (with_reducible first | exact HB.out | apply below_alloc | apply pw_below_drewN | apply below_drew1) | exact HB.out)) hb); clear HB; have HB := n0_; clear n0_; (try clear hb); (try clear hb2); (try clear hk); (try clear hi)) | ((with_reducible refine gate_callee (f := 19) rfl ?_); refine goesL_ (some 172) rfl rfl Tryz.func19 (by kernel_rfl) rfl #[.string a0] rfl (by (try simp only [List.map_toArray, List.map_cons, List.map_nil]); first | done | rfl | (simp only [List.length_drop, List.length_take]; rfl)) ?_; (with_reducible refine (natural_Int.calls a0 t132 t133 _ ?side1 A45.out).mono ?_); (case side1 => exact Laid.below HLaid.out (by repeat (first | (with_reducible first | exact HB.out | apply below_alloc | apply pw_below_drewN | apply below_drew1) | exact HB.out))); rintro e w99 ⟨rfl, hb⟩; refine ⟨_, rfl, ?_⟩; have n0_ := Aside0.mk (below_step (by repeat (first | (with_reducible first | exact HB.out | apply below_alloc | apply pw_below_drewN | apply below_drew1) | exact HB.out)) hb); clear HB; have HB := n0_; clear n0_; (try clear hb); (try clear hb2); (try clear hk); (try clear hi)) | ((with_reducible refine gate_callee (f := 20) rfl ?_); refine goesL_ (some 177) rfl rfl Tryz.func20 (by kernel_rfl) rfl #[.string a0] rfl (by (try simp only [List.map_toArray, List.map_cons, List.map_nil]); first | done | rfl | (simp only [List.length_drop, List.length_take]; rfl)) ?_; (with_reducible refine (observatoryref03_Int.calls a0 t134 t135 _ A46.out).mono ?_); rintro e w100 ⟨rfl, hb⟩; refine ⟨_, rfl, ?_⟩; have n0_ := Aside0.mk (below_step (by repeat (first | (with_reducible first | exact HB.out | apply below_alloc | apply pw_below_drewN | apply below_drew1) | exact HB.out)) hb); clear HB; have HB := n0_; clear n0_; (try clear hb); (try clear hb2); (try clear hk); (try clear hi)))
              go_ret
              exact ⟨by first | rfl | (simp [errW_none, errW_some] <;> rfl) | (simp [*, errW_none, errW_some] <;> rfl), by repeat (first | (with_reducible first | exact HB.out | apply below_alloc | apply pw_below_drewN | apply below_drew1) | exact HB.out)⟩
  · replace c6 := Bool.eq_false_iff.mpr c6
    subst c6
    have H1 : (some t101) = some r := by rw [if_neg (show ¬ (false = true) by decide)] at H; exact H
    clear H
    have H := H1
    clear H1
    obtain rfl := Option.some.inj H
    go_enter Tryz.func3, Tryz.ntmps3
    go_wp2_with (first | ((with_reducible refine gate_callee (f := 5) rfl ?_); refine goesL_ (some 40) rfl rfl Tryz.func5 (by kernel_rfl) rfl #[] rfl (by (try simp only [List.map_toArray, List.map_cons, List.map_nil]); first | done | rfl | (simp only [List.length_drop, List.length_take]; rfl)) ?_; (with_reducible refine (observatorylaw03_head.calls  t101 _ ?side1 A4.out).mono ?_); (case side1 => exact Laid.below HLaid.out (by repeat (first | (with_reducible first | exact HB.out | apply below_alloc | apply pw_below_drewN | apply below_drew1) | exact HB.out))); rintro e w101 ⟨rfl, hb⟩; refine ⟨_, rfl, ?_⟩; have n0_ := Aside0.mk (below_step (by repeat (first | (with_reducible first | exact HB.out | apply below_alloc | apply pw_below_drewN | apply below_drew1) | exact HB.out)) hb); clear HB; have HB := n0_; clear n0_; (try clear hb); (try clear hb2); (try clear hk); (try clear hi)) | ((with_reducible refine gate_dst (N := 43) rfl ?_); refine Kd.R_lit Kd.string _ 22 ?hg (N := 43) ?hd (xs := ([a0, a1] : List ByteArray)) (inner := [.string a0, .string a1]) (ok := fun _ => True) (okp := fun _ => True) ?hr ?hp (fun _ hk => hk) trivial (Below.refl _ _) (Nat.le_refl _) (by simp) ?_; (case hd => rfl); (case hg => rfl); (case hr => first | (go_simp; done) | (go_simp; rfl)); (case hp => exact (Reps.one (show Kd.M Kd.string _ _ _ a0 [.string a0] from rfl) (Reps.one (show Kd.M Kd.string _ _ _ a1 [.string a1] from rfl) (Reps.none _ _)))); intro v103 w102 ho103 hb hg_ hnew_; clear hg_ hnew_; (first | rw [← Ny102.out] at ho103 | (simp only [Int.reduceToNat] at ho103; rw [← Ny102.out] at ho103)); have n0_ := Aside0.mk (Kd.R_lower ho103 (below_size (by repeat (first | (with_reducible first | exact HB.out | apply below_alloc | apply pw_below_drewN | apply below_drew1) | exact HB.out)))); have n1_ := Aside0.mk (below_step (by repeat (first | (with_reducible first | exact HB.out | apply below_alloc | apply pw_below_drewN | apply below_drew1) | exact HB.out)) hb); clear HB; have HO104 := n0_; have HB := n1_; clear n0_ n1_; clear hb ho103; obtain ⟨Ao104, co104, eo104⟩ := Kd.R_slice HO104.out; subst eo104) | ((with_reducible refine gate_callee (f := 6) rfl ?_); refine goesL_ (some 44) rfl rfl Tryz.func6 (by kernel_rfl) rfl #[.slice Ao104 y102.length co104] rfl (by (try simp only [List.map_toArray, List.map_cons, List.map_nil]); first | done | rfl | (simp only [List.length_drop, List.length_take]; rfl)) ?_; (with_reducible refine (observatorylaw03_few.calls _ _ y102 false _ ?side1 ?side2 A5.out).mono ?_); (case side1 => repeat (first | exact (Kd.R_reads' HO104.out).2.2 | (with_reducible refine Kd.C_alloc ?_ _) | (with_reducible refine Kd.C_drewN ?_ _) | (with_reducible refine Kd.C_drew ?_))); (case side2 => exact (Kd.R_reads' HO104.out).2.1); rintro e w105 ⟨rfl, hb⟩; refine ⟨_, rfl, ?_⟩; have n0_ := Aside0.mk (Kd.R_below (by (with_reducible repeat (first | apply Kd.R_alloc | apply Kd.R_drewN | apply Kd.R_drew)); exact HO104.out) hb); have n1_ := Aside0.mk (below_step (by repeat (first | (with_reducible first | exact HB.out | apply below_alloc | apply pw_below_drewN | apply below_drew1) | exact HB.out)) hb); clear HO104; clear HB; have HO104 := n0_; have HB := n1_; clear n0_ n1_; (try clear hb); (try clear hb2); (try clear hk); (try clear hi)))
    go_ret
    exact ⟨by first | rfl | (simp [errW_none, errW_some] <;> rfl) | (simp [*, errW_none, errW_some] <;> rfl), by repeat (first | (with_reducible first | exact HB.out | apply below_alloc | apply pw_below_drewN | apply below_drew1) | exact HB.out)⟩

/-- THE ONE PURE STATEMENT of observatorylaw03_NaturalMatchesReference: yours. -/
def observatorylaw03_NaturalMatchesReference.Pure : Prop := ∀ (a0 : ByteArray) (a1 : ByteArray) (a2 : Int), a0.size ≤ 140737488351232 → a1.size ≤ 140737488351232 → (Lit.int .i64 a2).wf = true → ∃ k, observatorylaw03_NaturalMatchesReference.f k a0 a1 a2 = some true
theorem observatorylaw03_NaturalMatchesReference.walk (P : observatorylaw03_NaturalMatchesReference.Pure) (a0 : ByteArray) (a1 : ByteArray) (a2 : Int) (w : World) (hL : Laid w) (w0 : a0.size ≤ 140737488351232) (w1 : a1.size ≤ 140737488351232) (w2 : (Lit.int .i64 a2).wf = true) :
    Calls Tryz.prog 3 #[.string a0, .string a1, .int .i64 a2] w fun e w' => e = .returned (.bool true) ∧ Below w.heap.size w w' := by
  obtain ⟨k, h⟩ := P a0 a1 a2 w0 w1 w2
  refine (observatorylaw03_NaturalMatchesReference.calls k a0 a1 a2 true w hL h).mono ?_
  rintro e w' ⟨rfl, hd⟩
  exact ⟨rfl, hd⟩

end Go.Proofs.YtdhhbmmidgebhaaGreatDoor.XMat

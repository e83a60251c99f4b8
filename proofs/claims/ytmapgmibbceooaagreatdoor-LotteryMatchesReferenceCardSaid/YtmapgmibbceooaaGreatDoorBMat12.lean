/- The texts of this claim, laid together by a program of this session (bundle.py). -/
import Derived.Test.YtmapgmibbceooaaGreatDoorBMat10
section -- LotLaw
namespace Go.Proofs.YtmapgmibbceooaaGreatDoor
set_option linter.unusedVariables false
set_option linter.unusedSimpArgs false
set_option linter.unusedSectionVars false
theorem ix_append_left {a b : List Int} {i : Nat} (h : i < a.length) : ix (a ++ b) i = ix a i := by
  unfold ix; simp [List.getElem?_append_left h]
theorem ix_append_right {a b : List Int} {i : Nat} (h : a.length ≤ i) : ix (a ++ b) i = ix b (i - a.length) := by
  unfold ix; simp [List.getElem?_append_right h]
theorem split_at (l : List Int) {k : Nat} (h : k < l.length) : l = l.take k ++ [ix l k] ++ l.drop (k + 1) := by
  rw [← take_snoc l h, List.take_append_drop]
section
variable {shares owners merits : List Int} (V : OkReq shares owners merits) {k : Nat} (hk : k < owners.length) {x y : Int}
include V hk
end
/-- The merit of a request lies in the list of its partner at its rank. -/
theorem ix_own (owners merits : List Int) (hl : owners.length = merits.length) {k : Nat} (hk : k < owners.length) : ix (ownM owners merits (ix owners k)) (rank owners k) = ix merits k := by
  have hkm : k < merits.length := by omega
  have e : ownM owners merits (ix owners k) = ownM (owners.take k) (merits.take k) (ix owners k) ++ ([ix merits k] ++ ownM (owners.drop (k + 1)) (merits.drop (k + 1)) (ix owners k)) := by
    have := own_append (owners.take k ++ [ix owners k]) (owners.drop (k + 1)) (merits.take k ++ [ix merits k]) (merits.drop (k + 1)) (ix owners k) (by simp [hl])
    rw [← split_at owners hk, ← split_at merits hkm, own_append _ _ _ _ _ (by simp [hl]), own_single, if_pos rfl, List.append_assoc] at this
    exact this
  have hlen : (ownM (owners.take k) (merits.take k) (ix owners k)).length = rank owners k := by
    rw [length_own _ _ _ (by simp [hl])]; rfl
  rw [e, ix_append_right (by omega), hlen, Nat.sub_self]; rfl
section
variable {shares owners merits : List Int} (V : OkReq shares owners merits)
include V
end
end Go.Proofs.YtmapgmibbceooaaGreatDoor
end

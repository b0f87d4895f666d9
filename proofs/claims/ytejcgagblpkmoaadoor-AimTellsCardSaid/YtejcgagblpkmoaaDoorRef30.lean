
/-
  The document's wants: hoistwayref30.Rides, Full, Lands. Conditions: at most 1000 riders.
-/
import Derived.Test.YtejcgagblpkmoaaDoorRef03e
import Derived.Test.YtejcgagblpkmoaaDoorWant
set_option linter.unusedVariables false
set_option linter.unusedSimpArgs false
namespace Go.Proofs.YtejcgagblpkmoaaDoor
open Go.Joins Go.ChangeShapes Go.WideShapes Go.ChangeAt Go.RowKit Go.Deep

/-- Where the first k riders want to. -/
def dsts (rs : List Rider) (k : Nat) : List Int := (List.range k).map (dst rs)
theorem dsts_succ (rs : List Rider) (k : Nat) : dsts rs (k + 1) = dsts rs k ++ [dst rs k] := by unfold dsts; rw [List.range_succ, List.map_append]; rfl
theorem dsts_len (rs : List Rider) (k : Nat) : (dsts rs k).length = k := by simp [dsts]
theorem dsts_at (rs : List Rider) (k i : Nat) (h : i < k) : at0 (dsts rs k) i = dst rs i := by
  unfold at0 dsts
  simp [List.getD, h]
theorem of_congr {f g : Nat → Int} (k : Nat) (h : ∀ i, i < k → f i = g i) : ofX f k = ofX g k ∧ ofY f k = ofY g k := by
  induction k with
  | zero => exact ⟨rfl, rfl⟩
  | succ k ih =>
    have := ih fun i hi => h i (by omega)
    simp only [ofX, ofY]
    rw [this.1, this.2, h k (by omega)]
    exact ⟨rfl, rfl⟩
theorem of_dsts (rs : List Rider) (k : Nat) : ofX (at0 (dsts rs k)) (dsts rs k).length = ofX (dst rs) k ∧ ofY (at0 (dsts rs k)) (dsts rs k).length = ofY (dst rs) k := by
  rw [dsts_len]
  exact of_congr k fun i hi => dsts_at rs k i hi
theorem items_zero : items 0 0 = [] := by
  unfold items preI
  have : (List.range 128).filter (bitsF 0 0) = [] := by
    rw [List.filter_eq_nil_iff]
    intro n _
    unfold bitsF
    rw [mem_zero]
    simp
  rw [this]; rfl
end Go.Proofs.YtejcgagblpkmoaaDoor

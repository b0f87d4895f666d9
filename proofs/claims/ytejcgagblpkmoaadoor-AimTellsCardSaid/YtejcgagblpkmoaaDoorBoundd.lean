
/-
  Contracts of the package bound, for scenarios whose numbers are within bounds.
-/
import Derived.Test.YtejcgagblpkmoaaDoorPlaced
import Derived.Test.YtejcgagblpkmoaaDoorCheckd
set_option linter.unusedVariables false
set_option linter.unusedSimpArgs false
namespace Go.Proofs.YtejcgagblpkmoaaDoor
open Go.Joins Go.ChangeShapes Go.WideShapes Go.ChangeAt Go.RowKit Go.Deep

/-- The numbers that bounds are reckoned of. -/
def Scen.small (s : Scen) : Prop := (0 ≤ s.floors ∧ s.floors ≤ 128) ∧ (0 ≤ s.gap ∧ s.gap ≤ 16) ∧ (0 ≤ s.capacity ∧ s.capacity ≤ 64) ∧ (0 ≤ s.open_ ∧ s.open_ ≤ 64) ∧ (0 ≤ s.dwell ∧ s.dwell ≤ 64) ∧ (0 ≤ s.close ∧ s.close ≤ 64) ∧ (0 ≤ s.transfer ∧ s.transfer ≤ 64)
theorem small_of {s : Scen} (h : s.fine) : s.small := by
  obtain ⟨h1, h2, _, h4, h5, h6, h7, h8, _⟩ := h
  unfold Scen.small
  omega
theorem high_bd {s : Scen} (h : s.small) : -16 ≤ (s.floors - 1) * s.gap ∧ (s.floors - 1) * s.gap ≤ 2048 := by
  obtain ⟨h1, h2, _⟩ := h
  have e : (s.floors - 1) * s.gap = s.floors * s.gap - s.gap := by rw [Int.sub_mul]; omega
  have a : 0 ≤ s.floors * s.gap := Int.mul_nonneg h1.1 h2.1
  have b : s.floors * s.gap ≤ 128 * 16 := Int.mul_le_mul h1.2 h2.2 h2.1 (by omega)
  omega
end Go.Proofs.YtejcgagblpkmoaaDoor


/-
  Quotients, and what is left: frac.Of, Right, Text. Condition: the numbers fit their kinds.
-/
import Derived.Test.YtnlieclfajebbaaDecT
import Derived.Test.YtnlieclfajebbaaFracO
set_option linter.unusedVariables false
set_option linter.unusedSimpArgs false
namespace Go.Proofs.Ytnlieclfajebbaa
open Go.Joins Go.ChangeShapes Go.WideShapes Go.ChangeAt Go.RowKit Go.Deep

/-- May a quotient be? -/
def rightF (f : Frac) : Bool := decide (0 ≤ f.whole ∧ 0 ≤ f.rest ∧ f.rest < f.by_)
theorem frac_Right (f : Frac) (w : World) : Calls Try.prog 91 #[f.val] w fun e w' => e = .returned (.bool (rightF f)) ∧ Below w.heap.size w w' := by
  obtain ⟨x, y, z⟩ := f
  have hR : (rightF ⟨x, y, z⟩ = true ∧ 0 ≤ x ∧ 0 ≤ y ∧ y < z) ∨ (rightF ⟨x, y, z⟩ = false ∧ (x < 0 ∨ (0 ≤ x ∧ y < 0) ∨ (0 ≤ x ∧ 0 ≤ y ∧ z ≤ y))) := by
    unfold rightF; simp; omega
  rcases hR with ⟨hR, h1, h2, h3⟩ | ⟨hR, h1 | ⟨h1, h2⟩ | ⟨h1, h2, h3⟩⟩
  all_goals
    rw [hR]
    clear hR
    go_enter Try.func91, Try.ntmps91
    go_wp2
    go_ret
    exact ⟨ret_bool (by simp; try omega), (Below.refl _ _).alloc (Nat.le_refl _) _⟩
theorem ref08_Right (f : Frac) (w : World) : Calls Try.prog 92 #[f.val] w fun e w' => e = .returned (.bool (rightF f)) ∧ Below w.heap.size w w' := by
  obtain ⟨x, y, z⟩ := f
  have hR : (rightF ⟨x, y, z⟩ = true ∧ 0 ≤ x ∧ 0 ≤ y ∧ y < z) ∨ (rightF ⟨x, y, z⟩ = false ∧ (x < 0 ∨ (0 ≤ x ∧ y < 0) ∨ (0 ≤ x ∧ 0 ≤ y ∧ z ≤ y))) := by
    unfold rightF; simp; omega
  rcases hR with ⟨hR, h1, h2, h3⟩ | ⟨hR, h1 | ⟨h1, h2⟩ | ⟨h1, h2, h3⟩⟩
  all_goals
    rw [hR]
    clear hR
    go_enter Try.func92, Try.ntmps92
    go_wp2
    go_ret
    exact ⟨ret_bool (by simp; try omega), (Below.refl _ _).alloc (Nat.le_refl _) _⟩
end Go.Proofs.Ytnlieclfajebbaa


/-
  slices.Equal of two slices of ints that read as one list. Condition: the list is not too long.
-/
import Derived.Test.YtnegolclofgboaaInts
import Derived.Test.YtnegolclofgboaaShelf
set_option linter.unusedVariables false
set_option linter.unusedSimpArgs false
namespace Go.Proofs.Ytnegolclofgboaa
open Go.Joins Go.ChangeShapes Go.WideShapes Go.ChangeAt Go.RowKit Go.Deep

theorem equal_same (A1 A2 : Option Addr) (C1 C2 : Nat) (xs : List Int) (w : World) (h1 : Ints w A1 xs) (h2 : Ints w A2 xs) (hl : xs.length ≤ 100000) :
    Calls Try.prog 16 #[.slice A1 xs.length C1, .slice A2 xs.length C2] w fun e w' => e = .returned (.bool true) ∧ ∃ q, w' = w.drewN q := by
  rcases Nat.eq_zero_or_pos xs.length with h0 | h0
  · rw [h0]
    refine (Try.slices_Equal_int_empty A1 A2 C1 0 C2 w (by omega)).mono ?_
    rintro e w' ⟨rfl, rfl⟩
    exact ⟨rfl, 0, rfl⟩
  · obtain ⟨b1, o1, rfl, _, c1⟩ := h1 h0
    obtain ⟨b2, o2, rfl, _, c2⟩ := h2 h0
    refine (Try.slices_Equal_int b1 o1 xs.length C1 b2 o2 xs.length C2 xs xs w (by omega) (by omega) (by omega) (by omega) c1 c2).mono ?_
    rintro e w' ⟨rfl, hq⟩
    exact ⟨by simp, hq⟩
end Go.Proofs.Ytnegolclofgboaa

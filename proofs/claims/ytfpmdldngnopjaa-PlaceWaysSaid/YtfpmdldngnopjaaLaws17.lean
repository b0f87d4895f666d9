/-
  What the laws on the package place call besides it. No conditions.
-/
import Derived.Test.YtfpmdldngnopjaaPlace
import Derived.Test.YtfpmdldngnopjaaArgs
set_option linter.unusedVariables false
set_option linter.unusedSimpArgs false
namespace Go.Proofs.Ytfpmdldngnopjaa
open Go.Joins Go.ChangeShapes Go.WideShapes Go.ChangeAt Go.RowKit Go.Deep

def fewB (n : Int) : Bool := decide (0 ≤ n ∧ n ≤ 1048576)

theorem few17 (n : Int) (w : World) : Calls Try.prog 23 #[.int .i64 n] w fun e w' => e = .returned (.bool (fewB n)) ∧ w = w' := by
  unfold fewB
  by_cases h1 : 0 ≤ n <;> by_cases h2 : n ≤ 1048576
  all_goals
    go_enter Try.func23, Try.ntmps23
    go_wp2
    go_ret
    simp [*]

theorem alive17 (w : World) : Calls Try.prog 25 #[] w fun e w' => e = .returned (.bool true) ∧ ∃ n, w' = w.drewN n := by
  go_enter Try.func25, Try.ntmps25
  go_wp2_with (first
    | (go_at_call 24; refine (place_Next 7 3 1 _ (by omega) (by omega) (by omega) (by omega)).mono ?_; rintro e w' ⟨rfl, nq, rfl⟩)
    | (go_at_call 27; refine (place_At 3 3 _ (by omega) (by omega)).mono ?_; rintro e w' ⟨rfl, rfl⟩)
    | (go_at_call 28; refine (place_Right 1 1 _).mono ?_; rintro e w' ⟨rfl, rfl⟩))
  go_ret
  exact ⟨rfl, _, rfl⟩

theorem fewB_eq {n : Int} (h : fewB n = true) : 0 ≤ n ∧ n ≤ 1048576 := by simpa [fewB] using h

end Go.Proofs.Ytfpmdldngnopjaa

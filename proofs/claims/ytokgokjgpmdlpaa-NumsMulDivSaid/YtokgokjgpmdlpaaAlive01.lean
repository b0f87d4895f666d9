/-
  Layer 1: quotients by nought, 'is', and the chapter's example. No conditions beyond the kinds.
-/
import Derived.Test.YtokgokjgpmdlpaaNumsDiv2
set_option linter.unusedVariables false
set_option linter.unusedSimpArgs false
namespace Go.Proofs.Ytokgokjgpmdlpaa
open Go.Joins Go.ChangeShapes Go.WideShapes Go.ChangeAt Go.RowKit Go.Deep

theorem nums_Div0 (a : Int) (w : World) : Calls Try.prog 15 #[.int .i64 a, .int .i64 0] w fun e w' => e = .returned (.tuple #[.int .i64 0, .int .i64 11]) ∧ w = w' := by
  go_enter Try.func15, Try.ntmps15
  go_wp2
  go_ret2
  exact ⟨rfl, rfl⟩
theorem nums_Ceil0 (a : Int) (w : World) : Calls Try.prog 16 #[.int .i64 a, .int .i64 0] w fun e w' => e = .returned (.tuple #[.int .i64 0, .int .i64 11]) ∧ w = w' := by
  go_enter Try.func16, Try.ntmps16
  go_wp2_with (first | (go_at_call 15; refine (nums_Div0 _ _).mono ?_; rintro e w' ⟨rfl, rfl⟩))
  go_ret2
  exact ⟨rfl, rfl⟩
theorem nums_Mod0 (a : Int) (w : World) : Calls Try.prog 17 #[.int .i64 a, .int .i64 0] w fun e w' => e = .returned (.tuple #[.int .i64 0, .int .i64 11]) ∧ w = w' := by
  go_enter Try.func17, Try.ntmps17
  go_wp2
  go_ret2
  exact ⟨rfl, rfl⟩

/-- An answer is the document's. -/
theorem is01 (n e v : Int) (ok : Bool) (w : World) (h1 : ok = true → n = v ∧ e = 0) (h2 : ok = false → n = 0 ∧ e = 10) : Calls Try.prog 21 #[.int .i64 n, .int .i64 e, .int .i64 v, .bool ok] w fun e w' => e = .returned (.bool true) ∧ w = w' := by
  cases ok
  · obtain ⟨rfl, rfl⟩ := h2 rfl
    clear h1 h2
    go_enter Try.func21, Try.ntmps21
    go_wp2
    go_ret
    exact ⟨rfl, rfl⟩
  · obtain ⟨rfl, rfl⟩ := h1 rfl
    clear h1 h2
    go_enter Try.func21, Try.ntmps21
    go_wp2
    go_ret
    exact ⟨ret_bool (by simp), rfl⟩
theorem is_fit (q : Int) (w : World) : Calls Try.prog 21 #[.int .i64 (fitV q), .int .i64 (fitE q), .int .i64 (fitV q), .bool (fitB q)] w fun e w' => e = .returned (.bool true) ∧ w = w' :=
  is01 _ _ _ _ w (fun h => ⟨rfl, by unfold fitB at h; unfold fitE; simp at h; omega⟩) (fun h => by unfold fitB at h; unfold fitE fitV; simp at h; omega)

theorem div72 (w : World) : Calls Try.prog 15 #[.int .i64 (-7), .int .i64 2] w fun e w' => e = .returned (.tuple #[.int .i64 (-4), .int .i64 0]) ∧ w = w' :=
  nums_Div (-7) 2 w (by unfold I64; decide) (by unfold I64; decide) (by decide)
theorem ceil72 (w : World) : Calls Try.prog 16 #[.int .i64 (-7), .int .i64 2] w fun e w' => e = .returned (.tuple #[.int .i64 (-3), .int .i64 0]) ∧ w = w' :=
  nums_Ceil (-7) 2 w (by unfold I64; decide) (by unfold I64; decide) (by decide)
theorem mod72 (w : World) : Calls Try.prog 17 #[.int .i64 (-7), .int .i64 2] w fun e w' => e = .returned (.tuple #[.int .i64 1, .int .i64 0]) ∧ w = w' :=
  nums_Mod (-7) 2 w (by unfold I64; decide) (by unfold I64; decide) (by decide)
theorem alive01 (w : World) : Calls Try.prog 18 #[] w fun e w' => e = .returned (.bool true) ∧ w = w' := by
  go_enter Try.func18, Try.ntmps18
  go_wp2_with (first | (go_at_call 15; refine (div72 _).mono ?_; rintro e w' ⟨rfl, rfl⟩) | (go_at_call 16; refine (ceil72 _).mono ?_; rintro e w' ⟨rfl, rfl⟩) | (go_at_call 17; refine (mod72 _).mono ?_; rintro e w' ⟨rfl, rfl⟩))
  go_ret
  exact ⟨rfl, rfl⟩
end Go.Proofs.Ytokgokjgpmdlpaa

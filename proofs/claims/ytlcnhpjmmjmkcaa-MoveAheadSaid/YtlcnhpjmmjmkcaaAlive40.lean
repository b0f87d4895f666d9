
/-
  The chapter's example of layer 40.
-/
import Derived.Test.YtlcnhpjmmjmkcaaMove
set_option linter.unusedVariables false
set_option linter.unusedSimpArgs false
namespace Go.Proofs.Ytlcnhpjmmjmkcaa
open Go.Joins Go.ChangeShapes Go.WideShapes Go.ChangeAt Go.RowKit Go.Deep

abbrev s40 : Scen := ⟨3, 2, 1, 1, 1, 1, 1, 1, [⟨1, 1, 0⟩], 1, 9, 1, 1⟩
abbrev car40 : Car := ⟨3, -1, 1, 0, false, []⟩
theorem step40 : stepC s40 car40 0 0 0 0 = ⟨2, -1, 1, 0, false, []⟩ := by
  unfold stepC
  rw [if_neg (by decide)]
  rfl
set_option maxRecDepth 20000 in
set_option maxHeartbeats 2000000 in
theorem alive40 (w : World) : Calls Try.prog 17 #[] w fun e w' => e = .returned (.bool true) ∧ Below w.heap.size w w' := by
  have hw0 : Wd 0 := by unfold Wd; decide
  have cS : ∀ A w, Calls Try.prog 14 #[.agg #[.int .i64 3, .int .i64 2, .int .i64 1, .int .i64 1, .int .i64 1, .int .i64 1, .int .i64 1, .int .i64 1, .slice A 1 1, .int .i64 1, .int .i64 9, .int .i64 1, .int .i64 1], .agg #[.int .i64 3, .int .i64 (-1), .int .i64 1, .int .i64 0, .bool false, .slice none 0 0], .agg #[.int .u64 0, .int .u64 0], .agg #[.int .u64 0, .int .u64 0]] w fun e w' => e = .returned (.agg #[.int .i64 2, .int .i64 (-1), .int .i64 1, .int .i64 0, .bool false, .slice none 0 0]) ∧ Below w.heap.size w w' := fun A w => by
    have := move_Step s40 A 1 car40 none 0 0 0 0 0 w (by unfold Scen.small; decide) (by decide) (fun h => by simp at h) (by decide) (fun i => by unfold I64 dst rid; simp) (by decide) (by decide) hw0 hw0 hw0 hw0
    rw [step40] at this
    exact this
  have CS := Lib.hid cS
  clear cS
  go_enter Try.func17, Try.ntmps17
  go_wp2_with (go_at_call 14; with_reducible refine (CS.out _ _).mono ?_)
  rintro e w2 ⟨rfl, hb⟩
  have hB : Below w.heap.size w w2 := (below_alloc1 _ _).trans (hb.mono (by simp))
  clear hb
  go_wp2
  go_ret
  exact ⟨rfl, bel_at hB _⟩
end Go.Proofs.Ytlcnhpjmmjmkcaa


/-
  (Sight).Of, Stop. Conditions: floors within a million, directions -1, 0, 1.
-/
import Derived.Test.YtlcnhpjmmjmkcaaDoorFace2
set_option linter.unusedVariables false
set_option linter.unusedSimpArgs false
namespace Go.Proofs.YtlcnhpjmmjmkcaaDoor
open Go.Joins Go.ChangeShapes Go.WideShapes Go.ChangeAt Go.RowKit Go.Deep

/-- Which way a car faces. -/
def faceOf (s : Sgt) (f d : Int) : Int :=
  if d ≠ 0 then (if callB s f d || beyB s f d then d else if callB s f (-d) || beyB s f (-d) then -d else 0)
  else if callB s f 1 then 1 else if callB s f (-1) then -1 else if beyB s f 1 then 1 else if beyB s f (-1) then -1 else 0
theorem ix_pair0 (a b : Int) (w : World) : (Instr.index 25 (.agg #[.int .i64 a, .int .i64 b]) (.int .i64 0)).run Tryd.prog w = .ok (.int .i64 a) w := by
  have hz := Tryd.sizeOf3
  have hi := run_underlying Tryd.underlying3
  simp [Instr.index, go_sem, run_underlying Tryd.underlying25, part, isAgg, hi, hz]
theorem ix_pair1 (a b : Int) (w : World) : (Instr.index 25 (.agg #[.int .i64 a, .int .i64 b]) (.int .i64 1)).run Tryd.prog w = .ok (.int .i64 b) w := by
  have hz := Tryd.sizeOf3
  have hi := run_underlying Tryd.underlying3
  simp [Instr.index, go_sem, run_underlying Tryd.underlying25, part, isAgg, hi, hz]
def five (a b c d : Bool) : Prop := a = true ∨ (a = false ∧ b = true) ∨ (a = false ∧ b = false ∧ c = true) ∨ (a = false ∧ b = false ∧ c = false ∧ d = true) ∨ (a = false ∧ b = false ∧ c = false ∧ d = false)
theorem five_of (a b c d : Bool) : five a b c d := by unfold five; cases a <;> cases b <;> cases c <;> cases d <;> simp
end Go.Proofs.YtlcnhpjmmjmkcaaDoor


/-
  Structs as data: the structure, its cells, its reader, and that whatever reads as data reads so. No conditions.
-/
import Derived.Test.YtnlieclfajebbaaBase
set_option linter.unusedVariables false
set_option linter.unusedSimpArgs false
namespace Go.Proofs.Ytnlieclfajebbaa
open Go.ChangeShapes Go.WideShapes Go.ChangeAt Go.RowKit Go.Deep
section
variable {H : Type} {enc : TypeId × Value → H} {w : World} {base : Nat} {spare : Nat → Bool} {held : Bool}

theorem list_eq2Span {l : List Value} {c0 c1 : Value} (h : l.length = 2) (e0 : l[0]? = some c0) (e1 : l[1]? = some c1) : l = [c0, c1] := by
  match l, h with
  | [x0, x1], _ => simp at e0 e1; subst e0 e1; rfl

/-- What api.Span holds. -/
structure Span where
  from_ : Int
  dest : Int

abbrev Span.cells (s : Span) : List Value := [.int .i64 s.from_, .int .i64 s.dest]
abbrev Span.val (s : Span) : Value := .agg #[.int .i64 s.from_, .int .i64 s.dest]
/-- Every number fits. -/
def Span.ok (s : Span) : Prop := (-9223372036854775808 ≤ s.from_ ∧ s.from_ ≤ 9223372036854775807) ∧ (-9223372036854775808 ≤ s.dest ∧ s.dest ≤ 9223372036854775807)
def RSpan : Reader Span := fun _ cs s => cs = s.cells ∧ s.ok
theorem RSpan.stays : RSpan.Stays := fun _ _ _ _ h _ => h
theorem read_Span {n : Nat} {cs : List Value} {x : DataW H × List MemPlace} (h : DataW.trod enc Try.prog w base spare held n 23 cs = some x) : ∃ s, RSpan w cs s := by
  obtain ⟨hl, m, hf⟩ := read_fields Try.underlying23 (by kernel_rfl) (by kernel_rfl) h
  obtain ⟨c0, y0, e0, t0⟩ := hf 0 _ rfl
  obtain ⟨c1, y1, e1, t1⟩ := hf 1 _ rfl
  obtain ⟨a0, q0, w0⟩ := read_int (w := w) Try.underlying3 t0
  injection q0 with q0; subst q0
  obtain ⟨a1, q1, w1⟩ := read_int (w := w) Try.underlying3 t1
  injection q1 with q1; subst q1
  obtain rfl : cs = [.int .i64 a0, .int .i64 a1] := list_eq2Span hl e0 e1
  exact ⟨⟨a0, a1⟩, rfl, ⟨bounds_i64 w0, bounds_i64 w1⟩⟩


end
end Go.Proofs.Ytnlieclfajebbaa

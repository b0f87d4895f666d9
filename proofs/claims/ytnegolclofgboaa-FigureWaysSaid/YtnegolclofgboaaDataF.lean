
/-
  Structs as data: the structure, its cells, its reader, and that whatever reads as data reads so. No conditions.
-/
import Derived.Test.YtnegolclofgboaaBase
set_option linter.unusedVariables false
set_option linter.unusedSimpArgs false
namespace Go.Proofs.Ytnegolclofgboaa
open Go.ChangeShapes Go.WideShapes Go.ChangeAt Go.RowKit Go.Deep
section
variable {H : Type} {enc : TypeId × Value → H} {w : World} {base : Nat} {spare : Nat → Bool} {held : Bool}

theorem list_eq3Frac {l : List Value} {c0 c1 c2 : Value} (h : l.length = 3) (e0 : l[0]? = some c0) (e1 : l[1]? = some c1) (e2 : l[2]? = some c2) : l = [c0, c1, c2] := by
  match l, h with
  | [x0, x1, x2], _ => simp at e0 e1 e2; subst e0 e1 e2; rfl

/-- What api.Frac holds. -/
structure Frac where
  whole : Int
  rest : Int
  by_ : Int

abbrev Frac.cells (s : Frac) : List Value := [.int .i64 s.whole, .int .i64 s.rest, .int .i64 s.by_]
abbrev Frac.val (s : Frac) : Value := .agg #[.int .i64 s.whole, .int .i64 s.rest, .int .i64 s.by_]
/-- Every number fits. -/
def Frac.ok (s : Frac) : Prop := (-9223372036854775808 ≤ s.whole ∧ s.whole ≤ 9223372036854775807) ∧ (-9223372036854775808 ≤ s.rest ∧ s.rest ≤ 9223372036854775807) ∧ (-9223372036854775808 ≤ s.by_ ∧ s.by_ ≤ 9223372036854775807)
def RFrac : Reader Frac := fun _ cs s => cs = s.cells ∧ s.ok
theorem RFrac.stays : RFrac.Stays := fun _ _ _ _ h _ => h
theorem read_Frac {n : Nat} {cs : List Value} {x : DataW H × List MemPlace} (h : DataW.trod enc Try.prog w base spare held n 51 cs = some x) : ∃ s, RFrac w cs s := by
  obtain ⟨hl, m, hf⟩ := read_fields Try.underlying51 (by kernel_rfl) (by kernel_rfl) h
  obtain ⟨c0, y0, e0, t0⟩ := hf 0 _ rfl
  obtain ⟨c1, y1, e1, t1⟩ := hf 1 _ rfl
  obtain ⟨c2, y2, e2, t2⟩ := hf 2 _ rfl
  obtain ⟨a0, q0, w0⟩ := read_int (w := w) Try.underlying3 t0
  injection q0 with q0; subst q0
  obtain ⟨a1, q1, w1⟩ := read_int (w := w) Try.underlying3 t1
  injection q1 with q1; subst q1
  obtain ⟨a2, q2, w2⟩ := read_int (w := w) Try.underlying3 t2
  injection q2 with q2; subst q2
  obtain rfl : cs = [.int .i64 a0, .int .i64 a1, .int .i64 a2] := list_eq3Frac hl e0 e1 e2
  exact ⟨⟨a0, a1, a2⟩, rfl, ⟨bounds_i64 w0, bounds_i64 w1, bounds_i64 w2⟩⟩


end
end Go.Proofs.Ytnegolclofgboaa

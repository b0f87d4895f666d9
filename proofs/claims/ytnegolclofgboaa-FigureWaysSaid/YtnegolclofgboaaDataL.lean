
/-
  Structs as data: the structure, its cells, its reader, and that whatever reads as data reads so. No conditions.
-/
import Derived.Test.YtnegolclofgboaaBase
set_option linter.unusedVariables false
set_option linter.unusedSimpArgs false
namespace Go.Proofs.Ytnegolclofgboaa
open Go.ChangeShapes Go.WideShapes Go.ChangeAt Go.RowKit Go.Deep
section
variable {H : Type} {enc : TypeId × Value → H} {w : World} {base : Nat} {spare : Nat → Bool} {held : Bool}

theorem list_eq4Leg {l : List Value} {c0 c1 c2 c3 : Value} (h : l.length = 4) (e0 : l[0]? = some c0) (e1 : l[1]? = some c1) (e2 : l[2]? = some c2) (e3 : l[3]? = some c3) : l = [c0, c1, c2, c3] := by
  match l, h with
  | [x0, x1, x2, x3], _ => simp at e0 e1 e2 e3; subst e0 e1 e2 e3; rfl

/-- What api.Leg holds. -/
structure Leg where
  tick : Int
  pos : Int
  dir : Int
  door : Bool

abbrev Leg.cells (s : Leg) : List Value := [.int .i64 s.tick, .int .i64 s.pos, .int .i64 s.dir, .bool s.door]
abbrev Leg.val (s : Leg) : Value := .agg #[.int .i64 s.tick, .int .i64 s.pos, .int .i64 s.dir, .bool s.door]
/-- Every number fits. -/
def Leg.ok (s : Leg) : Prop := (-9223372036854775808 ≤ s.tick ∧ s.tick ≤ 9223372036854775807) ∧ (-9223372036854775808 ≤ s.pos ∧ s.pos ≤ 9223372036854775807) ∧ (-9223372036854775808 ≤ s.dir ∧ s.dir ≤ 9223372036854775807)
def RLeg : Reader Leg := fun _ cs s => cs = s.cells ∧ s.ok
theorem RLeg.stays : RLeg.Stays := fun _ _ _ _ h _ => h
theorem read_Leg {n : Nat} {cs : List Value} {x : DataW H × List MemPlace} (h : DataW.trod enc Try.prog w base spare held n 65 cs = some x) : ∃ s, RLeg w cs s := by
  obtain ⟨hl, m, hf⟩ := read_fields Try.underlying65 (by kernel_rfl) (by kernel_rfl) h
  obtain ⟨c0, y0, e0, t0⟩ := hf 0 _ rfl
  obtain ⟨c1, y1, e1, t1⟩ := hf 1 _ rfl
  obtain ⟨c2, y2, e2, t2⟩ := hf 2 _ rfl
  obtain ⟨c3, y3, e3, t3⟩ := hf 3 _ rfl
  obtain ⟨a0, q0, w0⟩ := read_int (w := w) Try.underlying3 t0
  injection q0 with q0; subst q0
  obtain ⟨a1, q1, w1⟩ := read_int (w := w) Try.underlying3 t1
  injection q1 with q1; subst q1
  obtain ⟨a2, q2, w2⟩ := read_int (w := w) Try.underlying3 t2
  injection q2 with q2; subst q2
  obtain ⟨a3, q3⟩ := read_bool (w := w) Try.underlying4 t3
  injection q3 with q3; subst q3
  obtain rfl : cs = [.int .i64 a0, .int .i64 a1, .int .i64 a2, .bool a3] := list_eq4Leg hl e0 e1 e2 e3
  exact ⟨⟨a0, a1, a2, a3⟩, rfl, ⟨bounds_i64 w0, bounds_i64 w1, bounds_i64 w2⟩⟩


end
end Go.Proofs.Ytnegolclofgboaa

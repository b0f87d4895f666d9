
/-
  Structs as data: the structure, its cells, its reader, and that whatever reads as data reads so. No conditions.
-/
import Derived.Test.YtgfhgopfhcakhaaDoorBase
set_option linter.unusedVariables false
set_option linter.unusedSimpArgs false
namespace Go.Proofs.YtgfhgopfhcakhaaDoor
open Go.ChangeShapes Go.WideShapes Go.ChangeAt Go.RowKit Go.Deep
section
variable {H : Type} {enc : TypeId × Value → H} {w : World} {base : Nat} {spare : Nat → Bool} {held : Bool}

theorem list_eq4Trip {l : List Value} {c0 c1 c2 c3 : Value} (h : l.length = 4) (e0 : l[0]? = some c0) (e1 : l[1]? = some c1) (e2 : l[2]? = some c2) (e3 : l[3]? = some c3) : l = [c0, c1, c2, c3] := by
  match l, h with
  | [x0, x1, x2, x3], _ => simp at e0 e1 e2 e3; subst e0 e1 e2 e3; rfl

theorem list_eq7Trip {l : List Value} {c0 c1 c2 c3 c4 c5 c6 : Value} (h : l.length = 7) (e0 : l[0]? = some c0) (e1 : l[1]? = some c1) (e2 : l[2]? = some c2) (e3 : l[3]? = some c3) (e4 : l[4]? = some c4) (e5 : l[5]? = some c5) (e6 : l[6]? = some c6) : l = [c0, c1, c2, c3, c4, c5, c6] := by
  match l, h with
  | [x0, x1, x2, x3, x4, x5, x6], _ => simp at e0 e1 e2 e3 e4 e5 e6; subst e0 e1 e2 e3 e4 e5 e6; rfl

/-- What api.Trip holds. -/
structure Trip where
  id : Int
  arrive : Int
  from_ : Int
  dest : Int
  car : Int
  board : Int
  alight : Int

abbrev Trip.cells (s : Trip) : List Value := [.int .i64 s.id, .int .i64 s.arrive, .int .i64 s.from_, .int .i64 s.dest, .int .i64 s.car, .int .i64 s.board, .int .i64 s.alight]
abbrev Trip.val (s : Trip) : Value := .agg #[.int .i64 s.id, .int .i64 s.arrive, .int .i64 s.from_, .int .i64 s.dest, .int .i64 s.car, .int .i64 s.board, .int .i64 s.alight]
/-- Every number fits. -/
def Trip.ok (s : Trip) : Prop := (-9223372036854775808 ≤ s.id ∧ s.id ≤ 9223372036854775807) ∧ (-9223372036854775808 ≤ s.arrive ∧ s.arrive ≤ 9223372036854775807) ∧ (-9223372036854775808 ≤ s.from_ ∧ s.from_ ≤ 9223372036854775807) ∧ (-9223372036854775808 ≤ s.dest ∧ s.dest ≤ 9223372036854775807) ∧ (-9223372036854775808 ≤ s.car ∧ s.car ≤ 9223372036854775807) ∧ (-9223372036854775808 ≤ s.board ∧ s.board ≤ 9223372036854775807) ∧ (-9223372036854775808 ≤ s.alight ∧ s.alight ≤ 9223372036854775807)
def RTrip : Reader Trip := fun _ cs s => cs = s.cells ∧ s.ok
theorem RTrip.stays : RTrip.Stays := fun _ _ _ _ h _ => h
theorem read_Trip {n : Nat} {cs : List Value} {x : DataW H × List MemPlace} (h : DataW.trod enc Tryd.prog w base spare held n 43 cs = some x) : ∃ s, RTrip w cs s := by
  obtain ⟨hl, m, hf⟩ := read_fields Tryd.underlying43 (by kernel_rfl) (by kernel_rfl) h
  obtain ⟨c0, y0, e0, t0⟩ := hf 0 _ rfl
  obtain ⟨c1, y1, e1, t1⟩ := hf 1 _ rfl
  obtain ⟨c2, y2, e2, t2⟩ := hf 2 _ rfl
  obtain ⟨c3, y3, e3, t3⟩ := hf 3 _ rfl
  obtain ⟨c4, y4, e4, t4⟩ := hf 4 _ rfl
  obtain ⟨c5, y5, e5, t5⟩ := hf 5 _ rfl
  obtain ⟨c6, y6, e6, t6⟩ := hf 6 _ rfl
  obtain ⟨a0, q0, w0⟩ := read_int (w := w) Tryd.underlying3 t0
  injection q0 with q0; subst q0
  obtain ⟨a1, q1, w1⟩ := read_int (w := w) Tryd.underlying3 t1
  injection q1 with q1; subst q1
  obtain ⟨a2, q2, w2⟩ := read_int (w := w) Tryd.underlying3 t2
  injection q2 with q2; subst q2
  obtain ⟨a3, q3, w3⟩ := read_int (w := w) Tryd.underlying3 t3
  injection q3 with q3; subst q3
  obtain ⟨a4, q4, w4⟩ := read_int (w := w) Tryd.underlying3 t4
  injection q4 with q4; subst q4
  obtain ⟨a5, q5, w5⟩ := read_int (w := w) Tryd.underlying3 t5
  injection q5 with q5; subst q5
  obtain ⟨a6, q6, w6⟩ := read_int (w := w) Tryd.underlying3 t6
  injection q6 with q6; subst q6
  obtain rfl : cs = [.int .i64 a0, .int .i64 a1, .int .i64 a2, .int .i64 a3, .int .i64 a4, .int .i64 a5, .int .i64 a6] := list_eq7Trip hl e0 e1 e2 e3 e4 e5 e6
  exact ⟨⟨a0, a1, a2, a3, a4, a5, a6⟩, rfl, ⟨bounds_i64 w0, bounds_i64 w1, bounds_i64 w2, bounds_i64 w3, bounds_i64 w4, bounds_i64 w5, bounds_i64 w6⟩⟩


/-- What api.Passenger holds. -/
structure Pass where
  id : Int
  tick : Int
  from_ : Int
  dest : Int

abbrev Pass.cells (s : Pass) : List Value := [.int .i64 s.id, .int .i64 s.tick, .int .i64 s.from_, .int .i64 s.dest]
abbrev Pass.val (s : Pass) : Value := .agg #[.int .i64 s.id, .int .i64 s.tick, .int .i64 s.from_, .int .i64 s.dest]
/-- Every number fits. -/
def Pass.ok (s : Pass) : Prop := (-9223372036854775808 ≤ s.id ∧ s.id ≤ 9223372036854775807) ∧ (-9223372036854775808 ≤ s.tick ∧ s.tick ≤ 9223372036854775807) ∧ (-9223372036854775808 ≤ s.from_ ∧ s.from_ ≤ 9223372036854775807) ∧ (-9223372036854775808 ≤ s.dest ∧ s.dest ≤ 9223372036854775807)
def RPass : Reader Pass := fun _ cs s => cs = s.cells ∧ s.ok
theorem RPass.stays : RPass.Stays := fun _ _ _ _ h _ => h
end
end Go.Proofs.YtgfhgopfhcakhaaDoor

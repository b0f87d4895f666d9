
/-
  Structs as data: the structure, its cells, its reader, and that whatever reads as data reads so. No conditions.
-/
import Derived.Test.YtnegolclofgboaaBase
set_option linter.unusedVariables false
set_option linter.unusedSimpArgs false
namespace Go.Proofs.Ytnegolclofgboaa
open Go.ChangeShapes Go.WideShapes Go.ChangeAt Go.RowKit Go.Deep
section
variable {H : Type} {enc : TypeId × Value → H} {w : World} {base : Nat} {spare : Nat → Bool} {held : Bool}

theorem list_eq2Seg {l : List Value} {c0 c1 : Value} (h : l.length = 2) (e0 : l[0]? = some c0) (e1 : l[1]? = some c1) : l = [c0, c1] := by
  match l, h with
  | [x0, x1], _ => simp at e0 e1; subst e0 e1; rfl

theorem list_eq3Seg {l : List Value} {c0 c1 c2 : Value} (h : l.length = 3) (e0 : l[0]? = some c0) (e1 : l[1]? = some c1) (e2 : l[2]? = some c2) : l = [c0, c1, c2] := by
  match l, h with
  | [x0, x1, x2], _ => simp at e0 e1 e2; subst e0 e1 e2; rfl

theorem list_eq6Seg {l : List Value} {c0 c1 c2 c3 c4 c5 : Value} (h : l.length = 6) (e0 : l[0]? = some c0) (e1 : l[1]? = some c1) (e2 : l[2]? = some c2) (e3 : l[3]? = some c3) (e4 : l[4]? = some c4) (e5 : l[5]? = some c5) : l = [c0, c1, c2, c3, c4, c5] := by
  match l, h with
  | [x0, x1, x2, x3, x4, x5], _ => simp at e0 e1 e2 e3 e4 e5; subst e0 e1 e2 e3 e4 e5; rfl

theorem list_eq13Seg {l : List Value} {c0 c1 c2 c3 c4 c5 c6 c7 c8 c9 c10 c11 c12 : Value} (h : l.length = 13) (e0 : l[0]? = some c0) (e1 : l[1]? = some c1) (e2 : l[2]? = some c2) (e3 : l[3]? = some c3) (e4 : l[4]? = some c4) (e5 : l[5]? = some c5) (e6 : l[6]? = some c6) (e7 : l[7]? = some c7) (e8 : l[8]? = some c8) (e9 : l[9]? = some c9) (e10 : l[10]? = some c10) (e11 : l[11]? = some c11) (e12 : l[12]? = some c12) : l = [c0, c1, c2, c3, c4, c5, c6, c7, c8, c9, c10, c11, c12] := by
  match l, h with
  | [x0, x1, x2, x3, x4, x5, x6, x7, x8, x9, x10, x11, x12], _ => simp at e0 e1 e2 e3 e4 e5 e6 e7 e8 e9 e10 e11 e12; subst e0 e1 e2 e3 e4 e5 e6 e7 e8 e9 e10 e11 e12; rfl

/-- What api.Segment holds. -/
structure Seg where
  kind : Int
  ticks : Int
  rate : Int

abbrev Seg.cells (s : Seg) : List Value := [.int .i64 s.kind, .int .i64 s.ticks, .int .i64 s.rate]
abbrev Seg.val (s : Seg) : Value := .agg #[.int .i64 s.kind, .int .i64 s.ticks, .int .i64 s.rate]
/-- Every number fits. -/
def Seg.ok (s : Seg) : Prop := (-9223372036854775808 ≤ s.kind ∧ s.kind ≤ 9223372036854775807) ∧ (-9223372036854775808 ≤ s.ticks ∧ s.ticks ≤ 9223372036854775807) ∧ (-9223372036854775808 ≤ s.rate ∧ s.rate ≤ 9223372036854775807)
def RSeg : Reader Seg := fun _ cs s => cs = s.cells ∧ s.ok
theorem RSeg.stays : RSeg.Stays := fun _ _ _ _ h _ => h
theorem read_Seg {n : Nat} {cs : List Value} {x : DataW H × List MemPlace} (h : DataW.trod enc Try.prog w base spare held n 62 cs = some x) : ∃ s, RSeg w cs s := by
  obtain ⟨hl, m, hf⟩ := read_fields Try.underlying62 (by kernel_rfl) (by kernel_rfl) h
  obtain ⟨c0, y0, e0, t0⟩ := hf 0 _ rfl
  obtain ⟨c1, y1, e1, t1⟩ := hf 1 _ rfl
  obtain ⟨c2, y2, e2, t2⟩ := hf 2 _ rfl
  obtain ⟨a0, q0, w0⟩ := read_int (w := w) Try.underlying60 t0
  injection q0 with q0; subst q0
  obtain ⟨a1, q1, w1⟩ := read_int (w := w) Try.underlying3 t1
  injection q1 with q1; subst q1
  obtain ⟨a2, q2, w2⟩ := read_int (w := w) Try.underlying3 t2
  injection q2 with q2; subst q2
  obtain rfl : cs = [.int .i64 a0, .int .i64 a1, .int .i64 a2] := list_eq3Seg hl e0 e1 e2
  exact ⟨⟨a0, a1, a2⟩, rfl, ⟨bounds_i64 w0, bounds_i64 w1, bounds_i64 w2⟩⟩


/-- What api.Scenario holds. -/
structure Scen where
  floors : Int
  gap : Int
  cars : Int
  capacity : Int
  open_ : Int
  dwell : Int
  close : Int
  transfer : Int
  segs : List Seg
  disp : Int
  horizon : Int
  bins : Int
  width : Int

abbrev Scen.cells (s : Scen) (segsA : Option Addr) (segsC : Nat) : List Value := [.int .i64 s.floors, .int .i64 s.gap, .int .i64 s.cars, .int .i64 s.capacity, .int .i64 s.open_, .int .i64 s.dwell, .int .i64 s.close, .int .i64 s.transfer, .slice segsA s.segs.length segsC, .int .i64 s.disp, .int .i64 s.horizon, .int .i64 s.bins, .int .i64 s.width]
abbrev Scen.val (s : Scen) (segsA : Option Addr) (segsC : Nat) : Value := .agg #[.int .i64 s.floors, .int .i64 s.gap, .int .i64 s.cars, .int .i64 s.capacity, .int .i64 s.open_, .int .i64 s.dwell, .int .i64 s.close, .int .i64 s.transfer, .slice segsA s.segs.length segsC, .int .i64 s.disp, .int .i64 s.horizon, .int .i64 s.bins, .int .i64 s.width]
/-- Every number fits. -/
def Scen.ok (s : Scen) : Prop := (-9223372036854775808 ≤ s.floors ∧ s.floors ≤ 9223372036854775807) ∧ (-9223372036854775808 ≤ s.gap ∧ s.gap ≤ 9223372036854775807) ∧ (-9223372036854775808 ≤ s.cars ∧ s.cars ≤ 9223372036854775807) ∧ (-9223372036854775808 ≤ s.capacity ∧ s.capacity ≤ 9223372036854775807) ∧ (-9223372036854775808 ≤ s.open_ ∧ s.open_ ≤ 9223372036854775807) ∧ (-9223372036854775808 ≤ s.dwell ∧ s.dwell ≤ 9223372036854775807) ∧ (-9223372036854775808 ≤ s.close ∧ s.close ≤ 9223372036854775807) ∧ (-9223372036854775808 ≤ s.transfer ∧ s.transfer ≤ 9223372036854775807) ∧ (-9223372036854775808 ≤ s.disp ∧ s.disp ≤ 9223372036854775807) ∧ (-9223372036854775808 ≤ s.horizon ∧ s.horizon ≤ 9223372036854775807) ∧ (-9223372036854775808 ≤ s.bins ∧ s.bins ≤ 9223372036854775807) ∧ (-9223372036854775808 ≤ s.width ∧ s.width ≤ 9223372036854775807)
def RScen : Reader Scen := fun w cs s => ∃ (segsA : Option Addr) (segsC : Nat), cs = s.cells segsA segsC ∧ s.ok ∧ (RSlice 3 RSeg) w [.slice segsA s.segs.length segsC] s.segs
theorem RScen.stays : RScen.Stays := by
  rintro w w1 cs s ⟨segsA, segsC, hc, hk, h0⟩ hb
  exact ⟨segsA, segsC, hc, hk, (RSlice.stays RSeg.stays) _ _ _ _ h0 hb⟩
theorem read_Scen {n : Nat} {cs : List Value} {x : DataW H × List MemPlace} (h : DataW.trod enc Try.prog w base spare held n 26 cs = some x) : ∃ s, RScen w cs s := by
  obtain ⟨hl, m, hf⟩ := read_fields Try.underlying26 (by kernel_rfl) (by kernel_rfl) h
  obtain ⟨c0, y0, e0, t0⟩ := hf 0 _ rfl
  obtain ⟨c1, y1, e1, t1⟩ := hf 1 _ rfl
  obtain ⟨c2, y2, e2, t2⟩ := hf 2 _ rfl
  obtain ⟨c3, y3, e3, t3⟩ := hf 3 _ rfl
  obtain ⟨c4, y4, e4, t4⟩ := hf 4 _ rfl
  obtain ⟨c5, y5, e5, t5⟩ := hf 5 _ rfl
  obtain ⟨c6, y6, e6, t6⟩ := hf 6 _ rfl
  obtain ⟨c7, y7, e7, t7⟩ := hf 7 _ rfl
  obtain ⟨c8, y8, e8, t8⟩ := hf 8 _ rfl
  obtain ⟨c9, y9, e9, t9⟩ := hf 9 _ rfl
  obtain ⟨c10, y10, e10, t10⟩ := hf 10 _ rfl
  obtain ⟨c11, y11, e11, t11⟩ := hf 11 _ rfl
  obtain ⟨c12, y12, e12, t12⟩ := hf 12 _ rfl
  obtain ⟨a0, q0, w0⟩ := read_int (w := w) Try.underlying3 t0
  injection q0 with q0; subst q0
  obtain ⟨a1, q1, w1⟩ := read_int (w := w) Try.underlying3 t1
  injection q1 with q1; subst q1
  obtain ⟨a2, q2, w2⟩ := read_int (w := w) Try.underlying3 t2
  injection q2 with q2; subst q2
  obtain ⟨a3, q3, w3⟩ := read_int (w := w) Try.underlying3 t3
  injection q3 with q3; subst q3
  obtain ⟨a4, q4, w4⟩ := read_int (w := w) Try.underlying3 t4
  injection q4 with q4; subst q4
  obtain ⟨a5, q5, w5⟩ := read_int (w := w) Try.underlying3 t5
  injection q5 with q5; subst q5
  obtain ⟨a6, q6, w6⟩ := read_int (w := w) Try.underlying3 t6
  injection q6 with q6; subst q6
  obtain ⟨a7, q7, w7⟩ := read_int (w := w) Try.underlying3 t7
  injection q7 with q7; subst q7
  obtain ⟨a8, A8, C8, q8, r8⟩ := read_slice (size := 3) Try.underlying23 (by kernel_rfl) (by decide) (fun _ _ _ h => read_Seg h) t8
  injection q8 with q8; subst q8
  obtain ⟨a9, q9, w9⟩ := read_int (w := w) Try.underlying24 t9
  injection q9 with q9; subst q9
  obtain ⟨a10, q10, w10⟩ := read_int (w := w) Try.underlying3 t10
  injection q10 with q10; subst q10
  obtain ⟨a11, q11, w11⟩ := read_int (w := w) Try.underlying3 t11
  injection q11 with q11; subst q11
  obtain ⟨a12, q12, w12⟩ := read_int (w := w) Try.underlying3 t12
  injection q12 with q12; subst q12
  obtain rfl : cs = [.int .i64 a0, .int .i64 a1, .int .i64 a2, .int .i64 a3, .int .i64 a4, .int .i64 a5, .int .i64 a6, .int .i64 a7, .slice A8 a8.length C8, .int .i64 a9, .int .i64 a10, .int .i64 a11, .int .i64 a12] := list_eq13Seg hl e0 e1 e2 e3 e4 e5 e6 e7 e8 e9 e10 e11 e12
  exact ⟨⟨a0, a1, a2, a3, a4, a5, a6, a7, a8, a9, a10, a11, a12⟩, A8, C8, rfl, ⟨bounds_i64 w0, bounds_i64 w1, bounds_i64 w2, bounds_i64 w3, bounds_i64 w4, bounds_i64 w5, bounds_i64 w6, bounds_i64 w7, bounds_i64 w9, bounds_i64 w10, bounds_i64 w11, bounds_i64 w12⟩, ⟨A8, C8, rfl, r8⟩⟩


/-- What api.Rider holds. -/
structure Rider where
  id : Int
  dest : Int

abbrev Rider.cells (s : Rider) : List Value := [.int .i64 s.id, .int .i64 s.dest]
abbrev Rider.val (s : Rider) : Value := .agg #[.int .i64 s.id, .int .i64 s.dest]
/-- Every number fits. -/
def Rider.ok (s : Rider) : Prop := (-9223372036854775808 ≤ s.id ∧ s.id ≤ 9223372036854775807) ∧ (-9223372036854775808 ≤ s.dest ∧ s.dest ≤ 9223372036854775807)
def RRider : Reader Rider := fun _ cs s => cs = s.cells ∧ s.ok
theorem RRider.stays : RRider.Stays := fun _ _ _ _ h _ => h
/-- What api.Car holds. -/
structure Car where
  pos : Int
  dir : Int
  mode : Int
  left : Int
  waited : Bool
  riders : List Rider

abbrev Car.cells (s : Car) (ridersA : Option Addr) (ridersC : Nat) : List Value := [.int .i64 s.pos, .int .i64 s.dir, .int .i64 s.mode, .int .i64 s.left, .bool s.waited, .slice ridersA s.riders.length ridersC]
abbrev Car.val (s : Car) (ridersA : Option Addr) (ridersC : Nat) : Value := .agg #[.int .i64 s.pos, .int .i64 s.dir, .int .i64 s.mode, .int .i64 s.left, .bool s.waited, .slice ridersA s.riders.length ridersC]
/-- Every number fits. -/
def Car.ok (s : Car) : Prop := (-9223372036854775808 ≤ s.pos ∧ s.pos ≤ 9223372036854775807) ∧ (-9223372036854775808 ≤ s.dir ∧ s.dir ≤ 9223372036854775807) ∧ (-9223372036854775808 ≤ s.mode ∧ s.mode ≤ 9223372036854775807) ∧ (-9223372036854775808 ≤ s.left ∧ s.left ≤ 9223372036854775807)
def RCar : Reader Car := fun w cs s => ∃ (ridersA : Option Addr) (ridersC : Nat), cs = s.cells ridersA ridersC ∧ s.ok ∧ (RSlice 2 RRider) w [.slice ridersA s.riders.length ridersC] s.riders
theorem RCar.stays : RCar.Stays := by
  rintro w w1 cs s ⟨ridersA, ridersC, hc, hk, h0⟩ hb
  exact ⟨ridersA, ridersC, hc, hk, (RSlice.stays RRider.stays) _ _ _ _ h0 hb⟩
end
end Go.Proofs.Ytnegolclofgboaa

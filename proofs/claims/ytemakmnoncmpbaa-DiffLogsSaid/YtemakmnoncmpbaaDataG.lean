
/-
  Structs as data: the structure, its cells, its reader, and that whatever reads as data reads so. No conditions.
-/
import Derived.Test.YtemakmnoncmpbaaDataT
import Derived.Test.YtemakmnoncmpbaaDataL
set_option linter.unusedVariables false
set_option linter.unusedSimpArgs false
namespace Go.Proofs.Ytemakmnoncmpbaa
open Go.ChangeShapes Go.WideShapes Go.ChangeAt Go.RowKit Go.Deep
section
variable {H : Type} {enc : TypeId × Value → H} {w : World} {base : Nat} {spare : Nat → Bool} {held : Bool}

theorem list_eq3Log {l : List Value} {c0 c1 c2 : Value} (h : l.length = 3) (e0 : l[0]? = some c0) (e1 : l[1]? = some c1) (e2 : l[2]? = some c2) : l = [c0, c1, c2] := by
  match l, h with
  | [x0, x1, x2], _ => simp at e0 e1 e2; subst e0 e1 e2; rfl

/-- What api.Log holds. -/
structure Log where
  trips : List Trip
  legs : List (List Leg)
  used : Int

abbrev Log.cells (s : Log) (tripsA : Option Addr) (tripsC : Nat) (legsA : Option Addr) (legsC : Nat) : List Value := [.slice tripsA s.trips.length tripsC, .slice legsA s.legs.length legsC, .int .i64 s.used]
abbrev Log.val (s : Log) (tripsA : Option Addr) (tripsC : Nat) (legsA : Option Addr) (legsC : Nat) : Value := .agg #[.slice tripsA s.trips.length tripsC, .slice legsA s.legs.length legsC, .int .i64 s.used]
/-- Every number fits. -/
def Log.ok (s : Log) : Prop := (-9223372036854775808 ≤ s.used ∧ s.used ≤ 9223372036854775807)
def RLog : Reader Log := fun w cs s => ∃ (tripsA : Option Addr) (tripsC : Nat) (legsA : Option Addr) (legsC : Nat), cs = s.cells tripsA tripsC legsA legsC ∧ s.ok ∧ (RSlice 7 RTrip) w [.slice tripsA s.trips.length tripsC] s.trips ∧ (RSlice 1 (RSlice 4 RLeg)) w [.slice legsA s.legs.length legsC] s.legs
theorem RLog.stays : RLog.Stays := by
  rintro w w1 cs s ⟨tripsA, tripsC, legsA, legsC, hc, hk, h0, h1⟩ hb
  exact ⟨tripsA, tripsC, legsA, legsC, hc, hk, (RSlice.stays RTrip.stays) _ _ _ _ h0 hb, (RSlice.stays (RSlice.stays RLeg.stays)) _ _ _ _ h1 hb⟩
theorem read_Log {n : Nat} {cs : List Value} {x : DataW H × List MemPlace} (h : DataW.trod enc Try.prog w base spare held n 25 cs = some x) : ∃ s, RLog w cs s := by
  obtain ⟨hl, m, hf⟩ := read_fields Try.underlying25 (by kernel_rfl) (by kernel_rfl) h
  obtain ⟨c0, y0, e0, t0⟩ := hf 0 _ rfl
  obtain ⟨c1, y1, e1, t1⟩ := hf 1 _ rfl
  obtain ⟨c2, y2, e2, t2⟩ := hf 2 _ rfl
  obtain ⟨a0, A0, C0, q0, r0⟩ := read_slice (size := 7) Try.underlying22 (by kernel_rfl) (by decide) (fun _ _ _ h => read_Trip h) t0
  injection q0 with q0; subst q0
  obtain ⟨a1, A1, C1, q1, r1⟩ := read_slice (size := 1) Try.underlying23 (by kernel_rfl) (by decide) (fun _ _ _ h => read_slice (size := 4) Try.underlying32 (by kernel_rfl) (by decide) (fun _ _ _ h => read_Leg h) h) t1
  injection q1 with q1; subst q1
  obtain ⟨a2, q2, w2⟩ := read_int (w := w) Try.underlying3 t2
  injection q2 with q2; subst q2
  obtain rfl : cs = [.slice A0 a0.length C0, .slice A1 a1.length C1, .int .i64 a2] := list_eq3Log hl e0 e1 e2
  exact ⟨⟨a0, a1, a2⟩, A0, C0, A1, C1, rfl, (bounds_i64 w2), ⟨A0, C0, rfl, r0⟩, ⟨A1, C1, rfl, r1⟩⟩


end
end Go.Proofs.Ytemakmnoncmpbaa


/-
  How many are carried in 300 ticks, how many ride in a car: figure.Handling, figure.Load. Condition: the trips are within bounds.
-/
import Derived.Test.YtnegolclofgboaaTrip6
import Derived.Test.YtnegolclofgboaaFracO
set_option linter.unusedVariables false
set_option linter.unusedSimpArgs false
namespace Go.Proofs.Ytnegolclofgboaa
open Go.Joins Go.ChangeShapes Go.WideShapes Go.ChangeAt Go.RowKit Go.Deep

def hdlV (xs : List Trip) (h : Int) : Int := if h < 1 then 0 else cntP xs 2 xs.length * 300 / h
theorem quo_in {x m : Int} (h0 : 0 ≤ x) (h1 : 1 ≤ m) : 0 ≤ x / m ∧ x / m ≤ x := ⟨Int.ediv_nonneg h0 (by omega), Int.ediv_le_self _ h0⟩
set_option maxHeartbeats 1000000 in
theorem fig_Handling (A : Option Addr) (C : Nat) (xs : List Trip) (h : Int) (w : World) (hx : Trips w A xs) (hl : xs.length ≤ 100) :
    Calls Try.prog 42 #[.slice A xs.length C, .int .i64 h] w fun e w' => e = .returned (.int .i64 (hdlV xs h)) ∧ Below w.heap.size w w' := by
  have cC := trip_Counts A C xs w hx hl
  have CC := Lib.hid cC
  clear cC hx
  rcases Int.lt_or_le h 1 with hh | hh
  · have hv : hdlV xs h = 0 := by unfold hdlV; rw [if_pos hh]
    have HV := Lib.hid hv
    clear hv
    go_enter Try.func42, Try.ntmps42
    go_wp2
    go_ret
    exact ⟨ret_int HV.out.symm, Below.refl _ _⟩
  · have hv : hdlV xs h = cntP xs 2 xs.length * 300 / h := by unfold hdlV; rw [if_neg (by omega)]
    have HV := Lib.hid hv
    have hzb : (h == 0) = false := beq_eq_false_iff_ne.2 (by omega)
    obtain ⟨n4, n5⟩ := cntP_bd xs 2 xs.length
    obtain ⟨q1, q2⟩ := quo_in (x := cntP xs 2 xs.length * 300) (m := h) (by omega) hh
    clear hv
    go_enter Try.func42, Try.ntmps42
    go_wp2_with fail
    refine CC.out.mono ?_
    rintro e w1 ⟨rfl, hb1⟩
    go_wp2
    go_ret
    exact ⟨ret_int HV.out.symm, hb1⟩

theorem set3w {w w' : World} {u1 u2 u3 : Value} (h : Below w.heap.size w w') : Below w.heap.size w (((w'.setCell ⟨w.heap.size, 0, none⟩ u1).setCell ⟨w.heap.size, 1, none⟩ u2).setCell ⟨w.heap.size, 2, none⟩ u3) :=
  ((h.setCell (Nat.le_refl _) _).setCell (Nat.le_refl _) _).setCell (Nat.le_refl _) _
def zeroT : Trip := ⟨0, 0, 0, 0, 0, 0, 0⟩
theorem zero_trips (w : World) : Trips (w.alloc (.cells #[.int .i64 0, .int .i64 0, .int .i64 0, .int .i64 0, .int .i64 0, .int .i64 0, .int .i64 0, .int .i64 0, .int .i64 0, .int .i64 0, .int .i64 0, .int .i64 0, .int .i64 0, .int .i64 0] 91)) (some ⟨w.heap.size, 0, none⟩) [zeroT, zeroT] := fun _ => by
  refine ⟨w.heap.size, 0, rfl, by simp, fun i a hi j u hj => ?_⟩
  rw [(Blk.new w 91 _).cell]
  have hi2 : i = 0 ∨ i = 1 := by
    have := (List.getElem?_eq_some_iff.1 hi).1
    simp at this
    omega
  have hj7 : j < 7 := (List.getElem?_eq_some_iff.1 hj).1
  rcases hi2 with rfl | rfl
  all_goals
    simp at hi
    subst hi
    have : j = 0 ∨ j = 1 ∨ j = 2 ∨ j = 3 ∨ j = 4 ∨ j = 5 ∨ j = 6 := by omega
    rcases this with rfl | rfl | rfl | rfl | rfl | rfl | rfl <;> exact hj
theorem alive35 (w : World) : Calls Try.prog 23 #[] w fun e w' => e = .returned (.bool true) ∧ Below w.heap.size w w' := by
  have cH : ∀ w, Trips w (some ⟨0, 0, none⟩) [zeroT, zeroT] → True := fun _ _ => trivial
  clear cH
  have hz := zero_trips w
  have cH := fig_Handling (some ⟨w.heap.size, 0, none⟩) 2 [zeroT, zeroT] 100 _ hz (by decide)
  rw [show hdlV [zeroT, zeroT] 100 = 6 from by decide +kernel] at cH
  have CH := Lib.hid cH
  clear cH hz
  go_enter Try.func23, Try.ntmps23
  go_wp2_with fail
  refine CH.out.mono ?_
  rintro e w2 ⟨rfl, hb2⟩
  go_wp2
  go_ret
  exact ⟨rfl, (Joins.below_alloc1 _ _).trans (hb2.mono (by simp))⟩
end Go.Proofs.Ytnegolclofgboaa

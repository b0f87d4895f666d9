/-
  How many are carried in 300 ticks, how many ride in a car: figure.Handling, figure.Load. Condition: the trips are within bounds.
-/
import Derived.Test.YtfpmdldngnopjaaTrip6
import Derived.Test.YtfpmdldngnopjaaFracO
set_option linter.unusedVariables false
set_option linter.unusedSimpArgs false
namespace Go.Proofs.Ytfpmdldngnopjaa
open Go.Joins Go.ChangeShapes Go.WideShapes Go.ChangeAt Go.RowKit Go.Deep

def hdlV (xs : List Trip) (h : Int) : Int := if h < 1 then 0 else cntP xs 2 xs.length * 300 / h
theorem quo_in {x m : Int} (h0 : 0 ≤ x) (h1 : 1 ≤ m) : 0 ≤ x / m ∧ x / m ≤ x := ⟨Int.ediv_nonneg h0 (by omega), Int.ediv_le_self _ h0⟩
set_option maxHeartbeats 1000000 in
theorem fig_Handling (A : Option Addr) (C : Nat) (xs : List Trip) (h : Int) (w : World) (hx : Trips w A xs) (hl : xs.length ≤ 100) :
    Calls Try.prog 55 #[.slice A xs.length C, .int .i64 h] w fun e w' => e = .returned (.int .i64 (hdlV xs h)) ∧ Below w.heap.size w w' := by
  have cC := trip_Counts A C xs w hx hl
  have CC := Lib.hid cC
  clear cC hx
  rcases Int.lt_or_le h 1 with hh | hh
  · have hv : hdlV xs h = 0 := by unfold hdlV; rw [if_pos hh]
    have HV := Lib.hid hv
    clear hv
    go_enter Try.func55, Try.ntmps55
    go_wp2
    go_ret
    exact ⟨ret_int HV.out.symm, Below.refl _ _⟩
  · have hv : hdlV xs h = cntP xs 2 xs.length * 300 / h := by unfold hdlV; rw [if_neg (by omega)]
    have HV := Lib.hid hv
    have hzb : (h == 0) = false := beq_eq_false_iff_ne.2 (by omega)
    obtain ⟨n4, n5⟩ := cntP_bd xs 2 xs.length
    obtain ⟨q1, q2⟩ := quo_in (x := cntP xs 2 xs.length * 300) (m := h) (by omega) hh
    clear hv
    go_enter Try.func55, Try.ntmps55
    go_wp2_with fail
    refine CC.out.mono ?_
    rintro e w1 ⟨rfl, hb1⟩
    go_wp2
    go_ret
    exact ⟨ret_int HV.out.symm, hb1⟩

theorem set3w {w w' : World} {u1 u2 u3 : Value} (h : Below w.heap.size w w') : Below w.heap.size w (((w'.setCell ⟨w.heap.size, 0, none⟩ u1).setCell ⟨w.heap.size, 1, none⟩ u2).setCell ⟨w.heap.size, 2, none⟩ u3) :=
  ((h.setCell (Nat.le_refl _) _).setCell (Nat.le_refl _) _).setCell (Nat.le_refl _) _
set_option maxHeartbeats 1000000 in
theorem fig_Load_not (A : Option Addr) (C : Nat) (xs : List Trip) (c h : Int) (w : World) (hc : c < 1 ∨ h < 1) :
    Calls Try.prog 54 #[.slice A xs.length C, .int .i64 c, .int .i64 h] w fun e w' => e = .returned (.tuple #[.agg #[.int .i64 0, .int .i64 0, .int .i64 0], .bool false]) ∧ Below w.heap.size w w' := by
  have hcs : c < 1 ∨ (1 ≤ c ∧ h < 1) := by omega
  clear hc
  rcases hcs with hc | ⟨hc, hd⟩
  all_goals
    go_enter Try.func54, Try.ntmps54
    go_wp2
    refine bodyPost_ret (v := .tuple #[.agg #[.int .i64 0, .int .i64 0, .int .i64 0], .bool false]) (by simp [results, Try.results54, go_sem]) rfl ?_
    exact ⟨rfl, (Below.refl _ _).alloc (Nat.le_refl _) _⟩
set_option maxHeartbeats 1000000 in
theorem fig_Load (A : Option Addr) (C : Nat) (xs : List Trip) (c h : Int) (w : World) (hx : Trips w A xs) (hf : fineTs xs) (hc : 1 ≤ c) (hh : 1 ≤ h) (hc2 : c ≤ 1048576) (hh2 : h ≤ 1073741824) :
    Calls Try.prog 54 #[.slice A xs.length C, .int .i64 c, .int .i64 h] w fun e w' => e = .returned (.tuple #[(ofF (abS xs h xs.length) (c * h)).val, .bool true]) ∧ Below w.heap.size w w' := by
  obtain ⟨s0, s1⟩ := abS_bd hf hh2 xs.length (Nat.le_refl _)
  have hl := hf.1
  have m0 : 1 ≤ c * h := by have := Int.mul_le_mul hc hh (by omega) (by omega : 0 ≤ c); omega
  have m1 : c * h ≤ 1048576 * 1073741824 := Int.mul_le_mul hc2 hh2 (by omega) (by omega)
  have cA := fun w hx => trip_Aboard A C xs h w hx hf (by omega) hh2
  have cO := fun w => frac_Of (abS xs h xs.length) (c * h) w ⟨by omega, by omega⟩ ⟨by omega, by omega⟩
  rcases hof : ofF (abS xs h xs.length) (c * h) with ⟨x, y, z⟩
  rw [hof] at cO
  have CA := Lib.hid cA
  have CO := Lib.hid cO
  have HX := Lib.hid hx
  clear cA cO hx hf hof
  generalize ofE (abS xs h xs.length) (c * h) = er at *
  go_enter Try.func54, Try.ntmps54
  go_wp2_with fail
  have hfw1 : ∀ i, (w.alloc (.cells #[.int .i64 0, .int .i64 0, .int .i64 0] 78)).frozen? ⟨w.heap.size, i, none⟩ = false := fun i => (Blk.new w 78 #[.int .i64 0, .int .i64 0, .int .i64 0]).free i
  obtain ⟨hBw1, hcw1, hzw1⟩ := box w 78 #[.int .i64 0, .int .i64 0, .int .i64 0]
  change Calls _ _ _ (w.alloc (.cells #[.int .i64 0, .int .i64 0, .int .i64 0] 78)) _
  generalize (w.alloc (.cells #[.int .i64 0, .int .i64 0, .int .i64 0] 78)) = w1 at *
  refine (CA.out _ (HX.out.below hBw1)).mono ?_
  rintro e w2 ⟨rfl, hb2⟩
  go_wp2_with fail
  refine (CO.out _).mono ?_
  rintro e w3 ⟨rfl, hb3⟩
  have hb23 : Below w1.heap.size w1 w3 := hb2.trans (hb3.mono hb2.size)
  have hq3 : ∀ i, w3.cell? ⟨w.heap.size, i, none⟩ = (#[.int .i64 0, .int .i64 0, .int .i64 0] : Array Value)[i]? := fun i => (hb23.cell (p := ⟨w.heap.size, i, none⟩) (by show w.heap.size < w1.heap.size; omega)).trans (hcw1 i)
  have hg3 : ∀ i, w3.frozen? ⟨w.heap.size, i, none⟩ = false := fun i => (hb23.frozen (p := ⟨w.heap.size, i, none⟩) (by show w.heap.size < w1.heap.size; omega)).trans (hfw1 i)
  have hfin : Below w.heap.size w w3 := hBw1.trans (hb23.mono hBw1.size)
  have hz3 := hb23.size
  clear hb2 hb3 hb23 hcw1 hfw1
  have hlt3 : w.heap.size < w3.heap.size := by omega
  go_wp2
  refine bodyPost_ret (v := .tuple #[.agg #[.int .i64 x, .int .i64 y, .int .i64 z], .bool true]) (by simp [results, Try.results54, go_sem, hq3, hg3, hlt3]) rfl ?_
  exact ⟨rfl, below_of_alloc (set3w hfin) _⟩
def zeroT : Trip := ⟨0, 0, 0, 0, 0, 0, 0⟩
theorem zero_trips (w : World) : Trips (w.alloc (.cells #[.int .i64 0, .int .i64 0, .int .i64 0, .int .i64 0, .int .i64 0, .int .i64 0, .int .i64 0, .int .i64 0, .int .i64 0, .int .i64 0, .int .i64 0, .int .i64 0, .int .i64 0, .int .i64 0] 45)) (some ⟨w.heap.size, 0, none⟩) [zeroT, zeroT] := fun _ => by
  refine ⟨w.heap.size, 0, rfl, by simp, fun i a hi j u hj => ?_⟩
  rw [(Blk.new w 45 _).cell]
  have hi2 : i = 0 ∨ i = 1 := by
    have := (List.getElem?_eq_some_iff.1 hi).1
    simp at this
    omega
  have hj7 : j < 7 := (List.getElem?_eq_some_iff.1 hj).1
  rcases hi2 with rfl | rfl
  all_goals
    simp at hi
    subst hi
    have : j = 0 ∨ j = 1 ∨ j = 2 ∨ j = 3 ∨ j = 4 ∨ j = 5 ∨ j = 6 := by omega
    rcases this with rfl | rfl | rfl | rfl | rfl | rfl | rfl <;> exact hj
theorem alive35 (w : World) : Calls Try.prog 56 #[] w fun e w' => e = .returned (.bool true) ∧ Below w.heap.size w w' := by
  have cH : ∀ w, Trips w (some ⟨0, 0, none⟩) [zeroT, zeroT] → True := fun _ _ => trivial
  clear cH
  have hz := zero_trips w
  have cH := fig_Handling (some ⟨w.heap.size, 0, none⟩) 2 [zeroT, zeroT] 100 _ hz (by decide)
  rw [show hdlV [zeroT, zeroT] 100 = 6 from by decide +kernel] at cH
  have CH := Lib.hid cH
  clear cH hz
  go_enter Try.func56, Try.ntmps56
  go_wp2_with fail
  refine CH.out.mono ?_
  rintro e w2 ⟨rfl, hb2⟩
  go_wp2
  go_ret
  exact ⟨rfl, (Joins.below_alloc1 _ _).trans (hb2.mono (by simp))⟩
end Go.Proofs.Ytfpmdldngnopjaa


/-
  Contracts of the packages place and bound that the ways of a car want.
-/
import Derived.Test.YtejcgagblpkmoaaDoorBoundd
import Derived.Test.YtejcgagblpkmoaaDoorSeq
set_option linter.unusedVariables false
set_option linter.unusedSimpArgs false
namespace Go.Proofs.YtejcgagblpkmoaaDoor
open Go.Joins Go.ChangeShapes Go.WideShapes Go.ChangeAt Go.RowKit Go.Deep

def sg (n : Int) : Int := if n < 0 then -1 else if 0 < n then 1 else 0
theorem place_Sign (n : Int) (w : World) :
    Calls Tryd.prog 47 #[.int .i64 n] w fun e w' => e = .returned (.int .i64 (sg n)) ∧ w = w' := by
  go_enter Tryd.func47, Tryd.ntmps47
  go_wp2
  all_goals go_ret
  all_goals exact ⟨ret_int (by unfold sg; omega), rfl⟩

theorem place_Far (a b : Int) (w : World) (h : -1152921504606846976 ≤ a) (h' : a ≤ 1152921504606846976) (g : -1152921504606846976 ≤ b) (g' : b ≤ 1152921504606846976) :
    Calls Tryd.prog 28 #[.int .i64 a, .int .i64 b] w fun e w' => e = .returned (.int .i64 (max (a - b) (b - a))) ∧ w = w' := by
  go_enter Tryd.func28, Tryd.ntmps28
  go_wp2
  all_goals go_ret
  all_goals exact ⟨ret_int (by omega), rfl⟩

theorem place_Dir (a b : Int) (w : World) (h : -1152921504606846976 ≤ a) (h' : a ≤ 1152921504606846976) (g : -1152921504606846976 ≤ b) (g' : b ≤ 1152921504606846976) :
    Calls Tryd.prog 30 #[.int .i64 a, .int .i64 b] w fun e w' => e = .returned (.int .i64 (sg (b - a))) ∧ w = w' := by
  go_enter Tryd.func30, Tryd.ntmps30
  go_wp2_with (go_at_call 47; refine (place_Sign _ _).mono ?_; rintro e w' ⟨rfl, rfl⟩)
  go_ret
  simp

/-- The next floor in a direction. -/
def Scen.stop (s : Scen) (people : Int) : Int := s.open_ + max people 0 * s.transfer + s.dwell + s.close
theorem bound_Stop (s : Scen) (A : Option Addr) (C : Nat) (people : Int) (w : World) (hs : s.small) (h0 : -1099511627776 ≤ people) (h1 : people ≤ 1099511627776) : Calls Tryd.prog 26 #[s.val A C, .int .i64 people] w fun e w' => e = .returned (.int .i64 (s.stop people)) ∧ Below w.heap.size w w' := by
  obtain ⟨⟨a1, a2⟩, ⟨b1, b2⟩, ⟨c1, c2⟩, ⟨d1, d2⟩, ⟨e1, e2⟩, ⟨f1, f2⟩, ⟨g1, g2⟩⟩ := hs
  by_cases hm : people < 0
  · go_enter Tryd.func26, Tryd.ntmps26
    go_wp2
    go_ret
    exact ⟨ret_int (by unfold Scen.stop; rw [show max people 0 = 0 from by omega]; omega), below_alloc1 _ _⟩
  · have p1 : 0 ≤ people * s.transfer := Int.mul_nonneg (by omega) g1
    have p2 : people * s.transfer ≤ 1099511627776 * 64 := Int.mul_le_mul h1 g2 g1 (by omega)
    go_enter Tryd.func26, Tryd.ntmps26
    go_wp2
    go_ret
    exact ⟨ret_int (by unfold Scen.stop; rw [show max people 0 = people from by omega]), below_alloc1 _ _⟩
end Go.Proofs.YtejcgagblpkmoaaDoor

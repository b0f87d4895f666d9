
/-
  How long all rode: trip.Aboard and the document's. Condition: the trips are within bounds.
-/
import Derived.Test.YtnegolclofgboaaTrip2
set_option linter.unusedVariables false
set_option linter.unusedSimpArgs false
namespace Go.Proofs.Ytnegolclofgboaa
open Go.Joins Go.ChangeShapes Go.WideShapes Go.ChangeAt Go.RowKit Go.Deep

/-- How long one rode ahead of a tick. -/
def abT (u : Int) (t : Trip) : Int := if t.board < 0 ∨ u ≤ t.board then 0 else max ((if 0 ≤ t.alight then min u t.alight else u) - t.board) 0
theorem abT_bd {u : Int} {t : Trip} (h : fineT t) (hu : u ≤ 1073741824) : 0 ≤ abT u t ∧ abT u t ≤ 1073741824 := by
  unfold fineT at h
  unfold abT
  split
  · omega
  · split <;> omega
def abS (xs : List Trip) (u : Int) : Nat → Int
  | 0 => 0
  | k + 1 => abS xs u k + abT u (tripAt xs k)
theorem abS_bd {xs : List Trip} (h : fineTs xs) {u : Int} (hu : u ≤ 1073741824) (k : Nat) (hk : k ≤ xs.length) : 0 ≤ abS xs u k ∧ abS xs u k ≤ 1073741824 * k := by
  induction k with
  | zero => simp [abS]
  | succ k ih =>
    obtain ⟨t, ht⟩ := at_some (xs := xs) (k := k) (by omega)
    have h1 := ih (by omega)
    have h2 := abT_bd (h.2 k t ht) hu
    simp only [abS, tripAt_of ht]
    omega
end Go.Proofs.Ytnegolclofgboaa

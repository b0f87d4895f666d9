
/-
  A slice of ints that reads as a list. No conditions.
-/
import Derived.Test.YtgfhgopfhcakhaaDoorBase
set_option linter.unusedVariables false
set_option linter.unusedSimpArgs false
namespace Go.Proofs.YtgfhgopfhcakhaaDoor
open Go.Joins Go.ChangeShapes Go.WideShapes Go.ChangeAt Go.RowKit Go.Deep

def at0 (xs : List Int) (i : Nat) : Int := xs.getD i 0
/-- A slice of ints that reads as xs: what a walk asks of it. -/
def Ints (w : World) (A : Option Addr) (xs : List Int) : Prop :=
  0 < xs.length → ∃ b off, A = some ⟨b, off, none⟩ ∧ b < w.heap.size ∧ ∀ i, i < xs.length → w.cell? ⟨b, off + i, none⟩ = some (.int .i64 (at0 xs i))
theorem Ints.below {w w' : World} {A : Option Addr} {xs : List Int} (h : Ints w A xs) (hb : Below w.heap.size w w') : Ints w' A xs := fun hp => by
  obtain ⟨b, off, hA, hlt, hc⟩ := h hp
  exact ⟨b, off, hA, Nat.lt_of_lt_of_le hlt hb.size, fun i hi => (hb.cell (p := ⟨b, off + i, none⟩) hlt).trans (hc i hi)⟩
theorem ints_of {w : World} {A : Option Addr} {C : Nat} {xs : List Int} (h : RSlice 1 (RInt .i64) w [.slice A xs.length C] xs) : Ints w A xs := fun hp => by
  obtain ⟨A', C', hAC, _, _, hc⟩ := h
  injection hAC with hAC
  injection hAC with e1 e2 e3
  subst e1
  obtain ⟨b, off, hA, hlt, hx⟩ := hc hp
  refine ⟨b, off, hA, hlt, fun i hi => ?_⟩
  obtain ⟨es, ⟨rfl, _⟩, _, hce⟩ := hx i _ (List.getElem?_eq_getElem hi)
  have := hce 0 _ rfl
  simp only [Nat.mul_one, Nat.add_zero] at this
  rw [this]
  simp [at0, List.getD, List.getElem?_eq_getElem hi]
theorem ints_bd {w : World} {cs : List Value} {xs : List Int} (h : RSlice 1 (RInt .i64) w cs xs) : ∀ i, -9223372036854775808 ≤ at0 xs i ∧ at0 xs i ≤ 9223372036854775807 := by
  obtain ⟨A', C', hAC, _, _, hc⟩ := h
  intro i
  by_cases hi : i < xs.length
  · obtain ⟨b, off, hA, hlt, hx⟩ := hc (by omega)
    obtain ⟨es, ⟨rfl, hw⟩, _, _⟩ := hx i _ (List.getElem?_eq_getElem hi)
    have := bounds_i64 hw
    simpa [at0, List.getD, List.getElem?_eq_getElem hi] using this
  · simp [at0, List.getD, List.getElem?_eq_none (Nat.le_of_not_lt hi)]

/-- The first k, together. -/
def sumL (xs : List Int) : Nat → Int
  | 0 => 0
  | k + 1 => sumL xs k + at0 xs k
end Go.Proofs.YtgfhgopfhcakhaaDoor

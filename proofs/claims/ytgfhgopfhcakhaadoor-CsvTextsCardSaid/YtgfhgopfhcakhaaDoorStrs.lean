
/-
  A slice of texts that reads as a list. No conditions.
-/
import Derived.Test.YtgfhgopfhcakhaaDoorArgS
import Derived.Test.YtgfhgopfhcakhaaDoorArgA
set_option linter.unusedVariables false
set_option linter.unusedSimpArgs false
namespace Go.Proofs.YtgfhgopfhcakhaaDoor
open Go.Joins Go.ChangeShapes Go.WideShapes Go.ChangeAt Go.RowKit Go.Deep

def nm0 (xs : List (List UInt8)) (i : Nat) : List UInt8 := xs.getD i []
/-- A slice of texts that reads as xs: what a walk asks of it. -/
def Strs (w : World) (A : Option Addr) (xs : List (List UInt8)) : Prop :=
  0 < xs.length → ∃ b off, A = some ⟨b, off, none⟩ ∧ b < w.heap.size ∧ ∀ i, i < xs.length → w.cell? ⟨b, off + i, none⟩ = some (.string (txt (nm0 xs i)))
theorem Strs.below {w w' : World} {A : Option Addr} {xs : List (List UInt8)} (h : Strs w A xs) (hb : Below w.heap.size w w') : Strs w' A xs := fun hp => by
  obtain ⟨b, off, hA, hlt, hc⟩ := h hp
  exact ⟨b, off, hA, Nat.lt_of_lt_of_le hlt hb.size, fun i hi => (hb.cell (p := ⟨b, off + i, none⟩) hlt).trans (hc i hi)⟩
theorem strs_of {w : World} {A : Option Addr} {C : Nat} {xs : List ByteArray} (h : RSlice 1 RStr w [.slice A xs.length C] xs) : Strs w A (xs.map (·.data.toList)) := fun hp => by
  obtain ⟨A', C', hAC, _, _, hc⟩ := h
  injection hAC with hAC
  injection hAC with e1 e2 e3
  subst e1
  rw [List.length_map] at hp
  obtain ⟨b, off, hA, hlt, hx⟩ := hc hp
  refine ⟨b, off, hA, hlt, fun i hi => ?_⟩
  rw [List.length_map] at hi
  obtain ⟨es, ⟨rfl, _⟩, _, hce⟩ := hx i _ (List.getElem?_eq_getElem hi)
  have := hce 0 _ rfl
  simp only [Nat.mul_one, Nat.add_zero] at this
  rw [this]
  simp [nm0, List.getD, List.getElem?_eq_getElem hi, txt_data]
theorem strs_bd {w : World} {cs : List Value} {xs : List ByteArray} (h : RSlice 1 RStr w cs xs) : xs.length < 9223372036854775808 ∧ ∀ i, (nm0 (xs.map (·.data.toList)) i).length < 9223372036854775808 := by
  obtain ⟨A', C', hAC, h1, h2, hc⟩ := h
  refine ⟨by unfold maxLen at h2; omega, ?_⟩
  intro i
  by_cases hi : i < xs.length
  · obtain ⟨b, off, hA, hlt, hx⟩ := hc (by omega)
    obtain ⟨es, ⟨rfl, hw⟩, _, _⟩ := hx i _ (List.getElem?_eq_getElem hi)
    have e : nm0 (xs.map (·.data.toList)) i = xs[i].data.toList := by simp [nm0, List.getD, List.getElem?_eq_getElem hi]
    rw [e]
    have : xs[i].size = xs[i].data.toList.length := Lib.size_eq _
    unfold maxLen at hw
    omega
  · simp [nm0, List.getD, List.getElem?_eq_none (Nat.le_of_not_lt hi)]
end Go.Proofs.YtgfhgopfhcakhaaDoor

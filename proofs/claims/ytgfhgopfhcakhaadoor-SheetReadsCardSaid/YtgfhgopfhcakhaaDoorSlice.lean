
/-
  Slices of structs without slices in them: where the cells lie. No conditions.
-/
import Derived.Test.YtgfhgopfhcakhaaDoorBase
set_option linter.unusedVariables false
set_option linter.unusedSimpArgs false
namespace Go.Proofs.YtgfhgopfhcakhaaDoor
open Go.Joins Go.ChangeShapes Go.WideShapes Go.ChangeAt Go.RowKit Go.Deep

/-- A slice that reads as xs, each element's cells being what cells says. -/
def Elems {α : Type} (size : Nat) (cells : α → List Value) (w : World) (A : Option Addr) (xs : List α) : Prop :=
  0 < xs.length → ∃ b off, A = some ⟨b, off, none⟩ ∧ b < w.heap.size ∧ ∀ (i : Nat) (a : α), xs[i]? = some a → ∀ (j : Nat) (u : Value), (cells a)[j]? = some u → w.cell? ⟨b, off + i * size + j, none⟩ = some u
theorem Elems.below {α : Type} {size : Nat} {cells : α → List Value} {w w' : World} {A : Option Addr} {xs : List α} (h : Elems size cells w A xs) (hb : Below w.heap.size w w') : Elems size cells w' A xs := fun hp => by
  obtain ⟨b, off, hA, hlt, hc⟩ := h hp
  exact ⟨b, off, hA, Nat.lt_of_lt_of_le hlt hb.size, fun i a hi j u hj => (hb.cell (p := ⟨b, off + i * size + j, none⟩) hlt).trans (hc i a hi j u hj)⟩
/-- Behind a loop's rounds: what was below the base stands. -/
theorem Elems.keep {α : Type} {size : Nat} {cells : α → List Value} {w w' : World} {A : Option Addr} {xs : List α} (h : Elems size cells w A xs) (hb : Below w.heap.size w w') : Elems size cells w' A xs := h.below hb
theorem elems_of {α : Type} {size : Nat} {R : Reader α} {cells : α → List Value} {ok : α → Prop} (hR : ∀ w es a, R w es a → es = cells a) {w : World} {A : Option Addr} {C : Nat} {xs : List α} (h : RSlice size R w [.slice A xs.length C] xs) : Elems size cells w A xs := fun hp => by
  obtain ⟨A', C', hAC, _, _, hc⟩ := h
  injection hAC with hAC
  injection hAC with e1 e2 e3
  subst e1
  obtain ⟨b, off, hA, hlt, hx⟩ := hc hp
  refine ⟨b, off, hA, hlt, fun i a hi j u hj => ?_⟩
  obtain ⟨es, h1, _, h3⟩ := hx i a hi
  rw [hR _ _ _ h1] at h3
  exact h3 j u hj
theorem oks_of {α : Type} {size : Nat} {R : Reader α} {ok : α → Prop} (hR : ∀ w es a, R w es a → ok a) {w : World} {cs : List Value} {xs : List α} (h : RSlice size R w cs xs) : ∀ (i : Nat) (a : α), xs[i]? = some a → ok a := fun i a hi => by
  obtain ⟨A', C', hAC, _, _, hc⟩ := h
  have hp : 0 < xs.length := by have := (List.getElem?_eq_some_iff.1 hi).1; omega
  obtain ⟨b, off, hA, hlt, hx⟩ := hc hp
  obtain ⟨es, h1, _, _⟩ := hx i a hi
  exact hR _ _ _ h1
theorem heldB {B : World} {w' : World} (h : Below B.heap.size B w') : Below B.heap.size B w' ∧ ∀ b o, b < B.heap.size → w'.cell? ⟨b, o, none⟩ = B.cell? ⟨b, o, none⟩ :=
  ⟨h, fun b o hlt => h.cell (p := ⟨b, o, none⟩) hlt⟩
theorem at_some {α : Type} {xs : List α} {k : Nat} (h : k < xs.length) : ∃ a, xs[k]? = some a := ⟨_, List.getElem?_eq_getElem h⟩
theorem slice_len {w : World} {α : Type} {size : Nat} {R : Reader α} {v : Value} {xs : List α} (h : RSlice size R w [v] xs) : ∃ A C, v = .slice A xs.length C ∧ xs.length ≤ C ∧ C ≤ maxLen := by
  obtain ⟨A, C, hv, h1, h2, _⟩ := h
  injection hv with hv
  exact ⟨A, C, hv, h1, h2⟩
end Go.Proofs.YtgfhgopfhcakhaaDoor

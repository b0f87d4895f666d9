
/-
  A slice of slices of structs (legs by cars): where the rows lie. No conditions.
-/
import Derived.Test.YtgfhgopfhcakhaaDoorSlice
set_option linter.unusedVariables false
set_option linter.unusedSimpArgs false
namespace Go.Proofs.YtgfhgopfhcakhaaDoor
open Go.Joins Go.ChangeShapes Go.WideShapes Go.ChangeAt Go.RowKit Go.Deep

/-- A slice whose elements are slices of structs that read as the lists xss. -/
def Rows2 {α : Type} (size : Nat) (cells : α → List Value) (w : World) (A : Option Addr) (xss : List (List α)) : Prop :=
  0 < xss.length → ∃ b off, A = some ⟨b, off, none⟩ ∧ b < w.heap.size ∧ ∀ (i : Nat) (xs : List α), xss[i]? = some xs → ∃ A' C', w.cell? ⟨b, off + i, none⟩ = some (.slice A' xs.length C') ∧ Elems size cells w A' xs
theorem Rows2.below {α : Type} {size : Nat} {cells : α → List Value} {w w' : World} {A : Option Addr} {xss : List (List α)} (h : Rows2 size cells w A xss) (hb : Below w.heap.size w w') : Rows2 size cells w' A xss := fun hp => by
  obtain ⟨b, off, hA, hlt, hc⟩ := h hp
  refine ⟨b, off, hA, Nat.lt_of_lt_of_le hlt hb.size, fun i xs hi => ?_⟩
  obtain ⟨A', C', h1, h2⟩ := hc i xs hi
  exact ⟨A', C', (hb.cell (p := ⟨b, off + i, none⟩) hlt).trans h1, h2.below hb⟩
theorem rows2_of {α : Type} {size : Nat} {R : Reader α} {cells : α → List Value} (hR : ∀ w es a, R w es a → es = cells a) {w : World} {A : Option Addr} {C : Nat} {xss : List (List α)} (h : RSlice 1 (RSlice size R) w [.slice A xss.length C] xss) : Rows2 size cells w A xss := fun hp => by
  obtain ⟨A', C', hAC, _, _, hc⟩ := h
  injection hAC with hAC
  injection hAC with e1 e2 e3
  subst e1
  obtain ⟨b, off, hA, hlt, hx⟩ := hc hp
  refine ⟨b, off, hA, hlt, fun i xs hi => ?_⟩
  obtain ⟨es, h1, _, h3⟩ := hx i xs hi
  have h1' := h1
  obtain ⟨A2, C2, rfl, _, _, _⟩ := h1'
  have h4 := h3 0 _ rfl
  simp only [Nat.mul_one, Nat.add_zero] at h4
  exact ⟨A2, C2, h4, elems_of (ok := fun _ => True) hR h1⟩
theorem oks2_of {α : Type} {size : Nat} {R : Reader α} {ok : α → Prop} (hR : ∀ w es a, R w es a → ok a) {w : World} {cs : List Value} {xss : List (List α)} (h : RSlice 1 (RSlice size R) w cs xss) : ∀ (i : Nat) (xs : List α), xss[i]? = some xs → ∀ (j : Nat) (a : α), xs[j]? = some a → ok a := fun i xs hi => by
  obtain ⟨A', C', hAC, _, _, hc⟩ := h
  have hp : 0 < xss.length := by have := (List.getElem?_eq_some_iff.1 hi).1; omega
  obtain ⟨b, off, hA, hlt, hx⟩ := hc hp
  obtain ⟨es, h1, _, _⟩ := hx i xs hi
  exact oks_of hR h1
end Go.Proofs.YtgfhgopfhcakhaaDoor

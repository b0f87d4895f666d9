
/-
  A slice of structs that a call makes by append. No conditions.
-/
import Derived.Test.YtgfhgopfhcakhaaDoorOwnI
import Derived.Test.YtgfhgopfhcakhaaDoorSlice
set_option linter.unusedVariables false
set_option linter.unusedSimpArgs false
namespace Go.Proofs.YtgfhgopfhcakhaaDoor
open Go.Joins Go.ChangeShapes Go.WideShapes Go.ChangeAt Go.RowKit Go.Deep

theorem flat_len {α : Type} {size : Nat} {cells : α → List Value} (hl : ∀ a, (cells a).length = size) (xs : List α) : (xs.flatMap cells).length = xs.length * size := by
  induction xs with
  | nil => simp
  | cons x xs ih => simp [List.flatMap_cons, hl, ih, Nat.add_mul, Nat.add_comm]
theorem flat_get {α : Type} {size : Nat} {cells : α → List Value} (hl : ∀ a, (cells a).length = size) {xs : List α} {i : Nat} {a : α} (hi : xs[i]? = some a) {j : Nat} {u : Value} (hj : (cells a)[j]? = some u) : (xs.flatMap cells)[i * size + j]? = some u := by
  induction xs generalizing i with
  | nil => simp at hi
  | cons x xs ih =>
    have hjl : j < size := by rw [← hl a]; exact (List.getElem?_eq_some_iff.1 hj).1
    cases i with
    | zero =>
      simp at hi
      subst hi
      rw [List.flatMap_cons, List.getElem?_append_left (by rw [hl]; omega)]
      simpa using hj
    | succ i =>
      simp at hi
      rw [List.flatMap_cons, List.getElem?_append_right (by rw [hl, Nat.add_mul]; omega), hl, Nat.add_mul]
      rw [show i * size + 1 * size + j - size = i * size + j by omega]
      exact ih hi
theorem owns_elems {α : Type} {size : Nat} {cells : α → List Value} (hl : ∀ a, (cells a).length = size) {w : World} {base : Nat} {e : TypeId} {v : Value} {xs : List α} (h : w.ownsRow base e size v xs.length (xs.flatMap cells)) : ∃ A C, v = .slice A xs.length C ∧ Elems size cells w A xs := by
  rcases h.2 with ⟨rfl, hz⟩ | ⟨g, cap, cur, rfl, hbg, hg, hnc, hcm, hcs, htake⟩
  · exact ⟨none, 0, by rw [hz], fun hp => by omega⟩
  · refine ⟨_, _, rfl, fun hp => ⟨g, 0, rfl, (Array.getElem?_eq_some_iff.1 hg).1, fun i a hi j u hj => ?_⟩⟩
    have hil : i < xs.length := (List.getElem?_eq_some_iff.1 hi).1
    have hjl : j < size := by rw [← hl a]; exact (List.getElem?_eq_some_iff.1 hj).1
    have hlt : i * size + j < xs.length * size := by
      have := Nat.mul_le_mul_right size (show i + 1 ≤ xs.length by omega)
      rw [Nat.add_mul] at this
      omega
    have := h.cellAt (i * size + j) hlt
    rw [Nat.zero_add, this]
    exact flat_get hl hi hj
/-- A call that hands out structs in new memory, or none. -/
def RetElems {α : Type} (size : Nat) (cells : α → List Value) (xs : List α) (w : World) (e : Ending) (w' : World) : Prop := ∃ A C, e = .returned (.slice A xs.length C) ∧ Elems size cells w' A xs ∧ Below w.heap.size w w'
theorem cells_new (w : World) (cs : Array Value) (t : TypeId) : ∀ j u, cs.toList[j]? = some u → (w.alloc (.cells cs t)).cell? ((⟨w.heap.size, 0, none⟩ : Addr).add j) = some u := by
  intro j u hu
  rw [show (⟨w.heap.size, 0, none⟩ : Addr).add j = ⟨w.heap.size, 0 + j, none⟩ from by unfold Addr.add; split <;> simp_all, Nat.zero_add]
  rw [(Blk.new w t cs).cell j]
  simpa using hu
theorem cells_at {W : World} {n : Nat} (h : W.heap.size = n) (cs : Array Value) (t : TypeId) : ∀ j u, cs.toList[j]? = some u → (W.alloc (.cells cs t)).cell? ((⟨n, 0, none⟩ : Addr).add j) = some u := by
  subst h
  exact cells_new _ _ _
end Go.Proofs.YtgfhgopfhcakhaaDoor

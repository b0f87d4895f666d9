
/-
  Rows of texts within the law's bounds are not too long; one row of them. No conditions.
-/
import Derived.Test.YtgfhgopfhcakhaaDoorCsvO
set_option linter.unusedVariables false
set_option linter.unusedSimpArgs false
namespace Go.Proofs.YtgfhgopfhcakhaaDoor
open Go Go.Joins Go.ChangeShapes Go.WideShapes Go.ChangeAt Go.RowKit Go.Deep

theorem body_fine (r : List Byt) (h : ∀ (j : Nat) (x : Byt), r[j]? = some x → x.length ≤ 60) : (bodyT r).length ≤ 123 * r.length := by
  induction r with
  | nil => simp [bodyT]
  | cons x r ih =>
    have h0 := h 0 x rfl
    have h1 := cell_len x
    have h2 := ih (fun j y hj => h (j + 1) y (by simpa using hj))
    cases r with
    | nil => simp only [bodyT, List.length_cons, List.length_nil]; omega
    | cons y r => rw [bodyT_cons x (y :: r) (by simp)]; simp only [List.length_append, List.length_cons] at *; omega
theorem rows_fine (r : List (List Byt)) (h : ∀ (j : Nat) (x : List Byt), r[j]? = some x → fineR x) : (rowsT r).length ≤ 2461 * r.length := by
  induction r with
  | nil => simp [rowsT]
  | cons x r ih =>
    obtain ⟨h0, h1⟩ := h 0 x rfl
    have h2 := body_fine x h1
    have h3 := ih (fun j y hj => h (j + 1) y (by simpa using hj))
    rw [rowsT, List.length_append, rowT, List.length_append]
    simp only [List.length_cons, List.length_nil]
    omega
theorem rowsOk_fine {r : List (List Byt)} (h : fineRs r) : RowsOk r := by
  obtain ⟨h1, h2⟩ := h
  have h3 := rows_fine r h2
  refine ⟨by omega, by omega, fun i xs hi => ?_⟩
  obtain ⟨h4, h5⟩ := h2 i xs hi
  have h6 := body_fine xs h5
  exact ⟨by omega, by rw [rowT, List.length_append]; simp only [List.length_cons, List.length_nil]; omega, fun j x hj => by have := h5 j x hj; omega⟩
theorem rowsOk_one {r : List (List Byt)} (h : RowsOk r) {i : Nat} {xs : List Byt} (hi : r[i]? = some xs) : RowsOk [xs] := by
  have h1 := h.rows i xs hi
  refine ⟨by simp, by simp only [rowsT, List.append_nil]; exact h1.2.1, fun j ys hj => ?_⟩
  match j, hj with
  | 0, hj => simp at hj; subst hj; exact h1
theorem rows_one (xs : List Byt) : rowsT [xs] = rowT xs := by simp [rowsT]
theorem txtRows_one {w : World} {b off i : Nat} {xs : List Byt} {A' : Option Addr} {C' : Nat} (hb : b < w.heap.size) (hc : w.cell? ⟨b, off + i, none⟩ = some (.slice A' xs.length C')) (he : Txts w A' xs) : TxtRows w (some ⟨b, off + i, none⟩) [xs] := fun _ => ⟨b, off + i, rfl, hb, fun j ys hj => by
  match j, hj with
  | 0, hj => simp at hj; subst hj; exact ⟨A', C', hc, he⟩⟩
end Go.Proofs.YtgfhgopfhcakhaaDoor

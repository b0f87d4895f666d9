
/-
  The rows that are read loosely from a text of at most 2000 bytes are not too long. Condition: the text is what they write.
-/
import Derived.Test.YtgfhgopfhcakhaaDoorCsvO
set_option linter.unusedVariables false
set_option linter.unusedSimpArgs false
namespace Go.Proofs.YtgfhgopfhcakhaaDoor
open Go Go.Joins Go.ChangeShapes Go.WideShapes Go.ChangeAt Go.RowKit Go.Deep

theorem loose_ok {l : Byt} (hl : l.length ≤ 2000) (h : rowsT (looseS l [] [] [] false) = l) : RowsOk (looseS l [] [] [] false) := by
  have hs := fun (xs : List Byt) (i : Nat) (hi : (looseS l [] [] [] false)[i]? = some xs) => (rows_at hi)
  have hr := fun k => rows_take (looseS l [] [] [] false) k
  rw [h] at hr
  have hne := loose_ne l [] [] [] false (fun r hr => by cases hr)
  have hpos : ∀ r : List Byt, 1 ≤ (rowT r).length := fun r => by rw [rowT, List.length_append]; simp
  have hlen : ∀ r : List Byt, r.length ≤ (bodyT r).length := fun r => by
    induction r with
    | nil => simp
    | cons x r ih =>
      have hx : 1 ≤ (cellT x).length := by cases e : cellT x with | nil => exact absurd e (cellT_ne x) | cons a b => simp
      cases r with
      | nil => simp only [bodyT, List.length_cons, List.length_nil]; omega
      | cons y r => rw [bodyT_cons x (y :: r) (by simp)]; simp only [List.length_append, List.length_cons] at *; omega
  have hcell : ∀ x : Byt, x.length ≤ (cellT x).length := fun x => by
    unfold cellT
    have := dbl_ge x
    split <;> simp <;> omega
  have hrl : (looseS l [] [] [] false).length ≤ (rowsT (looseS l [] [] [] false)).length := by
    generalize looseS l [] [] [] false = rs
    induction rs with
    | nil => simp
    | cons x r ih => have := hpos x; rw [rowsT, List.length_append]; simp only [List.length_cons]; omega
  rw [h] at hrl
  refine ⟨by omega, by rw [h]; omega, fun i xs hi => ?_⟩
  have h1 := hs xs i hi
  have h2 := hr (i + 1)
  rw [h1, List.length_append] at h2
  have h3 := hlen xs
  have h4 : (rowT xs).length = (bodyT xs).length + 1 := by rw [rowT, List.length_append]; rfl
  refine ⟨by omega, by omega, fun j x hj => ?_⟩
  have h5 := body_at hj
  have h6 := body_take xs (j + 1)
  have h7 := hcell x
  rw [h5] at h6
  split at h6
  · omega
  · simp only [List.length_append, List.length_cons, List.length_nil] at h6; omega
end Go.Proofs.YtgfhgopfhcakhaaDoor


/-
  Rows of texts, read loosely: the plain part (step by step, and how long what is read can be). No conditions.
-/
import Derived.Test.YtgfhgopfhcakhaaDoorCsvM
set_option linter.unusedVariables false
set_option linter.unusedSimpArgs false
namespace Go.Proofs.YtgfhgopfhcakhaaDoor
open Go Go.Joins Go.ChangeShapes Go.WideShapes Go.ChangeAt Go.RowKit Go.Deep

theorem loo_two (r : Byt) (rows : List (List Byt)) (row : List Byt) (word : Byt) : looseS (34 :: 34 :: r) rows row word true = looseS r rows row (word ++ [34]) true := by simp [looseS]
theorem loo_mark {r : Byt} {rows : List (List Byt)} {row : List Byt} {word : Byt} {b : Bool} (h : b = true → ∀ d r', r = d :: r' → d ≠ 34) : looseS (34 :: r) rows row word b = looseS r rows row word (!b) := by
  cases r with
  | nil => simp [looseS]
  | cons d r =>
    have hd : ¬ (b = true ∧ d = 34) := fun ⟨h1, h2⟩ => h h1 d r rfl h2
    rw [looseS, if_neg (fun ⟨h1, _, h2⟩ => hd ⟨h1, h2⟩), if_pos rfl]
theorem loo_comma (r : Byt) (rows : List (List Byt)) (row : List Byt) (word : Byt) : looseS (44 :: r) rows row word false = looseS r rows (row ++ [word]) [] false := by
  cases r <;> simp [looseS]
theorem loo_line (r : Byt) (rows : List (List Byt)) (row : List Byt) (word : Byt) : looseS (10 :: r) rows row word false = looseS r (rows ++ [row ++ [word]]) [] [] false := by
  cases r <;> simp [looseS]
theorem loo_byte {c : UInt8} {b : Bool} (r : Byt) (rows : List (List Byt)) (row : List Byt) (word : Byt) (h1 : c ≠ 34) (h2 : b = false → c ≠ 44 ∧ c ≠ 10) : looseS (c :: r) rows row word b = looseS r rows row (word ++ [c]) b := by
  cases r with
  | nil =>
    have e1 : ¬ (b = false ∧ c = 44) := fun ⟨x, y⟩ => (h2 x).1 y
    have e2 : ¬ (b = false ∧ c = 10) := fun ⟨x, y⟩ => (h2 x).2 y
    unfold looseS
    simp only [if_neg h1, if_neg e1, if_neg e2]
  | cons d r => rw [looseS, if_neg (fun ⟨_, y, _⟩ => h1 y), if_neg h1, if_neg (fun ⟨x, y⟩ => (h2 x).1 y), if_neg (fun ⟨x, y⟩ => (h2 x).2 y)]
/-- How long a row, and rows, can be when written. -/
def wdR : List Byt → Nat
  | [] => 0
  | x :: r => 4 * x.length + 3 + wdR r
def wdRs : List (List Byt) → Nat
  | [] => 0
  | r :: rs => wdR r + 1 + wdRs rs
theorem wdR_app (a b : List Byt) : wdR (a ++ b) = wdR a + wdR b := by
  induction a with
  | nil => simp [wdR]
  | cons x a ih => rw [List.cons_append, wdR, ih, wdR]; omega
theorem wdRs_app (a b : List (List Byt)) : wdRs (a ++ b) = wdRs a + wdRs b := by
  induction a with
  | nil => simp [wdRs]
  | cons x a ih => rw [List.cons_append, wdRs, ih, wdRs]; omega
theorem wdR_len (r : List Byt) : r.length ≤ wdR r := by
  induction r with
  | nil => simp
  | cons x r ih => rw [wdR]; simp; omega
theorem wdR_at {r : List Byt} {j : Nat} {x : Byt} (h : r[j]? = some x) : 4 * x.length ≤ wdR r := by
  induction r generalizing j with
  | nil => simp at h
  | cons y r ih =>
    rw [wdR]
    cases j with
    | zero => simp at h; subst h; omega
    | succ j => have := ih (j := j) (by simpa using h); omega
theorem wdR_body (r : List Byt) : (bodyT r).length ≤ wdR r := by
  induction r with
  | nil => simp [bodyT]
  | cons x r ih =>
    have := cell_len x
    rw [wdR]
    cases r with
    | nil => simp only [bodyT]; omega
    | cons y r => rw [bodyT_cons x (y :: r) (by simp)]; simp only [List.length_append, List.length_cons]; omega
theorem wdRs_len (r : List (List Byt)) : r.length ≤ wdRs r := by
  induction r with
  | nil => simp
  | cons x r ih => rw [wdRs]; simp; omega
theorem wdRs_at {r : List (List Byt)} {j : Nat} {x : List Byt} (h : r[j]? = some x) : wdR x + 1 ≤ wdRs r := by
  induction r generalizing j with
  | nil => simp at h
  | cons y r ih =>
    rw [wdRs]
    cases j with
    | zero => simp at h; subst h; omega
    | succ j => have := ih (j := j) (by simpa using h); omega
theorem wdRs_text (r : List (List Byt)) : (rowsT r).length ≤ wdRs r := by
  induction r with
  | nil => simp [rowsT]
  | cons x r ih =>
    have := wdR_body x
    rw [wdRs, rowsT, List.length_append, rowT, List.length_append]
    simp only [List.length_cons, List.length_nil]
    omega
theorem rowsOk_sz {r : List (List Byt)} (h : wdRs r ≤ 8000) : RowsOk r := by
  have h1 := wdRs_len r
  have h2 := wdRs_text r
  refine ⟨by omega, by omega, fun i xs hi => ?_⟩
  have h3 := wdRs_at hi
  have h4 := wdR_len xs
  have h5 := wdR_body xs
  refine ⟨by omega, by rw [rowT, List.length_append]; simp only [List.length_cons, List.length_nil]; omega, fun j x hj => ?_⟩
  have h6 := wdR_at hj
  omega
/-- What the whole reads is what is read from here; how long it is. -/
def looI (l : Byt) (i : Nat) (rows : List (List Byt)) (row : List Byt) (word : Byt) (b : Bool) : Prop :=
  looseS l [] [] [] false = looseS (l.drop i) rows row word b ∧ wdRs rows + wdR row + 4 * word.length ≤ 4 * i
theorem looI_zero (l : Byt) : looI l 0 [] [] [] false := ⟨by simp, by simp [wdRs, wdR]⟩
theorem looI_end {l : Byt} {rows : List (List Byt)} {row : List Byt} {word : Byt} {b : Bool} (h : looI l l.length rows row word b) : looseS l [] [] [] false = rows := by
  rw [h.1, List.drop_length]
  rfl
theorem looI_two {l : Byt} {i : Nat} {rows : List (List Byt)} {row : List Byt} {word : Byt} (h : looI l i rows row word true) (hc : l[i]? = some 34) (hd : l[i + 1]? = some 34) : looI l (i + 2) rows row (word ++ [34]) true := by
  obtain ⟨h1, h2⟩ := h
  refine ⟨by rw [h1, drop_at hc, drop_at hd, loo_two], by rw [List.length_append]; simp only [List.length_cons, List.length_nil]; omega⟩
theorem looI_mark {l : Byt} {i : Nat} {rows : List (List Byt)} {row : List Byt} {word : Byt} {b : Bool} (h : looI l i rows row word b) (hc : l[i]? = some 34) (hd : b = true → ∀ d, l[i + 1]? = some d → d ≠ 34) : looI l (i + 1) rows row word (!b) := by
  obtain ⟨h1, h2⟩ := h
  refine ⟨by
    rw [h1, drop_at hc, loo_mark]
    intro hb d r' e
    refine hd hb d ?_
    have : (l.drop (i + 1))[0]? = some d := by rw [e]; rfl
    rw [List.getElem?_drop] at this
    exact this, by omega⟩
theorem looI_comma {l : Byt} {i : Nat} {rows : List (List Byt)} {row : List Byt} {word : Byt} (h : looI l i rows row word false) (hc : l[i]? = some 44) : looI l (i + 1) rows (row ++ [word]) [] false := by
  obtain ⟨h1, h2⟩ := h
  refine ⟨by rw [h1, drop_at hc, loo_comma], by rw [wdR_app]; simp only [wdR, List.length_nil]; omega⟩
theorem looI_line {l : Byt} {i : Nat} {rows : List (List Byt)} {row : List Byt} {word : Byt} (h : looI l i rows row word false) (hc : l[i]? = some 10) : looI l (i + 1) (rows ++ [row ++ [word]]) [] [] false := by
  obtain ⟨h1, h2⟩ := h
  refine ⟨by rw [h1, drop_at hc, loo_line], by rw [wdRs_app]; simp only [wdR, wdRs, wdR_app, List.length_nil]; omega⟩
theorem looI_byte {l : Byt} {i : Nat} {rows : List (List Byt)} {row : List Byt} {word : Byt} {b : Bool} {c : UInt8} (h : looI l i rows row word b) (hc : l[i]? = some c) (g1 : c ≠ 34) (g2 : b = false → c ≠ 44 ∧ c ≠ 10) : looI l (i + 1) rows row (word ++ [c]) b := by
  obtain ⟨h1, h2⟩ := h
  refine ⟨by rw [h1, drop_at hc, loo_byte _ _ _ _ g1 g2], by rw [List.length_append]; simp only [List.length_cons, List.length_nil]; omega⟩
end Go.Proofs.YtgfhgopfhcakhaaDoor

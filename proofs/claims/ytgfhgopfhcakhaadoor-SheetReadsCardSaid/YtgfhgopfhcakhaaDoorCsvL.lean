
/-
  Rows of texts that a call makes: where they lie while it reads. No conditions.
-/
import Derived.Test.YtgfhgopfhcakhaaDoorCsvG
import Derived.Test.YtgfhgopfhcakhaaDoorOwnI
set_option linter.unusedVariables false
set_option linter.unusedSimpArgs false
namespace Go.Proofs.YtgfhgopfhcakhaaDoor
open Go Go.Joins Go.ChangeShapes Go.WideShapes Go.ChangeAt Go.RowKit Go.Deep

def strV (x : Byt) : Value := .string (txt x)
/-- Texts that lie elsewhere than two blocks. -/
def TxtsN (w : World) (o1 o2 : Option Nat) (A : Option Addr) (xs : List Byt) : Prop :=
  0 < xs.length → ∃ b off, A = some ⟨b, off, none⟩ ∧ b < w.heap.size ∧ some b ≠ o1 ∧ some b ≠ o2 ∧ ∀ (i : Nat) (x : Byt), xs[i]? = some x → w.cell? ⟨b, off + i, none⟩ = some (.string (txt x))
theorem TxtsN.txts {w : World} {o1 o2 : Option Nat} {A : Option Addr} {xs : List Byt} (h : TxtsN w o1 o2 A xs) : Txts w A xs := fun hp => by
  obtain ⟨b, off, h1, h2, _, _, h4⟩ := h hp
  refine ⟨b, off, h1, h2, fun i x hi j u hj => ?_⟩
  match j, hj with
  | 0, hj =>
    simp at hj
    subst hj
    simpa using h4 i x hi
theorem TxtsN.below {w w' : World} {o1 o2 : Option Nat} {A : Option Addr} {xs : List Byt} (h : TxtsN w o1 o2 A xs) (hb : Below w.heap.size w w') : TxtsN w' o1 o2 A xs := fun hp => by
  obtain ⟨b, off, h1, h2, h3, h3', h4⟩ := h hp
  exact ⟨b, off, h1, Nat.lt_of_lt_of_le h2 hb.size, h3, h3', fun i x hi => (hb.cell (p := ⟨b, off + i, none⟩) h2).trans (h4 i x hi)⟩
theorem TxtsN.step1 {w w' : World} {o1 o2 : Option Nat} {A : Option Addr} {xs : List Byt} {g : Nat} (h : TxtsN w o1 o2 A xs) (hg : w.grownBy w' o1) (hat : o1 = some g ∨ g = w.heap.size) : TxtsN w' (some g) o2 A xs := fun hp => by
  obtain ⟨b, off, h1, h2, h3, h3', h4⟩ := h hp
  refine ⟨b, off, h1, Nat.lt_of_lt_of_le h2 hg.size, ?_, h3', fun i x hi => ?_⟩
  · rcases hat with e | e
    · rw [← e]; exact h3
    · intro e2; injection e2 with e2; omega
  · rw [← h4 i x hi]
    exact World.grownBy.cell_far hg ⟨b, off + i, none⟩ h2 h3
theorem TxtsN.step2 {w w' : World} {o1 o2 : Option Nat} {A : Option Addr} {xs : List Byt} {g : Nat} (h : TxtsN w o1 o2 A xs) (hg : w.grownBy w' o2) (hat : o2 = some g ∨ g = w.heap.size) : TxtsN w' none (some g) A xs := fun hp => by
  obtain ⟨b, off, h1, h2, h3, h3', h4⟩ := h hp
  refine ⟨b, off, h1, Nat.lt_of_lt_of_le h2 hg.size, (fun e => by cases e), ?_, fun i x hi => ?_⟩
  · rcases hat with e | e
    · rw [← e]; exact h3'
    · intro e2; injection e2 with e2; omega
  · rw [← h4 i x hi]
    exact World.grownBy.cell_far hg ⟨b, off + i, none⟩ h2 h3'
/-- The row's own texts, seen from the rows. -/
theorem txtsN_own {w : World} {base : Nat} {e : TypeId} {v : Value} {xs : List Byt} {o2 : Option Nat} (h : w.ownsRow base e 1 v xs.length (xs.map strV)) (ho : ∀ k, v.ownBlock = some k → o2 ≠ some k) : ∃ A C, v = .slice A xs.length C ∧ TxtsN w none o2 A xs := by
  rcases h.2 with ⟨rfl, hz⟩ | ⟨g, cap, cur, rfl, hbg, hg, hnc, hcm, hcs, htake⟩
  · exact ⟨none, 0, by rw [hz], fun hp => by omega⟩
  · refine ⟨_, _, rfl, fun hp => ⟨g, 0, rfl, (Array.getElem?_eq_some_iff.1 hg).1, (fun e => by cases e), (fun e => ho g rfl e.symm), fun i x hi => ?_⟩⟩
    have := h.cellAt i (by have := (List.getElem?_eq_some_iff.1 hi).1; omega)
    rw [Nat.zero_add, this]
    simp [List.getElem?_map, hi, strV]
/-- The rows so far. -/
def rowsN (w : World) (o1 o2 : Option Nat) (vs : List Value) (out : List (List Byt)) : Prop := vs.length = out.length ∧ ∀ (i : Nat) (xs : List Byt), out[i]? = some xs → ∃ A C, vs[i]? = some (.slice A xs.length C) ∧ TxtsN w o1 o2 A xs
theorem rowsN.below {w w' : World} {o1 o2 : Option Nat} {vs : List Value} {out : List (List Byt)} (h : rowsN w o1 o2 vs out) (hb : Below w.heap.size w w') : rowsN w' o1 o2 vs out := ⟨h.1, fun i xs hi => by
  obtain ⟨A, C, h1, h2⟩ := h.2 i xs hi
  exact ⟨A, C, h1, h2.below hb⟩⟩
theorem rowsN.step1 {w w' : World} {o1 o2 : Option Nat} {vs : List Value} {out : List (List Byt)} {g : Nat} (h : rowsN w o1 o2 vs out) (hg : w.grownBy w' o1) (hat : o1 = some g ∨ g = w.heap.size) : rowsN w' (some g) o2 vs out := ⟨h.1, fun i xs hi => by
  obtain ⟨A, C, h1, h2⟩ := h.2 i xs hi
  exact ⟨A, C, h1, h2.step1 hg hat⟩⟩
theorem rowsN.step2 {w w' : World} {o1 o2 : Option Nat} {vs : List Value} {out : List (List Byt)} {g : Nat} (h : rowsN w o1 o2 vs out) (hg : w.grownBy w' o2) (hat : o2 = some g ∨ g = w.heap.size) : rowsN w' none (some g) vs out := ⟨h.1, fun i xs hi => by
  obtain ⟨A, C, h1, h2⟩ := h.2 i xs hi
  exact ⟨A, C, h1, h2.step2 hg hat⟩⟩
theorem rowsN.push {w : World} {o1 o2 : Option Nat} {vs : List Value} {out : List (List Byt)} (h : rowsN w o1 o2 vs out) {A : Option Addr} {C : Nat} {row : List Byt} (hr : TxtsN w o1 o2 A row) : rowsN w o1 o2 (vs ++ [.slice A row.length C]) (out ++ [row]) := by
  refine ⟨by simp [h.1], fun i xs hi => ?_⟩
  by_cases e : i < out.length
  · rw [List.getElem?_append_left e] at hi
    obtain ⟨A, C, h1, h2⟩ := h.2 i xs hi
    exact ⟨A, C, by rw [List.getElem?_append_left (by have := h.1; omega)]; exact h1, h2⟩
  · rw [List.getElem?_append_right (by omega)] at hi
    have hz : i - out.length = 0 := by
      have := (List.getElem?_eq_some_iff.1 hi).1
      simp at this
      omega
    rw [hz] at hi
    simp at hi
    subst hi
    exact ⟨A, C, by rw [List.getElem?_append_right (by have := h.1; omega), h.1, hz]; rfl, hr⟩
/-- Rows and the row under way. -/
structure RowsSt (w : World) (base : Nat) (vo vr : Value) (vs : List Value) (out : List (List Byt)) (row : List Byt) : Prop where
  rows : w.ownsRow base 27 1 vo vs.length vs
  lies : rowsN w vr.ownBlock vo.ownBlock vs out
  row : w.ownsRow base 9 1 vr row.length (row.map strV)
  apart : ∀ k, vr.ownBlock = some k → vo.ownBlock ≠ some k
theorem RowsSt.below {w w' : World} {base : Nat} {vo vr : Value} {vs : List Value} {out : List (List Byt)} {row : List Byt} (h : RowsSt w base vo vr vs out row) (hb : Below w.heap.size w w') : RowsSt w' base vo vr vs out row :=
  ⟨ownsRow_below h.rows hb, h.lies.below hb, ownsRow_below h.row hb, h.apart⟩
theorem RowsSt.start (w : World) (base : Nat) : RowsSt w base (.slice none 0 0) (.slice none 0 0) [] [] [] :=
  ⟨World.ownsRow_nil _ _ _ _, ⟨rfl, fun i xs hi => by simp at hi⟩, World.ownsRow_nil _ _ _ _, fun k e => by cases e⟩
/-- One text more. -/
theorem RowsSt.text {w w' : World} {base : Nat} {vo vr : Value} {vs : List Value} {out : List (List Byt)} {row : List Byt} {t : Byt} {g cap : Nat} (h : RowsSt w base vo vr vs out row) (hown : w'.ownsRow base 9 1 (.slice (some ⟨g, 0, none⟩) (row.length + 1) cap) (row.length + 1) (row.map strV ++ [.string (txt t)]))
    (hg : w.grownBy w' vr.ownBlock) (hat : vr.ownBlock = some g ∨ g = w.heap.size) : RowsSt w' base vo (.slice (some ⟨g, 0, none⟩) (row.length + 1) cap) vs out (row ++ [t]) := by
  refine ⟨h.rows.kept hg ?_, h.lies.step1 hg hat, ?_, ?_⟩
  · cases e : vr.ownBlock with
    | none => 
      cases e2 : vo.ownBlock with
      | none => exact .inl rfl
      | some k => exact .inr (by simp)
    | some k => exact .inr (h.apart k e)
  · rw [List.length_append, List.map_append]
    exact hown
  · intro k e
    have e : some g = some k := e
    injection e with e
    subst e
    rcases hat with e | e
    · exact h.apart _ e
    · intro e2
      have := (h.rows.lt _ e2).2
      omega
/-- The row is put to the rows. -/
theorem RowsSt.line {w w' : World} {base : Nat} {vo : Value} {A : Option Addr} {C n : Nat} {vs : List Value} {out : List (List Byt)} {row : List Byt} {g cap : Nat} (h : RowsSt w base vo (.slice A n C) vs out row) (hn : n = row.length) (hown : w'.ownsRow base 27 1 (.slice (some ⟨g, 0, none⟩) (vs.length + 1) cap) (vs.length + 1) (vs ++ [.slice A n C]))
    (hg : w.grownBy w' vo.ownBlock) (hat : vo.ownBlock = some g ∨ g = w.heap.size) : RowsSt w' base (.slice (some ⟨g, 0, none⟩) (vs.length + 1) cap) (.slice none 0 0) (vs ++ [.slice A n C]) (out ++ [row]) [] := by
  subst hn
  obtain ⟨A', C', e, hr⟩ := txtsN_own (o2 := vo.ownBlock) h.row h.apart
  injection e with e1 e2 e3
  subst e1
  subst e3
  refine ⟨by rw [List.length_append]; exact hown, ?_, World.ownsRow_nil _ _ _ _, fun k e => by cases e⟩
  have h1 : rowsN w' none (some g) vs out := h.lies.step2 hg hat
  exact h1.push (hr.step2 hg hat)
theorem rowsN_out {w : World} {base : Nat} {e : TypeId} {v : Value} {vs : List Value} {out : List (List Byt)} {o1 o2 : Option Nat} (hown : w.ownsRow base e 1 v vs.length vs) (hr : rowsN w o1 o2 vs out) : ∃ A C, v = .slice A out.length C ∧ TxtRows w A out := by
  rw [← hr.1]
  rcases hown.2 with ⟨rfl, hz⟩ | ⟨g, cap, cur, rfl, hbg, hg, hnc, hcm, hcs, htake⟩
  · exact ⟨none, 0, by rw [hz], fun hp => by have := hr.1; omega⟩
  · refine ⟨_, _, rfl, fun hp => ⟨g, 0, rfl, (Array.getElem?_eq_some_iff.1 hg).1, fun i xs hi => ?_⟩⟩
    obtain ⟨A', C', h1, h2⟩ := hr.2 i xs hi
    refine ⟨A', C', ?_, h2.txts⟩
    have := hown.cellAt i (by have := hr.1; have := (List.getElem?_eq_some_iff.1 hi).1; omega)
    rw [Nat.zero_add, this, h1]
end Go.Proofs.YtgfhgopfhcakhaaDoor

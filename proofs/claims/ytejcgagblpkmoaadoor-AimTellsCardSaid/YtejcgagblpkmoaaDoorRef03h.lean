
/-
  The document's sets: hoistwayref03.Shift, Full. Condition: the number fits.
-/
import Derived.Test.YtejcgagblpkmoaaDoorRef03e
import Derived.Test.YtejcgagblpkmoaaDoorDoorS
set_option linter.unusedVariables false
set_option linter.unusedSimpArgs false
namespace Go.Proofs.YtejcgagblpkmoaaDoor
open Go.Joins Go.ChangeShapes Go.WideShapes Go.ChangeAt Go.RowKit Go.Deep

theorem memL_of (L : List Int) (n : Int) (h0 : 0 ≤ n) (h1 : n < 128) : memB (ofX (at0 L) L.length) (ofY (at0 L) L.length) n = true ↔ n ∈ L := by
  rw [mem_of (at0 L) L.length n h0 h1, List.mem_iff_getElem?]
  constructor
  · rintro ⟨i, hi, e⟩
    refine ⟨i, ?_⟩
    rw [List.getElem?_eq_getElem hi]
    rw [← e]
    simp [at0, List.getD, List.getElem?_eq_getElem hi]
  · rintro ⟨i, e⟩
    have hi : i < L.length := (List.getElem?_eq_some_iff.1 e).1
    exact ⟨i, hi, by simp [at0, List.getD, e]⟩
theorem setL_of {L : List Int} {x y : Nat} (hx : Wd x) (hy : Wd y) (h : ∀ n : Int, 0 ≤ n → n < 128 → (n ∈ L ↔ memB x y n = true)) : ofX (at0 L) L.length = x ∧ ofY (at0 L) L.length = y :=
  set_ext (wd_of _ _).1 (wd_of _ _).2 hx hy fun n a b => by
    rw [Bool.eq_iff_iff, memL_of L n a b]
    exact h n a b
theorem itemL_len (x y : Nat) : (items x y).length ≤ 128 := pre_len x y 128
theorem at0_item (x y i : Nat) : 0 ≤ at0 (items x y) i ∧ at0 (items x y) i < 128 := by
  unfold at0
  by_cases hi : i < (items x y).length
  · have := List.getElem_mem hi
    rw [mem_items] at this
    simp [List.getD, List.getElem?_eq_getElem hi]
    omega
  · simp [List.getD, List.getElem?_eq_none (Nat.le_of_not_lt hi)]
/-- The first n numbers, moved. -/
def movL (x y : Nat) (k : Int) (n : Nat) : List Int := (List.range n).map fun i => at0 (items x y) i + k
theorem movL_succ (x y : Nat) (k : Int) (n : Nat) : movL x y k (n + 1) = movL x y k n ++ [at0 (items x y) n + k] := by unfold movL; rw [List.range_succ, List.map_append]; rfl
theorem movL_len (x y : Nat) (k : Int) (n : Nat) : (movL x y k n).length = n := by simp [movL]
theorem movL_mem (x y : Nat) (k n : Int) : n ∈ movL x y k (items x y).length ↔ n - k ∈ items x y := by
  unfold movL
  rw [List.mem_map]
  constructor
  · rintro ⟨i, hi, e⟩
    rw [List.mem_range] at hi
    have : at0 (items x y) i = (items x y)[i] := by simp [at0, List.getD, List.getElem?_eq_getElem hi]
    rw [← e, this, show (items x y)[i] + k - k = (items x y)[i] by omega]
    exact List.getElem_mem hi
  · intro h
    obtain ⟨i, hi, e⟩ := List.getElem_of_mem h
    refine ⟨i, List.mem_range.2 hi, ?_⟩
    simp [at0, List.getD, List.getElem?_eq_getElem hi, e]
theorem movL_set {x y : Nat} (k : Int) (hx : Wd x) (hy : Wd y) : ofX (at0 (movL x y k (items x y).length)) (movL x y k (items x y).length).length = shX x y k ∧ ofY (at0 (movL x y k (items x y).length)) (movL x y k (items x y).length).length = shY x y k :=
  setL_of (wd_sh k hx hy).1 (wd_sh k hx hy).2 fun n h0 h1 => by
    rw [movL_mem, mem_items, mem_sh k hx hy n h0 h1]
    constructor
    · exact fun h => h.2.2
    · intro h
      by_cases h2 : 0 ≤ n - k ∧ n - k < 128
      · exact ⟨h2.1, h2.2, h⟩
      · rw [mem_out (by omega)] at h; cases h
theorem movL_bd (x y : Nat) (k : Int) (n : Nat) (hk : -200 ≤ k ∧ k ≤ 200) : ∀ i, I64 (at0 (movL x y k n) i) := by
  intro i
  unfold I64
  unfold at0
  by_cases hi : i < (movL x y k n).length
  · have := List.getElem_mem hi
    unfold movL at this
    rw [List.mem_map] at this
    obtain ⟨j, _, e⟩ := this
    have hj := at0_item x y j
    simp [List.getD, List.getElem?_eq_getElem hi]
    unfold movL
    rw [← e]
    omega
  · simp [List.getD, List.getElem?_eq_none (Nat.le_of_not_lt hi)]
end Go.Proofs.YtejcgagblpkmoaaDoor


/-
  The document's wants: hoistwayref30.Of. Conditions: at most 1000 riders.
-/
import Derived.Test.YtejcgagblpkmoaaDoorRef30
import Derived.Test.YtejcgagblpkmoaaDoorApp
import Derived.Test.YtejcgagblpkmoaaDoorFaceP
set_option linter.unusedVariables false
set_option linter.unusedSimpArgs false
namespace Go.Proofs.YtejcgagblpkmoaaDoor
open Go.Joins Go.ChangeShapes Go.WideShapes Go.ChangeAt Go.RowKit Go.Deep

theorem mem_ofL (L : List Int) (n : Int) (h0 : 0 ≤ n) (h1 : n < 128) : memB (ofX (at0 L) L.length) (ofY (at0 L) L.length) n = true ↔ n ∈ L := by
  rw [mem_of (at0 L) L.length n h0 h1, List.mem_iff_getElem?]
  constructor
  · rintro ⟨i, hi, e⟩
    refine ⟨i, ?_⟩
    rw [List.getElem?_eq_getElem hi]
    rw [← e]
    simp [at0, List.getD, List.getElem?_eq_getElem hi]
  · rintro ⟨i, e⟩
    have hi : i < L.length := (List.getElem?_eq_some_iff.1 e).1
    exact ⟨i, hi, by simp [at0, List.getD, e]⟩
theorem ofL_set {L : List Int} {x y : Nat} (hx : Wd x) (hy : Wd y) (h : ∀ n : Int, 0 ≤ n → n < 128 → (n ∈ L ↔ memB x y n = true)) : ofX (at0 L) L.length = x ∧ ofY (at0 L) L.length = y :=
  set_ext (wd_of _ _).1 (wd_of _ _).2 hx hy fun n a b => by
    rw [Bool.eq_iff_iff, mem_ofL L n a b]
    exact h n a b
theorem items_set {x y : Nat} (hx : Wd x) (hy : Wd y) : ofX (at0 (items x y)) (items x y).length = x ∧ ofY (at0 (items x y)) (items x y).length = y :=
  ofL_set hx hy fun n a b => by rw [mem_items]; exact ⟨fun h => h.2.2, fun h => ⟨a, b, h⟩⟩
theorem items_len (x y : Nat) : (items x y).length ≤ 128 := pre_len x y 128
theorem items_bd (x y : Nat) (L : List Int) (h : ∀ k ∈ L, 0 ≤ k ∧ k < 128) : ∀ i, I64 (at0 L i) := fun i => by
  unfold at0 I64
  by_cases hi : i < L.length
  · have := h L[i] (List.getElem_mem hi)
    simp [List.getD, List.getElem?_eq_getElem hi]
    omega
  · simp [List.getD, List.getElem?_eq_none (Nat.le_of_not_lt hi)]
/-- All where it is to stop. -/
def wantL (c : Car) (cap : Int) (ux uy dx dy : Nat) : List Int := items (ridX c) (ridY c) ++ items (landX c cap ux) (landX c cap uy) ++ items (landX c cap dx) (landX c cap dy)
theorem wantL_set (c : Car) (cap : Int) {ux uy dx dy : Nat} (h1 : Wd ux) (h2 : Wd uy) (h3 : Wd dx) (h4 : Wd dy) : ofX (at0 (wantL c cap ux uy dx dy)) (wantL c cap ux uy dx dy).length = wantX c cap ux dx ∧ ofY (at0 (wantL c cap ux uy dx dy)) (wantL c cap ux uy dx dy).length = wantY c cap uy dy :=
  ofL_set (wd_wantX h1 h3) (wd_wantY h2 h4) fun n a b => by
    have := mem_want c cap ux uy dx dy n
    simp only [seeOf] at this
    rw [this]
    unfold wantL
    simp only [List.mem_append, mem_items, Bool.or_eq_true]
    constructor
    · rintro ((h | h) | h)
      · exact .inl h.2.2
      · exact .inr (.inl h.2.2)
      · exact .inr (.inr h.2.2)
    · rintro (h | h | h)
      · exact .inl (.inl ⟨a, b, h⟩)
      · exact .inl (.inr ⟨a, b, h⟩)
      · exact .inr ⟨a, b, h⟩
end Go.Proofs.YtejcgagblpkmoaaDoor

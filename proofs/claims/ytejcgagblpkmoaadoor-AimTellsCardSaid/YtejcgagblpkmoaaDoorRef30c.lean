
/-
  The document's wants: hoistwayref30.Beyond. Conditions: the numbers fit.
-/
import Derived.Test.YtejcgagblpkmoaaDoorRef30b
set_option linter.unusedVariables false
set_option linter.unusedSimpArgs false
namespace Go.Proofs.YtejcgagblpkmoaaDoor
open Go.Joins Go.ChangeShapes Go.WideShapes Go.ChangeAt Go.RowKit Go.Deep

/-- Does a floor lie on? -/
def onP (f d x : Int) : Bool := decide (0 < d) && decide (f < x) || decide (d < 0) && decide (x < f)
/-- Those on, the nearest first. -/
def beyS (x y : Nat) (d : Int) : List Int := if d < 0 then (items x y).reverse else items x y
def beyL (x y : Nat) (f d : Int) : List Int := (beyS x y d).filter (onP f d)
def beyK (x y : Nat) (f d : Int) (k : Nat) : List Int := ((beyS x y d).take k).filter (onP f d)
theorem beyS_len (x y : Nat) (d : Int) : (beyS x y d).length = (items x y).length := by unfold beyS; split <;> simp
theorem beyK_yes {x y : Nat} {f d v : Int} {k : Nat} (h : (beyS x y d)[k]? = some v) (hp : onP f d v = true) : beyK x y f d (k + 1) = beyK x y f d k ++ [v] := by
  unfold beyK
  rw [List.take_add_one, h, List.filter_append]
  simp [hp]
theorem beyK_no {x y : Nat} {f d v : Int} {k : Nat} (h : (beyS x y d)[k]? = some v) (hp : onP f d v = false) : beyK x y f d (k + 1) = beyK x y f d k := by
  unfold beyK
  rw [List.take_add_one, h, List.filter_append]
  simp [hp]
theorem beyK_len (x y : Nat) (f d : Int) (k : Nat) : (beyK x y f d k).length ≤ k := by
  unfold beyK
  have := List.length_filter_le (onP f d) ((beyS x y d).take k)
  have h2 := List.length_take_le k (beyS x y d)
  omega
theorem beyK_all (x y : Nat) (f d : Int) : beyK x y f d (items x y).length = beyL x y f d := by
  unfold beyK beyL
  rw [← beyS_len x y d, List.take_length]
theorem beyS_at (x y : Nat) (d : Int) (k : Nat) (h : k < (items x y).length) : (beyS x y d)[k]? = some (if d < 0 then at0 (items x y) ((items x y).length - 1 - k) else at0 (items x y) k) := by
  unfold beyS at0
  split
  · rw [List.getElem?_reverse h]
    simp [List.getD, List.getElem?_eq_getElem (show (items x y).length - 1 - k < (items x y).length by omega)]
  · simp [List.getD, List.getElem?_eq_getElem h]
theorem bey_nil {s : Sgt} (hs : s.ok) (f d : Int) : (decide (0 < ((beyL s.wx s.wy f d).length : Int))) = beyB s f d := by
  rw [Bool.eq_iff_iff, decide_eq_true_eq, bey_iff hs]
  constructor
  · intro h
    obtain ⟨k, hk⟩ := List.exists_mem_of_length_pos (show 0 < (beyL s.wx s.wy f d).length by omega)
    unfold beyL at hk
    rw [List.mem_filter] at hk
    have hm : k ∈ items s.wx s.wy := by
      have := hk.1
      unfold beyS at this
      split at this
      · exact List.mem_reverse.1 this
      · exact this
    rw [mem_items] at hm
    refine ⟨k, hm.1, hm.2.1, hm.2.2, ?_⟩
    have := hk.2
    unfold onP at this
    simp only [Bool.or_eq_true, Bool.and_eq_true, decide_eq_true_eq] at this
    exact this
  · rintro ⟨k, h0, h1, hm, hp⟩
    have hk : k ∈ beyL s.wx s.wy f d := by
      unfold beyL
      rw [List.mem_filter]
      constructor
      · have : k ∈ items s.wx s.wy := (mem_items _ _ _).2 ⟨h0, h1, hm⟩
        unfold beyS
        split
        · exact List.mem_reverse.2 this
        · exact this
      · unfold onP
        simp only [Bool.or_eq_true, Bool.and_eq_true, decide_eq_true_eq]
        exact hp
    have := List.length_pos_of_mem hk
    omega
end Go.Proofs.YtejcgagblpkmoaaDoor

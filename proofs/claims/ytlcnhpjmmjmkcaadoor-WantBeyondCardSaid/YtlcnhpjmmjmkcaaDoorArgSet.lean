
/-
  Arguments that are sets or pairs of sets by value. No conditions.
-/
import Derived.Test.YtlcnhpjmmjmkcaaDoorArgA
import Derived.Test.YtlcnhpjmmjmkcaaDoorSet
set_option linter.unusedVariables false
set_option linter.unusedSimpArgs false
namespace Go.Proofs.YtlcnhpjmmjmkcaaDoor
open Go.ChangeShapes Go.WideShapes Go.ChangeAt Go.RowKit Go.Deep
section
variable {H : Type} {enc : TypeId × Value → H} {w : World} {base : Nat} {v : Value} {d : DataW H} {p : List MemPlace} {spare : Nat → Bool} {held : Bool}
theorem bounds_u64 {x : Int} (h : (Lit.int .u64 x).wf = true) : ∃ n : Nat, x = n ∧ Wd n := by
  have : 0 ≤ x ∧ x ≤ 18446744073709551615 := by
    simp [Lit.wf, IntKind.min, IntKind.max] at h
    exact ⟨of_decide_eq_true h.1, of_decide_eq_true h.2⟩
  obtain ⟨n, rfl⟩ := Int.eq_ofNat_of_zero_le this.1
  exact ⟨n, rfl, by show n < _; omega⟩
theorem read_set {n : Nat} {cs : List Value} {x : DataW H × List MemPlace} (h : DataW.trod enc Tryd.prog w base spare held n 24 cs = some x) : ∃ a b : Nat, cs = [.int .u64 (a : Int), .int .u64 (b : Int)] ∧ Wd a ∧ Wd b := by
  obtain ⟨xs, m, _, _, hl, hxl, hi⟩ := Go.DataW.trod_array Tryd.underlying24 h
  rw [show Tryd.prog.cellsOf 24 = 2 by kernel_rfl] at hl
  match cs, hl with
  | [c0, c1], _ =>
    have h0 := hi 0 (by omega)
    have h1 := hi 1 (by omega)
    rw [show Tryd.prog.cellsOf 22 = 1 by kernel_rfl, List.getElem?_eq_getElem (by omega)] at h0 h1
    simp only [Nat.zero_mul, Nat.one_mul, List.drop, List.take] at h0 h1
    obtain ⟨a, q0, _, w0⟩ := DataW.trod_int Tryd.underlying22 h0
    obtain ⟨b, q1, _, w1⟩ := DataW.trod_int Tryd.underlying22 h1
    injection q0 with q0
    injection q1 with q1
    subst q0 q1
    obtain ⟨a, rfl, ha⟩ := bounds_u64 w0
    obtain ⟨b, rfl, hb⟩ := bounds_u64 w1
    exact ⟨a, b, rfl, ha, hb⟩
theorem read_sets2 {n : Nat} {cs : List Value} {x : DataW H × List MemPlace} (h : DataW.trod enc Tryd.prog w base spare held n 48 cs = some x) : ∃ a b c e : Nat, cs = [.int .u64 (a : Int), .int .u64 (b : Int), .int .u64 (c : Int), .int .u64 (e : Int)] ∧ (Wd a ∧ Wd b) ∧ Wd c ∧ Wd e := by
  obtain ⟨xs, m, _, _, hl, hxl, hi⟩ := Go.DataW.trod_array Tryd.underlying48 h
  rw [show Tryd.prog.cellsOf 48 = 4 by kernel_rfl] at hl
  match cs, hl with
  | [c0, c1, c2, c3], _ =>
    have h0 := hi 0 (by omega)
    have h1 := hi 1 (by omega)
    rw [show Tryd.prog.cellsOf 24 = 2 by kernel_rfl, List.getElem?_eq_getElem (by omega)] at h0 h1
    simp only [Nat.zero_mul, Nat.one_mul, List.drop, List.take] at h0 h1
    obtain ⟨a, b, e1, ha, hb⟩ := read_set h0
    obtain ⟨c, d, e2, hc, hd⟩ := read_set h1
    simp at e1 e2
    obtain ⟨rfl, rfl⟩ := e1
    obtain ⟨rfl, rfl⟩ := e2
    exact ⟨a, b, c, d, rfl, ⟨ha, hb⟩, hc, hd⟩
end
end Go.Proofs.YtlcnhpjmmjmkcaaDoor

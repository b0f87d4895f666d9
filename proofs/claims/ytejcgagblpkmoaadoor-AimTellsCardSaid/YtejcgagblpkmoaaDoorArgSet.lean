
/-
  Arguments that are sets or pairs of sets by value. No conditions.
-/
import Derived.Test.YtejcgagblpkmoaaDoorSetW2
set_option linter.unusedVariables false
set_option linter.unusedSimpArgs false
namespace Go.Proofs.YtejcgagblpkmoaaDoor
open Go.ChangeShapes Go.WideShapes Go.ChangeAt Go.RowKit Go.Deep
section
variable {H : Type} {enc : TypeId × Value → H} {w : World} {base : Nat} {v : Value} {d : DataW H} {p : List MemPlace} {spare : Nat → Bool} {held : Bool}
theorem bounds_u64 {x : Int} (h : (Lit.int .u64 x).wf = true) : ∃ n : Nat, x = n ∧ Wd n := by
  have : 0 ≤ x ∧ x ≤ 18446744073709551615 := by
    simp [Lit.wf, IntKind.min, IntKind.max] at h
    exact ⟨of_decide_eq_true h.1, of_decide_eq_true h.2⟩
  obtain ⟨n, rfl⟩ := Int.eq_ofNat_of_zero_le this.1
  exact ⟨n, rfl, by show n < _; omega⟩
theorem read_set {n : Nat} {cs : List Value} {x : DataW H × List MemPlace} (h : DataW.trod enc Tryd.prog w base spare held n 38 cs = some x) : ∃ a b : Nat, cs = [.int .u64 (a : Int), .int .u64 (b : Int)] ∧ Wd a ∧ Wd b := by
  obtain ⟨xs, m, _, _, hl, hxl, hi⟩ := Go.DataW.trod_array Tryd.underlying38 h
  rw [show Tryd.prog.cellsOf 38 = 2 by kernel_rfl] at hl
  match cs, hl with
  | [c0, c1], _ =>
    have h0 := hi 0 (by omega)
    have h1 := hi 1 (by omega)
    rw [show Tryd.prog.cellsOf 36 = 1 by kernel_rfl, List.getElem?_eq_getElem (by omega)] at h0 h1
    simp only [Nat.zero_mul, Nat.one_mul, List.drop, List.take] at h0 h1
    obtain ⟨a, q0, _, w0⟩ := DataW.trod_int Tryd.underlying36 h0
    obtain ⟨b, q1, _, w1⟩ := DataW.trod_int Tryd.underlying36 h1
    injection q0 with q0
    injection q1 with q1
    subst q0 q1
    obtain ⟨a, rfl, ha⟩ := bounds_u64 w0
    obtain ⟨b, rfl, hb⟩ := bounds_u64 w1
    exact ⟨a, b, rfl, ha, hb⟩
end
end Go.Proofs.YtejcgagblpkmoaaDoor


/-
  Three numbers by value, opened. No conditions.
-/
import Derived.Test.YtnlieclfajebbaaArgA
set_option linter.unusedVariables false
set_option linter.unusedSimpArgs false
namespace Go.Proofs.Ytnlieclfajebbaa
open Go.ChangeShapes Go.WideShapes Go.ChangeAt Go.RowKit Go.Deep
section
variable {H : Type} {enc : TypeId × Value → H} {W : World} {base : Nat} {v : Value} {d : DataW H} {p : List MemPlace}
/-- Three numbers by value. -/
theorem arg_arr3 {P : Program} {t e : TypeId} (hk : P.underlying t = some (.array 3 e)) (he : P.underlying e = some (.int .i64)) (hc : P.cellsOf e = 1) (hC : P.cellsOf t = 3) (o : Value.okWide P W .any base t v) (h : DataW.Trod enc P W 0 (fun _ => true) true t v d p) :
    ∃ a b c : Int, v = .agg #[.int .i64 a, .int .i64 b, .int .i64 c] ∧ (-9223372036854775808 ≤ a ∧ a ≤ 9223372036854775807) ∧ (-9223372036854775808 ≤ b ∧ b ≤ 9223372036854775807) ∧ (-9223372036854775808 ≤ c ∧ c ≤ 9223372036854775807) := by
  obtain ⟨cs, rfl, n, hn⟩ := arg_agg (.inr ⟨_, _, hk⟩) o h
  obtain ⟨xs, m, _, _, hl, hxl, hi⟩ := Go.DataW.trod_array hk hn
  rw [hC] at hl
  match cs, hl with
  | [c0, c1, c2], _ =>
    have h0 := hi 0 (by omega)
    have h1 := hi 1 (by omega)
    have h2 := hi 2 (by omega)
    rw [hc, List.getElem?_eq_getElem (by omega)] at h0 h1 h2
    simp only [Nat.zero_mul, Nat.one_mul, List.drop, List.take] at h0 h1 h2
    obtain ⟨a, q0, _, w0⟩ := DataW.trod_int he h0
    obtain ⟨b, q1, _, w1⟩ := DataW.trod_int he h1
    obtain ⟨c, q2, _, w2⟩ := DataW.trod_int he h2
    injection q0 with q0
    injection q1 with q1
    injection q2 with q2
    subst q0 q1 q2
    exact ⟨a, b, c, rfl, bounds_i64 w0, bounds_i64 w1, bounds_i64 w2⟩
end
end Go.Proofs.Ytnlieclfajebbaa

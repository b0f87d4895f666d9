
/-
  Arguments by value, and slices, opened. No conditions.
-/
import Derived.Test.YtgfhgopfhcakhaaDoorArgI
set_option linter.unusedVariables false
set_option linter.unusedSimpArgs false
namespace Go.Proofs.YtgfhgopfhcakhaaDoor
open Go.ChangeShapes Go.WideShapes Go.ChangeAt Go.RowKit Go.Deep
section
variable {H : Type} {enc : TypeId × Value → H} {W : World} {base : Nat} {v : Value} {d : DataW H} {p : List MemPlace}
/-- A struct or an array by value is written out by its cells. -/
theorem arg_agg {P : Program} {t : TypeId} (hk : (∃ fs, P.underlying t = some (.struct fs)) ∨ ∃ n e, P.underlying t = some (.array n e)) (o : Value.okWide P W .any base t v) (h : DataW.Trod enc P W 0 (fun _ => true) true t v d p) :
    ∃ cs : List Value, v = .agg cs.toArray ∧ ∃ n, DataW.trod enc P W 0 (fun _ => true) true n t cs = some (d, p) := by
  obtain ⟨n, hn⟩ := h
  have : ∃ cs, v = .agg cs := by
    rcases hk with ⟨fs, hk⟩ | ⟨m, e, hk⟩ <;> (unfold Value.okWide at o; rw [hk] at o; obtain ⟨cs, rfl, _⟩ := o; exact ⟨cs, rfl⟩)
  obtain ⟨⟨cs⟩, rfl⟩ := this
  exact ⟨cs, rfl, n, hn⟩
/-- A slice. -/
theorem arg_slice {P : Program} {t e : TypeId} (hk : P.underlying t = some (.slice e)) (o : Value.okWide P W .any base t v) (h : DataW.Trod enc P W 0 (fun _ => true) true t v d p) :
    ∃ n, DataW.trod enc P W 0 (fun _ => true) true n t [v] = some (d, p) := by
  obtain ⟨a0, len, cap, rfl⟩ := okWide_slice hk o
  obtain ⟨n, hn⟩ := h
  exact ⟨n, hn⟩
/-- Two numbers by value. -/
theorem arg_arr2 {P : Program} {t e : TypeId} (hk : P.underlying t = some (.array 2 e)) (he : P.underlying e = some (.int .i64)) (hc : P.cellsOf e = 1) (hC : P.cellsOf t = 2) (o : Value.okWide P W .any base t v) (h : DataW.Trod enc P W 0 (fun _ => true) true t v d p) :
    ∃ a b : Int, v = .agg #[.int .i64 a, .int .i64 b] ∧ (-9223372036854775808 ≤ a ∧ a ≤ 9223372036854775807) ∧ (-9223372036854775808 ≤ b ∧ b ≤ 9223372036854775807) := by
  obtain ⟨cs, rfl, n, hn⟩ := arg_agg (.inr ⟨_, _, hk⟩) o h
  obtain ⟨xs, m, _, _, hl, hxl, hi⟩ := Go.DataW.trod_array hk hn
  rw [hC] at hl
  match cs, hl with
  | [c0, c1], _ =>
    have h0 := hi 0 (by omega)
    have h1 := hi 1 (by omega)
    rw [hc, List.getElem?_eq_getElem (by omega)] at h0 h1
    simp only [Nat.zero_mul, Nat.one_mul, List.drop, List.take] at h0 h1
    obtain ⟨a, q0, _, w0⟩ := DataW.trod_int he h0
    obtain ⟨b, q1, _, w1⟩ := DataW.trod_int he h1
    injection q0 with q0
    injection q1 with q1
    subst q0 q1
    exact ⟨a, b, rfl, bounds_i64 w0, bounds_i64 w1⟩
end
end Go.Proofs.YtgfhgopfhcakhaaDoor

/-
  The arguments of the laws, opened: integers, structs by value, slices. No conditions.
-/
import Derived.Test.YtfpmdldngnopjaaData
set_option linter.unusedVariables false
set_option linter.unusedSimpArgs false
namespace Go.Proofs.Ytfpmdldngnopjaa
open Go.ChangeShapes Go.WideShapes Go.ChangeAt Go.RowKit Go.Deep
section
variable {H : Type} {enc : TypeId × Value → H} {W : World} {base : Nat} {v : Value} {d : DataW H} {p : List MemPlace}

set_option maxRecDepth 100000 in
theorem arg_int (o : Value.okWide Try.prog W .any base 3 v) (h : DataW.Trod enc Try.prog W 0 (fun _ => true) true 3 v d p) : ∃ a : Int, v = .int .i64 a ∧ -9223372036854775808 ≤ a ∧ a ≤ 9223372036854775807 := by
  obtain ⟨a, rfl, rfl, rfl, wa⟩ := open_int Try.underlying3 o h
  exact ⟨a, rfl, bounds_i64 wa⟩
set_option maxRecDepth 100000 in
theorem arg_int64 (o : Value.okWide Try.prog W .any base 2 v) (h : DataW.Trod enc Try.prog W 0 (fun _ => true) true 2 v d p) : ∃ a : Int, v = .int .i64 a ∧ -9223372036854775808 ≤ a ∧ a ≤ 9223372036854775807 := by
  obtain ⟨a, rfl, rfl, rfl, wa⟩ := open_int Try.underlying2 o h
  exact ⟨a, rfl, bounds_i64 wa⟩

/-- A struct or an array by value is written out by its cells. -/
theorem arg_agg {P : Program} {t : TypeId} (hk : (∃ fs, P.underlying t = some (.struct fs)) ∨ ∃ n e, P.underlying t = some (.array n e)) (o : Value.okWide P W .any base t v) (h : DataW.Trod enc P W 0 (fun _ => true) true t v d p) :
    ∃ cs : List Value, v = .agg cs.toArray ∧ ∃ n, DataW.trod enc P W 0 (fun _ => true) true n t cs = some (d, p) := by
  obtain ⟨n, hn⟩ := h
  have : ∃ cs, v = .agg cs := by
    rcases hk with ⟨fs, hk⟩ | ⟨m, e, hk⟩ <;> (unfold Value.okWide at o; rw [hk] at o; obtain ⟨cs, rfl, _⟩ := o; exact ⟨cs, rfl⟩)
  obtain ⟨⟨cs⟩, rfl⟩ := this
  exact ⟨cs, rfl, n, hn⟩
/-- A slice. -/
theorem arg_slice {P : Program} {t e : TypeId} (hk : P.underlying t = some (.slice e)) (o : Value.okWide P W .any base t v) (h : DataW.Trod enc P W 0 (fun _ => true) true t v d p) :
    ∃ n, DataW.trod enc P W 0 (fun _ => true) true n t [v] = some (d, p) := by
  obtain ⟨a0, len, cap, rfl⟩ := okWide_slice hk o
  obtain ⟨n, hn⟩ := h
  exact ⟨n, hn⟩
end
set_option maxRecDepth 100000 in
theorem scen_arg {H : Type} {enc : TypeId × Value → H} {W : World} {base : Nat} {v : Value} {d : DataW H} {p : List MemPlace} (o : Value.okWide Try.prog W .any base 25 v) (h : DataW.Trod enc Try.prog W 0 (fun _ => true) true 25 v d p) :
    ∃ (s : Scen) (A : Option Addr) (C : Nat), v = s.val A C ∧ s.ok ∧ RSlice 3 RSeg W [.slice A s.segs.length C] s.segs := by
  obtain ⟨cs, rfl, n, hn⟩ := arg_agg (.inl ⟨_, Try.underlying25⟩) o h
  obtain ⟨s, A, C, rfl, hok, hsl⟩ := read_Scen hn
  exact ⟨s, A, C, rfl, hok, hsl⟩

end Go.Proofs.Ytfpmdldngnopjaa

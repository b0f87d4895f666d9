/-
  The statement NumsMulDiv, walked.
-/
import Derived.Test.YtokgokjgpmdlpaaMulDiv
import Derived.Test.YtokgokjgpmdlpaaAlive01
import Derived.Test.YtokgokjgpmdlpaaArgI
set_option linter.unusedVariables false
set_option linter.unusedSimpArgs false
namespace Go.Proofs.Ytokgokjgpmdlpaa
open Go.Joins Go.ChangeShapes Go.WideShapes Go.ChangeAt Go.RowKit Go.Deep

set_option maxRecDepth 20000 in
theorem muldiv_1 (a b c : Int) (w : World) (ha : I64 a) (hb : I64 b) (hc : I64 c) :
    Calls Try.prog 14 #[.int .i64 a, .int .i64 b, .int .i64 c] w fun e w' => e = .returned (.bool true) ∧ Below w.heap.size w w' := by
  have cM := fun w => nums_MulDiv a b c w ha hb hc
  have cN := fun w => ref_MulDiv a b c w ha hb hc
  unfold MdPost at cM cN
  generalize mdV a b c = v at *
  generalize mdE a b c = er at *
  have e1 : (v == v) = true := by simp
  have e2 : (er == er) = true := by simp
  have CM := Lib.hid cM
  have CN := Lib.hid cN
  clear cM cN ha hb hc
  go_enter Try.func14, Try.ntmps14
  go_wp2_with fail
  refine (CM.out _).mono ?_
  rintro e w1 ⟨rfl, n, rfl⟩
  go_wp2_with fail
  refine (CN.out _).mono ?_
  rintro e w1 ⟨rfl, m, rfl⟩
  go_wp2_with fail
  refine (alive01 _).mono ?_
  rintro e w1 ⟨rfl, rfl⟩
  go_wp2
  go_ret
  exact ⟨rfl, by first | exact Joins.below_draws _ _ _ | exact below_drewN (Joins.below_draws _ _ _) _⟩

set_option maxRecDepth 100000 in
theorem walkNumsMulDiv {H : Type} (W : World) (base : Nat) (enc : TypeId × Value → H) {v0 : Value} {d0 : DataW H} {p0 : List MemPlace} {v1 : Value} {d1 : DataW H} {p1 : List MemPlace} {v2 : Value} {d2 : DataW H} {p2 : List MemPlace}
    (h0 : DataW.Trod enc Try.prog W 0 (fun _ => true) true 2 v0 d0 p0) (h1 : DataW.Trod enc Try.prog W 0 (fun _ => true) true 2 v1 d1 p1) (h2 : DataW.Trod enc Try.prog W 0 (fun _ => true) true 2 v2 d2 p2)
    (o0 : Value.okWide Try.prog W .any base 2 v0) (o1 : Value.okWide Try.prog W .any base 2 v1) (o2 : Value.okWide Try.prog W .any base 2 v2) :
    Calls Try.prog 14 #[v0, v1, v2] W fun e W' => e = .returned (.bool true) ∧ Below W.heap.size W W' := by
  obtain ⟨a, rfl, a0, a1⟩ := arg_int64 o0 h0
  obtain ⟨b, rfl, b0, b1⟩ := arg_int64 o1 h1
  obtain ⟨c, rfl, c0, c1⟩ := arg_int64 o2 h2
  exact muldiv_1 a b c W ⟨a0, a1⟩ ⟨b0, b1⟩ ⟨c0, c1⟩
end Go.Proofs.Ytokgokjgpmdlpaa

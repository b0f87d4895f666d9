/-
  The law NumsTimes, walked: it returns true, and nothing that was there turns.
-/
import Derived.Test.YtokgokjgpmdlpaaNumsMul2
import Derived.Test.YtokgokjgpmdlpaaArgI
set_option linter.unusedVariables false
set_option linter.unusedSimpArgs false
namespace Go.Proofs.Ytokgokjgpmdlpaa
open Go.Joins Go.ChangeShapes Go.WideShapes Go.ChangeAt Go.RowKit Go.Deep

theorem times_1 (a b : Int) (W : World) (ha : I64 a) (hb : I64 b) : Calls Try.prog 9 #[.int .i64 a, .int .i64 b] W fun e W' => e = .returned (.bool true) ∧ W = W' := by
  have HA := Lib.hid ha
  have HB := Lib.hid hb
  clear ha hb
  go_enter Try.func9, Try.ntmps9
  go_wp2_with (first | (go_at_call 47; refine (nums_Mul _ _ _ HA.out HB.out).mono ?_; rintro e w' ⟨rfl, rfl⟩) | (go_at_call 48; refine (ref_Mul _ _ _ HA.out HB.out).mono ?_; rintro e w' ⟨rfl, rfl⟩) | (go_at_call 21; (with_reducible refine (is_fit2 (a * b) _).mono ?_); rintro e w' ⟨rfl, rfl⟩) | (go_at_call 18; refine (alive01 _).mono ?_; rintro e w' ⟨rfl, rfl⟩))
  go_ret
  exact ⟨rfl, rfl⟩

set_option maxRecDepth 100000 in
theorem walkNumsTimes {H : Type} (W : World) (base : Nat) (enc : TypeId × Value → H) {v0 : Value} {d0 : DataW H} {p0 : List MemPlace} {v1 : Value} {d1 : DataW H} {p1 : List MemPlace}
    (h0 : DataW.Trod enc Try.prog W 0 (fun _ => true) true 2 v0 d0 p0) (h1 : DataW.Trod enc Try.prog W 0 (fun _ => true) true 2 v1 d1 p1)
    (o0 : Value.okWide Try.prog W .any base 2 v0) (o1 : Value.okWide Try.prog W .any base 2 v1) :
    Calls Try.prog 9 #[v0, v1] W fun e W' => e = .returned (.bool true) ∧ Below W.heap.size W W' := by
  obtain ⟨a, rfl, a0, a1⟩ := arg_int64 o0 h0
  obtain ⟨b, rfl, b0, b1⟩ := arg_int64 o1 h1
  exact (times_1 a b W ⟨a0, a1⟩ ⟨b0, b1⟩).mono fun e W' h => ⟨h.1, h.2 ▸ Below.refl _ _⟩
end Go.Proofs.Ytokgokjgpmdlpaa

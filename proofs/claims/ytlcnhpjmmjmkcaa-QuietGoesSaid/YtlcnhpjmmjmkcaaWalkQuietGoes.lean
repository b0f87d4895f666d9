
/-
  The statement QuietGoes, walked.
-/
import Derived.Test.YtlcnhpjmmjmkcaaGoesD
import Derived.Test.YtlcnhpjmmjmkcaaGoesI
import Derived.Test.YtlcnhpjmmjmkcaaArgSet
set_option linter.unusedVariables false
set_option linter.unusedSimpArgs false
namespace Go.Proofs.Ytlcnhpjmmjmkcaa
open Go.Joins Go.ChangeShapes Go.WideShapes Go.ChangeAt Go.RowKit Go.Deep

set_option maxRecDepth 100000 in
theorem walkQuietGoes {H : Type} (W : World) (base : Nat) (enc : TypeId × Value → H) {v0 : Value} {d0 : DataW H} {p0 : List MemPlace} {v1 : Value} {d1 : DataW H} {p1 : List MemPlace} {v2 : Value} {d2 : DataW H} {p2 : List MemPlace}
    (h0 : DataW.Trod enc Try.prog W 0 (fun _ => true) true 42 v0 d0 p0) (h1 : DataW.Trod enc Try.prog W 0 (fun _ => true) true 25 v1 d1 p1) (h2 : DataW.Trod enc Try.prog W 0 (fun _ => true) true 29 v2 d2 p2)
    (o0 : Value.okWide Try.prog W .any base 42 v0) (o1 : Value.okWide Try.prog W .any base 25 v1) (o2 : Value.okWide Try.prog W .any base 29 v2) :
    Calls Try.prog 7 #[v0, v1, v2] W fun e W' => e = .returned (.bool true) ∧ Below W.heap.size W W' := by
  obtain ⟨cs, rfl, m, hm⟩ := arg_agg (.inl ⟨_, Try.underlying42⟩) o0 h0
  obtain ⟨s, A, C, rfl, hok, hsl⟩ := read_Scen hm
  obtain ⟨cs, rfl, m1, hm1⟩ := arg_agg (.inl ⟨_, Try.underlying25⟩) o1 h1
  obtain ⟨c, A2, C2, rfl, hco, hrs⟩ := read_Car hm1
  obtain ⟨cs, rfl, m2, hm2⟩ := arg_agg (.inr ⟨_, _, Try.underlying29⟩) o2 h2
  obtain ⟨ux, uy, dx, dy, rfl, ⟨b1, b2⟩, b3, b4⟩ := read_sets2 hm2
  by_cases e1 : c.mode = 1
  · exact goes_m s A C c A2 C2 ux uy dx dy W hsl hrs hok hco b1 b2 b3 b4 e1
  · by_cases e0 : c.mode = 0
    · exact goes_i s A C c A2 C2 ux uy dx dy W hsl hrs hok hco b1 b2 b3 b4 e0
    · exact goes_d s A C c A2 C2 ux uy dx dy W hsl hrs hok hco b1 b2 b3 b4 e1 e0
end Go.Proofs.Ytlcnhpjmmjmkcaa

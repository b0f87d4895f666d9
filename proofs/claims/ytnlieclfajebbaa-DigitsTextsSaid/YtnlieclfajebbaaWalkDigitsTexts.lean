
/-
  DigitsTexts walked: any number's digits, which are read as it. Conditions: none beyond the arguments' kinds.
-/
import Derived.Test.YtnlieclfajebbaaAlive02
import Derived.Test.YtnlieclfajebbaaDecR
import Derived.Test.YtnlieclfajebbaaArgI
set_option linter.unusedVariables false
set_option linter.unusedSimpArgs false
namespace Go.Proofs.Ytnlieclfajebbaa
open Go.Joins Go.ChangeShapes Go.WideShapes Go.ChangeAt Go.RowKit Go.Deep

theorem chain4 {w w1 w2 w3 w4 w5 : World} (h1 : Below w.heap.size w w1) (h2 : Below w1.heap.size w1 w2) (h3 : Below w2.heap.size w2 w3) (h4 : Below w3.heap.size w3 w4) (h5 : Below w4.heap.size w4 w5) : Below w.heap.size w w5 := by
  have a1 := h1.size
  have a2 := h2.size
  have a3 := h3.size
  have a4 := h4.size
  exact (((h1.trans (h2.mono a1)).trans (h3.mono (by omega))).trans (h4.mono (by omega))).trans (h5.mono (by omega))
set_option maxRecDepth 20000 in
set_option maxHeartbeats 1000000 in
theorem digits_1 (a k : Int) (w : World) (ha : I64 a) (hk : I64 k) : Calls Try.prog 7 #[.int .i64 a, .int .i64 k] w fun e w' => e = .returned (.bool true) ∧ Below w.heap.size w w' := by
  have cA := fun w => ref02_Text a w ha
  have cT := fun w => digits_Text a w ha
  have cO := fun w => digits_Of k w hk
  have cQ := fun w => ref02_Of k w hk
  obtain ⟨r1, r2⟩ := read_decI ha
  have cR := fun w => digits_Read (decI a) w (by have := decI_len a; omega)
  rw [r1, r2] at cR
  have CA := Lib.hid cA
  have CT := Lib.hid cT
  have CO := Lib.hid cO
  have CQ := Lib.hid cQ
  have CR := Lib.hid cR
  clear cA cT cO cQ cR r1 r2 ha hk
  generalize txt (decI a) = s at *
  generalize txt (decI k) = t at *
  have e1 : (s.toList == s.toList) = true := by simp
  have e2 : (t.toList == t.toList) = true := by simp
  have e3 : (a == a) = true := by simp
  go_enter Try.func7, Try.ntmps7
  go_wp2_with (first | (go_at_call 28; refine (CR.out _).mono ?_; rintro e w' ⟨rfl, rfl⟩) | (go_at_call 32; refine (CA.out _).mono ?_; rintro e w1 ⟨rfl, hb1⟩) | (go_at_call 30; refine (CT.out _).mono ?_; rintro e w2 ⟨rfl, hb2⟩) | (go_at_call 33; refine (CO.out _).mono ?_; rintro e w3 ⟨rfl, hb3⟩) | (go_at_call 34; refine (CQ.out _).mono ?_; rintro e w4 ⟨rfl, hb4⟩) | (go_at_call 31; refine (alive02 _).mono ?_; rintro e w5 ⟨rfl, hb5⟩))
  go_ret
  exact ⟨rfl, chain4 hb1 hb2 hb3 hb4 hb5⟩

set_option maxRecDepth 100000 in
theorem walkDigitsTexts {H : Type} (W : World) (base : Nat) (enc : TypeId × Value → H) {v0 : Value} {d0 : DataW H} {p0 : List MemPlace} {v1 : Value} {d1 : DataW H} {p1 : List MemPlace}
    (h0 : DataW.Trod enc Try.prog W 0 (fun _ => true) true 2 v0 d0 p0) (h1 : DataW.Trod enc Try.prog W 0 (fun _ => true) true 3 v1 d1 p1)
    (o0 : Value.okWide Try.prog W .any base 2 v0) (o1 : Value.okWide Try.prog W .any base 3 v1) :
    Calls Try.prog 7 #[v0, v1] W fun e W' => e = .returned (.bool true) ∧ Below W.heap.size W W' := by
  obtain ⟨a, rfl, a0, a1⟩ := arg_int64 o0 h0
  obtain ⟨b, rfl, b0, b1⟩ := arg_int o1 h1
  exact digits_1 a b W ⟨a0, a1⟩ ⟨b0, b1⟩
end Go.Proofs.Ytnlieclfajebbaa

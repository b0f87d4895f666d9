
/-
  ClockBack walked: what the clock writes is read as it was. Conditions: none beyond the argument's kind.
-/
import Derived.Test.YtnlieclfajebbaaClkRead
import Derived.Test.YtnlieclfajebbaaClockR
import Derived.Test.YtnlieclfajebbaaArgI
set_option linter.unusedVariables false
set_option linter.unusedSimpArgs false
namespace Go.Proofs.Ytnlieclfajebbaa
open Go.Joins Go.ChangeShapes Go.WideShapes Go.ChangeAt Go.RowKit Go.Deep

set_option maxRecDepth 20000 in
set_option maxHeartbeats 1000000 in
theorem back_1 (a : Int) (w : World) (ha : I64 a) : Calls Try.prog 11 #[.int .i64 a] w fun e w' => e = .returned (.bool true) ∧ Below w.heap.size w w' := by
  rcases Int.lt_or_le a 0 with h | h
  · have q1 : decide (a < 0) = true := decide_eq_true h
    go_enter Try.func11, Try.ntmps11
    go_wp2
    go_ret
    exact ⟨rfl, Below.refl _ _⟩
  · have q1 : decide (a < 0) = false := decide_eq_false (by omega)
    rcases Int.lt_or_le 1099511627776 a with h2 | h2
    · have q2 : decide (1099511627776 < a) = true := decide_eq_true h2
      go_enter Try.func11, Try.ntmps11
      go_wp2
      go_ret
      exact ⟨rfl, Below.refl _ _⟩
    · have q2 : decide (1099511627776 < a) = false := decide_eq_false (by omega)
      have hk : clkI a = clkN a.toNat := by unfold clkI; rw [if_neg (by omega)]
      have cT := fun w => clock_Text a w ha
      rw [hk] at cT
      obtain ⟨r1, r2⟩ := clk_back a.toNat (by omega)
      rw [Int.toNat_of_nonneg h] at r1
      have hz := clkN_size a.toNat
      rw [txt_size] at hz
      have cR := fun w => clock_Read (clkN a.toNat) w (by omega)
      rw [r1, r2] at cR
      have e3 : (a == a) = true := by simp
      have CT := Lib.hid cT
      have CR := Lib.hid cR
      clear cT cR hk r1 r2 hz ha
      generalize txt (clkN a.toNat) = s at *
      go_enter Try.func11, Try.ntmps11
      go_wp2_with (first | (go_at_call 15; refine (CT.out _).mono ?_; rintro e w1 ⟨rfl, hb1⟩) | (go_at_call 47; refine (CR.out _).mono ?_; rintro e w2 ⟨rfl, hb2⟩) | (go_at_call 18; refine (alive52 _).mono ?_; rintro e w3 ⟨rfl, hb3⟩))
      go_ret
      exact ⟨rfl, (hb1.trans (hb2.mono hb1.size)).trans (hb3.mono (by have := hb1.size; have := hb2.size; omega))⟩

set_option maxRecDepth 100000 in
theorem walkClockBack {H : Type} (W : World) (base : Nat) (enc : TypeId × Value → H) {v0 : Value} {d0 : DataW H} {p0 : List MemPlace}
    (h0 : DataW.Trod enc Try.prog W 0 (fun _ => true) true 2 v0 d0 p0)
    (o0 : Value.okWide Try.prog W .any base 2 v0) :
    Calls Try.prog 11 #[v0] W fun e W' => e = .returned (.bool true) ∧ Below W.heap.size W W' := by
  obtain ⟨a, rfl, a0, a1⟩ := arg_int64 o0 h0
  exact back_1 a W ⟨a0, a1⟩
end Go.Proofs.Ytnlieclfajebbaa

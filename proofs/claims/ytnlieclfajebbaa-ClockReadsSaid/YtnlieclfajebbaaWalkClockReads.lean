
/-
  ClockReads walked: any text as ticks, or why it is none. Conditions: none beyond the argument's kind.
-/
import Derived.Test.YtnlieclfajebbaaRefClk2
import Derived.Test.YtnlieclfajebbaaArgS
set_option linter.unusedVariables false
set_option linter.unusedSimpArgs false
namespace Go.Proofs.Ytnlieclfajebbaa
open Go.Joins Go.ChangeShapes Go.WideShapes Go.ChangeAt Go.RowKit Go.Deep

set_option maxRecDepth 20000 in
set_option maxHeartbeats 1000000 in
theorem clk_reads_1 (l : List UInt8) (w : World) (hl : l.length < 9223372036854775808) : Calls Try.prog 10 #[.string (txt l)] w fun e w' => e = .returned (.bool true) ∧ Below w.heap.size w w' := by
  have hsz : (txt l).size = l.length := txt_size l
  rcases Nat.lt_or_ge 100 l.length with h | h
  · have q1 : decide ((100 : Int) < (l.length : Int)) = true := decide_eq_true (by omega)
    generalize txt l = s at *
    go_enter Try.func10, Try.ntmps10
    go_wp2
    go_ret
    exact ⟨rfl, Below.refl _ _⟩
  · have q1 : decide ((100 : Int) < (l.length : Int)) = false := decide_eq_false (by omega)
    have cR := fun w => clock_Read l w (by omega)
    have cQ := fun w => ref52_Read l w (by omega)
    have e2 : (clkRV l == clkRV l) = true := by simp
    have e3 : (clkRE l == clkRE l) = true := by simp
    have CR := Lib.hid cR
    have CQ := Lib.hid cQ
    clear cR cQ
    generalize clkRV l = V at *
    generalize clkRE l = E at *
    generalize txt l = s at *
    go_enter Try.func10, Try.ntmps10
    go_wp2_with (first | (go_at_call 47; refine (CR.out _).mono ?_; rintro e w1 ⟨rfl, hb1⟩) | (go_at_call 48; refine (CQ.out _).mono ?_; rintro e w2 ⟨rfl, hb2⟩) | (go_at_call 18; refine (alive52 _).mono ?_; rintro e w3 ⟨rfl, hb3⟩))
    go_ret
    exact ⟨rfl, (hb1.trans (hb2.mono hb1.size)).trans (hb3.mono (by have := hb1.size; have := hb2.size; omega))⟩

set_option maxRecDepth 100000 in
theorem walkClockReads {H : Type} (W : World) (base : Nat) (enc : TypeId × Value → H) {v0 : Value} {d0 : DataW H} {p0 : List MemPlace}
    (h0 : DataW.Trod enc Try.prog W 0 (fun _ => true) true 9 v0 d0 p0)
    (o0 : Value.okWide Try.prog W .any base 9 v0) :
    Calls Try.prog 10 #[v0] W fun e W' => e = .returned (.bool true) ∧ Below W.heap.size W W' := by
  obtain ⟨b, rfl, hb⟩ := arg_str o0 h0
  exact clk_reads_1 b W hb
end Go.Proofs.Ytnlieclfajebbaa

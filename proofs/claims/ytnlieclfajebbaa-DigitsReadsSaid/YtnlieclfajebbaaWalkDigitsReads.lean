
/-
  DigitsReads walked: any text as a number, or why it is none. Conditions: none beyond the argument's kind.
-/
import Derived.Test.YtnlieclfajebbaaAlive02
import Derived.Test.YtnlieclfajebbaaArgS
set_option linter.unusedVariables false
set_option linter.unusedSimpArgs false
namespace Go.Proofs.Ytnlieclfajebbaa
open Go.Joins Go.ChangeShapes Go.WideShapes Go.ChangeAt Go.RowKit Go.Deep

theorem readV_bd (l : List UInt8) : I64 (readV l) := by
  unfold readV
  split
  · unfold fit2V I64; split <;> omega
  · unfold I64; omega
set_option maxRecDepth 20000 in
set_option maxHeartbeats 1000000 in
theorem reads_1 (l : List UInt8) (w : World) (hl : l.length < 9223372036854775808) : Calls Try.prog 6 #[.string (txt l)] w fun e w' => e = .returned (.bool true) ∧ Below w.heap.size w w' := by
  have hsz : (txt l).size = l.length := txt_size l
  rcases Nat.lt_or_ge 200 l.length with h | h
  · have q1 : decide ((200 : Int) < (l.length : Int)) = true := decide_eq_true (by omega)
    generalize txt l = s at *
    go_enter Try.func6, Try.ntmps6
    go_wp2
    go_ret
    exact ⟨rfl, Below.refl _ _⟩
  · have q1 : decide ((200 : Int) < (l.length : Int)) = false := decide_eq_false (by omega)
    have cR := fun w => digits_Read l w (by omega)
    have cQ := fun w => ref02_Read l w (by omega)
    have cT := fun w => digits_Text (readV l) w (readV_bd l)
    have hb := fun h => decI_read (l := l) h
    have e2 : (readV l == readV l) = true := by simp
    have e3 : (readE l == readE l) = true := by simp
    by_cases h0 : readE l = 0
    · rw [hb h0] at cT
      rw [h0] at cR cQ e3
      have CR := Lib.hid cR
      have CQ := Lib.hid cQ
      have CT := Lib.hid cT
      clear cR cQ cT hb h0
      generalize readV l = V at *
      generalize txt l = s at *
      have e1 : (s.toList == s.toList) = true := by simp
      go_enter Try.func6, Try.ntmps6
      go_wp2_with (first | (go_at_call 28; refine (CR.out _).mono ?_; rintro e w' ⟨rfl, rfl⟩) | (go_at_call 29; refine (CQ.out _).mono ?_; rintro e w' ⟨rfl, rfl⟩) | (go_at_call 30; refine (CT.out _).mono ?_; rintro e w2 ⟨rfl, hb2⟩) | (go_at_call 31; refine (alive02 _).mono ?_; rintro e w5 ⟨rfl, hb5⟩))
      go_ret
      exact ⟨rfl, hb2.trans (hb5.mono hb2.size)⟩
    · have e4 : (readE l == 0) = false := by simpa using h0
      have e5 : (readE l != 0) = true := by simpa using h0
      have CR := Lib.hid cR
      have CQ := Lib.hid cQ
      clear cR cQ cT hb h0
      generalize readV l = V at *
      generalize readE l = E at *
      generalize txt l = s at *
      go_enter Try.func6, Try.ntmps6
      go_wp2_with (first | (go_at_call 28; refine (CR.out _).mono ?_; rintro e w' ⟨rfl, rfl⟩) | (go_at_call 29; refine (CQ.out _).mono ?_; rintro e w' ⟨rfl, rfl⟩) | (go_at_call 31; refine (alive02 _).mono ?_; rintro e w5 ⟨rfl, hb5⟩))
      go_ret
      exact ⟨rfl, hb5⟩

set_option maxRecDepth 100000 in
theorem walkDigitsReads {H : Type} (W : World) (base : Nat) (enc : TypeId × Value → H) {v0 : Value} {d0 : DataW H} {p0 : List MemPlace}
    (h0 : DataW.Trod enc Try.prog W 0 (fun _ => true) true 9 v0 d0 p0)
    (o0 : Value.okWide Try.prog W .any base 9 v0) :
    Calls Try.prog 6 #[v0] W fun e W' => e = .returned (.bool true) ∧ Below W.heap.size W W' := by
  obtain ⟨b, rfl, hb⟩ := arg_str o0 h0
  exact reads_1 b W hb
end Go.Proofs.Ytnlieclfajebbaa


/-
  Sums and differences of nums and of hoistwayref01. Condition: the arguments fit their kinds.
-/
import Derived.Test.YtnlieclfajebbaaAlive01
set_option linter.unusedVariables false
set_option linter.unusedSimpArgs false
namespace Go.Proofs.Ytnlieclfajebbaa
open Go.Joins Go.ChangeShapes Go.WideShapes Go.ChangeAt Go.RowKit Go.Deep

theorem wrap_toInt (x : BitVec 64) : IntKind.i64.wrap ((x.toNat : Nat) : Int) = x.toInt := by
  have := x.isLt
  rw [IntKind.wrap_i64, BitVec.toInt_eq_toNat_cond]
  split <;> omega
theorem bits_xor (a b : Int) : bits .xor .i64 a b = (BitVec.ofInt 64 a ^^^ BitVec.ofInt 64 b).toInt := wrap_toInt _
theorem bits_and (a b : Int) : bits .and .i64 a b = (BitVec.ofInt 64 a &&& BitVec.ofInt 64 b).toInt := wrap_toInt _
theorem msb_ofInt {a : Int} (h : I64 a) : (BitVec.ofInt 64 a).msb = decide (a < 0) := by
  unfold I64 at h
  rw [BitVec.msb_eq_toInt, BitVec.toInt_ofInt]
  have : a.bmod (2 ^ 64) = a := Int.bmod_eq_of_le (by omega) (by omega)
  rw [this]
theorem and_xor_neg {a b c d : Int} (ha : I64 a) (hb : I64 b) (hc : I64 c) (hd : I64 d) :
    decide (bits .and .i64 (bits .xor .i64 a b) (bits .xor .i64 c d) < 0) = ((decide (a < 0) ^^ decide (b < 0)) && (decide (c < 0) ^^ decide (d < 0))) := by
  rw [bits_and, bits_xor, bits_xor, BitVec.ofInt_toInt, BitVec.ofInt_toInt, ← BitVec.msb_eq_toInt, BitVec.msb_and, BitVec.msb_xor, BitVec.msb_xor, msb_ofInt ha, msb_ofInt hb, msb_ofInt hc, msb_ofInt hd]
theorem wrap64_eq (n : Int) : wrap64 n = IntKind.i64.wrap n := (IntWalk.i64_left n).symm
theorem wrap_I64 (n : Int) : I64 (wrap64 n) := by unfold I64; rw [wrap64_eq, IntKind.wrap_i64]; omega

/-- A number that fits 64 bits, or 0; its error; whether it fits. -/
def fit2V (n : Int) : Int := if -9223372036854775808 ≤ n ∧ n ≤ 9223372036854775807 then n else 0
def fit2E (n : Int) : Int := if -9223372036854775808 ≤ n ∧ n ≤ 9223372036854775807 then 0 else 10
def fit2B (n : Int) : Bool := decide (-9223372036854775808 ≤ n ∧ n ≤ 9223372036854775807)
theorem nums_Add (a b : Int) (w : World) (ha : I64 a) (hb : I64 b) : Calls Try.prog 68 #[.int .i64 a, .int .i64 b] w fun e w' => e = .returned (.tuple #[.int .i64 (fit2V (a + b)), .int .i64 (fit2E (a + b))]) ∧ w = w' := by
  have hx := and_xor_neg ha (wrap_I64 (a + b)) hb (wrap_I64 (a + b))
  have hs : wrap64 (a + b) = if a + b < -9223372036854775808 then a + b + 18446744073709551616 else if a + b ≤ 9223372036854775807 then a + b else a + b - 18446744073709551616 := by unfold I64 at ha hb; rw [wrap64_eq, IntKind.wrap_i64]; omega
  unfold I64 at ha hb
  by_cases h1 : a + b < -9223372036854775808
  · rw [if_pos h1] at hs
    have e : ((decide (a < 0) ^^ decide (wrap64 (a + b) < 0)) && (decide (b < 0) ^^ decide (wrap64 (a + b) < 0))) = true := by
      rw [hs]; simp; omega
    rw [e] at hx
    have HS := Lib.hid hs
    clear hs e
    go_enter Try.func68, Try.ntmps68
    go_wp2
    go_ret2
    exact ⟨ret_two (by unfold fit2V; omega) (by unfold fit2E; omega), rfl⟩
  · rw [if_neg h1] at hs
    by_cases h2 : a + b ≤ 9223372036854775807
    · rw [if_pos h2] at hs
      rw [hs] at hx
      have e : ((decide (a < 0) ^^ decide (a + b < 0)) && (decide (b < 0) ^^ decide (a + b < 0))) = false := by
        by_cases a < 0 <;> by_cases b < 0 <;> simp [*] <;> omega
      rw [e] at hx
      have HS := Lib.hid hs
      clear hs e
      go_enter Try.func68, Try.ntmps68
      go_wp2
      go_ret2
      exact ⟨ret_two (by unfold fit2V; omega) (by unfold fit2E; omega), rfl⟩
    · rw [if_neg h2] at hs
      have e : ((decide (a < 0) ^^ decide (wrap64 (a + b) < 0)) && (decide (b < 0) ^^ decide (wrap64 (a + b) < 0))) = true := by
        rw [hs]; by_cases a < 0 <;> by_cases b < 0 <;> simp [*] <;> omega
      rw [e] at hx
      have HS := Lib.hid hs
      clear hs e
      go_enter Try.func68, Try.ntmps68
      go_wp2
      go_ret2
      exact ⟨ret_two (by unfold fit2V; omega) (by unfold fit2E; omega), rfl⟩
theorem ref_Add (a b : Int) (w : World) (ha : I64 a) (hb : I64 b) : Calls Try.prog 19 #[.int .i64 a, .int .i64 b] w fun e w' => e = .returned (.tuple #[.int .i64 (fit2V (a + b)), .bool (fit2B (a + b))]) ∧ w = w' := by
  unfold I64 at ha hb
  rcases Int.lt_trichotomy b 0 with h | h | h
  · by_cases h1 : a + b < -9223372036854775808
    · go_enter Try.func19, Try.ntmps19
      go_wp2
      go_ret2
      exact ⟨ret_ib (by unfold fit2V; omega) (by unfold fit2B; simp; omega), rfl⟩
    · go_enter Try.func19, Try.ntmps19
      go_wp2
      go_ret2
      exact ⟨ret_ib (by unfold fit2V; omega) (by unfold fit2B; simp; omega), rfl⟩
  · subst h
    go_enter Try.func19, Try.ntmps19
    go_wp2
    go_ret2
    exact ⟨ret_ib (by unfold fit2V; omega) (by unfold fit2B; simp; omega), rfl⟩
  · by_cases h1 : a + b ≤ 9223372036854775807
    · go_enter Try.func19, Try.ntmps19
      go_wp2
      go_ret2
      exact ⟨ret_ib (by unfold fit2V; omega) (by unfold fit2B; simp; omega), rfl⟩
    · go_enter Try.func19, Try.ntmps19
      go_wp2
      go_ret2
      exact ⟨ret_ib (by unfold fit2V; omega) (by unfold fit2B; simp; omega), rfl⟩
end Go.Proofs.Ytnlieclfajebbaa

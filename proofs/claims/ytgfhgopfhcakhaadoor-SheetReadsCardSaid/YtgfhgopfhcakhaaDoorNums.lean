
/-
  Contracts of the package nums and of hoistwayref01: sizes, signs, quotients. Condition: the arguments fit their kinds.
-/
import Derived.Test.YtgfhgopfhcakhaaDoorBits
set_option linter.unusedVariables false
set_option linter.unusedSimpArgs false
namespace Go.Proofs.YtgfhgopfhcakhaaDoor
open Go.Joins Go.ChangeShapes Go.WideShapes Go.ChangeAt Go.RowKit Go.Deep

theorem nums_Size (a : Int) (w : World) (h : I64 a) : Calls Tryd.prog 58 #[.int .i64 a] w fun e w' => e = .returned (.int .u64 (absI a)) ∧ w = w' := by
  have hx := not_i64 a h
  obtain ⟨h0, h1⟩ := h
  have HX := Lib.hid hx
  clear hx
  by_cases hn : a < 0
  · go_enter Tryd.func58, Tryd.ntmps58
    go_wp2
    go_ret
    refine ⟨ret_int ?_, rfl⟩
    rw [HX.out]
    unfold absI
    rw [if_pos hn, IntWalk.u64_in _ (by rw [IntKind.wrap_u64]; omega), IntKind.wrap_u64]
    omega
  · go_enter Tryd.func58, Tryd.ntmps58
    go_wp2
    go_ret
    exact ⟨ret_int (by unfold absI; omega), rfl⟩
theorem ref_Size (a : Int) (w : World) (h : I64 a) : Calls Tryd.prog 62 #[.int .i64 a] w fun e w' => e = .returned (.int .u64 (absI a)) ∧ w = w' := by
  obtain ⟨h0, h1⟩ := h
  by_cases hm : a = -9223372036854775808
  · subst hm
    go_enter Tryd.func62, Tryd.ntmps62
    go_wp2
    go_ret
    exact ⟨rfl, rfl⟩
  · have hb : (a == -9223372036854775808) = false := by simp [hm]
    have hm2 : -9223372036854775807 ≤ a := by omega
    have HM := Lib.hid hm
    clear hm
    by_cases hn : a < 0
    · go_enter Tryd.func62, Tryd.ntmps62
      go_wp2
      go_ret
      exact ⟨ret_int (by unfold absI; omega), rfl⟩
    · go_enter Tryd.func62, Tryd.ntmps62
      go_wp2
      go_ret
      exact ⟨ret_int (by unfold absI; omega), rfl⟩

/-- A number of a size and sign, and its error. -/
def sgn1 (n : Int) (below : Bool) : Int := if below then (if n ≤ 9223372036854775808 then -n else 0) else if n ≤ 9223372036854775807 then n else 0
def sgn2 (n : Int) (below : Bool) : Int := if below then (if n ≤ 9223372036854775808 then 0 else 10) else if n ≤ 9223372036854775807 then 0 else 10
def sgnOk (n : Int) (below : Bool) : Bool := if below then decide (n ≤ 9223372036854775808) else decide (n ≤ 9223372036854775807)

theorem nums_signed (n : Int) (b : Bool) (w : World) (h : 0 ≤ n) (h' : n ≤ 18446744073709551615) : Calls Tryd.prog 60 #[.int .u64 n, .bool b] w fun e w' => e = .returned (.tuple #[.int .i64 (sgn1 n b), .int .i64 (sgn2 n b)]) ∧ w = w' := by
  have hx := not_u64 n h h'
  have HX := Lib.hid hx
  clear hx
  cases b
  · by_cases hc : n ≤ 9223372036854775807
    · go_enter Tryd.func60, Tryd.ntmps60
      go_wp2
      go_ret2
      exact ⟨ret_two (by unfold sgn1; simp only [Bool.false_eq_true, if_false, if_true]; omega) (by unfold sgn2; simp only [Bool.false_eq_true, if_false, if_true]; omega), rfl⟩
    · go_enter Tryd.func60, Tryd.ntmps60
      go_wp2
      go_ret2
      exact ⟨ret_two (by unfold sgn1; simp only [Bool.false_eq_true, if_false, if_true]; omega) (by unfold sgn2; simp only [Bool.false_eq_true, if_false, if_true]; omega), rfl⟩
  · by_cases hc : n ≤ 9223372036854775808
    · go_enter Tryd.func60, Tryd.ntmps60
      go_wp2
      go_ret2
      refine ⟨ret_two ?_ (by unfold sgn2; simp only [Bool.false_eq_true, if_false, if_true]; omega), rfl⟩
      rw [HX.out]
      unfold sgn1
      rw [if_pos rfl, if_pos hc]
      simp only [wrap64, IntKind.wrap_u64]
      omega
    · go_enter Tryd.func60, Tryd.ntmps60
      go_wp2
      go_ret2
      exact ⟨ret_two (by unfold sgn1; simp only [Bool.false_eq_true, if_false, if_true]; omega) (by unfold sgn2; simp only [Bool.false_eq_true, if_false, if_true]; omega), rfl⟩

/-- The quotient of the sizes, and what is left of them. -/
def szQ (a b : Int) : Int := absI a / absI b
def szR (a b : Int) : Int := absI a % absI b
theorem sz_facts {a b : Int} (ha : I64 a) (hb : I64 b) (h : b ≠ 0) : 1 ≤ absI b ∧ 0 ≤ szQ a b ∧ szQ a b ≤ 9223372036854775808 ∧ 0 ≤ szR a b ∧ szR a b < absI b ∧ szQ a b * absI b + szR a b = absI a ∧ (2 ≤ absI b → szQ a b ≤ 4611686018427387904) ∧ (absI b = 1 → szR a b = 0 ∧ szQ a b = absI a) := by
  have hA := absI_bd ha
  have hB := absI_bd hb
  have h1 : 1 ≤ absI b := by unfold absI; omega
  unfold szQ szR
  have q0 : 0 ≤ absI a / absI b := Int.ediv_nonneg hA.1 hB.1
  have q1 : absI a / absI b ≤ absI a := Int.ediv_le_self _ hA.1
  have r0 := Int.emod_nonneg (absI a) (show absI b ≠ 0 by omega)
  have r1 := Int.emod_lt_of_pos (absI a) (show 0 < absI b by omega)
  have e := Int.mul_ediv_add_emod (absI a) (absI b)
  rw [Int.mul_comm] at e
  refine ⟨h1, q0, by omega, r0, r1, e, fun h2 => ?_, fun h2 => ?_⟩
  · have := Int.mul_le_mul_of_nonneg_left h2 q0
    omega
  · rw [h2]; constructor <;> omega
theorem tmod_sz (a b : Int) : a.tmod b = if a < 0 then -szR a b else szR a b := by
  unfold szR absI
  by_cases ha : a < 0 <;> by_cases hb : b < 0
  · rw [if_pos ha, if_pos ha, if_pos hb]
    have e : (-a).tmod (-b) = (-a) % (-b) := Int.tmod_eq_emod_of_nonneg (by omega)
    rw [Int.tmod_neg, Int.neg_tmod] at e
    omega
  · rw [if_pos ha, if_pos ha, if_neg hb]
    have e : (-a).tmod b = (-a) % b := Int.tmod_eq_emod_of_nonneg (by omega)
    rw [Int.neg_tmod] at e
    omega
  · rw [if_neg ha, if_neg ha, if_pos hb]
    have e : a.tmod (-b) = a % (-b) := Int.tmod_eq_emod_of_nonneg (by omega)
    rw [Int.tmod_neg] at e
    omega
  · rw [if_neg ha, if_neg ha, if_neg hb]
    exact Int.tmod_eq_emod_of_nonneg (by omega)
end Go.Proofs.YtgfhgopfhcakhaaDoor

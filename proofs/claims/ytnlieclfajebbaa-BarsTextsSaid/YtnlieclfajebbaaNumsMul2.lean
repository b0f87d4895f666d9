
/-
  nums.Mul and hoistwayref01.Mul: the product, or that there is none. Condition: the arguments fit their kinds.
-/
import Derived.Test.YtnlieclfajebbaaNumsMul
set_option linter.unusedVariables false
set_option linter.unusedSimpArgs false
namespace Go.Proofs.Ytnlieclfajebbaa
open Go.Joins Go.ChangeShapes Go.WideShapes Go.ChangeAt Go.RowKit Go.Deep

theorem mul64 (x y : Int) (w : World) (hx0 : 0 ≤ x) (hx : x ≤ 18446744073709551615) (hy0 : 0 ≤ y) (hy : y ≤ 18446744073709551615) :
    Calls Try.prog 101 #[.int .u64 x, .int .u64 y] w fun e w' => e = .returned (.tuple #[.int .u64 (x * y / 18446744073709551616), .int .u64 (x * y % 18446744073709551616)]) ∧ w = w' := by
  obtain ⟨x, rfl⟩ := Int.eq_ofNat_of_zero_le hx0
  obtain ⟨y, rfl⟩ := Int.eq_ofNat_of_zero_le hy0
  exact mul64_nat x y (by omega) (by omega) w
theorem ref_Times (x y : Int) (w : World) (hx0 : 0 ≤ x) (hx : x ≤ 18446744073709551615) (hy0 : 0 ≤ y) (hy : y ≤ 18446744073709551615) :
    Calls Try.prog 81 #[.int .u64 x, .int .u64 y] w fun e w' => e = .returned (.tuple #[.int .u64 (x * y / 18446744073709551616), .int .u64 (x * y % 18446744073709551616)]) ∧ w = w' := by
  obtain ⟨x, rfl⟩ := Int.eq_ofNat_of_zero_le hx0
  obtain ⟨y, rfl⟩ := Int.eq_ofNat_of_zero_le hy0
  exact times_nat x y (by omega) (by omega) w

theorem mul_abs (a b : Int) : a * b = if (a < 0) = (b < 0) then absI a * absI b else -(absI a * absI b) := by
  unfold absI
  by_cases ha : a < 0 <;> by_cases hb : b < 0 <;> simp [ha, hb, Int.neg_mul, Int.mul_neg]
theorem abs_mul_bd {a b : Int} (ha : I64 a) (hb : I64 b) : 0 ≤ absI a * absI b ∧ absI a * absI b ≤ 85070591730234615865843651857942052864 := by
  obtain ⟨A0, A1⟩ := absI_bd ha
  obtain ⟨B0, B1⟩ := absI_bd hb
  have := Int.mul_le_mul A1 B1 B0 (by omega)
  exact ⟨Int.mul_nonneg A0 B0, by omega⟩

theorem nums_Mul (a b : Int) (w : World) (ha : I64 a) (hb : I64 b) : Calls Try.prog 73 #[.int .i64 a, .int .i64 b] w fun e w' => e = .returned (.tuple #[.int .i64 (fit2V (a * b)), .int .i64 (fit2E (a * b))]) ∧ w = w' := by
  obtain ⟨A0, A1⟩ := absI_bd ha
  obtain ⟨B0, B1⟩ := absI_bd hb
  obtain ⟨m0, m1⟩ := abs_mul_bd ha hb
  have hm := mul_abs a b
  have cM := fun w => mul64 (absI a) (absI b) w A0 (by omega) B0 (by omega)
  generalize hM : absI a * absI b = M at *
  have HA := Lib.hid ha
  have HB := Lib.hid hb
  have CM := Lib.hid cM
  clear hM ha hb cM
  by_cases hbig : M / 18446744073709551616 = 0
  · have e0 : M % 18446744073709551616 = M := by omega
    have g0 : (M / 18446744073709551616 != 0) = false := by simp [hbig]
    have HBG := Lib.hid hbig
    clear hbig
    by_cases sa : a < 0 <;> by_cases sb : b < 0
    all_goals
      simp only [sa, sb, if_true, eq_self_iff_true, if_false, eq_iff_iff, iff_true, iff_false, not_true_eq_false, not_false_eq_true] at hm
      have HM := Lib.hid hm
      clear hm
      go_enter Try.func73, Try.ntmps73
      go_wp2_with (first | (go_at_call 76; (with_reducible refine (nums_Size _ _ HA.out).mono ?_); rintro e w' ⟨rfl, rfl⟩) | (go_at_call 76; (with_reducible refine (nums_Size _ _ HB.out).mono ?_); rintro e w' ⟨rfl, rfl⟩) | (go_at_call 101; refine (CM.out _).mono ?_; rintro e w' ⟨rfl, rfl⟩) | (go_at_call 102; refine (nums_signed _ _ _ (by omega) (by omega)).mono ?_; rintro e w' ⟨rfl, rfl⟩))
      go_ret2
      refine ⟨ret_two ?_ ?_, rfl⟩
      · rw [HM.out]; unfold sgn1 fit2V; simp; omega
      · rw [HM.out]; unfold sgn2 fit2E; simp; omega
  · have g0 : (M / 18446744073709551616 != 0) = true := by simp [hbig]
    have h1 : 18446744073709551616 ≤ M := by omega
    have h2 : 9223372036854775807 < a * b ∨ a * b < -9223372036854775808 := by rw [hm]; split <;> omega
    have HBG := Lib.hid hbig
    have HM := Lib.hid hm
    have H2 := Lib.hid h2
    clear hbig hm h2
    go_enter Try.func73, Try.ntmps73
    go_wp2_with (first | (go_at_call 76; (with_reducible refine (nums_Size _ _ HA.out).mono ?_); rintro e w' ⟨rfl, rfl⟩) | (go_at_call 76; (with_reducible refine (nums_Size _ _ HB.out).mono ?_); rintro e w' ⟨rfl, rfl⟩) | (go_at_call 101; refine (CM.out _).mono ?_; rintro e w' ⟨rfl, rfl⟩))
    go_ret2
    have h3 := H2.out
    exact ⟨ret_two (by unfold fit2V; omega) (by unfold fit2E; omega), rfl⟩
theorem ref_Mul (a b : Int) (w : World) (ha : I64 a) (hb : I64 b) : Calls Try.prog 94 #[.int .i64 a, .int .i64 b] w fun e w' => e = .returned (.tuple #[.int .i64 (fit2V (a * b)), .bool (fit2B (a * b))]) ∧ w = w' := by
  obtain ⟨A0, A1⟩ := absI_bd ha
  obtain ⟨B0, B1⟩ := absI_bd hb
  obtain ⟨m0, m1⟩ := abs_mul_bd ha hb
  have hm := mul_abs a b
  have cM := fun w => ref_Times (absI a) (absI b) w A0 (by omega) B0 (by omega)
  generalize hM : absI a * absI b = M at *
  have HA := Lib.hid ha
  have HB := Lib.hid hb
  have CM := Lib.hid cM
  clear hM ha hb cM
  by_cases hbig : M / 18446744073709551616 = 0
  · have e0 : M % 18446744073709551616 = M := by omega
    have g0 : decide (0 < M / 18446744073709551616) = false := by simp; omega
    have HBG := Lib.hid hbig
    clear hbig
    by_cases sa : a < 0 <;> by_cases sb : b < 0
    all_goals
      simp only [sa, sb, if_true, eq_self_iff_true, if_false, eq_iff_iff, iff_true, iff_false, not_true_eq_false, not_false_eq_true] at hm
      have HM := Lib.hid hm
      clear hm
      go_enter Try.func94, Try.ntmps94
      go_wp2_with (first | (go_at_call 79; (with_reducible refine (ref_Size _ _ HA.out).mono ?_); rintro e w' ⟨rfl, rfl⟩) | (go_at_call 79; (with_reducible refine (ref_Size _ _ HB.out).mono ?_); rintro e w' ⟨rfl, rfl⟩) | (go_at_call 81; refine (CM.out _).mono ?_; rintro e w' ⟨rfl, rfl⟩) | (go_at_call 107; refine (ref_signed _ _ _ (by omega) (by omega)).mono ?_; rintro e w' ⟨rfl, rfl⟩))
      go_ret2
      refine ⟨ret_ib ?_ ?_, rfl⟩
      · rw [HM.out]; unfold sgn1 fit2V; simp; omega
      · rw [HM.out]; unfold sgnOk fit2B; rw [Bool.eq_iff_iff]; simp; first | omega | (split <;> omega)
  · have g0 : decide (0 < M / 18446744073709551616) = true := by simp; omega
    have h1 : 18446744073709551616 ≤ M := by omega
    have h2 : 9223372036854775807 < a * b ∨ a * b < -9223372036854775808 := by rw [hm]; split <;> omega
    have HBG := Lib.hid hbig
    have HM := Lib.hid hm
    have H2 := Lib.hid h2
    clear hbig hm h2
    go_enter Try.func94, Try.ntmps94
    go_wp2_with (first | (go_at_call 79; (with_reducible refine (ref_Size _ _ HA.out).mono ?_); rintro e w' ⟨rfl, rfl⟩) | (go_at_call 79; (with_reducible refine (ref_Size _ _ HB.out).mono ?_); rintro e w' ⟨rfl, rfl⟩) | (go_at_call 81; refine (CM.out _).mono ?_; rintro e w' ⟨rfl, rfl⟩))
    go_ret2
    have h3 := H2.out
    exact ⟨ret_ib (by unfold fit2V; omega) (by unfold fit2B; simp; omega), rfl⟩
end Go.Proofs.Ytnlieclfajebbaa

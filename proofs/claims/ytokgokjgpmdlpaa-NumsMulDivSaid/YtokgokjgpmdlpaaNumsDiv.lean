/-
  Quotients, rounded down and up, and what is left: nums and hoistwayref01. Condition: the arguments fit their kinds.
-/
import Derived.Test.YtokgokjgpmdlpaaNums
set_option linter.unusedVariables false
set_option linter.unusedSimpArgs false
namespace Go.Proofs.Ytokgokjgpmdlpaa
open Go.Joins Go.ChangeShapes Go.WideShapes Go.ChangeAt Go.RowKit Go.Deep

/-- The quotient, rounded down (b isn't 0). -/
def quoF (a b : Int) : Int := if (a < 0) = (b < 0) then szQ a b else if szR a b = 0 then -szQ a b else -szQ a b - 1
def fitV (n : Int) : Int := if n ≤ 9223372036854775807 then n else 0
def fitE (n : Int) : Int := if n ≤ 9223372036854775807 then 0 else 10

set_option maxHeartbeats 1000000 in
theorem nums_Div (a b : Int) (w : World) (ha : I64 a) (hb : I64 b) (h : b ≠ 0) : Calls Try.prog 15 #[.int .i64 a, .int .i64 b] w fun e w' => e = .returned (.tuple #[.int .i64 (fitV (quoF a b)), .int .i64 (fitE (quoF a b))]) ∧ w = w' := by
  obtain ⟨f1, f2, f3, f4, f5, f6, f7, f8⟩ := sz_facts ha hb h
  have hA := absI_bd ha
  have hB := absI_bd hb
  obtain ⟨A0, A1⟩ := hA
  obtain ⟨B0, B1⟩ := hB
  have htm := tmod_sz a b
  have hq : absI a / absI b = szQ a b := rfl
  have hbz : (b == 0) = false := by simp [h]
  have HA := Lib.hid ha
  have HB := Lib.hid hb
  have F7 := Lib.hid f7
  have F8 := Lib.hid f8
  have H0 := Lib.hid h
  clear ha hb f6 f7 f8 h
  by_cases sa : a < 0 <;> by_cases sb : b < 0
  · rw [if_pos sa] at htm
    have da : decide (a < 0) = true := by simp; omega
    have db : decide (b < 0) = true := by simp; omega
    have hQ : quoF a b = szQ a b := by unfold quoF; rw [if_pos (by simp [sa, sb])]
    by_cases ho : szQ a b ≤ 9223372036854775807
    · have e1 : sgn1 (szQ a b) false = szQ a b := by unfold sgn1; simp only [Bool.false_eq_true, if_false]; omega
      have e2 : sgn2 (szQ a b) false = 0 := by unfold sgn2; simp only [Bool.false_eq_true, if_false]; omega
      have hV : fitV (quoF a b) = szQ a b := by rw [hQ]; unfold fitV; omega
      have hE : fitE (quoF a b) = 0 := by rw [hQ]; unfold fitE; omega
      have HV := Lib.hid hV
      have HE := Lib.hid hE
      clear hV hE hQ
      by_cases hr : szR a b = 0
      · have hr0 : (-szR a b != 0) = false := by simp [hr]
        have HR := Lib.hid hr
        clear hr
        go_enter Try.func15, Try.ntmps15
        go_wp2_with (first | (go_at_call 40; (with_reducible refine (nums_Size _ _ HA.out).mono ?_); rintro e w' ⟨rfl, rfl⟩) | (go_at_call 40; (with_reducible refine (nums_Size _ _ HB.out).mono ?_); rintro e w' ⟨rfl, rfl⟩) | (go_at_call 61; (with_reducible refine (nums_signed _ _ _ f2 (by omega)).mono ?_); rintro e w' ⟨rfl, rfl⟩))
        go_ret2
        exact ⟨ret_two (by rw [HV.out]) (by rw [HE.out]), rfl⟩
      · have hr0 : (-szR a b != 0) = true := by simp [hr]
        have HR := Lib.hid hr
        clear hr
        go_enter Try.func15, Try.ntmps15
        go_wp2_with (first | (go_at_call 40; (with_reducible refine (nums_Size _ _ HA.out).mono ?_); rintro e w' ⟨rfl, rfl⟩) | (go_at_call 40; (with_reducible refine (nums_Size _ _ HB.out).mono ?_); rintro e w' ⟨rfl, rfl⟩) | (go_at_call 61; (with_reducible refine (nums_signed _ _ _ f2 (by omega)).mono ?_); rintro e w' ⟨rfl, rfl⟩))
        go_ret2
        exact ⟨ret_two (by rw [HV.out]) (by rw [HE.out]), rfl⟩
    · have e1 : sgn1 (szQ a b) false = 0 := by unfold sgn1; simp only [Bool.false_eq_true, if_false]; omega
      have e2 : sgn2 (szQ a b) false = 10 := by unfold sgn2; simp only [Bool.false_eq_true, if_false]; omega
      have hV : fitV (quoF a b) = 0 := by rw [hQ]; unfold fitV; omega
      have hE : fitE (quoF a b) = 10 := by rw [hQ]; unfold fitE; omega
      have HV := Lib.hid hV
      have HE := Lib.hid hE
      clear hV hE hQ
      by_cases hr : szR a b = 0
      · have hr0 : (-szR a b != 0) = false := by simp [hr]
        have HR := Lib.hid hr
        clear hr
        go_enter Try.func15, Try.ntmps15
        go_wp2_with (first | (go_at_call 40; (with_reducible refine (nums_Size _ _ HA.out).mono ?_); rintro e w' ⟨rfl, rfl⟩) | (go_at_call 40; (with_reducible refine (nums_Size _ _ HB.out).mono ?_); rintro e w' ⟨rfl, rfl⟩) | (go_at_call 61; (with_reducible refine (nums_signed _ _ _ f2 (by omega)).mono ?_); rintro e w' ⟨rfl, rfl⟩))
        go_ret2
        exact ⟨ret_two (by rw [HV.out]) (by rw [HE.out]), rfl⟩
      · have hr0 : (-szR a b != 0) = true := by simp [hr]
        have HR := Lib.hid hr
        clear hr
        go_enter Try.func15, Try.ntmps15
        go_wp2_with (first | (go_at_call 40; (with_reducible refine (nums_Size _ _ HA.out).mono ?_); rintro e w' ⟨rfl, rfl⟩) | (go_at_call 40; (with_reducible refine (nums_Size _ _ HB.out).mono ?_); rintro e w' ⟨rfl, rfl⟩) | (go_at_call 61; (with_reducible refine (nums_signed _ _ _ f2 (by omega)).mono ?_); rintro e w' ⟨rfl, rfl⟩))
        go_ret2
        exact ⟨ret_two (by rw [HV.out]) (by rw [HE.out]), rfl⟩
  · rw [if_pos sa] at htm
    have da : decide (a < 0) = true := by simp; omega
    have db : decide (b < 0) = false := by simp; omega
    have e1 : sgn1 (szQ a b) true = -szQ a b := by unfold sgn1; simp only [if_true]; omega
    have e2 : sgn2 (szQ a b) true = 0 := by unfold sgn2; simp only [if_true]; omega
    by_cases hr : szR a b = 0
    · have hQ : quoF a b = -szQ a b := by unfold quoF; rw [if_neg (by simp [sa, sb]), if_pos hr]
      have hV : fitV (quoF a b) = -szQ a b := by rw [hQ]; unfold fitV; omega
      have hE : fitE (quoF a b) = 0 := by rw [hQ]; unfold fitE; omega
      have hr0 : (-szR a b != 0) = false := by simp [hr]
      have hq1 : szQ a b ≤ 9223372036854775807 ∨ szR a b = 0 := by
        by_cases h2 : 2 ≤ absI b
        · have := F7.out h2; omega
        · have := F8.out (by omega); omega
      have HV := Lib.hid hV
      have HE := Lib.hid hE
      have HR := Lib.hid hr
      clear hr hq1
      clear hV hE hQ
      go_enter Try.func15, Try.ntmps15
      go_wp2_with (first | (go_at_call 40; (with_reducible refine (nums_Size _ _ HA.out).mono ?_); rintro e w' ⟨rfl, rfl⟩) | (go_at_call 40; (with_reducible refine (nums_Size _ _ HB.out).mono ?_); rintro e w' ⟨rfl, rfl⟩) | (go_at_call 61; (with_reducible refine (nums_signed _ _ _ f2 (by omega)).mono ?_); rintro e w' ⟨rfl, rfl⟩))
      go_ret2
      exact ⟨ret_two (by rw [HV.out]) (by rw [HE.out]), rfl⟩
    · have hQ : quoF a b = -szQ a b - 1 := by unfold quoF; rw [if_neg (by simp [sa, sb]), if_neg hr]
      have hV : fitV (quoF a b) = -szQ a b - 1 := by rw [hQ]; unfold fitV; omega
      have hE : fitE (quoF a b) = 0 := by rw [hQ]; unfold fitE; omega
      have hr0 : (-szR a b != 0) = true := by simp [hr]
      have hq1 : szQ a b ≤ 9223372036854775807 ∨ szR a b = 0 := by
        by_cases h2 : 2 ≤ absI b
        · have := F7.out h2; omega
        · have := F8.out (by omega); omega
      have HV := Lib.hid hV
      have HE := Lib.hid hE
      have hq2 : szQ a b ≤ 9223372036854775807 := by omega
      have HR := Lib.hid hr
      clear hr hq1
      clear hV hE hQ
      go_enter Try.func15, Try.ntmps15
      go_wp2_with (first | (go_at_call 40; (with_reducible refine (nums_Size _ _ HA.out).mono ?_); rintro e w' ⟨rfl, rfl⟩) | (go_at_call 40; (with_reducible refine (nums_Size _ _ HB.out).mono ?_); rintro e w' ⟨rfl, rfl⟩) | (go_at_call 61; (with_reducible refine (nums_signed _ _ _ f2 (by omega)).mono ?_); rintro e w' ⟨rfl, rfl⟩))
      go_ret2
      exact ⟨ret_two (by rw [HV.out]) (by rw [HE.out]), rfl⟩
  · rw [if_neg sa] at htm
    have da : decide (a < 0) = false := by simp; omega
    have db : decide (b < 0) = true := by simp; omega
    have e1 : sgn1 (szQ a b) true = -szQ a b := by unfold sgn1; simp only [if_true]; omega
    have e2 : sgn2 (szQ a b) true = 0 := by unfold sgn2; simp only [if_true]; omega
    by_cases hr : szR a b = 0
    · have hQ : quoF a b = -szQ a b := by unfold quoF; rw [if_neg (by simp [sa, sb]), if_pos hr]
      have hV : fitV (quoF a b) = -szQ a b := by rw [hQ]; unfold fitV; omega
      have hE : fitE (quoF a b) = 0 := by rw [hQ]; unfold fitE; omega
      have hr0 : (szR a b != 0) = false := by simp [hr]
      have hq1 : szQ a b ≤ 9223372036854775807 ∨ szR a b = 0 := by
        by_cases h2 : 2 ≤ absI b
        · have := F7.out h2; omega
        · have := F8.out (by omega); omega
      have HV := Lib.hid hV
      have HE := Lib.hid hE
      have HR := Lib.hid hr
      clear hr hq1
      clear hV hE hQ
      go_enter Try.func15, Try.ntmps15
      go_wp2_with (first | (go_at_call 40; (with_reducible refine (nums_Size _ _ HA.out).mono ?_); rintro e w' ⟨rfl, rfl⟩) | (go_at_call 40; (with_reducible refine (nums_Size _ _ HB.out).mono ?_); rintro e w' ⟨rfl, rfl⟩) | (go_at_call 61; (with_reducible refine (nums_signed _ _ _ f2 (by omega)).mono ?_); rintro e w' ⟨rfl, rfl⟩))
      go_ret2
      exact ⟨ret_two (by rw [HV.out]) (by rw [HE.out]), rfl⟩
    · have hQ : quoF a b = -szQ a b - 1 := by unfold quoF; rw [if_neg (by simp [sa, sb]), if_neg hr]
      have hV : fitV (quoF a b) = -szQ a b - 1 := by rw [hQ]; unfold fitV; omega
      have hE : fitE (quoF a b) = 0 := by rw [hQ]; unfold fitE; omega
      have hr0 : (szR a b != 0) = true := by simp [hr]
      have hq1 : szQ a b ≤ 9223372036854775807 ∨ szR a b = 0 := by
        by_cases h2 : 2 ≤ absI b
        · have := F7.out h2; omega
        · have := F8.out (by omega); omega
      have HV := Lib.hid hV
      have HE := Lib.hid hE
      have hq2 : szQ a b ≤ 9223372036854775807 := by omega
      have HR := Lib.hid hr
      clear hr hq1
      clear hV hE hQ
      go_enter Try.func15, Try.ntmps15
      go_wp2_with (first | (go_at_call 40; (with_reducible refine (nums_Size _ _ HA.out).mono ?_); rintro e w' ⟨rfl, rfl⟩) | (go_at_call 40; (with_reducible refine (nums_Size _ _ HB.out).mono ?_); rintro e w' ⟨rfl, rfl⟩) | (go_at_call 61; (with_reducible refine (nums_signed _ _ _ f2 (by omega)).mono ?_); rintro e w' ⟨rfl, rfl⟩))
      go_ret2
      exact ⟨ret_two (by rw [HV.out]) (by rw [HE.out]), rfl⟩
  · rw [if_neg sa] at htm
    have da : decide (a < 0) = false := by simp; omega
    have db : decide (b < 0) = false := by simp; omega
    have hQ : quoF a b = szQ a b := by unfold quoF; rw [if_pos (by simp [sa, sb])]
    by_cases ho : szQ a b ≤ 9223372036854775807
    · have e1 : sgn1 (szQ a b) false = szQ a b := by unfold sgn1; simp only [Bool.false_eq_true, if_false]; omega
      have e2 : sgn2 (szQ a b) false = 0 := by unfold sgn2; simp only [Bool.false_eq_true, if_false]; omega
      have hV : fitV (quoF a b) = szQ a b := by rw [hQ]; unfold fitV; omega
      have hE : fitE (quoF a b) = 0 := by rw [hQ]; unfold fitE; omega
      have HV := Lib.hid hV
      have HE := Lib.hid hE
      clear hV hE hQ
      by_cases hr : szR a b = 0
      · have hr0 : (szR a b != 0) = false := by simp [hr]
        have HR := Lib.hid hr
        clear hr
        go_enter Try.func15, Try.ntmps15
        go_wp2_with (first | (go_at_call 40; (with_reducible refine (nums_Size _ _ HA.out).mono ?_); rintro e w' ⟨rfl, rfl⟩) | (go_at_call 40; (with_reducible refine (nums_Size _ _ HB.out).mono ?_); rintro e w' ⟨rfl, rfl⟩) | (go_at_call 61; (with_reducible refine (nums_signed _ _ _ f2 (by omega)).mono ?_); rintro e w' ⟨rfl, rfl⟩))
        go_ret2
        exact ⟨ret_two (by rw [HV.out]) (by rw [HE.out]), rfl⟩
      · have hr0 : (szR a b != 0) = true := by simp [hr]
        have HR := Lib.hid hr
        clear hr
        go_enter Try.func15, Try.ntmps15
        go_wp2_with (first | (go_at_call 40; (with_reducible refine (nums_Size _ _ HA.out).mono ?_); rintro e w' ⟨rfl, rfl⟩) | (go_at_call 40; (with_reducible refine (nums_Size _ _ HB.out).mono ?_); rintro e w' ⟨rfl, rfl⟩) | (go_at_call 61; (with_reducible refine (nums_signed _ _ _ f2 (by omega)).mono ?_); rintro e w' ⟨rfl, rfl⟩))
        go_ret2
        exact ⟨ret_two (by rw [HV.out]) (by rw [HE.out]), rfl⟩
    · have e1 : sgn1 (szQ a b) false = 0 := by unfold sgn1; simp only [Bool.false_eq_true, if_false]; omega
      have e2 : sgn2 (szQ a b) false = 10 := by unfold sgn2; simp only [Bool.false_eq_true, if_false]; omega
      have hV : fitV (quoF a b) = 0 := by rw [hQ]; unfold fitV; omega
      have hE : fitE (quoF a b) = 10 := by rw [hQ]; unfold fitE; omega
      have HV := Lib.hid hV
      have HE := Lib.hid hE
      clear hV hE hQ
      by_cases hr : szR a b = 0
      · have hr0 : (szR a b != 0) = false := by simp [hr]
        have HR := Lib.hid hr
        clear hr
        go_enter Try.func15, Try.ntmps15
        go_wp2_with (first | (go_at_call 40; (with_reducible refine (nums_Size _ _ HA.out).mono ?_); rintro e w' ⟨rfl, rfl⟩) | (go_at_call 40; (with_reducible refine (nums_Size _ _ HB.out).mono ?_); rintro e w' ⟨rfl, rfl⟩) | (go_at_call 61; (with_reducible refine (nums_signed _ _ _ f2 (by omega)).mono ?_); rintro e w' ⟨rfl, rfl⟩))
        go_ret2
        exact ⟨ret_two (by rw [HV.out]) (by rw [HE.out]), rfl⟩
      · have hr0 : (szR a b != 0) = true := by simp [hr]
        have HR := Lib.hid hr
        clear hr
        go_enter Try.func15, Try.ntmps15
        go_wp2_with (first | (go_at_call 40; (with_reducible refine (nums_Size _ _ HA.out).mono ?_); rintro e w' ⟨rfl, rfl⟩) | (go_at_call 40; (with_reducible refine (nums_Size _ _ HB.out).mono ?_); rintro e w' ⟨rfl, rfl⟩) | (go_at_call 61; (with_reducible refine (nums_signed _ _ _ f2 (by omega)).mono ?_); rintro e w' ⟨rfl, rfl⟩))
        go_ret2
        exact ⟨ret_two (by rw [HV.out]) (by rw [HE.out]), rfl⟩
end Go.Proofs.Ytokgokjgpmdlpaa

/-
  Quotients, rounded down and up, and what is left: nums.Ceil, nums.Mod, and hoistwayref01's three. Condition: the arguments fit their kinds.
-/
import Derived.Test.YtokgokjgpmdlpaaNumsDiv
set_option linter.unusedVariables false
set_option linter.unusedSimpArgs false
namespace Go.Proofs.Ytokgokjgpmdlpaa
open Go.Joins Go.ChangeShapes Go.WideShapes Go.ChangeAt Go.RowKit Go.Deep

/-- The quotient, rounded up. -/
def quoC (a b : Int) : Int := if szR a b = 0 then quoF a b else quoF a b + 1
/-- What is left of the quotient, rounded down. -/
def modF (a b : Int) : Int := if szR a b = 0 then 0 else if (a < 0) = (b < 0) then (if a < 0 then -szR a b else szR a b) else if a < 0 then b - szR a b else szR a b + b
def fitB (n : Int) : Bool := decide (n ≤ 9223372036854775807)

set_option maxHeartbeats 1000000 in
theorem ref_Div (a b : Int) (w : World) (ha : I64 a) (hb : I64 b) (h : b ≠ 0) : Calls Try.prog 19 #[.int .i64 a, .int .i64 b] w fun e w' => e = .returned (.tuple #[.int .i64 (fitV (quoF a b)), .bool (fitB (quoF a b))]) ∧ w = w' := by
  obtain ⟨f1, f2, f3, f4, f5, f6, f7, f8⟩ := sz_facts ha hb h
  obtain ⟨A0, A1⟩ := absI_bd ha
  obtain ⟨B0, B1⟩ := absI_bd hb
  have htm := tmod_sz a b
  have hq : absI a / absI b = szQ a b := rfl
  have hrr : absI a % absI b = szR a b := rfl
  have hbz : (b == 0) = false := by simp [h]
  have m0 : 0 ≤ szQ a b * absI b := Int.mul_nonneg f2 B0
  have m1 : szQ a b * absI b ≤ absI a := by omega
  have hba : (a < 0 → absI a = -a) ∧ (0 ≤ a → absI a = a) ∧ (b < 0 → absI b = -b) ∧ (0 ≤ b → absI b = b) := by unfold absI; omega
  have hq1 : szQ a b ≤ 4611686018427387904 ∨ szR a b = 0 := by
    by_cases h2 : 2 ≤ absI b
    · exact .inl (f7 h2)
    · exact .inr (f8 (by omega)).1
  have HA := Lib.hid ha
  have HB := Lib.hid hb
  have HBA := Lib.hid hba
  have F6 := Lib.hid f6
  have H0 := Lib.hid h
  have HQ1 := Lib.hid hq1
  clear ha hb f6 f7 f8 h hba hq1
  by_cases sa : a < 0 <;> by_cases sb : b < 0
  · rw [if_pos sa] at htm
    have da : decide (a < 0) = true := by simp; omega
    have db : decide (b < 0) = true := by simp; omega
    have ea : absI a = -a := by unfold absI; omega
    have eb : absI b = -b := by unfold absI; omega
    have EA := Lib.hid ea
    have EB := Lib.hid eb
    clear ea eb
    by_cases hr : szR a b = 0
    · have r1 : (szR a b != 0) = false := by simp [hr]
      have r2 : (-szR a b != 0) = false := by simp [hr]
      have r3 : decide (0 < szR a b) = false := by simp; omega
      have m2 : absI a ≤ szQ a b * absI b := by have := F6.out; omega
      have hq2 := HQ1.out
      have HR := Lib.hid hr
      clear hq2
      have hQ : quoF a b = szQ a b := by unfold quoF; rw [if_pos (by simp; omega)]
      by_cases ho : szQ a b ≤ 9223372036854775807
      · have s1 : sgn1 (szQ a b) false = szQ a b := by unfold sgn1; simp only [Bool.false_eq_true, if_false, if_true]; omega
        have s2 : sgnOk (szQ a b) false = true := by unfold sgnOk; simp; try omega
        have HV : Hid (fitV (quoF a b) = szQ a b) := by rw [hQ]; unfold Hid fitV; omega
        have HE : Hid (fitB (quoF a b) = true) := by rw [hQ]; unfold Hid fitB; simp; try omega
        clear hQ hr
        go_enter Try.func19, Try.ntmps19
        go_wp2_with (first | (go_at_call 41; (with_reducible refine (ref_Size _ _ HA.out).mono ?_); rintro e w' ⟨rfl, rfl⟩) | (go_at_call 41; (with_reducible refine (ref_Size _ _ HB.out).mono ?_); rintro e w' ⟨rfl, rfl⟩) | (go_at_call 62; (with_reducible refine (ref_signed _ _ _ (by omega) (by omega)).mono ?_); rintro e w' ⟨rfl, rfl⟩))
        go_ret2
        exact ⟨ret_ib (by rw [HV.out]) (by rw [HE.out]), rfl⟩
      · have s1 : sgn1 (szQ a b) false = 0 := by unfold sgn1; simp only [Bool.false_eq_true, if_false, if_true]; omega
        have s2 : sgnOk (szQ a b) false = false := by unfold sgnOk; simp; try omega
        have HV : Hid (fitV (quoF a b) = 0) := by rw [hQ]; unfold Hid fitV; omega
        have HE : Hid (fitB (quoF a b) = false) := by rw [hQ]; unfold Hid fitB; simp; try omega
        clear hQ hr
        go_enter Try.func19, Try.ntmps19
        go_wp2_with (first | (go_at_call 41; (with_reducible refine (ref_Size _ _ HA.out).mono ?_); rintro e w' ⟨rfl, rfl⟩) | (go_at_call 41; (with_reducible refine (ref_Size _ _ HB.out).mono ?_); rintro e w' ⟨rfl, rfl⟩) | (go_at_call 62; (with_reducible refine (ref_signed _ _ _ (by omega) (by omega)).mono ?_); rintro e w' ⟨rfl, rfl⟩))
        go_ret2
        exact ⟨ret_ib (by rw [HV.out]) (by rw [HE.out]), rfl⟩
    · have r1 : (szR a b != 0) = true := by simp [hr]
      have r2 : (-szR a b != 0) = true := by simp [hr]
      have r3 : decide (0 < szR a b) = true := by simp; omega
      have m2 : szQ a b * absI b < absI a := by have := F6.out; omega
      have hq2 := HQ1.out
      have hq3 : szQ a b ≤ 4611686018427387904 := by omega
      have r4 : 1 ≤ szR a b := by omega
      have HR := Lib.hid hr
      clear hq2
      have hQ : quoF a b = szQ a b := by unfold quoF; rw [if_pos (by simp; omega)]
      have s1 : sgn1 (szQ a b) false = szQ a b := by unfold sgn1; simp only [Bool.false_eq_true, if_false, if_true]; omega
      have s2 : sgnOk (szQ a b) false = true := by unfold sgnOk; simp; try omega
      have HV : Hid (fitV (quoF a b) = szQ a b) := by rw [hQ]; unfold Hid fitV; omega
      have HE : Hid (fitB (quoF a b) = true) := by rw [hQ]; unfold Hid fitB; simp; try omega
      clear hQ hr
      go_enter Try.func19, Try.ntmps19
      go_wp2_with (first | (go_at_call 41; (with_reducible refine (ref_Size _ _ HA.out).mono ?_); rintro e w' ⟨rfl, rfl⟩) | (go_at_call 41; (with_reducible refine (ref_Size _ _ HB.out).mono ?_); rintro e w' ⟨rfl, rfl⟩) | (go_at_call 62; (with_reducible refine (ref_signed _ _ _ (by omega) (by omega)).mono ?_); rintro e w' ⟨rfl, rfl⟩))
      go_ret2
      exact ⟨ret_ib (by rw [HV.out]) (by rw [HE.out]), rfl⟩
  · rw [if_pos sa] at htm
    have da : decide (a < 0) = true := by simp; omega
    have db : decide (b < 0) = false := by simp; omega
    have ea : absI a = -a := by unfold absI; omega
    have eb : absI b = b := by unfold absI; omega
    have EA := Lib.hid ea
    have EB := Lib.hid eb
    clear ea eb
    by_cases hr : szR a b = 0
    · have r1 : (szR a b != 0) = false := by simp [hr]
      have r2 : (-szR a b != 0) = false := by simp [hr]
      have r3 : decide (0 < szR a b) = false := by simp; omega
      have m2 : absI a ≤ szQ a b * absI b := by have := F6.out; omega
      have hq2 := HQ1.out
      have HR := Lib.hid hr
      clear hq2
      have hQ : quoF a b = -szQ a b := by unfold quoF; rw [if_neg (by simp; omega), if_pos HR.out]
      have s1 : sgn1 (szQ a b) true = -szQ a b := by unfold sgn1; simp only [Bool.false_eq_true, if_false, if_true]; omega
      have s2 : sgnOk (szQ a b) true = true := by unfold sgnOk; simp; try omega
      have HV : Hid (fitV (quoF a b) = -szQ a b) := by rw [hQ]; unfold Hid fitV; omega
      have HE : Hid (fitB (quoF a b) = true) := by rw [hQ]; unfold Hid fitB; simp; try omega
      clear hQ hr
      go_enter Try.func19, Try.ntmps19
      go_wp2_with (first | (go_at_call 41; (with_reducible refine (ref_Size _ _ HA.out).mono ?_); rintro e w' ⟨rfl, rfl⟩) | (go_at_call 41; (with_reducible refine (ref_Size _ _ HB.out).mono ?_); rintro e w' ⟨rfl, rfl⟩) | (go_at_call 62; (with_reducible refine (ref_signed _ _ _ (by omega) (by omega)).mono ?_); rintro e w' ⟨rfl, rfl⟩))
      go_ret2
      exact ⟨ret_ib (by rw [HV.out]) (by rw [HE.out]), rfl⟩
    · have r1 : (szR a b != 0) = true := by simp [hr]
      have r2 : (-szR a b != 0) = true := by simp [hr]
      have r3 : decide (0 < szR a b) = true := by simp; omega
      have m2 : szQ a b * absI b < absI a := by have := F6.out; omega
      have hq2 := HQ1.out
      have hq3 : szQ a b ≤ 4611686018427387904 := by omega
      have r4 : 1 ≤ szR a b := by omega
      have HR := Lib.hid hr
      clear hq2
      have hQ : quoF a b = -szQ a b - 1 := by unfold quoF; rw [if_neg (by simp; omega), if_neg HR.out]
      have s1 : sgn1 (szQ a b + 1) true = -szQ a b - 1 := by unfold sgn1; simp only [Bool.false_eq_true, if_false, if_true]; omega
      have s2 : sgnOk (szQ a b + 1) true = true := by unfold sgnOk; simp; try omega
      have HV : Hid (fitV (quoF a b) = -szQ a b - 1) := by rw [hQ]; unfold Hid fitV; omega
      have HE : Hid (fitB (quoF a b) = true) := by rw [hQ]; unfold Hid fitB; simp; try omega
      clear hQ hr
      go_enter Try.func19, Try.ntmps19
      go_wp2_with (first | (go_at_call 41; (with_reducible refine (ref_Size _ _ HA.out).mono ?_); rintro e w' ⟨rfl, rfl⟩) | (go_at_call 41; (with_reducible refine (ref_Size _ _ HB.out).mono ?_); rintro e w' ⟨rfl, rfl⟩) | (go_at_call 62; (with_reducible refine (ref_signed _ _ _ (by omega) (by omega)).mono ?_); rintro e w' ⟨rfl, rfl⟩))
      go_ret2
      exact ⟨ret_ib (by rw [HV.out]) (by rw [HE.out]), rfl⟩
  · rw [if_neg sa] at htm
    have da : decide (a < 0) = false := by simp; omega
    have db : decide (b < 0) = true := by simp; omega
    have ea : absI a = a := by unfold absI; omega
    have eb : absI b = -b := by unfold absI; omega
    have EA := Lib.hid ea
    have EB := Lib.hid eb
    clear ea eb
    by_cases hr : szR a b = 0
    · have r1 : (szR a b != 0) = false := by simp [hr]
      have r2 : (-szR a b != 0) = false := by simp [hr]
      have r3 : decide (0 < szR a b) = false := by simp; omega
      have m2 : absI a ≤ szQ a b * absI b := by have := F6.out; omega
      have hq2 := HQ1.out
      have HR := Lib.hid hr
      clear hq2
      have hQ : quoF a b = -szQ a b := by unfold quoF; rw [if_neg (by simp; omega), if_pos HR.out]
      have s1 : sgn1 (szQ a b) true = -szQ a b := by unfold sgn1; simp only [Bool.false_eq_true, if_false, if_true]; omega
      have s2 : sgnOk (szQ a b) true = true := by unfold sgnOk; simp; try omega
      have HV : Hid (fitV (quoF a b) = -szQ a b) := by rw [hQ]; unfold Hid fitV; omega
      have HE : Hid (fitB (quoF a b) = true) := by rw [hQ]; unfold Hid fitB; simp; try omega
      clear hQ hr
      go_enter Try.func19, Try.ntmps19
      go_wp2_with (first | (go_at_call 41; (with_reducible refine (ref_Size _ _ HA.out).mono ?_); rintro e w' ⟨rfl, rfl⟩) | (go_at_call 41; (with_reducible refine (ref_Size _ _ HB.out).mono ?_); rintro e w' ⟨rfl, rfl⟩) | (go_at_call 62; (with_reducible refine (ref_signed _ _ _ (by omega) (by omega)).mono ?_); rintro e w' ⟨rfl, rfl⟩))
      go_ret2
      exact ⟨ret_ib (by rw [HV.out]) (by rw [HE.out]), rfl⟩
    · have r1 : (szR a b != 0) = true := by simp [hr]
      have r2 : (-szR a b != 0) = true := by simp [hr]
      have r3 : decide (0 < szR a b) = true := by simp; omega
      have m2 : szQ a b * absI b < absI a := by have := F6.out; omega
      have hq2 := HQ1.out
      have hq3 : szQ a b ≤ 4611686018427387904 := by omega
      have r4 : 1 ≤ szR a b := by omega
      have HR := Lib.hid hr
      clear hq2
      have hQ : quoF a b = -szQ a b - 1 := by unfold quoF; rw [if_neg (by simp; omega), if_neg HR.out]
      have s1 : sgn1 (szQ a b + 1) true = -szQ a b - 1 := by unfold sgn1; simp only [Bool.false_eq_true, if_false, if_true]; omega
      have s2 : sgnOk (szQ a b + 1) true = true := by unfold sgnOk; simp; try omega
      have HV : Hid (fitV (quoF a b) = -szQ a b - 1) := by rw [hQ]; unfold Hid fitV; omega
      have HE : Hid (fitB (quoF a b) = true) := by rw [hQ]; unfold Hid fitB; simp; try omega
      clear hQ hr
      go_enter Try.func19, Try.ntmps19
      go_wp2_with (first | (go_at_call 41; (with_reducible refine (ref_Size _ _ HA.out).mono ?_); rintro e w' ⟨rfl, rfl⟩) | (go_at_call 41; (with_reducible refine (ref_Size _ _ HB.out).mono ?_); rintro e w' ⟨rfl, rfl⟩) | (go_at_call 62; (with_reducible refine (ref_signed _ _ _ (by omega) (by omega)).mono ?_); rintro e w' ⟨rfl, rfl⟩))
      go_ret2
      exact ⟨ret_ib (by rw [HV.out]) (by rw [HE.out]), rfl⟩
  · rw [if_neg sa] at htm
    have da : decide (a < 0) = false := by simp; omega
    have db : decide (b < 0) = false := by simp; omega
    have ea : absI a = a := by unfold absI; omega
    have eb : absI b = b := by unfold absI; omega
    have EA := Lib.hid ea
    have EB := Lib.hid eb
    clear ea eb
    by_cases hr : szR a b = 0
    · have r1 : (szR a b != 0) = false := by simp [hr]
      have r2 : (-szR a b != 0) = false := by simp [hr]
      have r3 : decide (0 < szR a b) = false := by simp; omega
      have m2 : absI a ≤ szQ a b * absI b := by have := F6.out; omega
      have hq2 := HQ1.out
      have HR := Lib.hid hr
      clear hq2
      have hQ : quoF a b = szQ a b := by unfold quoF; rw [if_pos (by simp; omega)]
      by_cases ho : szQ a b ≤ 9223372036854775807
      · have s1 : sgn1 (szQ a b) false = szQ a b := by unfold sgn1; simp only [Bool.false_eq_true, if_false, if_true]; omega
        have s2 : sgnOk (szQ a b) false = true := by unfold sgnOk; simp; try omega
        have HV : Hid (fitV (quoF a b) = szQ a b) := by rw [hQ]; unfold Hid fitV; omega
        have HE : Hid (fitB (quoF a b) = true) := by rw [hQ]; unfold Hid fitB; simp; try omega
        clear hQ hr
        go_enter Try.func19, Try.ntmps19
        go_wp2_with (first | (go_at_call 41; (with_reducible refine (ref_Size _ _ HA.out).mono ?_); rintro e w' ⟨rfl, rfl⟩) | (go_at_call 41; (with_reducible refine (ref_Size _ _ HB.out).mono ?_); rintro e w' ⟨rfl, rfl⟩) | (go_at_call 62; (with_reducible refine (ref_signed _ _ _ (by omega) (by omega)).mono ?_); rintro e w' ⟨rfl, rfl⟩))
        go_ret2
        exact ⟨ret_ib (by rw [HV.out]) (by rw [HE.out]), rfl⟩
      · have s1 : sgn1 (szQ a b) false = 0 := by unfold sgn1; simp only [Bool.false_eq_true, if_false, if_true]; omega
        have s2 : sgnOk (szQ a b) false = false := by unfold sgnOk; simp; try omega
        have HV : Hid (fitV (quoF a b) = 0) := by rw [hQ]; unfold Hid fitV; omega
        have HE : Hid (fitB (quoF a b) = false) := by rw [hQ]; unfold Hid fitB; simp; try omega
        clear hQ hr
        go_enter Try.func19, Try.ntmps19
        go_wp2_with (first | (go_at_call 41; (with_reducible refine (ref_Size _ _ HA.out).mono ?_); rintro e w' ⟨rfl, rfl⟩) | (go_at_call 41; (with_reducible refine (ref_Size _ _ HB.out).mono ?_); rintro e w' ⟨rfl, rfl⟩) | (go_at_call 62; (with_reducible refine (ref_signed _ _ _ (by omega) (by omega)).mono ?_); rintro e w' ⟨rfl, rfl⟩))
        go_ret2
        exact ⟨ret_ib (by rw [HV.out]) (by rw [HE.out]), rfl⟩
    · have r1 : (szR a b != 0) = true := by simp [hr]
      have r2 : (-szR a b != 0) = true := by simp [hr]
      have r3 : decide (0 < szR a b) = true := by simp; omega
      have m2 : szQ a b * absI b < absI a := by have := F6.out; omega
      have hq2 := HQ1.out
      have hq3 : szQ a b ≤ 4611686018427387904 := by omega
      have r4 : 1 ≤ szR a b := by omega
      have HR := Lib.hid hr
      clear hq2
      have hQ : quoF a b = szQ a b := by unfold quoF; rw [if_pos (by simp; omega)]
      have s1 : sgn1 (szQ a b) false = szQ a b := by unfold sgn1; simp only [Bool.false_eq_true, if_false, if_true]; omega
      have s2 : sgnOk (szQ a b) false = true := by unfold sgnOk; simp; try omega
      have HV : Hid (fitV (quoF a b) = szQ a b) := by rw [hQ]; unfold Hid fitV; omega
      have HE : Hid (fitB (quoF a b) = true) := by rw [hQ]; unfold Hid fitB; simp; try omega
      clear hQ hr
      go_enter Try.func19, Try.ntmps19
      go_wp2_with (first | (go_at_call 41; (with_reducible refine (ref_Size _ _ HA.out).mono ?_); rintro e w' ⟨rfl, rfl⟩) | (go_at_call 41; (with_reducible refine (ref_Size _ _ HB.out).mono ?_); rintro e w' ⟨rfl, rfl⟩) | (go_at_call 62; (with_reducible refine (ref_signed _ _ _ (by omega) (by omega)).mono ?_); rintro e w' ⟨rfl, rfl⟩))
      go_ret2
      exact ⟨ret_ib (by rw [HV.out]) (by rw [HE.out]), rfl⟩

set_option maxHeartbeats 1000000 in
theorem ref_Ceil (a b : Int) (w : World) (ha : I64 a) (hb : I64 b) (h : b ≠ 0) : Calls Try.prog 20 #[.int .i64 a, .int .i64 b] w fun e w' => e = .returned (.tuple #[.int .i64 (fitV (quoC a b)), .bool (fitB (quoC a b))]) ∧ w = w' := by
  obtain ⟨f1, f2, f3, f4, f5, f6, f7, f8⟩ := sz_facts ha hb h
  obtain ⟨A0, A1⟩ := absI_bd ha
  obtain ⟨B0, B1⟩ := absI_bd hb
  have htm := tmod_sz a b
  have hq : absI a / absI b = szQ a b := rfl
  have hrr : absI a % absI b = szR a b := rfl
  have hbz : (b == 0) = false := by simp [h]
  have m0 : 0 ≤ szQ a b * absI b := Int.mul_nonneg f2 B0
  have m1 : szQ a b * absI b ≤ absI a := by omega
  have hba : (a < 0 → absI a = -a) ∧ (0 ≤ a → absI a = a) ∧ (b < 0 → absI b = -b) ∧ (0 ≤ b → absI b = b) := by unfold absI; omega
  have hq1 : szQ a b ≤ 4611686018427387904 ∨ szR a b = 0 := by
    by_cases h2 : 2 ≤ absI b
    · exact .inl (f7 h2)
    · exact .inr (f8 (by omega)).1
  have HA := Lib.hid ha
  have HB := Lib.hid hb
  have HBA := Lib.hid hba
  have F6 := Lib.hid f6
  have H0 := Lib.hid h
  have HQ1 := Lib.hid hq1
  clear ha hb f6 f7 f8 h hba hq1
  by_cases sa : a < 0 <;> by_cases sb : b < 0
  · rw [if_pos sa] at htm
    have da : decide (a < 0) = true := by simp; omega
    have db : decide (b < 0) = true := by simp; omega
    have ea : absI a = -a := by unfold absI; omega
    have eb : absI b = -b := by unfold absI; omega
    have EA := Lib.hid ea
    have EB := Lib.hid eb
    clear ea eb
    by_cases hr : szR a b = 0
    · have r1 : (szR a b != 0) = false := by simp [hr]
      have r2 : (-szR a b != 0) = false := by simp [hr]
      have r3 : decide (0 < szR a b) = false := by simp; omega
      have m2 : absI a ≤ szQ a b * absI b := by have := F6.out; omega
      have hq2 := HQ1.out
      have HR := Lib.hid hr
      clear hq2
      have hF : quoF a b = szQ a b := by unfold quoF; rw [if_pos (by simp; omega)]
      have hQ : quoC a b = szQ a b := by unfold quoC; rw [hF, if_pos HR.out]
      clear hF
      by_cases ho : szQ a b ≤ 9223372036854775807
      · have s1 : sgn1 (szQ a b) false = szQ a b := by unfold sgn1; simp only [Bool.false_eq_true, if_false, if_true]; omega
        have s2 : sgnOk (szQ a b) false = true := by unfold sgnOk; simp; try omega
        have HV : Hid (fitV (quoC a b) = szQ a b) := by rw [hQ]; unfold Hid fitV; omega
        have HE : Hid (fitB (quoC a b) = true) := by rw [hQ]; unfold Hid fitB; simp; try omega
        clear hQ hr
        go_enter Try.func20, Try.ntmps20
        go_wp2_with (first | (go_at_call 41; (with_reducible refine (ref_Size _ _ HA.out).mono ?_); rintro e w' ⟨rfl, rfl⟩) | (go_at_call 41; (with_reducible refine (ref_Size _ _ HB.out).mono ?_); rintro e w' ⟨rfl, rfl⟩) | (go_at_call 62; (with_reducible refine (ref_signed _ _ _ (by omega) (by omega)).mono ?_); rintro e w' ⟨rfl, rfl⟩))
        go_ret2
        exact ⟨ret_ib (by rw [HV.out]) (by rw [HE.out]), rfl⟩
      · have s1 : sgn1 (szQ a b) false = 0 := by unfold sgn1; simp only [Bool.false_eq_true, if_false, if_true]; omega
        have s2 : sgnOk (szQ a b) false = false := by unfold sgnOk; simp; try omega
        have HV : Hid (fitV (quoC a b) = 0) := by rw [hQ]; unfold Hid fitV; omega
        have HE : Hid (fitB (quoC a b) = false) := by rw [hQ]; unfold Hid fitB; simp; try omega
        clear hQ hr
        go_enter Try.func20, Try.ntmps20
        go_wp2_with (first | (go_at_call 41; (with_reducible refine (ref_Size _ _ HA.out).mono ?_); rintro e w' ⟨rfl, rfl⟩) | (go_at_call 41; (with_reducible refine (ref_Size _ _ HB.out).mono ?_); rintro e w' ⟨rfl, rfl⟩) | (go_at_call 62; (with_reducible refine (ref_signed _ _ _ (by omega) (by omega)).mono ?_); rintro e w' ⟨rfl, rfl⟩))
        go_ret2
        exact ⟨ret_ib (by rw [HV.out]) (by rw [HE.out]), rfl⟩
    · have r1 : (szR a b != 0) = true := by simp [hr]
      have r2 : (-szR a b != 0) = true := by simp [hr]
      have r3 : decide (0 < szR a b) = true := by simp; omega
      have m2 : szQ a b * absI b < absI a := by have := F6.out; omega
      have hq2 := HQ1.out
      have hq3 : szQ a b ≤ 4611686018427387904 := by omega
      have r4 : 1 ≤ szR a b := by omega
      have HR := Lib.hid hr
      clear hq2
      have hF : quoF a b = szQ a b := by unfold quoF; rw [if_pos (by simp; omega)]
      have hQ : quoC a b = szQ a b + 1 := by unfold quoC; rw [hF, if_neg HR.out]
      clear hF
      have s1 : sgn1 (szQ a b + 1) false = szQ a b + 1 := by unfold sgn1; simp only [Bool.false_eq_true, if_false, if_true]; omega
      have s2 : sgnOk (szQ a b + 1) false = true := by unfold sgnOk; simp; try omega
      have HV : Hid (fitV (quoC a b) = szQ a b + 1) := by rw [hQ]; unfold Hid fitV; omega
      have HE : Hid (fitB (quoC a b) = true) := by rw [hQ]; unfold Hid fitB; simp; try omega
      clear hQ hr
      go_enter Try.func20, Try.ntmps20
      go_wp2_with (first | (go_at_call 41; (with_reducible refine (ref_Size _ _ HA.out).mono ?_); rintro e w' ⟨rfl, rfl⟩) | (go_at_call 41; (with_reducible refine (ref_Size _ _ HB.out).mono ?_); rintro e w' ⟨rfl, rfl⟩) | (go_at_call 62; (with_reducible refine (ref_signed _ _ _ (by omega) (by omega)).mono ?_); rintro e w' ⟨rfl, rfl⟩))
      go_ret2
      exact ⟨ret_ib (by rw [HV.out]) (by rw [HE.out]), rfl⟩
  · rw [if_pos sa] at htm
    have da : decide (a < 0) = true := by simp; omega
    have db : decide (b < 0) = false := by simp; omega
    have ea : absI a = -a := by unfold absI; omega
    have eb : absI b = b := by unfold absI; omega
    have EA := Lib.hid ea
    have EB := Lib.hid eb
    clear ea eb
    by_cases hr : szR a b = 0
    · have r1 : (szR a b != 0) = false := by simp [hr]
      have r2 : (-szR a b != 0) = false := by simp [hr]
      have r3 : decide (0 < szR a b) = false := by simp; omega
      have m2 : absI a ≤ szQ a b * absI b := by have := F6.out; omega
      have hq2 := HQ1.out
      have HR := Lib.hid hr
      clear hq2
      have hF : quoF a b = -szQ a b := by unfold quoF; rw [if_neg (by simp; omega), if_pos HR.out]
      have hQ : quoC a b = -szQ a b := by unfold quoC; rw [hF, if_pos HR.out]
      clear hF
      have s1 : sgn1 (szQ a b) true = -szQ a b := by unfold sgn1; simp only [Bool.false_eq_true, if_false, if_true]; omega
      have s2 : sgnOk (szQ a b) true = true := by unfold sgnOk; simp; try omega
      have HV : Hid (fitV (quoC a b) = -szQ a b) := by rw [hQ]; unfold Hid fitV; omega
      have HE : Hid (fitB (quoC a b) = true) := by rw [hQ]; unfold Hid fitB; simp; try omega
      clear hQ hr
      go_enter Try.func20, Try.ntmps20
      go_wp2_with (first | (go_at_call 41; (with_reducible refine (ref_Size _ _ HA.out).mono ?_); rintro e w' ⟨rfl, rfl⟩) | (go_at_call 41; (with_reducible refine (ref_Size _ _ HB.out).mono ?_); rintro e w' ⟨rfl, rfl⟩) | (go_at_call 62; (with_reducible refine (ref_signed _ _ _ (by omega) (by omega)).mono ?_); rintro e w' ⟨rfl, rfl⟩))
      go_ret2
      exact ⟨ret_ib (by rw [HV.out]) (by rw [HE.out]), rfl⟩
    · have r1 : (szR a b != 0) = true := by simp [hr]
      have r2 : (-szR a b != 0) = true := by simp [hr]
      have r3 : decide (0 < szR a b) = true := by simp; omega
      have m2 : szQ a b * absI b < absI a := by have := F6.out; omega
      have hq2 := HQ1.out
      have hq3 : szQ a b ≤ 4611686018427387904 := by omega
      have r4 : 1 ≤ szR a b := by omega
      have HR := Lib.hid hr
      clear hq2
      have hF : quoF a b = -szQ a b - 1 := by unfold quoF; rw [if_neg (by simp; omega), if_neg HR.out]
      have hQ : quoC a b = -szQ a b := by unfold quoC; rw [hF, if_neg HR.out]; omega
      clear hF
      have s1 : sgn1 (szQ a b) true = -szQ a b := by unfold sgn1; simp only [Bool.false_eq_true, if_false, if_true]; omega
      have s2 : sgnOk (szQ a b) true = true := by unfold sgnOk; simp; try omega
      have HV : Hid (fitV (quoC a b) = -szQ a b) := by rw [hQ]; unfold Hid fitV; omega
      have HE : Hid (fitB (quoC a b) = true) := by rw [hQ]; unfold Hid fitB; simp; try omega
      clear hQ hr
      go_enter Try.func20, Try.ntmps20
      go_wp2_with (first | (go_at_call 41; (with_reducible refine (ref_Size _ _ HA.out).mono ?_); rintro e w' ⟨rfl, rfl⟩) | (go_at_call 41; (with_reducible refine (ref_Size _ _ HB.out).mono ?_); rintro e w' ⟨rfl, rfl⟩) | (go_at_call 62; (with_reducible refine (ref_signed _ _ _ (by omega) (by omega)).mono ?_); rintro e w' ⟨rfl, rfl⟩))
      go_ret2
      exact ⟨ret_ib (by rw [HV.out]) (by rw [HE.out]), rfl⟩
  · rw [if_neg sa] at htm
    have da : decide (a < 0) = false := by simp; omega
    have db : decide (b < 0) = true := by simp; omega
    have ea : absI a = a := by unfold absI; omega
    have eb : absI b = -b := by unfold absI; omega
    have EA := Lib.hid ea
    have EB := Lib.hid eb
    clear ea eb
    by_cases hr : szR a b = 0
    · have r1 : (szR a b != 0) = false := by simp [hr]
      have r2 : (-szR a b != 0) = false := by simp [hr]
      have r3 : decide (0 < szR a b) = false := by simp; omega
      have m2 : absI a ≤ szQ a b * absI b := by have := F6.out; omega
      have hq2 := HQ1.out
      have HR := Lib.hid hr
      clear hq2
      have hF : quoF a b = -szQ a b := by unfold quoF; rw [if_neg (by simp; omega), if_pos HR.out]
      have hQ : quoC a b = -szQ a b := by unfold quoC; rw [hF, if_pos HR.out]
      clear hF
      have s1 : sgn1 (szQ a b) true = -szQ a b := by unfold sgn1; simp only [Bool.false_eq_true, if_false, if_true]; omega
      have s2 : sgnOk (szQ a b) true = true := by unfold sgnOk; simp; try omega
      have HV : Hid (fitV (quoC a b) = -szQ a b) := by rw [hQ]; unfold Hid fitV; omega
      have HE : Hid (fitB (quoC a b) = true) := by rw [hQ]; unfold Hid fitB; simp; try omega
      clear hQ hr
      go_enter Try.func20, Try.ntmps20
      go_wp2_with (first | (go_at_call 41; (with_reducible refine (ref_Size _ _ HA.out).mono ?_); rintro e w' ⟨rfl, rfl⟩) | (go_at_call 41; (with_reducible refine (ref_Size _ _ HB.out).mono ?_); rintro e w' ⟨rfl, rfl⟩) | (go_at_call 62; (with_reducible refine (ref_signed _ _ _ (by omega) (by omega)).mono ?_); rintro e w' ⟨rfl, rfl⟩))
      go_ret2
      exact ⟨ret_ib (by rw [HV.out]) (by rw [HE.out]), rfl⟩
    · have r1 : (szR a b != 0) = true := by simp [hr]
      have r2 : (-szR a b != 0) = true := by simp [hr]
      have r3 : decide (0 < szR a b) = true := by simp; omega
      have m2 : szQ a b * absI b < absI a := by have := F6.out; omega
      have hq2 := HQ1.out
      have hq3 : szQ a b ≤ 4611686018427387904 := by omega
      have r4 : 1 ≤ szR a b := by omega
      have HR := Lib.hid hr
      clear hq2
      have hF : quoF a b = -szQ a b - 1 := by unfold quoF; rw [if_neg (by simp; omega), if_neg HR.out]
      have hQ : quoC a b = -szQ a b := by unfold quoC; rw [hF, if_neg HR.out]; omega
      clear hF
      have s1 : sgn1 (szQ a b) true = -szQ a b := by unfold sgn1; simp only [Bool.false_eq_true, if_false, if_true]; omega
      have s2 : sgnOk (szQ a b) true = true := by unfold sgnOk; simp; try omega
      have HV : Hid (fitV (quoC a b) = -szQ a b) := by rw [hQ]; unfold Hid fitV; omega
      have HE : Hid (fitB (quoC a b) = true) := by rw [hQ]; unfold Hid fitB; simp; try omega
      clear hQ hr
      go_enter Try.func20, Try.ntmps20
      go_wp2_with (first | (go_at_call 41; (with_reducible refine (ref_Size _ _ HA.out).mono ?_); rintro e w' ⟨rfl, rfl⟩) | (go_at_call 41; (with_reducible refine (ref_Size _ _ HB.out).mono ?_); rintro e w' ⟨rfl, rfl⟩) | (go_at_call 62; (with_reducible refine (ref_signed _ _ _ (by omega) (by omega)).mono ?_); rintro e w' ⟨rfl, rfl⟩))
      go_ret2
      exact ⟨ret_ib (by rw [HV.out]) (by rw [HE.out]), rfl⟩
  · rw [if_neg sa] at htm
    have da : decide (a < 0) = false := by simp; omega
    have db : decide (b < 0) = false := by simp; omega
    have ea : absI a = a := by unfold absI; omega
    have eb : absI b = b := by unfold absI; omega
    have EA := Lib.hid ea
    have EB := Lib.hid eb
    clear ea eb
    by_cases hr : szR a b = 0
    · have r1 : (szR a b != 0) = false := by simp [hr]
      have r2 : (-szR a b != 0) = false := by simp [hr]
      have r3 : decide (0 < szR a b) = false := by simp; omega
      have m2 : absI a ≤ szQ a b * absI b := by have := F6.out; omega
      have hq2 := HQ1.out
      have HR := Lib.hid hr
      clear hq2
      have hF : quoF a b = szQ a b := by unfold quoF; rw [if_pos (by simp; omega)]
      have hQ : quoC a b = szQ a b := by unfold quoC; rw [hF, if_pos HR.out]
      clear hF
      by_cases ho : szQ a b ≤ 9223372036854775807
      · have s1 : sgn1 (szQ a b) false = szQ a b := by unfold sgn1; simp only [Bool.false_eq_true, if_false, if_true]; omega
        have s2 : sgnOk (szQ a b) false = true := by unfold sgnOk; simp; try omega
        have HV : Hid (fitV (quoC a b) = szQ a b) := by rw [hQ]; unfold Hid fitV; omega
        have HE : Hid (fitB (quoC a b) = true) := by rw [hQ]; unfold Hid fitB; simp; try omega
        clear hQ hr
        go_enter Try.func20, Try.ntmps20
        go_wp2_with (first | (go_at_call 41; (with_reducible refine (ref_Size _ _ HA.out).mono ?_); rintro e w' ⟨rfl, rfl⟩) | (go_at_call 41; (with_reducible refine (ref_Size _ _ HB.out).mono ?_); rintro e w' ⟨rfl, rfl⟩) | (go_at_call 62; (with_reducible refine (ref_signed _ _ _ (by omega) (by omega)).mono ?_); rintro e w' ⟨rfl, rfl⟩))
        go_ret2
        exact ⟨ret_ib (by rw [HV.out]) (by rw [HE.out]), rfl⟩
      · have s1 : sgn1 (szQ a b) false = 0 := by unfold sgn1; simp only [Bool.false_eq_true, if_false, if_true]; omega
        have s2 : sgnOk (szQ a b) false = false := by unfold sgnOk; simp; try omega
        have HV : Hid (fitV (quoC a b) = 0) := by rw [hQ]; unfold Hid fitV; omega
        have HE : Hid (fitB (quoC a b) = false) := by rw [hQ]; unfold Hid fitB; simp; try omega
        clear hQ hr
        go_enter Try.func20, Try.ntmps20
        go_wp2_with (first | (go_at_call 41; (with_reducible refine (ref_Size _ _ HA.out).mono ?_); rintro e w' ⟨rfl, rfl⟩) | (go_at_call 41; (with_reducible refine (ref_Size _ _ HB.out).mono ?_); rintro e w' ⟨rfl, rfl⟩) | (go_at_call 62; (with_reducible refine (ref_signed _ _ _ (by omega) (by omega)).mono ?_); rintro e w' ⟨rfl, rfl⟩))
        go_ret2
        exact ⟨ret_ib (by rw [HV.out]) (by rw [HE.out]), rfl⟩
    · have r1 : (szR a b != 0) = true := by simp [hr]
      have r2 : (-szR a b != 0) = true := by simp [hr]
      have r3 : decide (0 < szR a b) = true := by simp; omega
      have m2 : szQ a b * absI b < absI a := by have := F6.out; omega
      have hq2 := HQ1.out
      have hq3 : szQ a b ≤ 4611686018427387904 := by omega
      have r4 : 1 ≤ szR a b := by omega
      have HR := Lib.hid hr
      clear hq2
      have hF : quoF a b = szQ a b := by unfold quoF; rw [if_pos (by simp; omega)]
      have hQ : quoC a b = szQ a b + 1 := by unfold quoC; rw [hF, if_neg HR.out]
      clear hF
      have s1 : sgn1 (szQ a b + 1) false = szQ a b + 1 := by unfold sgn1; simp only [Bool.false_eq_true, if_false, if_true]; omega
      have s2 : sgnOk (szQ a b + 1) false = true := by unfold sgnOk; simp; try omega
      have HV : Hid (fitV (quoC a b) = szQ a b + 1) := by rw [hQ]; unfold Hid fitV; omega
      have HE : Hid (fitB (quoC a b) = true) := by rw [hQ]; unfold Hid fitB; simp; try omega
      clear hQ hr
      go_enter Try.func20, Try.ntmps20
      go_wp2_with (first | (go_at_call 41; (with_reducible refine (ref_Size _ _ HA.out).mono ?_); rintro e w' ⟨rfl, rfl⟩) | (go_at_call 41; (with_reducible refine (ref_Size _ _ HB.out).mono ?_); rintro e w' ⟨rfl, rfl⟩) | (go_at_call 62; (with_reducible refine (ref_signed _ _ _ (by omega) (by omega)).mono ?_); rintro e w' ⟨rfl, rfl⟩))
      go_ret2
      exact ⟨ret_ib (by rw [HV.out]) (by rw [HE.out]), rfl⟩

set_option maxHeartbeats 1000000 in
theorem ref_Mod (a b : Int) (w : World) (ha : I64 a) (hb : I64 b) (h : b ≠ 0) : Calls Try.prog 22 #[.int .i64 a, .int .i64 b] w fun e w' => e = .returned (.int .i64 (modF a b)) ∧ w = w' := by
  obtain ⟨f1, f2, f3, f4, f5, f6, f7, f8⟩ := sz_facts ha hb h
  obtain ⟨A0, A1⟩ := absI_bd ha
  obtain ⟨B0, B1⟩ := absI_bd hb
  have htm := tmod_sz a b
  have hq : absI a / absI b = szQ a b := rfl
  have hrr : absI a % absI b = szR a b := rfl
  have hbz : (b == 0) = false := by simp [h]
  have m0 : 0 ≤ szQ a b * absI b := Int.mul_nonneg f2 B0
  have m1 : szQ a b * absI b ≤ absI a := by omega
  have hba : (a < 0 → absI a = -a) ∧ (0 ≤ a → absI a = a) ∧ (b < 0 → absI b = -b) ∧ (0 ≤ b → absI b = b) := by unfold absI; omega
  have hq1 : szQ a b ≤ 4611686018427387904 ∨ szR a b = 0 := by
    by_cases h2 : 2 ≤ absI b
    · exact .inl (f7 h2)
    · exact .inr (f8 (by omega)).1
  have HA := Lib.hid ha
  have HB := Lib.hid hb
  have HBA := Lib.hid hba
  have F6 := Lib.hid f6
  have H0 := Lib.hid h
  have HQ1 := Lib.hid hq1
  clear ha hb f6 f7 f8 h hba hq1
  by_cases sa : a < 0 <;> by_cases sb : b < 0
  · rw [if_pos sa] at htm
    have da : decide (a < 0) = true := by simp; omega
    have db : decide (b < 0) = true := by simp; omega
    have ea : absI a = -a := by unfold absI; omega
    have eb : absI b = -b := by unfold absI; omega
    have EA := Lib.hid ea
    have EB := Lib.hid eb
    clear ea eb
    by_cases hr : szR a b = 0
    · have r1 : (szR a b != 0) = false := by simp [hr]
      have r2 : (-szR a b != 0) = false := by simp [hr]
      have r3 : decide (0 < szR a b) = false := by simp; omega
      have m2 : absI a ≤ szQ a b * absI b := by have := F6.out; omega
      have hq2 := HQ1.out
      have HR := Lib.hid hr
      clear hq2
      have hM : modF a b = 0 := by unfold modF; rw [if_pos HR.out]
      have s1 : sgn1 (szR a b) true = 0 := by have := EB.out; unfold sgn1; simp only [Bool.false_eq_true, if_false, if_true]; omega
      have HM := Lib.hid hM
      clear hM hr
      go_enter Try.func22, Try.ntmps22
      go_wp2_with (first | (go_at_call 41; (with_reducible refine (ref_Size _ _ HA.out).mono ?_); rintro e w' ⟨rfl, rfl⟩) | (go_at_call 41; (with_reducible refine (ref_Size _ _ HB.out).mono ?_); rintro e w' ⟨rfl, rfl⟩) | (go_at_call 62; (with_reducible refine (ref_signed _ _ _ (by omega) (by omega)).mono ?_); rintro e w' ⟨rfl, rfl⟩))
      go_ret
      exact ⟨ret_int (by rw [HM.out]), rfl⟩
    · have r1 : (szR a b != 0) = true := by simp [hr]
      have r2 : (-szR a b != 0) = true := by simp [hr]
      have r3 : decide (0 < szR a b) = true := by simp; omega
      have m2 : szQ a b * absI b < absI a := by have := F6.out; omega
      have hq2 := HQ1.out
      have hq3 : szQ a b ≤ 4611686018427387904 := by omega
      have r4 : 1 ≤ szR a b := by omega
      have HR := Lib.hid hr
      clear hq2
      have hM : modF a b = -szR a b := by unfold modF; rw [if_neg HR.out, if_pos (by simp; omega), if_pos (by omega)]
      have s1 : sgn1 (szR a b) true = -szR a b := by have := EB.out; unfold sgn1; simp only [Bool.false_eq_true, if_false, if_true]; omega
      have HM := Lib.hid hM
      clear hM hr
      go_enter Try.func22, Try.ntmps22
      go_wp2_with (first | (go_at_call 41; (with_reducible refine (ref_Size _ _ HA.out).mono ?_); rintro e w' ⟨rfl, rfl⟩) | (go_at_call 41; (with_reducible refine (ref_Size _ _ HB.out).mono ?_); rintro e w' ⟨rfl, rfl⟩) | (go_at_call 62; (with_reducible refine (ref_signed _ _ _ (by omega) (by omega)).mono ?_); rintro e w' ⟨rfl, rfl⟩))
      go_ret
      exact ⟨ret_int (by rw [HM.out]), rfl⟩
  · rw [if_pos sa] at htm
    have da : decide (a < 0) = true := by simp; omega
    have db : decide (b < 0) = false := by simp; omega
    have ea : absI a = -a := by unfold absI; omega
    have eb : absI b = b := by unfold absI; omega
    have EA := Lib.hid ea
    have EB := Lib.hid eb
    clear ea eb
    by_cases hr : szR a b = 0
    · have r1 : (szR a b != 0) = false := by simp [hr]
      have r2 : (-szR a b != 0) = false := by simp [hr]
      have r3 : decide (0 < szR a b) = false := by simp; omega
      have m2 : absI a ≤ szQ a b * absI b := by have := F6.out; omega
      have hq2 := HQ1.out
      have HR := Lib.hid hr
      clear hq2
      have hM : modF a b = 0 := by unfold modF; rw [if_pos HR.out]
      have s1 : sgn1 (szR a b) false = 0 := by have := EB.out; unfold sgn1; simp only [Bool.false_eq_true, if_false, if_true]; omega
      have HM := Lib.hid hM
      clear hM hr
      go_enter Try.func22, Try.ntmps22
      go_wp2_with (first | (go_at_call 41; (with_reducible refine (ref_Size _ _ HA.out).mono ?_); rintro e w' ⟨rfl, rfl⟩) | (go_at_call 41; (with_reducible refine (ref_Size _ _ HB.out).mono ?_); rintro e w' ⟨rfl, rfl⟩) | (go_at_call 62; (with_reducible refine (ref_signed _ _ _ (by omega) (by omega)).mono ?_); rintro e w' ⟨rfl, rfl⟩))
      go_ret
      exact ⟨ret_int (by rw [HM.out]), rfl⟩
    · have r1 : (szR a b != 0) = true := by simp [hr]
      have r2 : (-szR a b != 0) = true := by simp [hr]
      have r3 : decide (0 < szR a b) = true := by simp; omega
      have m2 : szQ a b * absI b < absI a := by have := F6.out; omega
      have hq2 := HQ1.out
      have hq3 : szQ a b ≤ 4611686018427387904 := by omega
      have r4 : 1 ≤ szR a b := by omega
      have HR := Lib.hid hr
      clear hq2
      have hM : modF a b = b - szR a b := by unfold modF; rw [if_neg HR.out, if_neg (by simp; omega), if_pos (by omega)]
      have s1 : sgn1 (absI b - szR a b) false = b - szR a b := by have := EB.out; unfold sgn1; simp only [Bool.false_eq_true, if_false, if_true]; omega
      have HM := Lib.hid hM
      clear hM hr
      go_enter Try.func22, Try.ntmps22
      go_wp2_with (first | (go_at_call 41; (with_reducible refine (ref_Size _ _ HA.out).mono ?_); rintro e w' ⟨rfl, rfl⟩) | (go_at_call 41; (with_reducible refine (ref_Size _ _ HB.out).mono ?_); rintro e w' ⟨rfl, rfl⟩) | (go_at_call 62; (with_reducible refine (ref_signed _ _ _ (by omega) (by omega)).mono ?_); rintro e w' ⟨rfl, rfl⟩))
      go_ret
      exact ⟨ret_int (by rw [HM.out]), rfl⟩
  · rw [if_neg sa] at htm
    have da : decide (a < 0) = false := by simp; omega
    have db : decide (b < 0) = true := by simp; omega
    have ea : absI a = a := by unfold absI; omega
    have eb : absI b = -b := by unfold absI; omega
    have EA := Lib.hid ea
    have EB := Lib.hid eb
    clear ea eb
    by_cases hr : szR a b = 0
    · have r1 : (szR a b != 0) = false := by simp [hr]
      have r2 : (-szR a b != 0) = false := by simp [hr]
      have r3 : decide (0 < szR a b) = false := by simp; omega
      have m2 : absI a ≤ szQ a b * absI b := by have := F6.out; omega
      have hq2 := HQ1.out
      have HR := Lib.hid hr
      clear hq2
      have hM : modF a b = 0 := by unfold modF; rw [if_pos HR.out]
      have s1 : sgn1 (szR a b) true = 0 := by have := EB.out; unfold sgn1; simp only [Bool.false_eq_true, if_false, if_true]; omega
      have HM := Lib.hid hM
      clear hM hr
      go_enter Try.func22, Try.ntmps22
      go_wp2_with (first | (go_at_call 41; (with_reducible refine (ref_Size _ _ HA.out).mono ?_); rintro e w' ⟨rfl, rfl⟩) | (go_at_call 41; (with_reducible refine (ref_Size _ _ HB.out).mono ?_); rintro e w' ⟨rfl, rfl⟩) | (go_at_call 62; (with_reducible refine (ref_signed _ _ _ (by omega) (by omega)).mono ?_); rintro e w' ⟨rfl, rfl⟩))
      go_ret
      exact ⟨ret_int (by rw [HM.out]), rfl⟩
    · have r1 : (szR a b != 0) = true := by simp [hr]
      have r2 : (-szR a b != 0) = true := by simp [hr]
      have r3 : decide (0 < szR a b) = true := by simp; omega
      have m2 : szQ a b * absI b < absI a := by have := F6.out; omega
      have hq2 := HQ1.out
      have hq3 : szQ a b ≤ 4611686018427387904 := by omega
      have r4 : 1 ≤ szR a b := by omega
      have HR := Lib.hid hr
      clear hq2
      have hM : modF a b = szR a b + b := by unfold modF; rw [if_neg HR.out, if_neg (by simp; omega), if_neg (by omega)]
      have s1 : sgn1 (absI b - szR a b) true = szR a b + b := by have := EB.out; unfold sgn1; simp only [Bool.false_eq_true, if_false, if_true]; omega
      have HM := Lib.hid hM
      clear hM hr
      go_enter Try.func22, Try.ntmps22
      go_wp2_with (first | (go_at_call 41; (with_reducible refine (ref_Size _ _ HA.out).mono ?_); rintro e w' ⟨rfl, rfl⟩) | (go_at_call 41; (with_reducible refine (ref_Size _ _ HB.out).mono ?_); rintro e w' ⟨rfl, rfl⟩) | (go_at_call 62; (with_reducible refine (ref_signed _ _ _ (by omega) (by omega)).mono ?_); rintro e w' ⟨rfl, rfl⟩))
      go_ret
      exact ⟨ret_int (by rw [HM.out]), rfl⟩
  · rw [if_neg sa] at htm
    have da : decide (a < 0) = false := by simp; omega
    have db : decide (b < 0) = false := by simp; omega
    have ea : absI a = a := by unfold absI; omega
    have eb : absI b = b := by unfold absI; omega
    have EA := Lib.hid ea
    have EB := Lib.hid eb
    clear ea eb
    by_cases hr : szR a b = 0
    · have r1 : (szR a b != 0) = false := by simp [hr]
      have r2 : (-szR a b != 0) = false := by simp [hr]
      have r3 : decide (0 < szR a b) = false := by simp; omega
      have m2 : absI a ≤ szQ a b * absI b := by have := F6.out; omega
      have hq2 := HQ1.out
      have HR := Lib.hid hr
      clear hq2
      have hM : modF a b = 0 := by unfold modF; rw [if_pos HR.out]
      have s1 : sgn1 (szR a b) false = 0 := by have := EB.out; unfold sgn1; simp only [Bool.false_eq_true, if_false, if_true]; omega
      have HM := Lib.hid hM
      clear hM hr
      go_enter Try.func22, Try.ntmps22
      go_wp2_with (first | (go_at_call 41; (with_reducible refine (ref_Size _ _ HA.out).mono ?_); rintro e w' ⟨rfl, rfl⟩) | (go_at_call 41; (with_reducible refine (ref_Size _ _ HB.out).mono ?_); rintro e w' ⟨rfl, rfl⟩) | (go_at_call 62; (with_reducible refine (ref_signed _ _ _ (by omega) (by omega)).mono ?_); rintro e w' ⟨rfl, rfl⟩))
      go_ret
      exact ⟨ret_int (by rw [HM.out]), rfl⟩
    · have r1 : (szR a b != 0) = true := by simp [hr]
      have r2 : (-szR a b != 0) = true := by simp [hr]
      have r3 : decide (0 < szR a b) = true := by simp; omega
      have m2 : szQ a b * absI b < absI a := by have := F6.out; omega
      have hq2 := HQ1.out
      have hq3 : szQ a b ≤ 4611686018427387904 := by omega
      have r4 : 1 ≤ szR a b := by omega
      have HR := Lib.hid hr
      clear hq2
      have hM : modF a b = szR a b := by unfold modF; rw [if_neg HR.out, if_pos (by simp; omega), if_neg (by omega)]
      have s1 : sgn1 (szR a b) false = szR a b := by have := EB.out; unfold sgn1; simp only [Bool.false_eq_true, if_false, if_true]; omega
      have HM := Lib.hid hM
      clear hM hr
      go_enter Try.func22, Try.ntmps22
      go_wp2_with (first | (go_at_call 41; (with_reducible refine (ref_Size _ _ HA.out).mono ?_); rintro e w' ⟨rfl, rfl⟩) | (go_at_call 41; (with_reducible refine (ref_Size _ _ HB.out).mono ?_); rintro e w' ⟨rfl, rfl⟩) | (go_at_call 62; (with_reducible refine (ref_signed _ _ _ (by omega) (by omega)).mono ?_); rintro e w' ⟨rfl, rfl⟩))
      go_ret
      exact ⟨ret_int (by rw [HM.out]), rfl⟩

set_option maxHeartbeats 1000000 in
theorem nums_Mod (a b : Int) (w : World) (ha : I64 a) (hb : I64 b) (h : b ≠ 0) : Calls Try.prog 17 #[.int .i64 a, .int .i64 b] w fun e w' => e = .returned (.tuple #[.int .i64 (modF a b), .int .i64 0]) ∧ w = w' := by
  obtain ⟨f1, f2, f3, f4, f5, f6, f7, f8⟩ := sz_facts ha hb h
  obtain ⟨A0, A1⟩ := absI_bd ha
  obtain ⟨B0, B1⟩ := absI_bd hb
  have htm := tmod_sz a b
  have hq : absI a / absI b = szQ a b := rfl
  have hrr : absI a % absI b = szR a b := rfl
  have hbz : (b == 0) = false := by simp [h]
  have m0 : 0 ≤ szQ a b * absI b := Int.mul_nonneg f2 B0
  have m1 : szQ a b * absI b ≤ absI a := by omega
  have hba : (a < 0 → absI a = -a) ∧ (0 ≤ a → absI a = a) ∧ (b < 0 → absI b = -b) ∧ (0 ≤ b → absI b = b) := by unfold absI; omega
  have hq1 : szQ a b ≤ 4611686018427387904 ∨ szR a b = 0 := by
    by_cases h2 : 2 ≤ absI b
    · exact .inl (f7 h2)
    · exact .inr (f8 (by omega)).1
  have HA := Lib.hid ha
  have HB := Lib.hid hb
  have HBA := Lib.hid hba
  have F6 := Lib.hid f6
  have H0 := Lib.hid h
  have HQ1 := Lib.hid hq1
  clear ha hb f6 f7 f8 h hba hq1
  by_cases sa : a < 0 <;> by_cases sb : b < 0
  · rw [if_pos sa] at htm
    have da : decide (a < 0) = true := by simp; omega
    have db : decide (b < 0) = true := by simp; omega
    have ea : absI a = -a := by unfold absI; omega
    have eb : absI b = -b := by unfold absI; omega
    have EA := Lib.hid ea
    have EB := Lib.hid eb
    clear ea eb
    by_cases hr : szR a b = 0
    · have r1 : (szR a b != 0) = false := by simp [hr]
      have r2 : (-szR a b != 0) = false := by simp [hr]
      have r3 : decide (0 < szR a b) = false := by simp; omega
      have m2 : absI a ≤ szQ a b * absI b := by have := F6.out; omega
      have hq2 := HQ1.out
      have HR := Lib.hid hr
      clear hq2
      have hM : modF a b = 0 := by unfold modF; rw [if_pos HR.out]
      have r5 : decide (szR a b < 0) = false := by simp; omega
      have r6 : decide (-szR a b < 0) = false := by simp; omega
      have b0 := EB.out
      have b1 : -9223372036854775808 ≤ b ∧ b ≤ 9223372036854775807 := HB.out
      have HM := Lib.hid hM
      clear hM hr b0
      go_enter Try.func17, Try.ntmps17
      go_wp2
      go_ret2
      exact ⟨ret_two (by rw [HM.out]; have := HR.out; omega) rfl, rfl⟩
    · have r1 : (szR a b != 0) = true := by simp [hr]
      have r2 : (-szR a b != 0) = true := by simp [hr]
      have r3 : decide (0 < szR a b) = true := by simp; omega
      have m2 : szQ a b * absI b < absI a := by have := F6.out; omega
      have hq2 := HQ1.out
      have hq3 : szQ a b ≤ 4611686018427387904 := by omega
      have r4 : 1 ≤ szR a b := by omega
      have HR := Lib.hid hr
      clear hq2
      have hM : modF a b = -szR a b := by unfold modF; rw [if_neg HR.out, if_pos (by simp; omega), if_pos (by omega)]
      have r5 : decide (szR a b < 0) = false := by simp; omega
      have r6 : decide (-szR a b < 0) = true := by simp; omega
      have b0 := EB.out
      have b1 : -9223372036854775808 ≤ b ∧ b ≤ 9223372036854775807 := HB.out
      have HM := Lib.hid hM
      clear hM hr b0
      go_enter Try.func17, Try.ntmps17
      go_wp2
      go_ret2
      exact ⟨ret_two (by rw [HM.out]) rfl, rfl⟩
  · rw [if_pos sa] at htm
    have da : decide (a < 0) = true := by simp; omega
    have db : decide (b < 0) = false := by simp; omega
    have ea : absI a = -a := by unfold absI; omega
    have eb : absI b = b := by unfold absI; omega
    have EA := Lib.hid ea
    have EB := Lib.hid eb
    clear ea eb
    by_cases hr : szR a b = 0
    · have r1 : (szR a b != 0) = false := by simp [hr]
      have r2 : (-szR a b != 0) = false := by simp [hr]
      have r3 : decide (0 < szR a b) = false := by simp; omega
      have m2 : absI a ≤ szQ a b * absI b := by have := F6.out; omega
      have hq2 := HQ1.out
      have HR := Lib.hid hr
      clear hq2
      have hM : modF a b = 0 := by unfold modF; rw [if_pos HR.out]
      have r5 : decide (szR a b < 0) = false := by simp; omega
      have r6 : decide (-szR a b < 0) = false := by simp; omega
      have b0 := EB.out
      have b1 : -9223372036854775808 ≤ b ∧ b ≤ 9223372036854775807 := HB.out
      have HM := Lib.hid hM
      clear hM hr b0
      go_enter Try.func17, Try.ntmps17
      go_wp2
      go_ret2
      exact ⟨ret_two (by rw [HM.out]; have := HR.out; omega) rfl, rfl⟩
    · have r1 : (szR a b != 0) = true := by simp [hr]
      have r2 : (-szR a b != 0) = true := by simp [hr]
      have r3 : decide (0 < szR a b) = true := by simp; omega
      have m2 : szQ a b * absI b < absI a := by have := F6.out; omega
      have hq2 := HQ1.out
      have hq3 : szQ a b ≤ 4611686018427387904 := by omega
      have r4 : 1 ≤ szR a b := by omega
      have HR := Lib.hid hr
      clear hq2
      have hM : modF a b = b - szR a b := by unfold modF; rw [if_neg HR.out, if_neg (by simp; omega), if_pos (by omega)]
      have r5 : decide (szR a b < 0) = false := by simp; omega
      have r6 : decide (-szR a b < 0) = true := by simp; omega
      have b0 := EB.out
      have b1 : -9223372036854775808 ≤ b ∧ b ≤ 9223372036854775807 := HB.out
      have HM := Lib.hid hM
      clear hM hr b0
      go_enter Try.func17, Try.ntmps17
      go_wp2
      go_ret2
      exact ⟨ret_two (by rw [HM.out]; omega) rfl, rfl⟩
  · rw [if_neg sa] at htm
    have da : decide (a < 0) = false := by simp; omega
    have db : decide (b < 0) = true := by simp; omega
    have ea : absI a = a := by unfold absI; omega
    have eb : absI b = -b := by unfold absI; omega
    have EA := Lib.hid ea
    have EB := Lib.hid eb
    clear ea eb
    by_cases hr : szR a b = 0
    · have r1 : (szR a b != 0) = false := by simp [hr]
      have r2 : (-szR a b != 0) = false := by simp [hr]
      have r3 : decide (0 < szR a b) = false := by simp; omega
      have m2 : absI a ≤ szQ a b * absI b := by have := F6.out; omega
      have hq2 := HQ1.out
      have HR := Lib.hid hr
      clear hq2
      have hM : modF a b = 0 := by unfold modF; rw [if_pos HR.out]
      have r5 : decide (szR a b < 0) = false := by simp; omega
      have r6 : decide (-szR a b < 0) = false := by simp; omega
      have b0 := EB.out
      have b1 : -9223372036854775808 ≤ b ∧ b ≤ 9223372036854775807 := HB.out
      have HM := Lib.hid hM
      clear hM hr b0
      go_enter Try.func17, Try.ntmps17
      go_wp2
      go_ret2
      exact ⟨ret_two (by rw [HM.out]; have := HR.out; omega) rfl, rfl⟩
    · have r1 : (szR a b != 0) = true := by simp [hr]
      have r2 : (-szR a b != 0) = true := by simp [hr]
      have r3 : decide (0 < szR a b) = true := by simp; omega
      have m2 : szQ a b * absI b < absI a := by have := F6.out; omega
      have hq2 := HQ1.out
      have hq3 : szQ a b ≤ 4611686018427387904 := by omega
      have r4 : 1 ≤ szR a b := by omega
      have HR := Lib.hid hr
      clear hq2
      have hM : modF a b = szR a b + b := by unfold modF; rw [if_neg HR.out, if_neg (by simp; omega), if_neg (by omega)]
      have r5 : decide (szR a b < 0) = false := by simp; omega
      have r6 : decide (-szR a b < 0) = true := by simp; omega
      have b0 := EB.out
      have b1 : -9223372036854775808 ≤ b ∧ b ≤ 9223372036854775807 := HB.out
      have HM := Lib.hid hM
      clear hM hr b0
      go_enter Try.func17, Try.ntmps17
      go_wp2
      go_ret2
      exact ⟨ret_two (by rw [HM.out]) rfl, rfl⟩
  · rw [if_neg sa] at htm
    have da : decide (a < 0) = false := by simp; omega
    have db : decide (b < 0) = false := by simp; omega
    have ea : absI a = a := by unfold absI; omega
    have eb : absI b = b := by unfold absI; omega
    have EA := Lib.hid ea
    have EB := Lib.hid eb
    clear ea eb
    by_cases hr : szR a b = 0
    · have r1 : (szR a b != 0) = false := by simp [hr]
      have r2 : (-szR a b != 0) = false := by simp [hr]
      have r3 : decide (0 < szR a b) = false := by simp; omega
      have m2 : absI a ≤ szQ a b * absI b := by have := F6.out; omega
      have hq2 := HQ1.out
      have HR := Lib.hid hr
      clear hq2
      have hM : modF a b = 0 := by unfold modF; rw [if_pos HR.out]
      have r5 : decide (szR a b < 0) = false := by simp; omega
      have r6 : decide (-szR a b < 0) = false := by simp; omega
      have b0 := EB.out
      have b1 : -9223372036854775808 ≤ b ∧ b ≤ 9223372036854775807 := HB.out
      have HM := Lib.hid hM
      clear hM hr b0
      go_enter Try.func17, Try.ntmps17
      go_wp2
      go_ret2
      exact ⟨ret_two (by rw [HM.out]; have := HR.out; omega) rfl, rfl⟩
    · have r1 : (szR a b != 0) = true := by simp [hr]
      have r2 : (-szR a b != 0) = true := by simp [hr]
      have r3 : decide (0 < szR a b) = true := by simp; omega
      have m2 : szQ a b * absI b < absI a := by have := F6.out; omega
      have hq2 := HQ1.out
      have hq3 : szQ a b ≤ 4611686018427387904 := by omega
      have r4 : 1 ≤ szR a b := by omega
      have HR := Lib.hid hr
      clear hq2
      have hM : modF a b = szR a b := by unfold modF; rw [if_neg HR.out, if_pos (by simp; omega), if_neg (by omega)]
      have r5 : decide (szR a b < 0) = false := by simp; omega
      have r6 : decide (-szR a b < 0) = true := by simp; omega
      have b0 := EB.out
      have b1 : -9223372036854775808 ≤ b ∧ b ≤ 9223372036854775807 := HB.out
      have HM := Lib.hid hM
      clear hM hr b0
      go_enter Try.func17, Try.ntmps17
      go_wp2
      go_ret2
      exact ⟨ret_two (by rw [HM.out]) rfl, rfl⟩

set_option maxHeartbeats 1000000 in
theorem nums_Ceil (a b : Int) (w : World) (ha : I64 a) (hb : I64 b) (h : b ≠ 0) : Calls Try.prog 16 #[.int .i64 a, .int .i64 b] w fun e w' => e = .returned (.tuple #[.int .i64 (fitV (quoC a b)), .int .i64 (fitE (quoC a b))]) ∧ w = w' := by
  obtain ⟨f1, f2, f3, f4, f5, f6, f7, f8⟩ := sz_facts ha hb h
  obtain ⟨A0, A1⟩ := absI_bd ha
  obtain ⟨B0, B1⟩ := absI_bd hb
  have htm := tmod_sz a b
  have hq : absI a / absI b = szQ a b := rfl
  have hrr : absI a % absI b = szR a b := rfl
  have hbz : (b == 0) = false := by simp [h]
  have m0 : 0 ≤ szQ a b * absI b := Int.mul_nonneg f2 B0
  have m1 : szQ a b * absI b ≤ absI a := by omega
  have hba : (a < 0 → absI a = -a) ∧ (0 ≤ a → absI a = a) ∧ (b < 0 → absI b = -b) ∧ (0 ≤ b → absI b = b) := by unfold absI; omega
  have hq1 : szQ a b ≤ 4611686018427387904 ∨ szR a b = 0 := by
    by_cases h2 : 2 ≤ absI b
    · exact .inl (f7 h2)
    · exact .inr (f8 (by omega)).1
  have HA := Lib.hid ha
  have HB := Lib.hid hb
  have HBA := Lib.hid hba
  have F6 := Lib.hid f6
  have H0 := Lib.hid h
  have HQ1 := Lib.hid hq1
  clear ha hb f6 f7 f8 h hba hq1
  by_cases sa : a < 0 <;> by_cases sb : b < 0
  · rw [if_pos sa] at htm
    have da : decide (a < 0) = true := by simp; omega
    have db : decide (b < 0) = true := by simp; omega
    have ea : absI a = -a := by unfold absI; omega
    have eb : absI b = -b := by unfold absI; omega
    have EA := Lib.hid ea
    have EB := Lib.hid eb
    clear ea eb
    by_cases hr : szR a b = 0
    · have r1 : (szR a b != 0) = false := by simp [hr]
      have r2 : (-szR a b != 0) = false := by simp [hr]
      have r3 : decide (0 < szR a b) = false := by simp; omega
      have m2 : absI a ≤ szQ a b * absI b := by have := F6.out; omega
      have hq2 := HQ1.out
      have HR := Lib.hid hr
      clear hq2
      have hF : quoF a b = szQ a b := by unfold quoF; rw [if_pos (by simp; omega)]
      by_cases ho : szQ a b ≤ 9223372036854775807
      · have v1 : fitV (quoF a b) = szQ a b := by rw [hF]; unfold fitV; omega
        have v2 : fitE (quoF a b) = 0 := by rw [hF]; unfold fitE; omega
        have hC : quoC a b = szQ a b := by unfold quoC; rw [hF, if_pos HR.out]
        have HV : Hid (fitV (quoC a b) = szQ a b) := by rw [hC]; unfold Hid fitV; omega
        have HE : Hid (fitE (quoC a b) = 0) := by rw [hC]; unfold Hid fitE; omega
        clear hC hF hr
        go_enter Try.func16, Try.ntmps16
        go_wp2_with (first | (go_at_call 15; (with_reducible refine (nums_Div _ _ _ HA.out HB.out H0.out).mono ?_); rintro e w' ⟨rfl, rfl⟩))
        go_ret2
        exact ⟨ret_two (by rw [HV.out]) (by rw [HE.out]), rfl⟩
      · have v1 : fitV (quoF a b) = 0 := by rw [hF]; unfold fitV; omega
        have v2 : fitE (quoF a b) = 10 := by rw [hF]; unfold fitE; omega
        have hC : quoC a b = szQ a b := by unfold quoC; rw [hF, if_pos HR.out]
        have HV : Hid (fitV (quoC a b) = 0) := by rw [hC]; unfold Hid fitV; omega
        have HE : Hid (fitE (quoC a b) = 10) := by rw [hC]; unfold Hid fitE; omega
        clear hC hF hr
        go_enter Try.func16, Try.ntmps16
        go_wp2_with (first | (go_at_call 15; (with_reducible refine (nums_Div _ _ _ HA.out HB.out H0.out).mono ?_); rintro e w' ⟨rfl, rfl⟩))
        go_ret2
        exact ⟨ret_two (by rw [HV.out]) (by rw [HE.out]), rfl⟩
    · have r1 : (szR a b != 0) = true := by simp [hr]
      have r2 : (-szR a b != 0) = true := by simp [hr]
      have r3 : decide (0 < szR a b) = true := by simp; omega
      have m2 : szQ a b * absI b < absI a := by have := F6.out; omega
      have hq2 := HQ1.out
      have hq3 : szQ a b ≤ 4611686018427387904 := by omega
      have r4 : 1 ≤ szR a b := by omega
      have HR := Lib.hid hr
      clear hq2
      have hF : quoF a b = szQ a b := by unfold quoF; rw [if_pos (by simp; omega)]
      have v1 : fitV (quoF a b) = szQ a b := by rw [hF]; unfold fitV; omega
      have v2 : fitE (quoF a b) = 0 := by rw [hF]; unfold fitE; omega
      have hC : quoC a b = szQ a b + 1 := by unfold quoC; rw [hF, if_neg HR.out]
      have HV : Hid (fitV (quoC a b) = szQ a b + 1) := by rw [hC]; unfold Hid fitV; omega
      have HE : Hid (fitE (quoC a b) = 0) := by rw [hC]; unfold Hid fitE; omega
      clear hC hF hr
      go_enter Try.func16, Try.ntmps16
      go_wp2_with (first | (go_at_call 15; (with_reducible refine (nums_Div _ _ _ HA.out HB.out H0.out).mono ?_); rintro e w' ⟨rfl, rfl⟩))
      go_ret2
      exact ⟨ret_two (by rw [HV.out]) (by rw [HE.out]), rfl⟩
  · rw [if_pos sa] at htm
    have da : decide (a < 0) = true := by simp; omega
    have db : decide (b < 0) = false := by simp; omega
    have ea : absI a = -a := by unfold absI; omega
    have eb : absI b = b := by unfold absI; omega
    have EA := Lib.hid ea
    have EB := Lib.hid eb
    clear ea eb
    by_cases hr : szR a b = 0
    · have r1 : (szR a b != 0) = false := by simp [hr]
      have r2 : (-szR a b != 0) = false := by simp [hr]
      have r3 : decide (0 < szR a b) = false := by simp; omega
      have m2 : absI a ≤ szQ a b * absI b := by have := F6.out; omega
      have hq2 := HQ1.out
      have HR := Lib.hid hr
      clear hq2
      have hF : quoF a b = -szQ a b := by unfold quoF; rw [if_neg (by simp; omega), if_pos HR.out]
      have v1 : fitV (quoF a b) = -szQ a b := by rw [hF]; unfold fitV; omega
      have v2 : fitE (quoF a b) = 0 := by rw [hF]; unfold fitE; omega
      have hC : quoC a b = -szQ a b := by unfold quoC; rw [hF, if_pos HR.out]
      have HV : Hid (fitV (quoC a b) = -szQ a b) := by rw [hC]; unfold Hid fitV; omega
      have HE : Hid (fitE (quoC a b) = 0) := by rw [hC]; unfold Hid fitE; omega
      clear hC hF hr
      go_enter Try.func16, Try.ntmps16
      go_wp2_with (first | (go_at_call 15; (with_reducible refine (nums_Div _ _ _ HA.out HB.out H0.out).mono ?_); rintro e w' ⟨rfl, rfl⟩))
      go_ret2
      exact ⟨ret_two (by rw [HV.out]) (by rw [HE.out]), rfl⟩
    · have r1 : (szR a b != 0) = true := by simp [hr]
      have r2 : (-szR a b != 0) = true := by simp [hr]
      have r3 : decide (0 < szR a b) = true := by simp; omega
      have m2 : szQ a b * absI b < absI a := by have := F6.out; omega
      have hq2 := HQ1.out
      have hq3 : szQ a b ≤ 4611686018427387904 := by omega
      have r4 : 1 ≤ szR a b := by omega
      have HR := Lib.hid hr
      clear hq2
      have hF : quoF a b = -szQ a b - 1 := by unfold quoF; rw [if_neg (by simp; omega), if_neg HR.out]
      have v1 : fitV (quoF a b) = -szQ a b - 1 := by rw [hF]; unfold fitV; omega
      have v2 : fitE (quoF a b) = 0 := by rw [hF]; unfold fitE; omega
      have hC : quoC a b = -szQ a b := by unfold quoC; rw [hF, if_neg HR.out]; omega
      have HV : Hid (fitV (quoC a b) = -szQ a b) := by rw [hC]; unfold Hid fitV; omega
      have HE : Hid (fitE (quoC a b) = 0) := by rw [hC]; unfold Hid fitE; omega
      clear hC hF hr
      go_enter Try.func16, Try.ntmps16
      go_wp2_with (first | (go_at_call 15; (with_reducible refine (nums_Div _ _ _ HA.out HB.out H0.out).mono ?_); rintro e w' ⟨rfl, rfl⟩))
      go_ret2
      exact ⟨ret_two (by rw [HV.out]) (by rw [HE.out]), rfl⟩
  · rw [if_neg sa] at htm
    have da : decide (a < 0) = false := by simp; omega
    have db : decide (b < 0) = true := by simp; omega
    have ea : absI a = a := by unfold absI; omega
    have eb : absI b = -b := by unfold absI; omega
    have EA := Lib.hid ea
    have EB := Lib.hid eb
    clear ea eb
    by_cases hr : szR a b = 0
    · have r1 : (szR a b != 0) = false := by simp [hr]
      have r2 : (-szR a b != 0) = false := by simp [hr]
      have r3 : decide (0 < szR a b) = false := by simp; omega
      have m2 : absI a ≤ szQ a b * absI b := by have := F6.out; omega
      have hq2 := HQ1.out
      have HR := Lib.hid hr
      clear hq2
      have hF : quoF a b = -szQ a b := by unfold quoF; rw [if_neg (by simp; omega), if_pos HR.out]
      have v1 : fitV (quoF a b) = -szQ a b := by rw [hF]; unfold fitV; omega
      have v2 : fitE (quoF a b) = 0 := by rw [hF]; unfold fitE; omega
      have hC : quoC a b = -szQ a b := by unfold quoC; rw [hF, if_pos HR.out]
      have HV : Hid (fitV (quoC a b) = -szQ a b) := by rw [hC]; unfold Hid fitV; omega
      have HE : Hid (fitE (quoC a b) = 0) := by rw [hC]; unfold Hid fitE; omega
      clear hC hF hr
      go_enter Try.func16, Try.ntmps16
      go_wp2_with (first | (go_at_call 15; (with_reducible refine (nums_Div _ _ _ HA.out HB.out H0.out).mono ?_); rintro e w' ⟨rfl, rfl⟩))
      go_ret2
      exact ⟨ret_two (by rw [HV.out]) (by rw [HE.out]), rfl⟩
    · have r1 : (szR a b != 0) = true := by simp [hr]
      have r2 : (-szR a b != 0) = true := by simp [hr]
      have r3 : decide (0 < szR a b) = true := by simp; omega
      have m2 : szQ a b * absI b < absI a := by have := F6.out; omega
      have hq2 := HQ1.out
      have hq3 : szQ a b ≤ 4611686018427387904 := by omega
      have r4 : 1 ≤ szR a b := by omega
      have HR := Lib.hid hr
      clear hq2
      have hF : quoF a b = -szQ a b - 1 := by unfold quoF; rw [if_neg (by simp; omega), if_neg HR.out]
      have v1 : fitV (quoF a b) = -szQ a b - 1 := by rw [hF]; unfold fitV; omega
      have v2 : fitE (quoF a b) = 0 := by rw [hF]; unfold fitE; omega
      have hC : quoC a b = -szQ a b := by unfold quoC; rw [hF, if_neg HR.out]; omega
      have HV : Hid (fitV (quoC a b) = -szQ a b) := by rw [hC]; unfold Hid fitV; omega
      have HE : Hid (fitE (quoC a b) = 0) := by rw [hC]; unfold Hid fitE; omega
      clear hC hF hr
      go_enter Try.func16, Try.ntmps16
      go_wp2_with (first | (go_at_call 15; (with_reducible refine (nums_Div _ _ _ HA.out HB.out H0.out).mono ?_); rintro e w' ⟨rfl, rfl⟩))
      go_ret2
      exact ⟨ret_two (by rw [HV.out]) (by rw [HE.out]), rfl⟩
  · rw [if_neg sa] at htm
    have da : decide (a < 0) = false := by simp; omega
    have db : decide (b < 0) = false := by simp; omega
    have ea : absI a = a := by unfold absI; omega
    have eb : absI b = b := by unfold absI; omega
    have EA := Lib.hid ea
    have EB := Lib.hid eb
    clear ea eb
    by_cases hr : szR a b = 0
    · have r1 : (szR a b != 0) = false := by simp [hr]
      have r2 : (-szR a b != 0) = false := by simp [hr]
      have r3 : decide (0 < szR a b) = false := by simp; omega
      have m2 : absI a ≤ szQ a b * absI b := by have := F6.out; omega
      have hq2 := HQ1.out
      have HR := Lib.hid hr
      clear hq2
      have hF : quoF a b = szQ a b := by unfold quoF; rw [if_pos (by simp; omega)]
      by_cases ho : szQ a b ≤ 9223372036854775807
      · have v1 : fitV (quoF a b) = szQ a b := by rw [hF]; unfold fitV; omega
        have v2 : fitE (quoF a b) = 0 := by rw [hF]; unfold fitE; omega
        have hC : quoC a b = szQ a b := by unfold quoC; rw [hF, if_pos HR.out]
        have HV : Hid (fitV (quoC a b) = szQ a b) := by rw [hC]; unfold Hid fitV; omega
        have HE : Hid (fitE (quoC a b) = 0) := by rw [hC]; unfold Hid fitE; omega
        clear hC hF hr
        go_enter Try.func16, Try.ntmps16
        go_wp2_with (first | (go_at_call 15; (with_reducible refine (nums_Div _ _ _ HA.out HB.out H0.out).mono ?_); rintro e w' ⟨rfl, rfl⟩))
        go_ret2
        exact ⟨ret_two (by rw [HV.out]) (by rw [HE.out]), rfl⟩
      · have v1 : fitV (quoF a b) = 0 := by rw [hF]; unfold fitV; omega
        have v2 : fitE (quoF a b) = 10 := by rw [hF]; unfold fitE; omega
        have hC : quoC a b = szQ a b := by unfold quoC; rw [hF, if_pos HR.out]
        have HV : Hid (fitV (quoC a b) = 0) := by rw [hC]; unfold Hid fitV; omega
        have HE : Hid (fitE (quoC a b) = 10) := by rw [hC]; unfold Hid fitE; omega
        clear hC hF hr
        go_enter Try.func16, Try.ntmps16
        go_wp2_with (first | (go_at_call 15; (with_reducible refine (nums_Div _ _ _ HA.out HB.out H0.out).mono ?_); rintro e w' ⟨rfl, rfl⟩))
        go_ret2
        exact ⟨ret_two (by rw [HV.out]) (by rw [HE.out]), rfl⟩
    · have r1 : (szR a b != 0) = true := by simp [hr]
      have r2 : (-szR a b != 0) = true := by simp [hr]
      have r3 : decide (0 < szR a b) = true := by simp; omega
      have m2 : szQ a b * absI b < absI a := by have := F6.out; omega
      have hq2 := HQ1.out
      have hq3 : szQ a b ≤ 4611686018427387904 := by omega
      have r4 : 1 ≤ szR a b := by omega
      have HR := Lib.hid hr
      clear hq2
      have hF : quoF a b = szQ a b := by unfold quoF; rw [if_pos (by simp; omega)]
      have v1 : fitV (quoF a b) = szQ a b := by rw [hF]; unfold fitV; omega
      have v2 : fitE (quoF a b) = 0 := by rw [hF]; unfold fitE; omega
      have hC : quoC a b = szQ a b + 1 := by unfold quoC; rw [hF, if_neg HR.out]
      have HV : Hid (fitV (quoC a b) = szQ a b + 1) := by rw [hC]; unfold Hid fitV; omega
      have HE : Hid (fitE (quoC a b) = 0) := by rw [hC]; unfold Hid fitE; omega
      clear hC hF hr
      go_enter Try.func16, Try.ntmps16
      go_wp2_with (first | (go_at_call 15; (with_reducible refine (nums_Div _ _ _ HA.out HB.out H0.out).mono ?_); rintro e w' ⟨rfl, rfl⟩))
      go_ret2
      exact ⟨ret_two (by rw [HV.out]) (by rw [HE.out]), rfl⟩

end Go.Proofs.Ytokgokjgpmdlpaa


/-
  What stands for what a car does: gantt.Mark, hoistwaylaw71.mark and gantt.Span. Condition: none; the span's numbers are not too big.
-/
import Derived.Test.YtnlieclfajebbaaGantt
import Derived.Test.YtnlieclfajebbaaTrackR
import Derived.RegionTactic
set_option linter.unusedVariables false
set_option linter.unusedSimpArgs false
namespace Go.Proofs.Ytnlieclfajebbaa
open Go.Joins Go.ChangeShapes Go.WideShapes Go.ChangeAt Go.RowKit Go.Deep

/-- What stands for what a car does. -/
def mk (u d o : Int) : UInt8 := if 0 < o ∧ u ≤ o ∧ d ≤ o then 111 else if 0 < u ∧ d ≤ u then 47 else if 0 < d then 92 else 46
theorem mk_cases (u d o : Int) : ((mk u d o).toNat : Int) = 111 ∧ (0 < o ∧ u ≤ o ∧ d ≤ o) ∨ ((mk u d o).toNat : Int) = 47 ∧ ¬ (0 < o ∧ u ≤ o ∧ d ≤ o) ∧ (0 < u ∧ d ≤ u) ∨ ((mk u d o).toNat : Int) = 92 ∧ ¬ (0 < o ∧ u ≤ o ∧ d ≤ o) ∧ ¬ (0 < u ∧ d ≤ u) ∧ 0 < d ∨ ((mk u d o).toNat : Int) = 46 ∧ ¬ (0 < o ∧ u ≤ o ∧ d ≤ o) ∧ ¬ (0 < u ∧ d ≤ u) ∧ ¬ 0 < d := by
  by_cases h1 : 0 < o ∧ u ≤ o ∧ d ≤ o
  · left; exact ⟨by rw [mk, if_pos h1]; rfl, h1⟩
  · right
    by_cases h2 : 0 < u ∧ d ≤ u
    · left; exact ⟨by rw [mk, if_neg h1, if_pos h2]; rfl, h1, h2⟩
    · right
      by_cases h3 : 0 < d
      · left; exact ⟨by rw [mk, if_neg h1, if_neg h2, if_pos h3]; rfl, h1, h2, h3⟩
      · right; exact ⟨by rw [mk, if_neg h1, if_neg h2, if_neg h3]; rfl, h1, h2, h3⟩
theorem ret_byte {a b : Int} (h : a = b) : Ending.returned (.int .u8 a) = .returned (.int .u8 b) := by rw [h]
set_option maxHeartbeats 2000000 in
theorem gantt_Mark (u d o : Int) (w : World) : Calls Try.prog 25 #[.int .i64 u, .int .i64 d, .int .i64 o] w fun e w' => e = .returned (.int .u8 ((mk u d o).toNat : Int)) ∧ w' = w := by
  have hmm := mk_cases u d o
  generalize ((mk u d o).toNat : Int) = m at *
  rcases Int.lt_or_le 0 o with ho | ho <;> rcases Int.lt_or_le o u with hu | hu <;> rcases Int.lt_or_le o d with hd | hd <;> rcases Int.lt_or_le 0 u with ku | ku <;> rcases Int.lt_or_le u d with kd | kd <;> rcases Int.lt_or_le 0 d with kz | kz
  all_goals first | (exfalso; omega) | skip
  all_goals
    have HM := Lib.hid hmm
    clear hmm
    go_enter Try.func25, Try.ntmps25
    go_wp2
    go_ret
    exact ⟨ret_byte (by have := HM.out; omega), rfl⟩
set_option maxHeartbeats 2000000 in
theorem law71_mark (u d o : Int) (w : World) : Calls Try.prog 26 #[.int .i64 u, .int .i64 d, .int .i64 o] w fun e w' => e = .returned (.int .u8 ((mk u d o).toNat : Int)) ∧ w' = w := by
  have hmm := mk_cases u d o
  generalize ((mk u d o).toNat : Int) = m at *
  rcases Int.lt_or_le 0 o with ho | ho <;> rcases Int.lt_or_le o u with hu | hu <;> rcases Int.lt_or_le o d with hd | hd <;> rcases Int.lt_or_le 0 u with ku | ku <;> rcases Int.lt_or_le u d with kd | kd <;> rcases Int.lt_or_le 0 d with kz | kz
  all_goals first | (exfalso; omega) | skip
  all_goals
    have HM := Lib.hid hmm
    clear hmm
    go_enter Try.func26, Try.ntmps26
    go_wp2
    go_ret
    exact ⟨ret_byte (by have := HM.out; omega), rfl⟩
theorem span_quo {a n : Int} (ha : 0 ≤ a) (hn : 1 ≤ n) : 0 ≤ a / n ∧ a / n ≤ a := ⟨Int.ediv_nonneg ha (by omega), Int.ediv_le_self _ ha⟩
set_option maxHeartbeats 2000000 in
theorem gantt_Span (x n h : Int) (w : World) (x0 : 0 ≤ x) (x1 : x ≤ 1048576) (n1 : 1 ≤ n) (n2 : n ≤ 1048576) (h0 : 0 ≤ h) (h1 : h ≤ 1048576) :
    Calls Try.prog 100 #[.int .i64 x, .int .i64 n, .int .i64 h] w fun e w' => e = .returned (.agg #[.int .i64 (x * h / n), .int .i64 ((x + 1) * h / n)]) ∧ Below w.heap.size w w' := by
  have m0 : 0 ≤ x * h := Int.mul_nonneg x0 h0
  have m1 : x * h ≤ 1048576 * 1048576 := Int.mul_le_mul x1 h1 h0 (by omega)
  have m2 : 0 ≤ (x + 1) * h := Int.mul_nonneg (by omega) h0
  have m3 : (x + 1) * h ≤ 1048577 * 1048576 := Int.mul_le_mul (by omega) h1 h0 (by omega)
  obtain ⟨q0, q1⟩ := span_quo m0 n1
  obtain ⟨q2, q3⟩ := span_quo m2 n1
  have hzn : (n == 0) = false := beq_eq_false_iff_ne.2 (by omega)
  go_enter Try.func100, Try.ntmps100
  go_wp2
  go_region
  go_wp2
  refine bodyPost_ret (v := .agg #[.int .i64 (x * h / n), .int .i64 ((x + 1) * h / n)]) (by simp [results, Try.results100, go_sem]) rfl ?_
  exact ⟨rfl, ((Below.refl _ _).alloc (Nat.le_refl _) _).drew⟩
end Go.Proofs.Ytnlieclfajebbaa


/-
  bits.Shift: a set, greater by any number. Condition: the number fits.
-/
import Derived.Test.YtlcnhpjmmjmkcaaDoorDoorP
set_option linter.unusedVariables false
set_option linter.unusedSimpArgs false
namespace Go.Proofs.YtlcnhpjmmjmkcaaDoor
open Go.Joins Go.ChangeShapes Go.WideShapes Go.ChangeAt Go.RowKit Go.Deep

def shlW (x m : Nat) : Nat := x * 2 ^ m % 18446744073709551616
theorem wd_shl (x m : Nat) : Wd (shlW x m) := Nat.mod_lt _ (by omega)
theorem wd_shr {x : Nat} (m : Nat) (h : Wd x) : Wd (x / 2 ^ m) := Nat.lt_of_le_of_lt (Nat.div_le_self _ _) h
theorem shl_bit (x m j : Nat) (hj : j < 64) : (shlW x m).testBit j = (decide (m ≤ j) && x.testBit (j - m)) := by
  unfold shlW
  rw [show 18446744073709551616 = 2 ^ 64 from rfl, Nat.testBit_mod_two_pow, Nat.testBit_mul_two_pow]
  simp [hj]
theorem shr_bit (x m j : Nat) : (x / 2 ^ m).testBit j = x.testBit (j + m) := by
  rw [Nat.testBit_div_two_pow]
theorem shl_int (x m : Nat) : IntKind.u64.wrap ((x : Int) * 2 ^ m) = (shlW x m : Nat) := by
  have e : (x : Int) * 2 ^ m = ((x * 2 ^ m : Nat) : Int) := by push_cast; rfl
  unfold shlW
  rw [e, IntKind.wrap_u64]
  omega
theorem shr_int (x m : Nat) : (x : Int) / 2 ^ m = ((x / 2 ^ m : Nat) : Int) := by push_cast; rfl
def shX (x y : Nat) (k : Int) : Nat := if 128 ≤ k ∨ k ≤ -128 then 0 else if 64 ≤ k then 0 else if 0 ≤ k then shlW x k.toNat else if -64 < k then (x / 2 ^ (-k).toNat) ||| shlW y (64 + k).toNat else y / 2 ^ (-k - 64).toNat
def shY (x y : Nat) (k : Int) : Nat := if 128 ≤ k ∨ k ≤ -128 then 0 else if 64 ≤ k then shlW x (k - 64).toNat else if 0 ≤ k then shlW y k.toNat ||| (x / 2 ^ (64 - k).toNat) else if -64 < k then y / 2 ^ (-k).toNat else 0
theorem wd_sh {x y : Nat} (k : Int) (hx : Wd x) (hy : Wd y) : Wd (shX x y k) ∧ Wd (shY x y k) := by
  have z : Wd 0 := by show 0 < _; omega
  constructor
  · unfold shX
    repeat' split
    all_goals first | exact z | exact wd_shl _ _ | exact wd_or (wd_shr _ hx) (wd_shl _ _) | exact wd_shr _ hy
  · unfold shY
    repeat' split
    all_goals first | exact z | exact wd_shl _ _ | exact wd_or (wd_shl _ _) (wd_shr _ hx) | exact wd_shr _ hy
theorem mem_nat (x y n : Nat) : memB x y (n : Int) = if n < 64 then x.testBit n else if n < 128 then y.testBit (n - 64) else false := by
  unfold memB
  by_cases h : n < 64
  · rw [if_pos (by omega), if_pos h]; simp
  · rw [if_neg (by omega), if_neg h]
    by_cases h2 : n < 128
    · rw [if_pos (by omega), if_pos h2, show ((n : Int) - 64).toNat = n - 64 by omega]
    · rw [if_neg (by omega), if_neg h2]
/-- What a shifted set has. -/
theorem mem_sh {x y : Nat} (k : Int) (hx : Wd x) (hy : Wd y) (n : Int) (h0 : 0 ≤ n) (h1 : n < 128) : memB (shX x y k) (shY x y k) n = memB x y (n - k) := by
  obtain ⟨m, rfl⟩ := Int.eq_ofNat_of_zero_le h0
  unfold shX shY
  by_cases a1 : 128 ≤ k ∨ k ≤ -128
  · rw [if_pos a1, if_pos a1, mem_zero, mem_out (by omega)]
  · rw [if_neg a1, if_neg a1]
    by_cases a2 : 64 ≤ k
    · rw [if_pos a2, if_pos a2]
      obtain ⟨j, hj⟩ := Int.eq_ofNat_of_zero_le (show 0 ≤ k - 64 by omega)
      rw [hj, Int.toNat_natCast, mem_nat]
      by_cases b : m < 64
      · rw [if_pos b, mem_out (by omega), Nat.zero_testBit]
      · rw [if_neg b, if_pos (by omega), shl_bit _ _ _ (by omega)]
        by_cases c : j ≤ m - 64
        · rw [show (m : Int) - k = ((m - 64 - j : Nat) : Int) by omega, mem_nat, if_pos (by omega)]; simp [c]
        · rw [mem_out (by omega)]; simp [c]
    · rw [if_neg a2, if_neg a2]
      by_cases a3 : 0 ≤ k
      · rw [if_pos a3, if_pos a3]
        obtain ⟨j, rfl⟩ := Int.eq_ofNat_of_zero_le a3
        rw [show (64 - (j : Int)).toNat = 64 - j by omega, Int.toNat_natCast, mem_nat]
        by_cases b : m < 64
        · rw [if_pos b, shl_bit _ _ _ b]
          by_cases c : j ≤ m
          · rw [show (m : Int) - (j : Int) = ((m - j : Nat) : Int) by omega, mem_nat, if_pos (by omega)]; simp [c]
          · rw [mem_out (by omega)]; simp [c]
        · rw [if_neg b, if_pos (by omega), Nat.testBit_or, shl_bit _ _ _ (by omega), shr_bit, show (m : Int) - (j : Int) = ((m - j : Nat) : Int) by omega, mem_nat]
          by_cases c : j ≤ m - 64
          · rw [if_neg (by omega), if_pos (by omega), show m - j - 64 = m - 64 - j by omega]
            rw [bit_high hx (m := m - 64 + (64 - j)) (by omega)]
            simp [c]
          · rw [if_pos (by omega), show m - 64 + (64 - j) = m - j by omega]
            simp [c]
      · rw [if_neg a3, if_neg a3]
        by_cases a4 : -64 < k
        · rw [if_pos a4, if_pos a4]
          obtain ⟨j, hj⟩ := Int.eq_ofNat_of_zero_le (show 0 ≤ -k by omega)
          rw [hj, show (64 + k).toNat = 64 - j by omega, Int.toNat_natCast, mem_nat, show (m : Int) - k = ((m + j : Nat) : Int) by omega, mem_nat]
          by_cases b : m < 64
          · rw [if_pos b, Nat.testBit_or, shr_bit, shl_bit _ _ _ b]
            by_cases c : m + j < 64
            · rw [if_pos c]
              have : ¬ 64 - j ≤ m := by omega
              simp [this]
            · rw [if_neg c, if_pos (by omega), bit_high hx (m := m + j) (by omega), show m - (64 - j) = m + j - 64 by omega]
              have : 64 - j ≤ m := by omega
              simp [this]
          · rw [if_neg b, if_pos (by omega), shr_bit, if_neg (by omega)]
            by_cases c : m + j < 128
            · rw [if_pos c, show m - 64 + j = m + j - 64 by omega]
            · rw [if_neg c, bit_high hy (by omega)]
        · rw [if_neg a4, if_neg a4]
          obtain ⟨j, hj⟩ := Int.eq_ofNat_of_zero_le (show 0 ≤ -k - 64 by omega)
          rw [hj, Int.toNat_natCast, mem_nat, show (m : Int) - k = ((m + (j + 64) : Nat) : Int) by omega, mem_nat, if_neg (show ¬ m + (j + 64) < 64 by omega)]
          by_cases b : m < 64
          · rw [if_pos b, shr_bit]
            by_cases c : m + (j + 64) < 128
            · rw [if_pos c, show m + j = m + (j + 64) - 64 by omega]
            · rw [if_neg c, bit_high hy (by omega)]
          · rw [if_neg b, if_pos (by omega), if_neg (by omega), Nat.zero_testBit]
set_option maxRecDepth 20000 in
set_option maxHeartbeats 4000000 in
theorem bits_Shift (x y : Nat) (k : Int) (w : World) (hx : Wd x) (hy : Wd y) (hk : I64 k) : Calls Tryd.prog 17 #[sv x y, .int .i64 k] w fun e w' => e = .returned (sv (shX x y k) (shY x y k)) ∧ Below w.heap.size w w' := by
  unfold I64 at hk
  unfold sv
  by_cases a1 : 128 ≤ k ∨ k ≤ -128
  · have r1 : shX x y k = 0 := by unfold shX; rw [if_pos a1]
    have r2 : shY x y k = 0 := by unfold shY; rw [if_pos a1]
    rw [r1, r2]
    clear hx hy r1 r2
    by_cases a2 : 128 ≤ k
    · have q1 : decide (128 ≤ k) = true := decide_eq_true a2
      clear a1 a2 hk
      go_enter Tryd.func17, Tryd.ntmps17
      go_wp2
      refine bodyPost_ret (v := .agg #[.int .u64 0, .int .u64 0]) (by simp [results, Tryd.results17, go_sem]) rfl ?_
      exact ⟨rfl, Joins.below_alloc2 _ _ _⟩
    · have q1 : decide (128 ≤ k) = false := decide_eq_false a2
      have q2 : decide (k ≤ -128) = true := decide_eq_true (by omega)
      clear a1 a2 hk
      go_enter Tryd.func17, Tryd.ntmps17
      go_wp2
      refine bodyPost_ret (v := .agg #[.int .u64 0, .int .u64 0]) (by simp [results, Tryd.results17, go_sem]) rfl ?_
      exact ⟨rfl, Joins.below_alloc2 _ _ _⟩
  · have q1 : decide (128 ≤ k) = false := decide_eq_false (by omega)
    have q2 : decide (k ≤ -128) = false := decide_eq_false (by omega)
    by_cases a2 : 64 ≤ k
    · have q3 : decide (64 ≤ k) = true := decide_eq_true a2
      obtain ⟨m, hm⟩ := Int.eq_ofNat_of_zero_le (show 0 ≤ k - 64 by omega)
      have r1 : shX x y k = 0 := by unfold shX; rw [if_neg a1, if_pos a2]
      have r2 : shY x y k = shlW x m := by unfold shY; rw [if_neg a1, if_pos a2, hm, Int.toNat_natCast]
      have m1 : IntKind.i64.wrap (k - 64) = (m : Int) := by rw [IntWalk.i64_in _ (by omega)]; exact hm
      have s1 := shl_int x m
      have hml : m < 64 := by omega
      rw [r1, r2]
      generalize ((shlW x m : Nat) : Int) = v at *
      clear a1 a2 hk hm r1 r2 hx hy
      go_enter Tryd.func17, Tryd.ntmps17
      go_wp2
      refine bodyPost_ret (v := .agg #[.int .u64 0, .int .u64 v]) (by simp [results, Tryd.results17, go_sem]) rfl ?_
      exact ⟨rfl, Joins.below_alloc2 _ _ _⟩
    · have q3 : decide (64 ≤ k) = false := decide_eq_false a2
      by_cases a3 : 0 ≤ k
      · have q4 : decide (0 ≤ k) = true := decide_eq_true a3
        obtain ⟨m, hm⟩ := Int.eq_ofNat_of_zero_le a3
        have r1 : shX x y k = shlW x m := by unfold shX; rw [if_neg a1, if_neg a2, if_pos a3, hm, Int.toNat_natCast]
        have r2 : shY x y k = (shlW y m ||| (x / 2 ^ (64 - m))) := by unfold shY; rw [if_neg a1, if_neg a2, if_pos a3, hm, Int.toNat_natCast, show (64 - (m : Int)).toNat = 64 - m by omega]
        obtain ⟨j, hj⟩ : ∃ j, j = 64 - m := ⟨_, rfl⟩
        have m1 : IntKind.i64.wrap (64 - (m : Int)) = (j : Int) := by rw [IntWalk.i64_in _ (by omega)]; omega
        have s1 := shl_int x m
        have s2 := shl_int y m
        have s3 := shr_int x j
        have s4 := or_word (shlW y m) (x / 2 ^ j) (wd_shl _ _) (wd_shr _ hx)
        have hml : m < 64 := by omega
        have hjl : j ≤ 64 := by omega
        rw [← hj] at r2
        rw [r1, r2]
        generalize ((shlW y m ||| x / 2 ^ j : Nat) : Int) = v at *
        generalize ((shlW x m : Nat) : Int) = v1 at *
        generalize ((shlW y m : Nat) : Int) = v2 at *
        generalize ((x / 2 ^ j : Nat) : Int) = v3 at *
        subst hm
        clear a1 a2 a3 hk r1 r2 hx hy hj
        go_enter Tryd.func17, Tryd.ntmps17
        go_wp2
        go_region
        go_wp2
        refine bodyPost_ret (v := .agg #[.int .u64 v1, .int .u64 v]) (by simp [results, Tryd.results17, go_sem]) rfl ?_
        exact ⟨rfl, by first | exact Joins.below_alloc2 _ _ _ | exact (Joins.below_alloc2 _ _ _).drew | exact below_drewN (Joins.below_alloc2 _ _ _) _⟩
      · have q4 : decide (0 ≤ k) = false := decide_eq_false a3
        by_cases a4 : -64 < k
        · have q5 : decide (-64 < k) = true := decide_eq_true a4
          obtain ⟨m, hm⟩ := Int.eq_ofNat_of_zero_le (show 0 ≤ -k by omega)
          obtain ⟨j, hj⟩ : ∃ j, j = 64 - m := ⟨_, rfl⟩
          have r1 : shX x y k = ((x / 2 ^ m) ||| shlW y j) := by unfold shX; rw [if_neg a1, if_neg a2, if_neg a3, if_pos a4, hm, Int.toNat_natCast, show (64 + k).toNat = j by omega]
          have r2 : shY x y k = y / 2 ^ m := by unfold shY; rw [if_neg a1, if_neg a2, if_neg a3, if_pos a4, hm, Int.toNat_natCast]
          have m1 : IntKind.i64.wrap (-k) = (m : Int) := by rw [IntWalk.i64_in _ (by omega)]; omega
          have m2 : IntKind.i64.wrap (64 + k) = (j : Int) := by rw [IntWalk.i64_in _ (by omega)]; omega
          have s1 := shr_int x m
          have s2 := shr_int y m
          have s3 := shl_int y j
          have s4 := or_word (x / 2 ^ m) (shlW y j) (wd_shr _ hx) (wd_shl _ _)
          have hml : m < 64 := by omega
          have hjl : j < 64 := by omega
          rw [r1, r2]
          generalize ((x / 2 ^ m ||| shlW y j : Nat) : Int) = v at *
          generalize ((x / 2 ^ m : Nat) : Int) = v1 at *
          generalize ((y / 2 ^ m : Nat) : Int) = v2 at *
          generalize ((shlW y j : Nat) : Int) = v3 at *
          clear a1 a2 a3 a4 hk r1 r2 hx hy hj hm
          go_enter Tryd.func17, Tryd.ntmps17
          go_wp2
          go_region
          go_wp2
          refine bodyPost_ret (v := .agg #[.int .u64 v, .int .u64 v2]) (by simp [results, Tryd.results17, go_sem]) rfl ?_
          exact ⟨rfl, by first | exact Joins.below_alloc2 _ _ _ | exact (Joins.below_alloc2 _ _ _).drew | exact below_drewN (Joins.below_alloc2 _ _ _) _⟩
        · have q5 : decide (-64 < k) = false := decide_eq_false a4
          obtain ⟨m, hm⟩ := Int.eq_ofNat_of_zero_le (show 0 ≤ -k - 64 by omega)
          have r1 : shX x y k = y / 2 ^ m := by unfold shX; rw [if_neg a1, if_neg a2, if_neg a3, if_neg a4, hm, Int.toNat_natCast]
          have r2 : shY x y k = 0 := by unfold shY; rw [if_neg a1, if_neg a2, if_neg a3, if_neg a4]
          have m1 : IntKind.i64.wrap (-k) = -k := by rw [IntWalk.i64_in _ (by omega)]
          have m2 : IntKind.i64.wrap (-k - 64) = (m : Int) := by rw [IntWalk.i64_in _ (by omega)]; omega
          have s1 := shr_int y m
          have hml : m < 64 := by omega
          rw [r1, r2]
          generalize ((y / 2 ^ m : Nat) : Int) = v at *
          clear a1 a2 a3 a4 hk r1 r2 hx hy hm
          go_enter Tryd.func17, Tryd.ntmps17
          go_wp2
          refine bodyPost_ret (v := .agg #[.int .u64 v, .int .u64 0]) (by simp [results, Tryd.results17, go_sem]) rfl ?_
          exact ⟨rfl, Joins.below_alloc2 _ _ _⟩
end Go.Proofs.YtlcnhpjmmjmkcaaDoor

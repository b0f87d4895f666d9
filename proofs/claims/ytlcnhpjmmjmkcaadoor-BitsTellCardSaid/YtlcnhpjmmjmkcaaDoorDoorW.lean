
/-
  bits.Without: a set without a number. Condition: the number fits. And what a set has, counted.
-/
import Derived.Test.YtlcnhpjmmjmkcaaDoorDoorP
import Derived.Test.YtlcnhpjmmjmkcaaDoorRef03h
import Derived.Test.YtlcnhpjmmjmkcaaDoorRef03g
set_option linter.unusedVariables false
set_option linter.unusedSimpArgs false
namespace Go.Proofs.YtlcnhpjmmjmkcaaDoor
open Go.Joins Go.ChangeShapes Go.WideShapes Go.ChangeAt Go.RowKit Go.Deep

theorem sub_none {x : Nat} (hx : Wd x) : subW x 0 = x := by
  show x &&& (2 ^ 64 - 1) = x
  rw [Nat.and_two_pow_sub_one_eq_mod]
  exact Nat.mod_eq_of_lt hx
theorem with_or (x : Nat) (n : Int) : withX x n = x ||| withX 0 n := by
  unfold withX
  split <;> simp
theorem with_orY (y : Nat) (n : Int) : withY y n = y ||| withY 0 n := by
  unfold withY
  split <;> simp
theorem popN_zero (n : Nat) : popN 0 n = 0 := by
  induction n with
  | zero => rfl
  | succ n ih => simp [popN, ih]
theorem popN_succ (x n : Nat) : popN x (n + 1) = popN x n + (if x.testBit n then 1 else 0) := rfl
/-- How many of the first n there are. -/
theorem pre_count (x y n : Nat) (hn : n ≤ 128) : (preI x y n).length = popN x (min n 64) + popN y (n - 64) := by
  induction n with
  | zero => simp [preI, popN]
  | succ n ih =>
    have h := ih (by omega)
    have e : (preI x y (n + 1)).length = (preI x y n).length + (if memB x y (n : Int) then 1 else 0) := by
      cases hb : bitsF x y n with
      | true =>
        rw [pre_yes hb]
        unfold bitsF at hb
        rw [hb]
        simp
      | false =>
        rw [pre_no hb]
        unfold bitsF at hb
        rw [hb]
        simp
    rw [e, h, mem_nat]
    by_cases h64 : n < 64
    · rw [if_pos h64, show min (n + 1) 64 = n + 1 by omega, show min n 64 = n by omega, show n + 1 - 64 = 0 by omega, show n - 64 = 0 by omega, popN_succ x n]
      omega
    · rw [if_neg h64, if_pos (show n < 128 by omega), show min (n + 1) 64 = 64 by omega, show min n 64 = 64 by omega, show n + 1 - 64 = (n - 64) + 1 by omega, popN_succ y (n - 64)]
      omega
theorem items_count (x y : Nat) : (items x y).length = popN x 64 + popN y 64 := pre_count x y 128 (by omega)
set_option maxRecDepth 20000 in
set_option maxHeartbeats 1000000 in
theorem bits_Without (x y : Nat) (n : Int) (w : World) (hx : Wd x) (hy : Wd y) (hn : I64 n) : Calls Tryd.prog 27 #[sv x y, .int .i64 n] w fun e w' => e = .returned (sv (subW x (withX 0 n)) (subW y (withY 0 n))) ∧ Below w.heap.size w w' := by
  unfold sv
  unfold I64 at hn
  by_cases h0 : n < 0 ∨ 128 ≤ n
  · have e1 : subW x (withX 0 n) = x := by unfold withX; rw [if_neg (by omega), sub_none hx]
    have e2 : subW y (withY 0 n) = y := by unfold withY; rw [if_neg (by omega), sub_none hy]
    rw [e1, e2]
    clear hx hy e1 e2
    rcases h0 with h0 | h0
    · have q1 : decide (0 ≤ n) = false := decide_eq_false (by omega)
      go_enter Tryd.func27, Tryd.ntmps27
      go_wp2
      refine bodyPost_ret (v := .agg #[.int .u64 (x : Int), .int .u64 (y : Int)]) (by simp [results, Tryd.results27, go_sem]) rfl ?_
      exact ⟨rfl, by first | exact below_alloc1 _ _ | exact Joins.below_alloc2 _ _ _ | exact bel3 _ _ _ _ | exact (Joins.below_alloc2 _ _ _).drew | exact (bel3 _ _ _ _).drew | exact below_drewN (Joins.below_alloc2 _ _ _) _ | exact below_drewN (bel3 _ _ _ _) _⟩
    · have q1 : decide (0 ≤ n) = true := decide_eq_true (by omega)
      have q2 : decide (n < 128) = false := decide_eq_false (by omega)
      go_enter Tryd.func27, Tryd.ntmps27
      go_wp2
      refine bodyPost_ret (v := .agg #[.int .u64 (x : Int), .int .u64 (y : Int)]) (by simp [results, Tryd.results27, go_sem]) rfl ?_
      exact ⟨rfl, by first | exact below_alloc1 _ _ | exact Joins.below_alloc2 _ _ _ | exact bel3 _ _ _ _ | exact (Joins.below_alloc2 _ _ _).drew | exact (bel3 _ _ _ _).drew | exact below_drewN (Joins.below_alloc2 _ _ _) _ | exact below_drewN (bel3 _ _ _ _) _⟩
  · have q1 : decide (0 ≤ n) = true := decide_eq_true (by omega)
    have q2 : decide (n < 128) = true := decide_eq_true (by omega)
    have a1 := i64_and63 n (by omega) (by omega)
    rcases Int.lt_or_le n 64 with h1 | h1
    · obtain ⟨m, rfl⟩ := Int.eq_ofNat_of_zero_le (show 0 ≤ n by omega)
      have hm : m < 64 := by omega
      have e1 : subW x (withX 0 m) = x &&& (18446744073709551615 - 2 ^ m) := by unfold withX; rw [if_pos (by omega), Int.toNat_natCast, Nat.zero_or]; rfl
      have e2 : subW y (withY 0 m) = y := by unfold withY; rw [if_neg (by omega), sub_none hy]
      rw [e1, e2]
      have s1 := wrap_pow m hm
      have s2 := not_word x (2 ^ m) hx (two_pow_wd hm)
      have e3 : (m : Int) / 64 = 0 := by omega
      have e4 : (m : Int) % 64 = m := by omega
      rw [e4] at a1
      generalize ((x &&& (18446744073709551615 - 2 ^ m) : Nat) : Int) = r at *
      generalize ((2 ^ m : Nat) : Int) = r3 at *
      clear e1 e2 e4
      go_enter Tryd.func27, Tryd.ntmps27
      go_wp2
      go_region
      go_wp2
      refine bodyPost_ret (v := .agg #[.int .u64 r, .int .u64 (y : Int)]) (by simp [results, Tryd.results27, go_sem]) rfl ?_
      exact ⟨rfl, by first | exact below_alloc1 _ _ | exact Joins.below_alloc2 _ _ _ | exact bel3 _ _ _ _ | exact (Joins.below_alloc2 _ _ _).drew | exact (bel3 _ _ _ _).drew | exact below_drewN (Joins.below_alloc2 _ _ _) _ | exact below_drewN (bel3 _ _ _ _) _⟩
    · obtain ⟨m, hm2⟩ := Int.eq_ofNat_of_zero_le (show 0 ≤ n - 64 by omega)
      have hm : m < 64 := by omega
      obtain rfl : n = (m : Int) + 64 := by omega
      have e1 : subW x (withX 0 ((m : Int) + 64)) = x := by unfold withX; rw [if_neg (by omega), sub_none hx]
      have e2 : subW y (withY 0 ((m : Int) + 64)) = y &&& (18446744073709551615 - 2 ^ m) := by unfold withY; rw [if_pos (by omega), Nat.zero_or, show ((m : Int) + 64 - 64).toNat = m by omega]; rfl
      rw [e1, e2]
      have s1 := wrap_pow m hm
      have s2 := not_word y (2 ^ m) hy (two_pow_wd hm)
      have e3 : ((m : Int) + 64) / 64 = 1 := by omega
      have e4 : ((m : Int) + 64) % 64 = m := by omega
      rw [e4] at a1
      generalize ((y &&& (18446744073709551615 - 2 ^ m) : Nat) : Int) = r at *
      generalize ((2 ^ m : Nat) : Int) = r3 at *
      clear e1 e2 e4 hm2
      go_enter Tryd.func27, Tryd.ntmps27
      go_wp2
      go_region
      go_wp2
      refine bodyPost_ret (v := .agg #[.int .u64 (x : Int), .int .u64 r]) (by simp [results, Tryd.results27, go_sem]) rfl ?_
      exact ⟨rfl, by first | exact below_alloc1 _ _ | exact Joins.below_alloc2 _ _ _ | exact bel3 _ _ _ _ | exact (Joins.below_alloc2 _ _ _).drew | exact (bel3 _ _ _ _).drew | exact below_drewN (Joins.below_alloc2 _ _ _) _ | exact below_drewN (bel3 _ _ _ _) _⟩
end Go.Proofs.YtlcnhpjmmjmkcaaDoor

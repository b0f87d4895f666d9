
/-
  Sets: bits.Has, With, Or, Sub, Below, From. Condition: the numbers fit their kinds.
-/
import Derived.Test.YtlcnhpjmmjmkcaaDoorSet
import Derived.Test.YtlcnhpjmmjmkcaaDoorTail
set_option linter.unusedVariables false
set_option linter.unusedSimpArgs false
namespace Go.Proofs.YtlcnhpjmmjmkcaaDoor
open Go.Joins Go.ChangeShapes Go.WideShapes Go.ChangeAt Go.RowKit Go.Deep

theorem bel3 (w : World) (a b c : Obj) : Below w.heap.size w (((w.alloc a).alloc b).alloc c) := (Joins.below_alloc2 w a b).alloc (by simp; omega) c
theorem wrap_pow (m : Nat) (hm : m < 64) : IntKind.u64.wrap (2 ^ m) = ((2 ^ m : Nat) : Int) := by
  have h : (2 : Nat) ^ m ≤ 2 ^ 63 := Nat.pow_le_pow_right (by omega) (by omega)
  have e : ((2 ^ m : Nat) : Int) = 2 ^ m := by push_cast; rfl
  rw [← e]
  generalize 2 ^ m = z at *
  exact IntWalk.u64_in _ (by omega)
theorem wrap_mask (m : Nat) (hm : m < 64) : IntKind.u64.wrap (((2 ^ m : Nat) : Int) - 1) = ((2 ^ m - 1 : Nat) : Int) := by
  have h : (2 : Nat) ^ m ≤ 2 ^ 63 := Nat.pow_le_pow_right (by omega) (by omega)
  have h1 := Nat.pow_pos (n := m) (show 0 < 2 by omega)
  generalize 2 ^ m = z at *
  rw [IntWalk.u64_in _ (by omega)]
  omega
theorem box_below (w : World) (o : Obj) : Below w.heap.size w (w.alloc o) := below_alloc1 w o
set_option maxRecDepth 20000 in
set_option maxHeartbeats 1000000 in
theorem bits_Has (x y : Nat) (n : Int) (w : World) (hx : Wd x) (hy : Wd y) (hn : I64 n) : Calls Tryd.prog 24 #[sv x y, .int .i64 n] w fun e w' => e = .returned (.bool (memB x y n)) ∧ Below w.heap.size w w' := by
  unfold sv
  unfold I64 at hn
  by_cases h0 : n < 0 ∨ 128 ≤ n
  · rw [mem_out h0]
    clear hx hy
    rcases h0 with h0 | h0
    · have q1 : decide (0 ≤ n) = false := decide_eq_false (by omega)
      go_enter Tryd.func24, Tryd.ntmps24
      go_wp2
      go_ret
      exact ⟨rfl, box_below _ _⟩
    · have q1 : decide (0 ≤ n) = true := decide_eq_true (by omega)
      have q2 : decide (n < 128) = false := decide_eq_false (by omega)
      go_enter Tryd.func24, Tryd.ntmps24
      go_wp2
      go_ret
      exact ⟨rfl, box_below _ _⟩
  · have q1 : decide (0 ≤ n) = true := decide_eq_true (by omega)
    have q2 : decide (n < 128) = true := decide_eq_true (by omega)
    have a1 := i64_and63 n (by omega) (by omega)
    rcases Int.lt_or_le n 64 with h1 | h1
    · obtain ⟨m, rfl⟩ := Int.eq_ofNat_of_zero_le (show 0 ≤ n by omega)
      have hm : m < 64 := by omega
      rw [mem_low hm]
      have s1 : (x : Int) / 2 ^ m = ((x / 2 ^ m : Nat) : Int) := by push_cast; rfl
      have ht : Wd (x / 2 ^ m) := Nat.lt_of_le_of_lt (Nat.div_le_self _ _) hx
      have s2 := and_one _ ht
      have s3 := bit_eq x m
      have e1 : (m : Int) / 64 = 0 := by omega
      have e2 : (m : Int) % 64 = m := by omega
      rw [e2] at a1
      generalize x.testBit m = res at *
      generalize ((x / 2 ^ m % 2 : Nat) : Int) = t2 at *
      generalize ((x / 2 ^ m : Nat) : Int) = t at *
      clear ht e2
      go_enter Tryd.func24, Tryd.ntmps24
      go_wp2
      go_ret
      exact ⟨rfl, box_below _ _⟩
    · obtain ⟨m, hm2⟩ := Int.eq_ofNat_of_zero_le (show 0 ≤ n - 64 by omega)
      have hm : m < 64 := by omega
      obtain rfl : n = (m : Int) + 64 := by omega
      rw [mem_high hm]
      have s1 : (y : Int) / 2 ^ m = ((y / 2 ^ m : Nat) : Int) := by push_cast; rfl
      have ht : Wd (y / 2 ^ m) := Nat.lt_of_le_of_lt (Nat.div_le_self _ _) hy
      have s2 := and_one _ ht
      have s3 := bit_eq y m
      have e1 : ((m : Int) + 64) / 64 = 1 := by omega
      have e2 : ((m : Int) + 64) % 64 = m := by omega
      rw [e2] at a1
      generalize y.testBit m = res at *
      generalize ((y / 2 ^ m % 2 : Nat) : Int) = t2 at *
      generalize ((y / 2 ^ m : Nat) : Int) = t at *
      clear ht e2 hm2
      go_enter Tryd.func24, Tryd.ntmps24
      go_wp2
      go_ret
      exact ⟨rfl, box_below _ _⟩
set_option maxRecDepth 20000 in
set_option maxHeartbeats 1000000 in
theorem bits_Or (x y x' y' : Nat) (w : World) (hx : Wd x) (hy : Wd y) (hx' : Wd x') (hy' : Wd y') : Calls Tryd.prog 22 #[sv x y, sv x' y'] w fun e w' => e = .returned (sv (x ||| x') (y ||| y')) ∧ Below w.heap.size w w' := by
  unfold sv
  have a1 := or_word x x' hx hx'
  have a2 := or_word y y' hy hy'
  generalize ((x ||| x' : Nat) : Int) = r1 at *
  generalize ((y ||| y' : Nat) : Int) = r2 at *
  clear hx hy hx' hy'
  go_enter Tryd.func22, Tryd.ntmps22
  go_wp2
  refine bodyPost_ret (v := .agg #[.int .u64 r1, .int .u64 r2]) (by simp [results, Tryd.results22, go_sem]) rfl ?_
  exact ⟨rfl, by first | exact below_alloc1 _ _ | exact Joins.below_alloc2 _ _ _ | exact bel3 _ _ _ _ | exact (Joins.below_alloc2 _ _ _).drew | exact (bel3 _ _ _ _).drew | exact below_drewN (Joins.below_alloc2 _ _ _) _ | exact below_drewN (bel3 _ _ _ _) _⟩
set_option maxRecDepth 20000 in
set_option maxHeartbeats 1000000 in
theorem bits_With (x y : Nat) (n : Int) (w : World) (hx : Wd x) (hy : Wd y) (hn : I64 n) : Calls Tryd.prog 26 #[sv x y, .int .i64 n] w fun e w' => e = .returned (sv (withX x n) (withY y n)) ∧ Below w.heap.size w w' := by
  unfold sv
  unfold I64 at hn
  by_cases h0 : n < 0 ∨ 128 ≤ n
  · have e1 : withX x n = x := by unfold withX; rw [if_neg (by omega)]
    have e2 : withY y n = y := by unfold withY; rw [if_neg (by omega)]
    rw [e1, e2]
    clear hx hy e1 e2
    rcases h0 with h0 | h0
    · have q1 : decide (0 ≤ n) = false := decide_eq_false (by omega)
      go_enter Tryd.func26, Tryd.ntmps26
      go_wp2
      refine bodyPost_ret (v := .agg #[.int .u64 (x : Int), .int .u64 (y : Int)]) (by simp [results, Tryd.results26, go_sem]) rfl ?_
      exact ⟨rfl, by first | exact below_alloc1 _ _ | exact Joins.below_alloc2 _ _ _ | exact bel3 _ _ _ _ | exact (Joins.below_alloc2 _ _ _).drew | exact (bel3 _ _ _ _).drew | exact below_drewN (Joins.below_alloc2 _ _ _) _ | exact below_drewN (bel3 _ _ _ _) _⟩
    · have q1 : decide (0 ≤ n) = true := decide_eq_true (by omega)
      have q2 : decide (n < 128) = false := decide_eq_false (by omega)
      go_enter Tryd.func26, Tryd.ntmps26
      go_wp2
      refine bodyPost_ret (v := .agg #[.int .u64 (x : Int), .int .u64 (y : Int)]) (by simp [results, Tryd.results26, go_sem]) rfl ?_
      exact ⟨rfl, by first | exact below_alloc1 _ _ | exact Joins.below_alloc2 _ _ _ | exact bel3 _ _ _ _ | exact (Joins.below_alloc2 _ _ _).drew | exact (bel3 _ _ _ _).drew | exact below_drewN (Joins.below_alloc2 _ _ _) _ | exact below_drewN (bel3 _ _ _ _) _⟩
  · have q1 : decide (0 ≤ n) = true := decide_eq_true (by omega)
    have q2 : decide (n < 128) = true := decide_eq_true (by omega)
    have a1 := i64_and63 n (by omega) (by omega)
    rcases Int.lt_or_le n 64 with h1 | h1
    · obtain ⟨m, rfl⟩ := Int.eq_ofNat_of_zero_le (show 0 ≤ n by omega)
      have hm : m < 64 := by omega
      have e1 : withX x m = x ||| 2 ^ m := by unfold withX; rw [if_pos (by omega), Int.toNat_natCast]
      have e2 : withY y m = y := by unfold withY; rw [if_neg (by omega)]
      rw [e1, e2]
      have s1 := wrap_pow m hm
      have s2 := or_word x (2 ^ m) hx (two_pow_wd hm)
      have e3 : (m : Int) / 64 = 0 := by omega
      have e4 : (m : Int) % 64 = m := by omega
      rw [e4] at a1
      generalize ((x ||| 2 ^ m : Nat) : Int) = r at *
      generalize ((2 ^ m : Nat) : Int) = r3 at *
      clear e1 e2 e4
      go_enter Tryd.func26, Tryd.ntmps26
      go_wp2
      go_region
      go_wp2
      refine bodyPost_ret (v := .agg #[.int .u64 r, .int .u64 (y : Int)]) (by simp [results, Tryd.results26, go_sem]) rfl ?_
      exact ⟨rfl, by first | exact below_alloc1 _ _ | exact Joins.below_alloc2 _ _ _ | exact bel3 _ _ _ _ | exact (Joins.below_alloc2 _ _ _).drew | exact (bel3 _ _ _ _).drew | exact below_drewN (Joins.below_alloc2 _ _ _) _ | exact below_drewN (bel3 _ _ _ _) _⟩
    · obtain ⟨m, hm2⟩ := Int.eq_ofNat_of_zero_le (show 0 ≤ n - 64 by omega)
      have hm : m < 64 := by omega
      obtain rfl : n = (m : Int) + 64 := by omega
      have e1 : withX x ((m : Int) + 64) = x := by unfold withX; rw [if_neg (by omega)]
      have e2 : withY y ((m : Int) + 64) = y ||| 2 ^ m := by unfold withY; rw [if_pos (by omega)]; congr 2; omega
      rw [e1, e2]
      have s1 := wrap_pow m hm
      have s2 := or_word y (2 ^ m) hy (two_pow_wd hm)
      have e3 : ((m : Int) + 64) / 64 = 1 := by omega
      have e4 : ((m : Int) + 64) % 64 = m := by omega
      rw [e4] at a1
      generalize ((y ||| 2 ^ m : Nat) : Int) = r at *
      generalize ((2 ^ m : Nat) : Int) = r3 at *
      clear e1 e2 e4 hm2
      go_enter Tryd.func26, Tryd.ntmps26
      go_wp2
      go_region
      go_wp2
      refine bodyPost_ret (v := .agg #[.int .u64 (x : Int), .int .u64 r]) (by simp [results, Tryd.results26, go_sem]) rfl ?_
      exact ⟨rfl, by first | exact below_alloc1 _ _ | exact Joins.below_alloc2 _ _ _ | exact bel3 _ _ _ _ | exact (Joins.below_alloc2 _ _ _).drew | exact (bel3 _ _ _ _).drew | exact below_drewN (Joins.below_alloc2 _ _ _) _ | exact below_drewN (bel3 _ _ _ _) _⟩
set_option maxRecDepth 20000 in
set_option maxHeartbeats 1000000 in
theorem bits_Sub (x y x' y' : Nat) (w : World) (hx : Wd x) (hy : Wd y) (hx' : Wd x') (hy' : Wd y') : Calls Tryd.prog 23 #[sv x y, sv x' y'] w fun e w' => e = .returned (sv (subW x x') (subW y y')) ∧ Below w.heap.size w w' := by
  unfold sv subW
  have a1 := not_word x x' hx hx'
  have a2 := not_word y y' hy hy'
  generalize ((x &&& (18446744073709551615 - x') : Nat) : Int) = r1 at *
  generalize ((y &&& (18446744073709551615 - y') : Nat) : Int) = r2 at *
  clear hx hy hx' hy'
  go_enter Tryd.func23, Tryd.ntmps23
  go_wp2
  refine bodyPost_ret (v := .agg #[.int .u64 r1, .int .u64 r2]) (by simp [results, Tryd.results23, go_sem]) rfl ?_
  exact ⟨rfl, bel3 _ _ _ _⟩
set_option maxRecDepth 20000 in
set_option maxHeartbeats 1000000 in
theorem bits_Below (x y : Nat) (n : Int) (w : World) (hx : Wd x) (hy : Wd y) (hn : I64 n) : Calls Tryd.prog 39 #[sv x y, .int .i64 n] w fun e w' => e = .returned (sv (belX x n) (belY y n)) ∧ Below w.heap.size w w' := by
  unfold sv
  unfold I64 at hn
  rcases Int.lt_or_le 0 n with h0 | h0
  · have q0 : decide (n ≤ 0) = false := decide_eq_false (by omega)
    rcases Int.lt_or_le n 128 with h1 | h1
    · have q1 : decide (128 ≤ n) = false := decide_eq_false (by omega)
      rcases Int.lt_or_le n 64 with h2 | h2
      · have q2 : decide (64 ≤ n) = false := decide_eq_false (by omega)
        obtain ⟨m, rfl⟩ := Int.eq_ofNat_of_zero_le (show 0 ≤ n by omega)
        have hm : m < 64 := by omega
        have e1 : belX x m = x % 2 ^ m := by unfold belX; rw [if_neg (by omega), if_neg (by omega), Int.toNat_natCast]
        have e2 : belY y m = 0 := by unfold belY; rw [if_pos (by omega)]
        rw [e1, e2, ← mask_mod]
        have s1 := wrap_pow m hm
        have s2 := wrap_mask m hm
        have s3 := and_word x (2 ^ m - 1) hx (by have := two_pow_wd hm; show 2 ^ m - 1 < _; omega)
        generalize ((x &&& (2 ^ m - 1) : Nat) : Int) = r at *
        generalize ((2 ^ m - 1 : Nat) : Int) = r2 at *
        generalize ((2 ^ m : Nat) : Int) = r3 at *
        clear e1 e2
        go_enter Tryd.func39, Tryd.ntmps39
        go_wp2
        go_region
        go_wp2
        refine bodyPost_ret (v := .agg #[.int .u64 r, .int .u64 0]) (by simp [results, Tryd.results39, go_sem]) rfl ?_
        exact ⟨rfl, by first | exact Joins.below_alloc2 _ _ _ | exact (Joins.below_alloc2 _ _ _).drew | exact below_drewN (Joins.below_alloc2 _ _ _) _⟩
      · have q2 : decide (64 ≤ n) = true := decide_eq_true (by omega)
        have a1 := i64_and63 n (by omega) (by omega)
        obtain ⟨m, hm2⟩ := Int.eq_ofNat_of_zero_le (show 0 ≤ n - 64 by omega)
        have hm : m < 64 := by omega
        obtain rfl : n = (m : Int) + 64 := by omega
        have e1 : belX x ((m : Int) + 64) = x := by unfold belX; rw [if_neg (by omega), if_pos (by omega)]
        have e2 : belY y ((m : Int) + 64) = y % 2 ^ m := by unfold belY; rw [if_neg (by omega), if_neg (by omega)]; congr 2; omega
        rw [e1, e2, ← mask_mod]
        have e4 : ((m : Int) + 64) % 64 = m := by omega
        rw [e4] at a1
        have s1 := wrap_pow m hm
        have s2 := wrap_mask m hm
        have s3 := and_word y (2 ^ m - 1) hy (by have := two_pow_wd hm; show 2 ^ m - 1 < _; omega)
        generalize ((y &&& (2 ^ m - 1) : Nat) : Int) = r at *
        generalize ((2 ^ m - 1 : Nat) : Int) = r2 at *
        generalize ((2 ^ m : Nat) : Int) = r3 at *
        clear e1 e2 e4 hm2
        go_enter Tryd.func39, Tryd.ntmps39
        go_wp2
        go_region
        go_wp2
        refine bodyPost_ret (v := .agg #[.int .u64 (x : Int), .int .u64 r]) (by simp [results, Tryd.results39, go_sem]) rfl ?_
        exact ⟨rfl, by first | exact Joins.below_alloc2 _ _ _ | exact (Joins.below_alloc2 _ _ _).drew | exact below_drewN (Joins.below_alloc2 _ _ _) _⟩
    · have q1 : decide (128 ≤ n) = true := decide_eq_true (by omega)
      have e1 : belX x n = x := by unfold belX; rw [if_neg (by omega), if_pos (by omega)]
      have e2 : belY y n = y := by unfold belY; rw [if_neg (by omega), if_pos (by omega)]
      rw [e1, e2]
      clear e1 e2
      go_enter Tryd.func39, Tryd.ntmps39
      go_wp2
      refine bodyPost_ret (v := .agg #[.int .u64 (x : Int), .int .u64 (y : Int)]) (by simp [results, Tryd.results39, go_sem]) rfl ?_
      exact ⟨rfl, Joins.below_alloc2 _ _ _⟩
  · have q0 : decide (n ≤ 0) = true := decide_eq_true (by omega)
    have e1 : belX x n = 0 := by unfold belX; rw [if_pos h0]
    have e2 : belY y n = 0 := by unfold belY; rw [if_pos (by omega)]
    rw [e1, e2]
    clear e1 e2
    go_enter Tryd.func39, Tryd.ntmps39
    go_wp2
    refine bodyPost_ret (v := .agg #[.int .u64 0, .int .u64 0]) (by simp [results, Tryd.results39, go_sem]) rfl ?_
    exact ⟨rfl, Joins.below_alloc2 _ _ _⟩
end Go.Proofs.YtlcnhpjmmjmkcaaDoor

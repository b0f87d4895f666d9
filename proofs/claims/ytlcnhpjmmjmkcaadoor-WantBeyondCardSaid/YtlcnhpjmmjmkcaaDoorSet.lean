
/-
  Sets of numbers from 0 to 127 as two words: what the code's bit operations are in numbers. No conditions beyond the kinds.
-/
import Derived.Test.YtlcnhpjmmjmkcaaDoorBits
import Derived.Laws.BitsAllLaws
set_option linter.unusedVariables false
set_option linter.unusedSimpArgs false
namespace Go.Proofs.YtlcnhpjmmjmkcaaDoor
open Go.RowKit

abbrev Wd (x : Nat) : Prop := x < 18446744073709551616
def sv (x y : Nat) : Value := .agg #[.int .u64 (x : Int), .int .u64 (y : Int)]
/-- Is a number in a set? -/
def memB (x y : Nat) (n : Int) : Bool := if 0 ≤ n ∧ n < 64 then x.testBit n.toNat else if 64 ≤ n ∧ n < 128 then y.testBit (n - 64).toNat else false
theorem i64_and63 (n : Int) (h : 0 ≤ n) (h2 : n < 9223372036854775808) : bits .and .i64 n 63 = n % 64 := by
  show IntKind.i64.wrap ((BitVec.ofInt 64 n &&& BitVec.ofInt 64 63).toNat : Int) = _
  obtain ⟨m, rfl⟩ := Int.eq_ofNat_of_zero_le h
  have e1 : (BitVec.ofInt 64 (m : Int)).toNat = m := by
    have := toNat_ofInt (m : Int)
    omega
  have e2 : (BitVec.ofInt 64 63).toNat = 63 := rfl
  rw [BitVec.toNat_and, e1, e2, show (63 : Nat) = 2 ^ 6 - 1 from rfl, Nat.and_two_pow_sub_one_eq_mod, IntKind.wrap_i64]
  omega
theorem shr_word (x m : Nat) (hx : Wd x) (hm : m < 64) : Op.shift .shr .u64 (x : Int) .i64 (m : Int) = pure (.int .u64 ((x / 2 ^ m : Nat) : Int)) := by
  refine (Go.shift_shr .u64 .i64 (x : Int) (m : Int) (by omega) (by show (m : Int) ≤ 64; omega)).trans ?_
  rw [Int.toNat_natCast]
  congr 2
theorem shl_one (m : Nat) (hm : m < 64) : Op.shift .shl .u64 1 .i64 (m : Int) = pure (.int .u64 ((2 ^ m : Nat) : Int)) := by
  refine (Go.shift_shl .u64 .i64 1 (m : Int) (by omega) (by show (m : Int) ≤ 64; omega)).trans ?_
  congr 2
  rw [Int.toNat_natCast, Int.one_mul]
  have h : (2 : Nat) ^ m ≤ 2 ^ 63 := Nat.pow_le_pow_right (by omega) (by omega)
  have e : ((2 ^ m : Nat) : Int) = 2 ^ m := by push_cast; rfl
  rw [← e]
  generalize 2 ^ m = z at *
  exact IntWalk.u64_in _ (by omega)
theorem two_pow_wd {m : Nat} (hm : m < 64) : Wd (2 ^ m) := by
  have h : (2 : Nat) ^ m ≤ 2 ^ 63 := Nat.pow_le_pow_right (by omega) (by omega)
  show 2 ^ m < 18446744073709551616
  omega
theorem and_one (t : Nat) (ht : Wd t) : bits .and .u64 (t : Int) 1 = ((t % 2 : Nat) : Int) := by
  have := u64_and_nat t 1 ht (by decide)
  rw [Nat.and_one_is_mod] at this
  exact this
theorem bit_eq (x m : Nat) : (((x / 2 ^ m % 2 : Nat) : Int) == 1) = x.testBit m := by
  rw [Nat.testBit_eq_decide_div_mod_eq]
  generalize x / 2 ^ m % 2 = z
  by_cases h : z = 1
  · rw [h]; rfl
  · rw [decide_eq_false h]; exact beq_eq_false_iff_ne.2 (by omega)
theorem or_word (x z : Nat) (hx : Wd x) (hz : Wd z) : bits .or .u64 (x : Int) (z : Int) = ((x ||| z : Nat) : Int) := u64_or_nat x z hx hz
theorem and_word (x z : Nat) (hx : Wd x) (hz : Wd z) : bits .and .u64 (x : Int) (z : Int) = ((x &&& z : Nat) : Int) := u64_and_nat x z hx hz
theorem not_word (x z : Nat) (hx : Wd x) (hz : Wd z) : bits .andNot .u64 (x : Int) (z : Int) = ((x &&& (18446744073709551615 - z) : Nat) : Int) := u64_andNot_nat x z hx hz
theorem wd_or {x z : Nat} (hx : Wd x) (hz : Wd z) : Wd (x ||| z) := Nat.or_lt_two_pow (n := 64) hx hz
theorem wd_and {x : Nat} (z : Nat) (hx : Wd x) : Wd (x &&& z) := Nat.lt_of_le_of_lt Nat.and_le_left hx
theorem mask_mod (x m : Nat) : x &&& (2 ^ m - 1) = x % 2 ^ m := Nat.and_two_pow_sub_one_eq_mod x m
theorem bit_high {x m : Nat} (hx : Wd x) (hm : 64 ≤ m) : x.testBit m = false := Nat.testBit_lt_two_pow (Nat.lt_of_lt_of_le hx (Nat.pow_le_pow_right (n := 2) (i := 64) (by omega) hm))
/-- The bits of what is taken out. -/
theorem bit_sub {x z m : Nat} (hz : Wd z) (hm : m < 64) : (x &&& (18446744073709551615 - z)).testBit m = (x.testBit m && !z.testBit m) := by
  rw [Nat.testBit_and, show 18446744073709551615 - z = 2 ^ 64 - (z + 1) by omega, Nat.testBit_two_pow_sub_succ hz]
  simp [hm]
/-- Two words are the same when their bits are. -/
theorem word_ext {x z : Nat} (hx : Wd x) (hz : Wd z) (h : ∀ m, m < 64 → x.testBit m = z.testBit m) : x = z := by
  apply Nat.eq_of_testBit_eq
  intro m
  rcases Nat.lt_or_ge m 64 with hm | hm
  · exact h m hm
  · rw [bit_high hx hm, bit_high hz hm]
theorem mem_low {x y m : Nat} (hm : m < 64) : memB x y (m : Int) = x.testBit m := by
  unfold memB; rw [if_pos (by omega), Int.toNat_natCast]
theorem mem_high {x y m : Nat} (hm : m < 64) : memB x y ((m : Int) + 64) = y.testBit m := by
  unfold memB; rw [if_neg (by omega), if_pos (by omega)]
  congr 1; omega
theorem mem_out {x y : Nat} {n : Int} (h : n < 0 ∨ 128 ≤ n) : memB x y n = false := by
  unfold memB; rw [if_neg (by omega), if_neg (by omega)]
theorem set_ext {x y x' y' : Nat} (h1 : Wd x) (h2 : Wd y) (h3 : Wd x') (h4 : Wd y') (h : ∀ n : Int, 0 ≤ n → n < 128 → memB x y n = memB x' y' n) : x = x' ∧ y = y' := by
  constructor
  · refine word_ext h1 h3 fun m hm => ?_
    have := h m (by omega) (by omega)
    rwa [mem_low hm, mem_low hm] at this
  · refine word_ext h2 h4 fun m hm => ?_
    have := h ((m : Int) + 64) (by omega) (by omega)
    rwa [mem_high hm, mem_high hm] at this
theorem mem_or {x y x' y' : Nat} (n : Int) : memB (x ||| x') (y ||| y') n = (memB x y n || memB x' y' n) := by
  unfold memB
  split
  · rw [Nat.testBit_or]
  · split
    · rw [Nat.testBit_or]
    · rfl
theorem mem_zero (n : Int) : memB 0 0 n = false := by unfold memB; simp
/-- A number more. -/
def withX (x : Nat) (n : Int) : Nat := if 0 ≤ n ∧ n < 64 then x ||| 2 ^ n.toNat else x
def withY (y : Nat) (n : Int) : Nat := if 64 ≤ n ∧ n < 128 then y ||| 2 ^ (n - 64).toNat else y
theorem wd_withX {x : Nat} (n : Int) (h : Wd x) : Wd (withX x n) := by
  unfold withX; split
  · exact wd_or h (two_pow_wd (by omega))
  · exact h
theorem wd_withY {x : Nat} (n : Int) (h : Wd x) : Wd (withY x n) := by
  unfold withY; split
  · exact wd_or h (two_pow_wd (by omega))
  · exact h
theorem mem_with {x y : Nat} (n k : Int) : memB (withX x n) (withY y n) k = (memB x y k || (decide (0 ≤ n ∧ n < 128) && decide (n = k))) := by
  unfold memB withX withY
  by_cases hk : 0 ≤ k ∧ k < 64
  · rw [if_pos hk, if_pos hk]
    by_cases hn : 0 ≤ n ∧ n < 64
    · rw [if_pos hn, Nat.testBit_or, Nat.testBit_two_pow]
      congr 1
      rw [decide_eq_true (show 0 ≤ n ∧ n < 128 by omega), Bool.true_and]
      by_cases e : n = k
      · rw [decide_eq_true e, decide_eq_true (by omega)]
      · rw [decide_eq_false e, decide_eq_false (by omega)]
    · rw [if_neg hn]
      by_cases hn2 : 0 ≤ n ∧ n < 128
      · rw [decide_eq_false (show ¬ n = k by omega)]; simp
      · rw [decide_eq_false hn2]; simp
  · rw [if_neg hk, if_neg hk]
    by_cases hk2 : 64 ≤ k ∧ k < 128
    · rw [if_pos hk2, if_pos hk2]
      by_cases hn : 64 ≤ n ∧ n < 128
      · rw [if_pos hn, Nat.testBit_or, Nat.testBit_two_pow]
        congr 1
        rw [decide_eq_true (show 0 ≤ n ∧ n < 128 by omega), Bool.true_and]
        by_cases e : n = k
        · rw [decide_eq_true e, decide_eq_true (by omega)]
        · rw [decide_eq_false e, decide_eq_false (by omega)]
      · rw [if_neg hn]
        by_cases hn2 : 0 ≤ n ∧ n < 128
        · rw [decide_eq_false (show ¬ n = k by omega)]; simp
        · rw [decide_eq_false hn2]; simp
    · rw [if_neg hk2, if_neg hk2]
      by_cases hn2 : 0 ≤ n ∧ n < 128
      · rw [decide_eq_false (show ¬ n = k by omega)]; simp
      · rw [decide_eq_false hn2]; simp
/-- What is below a number. -/
def belX (x : Nat) (n : Int) : Nat := if n ≤ 0 then 0 else if 64 ≤ n then x else x % 2 ^ n.toNat
def belY (y : Nat) (n : Int) : Nat := if n < 64 then 0 else if 128 ≤ n then y else y % 2 ^ (n - 64).toNat
theorem wd_belX {x : Nat} (n : Int) (h : Wd x) : Wd (belX x n) := by
  unfold belX; split
  · show 0 < 18446744073709551616; omega
  · split
    · exact h
    · exact Nat.lt_of_le_of_lt (Nat.mod_le _ _) h
theorem wd_belY {x : Nat} (n : Int) (h : Wd x) : Wd (belY x n) := by
  unfold belY; split
  · show 0 < 18446744073709551616; omega
  · split
    · exact h
    · exact Nat.lt_of_le_of_lt (Nat.mod_le _ _) h
theorem mem_bel {x y : Nat} (n k : Int) : memB (belX x n) (belY y n) k = (memB x y k && decide (k < n)) := by
  unfold memB belX belY
  by_cases hk : 0 ≤ k ∧ k < 64
  · rw [if_pos hk, if_pos hk]
    by_cases h0 : n ≤ 0
    · rw [if_pos h0, decide_eq_false (by omega)]; simp
    · rw [if_neg h0]
      by_cases h1 : 64 ≤ n
      · rw [if_pos h1, decide_eq_true (by omega)]; simp
      · rw [if_neg h1, Nat.testBit_mod_two_pow, Bool.and_comm]
        congr 1
        by_cases e : k < n
        · rw [decide_eq_true e, decide_eq_true (by omega)]
        · rw [decide_eq_false e, decide_eq_false (by omega)]
  · rw [if_neg hk, if_neg hk]
    by_cases hk2 : 64 ≤ k ∧ k < 128
    · rw [if_pos hk2, if_pos hk2]
      by_cases h0 : n < 64
      · rw [if_pos h0, decide_eq_false (by omega)]; simp
      · rw [if_neg h0]
        by_cases h1 : 128 ≤ n
        · rw [if_pos h1, decide_eq_true (by omega)]; simp
        · rw [if_neg h1, Nat.testBit_mod_two_pow, Bool.and_comm]
          congr 1
          by_cases e : k < n
          · rw [decide_eq_true e, decide_eq_true (by omega)]
          · rw [decide_eq_false e, decide_eq_false (by omega)]
    · rw [if_neg hk2, if_neg hk2]; simp
def subW (x z : Nat) : Nat := x &&& (18446744073709551615 - z)
theorem mem_sub {x y x' y' : Nat} (h1 : Wd x') (h2 : Wd y') (k : Int) : memB (subW x x') (subW y y') k = (memB x y k && !memB x' y' k) := by
  unfold memB subW
  by_cases hk : 0 ≤ k ∧ k < 64
  · simp only [if_pos hk]
    exact bit_sub h1 (by omega)
  · simp only [if_neg hk]
    by_cases hk2 : 64 ≤ k ∧ k < 128
    · simp only [if_pos hk2]
      exact bit_sub h2 (by omega)
    · simp only [if_neg hk2]; rfl
/-- What is not below a number. -/
def fromX (x : Nat) (n : Int) : Nat := subW x (belX x n)
def fromY (y : Nat) (n : Int) : Nat := subW y (belY y n)
theorem wd_from {x y : Nat} (n : Int) (hx : Wd x) (hy : Wd y) : Wd (fromX x n) ∧ Wd (fromY y n) := ⟨wd_and _ hx, wd_and _ hy⟩
theorem mem_from {x y : Nat} (hx : Wd x) (hy : Wd y) (n k : Int) : memB (fromX x n) (fromY y n) k = (memB x y k && decide (n ≤ k)) := by
  unfold fromX fromY
  rw [mem_sub (wd_belX n hx) (wd_belY n hy), mem_bel]
  by_cases h : k < n
  · rw [decide_eq_true h, decide_eq_false (by omega)]; simp
  · rw [decide_eq_false h, decide_eq_true (by omega)]; simp
/-- A set is empty when it has no number. -/
theorem empty_iff {x y : Nat} (hx : Wd x) (hy : Wd y) : (x = 0 ∧ y = 0) ↔ ∀ n : Int, 0 ≤ n → n < 128 → memB x y n = false := by
  constructor
  · rintro ⟨rfl, rfl⟩ n _ _; exact mem_zero n
  · intro h
    exact set_ext hx hy (by show 0 < 18446744073709551616; omega) (by show 0 < 18446744073709551616; omega) fun n a b => by rw [h n a b, mem_zero]
end Go.Proofs.YtlcnhpjmmjmkcaaDoor

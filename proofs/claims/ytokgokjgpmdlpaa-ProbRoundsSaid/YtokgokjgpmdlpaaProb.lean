/-
  Parts of 2^32: prob.Times, Power, Part and the document's. Condition: the arguments fit their kinds.
-/
import Derived.Test.YtokgokjgpmdlpaaNumsMul2
set_option linter.unusedVariables false
set_option linter.unusedSimpArgs false
namespace Go.Proofs.Ytokgokjgpmdlpaa
open Go.Joins Go.ChangeShapes Go.WideShapes Go.ChangeAt Go.RowKit Go.Deep

/-- A number fits 64 bits without a sign. -/
def U64 (a : Int) : Prop := 0 ≤ a ∧ a ≤ 18446744073709551615
/-- A part of a part. -/
def timesV (a b : Int) : Int := a * b / 4294967296 % 18446744073709551616
theorem or_hi (x y : Int) (hx0 : 0 ≤ x) (hx : x ≤ 18446744073709551615) (hx2 : x % 4294967296 = 0) (h0 : 0 ≤ y) (h1 : y ≤ 4294967295) : bits .or .u64 x y = x + y := by
  obtain ⟨x, rfl⟩ := Int.eq_ofNat_of_zero_le hx0
  obtain ⟨y, rfl⟩ := Int.eq_ofNat_of_zero_le h0
  rw [bits_or_u64_nat x y (by omega) (by omega)]
  have e : x = (x / 4294967296) <<< 32 := by rw [Nat.shiftLeft_eq]; omega
  have := Nat.shiftLeft_add_eq_or_of_lt (show y < 2 ^ 32 by omega) (x / 4294967296)
  rw [← e] at this
  rw [← this]
  omega
theorem timesV_hi (M : Int) : M / 18446744073709551616 * 4294967296 % 18446744073709551616 + M % 18446744073709551616 / 4294967296 = M / 4294967296 % 18446744073709551616 := by omega
theorem prob_Times (a b : Int) (w : World) (ha : U64 a) (hb : U64 b) : Calls Try.prog 25 #[.int .u64 a, .int .u64 b] w fun e w' => e = .returned (.int .u64 (timesV a b)) ∧ w = w' := by
  have cM := fun w => mul64 a b w ha.1 ha.2 hb.1 hb.2
  have m0 : 0 ≤ a * b := Int.mul_nonneg ha.1 hb.1
  have m1 : a * b ≤ 18446744073709551615 * 18446744073709551615 := Int.mul_le_mul ha.2 hb.2 hb.1 (by omega)
  unfold timesV
  generalize a * b = M at *
  have hor := or_hi (M / 18446744073709551616 * 4294967296 % 18446744073709551616) (M % 18446744073709551616 / 4294967296) (by omega) (by omega) (by omega) (by omega) (by omega)
  rw [timesV_hi] at hor
  have HOR := Lib.hid hor
  have CM := Lib.hid cM
  clear cM hor
  go_enter Try.func25, Try.ntmps25
  go_wp2_with (first | (go_at_call 63; refine (CM.out _).mono ?_; rintro e w' ⟨rfl, rfl⟩))
  go_ret
  refine ⟨ret_int ?_, rfl⟩
  rw [← HOR.out]
  first | rfl | (rw [IntKind.wrap_u64]; rfl)
theorem ref56_Times (a b : Int) (w : World) (ha : U64 a) (hb : U64 b) : Calls Try.prog 26 #[.int .u64 a, .int .u64 b] w fun e w' => e = .returned (.int .u64 (timesV a b)) ∧ w = w' := by
  have cM := fun w => ref_Times a b w ha.1 ha.2 hb.1 hb.2
  have m0 : 0 ≤ a * b := Int.mul_nonneg ha.1 hb.1
  have m1 : a * b ≤ 18446744073709551615 * 18446744073709551615 := Int.mul_le_mul ha.2 hb.2 hb.1 (by omega)
  unfold timesV
  generalize a * b = M at *
  have CM := Lib.hid cM
  clear cM
  go_enter Try.func26, Try.ntmps26
  go_wp2_with (first | (go_at_call 64; refine (CM.out _).mono ?_; rintro e w' ⟨rfl, rfl⟩))
  go_ret
  exact ⟨ret_int (by omega), rfl⟩

/-- So many times. -/
def powP (a : Int) : Nat → Int
  | 0 => 4294967296
  | k + 1 => timesV (powP a k) (min a 4294967296)
theorem times_le {a b : Int} (ha : 0 ≤ a) (ha' : a ≤ 4294967296) (hb : 0 ≤ b) (hb' : b ≤ 4294967296) : 0 ≤ timesV a b ∧ timesV a b ≤ 4294967296 ∧ timesV a b = a * b / 4294967296 ∧ timesV a b ≤ a := by
  have m0 : 0 ≤ a * b := Int.mul_nonneg ha hb
  have m1 : a * b ≤ 4294967296 * 4294967296 := Int.mul_le_mul ha' hb' hb (by omega)
  have m2 : a * b ≤ a * 4294967296 := Int.mul_le_mul_of_nonneg_left hb' ha
  unfold timesV
  generalize a * b = M at *
  omega
theorem powP_bd (a : Int) (ha : 0 ≤ a) (k : Nat) : 0 ≤ powP a k ∧ powP a k ≤ 4294967296 := by
  induction k with
  | zero => simp [powP]
  | succ k ih =>
    have := times_le ih.1 ih.2 (b := min a 4294967296) (by omega) (by omega)
    exact ⟨this.1, this.2.1⟩
/-- How many times at most. -/
def cntP (n : Int) : Nat := (min n 1000).toNat
theorem powP_min (a : Int) (k : Nat) : powP (min a 4294967296) k = powP a k := by
  induction k with
  | zero => rfl
  | succ k ih => simp only [powP, ih]; congr 1; omega

set_option maxRecDepth 20000 in
set_option maxHeartbeats 1000000 in
theorem prob_Power (a n : Int) (w : World) (ha : U64 a) : Calls Try.prog 27 #[.int .u64 a, .int .i64 n] w fun e w' => e = .returned (.int .u64 (powP a (cntP n))) ∧ w = w' := by
  obtain ⟨a0, a1⟩ := ha
  have hbd := powP_bd a a0
  have HBD := Lib.hid hbd
  clear hbd
  rcases Int.lt_or_le 4294967296 a with hc | hc <;> rcases Int.lt_or_le 1000 n with hn | hn
  all_goals
    have hc2 := hc
    go_enter Try.func27, Try.ntmps27
    go_wp2
    go_loop [5, 8] (fun u v => ∃ k : Nat, k ≤ 1000 ∧ v = .int .i64 k ∧ (k = 0 ∨ (k : Int) ≤ n) ∧ u = .int .u64 (powP a k)) (fun _ v => 1000 - (intOf v).toNat)
    case atStart => exact ⟨0, by omega, rfl, .inl rfl, rfl⟩
    case round =>
      obtain ⟨k, hk, rfl, hkn, rfl⟩ := hrel
      by_cases hlt : (k : Int) < n ∧ k < 1000
      · obtain ⟨hl1, hl2⟩ := hlt
        obtain ⟨p0, p1⟩ := HBD.out k
        have hs : powP a (k + 1) = timesV (powP a k) (min a 4294967296) := rfl
        rw [show min a 4294967296 = _ by first | exact Int.min_eq_left hc | exact Int.min_eq_right (Int.le_of_lt hc)] at hs
        have HS := Lib.hid hs
        clear hs
        go_wp2_with (first | (go_at_call 25; refine (prob_Times _ _ _ ⟨by omega, by omega⟩ ⟨by omega, by omega⟩).mono ?_; rintro e w' ⟨rfl, rfl⟩))
        go_round
        case rel => exact ⟨k + 1, by omega, by go_num, .inr (by omega), by rw [HS.out]⟩
        case measure => simp [intOf]; omega
      · have hk2 : cntP n = k := by unfold cntP; omega
        have HK := Lib.hid hk2
        clear hk2
        go_wp2
        go_ret
        exact ⟨ret_int (by rw [HK.out]), rfl⟩
set_option maxRecDepth 20000 in
set_option maxHeartbeats 1000000 in
theorem ref56_Power (a n : Int) (w : World) (ha : U64 a) : Calls Try.prog 28 #[.int .u64 a, .int .i64 n] w fun e w' => e = .returned (.int .u64 (powP a (cntP n))) ∧ w = w' := by
  obtain ⟨a0, a1⟩ := ha
  have hbd := powP_bd a a0
  have HBD := Lib.hid hbd
  clear hbd
  rcases Int.lt_or_le 4294967296 a with hc | hc
  all_goals
    have hc2 := hc
    go_enter Try.func28, Try.ntmps28
    go_wp2
    go_loop [5, 6] (fun u v => ∃ k : Nat, k ≤ 1000 ∧ v = .int .i64 k ∧ (k = 0 ∨ (k : Int) ≤ n) ∧ u = .int .u64 (powP a k)) (fun _ v => 1000 - (intOf v).toNat)
    case atStart => exact ⟨0, by omega, rfl, .inl rfl, rfl⟩
    case round =>
      obtain ⟨k, hk, rfl, hkn, rfl⟩ := hrel
      by_cases hlt : (k : Int) < n ∧ k < 1000
      · obtain ⟨hl1, hl2⟩ := hlt
        obtain ⟨p0, p1⟩ := HBD.out k
        have hs : powP a (k + 1) = timesV (powP a k) (min a 4294967296) := rfl
        rw [show min a 4294967296 = _ by first | exact Int.min_eq_left hc | exact Int.min_eq_right (Int.le_of_lt hc)] at hs
        have HS := Lib.hid hs
        clear hs
        go_wp2_with (first | (go_at_call 26; refine (ref56_Times _ _ _ ⟨by omega, by omega⟩ ⟨by omega, by omega⟩).mono ?_; rintro e w' ⟨rfl, rfl⟩))
        go_round
        case rel => exact ⟨k + 1, by omega, by go_num, .inr (by omega), by rw [HS.out]⟩
        case measure => simp [intOf]; omega
      · have hk2 : cntP n = k := by unfold cntP; omega
        have HK := Lib.hid hk2
        clear hk2
        by_cases hl1 : (k : Int) < n
        · go_wp2
          go_ret
          exact ⟨ret_int (by rw [HK.out]), rfl⟩
        · go_wp2
          go_ret
          exact ⟨ret_int (by rw [HK.out]), rfl⟩
end Go.Proofs.Ytokgokjgpmdlpaa

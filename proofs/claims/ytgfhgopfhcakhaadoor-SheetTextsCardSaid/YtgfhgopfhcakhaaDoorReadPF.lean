/-
  Sums and products of nums, as far as digits.Read leans on them: nums.Add, nums.Mul. Condition: the arguments fit their kinds. What a text says as a number, or why it is none: lists of bytes alone. No program in sight; no conditions.
-/
import Derived.Test.YtgfhgopfhcakhaaDoorNums
import Derived.Lib.Mul64
import Derived.Laws.Bits64b
import Derived.Test.YtgfhgopfhcakhaaDoorDecT
set_option linter.unusedVariables false
set_option linter.unusedSimpArgs false
namespace Go.Proofs.YtgfhgopfhcakhaaDoor
open Go.Joins Go.ChangeShapes Go.WideShapes Go.ChangeAt Go.RowKit Go.Deep

theorem wrap_toInt (x : BitVec 64) : IntKind.i64.wrap ((x.toNat : Nat) : Int) = x.toInt := by
  have := x.isLt
  rw [IntKind.wrap_i64, BitVec.toInt_eq_toNat_cond]
  split <;> omega
theorem bits_xor (a b : Int) : bits .xor .i64 a b = (BitVec.ofInt 64 a ^^^ BitVec.ofInt 64 b).toInt := wrap_toInt _
theorem bits_and (a b : Int) : bits .and .i64 a b = (BitVec.ofInt 64 a &&& BitVec.ofInt 64 b).toInt := wrap_toInt _
theorem msb_ofInt {a : Int} (h : I64 a) : (BitVec.ofInt 64 a).msb = decide (a < 0) := by
  unfold I64 at h
  rw [BitVec.msb_eq_toInt, BitVec.toInt_ofInt]
  have : a.bmod (2 ^ 64) = a := Int.bmod_eq_of_le (by omega) (by omega)
  rw [this]
theorem and_xor_neg {a b c d : Int} (ha : I64 a) (hb : I64 b) (hc : I64 c) (hd : I64 d) :
    decide (bits .and .i64 (bits .xor .i64 a b) (bits .xor .i64 c d) < 0) = ((decide (a < 0) ^^ decide (b < 0)) && (decide (c < 0) ^^ decide (d < 0))) := by
  rw [bits_and, bits_xor, bits_xor, BitVec.ofInt_toInt, BitVec.ofInt_toInt, ← BitVec.msb_eq_toInt, BitVec.msb_and, BitVec.msb_xor, BitVec.msb_xor, msb_ofInt ha, msb_ofInt hb, msb_ofInt hc, msb_ofInt hd]
theorem wrap64_eq (n : Int) : wrap64 n = IntKind.i64.wrap n := (IntWalk.i64_left n).symm
theorem wrap_I64 (n : Int) : I64 (wrap64 n) := by unfold I64; rw [wrap64_eq, IntKind.wrap_i64]; omega

/-- A number that fits 64 bits, or 0; its error; whether it fits. -/
def fit2V (n : Int) : Int := if -9223372036854775808 ≤ n ∧ n ≤ 9223372036854775807 then n else 0
def fit2E (n : Int) : Int := if -9223372036854775808 ≤ n ∧ n ≤ 9223372036854775807 then 0 else 10
def fit2B (n : Int) : Bool := decide (-9223372036854775808 ≤ n ∧ n ≤ 9223372036854775807)
theorem nums_Add (a b : Int) (w : World) (ha : I64 a) (hb : I64 b) : Calls Tryd.prog 50 #[.int .i64 a, .int .i64 b] w fun e w' => e = .returned (.tuple #[.int .i64 (fit2V (a + b)), .int .i64 (fit2E (a + b))]) ∧ w = w' := by
  have hx := and_xor_neg ha (wrap_I64 (a + b)) hb (wrap_I64 (a + b))
  have hs : wrap64 (a + b) = if a + b < -9223372036854775808 then a + b + 18446744073709551616 else if a + b ≤ 9223372036854775807 then a + b else a + b - 18446744073709551616 := by unfold I64 at ha hb; rw [wrap64_eq, IntKind.wrap_i64]; omega
  unfold I64 at ha hb
  by_cases h1 : a + b < -9223372036854775808
  · rw [if_pos h1] at hs
    have e : ((decide (a < 0) ^^ decide (wrap64 (a + b) < 0)) && (decide (b < 0) ^^ decide (wrap64 (a + b) < 0))) = true := by
      rw [hs]; simp; omega
    rw [e] at hx
    have HS := Lib.hid hs
    clear hs e
    go_enter Tryd.func50, Tryd.ntmps50
    go_wp2
    go_ret2
    exact ⟨ret_two (by unfold fit2V; omega) (by unfold fit2E; omega), rfl⟩
  · rw [if_neg h1] at hs
    by_cases h2 : a + b ≤ 9223372036854775807
    · rw [if_pos h2] at hs
      rw [hs] at hx
      have e : ((decide (a < 0) ^^ decide (a + b < 0)) && (decide (b < 0) ^^ decide (a + b < 0))) = false := by
        by_cases a < 0 <;> by_cases b < 0 <;> simp [*] <;> omega
      rw [e] at hx
      have HS := Lib.hid hs
      clear hs e
      go_enter Tryd.func50, Tryd.ntmps50
      go_wp2
      go_ret2
      exact ⟨ret_two (by unfold fit2V; omega) (by unfold fit2E; omega), rfl⟩
    · rw [if_neg h2] at hs
      have e : ((decide (a < 0) ^^ decide (wrap64 (a + b) < 0)) && (decide (b < 0) ^^ decide (wrap64 (a + b) < 0))) = true := by
        rw [hs]; by_cases a < 0 <;> by_cases b < 0 <;> simp [*] <;> omega
      rw [e] at hx
      have HS := Lib.hid hs
      clear hs e
      go_enter Tryd.func50, Tryd.ntmps50
      go_wp2
      go_ret2
      exact ⟨ret_two (by unfold fit2V; omega) (by unfold fit2E; omega), rfl⟩
theorem maskN (a : Nat) (ha : a < 18446744073709551616) : bits .and .u64 (a : Int) 4294967295 = ((a % 4294967296 : Nat) : Int) := by
  have h := bits_and_u64_nat a 4294967295 ha (by omega)
  have e : a &&& 4294967295 = a % 4294967296 := Nat.and_two_pow_sub_one_eq_mod a 32
  rw [e] at h
  exact h
theorem divN (a : Nat) : (a : Int) / 4294967296 = ((a / 4294967296 : Nat) : Int) := by omega
theorem modN (a : Nat) : (a : Int) % 4294967296 = ((a % 4294967296 : Nat) : Int) := by omega
theorem tdivN (a : Nat) : (a : Int).tdiv 4294967296 = ((a / 4294967296 : Nat) : Int) := by rw [Int.tdiv_eq_ediv_of_nonneg (by omega)]; omega
theorem tmodN (a : Nat) : (a : Int).tmod 4294967296 = ((a % 4294967296 : Nat) : Int) := by rw [Int.tmod_eq_emod_of_nonneg (by omega)]; omega
theorem mulN (a b : Nat) : (a : Int) * (b : Int) = ((a * b : Nat) : Int) := (Int.natCast_mul a b).symm
theorem addN (a b : Nat) : (a : Int) + (b : Int) = ((a + b : Nat) : Int) := (Int.natCast_add a b).symm
theorem wrapN (a : Nat) (ha : a < 18446744073709551616) : IntKind.u64.wrap (a : Int) = (a : Int) := by rw [IntKind.wrap_u64]; omega
theorem wrapD (a : Nat) (ha : a < 18446744073709551616) : IntKind.u64.wrap ((a / 4294967296 : Nat) : Int) = ((a / 4294967296 : Nat) : Int) := wrapN _ (by omega)
theorem wrapR (a : Nat) : IntKind.u64.wrap ((a % 4294967296 : Nat) : Int) = ((a % 4294967296 : Nat) : Int) := wrapN _ (by omega)
theorem wrapM (a : Nat) : IntKind.u64.wrap (a : Int) = ((a % 18446744073709551616 : Nat) : Int) := by rw [IntKind.wrap_u64]; omega

set_option maxHeartbeats 1000000 in
theorem mul64_nat (x y : Nat) (hx : x < 18446744073709551616) (hy : y < 18446744073709551616) (w : World) :
    Calls Tryd.prog 59 #[.int .u64 x, .int .u64 y] w fun e w' => e = .returned (.tuple #[.int .u64 ((x * y / 18446744073709551616 : Nat) : Int), .int .u64 ((x * y % 18446744073709551616 : Nat) : Int)]) ∧ w = w' := by
  obtain ⟨bd, bt, bw, hhi⟩ := Lib.mul64_hi x y hx hy
  have ba := Lib.half_mul_le (a := x / 4294967296) (b := y / 4294967296) (by omega) (by omega)
  have bb := Lib.half_mul_le (a := x / 4294967296) (b := y % 4294967296) (by omega) (by omega)
  have bc := Lib.half_mul_le (a := x % 4294967296) (b := y / 4294967296) (by omega) (by omega)
  have ba' : x / 4294967296 * (y / 4294967296) < 18446744073709551616 := by omega
  have bb' : x / 4294967296 * (y % 4294967296) < 18446744073709551616 := by omega
  have bc' : x % 4294967296 * (y / 4294967296) < 18446744073709551616 := by omega
  have bh1 : x / 4294967296 * (y / 4294967296) + (x / 4294967296 * (y % 4294967296) + x % 4294967296 * (y % 4294967296) / 4294967296) / 4294967296 < 18446744073709551616 := by omega
  have bh : x / 4294967296 * (y / 4294967296) + (x / 4294967296 * (y % 4294967296) + x % 4294967296 * (y % 4294967296) / 4294967296) / 4294967296 + ((x / 4294967296 * (y % 4294967296) + x % 4294967296 * (y % 4294967296) / 4294967296) % 4294967296 + x % 4294967296 * (y / 4294967296)) / 4294967296 < 18446744073709551616 := by omega
  go_enter Tryd.func59, Tryd.ntmps59
  go_wp2
  simp only [maskN x hx, maskN y hy, divN, mulN, addN, wrapN _ bd, wrapN _ bb', wrapN _ bt, maskN _ bt, wrapN _ bc', wrapN _ bw, wrapN _ ba', wrapN _ bh1, wrapN _ bh, wrapM (x * y)]
  rw [hhi]
  go_ret2
  exact ⟨rfl, rfl⟩
theorem mul64 (x y : Int) (w : World) (hx0 : 0 ≤ x) (hx : x ≤ 18446744073709551615) (hy0 : 0 ≤ y) (hy : y ≤ 18446744073709551615) :
    Calls Tryd.prog 59 #[.int .u64 x, .int .u64 y] w fun e w' => e = .returned (.tuple #[.int .u64 (x * y / 18446744073709551616), .int .u64 (x * y % 18446744073709551616)]) ∧ w = w' := by
  obtain ⟨x, rfl⟩ := Int.eq_ofNat_of_zero_le hx0
  obtain ⟨y, rfl⟩ := Int.eq_ofNat_of_zero_le hy0
  exact mul64_nat x y (by omega) (by omega) w
theorem mul_abs (a b : Int) : a * b = if (a < 0) = (b < 0) then absI a * absI b else -(absI a * absI b) := by
  unfold absI
  by_cases ha : a < 0 <;> by_cases hb : b < 0 <;> simp [ha, hb, Int.neg_mul, Int.mul_neg]
theorem abs_mul_bd {a b : Int} (ha : I64 a) (hb : I64 b) : 0 ≤ absI a * absI b ∧ absI a * absI b ≤ 85070591730234615865843651857942052864 := by
  obtain ⟨A0, A1⟩ := absI_bd ha
  obtain ⟨B0, B1⟩ := absI_bd hb
  have := Int.mul_le_mul A1 B1 B0 (by omega)
  exact ⟨Int.mul_nonneg A0 B0, by omega⟩

theorem nums_Mul (a b : Int) (w : World) (ha : I64 a) (hb : I64 b) : Calls Tryd.prog 49 #[.int .i64 a, .int .i64 b] w fun e w' => e = .returned (.tuple #[.int .i64 (fit2V (a * b)), .int .i64 (fit2E (a * b))]) ∧ w = w' := by
  obtain ⟨A0, A1⟩ := absI_bd ha
  obtain ⟨B0, B1⟩ := absI_bd hb
  obtain ⟨m0, m1⟩ := abs_mul_bd ha hb
  have hm := mul_abs a b
  have cM := fun w => mul64 (absI a) (absI b) w A0 (by omega) B0 (by omega)
  generalize hM : absI a * absI b = M at *
  have HA := Lib.hid ha
  have HB := Lib.hid hb
  have CM := Lib.hid cM
  clear hM ha hb cM
  by_cases hbig : M / 18446744073709551616 = 0
  · have e0 : M % 18446744073709551616 = M := by omega
    have g0 : (M / 18446744073709551616 != 0) = false := by simp [hbig]
    have HBG := Lib.hid hbig
    clear hbig
    by_cases sa : a < 0 <;> by_cases sb : b < 0
    all_goals
      simp only [sa, sb, if_true, eq_self_iff_true, if_false, eq_iff_iff, iff_true, iff_false, not_true_eq_false, not_false_eq_true] at hm
      have HM := Lib.hid hm
      clear hm
      go_enter Tryd.func49, Tryd.ntmps49
      go_wp2_with (first | (go_at_call 58; (with_reducible refine (nums_Size _ _ HA.out).mono ?_); rintro e w' ⟨rfl, rfl⟩) | (go_at_call 58; (with_reducible refine (nums_Size _ _ HB.out).mono ?_); rintro e w' ⟨rfl, rfl⟩) | (go_at_call 59; refine (CM.out _).mono ?_; rintro e w' ⟨rfl, rfl⟩) | (go_at_call 60; refine (nums_signed _ _ _ (by omega) (by omega)).mono ?_; rintro e w' ⟨rfl, rfl⟩))
      go_ret2
      refine ⟨ret_two ?_ ?_, rfl⟩
      · rw [HM.out]; unfold sgn1 fit2V; simp; omega
      · rw [HM.out]; unfold sgn2 fit2E; simp; omega
  · have g0 : (M / 18446744073709551616 != 0) = true := by simp [hbig]
    have h1 : 18446744073709551616 ≤ M := by omega
    have h2 : 9223372036854775807 < a * b ∨ a * b < -9223372036854775808 := by rw [hm]; split <;> omega
    have HBG := Lib.hid hbig
    have HM := Lib.hid hm
    have H2 := Lib.hid h2
    clear hbig hm h2
    go_enter Tryd.func49, Tryd.ntmps49
    go_wp2_with (first | (go_at_call 58; (with_reducible refine (nums_Size _ _ HA.out).mono ?_); rintro e w' ⟨rfl, rfl⟩) | (go_at_call 58; (with_reducible refine (nums_Size _ _ HB.out).mono ?_); rintro e w' ⟨rfl, rfl⟩) | (go_at_call 59; refine (CM.out _).mono ?_; rintro e w' ⟨rfl, rfl⟩))
    go_ret2
    have h3 := H2.out
    exact ⟨ret_two (by unfold fit2V; omega) (by unfold fit2E; omega), rfl⟩
end Go.Proofs.YtgfhgopfhcakhaaDoor
set_option linter.unusedVariables false
set_option linter.unusedSimpArgs false
namespace Go.Proofs.YtgfhgopfhcakhaaDoor

def isD (c : UInt8) : Bool := decide (48 ≤ c.toNat) && decide (c.toNat ≤ 57)
theorem isD_iff (c : UInt8) : isD c = true ↔ 48 ≤ c.toNat ∧ c.toNat ≤ 57 := by unfold isD; simp
theorem isD_not (c : UInt8) : isD c = false ↔ c.toNat < 48 ∨ 57 < c.toNat := by
  have := isD_iff c
  cases h : isD c
  · rw [h] at this; simp at this; simp; omega
  · rw [h] at this; simp at this; simp; omega
def belowR (l : List UInt8) : Bool := l.head? == some 45
def bodyR (l : List UInt8) : List UInt8 := if belowR l = true then l.tail else l
def sgR (l : List UInt8) : Int := if belowR l = true then -1 else 1
def formB (l : List UInt8) : Bool := (bodyR l).all isD && !(bodyR l).isEmpty && (!((bodyR l).head? == some 48) || l == [48])
def valI (l : List UInt8) : Int := sgR l * (valL (bodyR l) 0 : Nat)
def readV (l : List UInt8) : Int := if formB l = true then fit2V (valI l) else 0
def readE (l : List UInt8) : Int := if formB l = true then fit2E (valI l) else 20
theorem read_no {l : List UInt8} (h : formB l = false) : readV l = 0 ∧ readE l = 20 := by
  unfold readV readE; rw [h]; exact ⟨rfl, rfl⟩
theorem read_yes {l : List UInt8} (h : formB l = true) : readV l = fit2V (valI l) ∧ readE l = fit2E (valI l) := by
  unfold readV readE; rw [h]; exact ⟨rfl, rfl⟩
/-- The number of the first k digits. -/
def vk (d : List UInt8) (k : Nat) : Nat := valL (d.take k) 0
theorem vk_zero (d : List UInt8) : vk d 0 = 0 := by unfold vk; simp [valL]
theorem take_one {d : List UInt8} {k : Nat} {c : UInt8} (h : d[k]? = some c) : d.take (k + 1) = d.take k ++ [c] := by
  rw [List.take_add_one, h]; rfl
theorem vk_step {d : List UInt8} {k : Nat} {c : UInt8} (h : d[k]? = some c) : vk d (k + 1) = 10 * vk d k + (c.toNat - 48) := by
  unfold vk; rw [take_one h, valL_append]; rfl
theorem vk_all (d : List UInt8) : vk d d.length = valL d 0 := by unfold vk; rw [List.take_length]
theorem all_take_step {d : List UInt8} {k : Nat} {c : UInt8} (h : d[k]? = some c) (ha : (d.take k).all isD = true) (hc : isD c = true) : (d.take (k + 1)).all isD = true := by
  rw [take_one h, List.all_append, ha]; simp [hc]
theorem all_no {d : List UInt8} {k : Nat} {c : UInt8} (h : d[k]? = some c) (hc : isD c = false) : d.all isD = false := by
  cases hd : d.all isD with
  | false => rfl
  | true =>
    have := List.all_eq_true.1 hd c (List.mem_of_getElem? h)
    rw [hc] at this; exact this.symm
theorem form_all {l : List UInt8} (h : (bodyR l).all isD = false) : formB l = false := by unfold formB; rw [h]; rfl
/-- One digit more: what Mul and Add say. -/
theorem fit_step {V dd : Int} (sg : Int) (hs : (sg = 1 ∧ 0 ≤ V) ∨ (sg = -1 ∧ V ≤ 0)) (h0 : 0 ≤ dd) (h9 : dd ≤ 9) :
    (fit2E V = 10 ∧ fit2V V = 0 ∧ fit2E (V * 10 + sg * dd) = 10 ∧ fit2V (V * 10 + sg * dd) = 0) ∨
    (fit2E V = 0 ∧ fit2V V = V ∧ I64 V ∧ fit2E (V * 10) = 10 ∧ fit2V (V * 10) = 0 ∧ fit2E (V * 10 + sg * dd) = 10 ∧ fit2V (V * 10 + sg * dd) = 0) ∨
    (fit2E V = 0 ∧ fit2V V = V ∧ I64 V ∧ fit2E (V * 10) = 0 ∧ fit2V (V * 10) = V * 10 ∧ I64 (V * 10) ∧ I64 (sg * dd)) := by
  unfold fit2E fit2V I64
  rcases hs with ⟨rfl, hs⟩ | ⟨rfl, hs⟩
  · rcases Int.lt_or_le 9223372036854775807 V with h | h
    · refine .inl ⟨if_neg (by omega), if_neg (by omega), if_neg (by omega), if_neg (by omega)⟩
    · rcases Int.lt_or_le 9223372036854775807 (V * 10) with h2 | h2
      · refine .inr (.inl ⟨if_pos (by omega), if_pos (by omega), by omega, if_neg (by omega), if_neg (by omega), if_neg (by omega), if_neg (by omega)⟩)
      · refine .inr (.inr ⟨if_pos (by omega), if_pos (by omega), by omega, if_pos (by omega), if_pos (by omega), by omega, by omega⟩)
  · rcases Int.lt_or_le V (-9223372036854775808) with h | h
    · refine .inl ⟨if_neg (by omega), if_neg (by omega), if_neg (by omega), if_neg (by omega)⟩
    · rcases Int.lt_or_le (V * 10) (-9223372036854775808) with h2 | h2
      · refine .inr (.inl ⟨if_pos (by omega), if_pos (by omega), by omega, if_neg (by omega), if_neg (by omega), if_neg (by omega), if_neg (by omega)⟩)
      · refine .inr (.inr ⟨if_pos (by omega), if_pos (by omega), by omega, if_pos (by omega), if_pos (by omega), by omega, by omega⟩)
theorem fit_cases (V : Int) : (fit2E V = 10 ∧ fit2V V = 0) ∨ (fit2E V = 0 ∧ fit2V V = V ∧ I64 V) := by
  unfold fit2E fit2V I64
  by_cases h : -9223372036854775808 ≤ V ∧ V ≤ 9223372036854775807
  · exact .inr ⟨if_pos h, if_pos h, h⟩
  · exact .inl ⟨if_neg h, if_neg h⟩
end Go.Proofs.YtgfhgopfhcakhaaDoor

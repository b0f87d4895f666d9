
/-
  A quotient's half-word by trial (Knuth's): the plain laws. No program in sight.
-/
set_option linter.unusedVariables false
namespace Go.Proofs.Ytnlieclfajebbaa

/-- What holds at each trial: q is no less than the quotient, r what it leaves of the upper word. -/
structure Trial (y1 y0 a b q r : Int) : Prop where
  sum : q * y1 + r = a
  low : (a * 4294967296 + b) / (y1 * 4294967296 + y0) ≤ q
  r0 : 0 ≤ r
  q1 : q ≤ 8589934592

section
variable {y1 y0 a b q r : Int}
theorem trial_split (q y1 y0 : Int) : q * (y1 * 4294967296 + y0) = q * y1 * 4294967296 + q * y0 := by rw [Int.mul_add, ← Int.mul_assoc]
theorem trial_quot0 (h1 : 2147483648 ≤ y1) (h3 : 0 ≤ y0) (ha : 0 ≤ a) (hb : 0 ≤ b) : 0 ≤ (a * 4294967296 + b) / (y1 * 4294967296 + y0) := Int.ediv_nonneg (by omega) (by omega)
theorem trial_start (h1 : 2147483648 ≤ y1) (h3 : 0 ≤ y0) (ha : 0 ≤ a) (ha2 : a ≤ 18446744073709551615) (hb : 0 ≤ b) (hb2 : b < 4294967296) : Trial y1 y0 a b (a / y1) (a % y1) := by
  have hs : a / y1 * y1 + a % y1 = a := by rw [Int.mul_comm]; exact Int.mul_ediv_add_emod a y1
  have hr := Int.emod_nonneg a (show y1 ≠ 0 by omega)
  refine ⟨hs, ?_, hr, ?_⟩
  · rw [Int.le_ediv_iff_mul_le (by omega)]
    have h := Int.ediv_mul_le (a * 4294967296 + b) (show y1 * 4294967296 + y0 ≠ 0 by omega)
    have hk := trial_quot0 (a := a) (b := b) h1 h3 ha hb
    generalize (a * 4294967296 + b) / (y1 * 4294967296 + y0) = k at *
    rw [trial_split] at h
    have h0 : 0 ≤ k * y0 := Int.mul_nonneg hk h3
    generalize k * y1 = x at *
    generalize k * y0 = z at *
    omega
  · have hq : 0 ≤ a / y1 := Int.ediv_nonneg ha (by omega)
    have h2 : a / y1 * 2147483648 ≤ a / y1 * y1 := Int.mul_le_mul_of_nonneg_left h1 hq
    generalize a / y1 * y1 = x at *
    omega
theorem trial_nonneg (h : Trial y1 y0 a b q r) (h1 : 2147483648 ≤ y1) (h3 : 0 ≤ y0) (ha : 0 ≤ a) (hb : 0 ≤ b) : 0 ≤ q := Int.le_trans (trial_quot0 h1 h3 ha hb) h.low
/-- The quotient is below 2^32. -/
theorem trial_lt (h1 : 2147483648 ≤ y1) (h3 : 0 ≤ y0) (hb2 : b < 4294967296) (hv : a < y1 * 4294967296 + y0) : (a * 4294967296 + b) / (y1 * 4294967296 + y0) < 4294967296 := by
  rw [Int.ediv_lt_iff_lt_mul (by omega)]
  omega
theorem trial_step (h : Trial y1 y0 a b q r) (h1 : 2147483648 ≤ y1) (h3 : 0 ≤ y0) (hb2 : b < 4294967296) (hv : a < y1 * 4294967296 + y0)
    (hc : 4294967296 ≤ q ∨ 4294967296 * r + b < q * y0) : Trial y1 y0 a b (q - 1) (r + y1) := by
  have hlt := trial_lt (a := a) (b := b) h1 h3 hb2 hv
  obtain ⟨hs, hl, hr, hq⟩ := h
  refine ⟨by rw [Int.sub_mul]; omega, ?_, by omega, by omega⟩
  rcases hc with hc | hc
  · omega
  · have : (a * 4294967296 + b) / (y1 * 4294967296 + y0) < q := by
      rw [Int.ediv_lt_iff_lt_mul (by omega), trial_split]
      generalize q * y1 = x at *
      generalize q * y0 = z at *
      omega
    omega
/-- The trial that ends it. -/
theorem trial_end (h : Trial y1 y0 a b q r) (h1 : 2147483648 ≤ y1) (h3 : 0 ≤ y0) (hc : q * y0 ≤ 4294967296 * r + b) : q = (a * 4294967296 + b) / (y1 * 4294967296 + y0) := by
  obtain ⟨hs, hl, hr, hq⟩ := h
  have : q ≤ (a * 4294967296 + b) / (y1 * 4294967296 + y0) := by
    rw [Int.le_ediv_iff_mul_le (by omega), trial_split]
    generalize q * y1 = x at *
    generalize q * y0 = z at *
    omega
  omega
/-- .. or the upper word is used up. -/
theorem trial_over (h : Trial y1 y0 a b q r) (h1 : 2147483648 ≤ y1) (h3 : 0 ≤ y0) (h4 : y0 < 4294967296) (hb : 0 ≤ b) (ha : 0 ≤ a) (hv : a < y1 * 4294967296 + y0) (hr : 4294967296 ≤ r) : q = (a * 4294967296 + b) / (y1 * 4294967296 + y0) := by
  have hq0 := trial_nonneg h h1 h3 ha hb
  refine trial_end h h1 h3 ?_
  have hqB : q < 4294967296 := by
    rcases Int.lt_or_le q 4294967296 with hh | hh
    · exact hh
    · have := Int.mul_le_mul_of_nonneg_right hh (show 0 ≤ y1 by omega)
      have hs := h.sum
      omega
  have := Int.mul_le_mul (show q ≤ 4294967295 by omega) (show y0 ≤ 4294967295 by omega) h3 (by omega)
  omega
end
/-- The quotient by halves. -/
theorem two_halves {v a b c q1 q0 : Int} (hv : 0 < v) (h1 : q1 = (a * 4294967296 + b) / v) (h2 : q0 = ((a * 4294967296 + b - q1 * v) * 4294967296 + c) / v) (hc : 0 ≤ c) :
    q1 * 4294967296 + q0 = ((a * 4294967296 + b) * 4294967296 + c) / v := by
  rw [h2]
  have e : (a * 4294967296 + b) * 4294967296 + c = ((a * 4294967296 + b - q1 * v) * 4294967296 + c) + q1 * 4294967296 * v := by
    rw [Int.mul_assoc q1 4294967296 v, Int.mul_comm 4294967296 v, ← Int.mul_assoc]
    generalize q1 * v = z
    omega
  rw [e, Int.add_mul_ediv_right _ _ (by omega)]
  omega
end Go.Proofs.Ytnlieclfajebbaa

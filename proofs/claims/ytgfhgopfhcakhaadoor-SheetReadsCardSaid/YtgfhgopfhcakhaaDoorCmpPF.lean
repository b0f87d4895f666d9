
/-
  Digits compared as texts and as numbers; digits written anew. No program in sight; no conditions.
-/
import Derived.Test.YtgfhgopfhcakhaaDoorReadPF
set_option linter.unusedVariables false
set_option linter.unusedSimpArgs false
namespace Go.Proofs.YtgfhgopfhcakhaaDoor

theorem valL_lin (l : List UInt8) (a : Nat) : valL l a = a * 10 ^ l.length + valL l 0 := by
  induction l generalizing a with
  | nil => simp [valL]
  | cons c l ih =>
    simp only [valL, List.length_cons]
    rw [ih (10 * a + _), ih (10 * 0 + _), Nat.pow_succ, Nat.add_mul, Nat.add_mul]
    have e : 10 * a * 10 ^ l.length = a * (10 ^ l.length * 10) := by rw [Nat.mul_comm 10 a, Nat.mul_assoc, Nat.mul_comm 10]
    omega
theorem valL_bd {l : List UInt8} (h : l.all isD = true) : valL l 0 < 10 ^ l.length := by
  induction l with
  | nil => simp [valL]
  | cons c l ih =>
    simp only [List.all_cons, Bool.and_eq_true] at h
    have h1 := (isD_iff c).1 h.1
    have h2 := ih h.2
    simp only [valL, List.length_cons]
    rw [valL_lin, Nat.pow_succ]
    have : (10 * 0 + (c.toNat - 48)) * 10 ^ l.length ≤ 9 * 10 ^ l.length := Nat.mul_le_mul_right _ (by omega)
    omega
theorem valL_low {l : List UInt8} {c : UInt8} (hc : 49 ≤ c.toNat) : 10 ^ l.length ≤ valL (c :: l) 0 := by
  simp only [valL]
  rw [valL_lin]
  have : 1 * 10 ^ l.length ≤ (10 * 0 + (c.toNat - 48)) * 10 ^ l.length := Nat.mul_le_mul_right _ (by omega)
  omega
theorem cmp_digits {x y : List UInt8} (a : Nat) (hx : x.all isD = true) (hy : y.all isD = true) (hl : x.length = y.length) : (Go.Op.bytesLess x y || x == y) = decide (valL x a ≤ valL y a) := by
  induction x generalizing y a with
  | nil =>
    cases y with
    | nil => simp [Go.Op.bytesLess]
    | cons q y => simp at hl
  | cons p x ih =>
    cases y with
    | nil => simp at hl
    | cons q y =>
      simp only [List.length_cons, Nat.add_right_cancel_iff] at hl
      simp only [List.all_cons, Bool.and_eq_true] at hx hy
      have p1 := (isD_iff p).1 hx.1
      have q1 := (isD_iff q).1 hy.1
      have hbx := valL_bd hx.2
      have hby := valL_bd hy.2
      have hI := ih (10 * a + (p.toNat - 48)) hx.2 hy.2 hl
      have hv1 : valL (p :: x) a = valL x (10 * a + (p.toNat - 48)) := rfl
      have hv2 : valL (q :: y) a = valL y (10 * a + (q.toNat - 48)) := rfl
      rw [hv1, hv2]
      simp only [Go.Op.bytesLess]
      rcases Nat.lt_trichotomy p.toNat q.toNat with h | h | h
      · have hpq : p < q := UInt8.lt_iff_toNat_lt.2 h
        have hle : valL x (10 * a + (p.toNat - 48)) ≤ valL y (10 * a + (q.toNat - 48)) := by
          rw [valL_lin x, valL_lin y, hl]
          rw [hl] at hbx
          have h1 : (10 * a + (p.toNat - 48) + 1) * 10 ^ y.length ≤ (10 * a + (q.toNat - 48)) * 10 ^ y.length := Nat.mul_le_mul_right _ (by omega)
          rw [Nat.add_mul] at h1
          omega
        simp [hpq, hle]
      · have hpq : p = q := UInt8.toNat.inj h
        subst hpq
        rw [← hI]
        have : ¬ p < p := by rw [UInt8.lt_iff_toNat_lt]; omega
        simp [this]
      · have h1 : ¬ p < q := by rw [UInt8.lt_iff_toNat_lt]; omega
        have h2 : ¬ p = q := by intro e; rw [e] at h; omega
        have hgt : ¬ valL x (10 * a + (p.toNat - 48)) ≤ valL y (10 * a + (q.toNat - 48)) := by
          rw [valL_lin x, valL_lin y, hl]
          have h1 : (10 * a + (q.toNat - 48) + 1) * 10 ^ y.length ≤ (10 * a + (p.toNat - 48)) * 10 ^ y.length := Nat.mul_le_mul_right _ (by omega)
          rw [Nat.add_mul] at h1
          omega
        simp [h1, h2, hgt]
/-- The digits of what digits say. -/
theorem dec_valL {l : List UInt8} (n : Nat) (hn : l.length = n) (h : l.all isD = true) (hne : l ≠ []) (h0 : (l.head? == some 48) = false ∨ l.length = 1) (hb : valL l 0 < 100000000000000000000) : dec (valL l 0) = l := by
  induction n generalizing l with
  | zero => cases l <;> simp_all
  | succ n ih =>
    obtain ⟨m, c, rfl⟩ : ∃ m c, l = m ++ [c] := ⟨l.dropLast, l.getLast hne, (List.dropLast_concat_getLast hne).symm⟩
    simp only [List.all_append, Bool.and_eq_true, List.all_cons, List.all_nil] at h
    have c1 := (isD_iff c).1 h.2.1
    have hv : valL (m ++ [c]) 0 = 10 * valL m 0 + (c.toNat - 48) := by rw [valL_append]; rfl
    have hdg : dg (10 * valL m 0 + (c.toNat - 48)) = c := by
      apply UInt8.toNat.inj
      rw [dg_toNat]
      omega
    rw [hv]
    rw [hv] at hb
    cases m with
    | nil =>
      simp only [valL] at hdg ⊢
      rw [dec_small (by omega), hdg]; rfl
    | cons x m =>
      have hx : x ≠ 48 := by
        rcases h0 with h0 | h0
        · simpa using h0
        · simp at h0
      simp only [List.all_cons, Bool.and_eq_true] at h
      have x1 := (isD_iff x).1 h.1.1
      have x2 : x.toNat ≠ 48 := by intro e; apply hx; apply UInt8.toNat.inj; rw [e]; rfl
      have hlow := valL_low (l := m) (c := x) (by omega)
      have hp := Nat.pow_pos (n := m.length) (show 0 < 10 by omega)
      rw [dec_step (by omega) hb, hdg]
      rw [show (10 * valL (x :: m) 0 + (c.toNat - 48)) / 10 = valL (x :: m) 0 by omega]
      rw [ih (by simp at hn ⊢; omega) (by simp [h.1.1, h.1.2]) (by simp) (.inl (by simp [hx])) (by omega)]
/-- A form that is right: what it is. -/
theorem form_parts {l : List UInt8} (h : formB l = true) : (bodyR l).all isD = true ∧ bodyR l ≠ [] ∧ ((bodyR l).head? ≠ some 48 ∨ l = [48]) := by
  unfold formB at h
  simp only [Bool.and_eq_true, Bool.or_eq_true, Bool.not_eq_true', List.isEmpty_eq_false_iff, beq_eq_false_iff_ne, beq_iff_eq] at h
  exact ⟨h.1.1, h.1.2, h.2⟩
def topR (l : List UInt8) : Nat := if belowR l = true then 9223372036854775808 else 9223372036854775807
def most (b : Bool) : List UInt8 := if b = true then [57, 50, 50, 51, 51, 55, 50, 48, 51, 54, 56, 53, 52, 55, 55, 53, 56, 48, 56] else [57, 50, 50, 51, 51, 55, 50, 48, 51, 54, 56, 53, 52, 55, 55, 53, 56, 48, 55]
theorem most_val (b : Bool) : valL (most b) 0 = (if b = true then 9223372036854775808 else 9223372036854775807) ∧ (most b).all isD = true ∧ (most b).length = 19 := by cases b <;> decide
theorem over_len {l : List UInt8} (h : formB l = true) (hl : 19 < (bodyR l).length) : topR l < valL (bodyR l) 0 := by
  obtain ⟨h1, h2, h3⟩ := form_parts h
  rcases h3 with h3 | h3
  · cases hb : bodyR l with
    | nil => exact absurd hb h2
    | cons x m =>
      rw [hb] at h1 h3 hl
      simp only [List.all_cons, Bool.and_eq_true] at h1
      have x1 := (isD_iff x).1 h1.1
      have x2 : x.toNat ≠ 48 := by intro e; apply h3; simp; apply UInt8.toNat.inj; rw [e]; rfl
      have hlow := valL_low (l := m) (c := x) (by omega)
      have : 10 ^ 19 ≤ 10 ^ m.length := Nat.pow_le_pow_right (by omega) (by simp at hl; omega)
      have : topR l ≤ 9223372036854775808 := by unfold topR; split <;> omega
      omega
  · subst h3; revert hl; decide
theorem over_less {l : List UInt8} (h : formB l = true) (hl : (bodyR l).length < 19) : valL (bodyR l) 0 < topR l := by
  obtain ⟨h1, h2, h3⟩ := form_parts h
  have := valL_bd h1
  have : 10 ^ (bodyR l).length ≤ 10 ^ 18 := Nat.pow_le_pow_right (by omega) (by omega)
  have : 9223372036854775807 ≤ topR l := by unfold topR; split <;> omega
  omega
theorem over_most {l : List UInt8} (h : formB l = true) (hl : (bodyR l).length = 19) : (Go.Op.bytesLess (bodyR l) (most (belowR l)) || bodyR l == most (belowR l)) = decide (valL (bodyR l) 0 ≤ topR l) := by
  obtain ⟨h1, h2, h3⟩ := form_parts h
  obtain ⟨m1, m2, m3⟩ := most_val (belowR l)
  rw [cmp_digits 0 h1 m2 (by omega), m1]
  rfl
theorem fit_over {l : List UInt8} (h : formB l = true) : (topR l < valL (bodyR l) 0 → readV l = 0 ∧ readE l = 10) ∧ (valL (bodyR l) 0 ≤ topR l → readV l = valI l ∧ readE l = 0) := by
  obtain ⟨r1, r2⟩ := read_yes h
  rw [r1, r2]
  unfold valI sgR topR fit2V fit2E
  cases belowR l <;> simp only [Bool.false_eq_true, if_false, if_true]
  all_goals
    refine ⟨fun h => ⟨if_neg (by omega), if_neg (by omega)⟩, fun h => ⟨if_pos (by omega), if_pos (by omega)⟩⟩
/-- What was read is written as it was. -/
theorem decI_read {l : List UInt8} (h : readE l = 0) : decI (readV l) = l := by
  have hf : formB l = true := by
    cases hf : formB l with
    | true => rfl
    | false => rw [(read_no hf).2] at h; omega
  obtain ⟨h1, h2, h3⟩ := form_parts hf
  obtain ⟨o1, o2⟩ := fit_over hf
  have hle : valL (bodyR l) 0 ≤ topR l := by
    rcases Nat.lt_or_ge (topR l) (valL (bodyR l) 0) with hh | hh
    · rw [(o1 hh).2] at h; omega
    · exact hh
  have htop : topR l ≤ 9223372036854775808 := by unfold topR; split <;> omega
  rw [(o2 hle).1]
  have hd := dec_valL (l := bodyR l) _ rfl h1 h2 (by
    rcases h3 with h3 | h3
    · exact .inl (by simpa using h3)
    · subst h3; exact .inr rfl) (by omega)
  unfold decI valI sgR
  cases hb : belowR l with
  | false =>
    simp only [Bool.false_eq_true, if_false]
    rw [if_neg (by omega)]
    rw [show (1 * ((valL (bodyR l) 0 : Nat) : Int)).toNat = valL (bodyR l) 0 by omega, hd]
    unfold bodyR; rw [hb]; rfl
  | true =>
    have hbo : bodyR l = l.tail := by unfold bodyR; rw [hb]; rfl
    have hl : l = 45 :: bodyR l := by
      rw [hbo]
      unfold belowR at hb
      cases l with
      | nil => simp at hb
      | cons a m => simp at hb; subst hb; rfl
    have hpos : 0 < valL (bodyR l) 0 := by
      rcases h3 with h3 | h3
      · cases hbl : bodyR l with
        | nil => exact absurd hbl h2
        | cons x m =>
          rw [hbl] at h1 h3
          simp only [List.all_cons, Bool.and_eq_true] at h1
          have x1 := (isD_iff x).1 h1.1
          have x2 : x.toNat ≠ 48 := by intro e; apply h3; simp; apply UInt8.toNat.inj; rw [e]; rfl
          have hlow := valL_low (l := m) (c := x) (by omega)
          have hp := Nat.pow_pos (n := m.length) (show 0 < 10 by omega)
          omega
      · subst h3; simp [belowR] at hb
    simp only [if_true]
    rw [if_pos (by omega)]
    rw [show (absI (-1 * ((valL (bodyR l) 0 : Nat) : Int))).toNat = valL (bodyR l) 0 by unfold absI; split <;> omega, hd]
    exact hl.symm
/-- What is written is read as it was. -/
theorem read_decI {a : Int} (h : I64 a) : readV (decI a) = a ∧ readE (decI a) = 0 := by
  have key : ∀ n : Nat, n ≤ 9223372036854775808 → (dec n).all isD = true ∧ dec n ≠ [] ∧ ((dec n).head? ≠ some 48 ∨ dec n = [48]) ∧ (dec n).head? ≠ some 45 ∧ valL (dec n) 0 = n := by
    intro n hn
    refine ⟨List.all_eq_true.2 fun c hc => (isD_iff c).2 (dec_digit n c hc), dec_ne n, ?_, ?_, valL_dec (by omega)⟩
    · rcases Nat.eq_zero_or_pos n with rfl | hp
      · right; rfl
      · left
        obtain ⟨c, m, hc, hne⟩ := dec_head hp (by omega)
        rw [hc]; simp; intro e; apply hne; rw [e]; rfl
    · intro e
      have : (45 : UInt8) ∈ dec n := by cases hd : dec n <;> simp_all
      have := dec_digit n 45 this
      simp at this
  unfold I64 at h
  by_cases h0 : a < 0
  · have hab : (absI a).toNat = (-a).toNat := by unfold absI; rw [if_pos h0]
    have hd : decI a = 45 :: dec (-a).toNat := by unfold decI; rw [if_pos h0, hab]
    obtain ⟨k1, k2, k3, k4, k5⟩ := key (-a).toNat (by omega)
    have hb : belowR (decI a) = true := by rw [hd]; rfl
    have hbo : bodyR (decI a) = dec (-a).toNat := by unfold bodyR; rw [hb, hd]; rfl
    have hf : formB (decI a) = true := by
      unfold formB; rw [hbo, k1]
      rcases k3 with k3 | k3
      · simp [k2, k3]
      · have := k5; rw [k3] at this; simp [valL] at this; omega
    obtain ⟨o1, o2⟩ := fit_over hf
    have := o2 (by rw [hbo, k5]; unfold topR; rw [hb]; simp; omega)
    refine ⟨?_, this.2⟩
    rw [this.1]; unfold valI sgR; rw [hb, hbo, k5]; simp; omega
  · have hd : decI a = dec a.toNat := by unfold decI; rw [if_neg h0]
    obtain ⟨k1, k2, k3, k4, k5⟩ := key a.toNat (by omega)
    have hb : belowR (decI a) = false := by rw [hd]; unfold belowR; simpa using k4
    have hbo : bodyR (decI a) = dec a.toNat := by unfold bodyR; rw [hb, hd]; rfl
    have hf : formB (decI a) = true := by
      unfold formB; rw [hbo, k1]
      rcases k3 with k3 | k3
      · simp [k2, k3]
      · rw [hd, k3]; decide
    obtain ⟨o1, o2⟩ := fit_over hf
    have := o2 (by rw [hbo, k5]; unfold topR; rw [hb]; simp; omega)
    refine ⟨?_, this.2⟩
    rw [this.1]; unfold valI sgR; rw [hb, hbo, k5]; simp; omega
end Go.Proofs.YtgfhgopfhcakhaaDoor

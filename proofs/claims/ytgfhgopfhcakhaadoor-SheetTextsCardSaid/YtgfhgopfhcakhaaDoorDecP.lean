
/-
  Decimal digits, as lists of bytes. No program in sight; no conditions.
-/
set_option linter.unusedVariables false
set_option linter.unusedSimpArgs false
namespace Go.Proofs.YtgfhgopfhcakhaaDoor

/-- The digit of a number's last place. -/
def dg (n : Nat) : UInt8 := UInt8.ofNat (48 + n % 10)
theorem dg_toNat (n : Nat) : (dg n).toNat = 48 + n % 10 := by
  unfold dg
  rw [UInt8.toNat_ofNat']
  omega
/-- The digits of a number, at most so many and one. -/
def decF : Nat → Nat → List UInt8
  | 0, n => [dg n]
  | f + 1, n => if n < 10 then [dg n] else decF f (n / 10) ++ [dg n]
theorem decF_len_pos (f n : Nat) : 0 < (decF f n).length := by
  induction f generalizing n with
  | zero => simp [decF]
  | succ f ih => simp only [decF]; split <;> simp
theorem decF_len (f n : Nat) : (decF f n).length ≤ f + 1 := by
  induction f generalizing n with
  | zero => simp [decF]
  | succ f ih =>
    have := ih (n / 10)
    simp only [decF]
    split
    · simp
    · simp; omega
theorem decF_same (f g n : Nat) (hf : n < 10 ^ (f + 1)) (hg : n < 10 ^ (g + 1)) : decF f n = decF g n := by
  induction f generalizing g n with
  | zero =>
    cases g with
    | zero => rfl
    | succ g => simp only [decF]; rw [if_pos (by simpa using hf)]
  | succ f ih =>
    cases g with
    | zero => simp only [decF]; rw [if_pos (by simpa using hg)]
    | succ g =>
      simp only [decF]
      rw [ih g (n / 10) (by rw [Nat.pow_succ] at hf; omega) (by rw [Nat.pow_succ] at hg; omega)]
/-- The digits of a number below 10^20. -/
def dec (n : Nat) : List UInt8 := decF 19 n
theorem dec_small {n : Nat} (h : n < 10) : dec n = [dg n] := by unfold dec decF; rw [if_pos h]
theorem dec_step {n : Nat} (h : 10 ≤ n) (hn : n < 100000000000000000000) : dec n = dec (n / 10) ++ [dg n] := by
  unfold dec
  rw [decF, if_neg (by omega), decF_same 18 19 (n / 10) (by omega) (by omega)]
theorem dec_pos (n : Nat) : 0 < (dec n).length := decF_len_pos _ _
theorem dec_len (n : Nat) : (dec n).length ≤ 20 := decF_len _ _
theorem dec_ne (n : Nat) : dec n ≠ [] := by have := dec_pos n; intro h; rw [h] at this; simp at this
/-- Every sign is a digit. -/
theorem decF_digit (f n : Nat) : ∀ c ∈ decF f n, 48 ≤ c.toNat ∧ c.toNat ≤ 57 := by
  induction f generalizing n with
  | zero => intro c hc; simp [decF] at hc; subst hc; rw [dg_toNat]; omega
  | succ f ih =>
    intro c hc
    simp only [decF] at hc
    split at hc
    · simp at hc; subst hc; rw [dg_toNat]; omega
    · simp only [List.mem_append, List.mem_singleton] at hc
      rcases hc with hc | hc
      · exact ih _ c hc
      · subst hc; rw [dg_toNat]; omega
theorem dec_digit (n : Nat) : ∀ c ∈ dec n, 48 ≤ c.toNat ∧ c.toNat ≤ 57 := decF_digit _ _
/-- What digits say. -/
def valL : List UInt8 → Nat → Nat
  | [], a => a
  | c :: l, a => valL l (10 * a + (c.toNat - 48))
theorem valL_append (l m : List UInt8) (a : Nat) : valL (l ++ m) a = valL m (valL l a) := by
  induction l generalizing a with
  | nil => rfl
  | cons c l ih => simp only [List.cons_append, valL, ih]
theorem valL_decF (f n : Nat) (h : n < 10 ^ (f + 1)) : valL (decF f n) 0 = n := by
  induction f generalizing n with
  | zero => simp only [decF, valL, dg_toNat]; omega
  | succ f ih =>
    simp only [decF]
    split
    · simp only [valL, dg_toNat]; omega
    · rw [valL_append, ih (n / 10) (by rw [Nat.pow_succ] at h; omega)]
      simp only [valL, dg_toNat]
      omega
theorem valL_dec {n : Nat} (h : n < 100000000000000000000) : valL (dec n) 0 = n := valL_decF 19 n (by omega)
/-- The first digit is no nought, but for 0 alone. -/
theorem decF_head (f n : Nat) (hn : 0 < n) (h : n < 10 ^ (f + 1)) : ∃ c l, decF f n = c :: l ∧ c.toNat ≠ 48 := by
  induction f generalizing n with
  | zero => exact ⟨dg n, [], rfl, by rw [dg_toNat]; omega⟩
  | succ f ih =>
    simp only [decF]
    split
    · exact ⟨dg n, [], rfl, by rw [dg_toNat]; omega⟩
    · obtain ⟨c, l, hc, hne⟩ := ih (n / 10) (by omega) (by rw [Nat.pow_succ] at h; omega)
      exact ⟨c, l ++ [dg n], by rw [hc]; rfl, hne⟩
theorem dec_head {n : Nat} (hn : 0 < n) (h : n < 100000000000000000000) : ∃ c l, dec n = c :: l ∧ c.toNat ≠ 48 := decF_head 19 n hn (by omega)
/-- Bytes as a text. -/
def txt (l : List UInt8) : ByteArray := ⟨l.toArray⟩
theorem txt_append (l m : List UInt8) : txt l ++ txt m = txt (l ++ m) := by
  apply ByteArray.ext
  simp [txt]
theorem txt_size (l : List UInt8) : (txt l).size = l.length := by simp [txt, ByteArray.size]
theorem txt_inj {l m : List UInt8} (h : txt l = txt m) : l = m := by
  have := congrArg (fun b => b.data.toList) h
  simpa [txt] using this
end Go.Proofs.YtgfhgopfhcakhaaDoor

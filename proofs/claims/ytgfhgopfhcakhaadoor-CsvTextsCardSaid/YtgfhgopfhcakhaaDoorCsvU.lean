
/-
  What ReplaceAll gives at quotation marks; how the bytes of a letter are passed. No program in sight.
-/
import Derived.Test.YtgfhgopfhcakhaaDoorCsvP
import Derived.Laws.RangeAny
import Derived.Lib.Replace
import Derived.Lib.SplitLaws
import Derived.Lib.IndexBytes
set_option linter.unusedVariables false
set_option linter.unusedSimpArgs false
namespace Go.Proofs.YtgfhgopfhcakhaaDoor
open Go

theorem ib_cons_eq (l : List UInt8) : Lib.index (34 :: l) [34] = 0 := by rw [Lib.index_one]; simp [Lib.indexByte]
theorem ib_cons_ne {a : UInt8} (h : a ≠ 34) (l : List UInt8) {i : Nat} (hi : Lib.index l [34] = i) : Lib.index (a :: l) [34] = ((i + 1 : Nat) : Int) := by
  rw [Lib.index_one] at hi ⊢
  unfold Lib.indexByte
  have h1 : (a == 34) = false := by simpa using h
  have h2 : (Lib.indexByte l 34 == -1) = false := by rw [hi]; simp
  rw [h1, h2, hi]
  simp
theorem repl_dbl (s : List UInt8) : Lib.replaceK [34] [34, 34] (Lib.count s [34]) s = dbl s := by
  induction s with
  | nil =>
    have : Lib.count [] [34] = 0 := by rw [Lib.count_one]; rfl
    rw [this]; rfl
  | cons a s ih =>
    by_cases h : a = 34
    · subst h
      rw [Lib.count_cons_eq, Nat.add_comm 1, Lib.replaceK_hit _ _ _ _ 0 (ib_cons_eq s)]
      show [] ++ [34, 34] ++ Lib.replaceK [34] [34, 34] (Lib.count s [34]) s = _
      rw [ih]
      simp [dbl]
    · rw [Lib.count_cons_ne a 34 s h]
      have hd : dbl (a :: s) = a :: dbl s := by simp only [dbl]; rw [if_neg h]
      rw [hd, ← ih]
      cases hc : Lib.count s [34] with
      | zero => rfl
      | succ k =>
        obtain ⟨i, hi⟩ := Lib.index_of_count (s := s) (old := [34]) (by omega)
        rw [Lib.replaceK_hit _ _ _ _ i hi, Lib.replaceK_hit _ _ _ _ (i + 1) (ib_cons_ne h s hi)]
        simp
theorem replAll_dbl (s : List UInt8) : Lib.replaceAll s [34] [34, 34] = dbl s := by
  unfold Lib.replaceAll Lib.replace
  rw [if_neg (by decide)]
  unfold Lib.replaceNum
  rw [if_pos (.inl (by decide))]
  exact repl_dbl s
/-- The bytes of a letter that isn't one byte. -/
theorem letter_high (s : ByteArray) (pos : Nat) (h : pos < s.size) (ha : 128 ≤ (s[pos]'h).toNat) (j : Nat) (hj : j < (Utf8.decode s pos).2) : pos + j < s.size ∧ 128 ≤ (s.get! (pos + j)).toNat := by
  have h0 : (s.get! (pos + 0)) = s[pos]'h := get_at s pos h
  have hb : ∀ k, (s.get! (pos + k)).toNat < 256 := fun k => (s.get! (pos + k)).toNat_lt
  have hn : ¬ (s[pos]'h).toNat < 128 := by omega
  have hz : j = 0 → pos + j < s.size ∧ 128 ≤ (s.get! (pos + j)).toNat := fun e => by subst e; rw [h0]; exact ⟨h, ha⟩
  simp only [Utf8.decode, h0, hn, if_false] at hj
  split at hj
  · rename_i hc
    simp only [Bool.and_eq_true, decide_eq_true_eq, beq_iff_eq] at hc
    have h1 := hc.2
    split at hj
    · have : j = 0 ∨ j = 1 := by simp at hj; omega
      rcases this with e | e
      · exact hz e
      · subst e; exact ⟨h1.1, by omega⟩
    · exact hz (by simp at hj; omega)
  · split at hj
    · rename_i hc
      simp only [Bool.and_eq_true, decide_eq_true_eq, beq_iff_eq] at hc
      obtain ⟨⟨_, h1⟩, h2⟩ := hc
      split at hj
      · have : j = 0 ∨ j = 1 ∨ j = 2 := by simp at hj; omega
        rcases this with e | e | e
        · exact hz e
        · subst e; exact ⟨h1.1, by omega⟩
        · subst e; exact ⟨h2.1, by omega⟩
      · exact hz (by simp at hj; omega)
    · split at hj
      · rename_i hc
        simp only [Bool.and_eq_true, decide_eq_true_eq, beq_iff_eq] at hc
        obtain ⟨⟨⟨_, h1⟩, h2⟩, h3⟩ := hc
        split at hj
        · have : j = 0 ∨ j = 1 ∨ j = 2 ∨ j = 3 := by simp at hj; omega
          rcases this with e | e | e | e
          · exact hz e
          · subst e; exact ⟨h1.1, by omega⟩
          · subst e; exact ⟨h2.1, by omega⟩
          · subst e; exact ⟨h3.1, by omega⟩
        · exact hz (by simp at hj; omega)
      · exact hz (by simp at hj; omega)
theorem spec_high {c : UInt8} (h : 128 ≤ c.toNat) : spec c = false := by
  unfold spec
  have h1 : (c == 44) = false := by simp; intro e; rw [e] at h; exact absurd h (by decide)
  have h2 : (c == 34) = false := by simp; intro e; rw [e] at h; exact absurd h (by decide)
  have h3 : (c == 10) = false := by simp; intro e; rw [e] at h; exact absurd h (by decide)
  have h4 : (c == 13) = false := by simp; intro e; rw [e] at h; exact absurd h (by decide)
  rw [h1, h2, h3, h4]; rfl
end Go.Proofs.YtgfhgopfhcakhaaDoor

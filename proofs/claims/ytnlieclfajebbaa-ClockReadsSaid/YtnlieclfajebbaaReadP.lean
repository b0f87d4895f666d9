
/-
  What a text says as a number, or why it is none: lists of bytes alone. No program in sight; no conditions.
-/
import Derived.Test.YtnlieclfajebbaaDecT
import Derived.Test.YtnlieclfajebbaaNumsSum
set_option linter.unusedVariables false
set_option linter.unusedSimpArgs false
namespace Go.Proofs.Ytnlieclfajebbaa

def isD (c : UInt8) : Bool := decide (48 ≤ c.toNat) && decide (c.toNat ≤ 57)
theorem isD_iff (c : UInt8) : isD c = true ↔ 48 ≤ c.toNat ∧ c.toNat ≤ 57 := by unfold isD; simp
theorem isD_not (c : UInt8) : isD c = false ↔ c.toNat < 48 ∨ 57 < c.toNat := by
  have := isD_iff c
  cases h : isD c
  · rw [h] at this; simp at this; simp; omega
  · rw [h] at this; simp at this; simp; omega
def belowR (l : List UInt8) : Bool := l.head? == some 45
def bodyR (l : List UInt8) : List UInt8 := if belowR l = true then l.tail else l
def sgR (l : List UInt8) : Int := if belowR l = true then -1 else 1
def formB (l : List UInt8) : Bool := (bodyR l).all isD && !(bodyR l).isEmpty && (!((bodyR l).head? == some 48) || l == [48])
def valI (l : List UInt8) : Int := sgR l * (valL (bodyR l) 0 : Nat)
def readV (l : List UInt8) : Int := if formB l = true then fit2V (valI l) else 0
def readE (l : List UInt8) : Int := if formB l = true then fit2E (valI l) else 20
theorem read_no {l : List UInt8} (h : formB l = false) : readV l = 0 ∧ readE l = 20 := by
  unfold readV readE; rw [h]; exact ⟨rfl, rfl⟩
theorem read_yes {l : List UInt8} (h : formB l = true) : readV l = fit2V (valI l) ∧ readE l = fit2E (valI l) := by
  unfold readV readE; rw [h]; exact ⟨rfl, rfl⟩
/-- The number of the first k digits. -/
def vk (d : List UInt8) (k : Nat) : Nat := valL (d.take k) 0
theorem vk_zero (d : List UInt8) : vk d 0 = 0 := by unfold vk; simp [valL]
theorem take_one {d : List UInt8} {k : Nat} {c : UInt8} (h : d[k]? = some c) : d.take (k + 1) = d.take k ++ [c] := by
  rw [List.take_add_one, h]; rfl
theorem vk_step {d : List UInt8} {k : Nat} {c : UInt8} (h : d[k]? = some c) : vk d (k + 1) = 10 * vk d k + (c.toNat - 48) := by
  unfold vk; rw [take_one h, valL_append]; rfl
theorem vk_all (d : List UInt8) : vk d d.length = valL d 0 := by unfold vk; rw [List.take_length]
theorem all_take_step {d : List UInt8} {k : Nat} {c : UInt8} (h : d[k]? = some c) (ha : (d.take k).all isD = true) (hc : isD c = true) : (d.take (k + 1)).all isD = true := by
  rw [take_one h, List.all_append, ha]; simp [hc]
theorem all_no {d : List UInt8} {k : Nat} {c : UInt8} (h : d[k]? = some c) (hc : isD c = false) : d.all isD = false := by
  cases hd : d.all isD with
  | false => rfl
  | true =>
    have := List.all_eq_true.1 hd c (List.mem_of_getElem? h)
    rw [hc] at this; exact this.symm
theorem form_all {l : List UInt8} (h : (bodyR l).all isD = false) : formB l = false := by unfold formB; rw [h]; rfl
/-- One digit more: what Mul and Add say. -/
theorem fit_step {V dd : Int} (sg : Int) (hs : (sg = 1 ∧ 0 ≤ V) ∨ (sg = -1 ∧ V ≤ 0)) (h0 : 0 ≤ dd) (h9 : dd ≤ 9) :
    (fit2E V = 10 ∧ fit2V V = 0 ∧ fit2E (V * 10 + sg * dd) = 10 ∧ fit2V (V * 10 + sg * dd) = 0) ∨
    (fit2E V = 0 ∧ fit2V V = V ∧ I64 V ∧ fit2E (V * 10) = 10 ∧ fit2V (V * 10) = 0 ∧ fit2E (V * 10 + sg * dd) = 10 ∧ fit2V (V * 10 + sg * dd) = 0) ∨
    (fit2E V = 0 ∧ fit2V V = V ∧ I64 V ∧ fit2E (V * 10) = 0 ∧ fit2V (V * 10) = V * 10 ∧ I64 (V * 10) ∧ I64 (sg * dd)) := by
  unfold fit2E fit2V I64
  rcases hs with ⟨rfl, hs⟩ | ⟨rfl, hs⟩
  · rcases Int.lt_or_le 9223372036854775807 V with h | h
    · refine .inl ⟨if_neg (by omega), if_neg (by omega), if_neg (by omega), if_neg (by omega)⟩
    · rcases Int.lt_or_le 9223372036854775807 (V * 10) with h2 | h2
      · refine .inr (.inl ⟨if_pos (by omega), if_pos (by omega), by omega, if_neg (by omega), if_neg (by omega), if_neg (by omega), if_neg (by omega)⟩)
      · refine .inr (.inr ⟨if_pos (by omega), if_pos (by omega), by omega, if_pos (by omega), if_pos (by omega), by omega, by omega⟩)
  · rcases Int.lt_or_le V (-9223372036854775808) with h | h
    · refine .inl ⟨if_neg (by omega), if_neg (by omega), if_neg (by omega), if_neg (by omega)⟩
    · rcases Int.lt_or_le (V * 10) (-9223372036854775808) with h2 | h2
      · refine .inr (.inl ⟨if_pos (by omega), if_pos (by omega), by omega, if_neg (by omega), if_neg (by omega), if_neg (by omega), if_neg (by omega)⟩)
      · refine .inr (.inr ⟨if_pos (by omega), if_pos (by omega), by omega, if_pos (by omega), if_pos (by omega), by omega, by omega⟩)
theorem fit_cases (V : Int) : (fit2E V = 10 ∧ fit2V V = 0) ∨ (fit2E V = 0 ∧ fit2V V = V ∧ I64 V) := by
  unfold fit2E fit2V I64
  by_cases h : -9223372036854775808 ≤ V ∧ V ≤ 9223372036854775807
  · exact .inr ⟨if_pos h, if_pos h, h⟩
  · exact .inl ⟨if_neg h, if_neg h⟩
end Go.Proofs.Ytnlieclfajebbaa


/-
  The first place at which something holds, sought from the end. No program in sight.
-/
set_option linter.unusedVariables false
namespace Go.Proofs.Ytemakmnoncmpbaa

/-- The first of the last d places below n at which p holds. -/
def scanI (p : Nat → Bool) (n : Nat) : Nat → Int
  | 0 => 0
  | d + 1 => if p (n - 1 - d) = true then ((n - 1 - d : Nat) : Int) else scanI p n d
def scanB (p : Nat → Bool) (n : Nat) : Nat → Bool
  | 0 => false
  | d + 1 => if p (n - 1 - d) = true then true else scanB p n d
theorem scan_none {p : Nat → Bool} {n d : Nat} (hd : d ≤ n) (h : ∀ j, n - d ≤ j → j < n → p j = false) : scanI p n d = 0 ∧ scanB p n d = false := by
  induction d with
  | zero => exact ⟨rfl, rfl⟩
  | succ d ih =>
    have h1 := h (n - 1 - d) (by omega) (by omega)
    have h2 := ih (by omega) (fun j hj hn => h j (by omega) hn)
    simp only [scanI, scanB, h1]
    simpa using h2
theorem scan_hit {p : Nat → Bool} {n d k : Nat} (hd : d ≤ n) (hk : p k = true) (hn : k < n) (hl : n - d ≤ k) (h : ∀ j, n - d ≤ j → j < k → p j = false) : scanI p n d = k ∧ scanB p n d = true := by
  induction d with
  | zero => omega
  | succ d ih =>
    by_cases e : n - 1 - d = k
    · simp only [scanI, scanB, e, hk]
      simp
    · have h1 := h (n - 1 - d) (by omega) (by omega)
      have h2 := ih (by omega) (by omega) (fun j hj hn => h j (by omega) hn)
      simp only [scanI, scanB, h1]
      simpa using h2
theorem scanI_bd (p : Nat → Bool) (n d : Nat) (hd : d ≤ n) : 0 ≤ scanI p n d ∧ scanI p n d ≤ n := by
  induction d with
  | zero => simp [scanI]
  | succ d ih =>
    have := ih (by omega)
    simp only [scanI]
    split <;> omega
end Go.Proofs.Ytemakmnoncmpbaa

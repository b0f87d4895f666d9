
/-
  Plain law: tick by tick a moving car does something else just where the floors say.
-/
import Derived.Test.YtlcnhpjmmjmkcaaMoveP
set_option linter.unusedVariables false
set_option linter.unusedSimpArgs false
namespace Go.Proofs.Ytlcnhpjmmjmkcaa

/-- Does a car only go on at a floor? -/
def onB (sg : Sgt) (c : Car) (f : Int) : Bool := !stopB sg c f && (faceOf sg f c.dir == c.dir)
theorem on_dest {sg : Sgt} (hs : sg.ok) {c : Car} {f : Int} (hd : c.dir = 1 ∨ c.dir = -1) (h : onB sg c f = true) : c.dir = 1 ∧ f < 127 ∨ c.dir = -1 ∧ 0 < f := by
  unfold onB at h
  simp only [Bool.and_eq_true, Bool.not_eq_true', beq_iff_eq] at h
  have hb := moving_bey sg c f (by omega) h.1 (by rw [h.2]; omega)
  rw [h.2, bey_iff hs] at hb
  obtain ⟨k, k0, k1, _, k3⟩ := hb
  omega
/-- The first floor, from f on, at which it does something else; at most m floors on. -/
def runJ (sg : Sgt) (c : Car) (f : Int) : Nat → Nat
  | 0 => 0
  | m + 1 => if onB sg c f then runJ sg c (f + c.dir) m + 1 else 0
theorem runJ_on (sg : Sgt) (c : Car) (m : Nat) : ∀ (f : Int) (i : Nat), i < runJ sg c f m → onB sg c (f + i * c.dir) = true := by
  induction m with
  | zero => intro f i h; simp [runJ] at h
  | succ m ih =>
    intro f i h
    unfold runJ at h
    split at h
    · rename_i ho
      cases i with
      | zero => simpa using ho
      | succ i =>
        have := ih (f + c.dir) i (by omega)
        rw [show f + ((i + 1 : Nat) : Int) * c.dir = f + c.dir + (i : Int) * c.dir by push_cast; rw [Int.add_mul]; omega]
        exact this
    · omega
theorem runJ_end {sg : Sgt} (hs : sg.ok) {c : Car} (hd : c.dir = 1 ∨ c.dir = -1) (m : Nat) : ∀ (f : Int), (c.dir = 1 → 127 - f ≤ m) → (c.dir = -1 → f ≤ m) → onB sg c (f + runJ sg c f m * c.dir) = false := by
  induction m with
  | zero =>
    intro f h1 h2
    cases h : onB sg c (f + (runJ sg c f 0 : Nat) * c.dir) with
    | false => rfl
    | true =>
      simp only [runJ] at h
      have := on_dest hs hd h
      simp at this
      omega
  | succ m ih =>
    intro f h1 h2
    unfold runJ
    split
    · rename_i ho
      have := ih (f + c.dir) (fun h => by have := h1 h; omega) (fun h => by have := h2 h; omega)
      rw [show f + ((runJ sg c (f + c.dir) m + 1 : Nat) : Int) * c.dir = f + c.dir + ((runJ sg c (f + c.dir) m : Nat) : Int) * c.dir by push_cast; rw [Int.add_mul]; omega]
      exact this
    · rename_i ho
      simpa using ho
theorem runJ_bd {sg : Sgt} (hs : sg.ok) {c : Car} (hd : c.dir = 1 ∨ c.dir = -1) (m : Nat) (f : Int) (h0 : 0 ≤ f ∧ f ≤ 128) : (runJ sg c f m : Int) ≤ 128 := by
  rcases Nat.eq_zero_or_pos (runJ sg c f m) with h | h
  · rw [h]; omega
  · have := on_dest hs hd (runJ_on sg c m f (runJ sg c f m - 1) (by omega))
    generalize runJ sg c f m = J at *
    have e : ((J - 1 : Nat) : Int) = (J : Int) - 1 := by omega
    rw [e] at this
    rcases this with ⟨a, b⟩ | ⟨a, b⟩
    · rw [a] at b; omega
    · rw [a] at b; omega
/-- Where the next floor is. -/
theorem next_well {pos gap dir : Int} (hp : 0 ≤ pos) (hg : 1 ≤ gap) (hd : dir = 1 ∨ dir = -1) : pos + nextN pos gap dir * dir = nextF pos gap dir * gap ∧ 0 ≤ nextN pos gap dir ∧ nextN pos gap dir < gap := by
  have hdm := Int.mul_ediv_add_emod pos gap
  have hm1 := Int.emod_nonneg pos (show gap ≠ 0 by omega)
  have hm2 := Int.emod_lt_of_pos pos (show 0 < gap by omega)
  have hc : pos / gap * gap = gap * (pos / gap) := Int.mul_comm _ _
  have hc2 : (pos / gap + 1) * gap = gap * (pos / gap) + gap := by rw [Int.add_mul, Int.one_mul, hc]
  unfold nextN nextF
  generalize gap * (pos / gap) = q at *
  split
  · rename_i h; rw [hc]; omega
  · rename_i h
    rcases hd with hd | hd
    · subst hd
      rw [if_pos (by omega), if_pos (by omega), hc2]
      omega
    · subst hd
      rw [if_neg (by omega), if_neg (by omega), hc]
      omega
/-- On the way a floor is met only every 'gap' ticks. -/
theorem on_way {pos gap dir n0 f0 : Int} {m J : Nat} (hg : 1 ≤ gap) (hd : dir = 1 ∨ dir = -1) (h : pos + n0 * dir = f0 * gap) (hn : 0 ≤ n0 ∧ n0 < gap) (hm : (m : Int) ≤ n0 + J * gap) (hat : (pos + m * dir) % gap = 0) :
    ∃ i : Nat, i ≤ J ∧ (m : Int) = n0 + i * gap ∧ (pos + m * dir) / gap = f0 + i * dir := by
  have e1 : pos + (m : Int) * dir = f0 * gap + ((m : Int) - n0) * dir := by rw [Int.sub_mul]; omega
  have hdvd : gap ∣ ((m : Int) - n0) := by
    have h1 : gap ∣ pos + (m : Int) * dir := Int.dvd_of_emod_eq_zero hat
    have h2 : gap ∣ f0 * gap := Int.dvd_mul_left _ _
    have h3 : gap ∣ ((m : Int) - n0) * dir := by
      have := Int.dvd_sub h1 h2
      rw [e1] at this
      rwa [show f0 * gap + ((m : Int) - n0) * dir - f0 * gap = ((m : Int) - n0) * dir by omega] at this
    rcases hd with hd | hd
    · rw [hd, Int.mul_one] at h3; exact h3
    · rw [hd, Int.mul_neg, Int.mul_one] at h3; exact (Int.dvd_neg).1 h3
  obtain ⟨t, ht⟩ := hdvd
  have ht0 : 0 ≤ t := by
    apply Classical.byContradiction
    intro hc
    have : gap * t ≤ gap * (-1) := Int.mul_le_mul_of_nonneg_left (by omega) (by omega)
    omega
  have htJ : t ≤ J := by
    apply Classical.byContradiction
    intro hc
    have h1 : gap * ((J : Int) + 1) ≤ gap * t := Int.mul_le_mul_of_nonneg_left (by omega) (by omega)
    rw [Int.mul_add, Int.mul_one, Int.mul_comm gap (J : Int)] at h1
    omega
  refine ⟨t.toNat, by omega, ?_, ?_⟩
  · rw [show ((t.toNat : Nat) : Int) = t by omega, Int.mul_comm]; omega
  · rw [show ((t.toNat : Nat) : Int) = t by omega, e1, ht]
    have : f0 * gap + gap * t * dir = (f0 + t * dir) * gap := by rw [Int.add_mul, Int.mul_comm gap t, Int.mul_assoc, Int.mul_comm gap dir, ← Int.mul_assoc]
    rw [this]
    exact Int.mul_ediv_cancel _ (by omega)
end Go.Proofs.Ytlcnhpjmmjmkcaa

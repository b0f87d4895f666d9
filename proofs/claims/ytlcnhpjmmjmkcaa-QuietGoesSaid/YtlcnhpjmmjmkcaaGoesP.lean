
/-
  Plain law: going on at once is going on tick by tick.
-/
import Derived.Test.YtlcnhpjmmjmkcaaQuiet2
set_option linter.unusedVariables false
set_option linter.unusedSimpArgs false
set_option linter.unusedSectionVars false
namespace Go.Proofs.Ytlcnhpjmmjmkcaa

theorem carAt_add (c : Car) (a b : Nat) : carAt (carAt c a) b = carAt c (a + b) := by
  unfold carAt
  simp only
  congr 1
  push_cast
  rw [Int.add_mul]
  omega
theorem after_move {c : Car} (hm : c.mode = 1) (k : Nat) : afterC c k = carAt c k := by
  unfold afterC carAt
  rw [if_pos hm, Int.mul_comm]
theorem after_zero (c : Car) : afterC c 0 = c := by
  unfold afterC
  split
  · simp
  · split <;> simp
theorem after_add (c : Car) (a b : Int) : afterC (afterC c a) b = afterC c (a + b) := by
  unfold afterC
  by_cases h1 : c.mode = 1
  · simp only [if_pos h1]
    congr 1
    rw [Int.mul_add]
    omega
  · simp only [if_neg h1]
    by_cases h2 : c.mode = 2 ∨ c.mode = 3 ∨ c.mode = 4
    · simp only [if_pos h2, if_neg h1]
      congr 1
      omega
    · simp only [if_neg h2, if_neg h1]
/-- A door's car, one tick after the other. -/
theorem after_tick {c : Car} (h1 : c.mode ≠ 1) (h0 : c.mode ≠ 0) (hm : 0 ≤ c.mode ∧ c.mode ≤ 4) (k : Int) : afterC c k = { c with left := c.left - k } := by
  unfold afterC
  rw [if_neg h1, if_pos (by omega)]
theorem fine_left {s : Scen} {c : Car} {x0 y0 x1 y1 : Nat} (h : FineQ s c x0 y0 x1 y1) (h1 : c.mode ≠ 1) (h0 : c.mode ≠ 0) (k : Int) (hk : 0 ≤ k ∧ k < c.left) : FineQ s { c with left := c.left - k } x0 y0 x1 y1 := by
  have hc := h.car
  refine ⟨h.fine, ⟨hc.1, hc.2.1, hc.2.2.1, ?_, hc.2.2.2.2⟩, h.riders, h.up, h.down, .inr (.inr ⟨h0, h1, ?_, ?_⟩)⟩
  · have := hc.2.2.2.1
    show 0 ≤ c.left - k ∧ c.left - k ≤ 64
    omega
  · show 1 ≤ c.left - k
    omega
  · rcases h.ways with ⟨a, _⟩ | ⟨a, _⟩ | ⟨_, _, _, a⟩
    · exact absurd a h0
    · exact absurd a h1
    · exact a
section
variable {s : Scen} {c : Car} {x0 y0 x1 y1 : Nat} (h : FineP s c x0 y0 x1 y1) (hm : c.mode = 1) (hd : c.dir ≠ 0) (h0 : Wd x0) (h1 : Wd y0) (h2 : Wd x1) (h3 : Wd y1)
include h hm hd h0 h1 h2 h3
theorem fine_at (k : Nat) (hk : (k : Int) ≤ ahN s c x0 y0 x1 y1) : FineP s (carAt c k) x0 y0 x1 y1 := by
  induction k with
  | zero => rw [carAt_zero]; exact h
  | succ k ih =>
    have hp := ih (by omega)
    have hw := steps_well hp h0 h1 h2 h3
    have hg := ah_goes h hm hd h0 h1 h2 h3 k (by omega)
    simp only at hw
    rw [hg] at hw
    exact ⟨h.fine, ⟨hw.2.1, h.car.2⟩, .inr hm, h.riders, h.up, h.down, .inr ⟨hm, hd⟩⟩
/-- The ticks that are left grow fewer by one each tick. -/
theorem ah_shift (k : Nat) (hk : (k : Int) ≤ ahN s c x0 y0 x1 y1) : ahN s (carAt c k) x0 y0 x1 y1 = ahN s c x0 y0 x1 y1 - k := by
  have hf := fine_at h hm hd h0 h1 h2 h3 k hk
  have hb := ahN_bd h hm hd h0 h1 h2 h3
  have hb2 := ahN_bd hf hm hd h0 h1 h2 h3
  have hst := ah_stops h hm hd h0 h1 h2 h3
  have hgo := ah_goes h hm hd h0 h1 h2 h3
  have hst2 := ah_stops hf hm hd h0 h1 h2 h3
  have hgo2 := ah_goes hf hm hd h0 h1 h2 h3
  obtain ⟨N, hN⟩ := Int.eq_ofNat_of_zero_le hb.1
  obtain ⟨M, hM⟩ := Int.eq_ofNat_of_zero_le hb2.1
  have goes_ok : ∀ m : Nat, goesOn (carAt c m) (carAt c (m + 1)) := fun m => ⟨hm, rfl, (at_succ c m).symm⟩
  rcases Int.lt_trichotomy ((M : Int) + k) N with hlt | heq | hgt
  · exfalso
    have a := (hst2 M (by omega)).1
    have b := hgo (k + M) (by push_cast; omega)
    rw [carAt_add, b] at a
    exact a (goes_ok _)
  · omega
  · exfalso
    have hNk : k ≤ N := by omega
    have a := (hst N (by omega)).1
    have b := hgo2 (N - k) (by omega)
    rw [carAt_add, carAt_add, show k + (N - k) = N by omega, show k + (N - k + 1) = N + 1 by omega] at b
    rw [b] at a
    exact a (goes_ok _)
/-- The tick that is told is another one. -/
theorem ah_other (k : Nat) (hk : (k : Int) = ahN s c x0 y0 x1 y1) : (stepC s (carAt c k) x0 y0 x1 y1).mode ≠ 1 ∨ (stepC s (carAt c k) x0 y0 x1 y1).dir ≠ c.dir := by
  have hst := (ah_stops h hm hd h0 h1 h2 h3 k hk).1
  apply Classical.byContradiction
  intro hc
  have hc1 : (stepC s (carAt c k) x0 y0 x1 y1).mode = 1 := Classical.byContradiction fun e => hc (.inl e)
  have hc2 : (stepC s (carAt c k) x0 y0 x1 y1).dir = c.dir := Classical.byContradiction fun e => hc (.inr e)
  apply hst
  refine ⟨hc1, hc2, ?_⟩
  generalize hD : stepC s (carAt c k) x0 y0 x1 y1 = D at *
  unfold stepC at hD
  split at hD
  · split at hD
    · rw [← hD] at hc1; simp at hc1
    · split at hD
      · rw [← hD] at hc1; simp at hc1
      · rw [← hD] at hc2 ⊢
        simp only at hc2 ⊢
        rw [hc2]
        rfl
  · rw [← hD]
end
/-- What stays as it is, stays so tick by tick. -/
theorem still_step {s : Scen} {c : Car} {x0 y0 x1 y1 : Nat} (hm : c.mode = 0) (hp : c.pos % s.gap = 0) (hs : stillB s c x0 y0 x1 y1 = true) : stepC s c x0 y0 x1 y1 = c := by
  unfold stillB at hs
  simp only [Bool.and_eq_true, Bool.not_eq_true', beq_iff_eq] at hs
  obtain ⟨⟨a, b⟩, e⟩ := hs
  unfold stepC
  rw [if_pos hp, b, a, e, if_neg (by simp), if_pos rfl]
  obtain ⟨p, d, m, l, wt, rs⟩ := c
  simp only at hm a
  rw [hm, a]
end Go.Proofs.Ytlcnhpjmmjmkcaa

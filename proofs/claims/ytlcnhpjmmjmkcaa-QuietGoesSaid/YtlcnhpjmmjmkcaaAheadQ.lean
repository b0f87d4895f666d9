
/-
  Plain law: the document's ticks of a moving car, one by one.
-/
import Derived.Test.YtlcnhpjmmjmkcaaAheadP
set_option linter.unusedVariables false
set_option linter.unusedSimpArgs false
set_option linter.unusedSectionVars false
namespace Go.Proofs.Ytlcnhpjmmjmkcaa

/-- The car m ticks on. -/
def carAt (c : Car) (m : Nat) : Car := ⟨c.pos + m * c.dir, c.dir, c.mode, c.left, c.waited, c.riders⟩
/-- Does the document go on behind a tick? -/
def goesOn (c d : Car) : Prop := d.mode = 1 ∧ d.dir = c.dir ∧ d.pos = c.pos + c.dir
theorem carAt_zero (c : Car) : carAt c 0 = c := by unfold carAt; simp
theorem at_succ (c : Car) (m : Nat) : (carAt c m).pos + c.dir = (carAt c (m + 1)).pos := by
  show c.pos + (m : Int) * c.dir + c.dir = c.pos + ((m + 1 : Nat) : Int) * c.dir
  push_cast
  rw [Int.add_mul]
  omega
theorem step_mid {s : Scen} {c : Car} {x0 y0 x1 y1 : Nat} (m : Nat) (h : (carAt c m).pos % s.gap ≠ 0) : stepC s (carAt c m) x0 y0 x1 y1 = carAt c (m + 1) := by
  unfold stepC
  rw [if_neg h]
  have := at_succ c m
  show (⟨(carAt c m).pos + c.dir, c.dir, c.mode, c.left, c.waited, c.riders⟩ : Car) = _
  rw [this]
  rfl
theorem step_on {s : Scen} {c : Car} {x0 y0 x1 y1 : Nat} (m : Nat) (hm : c.mode = 1) (hd : c.dir ≠ 0) (h : (carAt c m).pos % s.gap = 0) (ho : onB (seeOf c s.capacity x0 y0 x1 y1) c ((carAt c m).pos / s.gap) = true) : stepC s (carAt c m) x0 y0 x1 y1 = carAt c (m + 1) := by
  unfold onB at ho
  simp only [Bool.and_eq_true, Bool.not_eq_true', beq_iff_eq] at ho
  have e1 : stopB (seeOf (carAt c m) s.capacity x0 y0 x1 y1) (carAt c m) ((carAt c m).pos / s.gap) = false := ho.1
  have e2 : faceOf (seeOf (carAt c m) s.capacity x0 y0 x1 y1) ((carAt c m).pos / s.gap) (carAt c m).dir = c.dir := ho.2
  unfold stepC
  rw [if_pos h, e1, e2, if_neg (by simp), if_neg hd]
  have := at_succ c m
  show (⟨(carAt c m).pos + c.dir, c.dir, 1, c.left, c.waited, c.riders⟩ : Car) = _
  rw [this, ← hm]
  rfl
theorem step_off {s : Scen} {c : Car} {x0 y0 x1 y1 : Nat} (m : Nat) (h : (carAt c m).pos % s.gap = 0) (ho : onB (seeOf c s.capacity x0 y0 x1 y1) c ((carAt c m).pos / s.gap) = false) : ¬ goesOn (carAt c m) (stepC s (carAt c m) x0 y0 x1 y1) := by
  have e1 : stopB (seeOf (carAt c m) s.capacity x0 y0 x1 y1) (carAt c m) ((carAt c m).pos / s.gap) = stopB (seeOf c s.capacity x0 y0 x1 y1) c ((carAt c m).pos / s.gap) := rfl
  have e2 : faceOf (seeOf (carAt c m) s.capacity x0 y0 x1 y1) ((carAt c m).pos / s.gap) (carAt c m).dir = faceOf (seeOf c s.capacity x0 y0 x1 y1) ((carAt c m).pos / s.gap) c.dir := rfl
  unfold onB at ho
  unfold stepC goesOn
  rw [if_pos h, e1, e2]
  generalize stopB (seeOf c s.capacity x0 y0 x1 y1) c ((carAt c m).pos / s.gap) = st at *
  generalize faceOf (seeOf c s.capacity x0 y0 x1 y1) ((carAt c m).pos / s.gap) c.dir = fo at *
  cases st with
  | true => rw [if_pos rfl]; rintro ⟨a, _⟩; simp at a
  | false =>
    rw [if_neg (by simp)]
    by_cases hz : fo = 0
    · rw [if_pos hz]; rintro ⟨a, _⟩; simp at a
    · rw [if_neg hz]
      rintro ⟨_, a, _⟩
      have a2 : fo = c.dir := a
      simp [a2] at ho
/-- In how many ticks, and at which floor. -/
def ahJ (s : Scen) (c : Car) (x0 y0 x1 y1 : Nat) : Nat := runJ (seeOf c s.capacity x0 y0 x1 y1) c (nextF c.pos s.gap c.dir) 256
def ahN (s : Scen) (c : Car) (x0 y0 x1 y1 : Nat) : Int := nextN c.pos s.gap c.dir + ahJ s c x0 y0 x1 y1 * s.gap
def ahF (s : Scen) (c : Car) (x0 y0 x1 y1 : Nat) : Int := nextF c.pos s.gap c.dir + ahJ s c x0 y0 x1 y1 * c.dir
section
variable {s : Scen} {c : Car} {x0 y0 x1 y1 : Nat} (h : FineP s c x0 y0 x1 y1) (hm : c.mode = 1) (hd : c.dir ≠ 0) (h0 : Wd x0) (h1 : Wd y0) (h2 : Wd x1) (h3 : Wd y1)
include h hm hd h0 h1 h2 h3
theorem nextF_in : 0 ≤ nextF c.pos s.gap c.dir ∧ nextF c.pos s.gap c.dir ≤ 128 := by
  have hp := h.car.1
  have hg := h.fine.2.1
  have hf := h.fine.1
  have hq0 : 0 ≤ c.pos / s.gap := Int.ediv_nonneg hp.1 (by omega)
  have hdm := Int.mul_ediv_add_emod c.pos s.gap
  have hm1 := Int.emod_nonneg c.pos (show s.gap ≠ 0 by omega)
  have hq1 : c.pos / s.gap ≤ s.floors - 1 := by
    apply Classical.byContradiction
    intro hc
    have h1 : s.gap * s.floors ≤ s.gap * (c.pos / s.gap) := Int.mul_le_mul_of_nonneg_left (by omega) (by omega)
    have h2 : (s.floors - 1) * s.gap = s.gap * s.floors - s.gap := by rw [Int.sub_mul, Int.one_mul, Int.mul_comm]
    omega
  unfold nextF
  split
  · omega
  · split <;> omega
theorem ah_end : onB (seeOf c s.capacity x0 y0 x1 y1) c (ahF s c x0 y0 x1 y1) = false := by
  have hd3 : c.dir = 1 ∨ c.dir = -1 := by have := h.car.2.1; omega
  have hf := nextF_in h hm hd h0 h1 h2 h3
  exact runJ_end (see_ok h0 h1 h2 h3) hd3 256 _ (fun _ => by omega) (fun _ => by omega)
theorem ah_on (i : Nat) (hi : i < ahJ s c x0 y0 x1 y1) : onB (seeOf c s.capacity x0 y0 x1 y1) c (nextF c.pos s.gap c.dir + i * c.dir) = true := runJ_on _ c 256 _ i hi
theorem ahJ_bd : (ahJ s c x0 y0 x1 y1 : Int) ≤ 128 := by
  have hd3 : c.dir = 1 ∨ c.dir = -1 := by have := h.car.2.1; omega
  exact runJ_bd (see_ok h0 h1 h2 h3) hd3 256 _ (nextF_in h hm hd h0 h1 h2 h3)
theorem ahN_bd : 0 ≤ ahN s c x0 y0 x1 y1 ∧ ahN s c x0 y0 x1 y1 ≤ 2100 := by
  have hd3 : c.dir = 1 ∨ c.dir = -1 := by have := h.car.2.1; omega
  have hg := h.fine.2.1
  have hn := next_well h.car.1.1 hg.1 hd3
  have hj := ahJ_bd h hm hd h0 h1 h2 h3
  unfold ahN
  have h4 : (ahJ s c x0 y0 x1 y1 : Int) * s.gap ≤ 128 * 16 := Int.mul_le_mul hj hg.2 (by omega) (by omega)
  have h5 : 0 ≤ (ahJ s c x0 y0 x1 y1 : Int) * s.gap := Int.mul_nonneg (by omega) (by omega)
  omega
/-- Ahead of that it goes on. -/
theorem ah_goes (m : Nat) (hlt : (m : Int) < ahN s c x0 y0 x1 y1) : stepC s (carAt c m) x0 y0 x1 y1 = carAt c (m + 1) := by
  have hd3 : c.dir = 1 ∨ c.dir = -1 := by have := h.car.2.1; omega
  have hg := h.fine.2.1
  have hn := next_well h.car.1.1 hg.1 hd3
  by_cases hat : (carAt c m).pos % s.gap = 0
  · obtain ⟨i, hi, e1, e2⟩ := on_way (J := ahJ s c x0 y0 x1 y1) hg.1 hd3 hn.1 hn.2 (by unfold ahN at hlt; omega) hat
    have hiJ : i < ahJ s c x0 y0 x1 y1 := by
      apply Nat.lt_of_not_le
      intro hle
      have : i = ahJ s c x0 y0 x1 y1 := by omega
      subst this
      unfold ahN at hlt
      omega
    have hon := ah_on h hm hd h0 h1 h2 h3 i hiJ
    rw [← e2] at hon
    exact step_on m hm hd hat hon
  · exact step_mid m hat
/-- There it does not, and this is the floor. -/
theorem ah_stops (m : Nat) (he : (m : Int) = ahN s c x0 y0 x1 y1) : ¬ goesOn (carAt c m) (stepC s (carAt c m) x0 y0 x1 y1) ∧ (carAt c m).pos / s.gap = ahF s c x0 y0 x1 y1 := by
  have hd3 : c.dir = 1 ∨ c.dir = -1 := by have := h.car.2.1; omega
  have hg := h.fine.2.1
  have hn := next_well h.car.1.1 hg.1 hd3
  have hpos : (carAt c m).pos = ahF s c x0 y0 x1 y1 * s.gap := by
    show c.pos + (m : Int) * c.dir = _
    rw [he]
    unfold ahN ahF
    rw [Int.add_mul, Int.add_mul, ← hn.1, Int.mul_assoc, Int.mul_assoc, Int.mul_comm s.gap c.dir]
    omega
  have hat : (carAt c m).pos % s.gap = 0 := by rw [hpos]; exact Int.mul_emod_left _ _
  have hq : (carAt c m).pos / s.gap = ahF s c x0 y0 x1 y1 := by rw [hpos]; exact Int.mul_ediv_cancel _ (by omega)
  refine ⟨step_off m hat ?_, hq⟩
  rw [hq]
  exact ah_end h hm hd h0 h1 h2 h3
end
end Go.Proofs.Ytlcnhpjmmjmkcaa


/-
  Plain law: a car with a closed door goes no farther than a place, and stays within its building.
-/
import Derived.Test.YtlcnhpjmmjmkcaaMove
import Derived.Test.YtlcnhpjmmjmkcaaFaceP
set_option linter.unusedVariables false
set_option linter.unusedSimpArgs false
namespace Go.Proofs.Ytlcnhpjmmjmkcaa

theorem moving_bey (s : Sgt) (c : Car) (f : Int) (hd : -1 ≤ c.dir ∧ c.dir ≤ 1) (hst : stopB s c f = false) (h0 : faceOf s f c.dir ≠ 0) : beyB s f (faceOf s f c.dir) = true := by
  have hd3 : c.dir = 0 ∨ c.dir = 1 ∨ c.dir = -1 := by omega
  unfold stopB at hst
  generalize memB (ridX c) (ridY c) f = r at *
  generalize hc1 : callB s f 1 = b1 at *
  generalize hc2 : callB s f (-1) = b2 at *
  generalize hb1 : beyB s f 1 = y1 at *
  generalize hb2 : beyB s f (-1) = y2 at *
  have e2 : -(-1 : Int) = 1 := by omega
  rcases hd3 with h | h | h
  · rw [h] at hst h0 ⊢
    rw [if_pos rfl] at hst
    have hf : faceOf s f 0 = if b1 then 1 else if b2 then -1 else if y1 then 1 else if y2 then -1 else 0 := by
      unfold faceOf
      rw [hc1, hc2, hb1, hb2, if_neg (by simp)]
    rw [hf] at h0 ⊢
    cases r <;> cases b1 <;> cases b2 <;> cases y1 <;> cases y2 <;> simp_all
  · rw [h] at hst h0 ⊢
    rw [if_neg (by omega), hc1, hc2, hb1] at hst
    have hf : faceOf s f 1 = if (b1 || y1) = true then 1 else if (b2 || y2) = true then -1 else 0 := by
      unfold faceOf
      rw [hc1, hc2, hb1, hb2, if_pos (by omega)]
    rw [hf] at h0 ⊢
    cases r <;> cases b1 <;> cases b2 <;> cases y1 <;> cases y2 <;> simp_all
  · rw [h] at hst h0 ⊢
    rw [if_neg (by omega), e2, hc1, hc2, hb2] at hst
    have hf : faceOf s f (-1) = if (b2 || y2) = true then -1 else if (b1 || y1) = true then 1 else 0 := by
      unfold faceOf
      rw [e2, hc1, hc2, hb1, hb2, if_pos (by omega)]
    rw [hf] at h0 ⊢
    cases r <;> cases b1 <;> cases b2 <;> cases y1 <;> cases y2 <;> simp_all
theorem rid_in {c : Car} {fl : Int} (h : ∀ i, i < c.riders.length → 0 ≤ dst c.riders i ∧ dst c.riders i < fl) (k : Int) (hk : 0 ≤ k ∧ k < 128) (hm : memB (ridX c) (ridY c) k = true) : k < fl := by
  unfold ridX ridY at hm
  rw [mem_of _ _ k hk.1 hk.2] at hm
  obtain ⟨i, hi, e⟩ := hm
  have := h i hi
  omega
theorem land_in {c : Car} {cap fl : Int} {x y : Nat} (h : inF fl x y) (k : Int) (hm : memB (landX c cap x) (landX c cap y) k = true) : k < fl := by
  unfold landX at hm
  split at hm
  · rw [mem_zero] at hm; cases hm
  · exact h k hm
theorem want_in {s : Scen} {c : Car} {x0 y0 x1 y1 : Nat} (h : FineP s c x0 y0 x1 y1) (k : Int) (hk : 0 ≤ k ∧ k < 128) (hm : memB (seeOf c s.capacity x0 y0 x1 y1).wx (seeOf c s.capacity x0 y0 x1 y1).wy k = true) : k < s.floors := by
  rw [mem_want] at hm
  simp only [Bool.or_eq_true] at hm
  rcases hm with h1 | h1 | h1
  · exact rid_in h.riders k hk h1
  · exact land_in h.up k h1
  · exact land_in h.down k h1
theorem steps_well {s : Scen} {c : Car} {x0 y0 x1 y1 : Nat} (h : FineP s c x0 y0 x1 y1) (h0 : Wd x0) (h1 : Wd y0) (h2 : Wd x1) (h3 : Wd y1) :
    let d := stepC s c x0 y0 x1 y1
    (-1 ≤ d.pos - c.pos ∧ d.pos - c.pos ≤ 1) ∧ (0 ≤ d.pos ∧ d.pos ≤ (s.floors - 1) * s.gap) ∧ (d.pos - c.pos = 0 ∨ (d.mode = 1 ∧ d.dir = d.pos - c.pos)) := by
  intro d
  have hp := h.car.1
  have hd := h.car.2.1
  have hg := h.fine.2.1
  have hf := h.fine.1
  show _ ∧ _ ∧ _
  have hde : d = stepC s c x0 y0 x1 y1 := rfl
  unfold stepC at hde
  by_cases hat : c.pos % s.gap = 0
  · rw [if_pos hat] at hde
    have hdm := Int.mul_ediv_add_emod c.pos s.gap
    rw [hat, Int.add_zero] at hdm
    by_cases hst : stopB (seeOf c s.capacity x0 y0 x1 y1) c (c.pos / s.gap) = true
    · rw [if_pos hst] at hde
      rw [hde]
      simp only
      exact ⟨by omega, by omega, .inl (by omega)⟩
    · rw [if_neg hst] at hde
      by_cases hz : faceOf (seeOf c s.capacity x0 y0 x1 y1) (c.pos / s.gap) c.dir = 0
      · rw [if_pos hz] at hde
        rw [hde]
        simp only
        exact ⟨by omega, by omega, .inl (by omega)⟩
      · rw [if_neg hz] at hde
        have hb := moving_bey _ c (c.pos / s.gap) hd (by simpa using hst) hz
        have hfb := face_bd (seeOf c s.capacity x0 y0 x1 y1) (c.pos / s.gap) c.dir hd
        rw [bey_iff (see_ok h0 h1 h2 h3)] at hb
        obtain ⟨k, k0, k1, k2, k3⟩ := hb
        have hkf := want_in h k ⟨k0, k1⟩ k2
        generalize faceOf (seeOf c s.capacity x0 y0 x1 y1) (c.pos / s.gap) c.dir = fo at *
        have hq0 : 0 ≤ c.pos / s.gap := Int.ediv_nonneg hp.1 (by omega)
        generalize c.pos / s.gap = f at *
        rw [hde]
        simp only
        have hb2 : 0 ≤ c.pos + fo ∧ c.pos + fo ≤ (s.floors - 1) * s.gap := by
          rcases k3 with ⟨a, b⟩ | ⟨a, b⟩
          · have e1 : f + 1 ≤ s.floors - 1 := by omega
            have e2 : s.gap * (f + 1) ≤ s.gap * (s.floors - 1) := Int.mul_le_mul_of_nonneg_left e1 (by omega)
            rw [Int.mul_add, Int.mul_one, Int.mul_comm s.gap (s.floors - 1)] at e2
            omega
          · have e1 : 1 ≤ f := by omega
            have e2 : s.gap * 1 ≤ s.gap * f := Int.mul_le_mul_of_nonneg_left e1 (by omega)
            omega
        exact ⟨by omega, hb2, .inr ⟨trivial, by omega⟩⟩
  · rw [if_neg hat] at hde
    have hpl := h.place
    have hpl2 : c.mode = 1 ∧ c.dir ≠ 0 := by
      rcases hpl with hpl | hpl
      · exact absurd hpl hat
      · exact hpl
    have n0 : c.pos ≠ 0 := fun e => hat (by rw [e]; simp)
    have n1 : c.pos ≠ (s.floors - 1) * s.gap := fun e => hat (by rw [e]; exact Int.mul_emod_left _ _)
    rw [hde]
    simp only
    exact ⟨by omega, by omega, .inr ⟨hpl2.1, by omega⟩⟩
end Go.Proofs.Ytlcnhpjmmjmkcaa

/-
  (Sight).Call, Beyond, Of, Stop. Conditions: floors within a million, directions -1, 0, 1. (Sight).Of, Stop. Conditions: floors within a million, directions -1, 0, 1. (Sight).Stop. Conditions: at most 1000 riders, floors within a million, directions -1, 0, 1. Plain law: who wants somewhere stops here or faces a way in which there is something.
-/
import Derived.Test.YtejcgagblpkmoaaDoorFace
import Derived.Test.YtejcgagblpkmoaaDoorEqSet
set_option linter.unusedVariables false
set_option linter.unusedSimpArgs false
namespace Go.Proofs.YtejcgagblpkmoaaDoor
open Go.Joins Go.ChangeShapes Go.WideShapes Go.ChangeAt Go.RowKit Go.Deep

def callB (s : Sgt) (f d : Int) : Bool := if 0 < d then memB s.ux s.uy f else if d < 0 then memB s.dx s.dy f else false
def beyB (s : Sgt) (f d : Int) : Bool := !((beyX s.wx f d : Int) == 0 && (beyY s.wy f d : Int) == 0)
end Go.Proofs.YtejcgagblpkmoaaDoor
set_option linter.unusedVariables false
set_option linter.unusedSimpArgs false
namespace Go.Proofs.YtejcgagblpkmoaaDoor
open Go.Joins Go.ChangeShapes Go.WideShapes Go.ChangeAt Go.RowKit Go.Deep

/-- Which way a car faces. -/
def faceOf (s : Sgt) (f d : Int) : Int :=
  if d ≠ 0 then (if callB s f d || beyB s f d then d else if callB s f (-d) || beyB s f (-d) then -d else 0)
  else if callB s f 1 then 1 else if callB s f (-1) then -1 else if beyB s f 1 then 1 else if beyB s f (-1) then -1 else 0
def five (a b c d : Bool) : Prop := a = true ∨ (a = false ∧ b = true) ∨ (a = false ∧ b = false ∧ c = true) ∨ (a = false ∧ b = false ∧ c = false ∧ d = true) ∨ (a = false ∧ b = false ∧ c = false ∧ d = false)
theorem five_of (a b c d : Bool) : five a b c d := by unfold five; cases a <;> cases b <;> cases c <;> cases d <;> simp
end Go.Proofs.YtejcgagblpkmoaaDoor
set_option linter.unusedVariables false
set_option linter.unusedSimpArgs false
namespace Go.Proofs.YtejcgagblpkmoaaDoor
open Go.Joins Go.ChangeShapes Go.WideShapes Go.ChangeAt Go.RowKit Go.Deep

/-- Does a car stop? -/
def stopB (s : Sgt) (c : Car) (f : Int) : Bool := memB (ridX c) (ridY c) f || (if c.dir = 0 then callB s f 1 || callB s f (-1) else callB s f c.dir || (callB s f (-c.dir) && !beyB s f c.dir))
end Go.Proofs.YtejcgagblpkmoaaDoor
set_option linter.unusedVariables false
set_option linter.unusedSimpArgs false
namespace Go.Proofs.YtejcgagblpkmoaaDoor

theorem bey_iff {s : Sgt} (hs : s.ok) (f d : Int) : beyB s f d = true ↔ ∃ k : Int, 0 ≤ k ∧ k < 128 ∧ memB s.wx s.wy k = true ∧ (0 < d ∧ f < k ∨ d < 0 ∧ k < f) := by
  have he := empty_iff (x := beyX s.wx f d) (y := beyY s.wy f d) (wd_beyX f d hs.1.1) (wd_beyY f d hs.1.2)
  have h0 : beyB s f d = true ↔ ¬ (beyX s.wx f d = 0 ∧ beyY s.wy f d = 0) := by
    unfold beyB
    simp only [Bool.not_eq_true', Bool.and_eq_false_iff, beq_eq_false_iff_ne]
    omega
  rw [h0, he]
  constructor
  · intro h
    apply Classical.byContradiction
    intro hc
    apply h
    intro n h1 h2
    rw [mem_bey hs.1.1 hs.1.2]
    cases hm : memB s.wx s.wy n with
    | false => rfl
    | true =>
      rw [Bool.true_and]
      cases hx : (decide (0 < d) && decide (f < n) || decide (d < 0) && decide (n < f)) with
      | false => rfl
      | true =>
        exfalso
        apply hc
        refine ⟨n, h1, h2, hm, ?_⟩
        simp only [Bool.or_eq_true, Bool.and_eq_true, decide_eq_true_eq] at hx
        exact hx
  · rintro ⟨k, h1, h2, h3, h4⟩ h
    have := h k h1 h2
    rw [mem_bey hs.1.1 hs.1.2, h3, Bool.true_and] at this
    rcases h4 with ⟨a, b⟩ | ⟨a, b⟩
    · rw [decide_eq_true a, decide_eq_true b] at this; simp at this
    · rw [decide_eq_true a, decide_eq_true b] at this; simp at this
theorem land_or (c : Car) (cap : Int) (x y : Nat) : landX c cap (x ||| y) = landX c cap x ||| landX c cap y := by
  unfold landX; split
  · rfl
  · rfl
theorem mem_want (c : Car) (cap : Int) (ux uy dx dy : Nat) (k : Int) : memB (seeOf c cap ux uy dx dy).wx (seeOf c cap ux uy dx dy).wy k = (memB (ridX c) (ridY c) k || (memB (seeOf c cap ux uy dx dy).ux (seeOf c cap ux uy dx dy).uy k || memB (seeOf c cap ux uy dx dy).dx (seeOf c cap ux uy dx dy).dy k)) := by
  unfold seeOf wantX wantY
  simp only
  rw [land_or, land_or, mem_or, mem_or]
theorem face_leads (s : Sgt) (c : Car) (f : Int) (hs : s.ok) (hf : 0 ≤ f ∧ f < 128) (hd : -1 ≤ c.dir ∧ c.dir ≤ 1) (hw : ∀ k, memB s.wx s.wy k = (memB (ridX c) (ridY c) k || (memB s.ux s.uy k || memB s.dx s.dy k))) :
    if s.wx = 0 ∧ s.wy = 0 then faceOf s f c.dir = 0 ∧ stopB s c f = false else stopB s c f = true ∨ (faceOf s f c.dir ≠ 0 ∧ beyB s f (faceOf s f c.dir) = true) := by
  have hu := bey_iff hs f 1
  have hn := bey_iff hs f (-1)
  have c1 : callB s f 1 = memB s.ux s.uy f := by unfold callB; simp
  have c2 : callB s f (-1) = memB s.dx s.dy f := by unfold callB; simp
  have hwf := hw f
  have hd3 : c.dir = 0 ∨ c.dir = 1 ∨ c.dir = -1 := by omega
  split
  · rename_i h0
    have hz : ∀ k, memB s.wx s.wy k = false := fun k => by rw [h0.1, h0.2]; exact mem_zero k
    rw [hz f] at hwf
    have hwf := hwf.symm
    simp only [Bool.or_eq_false_iff] at hwf
    have b1 : beyB s f 1 = false := by
      cases h : beyB s f 1 with
      | false => rfl
      | true => obtain ⟨k, _, _, hk, _⟩ := hu.1 h; rw [hz k] at hk; cases hk
    have b2 : beyB s f (-1) = false := by
      cases h : beyB s f (-1) with
      | false => rfl
      | true => obtain ⟨k, _, _, hk, _⟩ := hn.1 h; rw [hz k] at hk; cases hk
    unfold faceOf stopB
    rcases hd3 with h | h | h
    all_goals
      rw [h]
      simp [c1, c2, b1, b2, hwf.1, hwf.2.1, hwf.2.2]
  · rename_i h0
    have hex : ∃ k : Int, 0 ≤ k ∧ k < 128 ∧ memB s.wx s.wy k = true := by
      apply Classical.byContradiction
      intro hc
      apply h0
      rw [empty_iff hs.1.1 hs.1.2]
      intro n h1 h2
      cases hm : memB s.wx s.wy n with
      | false => rfl
      | true => exact absurd ⟨n, h1, h2, hm⟩ hc
    obtain ⟨k, k1, k2, k3⟩ := hex
    have hway : memB s.wx s.wy f = true ∨ beyB s f 1 = true ∨ beyB s f (-1) = true := by
      rcases Int.lt_trichotomy k f with h | h | h
      · exact .inr (.inr (hn.2 ⟨k, k1, k2, k3, .inr ⟨by omega, h⟩⟩))
      · exact .inl (h ▸ k3)
      · exact .inr (.inl (hu.2 ⟨k, k1, k2, k3, .inl ⟨by omega, h⟩⟩))
    rw [hwf] at hway
    clear hwf hu hn hw
    unfold faceOf stopB
    generalize hb1 : beyB s f 1 = b1 at *
    generalize hb2 : beyB s f (-1) = b2 at *
    generalize memB (ridX c) (ridY c) f = r at *
    rcases hd3 with h | h | h
    · rw [h]
      simp only [c1, c2, ne_eq, not_true_eq_false, if_false, if_true, hb1, hb2]
      generalize memB s.ux s.uy f = u at *
      generalize memB s.dx s.dy f = v at *
      cases r <;> cases u <;> cases v <;> cases b1 <;> cases b2 <;> simp_all
    · rw [h]
      have e : ¬ (1 : Int) = 0 := by omega
      simp only [c1, c2, ne_eq, e, not_false_eq_true, if_true, if_false, hb1, hb2]
      generalize memB s.ux s.uy f = u at *
      generalize memB s.dx s.dy f = v at *
      cases r <;> cases u <;> cases v <;> cases b1 <;> cases b2 <;> simp_all
    · rw [h]
      have e : ¬ (-1 : Int) = 0 := by omega
      have e2 : -(-1 : Int) = 1 := by omega
      simp only [e2, c1, c2, ne_eq, e, not_false_eq_true, if_true, if_false, hb1, hb2]
      generalize memB s.ux s.uy f = u at *
      generalize memB s.dx s.dy f = v at *
      cases r <;> cases u <;> cases v <;> cases b1 <;> cases b2 <;> simp_all
end Go.Proofs.YtejcgagblpkmoaaDoor

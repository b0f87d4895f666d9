
/-
  The plain law of the ways: in how many ticks a car is there. No conditions.
-/
import Derived.Test.YtejcgagblpkmoaaDoorRef34
set_option linter.unusedVariables false
set_option linter.unusedSimpArgs false
namespace Go.Proofs.YtejcgagblpkmoaaDoor
open Go.Joins Go.ChangeShapes Go.WideShapes Go.ChangeAt Go.RowKit Go.Deep

def dirW (s : Scen) (c : Car) (M : List Int) (tp : Int) : Int := doorOf s c + farOf c.pos tp + s.stop 1 * (cntB c.pos tp M : Int)
def trnW (s : Scen) (c : Car) (M : List Int) (tp n : Int) : Int := doorOf s c + farOf c.pos (turnV M c.pos c.dir) + farOf (turnV M c.pos c.dir) tp + s.stop 1 * n
def etaOf (s : Scen) (c : Car) (M : List Int) (tp dir : Int) : Int :=
  if aheadL M c.pos c.dir = [] ∨ (0 ≤ (tp - c.pos) * c.dir ∧ (dir = c.dir ∨ aheadL M tp c.dir = [])) then dirW s c M tp
  else trnW s c M tp ((aheadL M c.pos c.dir).length + if 0 ≤ (tp - c.pos) * c.dir then 0 else (cntB c.pos tp M : Int))
/-- Does the car come by? -/
def comesB (pos d tp : Int) : Bool := decide (0 ≤ (tp - pos) * d)
theorem comes_of {pos d tp : Int} (hd : d = 1 ∨ d = -1) : (tp == pos || sg (tp - pos) == d) = comesB pos d tp := by
  unfold comesB sg
  rw [Bool.eq_iff_iff]
  simp only [Bool.or_eq_true, beq_iff_eq, decide_eq_true_eq]
  rcases hd with rfl | rfl <;> constructor <;> intro h
  · rcases h with h | h
    · omega
    · split at h <;> try (split at h) <;> omega
      omega
  · by_cases h2 : tp = pos
    · exact .inl h2
    · right
      rw [if_neg (by omega), if_pos (by omega)]
  · rcases h with h | h
    · omega
    · split at h <;> try (split at h) <;> omega
      omega
  · by_cases h2 : tp = pos
    · exact .inl h2
    · right
      rw [if_pos (by omega)]
theorem eta_cases (s : Scen) (c : Car) (M : List Int) (tp dir : Int) :
    (turnB M c.pos c.dir = false ∧ etaOf s c M tp dir = dirW s c M tp) ∨
    (turnB M c.pos c.dir = true ∧ (c.dir ≠ 0) ∧ comesB c.pos c.dir tp = true ∧ (dir == c.dir) = true ∧ etaOf s c M tp dir = dirW s c M tp) ∨
    (turnB M c.pos c.dir = true ∧ (c.dir ≠ 0) ∧ comesB c.pos c.dir tp = true ∧ (dir == c.dir) = false ∧ decide (aheadL M tp c.dir = []) = true ∧ etaOf s c M tp dir = dirW s c M tp) ∨
    (turnB M c.pos c.dir = true ∧ (c.dir ≠ 0) ∧ comesB c.pos c.dir tp = true ∧ (dir == c.dir) = false ∧ decide (aheadL M tp c.dir = []) = false ∧ etaOf s c M tp dir = trnW s c M tp (aheadL M c.pos c.dir).length) ∨
    (turnB M c.pos c.dir = true ∧ (c.dir ≠ 0) ∧ comesB c.pos c.dir tp = false ∧ etaOf s c M tp dir = trnW s c M tp ((aheadL M c.pos c.dir).length + (cntB c.pos tp M : Int))) := by
  unfold etaOf turnB comesB
  by_cases h1 : aheadL M c.pos c.dir = []
  · exact .inl ⟨by simp [h1], if_pos (.inl h1)⟩
  · have h0 : c.dir ≠ 0 := fun h' => h1 (by rw [h']; exact ahead_zero _ _)
    have ht : (!decide (aheadL M c.pos c.dir = [])) = true := by simp [h1]
    by_cases h2 : 0 ≤ (tp - c.pos) * c.dir
    · by_cases h3 : dir = c.dir
      · exact .inr (.inl ⟨ht, h0, decide_eq_true h2, by simp [h3], if_pos (.inr ⟨h2, .inl h3⟩)⟩)
      · by_cases h4 : aheadL M tp c.dir = []
        · exact .inr (.inr (.inl ⟨ht, h0, decide_eq_true h2, by simp [h3], decide_eq_true h4, if_pos (.inr ⟨h2, .inr h4⟩)⟩))
        · refine .inr (.inr (.inr (.inl ⟨ht, h0, decide_eq_true h2, by simp [h3], decide_eq_false h4, ?_⟩)))
          rw [if_neg (by rintro (h | h); exact h1 h; exact h.2.elim h3 h4), if_pos h2, Int.add_zero]
    · refine .inr (.inr (.inr (.inr ⟨ht, h0, decide_eq_false h2, ?_⟩)))
      rw [if_neg (by rintro (h | h); exact h1 h; exact h2 h.1), if_neg h2]
theorem far_bd {a b : Int} (ha : 0 ≤ a ∧ a ≤ 2048) (hb : 0 ≤ b ∧ b ≤ 2048) : 0 ≤ farOf a b ∧ farOf a b ≤ 2048 := by unfold farOf; omega
theorem turn_bd {M : List Int} {pos d : Int} (h : ∀ p ∈ M, 0 ≤ p ∧ p ≤ 2032) : 0 ≤ turnV M pos d ∧ turnV M pos d ≤ 2048 := by
  unfold turnV
  split
  · omega
  · rename_i hne
    have hm : ∀ p ∈ aheadL M pos d, 0 ≤ p ∧ p ≤ 2032 := fun p hp => h p (by unfold aheadL at hp; exact (List.mem_filter.1 hp).1)
    have h0 : ∀ i, 0 ≤ at0 (aheadL M pos d) i ∧ at0 (aheadL M pos d) i ≤ 2032 := fun i => by
      by_cases hi : i < (aheadL M pos d).length
      · exact hm _ (at0_mem hi)
      · unfold at0; simp [List.getD, List.getElem?_eq_none (Nat.le_of_not_lt hi)]
    have : ∀ k, 0 ≤ turnN (aheadL M pos d) pos k ∧ turnN (aheadL M pos d) pos k ≤ 2032 := by
      intro k
      induction k with
      | zero => exact h0 0
      | succ k ih => unfold turnN; split; exact h0 k; exact ih
    have := this (aheadL M pos d).length
    omega
theorem stop_bd {s : Scen} (h : s.small) : 0 ≤ s.stop 1 ∧ s.stop 1 ≤ 256 := by
  obtain ⟨_, _, _, h4, h5, h6, h7⟩ := h
  unfold Scen.stop
  rw [show max (1 : Int) 0 = 1 by omega]
  omega
theorem ahead_len (M : List Int) (pos d : Int) : (aheadL M pos d).length ≤ M.length := List.length_filter_le _ _
theorem mul_bd2 {e n : Int} (he : 0 ≤ e ∧ e ≤ 256) (hn : 0 ≤ n ∧ n ≤ 256) : 0 ≤ e * n ∧ e * n ≤ 65536 := by
  constructor
  · exact Int.mul_nonneg he.1 hn.1
  · have h1 : e * n ≤ 256 * n := Int.mul_le_mul_of_nonneg_right he.2 hn.1
    omega
theorem cnt_ah {x y : Nat} (hx : Wd x) (hy : Wd y) {pos g d : Int} (hg : 1 ≤ g) (hd : -1 ≤ d ∧ d ≤ 1) : ((popN (ahX x pos g d) 64 : Nat) : Int) + ((popN (ahY y pos g d) 64 : Nat) : Int) = ((aheadL (places x y g) pos d).length : Int) := by
  rw [← ah_places hx hy hg hd, places_len, items_count]
  omega
theorem places_le (x y : Nat) (g : Int) : (places x y g).length ≤ 128 := by
  rw [places_len]
  exact items_len x y
theorem at0_bd {M : List Int} (h : ∀ p ∈ M, 0 ≤ p ∧ p ≤ 2032) (i : Nat) : 0 ≤ at0 M i ∧ at0 M i ≤ 4096 := by
  by_cases hi : i < M.length
  · have := h _ (at0_mem hi); omega
  · unfold at0; simp [List.getD, List.getElem?_eq_none (Nat.le_of_not_lt hi)]
theorem at0_get {M : List Int} {i : Nat} (hi : i < M.length) : M[i]? = some (at0 M i) := by
  unfold at0; simp [List.getD, List.getElem?_eq_getElem hi]
theorem turnN_bd {M : List Int} (h : ∀ i, 0 ≤ at0 M i ∧ at0 M i ≤ 4096) (pos : Int) : ∀ k, 0 ≤ turnN M pos k ∧ turnN M pos k ≤ 4096 := by
  intro k
  induction k with
  | zero => exact h 0
  | succ k ih => unfold turnN; split; exact h k; exact ih
end Go.Proofs.YtejcgagblpkmoaaDoor

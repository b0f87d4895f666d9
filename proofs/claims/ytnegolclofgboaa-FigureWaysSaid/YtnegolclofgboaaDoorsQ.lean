
/-
  When doors are open and how far a car goes, tick by tick and leg by leg: the plain law. No program in sight.
-/
import Derived.Test.YtnegolclofgboaaTrack
set_option linter.unusedVariables false
set_option linter.unusedSimpArgs false
namespace Go.Proofs.Ytnegolclofgboaa
open Go.Joins Go.ChangeShapes Go.WideShapes Go.ChangeAt Go.RowKit Go.Deep

/-- Numbers from one on, ahead of another. -/
structure Spn where
  lo : Int
  hi : Int
abbrev Spn.cells (s : Spn) : List Value := [.int .i64 s.lo, .int .i64 s.hi]
theorem spn_len (a : Spn) : a.cells.length = 2 := rfl
def lastS (l : List Spn) : Option Spn := l[l.length - 1]?
/-- The last one ends elsewhere. -/
def setHi (l : List Spn) (e : Int) : List Spn := match lastS l with
  | some s => l.set (l.length - 1) ⟨s.lo, e⟩
  | none => l
theorem lastS_snoc (l : List Spn) (s : Spn) : lastS (l ++ [s]) = some s := by simp [lastS]
theorem lastS_nil : lastS [] = none := rfl
theorem snoc_of (l : List Spn) (h : l ≠ []) : ∃ p s, l = p ++ [s] := ⟨l.dropLast, l.getLast h, (List.dropLast_concat_getLast h).symm⟩
theorem setHi_snoc (p : List Spn) (s : Spn) (e : Int) : setHi (p ++ [s]) e = p ++ [⟨s.lo, e⟩] := by
  unfold setHi
  rw [lastS_snoc]
  simp
theorem setHi_len (l : List Spn) (e : Int) : (setHi l e).length = l.length := by
  unfold setHi
  split <;> simp
theorem lastS_some {l : List Spn} {s : Spn} (h : lastS l = some s) : l ≠ [] := fun e => by rw [e] at h; cases h
theorem lastS_form {l : List Spn} {s : Spn} (h : lastS l = some s) : ∃ p, l = p ++ [s] := by
  obtain ⟨p, s', rfl⟩ := snoc_of l (lastS_some h)
  rw [lastS_snoc] at h
  injection h with h
  exact ⟨p, by rw [h]⟩
section
variable (D : Int → Bool) (P : Int → Int) (t0 : Int)
/-- When it is open, of the first k ticks from t0 on. -/
def doorsN : Nat → List Spn
  | 0 => []
  | k + 1 => if D (t0 + k) = true then (if 0 < k ∧ D (t0 + k - 1) = true then setHi (doorsN k) (t0 + k + 1) else doorsN k ++ [⟨t0 + k, t0 + k + 1⟩]) else doorsN k
/-- How far it goes in the first k ticks from t0 on. -/
def farN : Nat → Int
  | 0 => 0
  | k + 1 => if 0 < k then farN k + max (P (t0 + k) - P (t0 + k - 1)) (P (t0 + k - 1) - P (t0 + k)) else farN k
end
section
variable {D : Int → Bool} {P : Int → Int} {t0 : Int}
theorem doors_bd (k : Nat) : (doorsN D t0 k).length ≤ k ∧ ∀ s ∈ doorsN D t0 k, t0 ≤ s.lo ∧ s.lo < t0 + k ∧ s.lo < s.hi ∧ s.hi ≤ t0 + k := by
  induction k with
  | zero => simp [doorsN]
  | succ k ih =>
    obtain ⟨h1, h2⟩ := ih
    simp only [doorsN]
    split
    · split
      · refine ⟨by rw [setHi_len]; omega, ?_⟩
        by_cases hn : doorsN D t0 k = []
        · rw [hn]; intro s hs; simp [setHi, lastS] at hs
        · obtain ⟨p, s, e⟩ := snoc_of _ hn
          rw [e] at h2 ⊢
          rw [setHi_snoc]
          intro u hu
          rw [List.mem_append] at hu
          rcases hu with hu | hu
          · have := h2 u (List.mem_append_left _ hu); omega
          · simp at hu
            have := h2 s (by simp)
            rw [hu]
            simp only
            omega
      · refine ⟨by simp; omega, ?_⟩
        intro u hu
        rw [List.mem_append] at hu
        rcases hu with hu | hu
        · have := h2 u hu; omega
        · simp at hu
          rw [hu]
          simp only
          omega
    · exact ⟨by omega, fun s hs => by have := h2 s hs; omega⟩
theorem doors_open {k : Nat} (h0 : 0 < k) (h : D (t0 + k - 1) = true) : ∃ s, lastS (doorsN D t0 k) = some s ∧ s.hi = t0 + k := by
  induction k with
  | zero => omega
  | succ k ih =>
    have e : t0 + ((k + 1 : Nat) : Int) - 1 = t0 + k := by omega
    rw [e] at h
    simp only [doorsN]
    rw [if_pos h]
    split
    · rename_i hk
      obtain ⟨s, hs, _⟩ := ih hk.1 hk.2
      obtain ⟨p, hp⟩ := lastS_form hs
      rw [hp, setHi_snoc]
      exact ⟨_, lastS_snoc _ _, by simp only; omega⟩
    · exact ⟨_, lastS_snoc _ _, by simp only; omega⟩
theorem doors_closed {k : Nat} (h : ¬ (0 < k ∧ D (t0 + k - 1) = true)) {s : Spn} (hs : lastS (doorsN D t0 k) = some s) : s.hi < t0 + k := by
  cases k with
  | zero => simp [doorsN, lastS] at hs
  | succ k =>
    have e : t0 + ((k + 1 : Nat) : Int) - 1 = t0 + k := by omega
    rw [e] at h
    have hd : D (t0 + k) ≠ true := fun hd => h ⟨by omega, hd⟩
    simp only [doorsN] at hs
    rw [if_neg hd] at hs
    obtain ⟨p, hp⟩ := lastS_form hs
    have := (doors_bd (D := D) (t0 := t0) k).2 s (by rw [hp]; simp)
    omega
theorem doors_none {k m : Nat} (h : ∀ j : Nat, j < m → D (t0 + k + j) = false) : doorsN D t0 (k + m) = doorsN D t0 k := by
  induction m with
  | zero => rfl
  | succ m ih =>
    rw [show k + (m + 1) = k + m + 1 by omega]
    simp only [doorsN]
    have := h m (by omega)
    rw [show t0 + ((k + m : Nat) : Int) = t0 + k + m by omega, this]
    simp only [Bool.false_eq_true, if_false]
    exact ih (fun j hj => h j (by omega))
theorem doors_run {k m : Nat} (h : ∀ j : Nat, j < m + 1 → D (t0 + k + j) = true) :
    doorsN D t0 (k + (m + 1)) = if 0 < k ∧ D (t0 + k - 1) = true then setHi (doorsN D t0 k) (t0 + k + m + 1) else doorsN D t0 k ++ [⟨t0 + k, t0 + k + m + 1⟩] := by
  induction m with
  | zero =>
    have h0 := h 0 (by omega)
    rw [show t0 + (k : Int) + ((0 : Nat) : Int) = t0 + k by omega] at h0
    show doorsN D t0 (k + 1) = _
    simp only [doorsN]
    rw [if_pos h0, show t0 + (k : Int) + ((0 : Nat) : Int) + 1 = t0 + k + 1 by omega]
  | succ m ih =>
    have h1 := ih (fun j hj => h j (by omega))
    have h2 := h (m + 1) (by omega)
    have h3 := h m (by omega)
    rw [show k + (m + 1 + 1) = k + (m + 1) + 1 by omega]
    rw [show doorsN D t0 (k + (m + 1) + 1) = if D (t0 + ((k + (m + 1) : Nat) : Int)) = true then (if 0 < k + (m + 1) ∧ D (t0 + ((k + (m + 1) : Nat) : Int) - 1) = true then setHi (doorsN D t0 (k + (m + 1))) (t0 + ((k + (m + 1) : Nat) : Int) + 1) else doorsN D t0 (k + (m + 1)) ++ [⟨t0 + ((k + (m + 1) : Nat) : Int), t0 + ((k + (m + 1) : Nat) : Int) + 1⟩]) else doorsN D t0 (k + (m + 1)) from rfl]
    rw [show t0 + ((k + (m + 1) : Nat) : Int) = t0 + k + ((m + 1 : Nat) : Int) by omega, if_pos h2, if_pos ⟨by omega, by rw [show t0 + (k : Int) + ((m + 1 : Nat) : Int) - 1 = t0 + k + m by omega]; exact h3⟩, h1]
    split
    · rename_i hk
      obtain ⟨s, hs, _⟩ := doors_open hk.1 hk.2
      obtain ⟨p, hp⟩ := lastS_form hs
      rw [hp, setHi_snoc, setHi_snoc, setHi_snoc]
    · rw [setHi_snoc]
theorem far_run {k m : Nat} {d : Int} (hd : -1 ≤ d ∧ d ≤ 1) (h : ∀ j : Nat, j < m + 1 → P (t0 + k + j) = P (t0 + k) + d * j) : farN P t0 (k + (m + 1)) = farN P t0 (k + 1) + max (m * d) (-(m * d)) := by
  induction m with
  | zero => simp
  | succ m ih =>
    have h1 := ih (fun j hj => h j (by omega))
    have h2 := h (m + 1) (by omega)
    have h3 := h m (by omega)
    rw [show k + (m + 1 + 1) = k + (m + 1) + 1 by omega]
    rw [show farN P t0 (k + (m + 1) + 1) = if 0 < k + (m + 1) then farN P t0 (k + (m + 1)) + max (P (t0 + ((k + (m + 1) : Nat) : Int)) - P (t0 + ((k + (m + 1) : Nat) : Int) - 1)) (P (t0 + ((k + (m + 1) : Nat) : Int) - 1) - P (t0 + ((k + (m + 1) : Nat) : Int))) else farN P t0 (k + (m + 1)) from rfl]
    rw [if_pos (by omega), h1, show t0 + ((k + (m + 1) : Nat) : Int) = t0 + k + ((m + 1 : Nat) : Int) by omega, show t0 + (k : Int) + ((m + 1 : Nat) : Int) - 1 = t0 + k + m by omega, h2, h3]
    have : d = -1 ∨ d = 0 ∨ d = 1 := by omega
    rcases this with rfl | rfl | rfl <;> omega
end

/-- A leg's ticks. -/
theorem legK_at {ls : List Leg} (hf : fineLs ls) {i : Nat} (hi : i < ls.length) {t : Int} (h1 : (legAt ls i).tick ≤ t) (h2 : i + 1 < ls.length → t < (legAt ls (i + 1)).tick) : legK ls t ls.length = i + 1 :=
  legK_stop (fun j hj => Int.le_trans (legs_rise hf (by omega) hi) h1) (fun h => h2 h) (by omega)
theorem way_at {ls : List Leg} (hf : fineLs ls) {i : Nat} (hi : i < ls.length) {t : Int} (h1 : (legAt ls i).tick ≤ t) (h2 : i + 1 < ls.length → t < (legAt ls (i + 1)).tick) :
    wayD ls t = (legAt ls i).door ∧ wayP ls t = (legAt ls i).pos + (legAt ls i).dir * (t - (legAt ls i).tick) ∧ wayB ls t = true := by
  have hk := legK_at hf hi h1 h2
  unfold wayD wayP wayB wayG
  rw [hk]
  refine ⟨?_, ?_, ?_⟩
  · rw [if_pos (by omega)]; rfl
  · rw [if_pos (by omega)]; rfl
  · exact decide_eq_true (by omega)
/-- Where a leg's ticks end. -/
def endL (ls : List Leg) (h : Int) (i : Nat) : Int := if i + 1 < ls.length then min h (legAt ls (i + 1)).tick else h
/-- How many ticks lie ahead of a leg. -/
def cntL (ls : List Leg) (h : Int) (i : Nat) : Nat := if i < ls.length then (min h (legAt ls i).tick - (legAt ls 0).tick).toNat else (h - (legAt ls 0).tick).toNat
theorem rise1 {ls : List Leg} (hf : fineLs ls) {i : Nat} (hi : i + 1 < ls.length) : (legAt ls i).tick < (legAt ls (i + 1)).tick := hf.2.2 i hi
theorem cntL_step {ls : List Leg} (hf : fineLs ls) {h : Int} {i : Nat} (hi : i < ls.length) :
    (endL ls h i ≤ (legAt ls i).tick → cntL ls h (i + 1) = cntL ls h i) ∧
    ((legAt ls i).tick < endL ls h i → (legAt ls 0).tick + (cntL ls h i : Int) = (legAt ls i).tick ∧ (cntL ls h (i + 1) : Int) = cntL ls h i + (endL ls h i - (legAt ls i).tick)) := by
  have h0 := legs_rise hf (Nat.zero_le i) hi
  unfold endL cntL
  rw [if_pos hi]
  by_cases hl : i + 1 < ls.length
  · have h1 := rise1 hf hl
    rw [if_pos hl, if_pos hl]
    omega
  · rw [if_neg hl, if_neg hl]
    omega
theorem seg_ticks {ls : List Leg} {h : Int} {i : Nat} {t : Int} (h2 : t < endL ls h i) : i + 1 < ls.length → t < (legAt ls (i + 1)).tick := fun hl => by
  unfold endL at h2
  rw [if_pos hl] at h2
  omega
/-- The doors' spans behind i legs. -/
def dL (ls : List Leg) (h : Int) (i : Nat) : List Spn := doorsN (wayD ls) (legAt ls 0).tick (cntL ls h i)
theorem dL_zero {ls : List Leg} {h : Int} (hl : 0 < ls.length) : dL ls h 0 = [] := by
  unfold dL cntL
  rw [if_pos hl, show (min h (legAt ls 0).tick - (legAt ls 0).tick).toNat = 0 by omega]
  rfl
theorem dL_skip {ls : List Leg} (hf : fineLs ls) {h : Int} {i : Nat} (hi : i < ls.length) (he : (legAt ls i).door = false ∨ endL ls h i ≤ (legAt ls i).tick) : dL ls h (i + 1) = dL ls h i := by
  obtain ⟨c1, c2⟩ := cntL_step hf (h := h) hi
  unfold dL
  rcases Int.lt_or_le (legAt ls i).tick (endL ls h i) with hlt | hge
  · obtain ⟨c3, c4⟩ := c2 hlt
    obtain ⟨m, hm⟩ : ∃ m : Nat, cntL ls h (i + 1) = cntL ls h i + m := ⟨cntL ls h (i + 1) - cntL ls h i, by omega⟩
    rw [hm]
    refine doors_none (fun j hj => ?_)
    rw [(way_at hf hi (t := (legAt ls 0).tick + (cntL ls h i : Int) + j) (by omega) (seg_ticks (h := h) (by omega))).1]
    rcases he with he | he
    · exact he
    · omega
  · rw [c1 hge]
theorem dL_open {ls : List Leg} (hf : fineLs ls) {h : Int} {i : Nat} (hi : i < ls.length) (hd : (legAt ls i).door = true) (hlt : (legAt ls i).tick < endL ls h i) :
    (∀ s, lastS (dL ls h i) = some s → s.hi = (legAt ls i).tick → dL ls h (i + 1) = setHi (dL ls h i) (endL ls h i)) ∧
    ((∀ s, lastS (dL ls h i) = some s → s.hi ≠ (legAt ls i).tick) → dL ls h (i + 1) = dL ls h i ++ [⟨(legAt ls i).tick, endL ls h i⟩]) := by
  obtain ⟨c1, c2⟩ := cntL_step hf (h := h) hi
  obtain ⟨c3, c4⟩ := c2 hlt
  obtain ⟨m, hm⟩ : ∃ m : Nat, cntL ls h (i + 1) = cntL ls h i + (m + 1) := ⟨cntL ls h (i + 1) - cntL ls h i - 1, by omega⟩
  have hr := doors_run (D := wayD ls) (t0 := (legAt ls 0).tick) (k := cntL ls h i) (m := m) (fun j hj => by
    rw [(way_at hf hi (t := (legAt ls 0).tick + (cntL ls h i : Int) + j) (by omega) (seg_ticks (h := h) (by omega))).1]
    exact hd)
  rw [show (legAt ls 0).tick + (cntL ls h i : Int) + m + 1 = endL ls h i by omega] at hr
  rw [← hm] at hr
  have e1 : dL ls h (i + 1) = doorsN (wayD ls) (legAt ls 0).tick (cntL ls h (i + 1)) := rfl
  have e2 : dL ls h i = doorsN (wayD ls) (legAt ls 0).tick (cntL ls h i) := rfl
  rw [e1, e2, hr]
  constructor
  · intro s hs he
    rw [if_pos]
    by_cases hc : 0 < cntL ls h i ∧ wayD ls ((legAt ls 0).tick + (cntL ls h i : Int) - 1) = true
    · exact hc
    · have := doors_closed hc hs
      omega
  · intro hn
    rw [if_neg, c3]
    intro hc
    obtain ⟨s, hs, he⟩ := doors_open hc.1 hc.2
    exact hn s hs (by omega)
theorem dL_all {ls : List Leg} {h : Int} : dL ls h ls.length = doorsN (wayD ls) (legAt ls 0).tick (h - (legAt ls 0).tick).toNat := by
  unfold dL cntL
  rw [if_neg (by omega)]
/-- How far a car goes in the first i legs. -/
def fL (ls : List Leg) (h : Int) (i : Nat) : Int := farN (wayP ls) (legAt ls 0).tick (cntL ls h i)
theorem fL_zero {ls : List Leg} {h : Int} (hl : 0 < ls.length) : fL ls h 0 = 0 := by
  unfold fL cntL
  rw [if_pos hl, show (min h (legAt ls 0).tick - (legAt ls 0).tick).toNat = 0 by omega]
  rfl
theorem fL_skip {ls : List Leg} (hf : fineLs ls) {h : Int} {i : Nat} (hi : i < ls.length) (he : endL ls h i ≤ (legAt ls i).tick) : fL ls h (i + 1) = fL ls h i := by
  unfold fL
  rw [(cntL_step hf (h := h) hi).1 he]
theorem far_tail {ls : List Leg} (hf : fineLs ls) {h : Int} {i : Nat} (hi : i < ls.length) (he : endL ls h i ≤ (legAt ls i).tick) : ∀ n, i + n ≤ ls.length → fL ls h (i + n) = fL ls h i := by
  intro n
  induction n with
  | zero => intro _; rfl
  | succ n ih =>
    intro hn
    rw [show i + (n + 1) = i + n + 1 by omega]
    have hin : i + n < ls.length := by omega
    rw [fL_skip hf hin ?_, ih (by omega)]
    have hr := legs_rise hf (show i ≤ i + n by omega) hin
    unfold endL at he ⊢
    by_cases h1 : i + 1 < ls.length
    · rw [if_pos h1] at he
      have := rise1 hf h1
      split <;> omega
    · have : n = 0 := by omega
      subst this
      rw [if_neg h1] at he
      rw [if_neg (by omega)]
      omega
/-- The last place of a leg. -/
def lastP (ls : List Leg) (h : Int) (i : Nat) : Int := (legAt ls i).pos + (endL ls h i - (legAt ls i).tick - 1) * (legAt ls i).dir
theorem fL_step {ls : List Leg} (hf : fineLs ls) {h : Int} {i : Nat} (hi : i < ls.length) (hlt : (legAt ls i).tick < endL ls h i) (lp : Int) (hp : 0 < cntL ls h i → lp = wayP ls ((legAt ls 0).tick + (cntL ls h i : Int) - 1)) :
    fL ls h (i + 1) = (if 0 < cntL ls h i then fL ls h i + max ((legAt ls i).pos - lp) (lp - (legAt ls i).pos) else fL ls h i) + max ((endL ls h i - (legAt ls i).tick - 1) * (legAt ls i).dir) (-((endL ls h i - (legAt ls i).tick - 1) * (legAt ls i).dir)) ∧
    0 < cntL ls h (i + 1) ∧ lastP ls h i = wayP ls ((legAt ls 0).tick + (cntL ls h (i + 1) : Int) - 1) := by
  obtain ⟨c1, c2⟩ := cntL_step hf (h := h) hi
  obtain ⟨c3, c4⟩ := c2 hlt
  have hfl := (hf.2.1 i hi).1
  obtain ⟨m, hm⟩ : ∃ m : Nat, cntL ls h (i + 1) = cntL ls h i + (m + 1) := ⟨cntL ls h (i + 1) - cntL ls h i - 1, by omega⟩
  have hw : ∀ j : Nat, j < m + 1 → wayP ls ((legAt ls 0).tick + (cntL ls h i : Int) + j) = (legAt ls i).pos + (legAt ls i).dir * j := fun j hj => by
    rw [(way_at hf hi (t := (legAt ls 0).tick + (cntL ls h i : Int) + j) (by omega) (seg_ticks (h := h) (by omega))).2.1]
    rw [show (legAt ls 0).tick + (cntL ls h i : Int) + j - (legAt ls i).tick = j by omega]
  have hw0 := hw 0 (by omega)
  rw [show (legAt ls 0).tick + (cntL ls h i : Int) + ((0 : Nat) : Int) = (legAt ls 0).tick + (cntL ls h i : Int) by omega, show (legAt ls i).dir * ((0 : Nat) : Int) = 0 by simp, Int.add_zero] at hw0
  have hr := far_run (P := wayP ls) (t0 := (legAt ls 0).tick) (k := cntL ls h i) (m := m) hfl (fun j hj => by rw [hw j hj, hw0])
  have em : endL ls h i - (legAt ls i).tick - 1 = m := by omega
  refine ⟨?_, by omega, ?_⟩
  · unfold fL
    rw [hm, hr, em]
    have e1 : farN (wayP ls) (legAt ls 0).tick (cntL ls h i + 1) = if 0 < cntL ls h i then farN (wayP ls) (legAt ls 0).tick (cntL ls h i) + max (wayP ls ((legAt ls 0).tick + (cntL ls h i : Int)) - wayP ls ((legAt ls 0).tick + (cntL ls h i : Int) - 1)) (wayP ls ((legAt ls 0).tick + (cntL ls h i : Int) - 1) - wayP ls ((legAt ls 0).tick + (cntL ls h i : Int))) else farN (wayP ls) (legAt ls 0).tick (cntL ls h i) := rfl
    rw [e1, hw0]
    by_cases hc : 0 < cntL ls h i
    · rw [if_pos hc, if_pos hc, hp hc]
    · rw [if_neg hc, if_neg hc]
  · unfold lastP
    rw [em, hm, show (legAt ls 0).tick + ((cntL ls h i + (m + 1) : Nat) : Int) - 1 = (legAt ls 0).tick + (cntL ls h i : Int) + m by omega, hw m (by omega), Int.mul_comm]
theorem fL_all {ls : List Leg} {h : Int} : fL ls h ls.length = farN (wayP ls) (legAt ls 0).tick (h - (legAt ls 0).tick).toNat := by
  unfold fL cntL
  rw [if_neg (by omega)]
end Go.Proofs.Ytnegolclofgboaa

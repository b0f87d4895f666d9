
/-
  The place of the least number: what near.Least and hoistwayref32.Least compute. Condition: the slice reads as the list.
-/
import Derived.Test.YtejcgagblpkmoaaDoorSetW2
set_option linter.unusedVariables false
set_option linter.unusedSimpArgs false
namespace Go.Proofs.YtejcgagblpkmoaaDoor
open Go.Joins Go.ChangeShapes Go.WideShapes Go.ChangeAt Go.RowKit Go.Deep

/-- The place of the least of the first n, the first one of several. -/
def leastN (xs : List Int) : Nat → Int
  | 0 => -1
  | n + 1 => if leastN xs n < 0 ∨ at0 xs n < at0 xs (leastN xs n).toNat then n else leastN xs n
theorem leastN_bd (xs : List Int) (n : Nat) : -1 ≤ leastN xs n ∧ leastN xs n < n ∧ (0 < n → 0 ≤ leastN xs n) := by
  induction n with
  | zero => simp [leastN]
  | succ n ih =>
    unfold leastN
    split <;> omega
theorem leastN_min (xs : List Int) (n : Nat) : ∀ i, i < n → at0 xs (leastN xs n).toNat ≤ at0 xs i ∧ ((i : Int) < leastN xs n → at0 xs (leastN xs n).toNat < at0 xs i) := by
  induction n with
  | zero => intro i hi; omega
  | succ n ih =>
    have hb := leastN_bd xs n
    intro i hi
    by_cases hc : leastN xs n < 0 ∨ at0 xs n < at0 xs (leastN xs n).toNat
    · have e : leastN xs (n + 1) = n := by rw [leastN, if_pos hc]
      rw [e, Int.toNat_natCast]
      by_cases hin : i = n
      · subst hin
        omega
      · have := ih i (by omega)
        have hneg : ¬ leastN xs n < 0 := by omega
        omega
    · have e : leastN xs (n + 1) = leastN xs n := by rw [leastN, if_neg hc]
      rw [e]
      by_cases hin : i = n
      · subst hin
        omega
      · exact ih i (by omega)
/-- It is the only such place. -/
theorem least_uniq (xs : List Int) (n : Nat) (k : Int) (h0 : n = 0 → k = -1) (h1 : 0 < n → 0 ≤ k ∧ k < n) (h2 : ∀ i, i < n → at0 xs k.toNat ≤ at0 xs i ∧ ((i : Int) < k → at0 xs k.toNat < at0 xs i)) : k = leastN xs n := by
  have hb := leastN_bd xs n
  have hm := leastN_min xs n
  by_cases hn : n = 0
  · subst hn
    have := h0 rfl
    omega
  · have hk := h1 (by omega)
    have h3 := h2 (leastN xs n).toNat (by omega)
    have h4 := hm k.toNat (by omega)
    omega

theorem near_Least (A : Option Addr) (C : Nat) (xs : List Int) (w : World) (hx : Ints w A xs) (hl : xs.length ≤ 4611686018427387904) :
    Calls Tryd.prog 37 #[.slice A xs.length C] w fun e w' => e = .returned (.int .i64 (leastN xs xs.length)) ∧ w = w' := by
  go_enter Tryd.func37, Tryd.ntmps37
  go_wp2
  go_loop [3, 8] (fun b i => ∃ k : Nat, k ≤ xs.length ∧ i = .int .i64 k ∧ b = .int .i64 (leastN xs k)) (fun _ i => xs.length - (intOf i).toNat)
  case atStart => exact ⟨0, by omega, rfl, rfl⟩
  case round =>
    obtain ⟨k, hk, rfl, rfl⟩ := hrel
    obtain ⟨b0, b1, b2⟩ := leastN_bd xs k
    by_cases hlt : k < xs.length
    · obtain ⟨b, off, rfl, hbl, hc⟩ := hx (by omega)
      have hck := hc k hlt
      by_cases hneg : leastN xs k < 0
      · have hnx : leastN xs (k + 1) = k := by rw [leastN, if_pos (.inl hneg)]
        have HN := Lib.hid hnx
        clear hnx hc b2
        go_wp2
        go_round
        case rel => exact ⟨k + 1, by omega, by go_num, by rw [HN.out]⟩
        case measure => simp [intOf]; omega
      · have hcb := hc (leastN xs k).toNat (by omega)
        by_cases hless : at0 xs k < at0 xs (leastN xs k).toNat
        · have hnx : leastN xs (k + 1) = k := by rw [leastN, if_pos (.inr hless)]
          have HN := Lib.hid hnx
          clear hnx hc b2
          go_wp2
          go_round
          case rel => exact ⟨k + 1, by omega, by go_num, by rw [HN.out]⟩
          case measure => simp [intOf]; omega
        · have hnx : leastN xs (k + 1) = leastN xs k := by rw [leastN, if_neg (by omega)]
          have HN := Lib.hid hnx
          clear hnx hc b2
          go_wp2
          go_round
          case rel => exact ⟨k + 1, by omega, by go_num, by rw [HN.out]⟩
          case measure => simp [intOf]; omega
    · obtain rfl : k = xs.length := by omega
      go_wp2
      go_ret
      exact ⟨rfl, rfl⟩

/-- What ref's loop from the end holds, with the places from m on gone through. -/
def DownOk (xs : List Int) (m : Nat) (t : Int) : Prop :=
  m ≤ xs.length ∧ (m = xs.length → t = -1) ∧ (m < xs.length → (m : Int) ≤ t ∧ t < xs.length) ∧ ∀ j, m ≤ j → j < xs.length → at0 xs t.toNat ≤ at0 xs j ∧ ((j : Int) < t → at0 xs t.toNat < at0 xs j)
theorem down_take {xs : List Int} {m : Nat} {t : Int} (h : DownOk xs (m + 1) t) (hc : t < 0 ∨ at0 xs m ≤ at0 xs t.toNat) : DownOk xs m m := by
  obtain ⟨h0, h1, h2, h3⟩ := h
  refine ⟨by omega, by omega, by omega, fun j hj hj' => ?_⟩
  rw [Int.toNat_natCast]
  by_cases e : j = m
  · subst e; omega
  · have := h3 j (by omega) hj'
    have := h2 (by omega)
    omega
theorem down_keep {xs : List Int} {m : Nat} {t : Int} (h : DownOk xs (m + 1) t) (hc : ¬ (t < 0 ∨ at0 xs m ≤ at0 xs t.toNat)) : DownOk xs m t := by
  obtain ⟨h0, h1, h2, h3⟩ := h
  have hlt : m + 1 < xs.length := by
    rcases Nat.lt_or_ge (m + 1) xs.length with h | h
    · exact h
    · have := h1 (by omega); omega
  have := h2 hlt
  refine ⟨by omega, by omega, by omega, fun j hj hj' => ?_⟩
  by_cases e : j = m
  · subst e; omega
  · exact h3 j (by omega) hj'
theorem down_end {xs : List Int} {t : Int} (h : DownOk xs 0 t) : t = leastN xs xs.length := by
  obtain ⟨h0, h1, h2, h3⟩ := h
  exact least_uniq xs _ t (fun e => h1 e.symm) (fun e => by have := h2 e; omega) (fun i hi => h3 i (by omega) hi)

theorem ref_Least (A : Option Addr) (C : Nat) (xs : List Int) (w : World) (hx : Ints w A xs) (hl : xs.length ≤ 4611686018427387904) :
    Calls Tryd.prog 19 #[.slice A xs.length C] w fun e w' => e = .returned (.int .i64 (leastN xs xs.length)) ∧ ∃ n, w' = w.drewN n := by
  go_enter Tryd.func19, Tryd.ntmps19
  go_wp2
  go_loopw [3, 4] (fun t i wr => ∃ (m : Nat) (q : Int) (n : Nat), i = .int .i64 ((m : Int) - 1) ∧ t = .int .i64 q ∧ DownOk xs m q ∧ wr = w.drewN n) (fun _ i _ => (intOf i + 1).toNat)
  case atStart => exact ⟨xs.length, -1, 0, rfl, rfl, ⟨Nat.le_refl _, fun _ => rfl, fun h => absurd h (by omega), fun j h1 h2 => absurd h1 (by omega)⟩, rfl⟩
  case round =>
    obtain ⟨m, q, n, rfl, rfl, hd, rfl⟩ := hrel
    obtain ⟨d0, d1, d2, _⟩ := id hd
    have HD := Lib.hid hd
    clear hd
    cases m with
    | succ m =>
      obtain ⟨b, off, rfl, hbl, hc⟩ := hx (by omega)
      have hck := hc m (by omega)
      have e1 : ((m + 1 : Nat) : Int) - 1 = m := by omega
      rw [e1]
      by_cases hneg : q < 0
      · have hnx := down_take HD.out (.inl hneg)
        have HN := Lib.hid hnx
        clear hnx hc d1 d2
        go_wp2
        go_quiet (fail)
        go_wp2
        go_roundw
        case rel => exact ⟨m, m, _, by go_num, by go_num, HN.out, rfl⟩
        case measure => simp [intOf] <;> omega
      · have hq : q < xs.length := by
          rcases Nat.lt_or_ge (m + 1) xs.length with h | h
          · exact (d2 h).2
          · have := d1 (by omega); omega
        have hcb := hc q.toNat (by omega)
        have hgd : decide (q < 0) = false := by simpa using hneg
        have hq0 : 0 ≤ q := by omega
        by_cases hless : at0 xs m ≤ at0 xs q.toNat
        · have hnx := down_take HD.out (.inr hless)
          have HN := Lib.hid hnx
          clear hnx hc d1 d2
          go_wp2
          go_quiet (fail)
          go_wp2
          go_roundw
          case rel => exact ⟨m, m, _, by go_num, by go_num, HN.out, rfl⟩
          case measure => simp [intOf] <;> omega
        · have hnx := down_keep HD.out (by omega)
          have HN := Lib.hid hnx
          clear hnx hc d1 d2
          go_wp2
          go_quiet (fail)
          go_wp2
          go_roundw
          case rel => exact ⟨m, q, _, by go_num, rfl, HN.out, rfl⟩
          case measure => simp [intOf] <;> omega
    | zero =>
      have e1 : ((0 : Nat) : Int) - 1 = -1 := by omega
      rw [e1]
      have hend := down_end HD.out
      have HE := Lib.hid hend
      clear hend
      go_wp2
      go_ret
      exact ⟨ret_int HE.out, _, rfl⟩
end Go.Proofs.YtejcgagblpkmoaaDoor

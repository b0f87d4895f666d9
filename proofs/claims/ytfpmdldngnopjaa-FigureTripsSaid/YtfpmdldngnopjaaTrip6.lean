/-
  How long all rode: trip.Aboard and the document's. Condition: the trips are within bounds.
-/
import Derived.Test.YtfpmdldngnopjaaTrip2
set_option linter.unusedVariables false
set_option linter.unusedSimpArgs false
namespace Go.Proofs.Ytfpmdldngnopjaa
open Go.Joins Go.ChangeShapes Go.WideShapes Go.ChangeAt Go.RowKit Go.Deep

/-- How long one rode ahead of a tick. -/
def abT (u : Int) (t : Trip) : Int := if t.board < 0 ∨ u ≤ t.board then 0 else max ((if 0 ≤ t.alight then min u t.alight else u) - t.board) 0
theorem abT_bd {u : Int} {t : Trip} (h : fineT t) (hu : u ≤ 1073741824) : 0 ≤ abT u t ∧ abT u t ≤ 1073741824 := by
  unfold fineT at h
  unfold abT
  split
  · omega
  · split <;> omega
def abS (xs : List Trip) (u : Int) : Nat → Int
  | 0 => 0
  | k + 1 => abS xs u k + abT u (tripAt xs k)
theorem abS_bd {xs : List Trip} (h : fineTs xs) {u : Int} (hu : u ≤ 1073741824) (k : Nat) (hk : k ≤ xs.length) : 0 ≤ abS xs u k ∧ abS xs u k ≤ 1073741824 * k := by
  induction k with
  | zero => simp [abS]
  | succ k ih =>
    obtain ⟨t, ht⟩ := at_some (xs := xs) (k := k) (by omega)
    have h1 := ih (by omega)
    have h2 := abT_bd (h.2 k t ht) hu
    simp only [abS, tripAt_of ht]
    omega
set_option maxHeartbeats 4000000 in
theorem trip_Aboard (A : Option Addr) (C : Nat) (xs : List Trip) (u : Int) (w : World) (hx : Trips w A xs) (hf : fineTs xs) (hu0 : -1 ≤ u) (hu : u ≤ 1073741824) :
    Calls Try.prog 63 #[.slice A xs.length C, .int .i64 u] w fun e w' => e = .returned (.int .i64 (abS xs u xs.length)) ∧ Below w.heap.size w w' := by
  have HX := Lib.hid hx
  have HF := Lib.hid hf
  have hl := hf.1
  clear hx hf
  go_enter Try.func63, Try.ntmps63
  go_wp2
  go_loopw [5, 11] (fun n i wr => ∃ k : Nat, k ≤ xs.length ∧ i = .int .i64 k ∧ n = .int .i64 (abS xs u k) ∧ Below w.heap.size w wr) (fun _ i _ => xs.length - (intOf i).toNat)
  case atStart => exact ⟨0, by omega, rfl, rfl, Below.refl _ _⟩
  case round =>
    obtain ⟨k, hk, rfl, rfl, hb⟩ := hrel
    obtain ⟨s0, s1⟩ := abS_bd HF.out hu k hk
    by_cases hkl : k < xs.length
    · obtain ⟨b, off, rfl, hbl, hce⟩ := HX.out (by omega)
      obtain ⟨t, ht⟩ := at_some hkl
      have z := fun j u h => (hb.cell (p := ⟨b, off + k * 7 + j, none⟩) hbl).trans (hce k t ht j u h)
      have z0 := z 0 _ rfl
      have z1 := z 1 _ rfl
      have z2 := z 2 _ rfl
      have z3 := z 3 _ rfl
      have z4 := z 4 _ rfl
      have z5 := z 5 _ rfl
      have z6 := z 6 _ rfl
      simp only [Nat.add_zero] at z0
      have hs0 : abS xs u (k + 1) = abS xs u k + abT u t := by rw [← tripAt_of ht]; rfl
      obtain ⟨t0, t1⟩ := abT_bd (HF.out.2 k t ht) hu
      obtain ⟨⟨g1, g2⟩, ⟨g3, g4⟩, g5, g6⟩ := HF.out.2 k t ht
      have hbn := below_of_alloc hb (.cells t.cells.toArray 45)
      have S0 := Lib.hid hs0
      obtain ⟨a0, a1, a2, a3, a4, a5, a6⟩ := t
      simp only [Trip.cells] at *
      unfold abT at hs0 t0 t1 S0
      simp only at hs0 t0 t1 S0
      have hcs : a5 < 0 ∨ (0 ≤ a5 ∧ u ≤ a5) ∨ (0 ≤ a5 ∧ a5 < u ∧ a6 < 0) ∨ (0 ≤ a5 ∧ a5 < u ∧ 0 ≤ a6 ∧ a6 ≤ a5) ∨ (0 ≤ a5 ∧ a5 < u ∧ 0 ≤ a6 ∧ a5 < a6 ∧ a6 ≤ u) ∨ (0 ≤ a5 ∧ a5 < u ∧ 0 ≤ a6 ∧ a5 < a6 ∧ u < a6) := by omega
      clear z hce ht hs0 t0 t1
      rcases hcs with h | ⟨h, h'⟩ | ⟨h, h', h2⟩ | ⟨h, h', h2, h3⟩ | ⟨h, h', h2, h3, h4⟩ | ⟨h, h', h2, h3, h4⟩
      all_goals
        go_wp2
        go_roundw
        case rel => exact ⟨k + 1, by omega, by go_num, val_int (by rw [S0.out]; omega), hbn⟩
        case measure => simp [intOf]; omega
    · obtain rfl : k = xs.length := by omega
      go_wp2
      go_ret
      exact ⟨rfl, hb⟩
set_option maxHeartbeats 4000000 in
theorem ref24_Aboard (A : Option Addr) (C : Nat) (xs : List Trip) (u : Int) (w : World) (hx : Trips w A xs) (hf : fineTs xs) (hu0 : -1 ≤ u) (hu : u ≤ 1073741824) :
    Calls Try.prog 57 #[.slice A xs.length C, .int .i64 u] w fun e w' => e = .returned (.int .i64 (abS xs u xs.length)) ∧ Below w.heap.size w w' := by
  have HX := Lib.hid hx
  have HF := Lib.hid hf
  have hl := hf.1
  clear hx hf
  go_enter Try.func57, Try.ntmps57
  go_wp2
  go_loopw [5, 6] (fun n i wr => ∃ k : Nat, k ≤ xs.length ∧ i = .int .i64 k ∧ n = .int .i64 (abS xs u k) ∧ Below w.heap.size w wr) (fun _ i _ => xs.length - (intOf i).toNat)
  case atStart => exact ⟨0, by omega, rfl, rfl, Below.refl _ _⟩
  case round =>
    obtain ⟨k, hk, rfl, rfl, hb⟩ := hrel
    obtain ⟨s0, s1⟩ := abS_bd HF.out hu k hk
    by_cases hkl : k < xs.length
    · obtain ⟨b, off, rfl, hbl, hce⟩ := HX.out (by omega)
      obtain ⟨t, ht⟩ := at_some hkl
      have z := fun j u h => (hb.cell (p := ⟨b, off + k * 7 + j, none⟩) hbl).trans (hce k t ht j u h)
      have z0 := z 0 _ rfl
      have z1 := z 1 _ rfl
      have z2 := z 2 _ rfl
      have z3 := z 3 _ rfl
      have z4 := z 4 _ rfl
      have z5 := z 5 _ rfl
      have z6 := z 6 _ rfl
      simp only [Nat.add_zero] at z0
      have hs0 : abS xs u (k + 1) = abS xs u k + abT u t := by rw [← tripAt_of ht]; rfl
      obtain ⟨t0, t1⟩ := abT_bd (HF.out.2 k t ht) hu
      obtain ⟨⟨g1, g2⟩, ⟨g3, g4⟩, g5, g6⟩ := HF.out.2 k t ht
      have hbn := below_of_alloc hb (.cells t.cells.toArray 45)
      have S0 := Lib.hid hs0
      obtain ⟨a0, a1, a2, a3, a4, a5, a6⟩ := t
      simp only [Trip.cells] at *
      unfold abT at hs0 t0 t1 S0
      simp only at hs0 t0 t1 S0
      have hcs : a5 < 0 ∨ (0 ≤ a5 ∧ u ≤ a5) ∨ (0 ≤ a5 ∧ a5 < u ∧ a6 < 0) ∨ (0 ≤ a5 ∧ a5 < u ∧ 0 ≤ a6 ∧ a6 ≤ a5) ∨ (0 ≤ a5 ∧ a5 < u ∧ 0 ≤ a6 ∧ a5 < a6 ∧ a6 ≤ u) ∨ (0 ≤ a5 ∧ a5 < u ∧ 0 ≤ a6 ∧ a5 < a6 ∧ u < a6) := by omega
      clear z hce ht hs0 t0 t1
      rcases hcs with h | ⟨h, h'⟩ | ⟨h, h', h2⟩ | ⟨h, h', h2, h3⟩ | ⟨h, h', h2, h3, h4⟩ | ⟨h, h', h2, h3, h4⟩
      all_goals
        go_wp2
        all_goals first
          | (go_roundw
             case rel => exact ⟨k + 1, by omega, by go_num, val_int (by rw [S0.out]; omega), hbn⟩
             case measure => simp [intOf]; omega)
          | (exfalso; omega)
    · obtain rfl : k = xs.length := by omega
      go_wp2
      go_ret
      exact ⟨rfl, hb⟩
end Go.Proofs.Ytfpmdldngnopjaa

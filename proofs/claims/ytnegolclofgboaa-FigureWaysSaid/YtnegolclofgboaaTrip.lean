
/-
  How far trips are: trip.At, Counts and the document's. Condition: there are at most 100 trips.
-/
import Derived.Test.YtnegolclofgboaaDataT
import Derived.Test.YtnegolclofgboaaSlice
set_option linter.unusedVariables false
set_option linter.unusedSimpArgs false
namespace Go.Proofs.Ytnegolclofgboaa
open Go.Joins Go.ChangeShapes Go.WideShapes Go.ChangeAt Go.RowKit Go.Deep

/-- How far a trip is. -/
def phase (t : Trip) : Int := if 0 ≤ t.alight then 2 else if 0 ≤ t.board then 1 else 0
abbrev Trips (w : World) (A : Option Addr) (xs : List Trip) : Prop := Elems 7 Trip.cells w A xs
theorem trip_At (t : Trip) (w : World) : Calls Try.prog 54 #[t.val] w fun e w' => e = .returned (.int .i64 (phase t)) ∧ Below w.heap.size w w' := by
  have hp : (phase t = 2 ∧ 0 ≤ t.alight) ∨ (phase t = 1 ∧ t.alight < 0 ∧ 0 ≤ t.board) ∨ (phase t = 0 ∧ t.alight < 0 ∧ t.board < 0) := by unfold phase; split <;> (try split) <;> omega
  obtain ⟨a0, a1, a2, a3, a4, a5, a6⟩ := t
  simp only at hp
  rcases hp with ⟨h, h1⟩ | ⟨h, h1, h2⟩ | ⟨h, h1, h2⟩
  all_goals
    rw [h]
    clear h
    go_enter Try.func54, Try.ntmps54
    go_wp2
    go_ret
    exact ⟨rfl, (Below.refl _ _).alloc (Nat.le_refl _) _⟩
def tripAt (xs : List Trip) (i : Nat) : Trip := xs.getD i ⟨0, 0, 0, 0, 0, 0, 0⟩
theorem tripAt_of {xs : List Trip} {k : Nat} {t : Trip} (h : xs[k]? = some t) : tripAt xs k = t := by simp [tripAt, List.getD, h]
/-- How many of the first k are so far. -/
def cntP (xs : List Trip) (p : Int) : Nat → Int
  | 0 => 0
  | k + 1 => cntP xs p k + if phase (tripAt xs k) = p then 1 else 0
theorem cntP_bd (xs : List Trip) (p : Int) (k : Nat) : 0 ≤ cntP xs p k ∧ cntP xs p k ≤ k := by
  induction k with
  | zero => simp [cntP]
  | succ k ih => simp only [cntP]; split <;> omega
theorem cntP_sum (xs : List Trip) (k : Nat) : cntP xs 2 k + cntP xs 1 k + cntP xs 0 k = k := by
  induction k with
  | zero => simp [cntP]
  | succ k ih =>
    simp only [cntP]
    have : phase (tripAt xs k) = 2 ∨ phase (tripAt xs k) = 1 ∨ phase (tripAt xs k) = 0 := by unfold phase; split <;> (try split) <;> omega
    rcases this with h | h | h <;> rw [h] <;> simp <;> omega

set_option maxHeartbeats 1000000 in
theorem trip_Counts (A : Option Addr) (C : Nat) (xs : List Trip) (w : World) (hx : Trips w A xs) (hl : xs.length ≤ 100) :
    Calls Try.prog 50 #[.slice A xs.length C] w fun e w' => e = .returned (.tuple #[.int .i64 (cntP xs 2 xs.length), .int .i64 (cntP xs 1 xs.length), .int .i64 (cntP xs 0 xs.length)]) ∧ Below w.heap.size w w' := by
  have HX := Lib.hid hx
  clear hx
  go_enter Try.func50, Try.ntmps50
  go_wp2
  have hfw1 : ∀ i, (w.alloc (.cells #[.int .i64 0, .int .i64 0, .int .i64 0] 108)).frozen? ⟨w.heap.size, i, none⟩ = false := fun i => (Blk.new w 108 #[.int .i64 0, .int .i64 0, .int .i64 0]).free i
  have hB1 := Blk.new w 108 #[.int .i64 0, .int .i64 0, .int .i64 0]
  obtain ⟨hBw1, hcw1, hzw1⟩ := box w 108 #[.int .i64 0, .int .i64 0, .int .i64 0]
  change Code.wp _ _ _ _ (w.alloc (.cells #[.int .i64 0, .int .i64 0, .int .i64 0] 108))
  generalize (w.alloc (.cells #[.int .i64 0, .int .i64 0, .int .i64 0] 108)) = w1 at *
  clear hfw1 hcw1
  go_loopw [10] (fun i wr => ∃ k : Nat, k ≤ xs.length ∧ i = .int .i64 k ∧ Blk wr w.heap.size 108 #[.int .i64 (cntP xs 0 k), .int .i64 (cntP xs 1 k), .int .i64 (cntP xs 2 k)] ∧ Below w.heap.size w wr) (fun i _ => xs.length - (intOf i).toNat)
  case atStart => exact ⟨0, by omega, rfl, hB1, hBw1⟩
  case round =>
    obtain ⟨k, hk, rfl, hblk, hb⟩ := hrel
    have c0 := hblk.cell 0
    have c1 := hblk.cell 1
    have c2 := hblk.cell 2
    have f0 := hblk.free 0
    have f1 := hblk.free 1
    have f2 := hblk.free 2
    have hlt := hblk.lt
    by_cases hkl : k < xs.length
    · obtain ⟨b, off, rfl, hbl, hce⟩ := HX.out (by omega)
      obtain ⟨t, ht⟩ := at_some hkl
      have z := fun j u h => (hb.cell (p := ⟨b, off + k * 7 + j, none⟩) hbl).trans (hce k t ht j u h)
      have z0 := z 0 _ rfl
      have z1 := z 1 _ rfl
      have z2 := z 2 _ rfl
      have z3 := z 3 _ rfl
      have z4 := z 4 _ rfl
      have z5 := z 5 _ rfl
      have z6 := z 6 _ rfl
      simp only [Nat.add_zero] at z0
      have hne : b ≠ w.heap.size := by omega
      clear z hce
      obtain ⟨b0, b1⟩ := cntP_bd xs 0 k
      obtain ⟨b2, b3⟩ := cntP_bd xs 1 k
      obtain ⟨b4, b5⟩ := cntP_bd xs 2 k
      have cA := fun w => trip_At t w
      have hs0 : cntP xs 0 (k + 1) = cntP xs 0 k + if phase t = 0 then 1 else 0 := by rw [← tripAt_of ht]; rfl
      have hs1 : cntP xs 1 (k + 1) = cntP xs 1 k + if phase t = 1 then 1 else 0 := by rw [← tripAt_of ht]; rfl
      have hs2 : cntP xs 2 (k + 1) = cntP xs 2 k + if phase t = 2 then 1 else 0 := by rw [← tripAt_of ht]; rfl
      have hp3 : phase t = 0 ∨ phase t = 1 ∨ phase t = 2 := by unfold phase; split <;> (try split) <;> omega
      generalize phase t = p at *
      obtain ⟨a0, a1, a2, a3, a4, a5, a6⟩ := t
      simp only [Trip.cells] at *
      rcases hp3 with rfl | rfl | rfl
      · simp at hs0 hs1 hs2
        have S0 := Lib.hid hs0
        have S1 := Lib.hid hs1
        have S2 := Lib.hid hs2
        have CA := Lib.hid cA
        clear cA hs0 hs1 hs2 ht
        go_wp2_with fail
        refine (CA.out _).mono ?_
        rintro e w2 ⟨rfl, hb2⟩
        have hblk2 := (hblk.alloc (.cells #[.int .i64 a0, .int .i64 a1, .int .i64 a2, .int .i64 a3, .int .i64 a4, .int .i64 a5, .int .i64 a6] 91)).below hb2 (by simp; omega)
        have hb3 : Below w.heap.size w w2 := below_box hb hb2
        have d : w2.cell? ⟨w.heap.size, 0, none⟩ = some (.int .i64 (cntP xs 0 k)) := hblk2.cell 0
        have g := hblk2.free 0
        clear c0 c1 c2 f0 f1 f2 hb2 hblk
        go_wp2
        go_roundw
        case rel => exact ⟨k + 1, by omega, by go_num, by rw [S0.out, S1.out, S2.out]; exact hblk2.set_ 0 _, hb3.setCell (Nat.le_refl _) _⟩
        case measure => simp [intOf]; omega
      · simp at hs0 hs1 hs2
        have S0 := Lib.hid hs0
        have S1 := Lib.hid hs1
        have S2 := Lib.hid hs2
        have CA := Lib.hid cA
        clear cA hs0 hs1 hs2 ht
        go_wp2_with fail
        refine (CA.out _).mono ?_
        rintro e w2 ⟨rfl, hb2⟩
        have hblk2 := (hblk.alloc (.cells #[.int .i64 a0, .int .i64 a1, .int .i64 a2, .int .i64 a3, .int .i64 a4, .int .i64 a5, .int .i64 a6] 91)).below hb2 (by simp; omega)
        have hb3 : Below w.heap.size w w2 := below_box hb hb2
        have d : w2.cell? ⟨w.heap.size, 1, none⟩ = some (.int .i64 (cntP xs 1 k)) := hblk2.cell 1
        have g := hblk2.free 1
        clear c0 c1 c2 f0 f1 f2 hb2 hblk
        go_wp2
        go_roundw
        case rel => exact ⟨k + 1, by omega, by go_num, by rw [S0.out, S1.out, S2.out]; exact hblk2.set_ 1 _, hb3.setCell (Nat.le_refl _) _⟩
        case measure => simp [intOf]; omega
      · simp at hs0 hs1 hs2
        have S0 := Lib.hid hs0
        have S1 := Lib.hid hs1
        have S2 := Lib.hid hs2
        have CA := Lib.hid cA
        clear cA hs0 hs1 hs2 ht
        go_wp2_with fail
        refine (CA.out _).mono ?_
        rintro e w2 ⟨rfl, hb2⟩
        have hblk2 := (hblk.alloc (.cells #[.int .i64 a0, .int .i64 a1, .int .i64 a2, .int .i64 a3, .int .i64 a4, .int .i64 a5, .int .i64 a6] 91)).below hb2 (by simp; omega)
        have hb3 : Below w.heap.size w w2 := below_box hb hb2
        have d : w2.cell? ⟨w.heap.size, 2, none⟩ = some (.int .i64 (cntP xs 2 k)) := hblk2.cell 2
        have g := hblk2.free 2
        clear c0 c1 c2 f0 f1 f2 hb2 hblk
        go_wp2
        go_roundw
        case rel => exact ⟨k + 1, by omega, by go_num, by rw [S0.out, S1.out, S2.out]; exact hblk2.set_ 2 _, hb3.setCell (Nat.le_refl _) _⟩
        case measure => simp [intOf]; omega
    · obtain rfl : k = xs.length := by omega
      go_wp2
      go_quiet (fail)
      go_wp2
      go_ret3
      exact ⟨rfl, below_drewN hb _⟩

/-- The trip of one who came. -/
def beginT (p : Pass) : Trip := ⟨p.id, p.tick, p.from_, p.dest, -1, -1, -1⟩
end Go.Proofs.Ytnegolclofgboaa

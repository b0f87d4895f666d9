
/-
  Where two rows of trips part: diff.Trips. Condition: there are at most 100 trips each.
-/
import Derived.Test.YtemakmnoncmpbaaDataT
import Derived.Test.YtemakmnoncmpbaaSlice
import Derived.Test.YtemakmnoncmpbaaScan
set_option linter.unusedVariables false
set_option linter.unusedSimpArgs false
namespace Go.Proofs.Ytemakmnoncmpbaa
open Go.Joins Go.ChangeShapes Go.WideShapes Go.ChangeAt Go.RowKit Go.Deep

def tripEq (a b : Trip) : Bool := a.id == b.id && a.arrive == b.arrive && a.from_ == b.from_ && a.dest == b.dest && a.car == b.car && a.board == b.board && a.alight == b.alight
theorem tripEq_iff (a b : Trip) : tripEq a b = true ↔ a = b := by
  obtain ⟨a0, a1, a2, a3, a4, a5, a6⟩ := a
  obtain ⟨b0, b1, b2, b3, b4, b5, b6⟩ := b
  unfold tripEq
  simp [and_assoc]
theorem run_trips (a b : Trip) (w : World) : (Op.equalIn 10000 28 (.agg #[.int .i64 a.id, .int .i64 a.arrive, .int .i64 a.from_, .int .i64 a.dest, .int .i64 a.car, .int .i64 a.board, .int .i64 a.alight]) (.agg #[.int .i64 b.id, .int .i64 b.arrive, .int .i64 b.from_, .int .i64 b.dest, .int .i64 b.car, .int .i64 b.board, .int .i64 b.alight])).run Try.prog w = .ok (tripEq a b) w := by
  unfold tripEq
  simp [go_sem]
  repeat (split; rotate_left; · simp_all)
  simp_all
def tripAtD (xs : List Trip) (i : Nat) : Trip := xs.getD i ⟨0, 0, 0, 0, 0, 0, 0⟩
theorem tripAtD_of {xs : List Trip} {k : Nat} {t : Trip} (h : xs[k]? = some t) : tripAtD xs k = t := by simp [tripAtD, List.getD, h]
/-- Do two rows of trips part here? -/
def partsB (xs ys : List Trip) (i : Nat) : Bool := decide (xs.length ≤ i) || decide (ys.length ≤ i) || !tripEq (tripAtD xs i) (tripAtD ys i)
theorem parts_in {xs ys : List Trip} {k : Nat} {t u : Trip} (ht : xs[k]? = some t) (hu : ys[k]? = some u) : partsB xs ys k = !tripEq t u := by
  have h1 := (List.getElem?_eq_some_iff.1 ht).1
  have h2 := (List.getElem?_eq_some_iff.1 hu).1
  unfold partsB
  rw [tripAtD_of ht, tripAtD_of hu, decide_eq_false (by omega), decide_eq_false (by omega)]
  simp
theorem parts_out {xs ys : List Trip} {k : Nat} (h : xs.length ≤ k ∨ ys.length ≤ k) : partsB xs ys k = true := by
  unfold partsB
  rcases h with h | h <;> rw [decide_eq_true h] <;> simp
theorem ret_ib {k : IntKind} {a b : Int} {c d : Bool} (h : a = b) (h' : c = d) : Ending.returned (.tuple #[.int k a, .bool c]) = .returned (.tuple #[.int k b, .bool d]) := by rw [h, h']
set_option maxHeartbeats 2000000 in
theorem diff_Trips (A B : Option Addr) (C D : Nat) (xs ys : List Trip) (w : World) (hx : Elems 7 Trip.cells w A xs) (hy : Elems 7 Trip.cells w B ys) (hl : xs.length ≤ 100) (hl2 : ys.length ≤ 100) :
    Calls Try.prog 6 #[.slice A xs.length C, .slice B ys.length D] w fun e w' => e = .returned (.tuple #[.int .i64 (scanI (partsB xs ys) (max xs.length ys.length) (max xs.length ys.length)), .bool (scanB (partsB xs ys) (max xs.length ys.length) (max xs.length ys.length))]) ∧ ∃ n, w' = w.drewN n := by
  have HX := Lib.hid hx
  have HY := Lib.hid hy
  clear hx hy
  rcases Nat.lt_or_ge ys.length xs.length with hm | hm
  all_goals
    go_enter Try.func6, Try.ntmps6
    go_wp2
    go_loopw [12] (fun i wr => ∃ k n : Nat, k ≤ xs.length ∧ k ≤ ys.length ∧ i = .int .i64 k ∧ Hid (∀ j, j < k → partsB xs ys j = false) ∧ wr = w.drewN n) (fun i _ => xs.length - (intOf i).toNat)
    case atStart => exact ⟨0, 0, by omega, by omega, rfl, fun j hj => by omega, rfl⟩
    case round =>
      obtain ⟨k, n, hk, hk2, rfl, hpre, rfl⟩ := hrel
      by_cases hkl : k < xs.length ∧ k < ys.length
      · obtain ⟨hkx, hky⟩ := hkl
        obtain ⟨b, off, rfl, hbl, hce⟩ := HX.out (by omega)
        obtain ⟨b2, off2, rfl, hbl2, hce2⟩ := HY.out (by omega)
        obtain ⟨t, ht⟩ := at_some hkx
        obtain ⟨u, hu⟩ := at_some hky
        have z0 := hce k t ht 0 _ rfl
        have z1 := hce k t ht 1 _ rfl
        have z2 := hce k t ht 2 _ rfl
        have z3 := hce k t ht 3 _ rfl
        have z4 := hce k t ht 4 _ rfl
        have z5 := hce k t ht 5 _ rfl
        have z6 := hce k t ht 6 _ rfl
        have y0 := hce2 k u hu 0 _ rfl
        have y1 := hce2 k u hu 1 _ rfl
        have y2 := hce2 k u hu 2 _ rfl
        have y3 := hce2 k u hu 3 _ rfl
        have y4 := hce2 k u hu 4 _ rfl
        have y5 := hce2 k u hu 5 _ rfl
        have y6 := hce2 k u hu 6 _ rfl
        simp only [Nat.add_zero] at z0 y0
        have i0 : (0 : Int) ≤ (k : Int) := by omega
        have i1 : (k : Int) < (xs.length : Int) := by omega
        have i2 : (k : Int) < (ys.length : Int) := by omega
        have hq := fun w => run_trips t u w
        have hpk := parts_in ht hu
        cases hr : tripEq t u
        · rw [hr] at hq hpk
          obtain ⟨r1, r2⟩ := scan_hit (p := partsB xs ys) (n := max xs.length ys.length) (d := max xs.length ys.length) (Nat.le_refl _) hpk (by omega) (by omega) (fun j _ hj => hpre.out j hj)
          have R1 := Lib.hid r1
          have R2 := Lib.hid r2
          clear hce hce2 r1 r2 hpk hr ht hu
          go_wp2_with fail
          go_quiet (fail)
          clear hq
          go_wp2
          go_ret2
          exact ⟨ret_ib R1.out.symm R2.out.symm, _, World.drewN_drewN _ _ _⟩
        · rw [hr] at hq hpk
          have hpre2 : Hid (∀ j, j < k + 1 → partsB xs ys j = false) := fun j hj => by
            by_cases e : j < k
            · exact hpre.out j e
            · obtain rfl : j = k := by omega
              rw [hpk]; rfl
          clear hce hce2 hpk hr ht hu
          go_wp2_with fail
          go_quiet (fail)
          clear hq
          go_wp2
          go_roundw
          case rel => exact ⟨k + 1, _, by omega, by omega, by go_num, hpre2, rfl⟩
          case measure => simp [intOf]; omega
      · rcases Nat.lt_or_ge k (max xs.length ys.length) with hkm | hkm
        · have hpk : partsB xs ys k = true := parts_out (by omega)
          obtain ⟨r1, r2⟩ := scan_hit (p := partsB xs ys) (n := max xs.length ys.length) (d := max xs.length ys.length) (Nat.le_refl _) hpk (by omega) (by omega) (fun j _ hj => hpre.out j hj)
          have R1 := Lib.hid r1
          have R2 := Lib.hid r2
          have hne : ((xs.length : Int) != (ys.length : Int)) = true := by simp; omega
          clear r1 r2 hpk
          go_wp2
          go_ret2
          exact ⟨ret_ib (by have := R1.out; omega) R2.out.symm, _, rfl⟩
        · obtain ⟨r1, r2⟩ := scan_none (p := partsB xs ys) (n := max xs.length ys.length) (d := max xs.length ys.length) (Nat.le_refl _) (fun j _ hj => hpre.out j (by omega))
          have R1 := Lib.hid r1
          have R2 := Lib.hid r2
          have hne : ((xs.length : Int) != (ys.length : Int)) = false := by simp; omega
          clear r1 r2
          go_wp2
          all_goals go_ret2
          all_goals exact ⟨ret_ib R1.out.symm R2.out.symm, _, rfl⟩
end Go.Proofs.Ytemakmnoncmpbaa

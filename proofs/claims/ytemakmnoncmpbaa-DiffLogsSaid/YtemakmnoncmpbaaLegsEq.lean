
/-
  Are two rows of legs the same: hoistwayref37.legs, diff.Legs, slices.Equal. Condition: there are at most 100 legs each.
-/
import Derived.Test.YtemakmnoncmpbaaDataL
import Derived.Test.YtemakmnoncmpbaaSlice
set_option linter.unusedVariables false
set_option linter.unusedSimpArgs false
namespace Go.Proofs.Ytemakmnoncmpbaa
open Go.Joins Go.ChangeShapes Go.WideShapes Go.ChangeAt Go.RowKit Go.Deep

/-- Does it hold at the first n places? -/
def allB (p : Nat → Bool) : Nat → Bool
  | 0 => true
  | n + 1 => allB p n && p n
theorem allB_of {p : Nat → Bool} {n : Nat} (h : ∀ i, i < n → p i = true) : allB p n = true := by
  induction n with
  | zero => rfl
  | succ n ih => simp only [allB]; rw [ih (fun i hi => h i (by omega)), h n (by omega)]; rfl
theorem allB_not {p : Nat → Bool} {n k : Nat} (hk : k < n) (h : p k = false) : allB p n = false := by
  induction n with
  | zero => omega
  | succ n ih =>
    simp only [allB]
    by_cases e : k = n
    · subst e; rw [h]; simp
    · rw [ih (by omega)]; rfl
def legEq (a b : Leg) : Bool := a.tick == b.tick && a.pos == b.pos && a.dir == b.dir && a.door == b.door
theorem legEq_refl (a : Leg) : legEq a a = true := by simp [legEq]
theorem run_legs (a b : Leg) (w : World) : (Op.equalIn 10000 34 (.agg #[.int .i64 a.tick, .int .i64 a.pos, .int .i64 a.dir, .bool a.door]) (.agg #[.int .i64 b.tick, .int .i64 b.pos, .int .i64 b.dir, .bool b.door])).run Try.prog w = .ok (legEq a b) w := by
  unfold legEq
  simp [go_sem]
  repeat (split; rotate_left; · simp_all)
  simp_all
def legD (xs : List Leg) (i : Nat) : Leg := xs.getD i ⟨0, 0, 0, false⟩
theorem legD_of {xs : List Leg} {k : Nat} {t : Leg} (h : xs[k]? = some t) : legD xs k = t := by simp [legD, List.getD, h]
/-- Are two rows of legs the same? -/
def legsB (xs ys : List Leg) : Bool := xs.length == ys.length && allB (fun i => legEq (legD xs i) (legD ys i)) xs.length
theorem legsB_refl (xs : List Leg) : legsB xs xs = true := by
  unfold legsB
  rw [allB_of (fun i _ => legEq_refl _)]
  simp
theorem legsB_len {xs ys : List Leg} (h : xs.length ≠ ys.length) : legsB xs ys = false := by
  unfold legsB
  have : (xs.length == ys.length) = false := by simpa using h
  rw [this]; rfl
theorem legsB_not {xs ys : List Leg} {k : Nat} {t u : Leg} (ht : xs[k]? = some t) (hu : ys[k]? = some u) (h : legEq t u = false) : legsB xs ys = false := by
  unfold legsB
  rw [allB_not (k := k) (List.getElem?_eq_some_iff.1 ht).1 (by rw [legD_of ht, legD_of hu]; exact h)]
  simp
theorem legsB_all {xs ys : List Leg} (hl : xs.length = ys.length) (h : ∀ i, i < xs.length → legEq (legD xs i) (legD ys i) = true) : legsB xs ys = true := by
  unfold legsB
  rw [allB_of h, hl]
  simp
set_option maxHeartbeats 2000000 in
theorem ref37_legs (A B : Option Addr) (C D : Nat) (xs ys : List Leg) (w : World) (hx : Elems 4 Leg.cells w A xs) (hy : Elems 4 Leg.cells w B ys) (hl : xs.length ≤ 100) (hl2 : ys.length ≤ 100) :
    Calls Try.prog 14 #[.slice A xs.length C, .slice B ys.length D] w fun e w' => e = .returned (.bool (legsB xs ys)) ∧ Below w.heap.size w w' := by
  have HX := Lib.hid hx
  have HY := Lib.hid hy
  clear hx hy
  by_cases hm : xs.length = ys.length
  rotate_left
  · have hne : ((xs.length : Int) != (ys.length : Int)) = true := by simp; omega
    have R := Lib.hid (legsB_len hm)
    clear hm
    go_enter Try.func14, Try.ntmps14
    go_wp2
    go_ret
    exact ⟨ret_bool R.out.symm, Below.refl _ _⟩
  · have hne : ((xs.length : Int) != (ys.length : Int)) = false := by simp; omega
    have HM := Lib.hid hm
    clear hm
    go_enter Try.func14, Try.ntmps14
    go_wp2
    clear hne
    go_loopw [5] (fun i wr => ∃ k : Nat, k ≤ xs.length ∧ i = .int .i64 k ∧ Hid (∀ j, j < k → legEq (legD xs j) (legD ys j) = true) ∧ Below w.heap.size w wr) (fun i _ => xs.length - (intOf i).toNat)
    case atStart => exact ⟨0, by omega, rfl, fun j hj => by omega, Below.refl _ _⟩
    case round =>
      obtain ⟨k, hk, rfl, hpre, hb⟩ := hrel
      by_cases hkx : k < xs.length
      · have hky : k < ys.length := by have := HM.out; omega
        obtain ⟨b, off, rfl, hbl, hce⟩ := HX.out (by omega)
        obtain ⟨b2, off2, rfl, hbl2, hce2⟩ := HY.out (by omega)
        obtain ⟨t, ht⟩ := at_some hkx
        obtain ⟨u, hu⟩ := at_some hky
        have z := fun j v h => (hb.cell (p := ⟨b, off + k * 4 + j, none⟩) hbl).trans (hce k t ht j v h)
        have y := fun j v h => (hb.cell (p := ⟨b2, off2 + k * 4 + j, none⟩) hbl2).trans (hce2 k u hu j v h)
        have z0 := z 0 _ rfl
        have z1 := z 1 _ rfl
        have z2 := z 2 _ rfl
        have z3 := z 3 _ rfl
        have y0 := y 0 _ rfl
        have y1 := y 1 _ rfl
        have y2 := y 2 _ rfl
        have y3 := y 3 _ rfl
        simp only [Nat.add_zero] at z0 y0
        have hzb : b < wr.heap.size := by have := hb.size; omega
        have hzb2 : b2 < wr.heap.size := by have := hb.size; omega
        have i0 : (0 : Int) ≤ (k : Int) := by omega
        have i1 : (k : Int) < (xs.length : Int) := by omega
        have i2 : (k : Int) < (ys.length : Int) := by omega
        have hq := fun w => run_legs t u w
        cases hr : legEq t u
        · rw [hr] at hq
          have R := Lib.hid (legsB_not ht hu hr)
          clear hce hce2 hr ht hu z y
          go_wp2_with fail
          have hb2 := hb
          go_quiet (fail)
          clear hq
          go_wp2
          go_ret
          exact ⟨ret_bool R.out.symm, below_drewN hb2 _⟩
        · rw [hr] at hq
          have hpre2 : Hid (∀ j, j < k + 1 → legEq (legD xs j) (legD ys j) = true) := fun j hj => by
            by_cases e : j < k
            · exact hpre.out j e
            · obtain rfl : j = k := by omega
              rw [legD_of ht, legD_of hu]; exact hr
          clear hce hce2 hr ht hu z y
          go_wp2_with fail
          have hb2 := hb
          go_quiet (fail)
          clear hq
          go_wp2
          go_roundw
          case rel => exact ⟨k + 1, by omega, by go_num, hpre2, below_drewN hb2 _⟩
          case measure => simp [intOf]; omega
      · obtain rfl : k = xs.length := by omega
        have R := Lib.hid (legsB_all HM.out hpre.out)
        go_wp2
        go_ret
        exact ⟨ret_bool R.out.symm, hb⟩
set_option maxHeartbeats 2000000 in
theorem slices_legs (A B : Option Addr) (C D : Nat) (xs ys : List Leg) (w : World) (hx : Elems 4 Leg.cells w A xs) (hy : Elems 4 Leg.cells w B ys) (hl : xs.length ≤ 100) (hl2 : ys.length ≤ 100) :
    Calls Try.prog 8 #[.slice A xs.length C, .slice B ys.length D] w fun e w' => e = .returned (.bool (legsB xs ys)) ∧ Below w.heap.size w w' := by
  have HX := Lib.hid hx
  have HY := Lib.hid hy
  clear hx hy
  by_cases hm : xs.length = ys.length
  rotate_left
  · have hne : ((xs.length : Int) != (ys.length : Int)) = true := by simp; omega
    have R := Lib.hid (legsB_len hm)
    clear hm
    go_enter Try.func8, Try.ntmps8
    go_wp2
    go_ret
    exact ⟨ret_bool R.out.symm, Below.refl _ _⟩
  · have hne : ((xs.length : Int) != (ys.length : Int)) = false := by simp; omega
    have HM := Lib.hid hm
    clear hm
    go_enter Try.func8, Try.ntmps8
    go_wp2
    clear hne
    go_loopw [13] (fun i wr => ∃ k : Nat, k ≤ xs.length ∧ i = .int .i64 k ∧ Hid (∀ j, j < k → legEq (legD xs j) (legD ys j) = true) ∧ Below w.heap.size w wr) (fun i _ => xs.length - (intOf i).toNat)
    case atStart => exact ⟨0, by omega, rfl, fun j hj => by omega, Below.refl _ _⟩
    case round =>
      obtain ⟨k, hk, rfl, hpre, hb⟩ := hrel
      by_cases hkx : k < xs.length
      · have hky : k < ys.length := by have := HM.out; omega
        obtain ⟨b, off, rfl, hbl, hce⟩ := HX.out (by omega)
        obtain ⟨b2, off2, rfl, hbl2, hce2⟩ := HY.out (by omega)
        obtain ⟨t, ht⟩ := at_some hkx
        obtain ⟨u, hu⟩ := at_some hky
        have z := fun j v h => (hb.cell (p := ⟨b, off + k * 4 + j, none⟩) hbl).trans (hce k t ht j v h)
        have y := fun j v h => (hb.cell (p := ⟨b2, off2 + k * 4 + j, none⟩) hbl2).trans (hce2 k u hu j v h)
        have z0 := z 0 _ rfl
        have z1 := z 1 _ rfl
        have z2 := z 2 _ rfl
        have z3 := z 3 _ rfl
        have y0 := y 0 _ rfl
        have y1 := y 1 _ rfl
        have y2 := y 2 _ rfl
        have y3 := y 3 _ rfl
        simp only [Nat.add_zero] at z0 y0
        have hzb : b < wr.heap.size := by have := hb.size; omega
        have hzb2 : b2 < wr.heap.size := by have := hb.size; omega
        have i0 : (0 : Int) ≤ (k : Int) := by omega
        have i1 : (k : Int) < (xs.length : Int) := by omega
        have i2 : (k : Int) < (ys.length : Int) := by omega
        have hq := fun w => run_legs t u w
        cases hr : legEq t u
        · rw [hr] at hq
          have R := Lib.hid (legsB_not ht hu hr)
          clear hce hce2 hr ht hu z y
          go_wp2_with fail
          have hb2 := hb
          go_quiet (fail)
          clear hq
          go_wp2
          go_ret
          exact ⟨ret_bool R.out.symm, below_drewN hb2 _⟩
        · rw [hr] at hq
          have hpre2 : Hid (∀ j, j < k + 1 → legEq (legD xs j) (legD ys j) = true) := fun j hj => by
            by_cases e : j < k
            · exact hpre.out j e
            · obtain rfl : j = k := by omega
              rw [legD_of ht, legD_of hu]; exact hr
          clear hce hce2 hr ht hu z y
          go_wp2_with fail
          have hb2 := hb
          go_quiet (fail)
          clear hq
          go_wp2
          go_roundw
          case rel => exact ⟨k + 1, by omega, by go_num, hpre2, below_drewN hb2 _⟩
          case measure => simp [intOf]; omega
      · obtain rfl : k = xs.length := by omega
        have R := Lib.hid (legsB_all HM.out hpre.out)
        go_wp2
        go_ret
        exact ⟨ret_bool R.out.symm, hb⟩
set_option maxHeartbeats 2000000 in
theorem diff_Legs (A B : Option Addr) (C D : Nat) (xs ys : List Leg) (w : World) (hx : Elems 4 Leg.cells w A xs) (hy : Elems 4 Leg.cells w B ys) (hl : xs.length ≤ 100) (hl2 : ys.length ≤ 100) :
    Calls Try.prog 7 #[.slice A xs.length C, .slice B ys.length D] w fun e w' => e = .returned (.bool (legsB xs ys)) ∧ Below w.heap.size w w' := by
  have HX := Lib.hid hx
  have HY := Lib.hid hy
  clear hx hy
  by_cases hm : xs.length = ys.length
  rotate_left
  · have hne : ((xs.length : Int) != (ys.length : Int)) = true := by simp; omega
    have R := Lib.hid (legsB_len hm)
    clear hm
    go_enter Try.func7, Try.ntmps7
    go_wp2
    go_ret
    exact ⟨ret_bool R.out.symm, Below.refl _ _⟩
  · have hne : ((xs.length : Int) != (ys.length : Int)) = false := by simp; omega
    have HM := Lib.hid hm
    clear hm
    go_enter Try.func7, Try.ntmps7
    go_wp2
    clear hne
    go_loopw [14] (fun i wr => ∃ k : Nat, k ≤ xs.length ∧ i = .int .i64 k ∧ Hid (∀ j, j < k → legEq (legD xs j) (legD ys j) = true) ∧ Below w.heap.size w wr) (fun i _ => xs.length - (intOf i).toNat)
    case atStart => exact ⟨0, by omega, rfl, fun j hj => by omega, Below.refl _ _⟩
    case round =>
      obtain ⟨k, hk, rfl, hpre, hb⟩ := hrel
      by_cases hkx : k < xs.length
      · have hky : k < ys.length := by have := HM.out; omega
        obtain ⟨b, off, rfl, hbl, hce⟩ := HX.out (by omega)
        obtain ⟨b2, off2, rfl, hbl2, hce2⟩ := HY.out (by omega)
        obtain ⟨t, ht⟩ := at_some hkx
        obtain ⟨u, hu⟩ := at_some hky
        have z := fun j v h => (hb.cell (p := ⟨b, off + k * 4 + j, none⟩) hbl).trans (hce k t ht j v h)
        have y := fun j v h => (hb.cell (p := ⟨b2, off2 + k * 4 + j, none⟩) hbl2).trans (hce2 k u hu j v h)
        have z0 := z 0 _ rfl
        have z1 := z 1 _ rfl
        have z2 := z 2 _ rfl
        have z3 := z 3 _ rfl
        have y0 := y 0 _ rfl
        have y1 := y 1 _ rfl
        have y2 := y 2 _ rfl
        have y3 := y 3 _ rfl
        simp only [Nat.add_zero] at z0 y0
        have hzb : b < wr.heap.size := by have := hb.size; omega
        have hzb2 : b2 < wr.heap.size := by have := hb.size; omega
        have i0 : (0 : Int) ≤ (k : Int) := by omega
        have i1 : (k : Int) < (xs.length : Int) := by omega
        have i2 : (k : Int) < (ys.length : Int) := by omega
        have hq := fun w => run_legs t u w
        cases hr : legEq t u
        · rw [hr] at hq
          have R := Lib.hid (legsB_not ht hu hr)
          clear hce hce2 hr ht hu z y
          go_wp2_with fail
          have hb2 := below_of_alloc hb (.cells t.cells.toArray 34)
          go_quiet (fail)
          clear hq
          go_wp2
          go_ret
          exact ⟨ret_bool R.out.symm, below_drewN hb2 _⟩
        · rw [hr] at hq
          have hpre2 : Hid (∀ j, j < k + 1 → legEq (legD xs j) (legD ys j) = true) := fun j hj => by
            by_cases e : j < k
            · exact hpre.out j e
            · obtain rfl : j = k := by omega
              rw [legD_of ht, legD_of hu]; exact hr
          clear hce hce2 hr ht hu z y
          go_wp2_with fail
          have hb2 := below_of_alloc hb (.cells t.cells.toArray 34)
          go_quiet (fail)
          clear hq
          go_wp2
          go_roundw
          case rel => exact ⟨k + 1, by omega, by go_num, hpre2, below_drewN hb2 _⟩
          case measure => simp [intOf]; omega
      · obtain rfl : k = xs.length := by omega
        have R := Lib.hid (legsB_all HM.out hpre.out)
        go_wp2
        go_ret
        exact ⟨ret_bool R.out.symm, hb⟩
end Go.Proofs.Ytemakmnoncmpbaa

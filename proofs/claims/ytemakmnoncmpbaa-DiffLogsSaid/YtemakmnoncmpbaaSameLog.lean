
/-
  Logs: hoistwaylaw37.Great, diff.Same, hoistwayref37.Same. Conditions: at most 100 trips, 20 rows of at most 100 legs each.
-/
import Derived.Test.YtemakmnoncmpbaaDataG
import Derived.Test.YtemakmnoncmpbaaRows2
import Derived.Test.YtemakmnoncmpbaaLegsEq
import Derived.Test.YtemakmnoncmpbaaDiff
import Derived.Test.YtemakmnoncmpbaaSeq
set_option linter.unusedVariables false
set_option linter.unusedSimpArgs false
namespace Go.Proofs.Ytemakmnoncmpbaa
open Go.Joins Go.ChangeShapes Go.WideShapes Go.ChangeAt Go.RowKit Go.Deep

abbrev LegRows (w : World) (A : Option Addr) (xss : List (List Leg)) : Prop := Rows2 4 Leg.cells w A xss
abbrev TripsOf (w : World) (A : Option Addr) (xs : List Trip) : Prop := Elems 7 Trip.cells w A xs
/-- A log that isn't too great. -/
def smallLog (s : Log) : Prop := s.trips.length ≤ 100 ∧ s.legs.length ≤ 20 ∧ ∀ (i : Nat) (xs : List Leg), s.legs[i]? = some xs → xs.length ≤ 100
def Great37Post (s : Log) (w : World) (e : Ending) (w' : World) : Prop := ∃ b : Bool, e = .returned (.bool b) ∧ (b = false → smallLog s) ∧ Below w.heap.size w w'
set_option maxHeartbeats 2000000 in
theorem great37 (s : Log) (tA lA : Option Addr) (tC lC : Nat) (w : World) (hx : LegRows w lA s.legs) : Calls Try.prog 5 #[s.val tA tC lA lC] w (Great37Post s w) := by
  obtain ⟨ts, ls, used⟩ := s
  unfold Log.val
  simp only at *
  have HX := Lib.hid hx
  clear hx
  by_cases h1 : 100 < ts.length
  · go_enter Try.func5, Try.ntmps5
    go_wp2
    go_ret
    exact ⟨true, rfl, (fun h => by cases h), Joins.below_alloc1 _ _⟩
  · by_cases h2 : 20 < ls.length
    · go_enter Try.func5, Try.ntmps5
      go_wp2
      go_ret
      exact ⟨true, rfl, (fun h => by cases h), Joins.below_alloc1 _ _⟩
    · go_enter Try.func5, Try.ntmps5
      go_wp2_with (first | ((with_reducible refine hold_list ?_ ?_); (· exact Eq.refl true)) | ((with_reducible refine hold_region ?_ ?_); (· exact Eq.refl true)) | (with_reducible refine hold_loop ?_))
      have k0 : Blk (w.alloc (.cells #[.slice tA ts.length tC, .slice lA ls.length lC, .int .i64 used] 25)) (w.heap.size) 25 #[.slice tA ts.length tC, .slice lA ls.length lC, .int .i64 used] := (blk_at (by simp))
      have hB : Below w.heap.size w (w.alloc (.cells #[.slice tA ts.length tC, .slice lA ls.length lC, .int .i64 used] 25)) := (bel_at (Below.refl _ _) (.cells #[.slice tA ts.length tC, .slice lA ls.length lC, .int .i64 used] 25))
      generalize (w.alloc (.cells #[.slice tA ts.length tC, .slice lA ls.length lC, .int .i64 used] 25)) = w1 at *
      (try clear k0c k0f k0z); have k0c := fun i => Blk.cell k0 i; have k0f := fun i => Blk.free k0 i; have k0z := Blk.lt k0
      have HB := Lib.hid hB
      clear hB
      unfold Hold
      go_loopw [3] (fun i wr => wr = w1 ∧ ∃ k : Nat, k ≤ ls.length ∧ i = .int .i64 k ∧ Hid (∀ (j : Nat) (xs : List Leg), j < k → ls[j]? = some xs → xs.length ≤ 100)) (fun i _ => ls.length - (intOf i).toNat)
      case atStart => exact ⟨rfl, 0, by omega, rfl, fun j xs hj => by omega⟩
      case round =>
        obtain ⟨rfl, k, hk, rfl, hpre⟩ := hrel
        by_cases hkl : k < ls.length
        · obtain ⟨b, off, rfl, hbl, hce⟩ := HX.out (by omega)
          obtain ⟨xs, hg⟩ := at_some hkl
          obtain ⟨A', C', z, _⟩ := hce k xs hg
          replace z := (HB.out.cell (p := ⟨b, off + k, none⟩) hbl).trans z
          clear hce
          by_cases h3 : 100 < xs.length
          · clear hg
            go_wp2
            go_ret
            exact ⟨true, rfl, (fun h => by cases h), HB.out⟩
          · have hpre2 : Hid (∀ (j : Nat) (xs : List Leg), j < k + 1 → ls[j]? = some xs → xs.length ≤ 100) := fun j xs' hj hj2 => by
              by_cases e : j < k
              · exact hpre.out j xs' e hj2
              · obtain rfl : j = k := by omega
                rw [hg] at hj2
                injection hj2 with hj2
                subst hj2
                omega
            clear hg
            go_wp2
            go_roundw
            case rel => exact ⟨trivial, k + 1, by omega, by go_num, hpre2⟩
            case measure => simp [intOf]; omega
        · obtain rfl : k = ls.length := by omega
          have hs : smallLog ⟨ts, ls, used⟩ := ⟨by simp only; omega, by simp only; omega, fun j xs hj => hpre.out j xs (List.getElem?_eq_some_iff.1 hj).1 hj⟩
          have HS := Lib.hid hs
          clear hs
          go_wp2
          go_ret
          exact ⟨false, rfl, fun _ => HS.out, HB.out⟩

theorem scanB_hit {p : Nat → Bool} {n d k : Nat} (hd : d ≤ n) (hk : p k = true) (hn : k < n) (hl : n - d ≤ k) : scanB p n d = true := by
  induction d with
  | zero => omega
  | succ d ih =>
    simp only [scanB]
    by_cases e : n - 1 - d = k
    · rw [e, hk]; rfl
    · split
      · rfl
      · exact ih (by omega) (by omega)
/-- Are two rows of trips the same? -/
def tripsB (xs ys : List Trip) : Bool := !scanB (partsB xs ys) (max xs.length ys.length) (max xs.length ys.length)
theorem tripEq_refl (a : Trip) : tripEq a a = true := (tripEq_iff a a).2 rfl
theorem tripsB_not {xs ys : List Trip} {k : Nat} {t u : Trip} (ht : xs[k]? = some t) (hu : ys[k]? = some u) (h : tripEq t u = false) : tripsB xs ys = false := by
  unfold tripsB
  have h1 := (List.getElem?_eq_some_iff.1 ht).1
  rw [scanB_hit (k := k) (Nat.le_refl _) (by rw [parts_in ht hu, h]; rfl) (by omega) (by omega)]
  rfl
theorem tripsB_len {xs ys : List Trip} (h : xs.length ≠ ys.length) : tripsB xs ys = false := by
  unfold tripsB
  rw [scanB_hit (k := min xs.length ys.length) (Nat.le_refl _) (parts_out (by omega)) (by omega) (by omega)]
  rfl
theorem tripsB_all {xs ys : List Trip} (hl : xs.length = ys.length) (h : ∀ i, i < xs.length → tripEq (tripAtD xs i) (tripAtD ys i) = true) : tripsB xs ys = true := by
  unfold tripsB
  rw [(scan_none (p := partsB xs ys) (Nat.le_refl _) (fun j _ hj => by
    have hjx : j < xs.length := by omega
    obtain ⟨t, ht⟩ := at_some hjx
    obtain ⟨u, hu⟩ := at_some (show j < ys.length by omega)
    have := h j hjx
    rw [tripAtD_of ht, tripAtD_of hu] at this
    rw [parts_in ht hu, this]; rfl)).2]
  rfl
theorem tripsB_refl (xs : List Trip) : tripsB xs xs = true := tripsB_all rfl (fun i _ => tripEq_refl _)
def rowD (xss : List (List Leg)) (i : Nat) : List Leg := xss.getD i []
theorem rowD_of {xss : List (List Leg)} {k : Nat} {t : List Leg} (h : xss[k]? = some t) : rowD xss k = t := by simp [rowD, List.getD, h]
/-- Are two rows of rows of legs the same? -/
def rowsB (xs ys : List (List Leg)) : Bool := xs.length == ys.length && allB (fun i => legsB (rowD xs i) (rowD ys i)) xs.length
theorem rowsB_len {xs ys : List (List Leg)} (h : xs.length ≠ ys.length) : rowsB xs ys = false := by
  unfold rowsB
  have : (xs.length == ys.length) = false := by simpa using h
  rw [this]; rfl
theorem rowsB_not {xs ys : List (List Leg)} {k : Nat} {t u : List Leg} (ht : xs[k]? = some t) (hu : ys[k]? = some u) (h : legsB t u = false) : rowsB xs ys = false := by
  unfold rowsB
  rw [allB_not (k := k) (List.getElem?_eq_some_iff.1 ht).1 (by rw [rowD_of ht, rowD_of hu]; exact h)]
  simp
theorem rowsB_all {xs ys : List (List Leg)} (hl : xs.length = ys.length) (h : ∀ i, i < xs.length → legsB (rowD xs i) (rowD ys i) = true) : rowsB xs ys = true := by
  unfold rowsB
  rw [allB_of h, hl]
  simp
theorem rowsB_refl (xs : List (List Leg)) : rowsB xs xs = true := rowsB_all rfl (fun i _ => legsB_refl _)
/-- Are two logs the same? -/
def logB (a b : Log) : Bool := tripsB a.trips b.trips && (a.used == b.used && rowsB a.legs b.legs)
theorem logB_trips {a b : Log} (h : tripsB a.trips b.trips = false) : logB a b = false := by unfold logB; rw [h]; rfl
theorem logB_used {a b : Log} (h : a.used ≠ b.used) : logB a b = false := by
  unfold logB
  have : (a.used == b.used) = false := by simpa using h
  rw [this]; simp
theorem logB_rows {a b : Log} (h : rowsB a.legs b.legs = false) : logB a b = false := by unfold logB; rw [h]; simp
theorem logB_all {a b : Log} (h1 : tripsB a.trips b.trips = true) (h2 : a.used = b.used) (h3 : rowsB a.legs b.legs = true) : logB a b = true := by
  unfold logB; rw [h1, h2, h3]; simp
theorem logB_refl (a : Log) : logB a a = true := logB_all (tripsB_refl _) rfl (rowsB_refl _)
set_option maxHeartbeats 2000000 in
theorem diff_Same (s t : Log) (tA lA tA2 lA2 : Option Addr) (tC lC tC2 lC2 : Nat) (w : World) (hx1 : TripsOf w tA s.trips) (hx : LegRows w lA s.legs) (hy1 : TripsOf w tA2 t.trips) (hy : LegRows w lA2 t.legs) (hs : smallLog s) (ht : smallLog t) :
    Calls Try.prog 9 #[s.val tA tC lA lC, t.val tA2 tC2 lA2 lC2] w fun e w' => e = .returned (.bool (logB s t)) ∧ Below w.heap.size w w' := by
  have cT := fun w' (hb : Below w.heap.size w w') => diff_Trips tA tA2 tC tC2 s.trips t.trips w' (hx1.below hb) (hy1.below hb) hs.1 ht.1
  obtain ⟨ts, ls, used⟩ := s
  obtain ⟨ts2, ls2, used2⟩ := t
  unfold Log.val
  obtain ⟨_, s1, s2⟩ := hs
  obtain ⟨_, s3, s4⟩ := ht
  simp only at *
  have ev : tripsB ts ts2 = !scanB (partsB ts ts2) (max ts.length ts2.length) (max ts.length ts2.length) := rfl
  generalize scanB (partsB ts ts2) (max ts.length ts2.length) (max ts.length ts2.length) = q at *
  generalize scanI (partsB ts ts2) (max ts.length ts2.length) (max ts.length ts2.length) = qi at *
  have HX := Lib.hid hx
  have HY := Lib.hid hy
  have CT := Lib.hid cT
  have S2 := Lib.hid s2
  have S4 := Lib.hid s4
  clear hx hy cT s2 s4 hx1 hy1
  cases q
  rotate_left
  · have R := Lib.hid (logB_trips (a := ⟨ts, ls, used⟩) (b := ⟨ts2, ls2, used2⟩) ev)
    clear ev
    go_enter Try.func9, Try.ntmps9
    go_wp2_with (first | ((with_reducible refine hold_list ?_ ?_); (· exact Eq.refl true)) | ((with_reducible refine hold_region ?_ ?_); (· exact Eq.refl true)) | (with_reducible refine hold_loop ?_))
    have k0 : Blk ((w.alloc (.cells #[.slice tA ts.length tC, .slice lA ls.length lC, .int .i64 used] 25)).alloc (.cells #[.slice tA2 ts2.length tC2, .slice lA2 ls2.length lC2, .int .i64 used2] 25)) (w.heap.size) 25 #[.slice tA ts.length tC, .slice lA ls.length lC, .int .i64 used] := (Blk.alloc (blk_at (by simp)) (.cells #[.slice tA2 ts2.length tC2, .slice lA2 ls2.length lC2, .int .i64 used2] 25))
    have k1 : Blk ((w.alloc (.cells #[.slice tA ts.length tC, .slice lA ls.length lC, .int .i64 used] 25)).alloc (.cells #[.slice tA2 ts2.length tC2, .slice lA2 ls2.length lC2, .int .i64 used2] 25)) (w.heap.size + 1) 25 #[.slice tA2 ts2.length tC2, .slice lA2 ls2.length lC2, .int .i64 used2] := (blk_at (by simp))
    have hB : Below w.heap.size w ((w.alloc (.cells #[.slice tA ts.length tC, .slice lA ls.length lC, .int .i64 used] 25)).alloc (.cells #[.slice tA2 ts2.length tC2, .slice lA2 ls2.length lC2, .int .i64 used2] 25)) := (bel_at (bel_at (Below.refl _ _) (.cells #[.slice tA ts.length tC, .slice lA ls.length lC, .int .i64 used] 25)) (.cells #[.slice tA2 ts2.length tC2, .slice lA2 ls2.length lC2, .int .i64 used2] 25))
    generalize ((w.alloc (.cells #[.slice tA ts.length tC, .slice lA ls.length lC, .int .i64 used] 25)).alloc (.cells #[.slice tA2 ts2.length tC2, .slice lA2 ls2.length lC2, .int .i64 used2] 25)) = w1 at *
    (try clear k0c k0f k0z); have k0c := fun i => Blk.cell k0 i; have k0f := fun i => Blk.free k0 i; have k0z := Blk.lt k0; (try clear k1c k1f k1z); have k1c := fun i => Blk.cell k1 i; have k1f := fun i => Blk.free k1 i; have k1z := Blk.lt k1
    unfold Hold
    go_wp2_with (go_at_call 6; refine (CT.out _ hB).mono ?_; rintro e w' ⟨rfl, n, rfl⟩)
    go_ret
    exact ⟨ret_bool R.out.symm, below_drewN hB _⟩
  · have ht1 : tripsB ts ts2 = true := ev
    have HT := Lib.hid ht1
    clear ev ht1
    by_cases hu : used = used2
    rotate_left
    · have R := Lib.hid (logB_used (a := ⟨ts, ls, used⟩) (b := ⟨ts2, ls2, used2⟩) hu)
      have hne : (used != used2) = true := by simpa using hu
      clear hu
      go_enter Try.func9, Try.ntmps9
      go_wp2_with (first | ((with_reducible refine hold_list ?_ ?_); (· exact Eq.refl true)) | ((with_reducible refine hold_region ?_ ?_); (· exact Eq.refl true)) | (with_reducible refine hold_loop ?_))
      have k0 : Blk ((w.alloc (.cells #[.slice tA ts.length tC, .slice lA ls.length lC, .int .i64 used] 25)).alloc (.cells #[.slice tA2 ts2.length tC2, .slice lA2 ls2.length lC2, .int .i64 used2] 25)) (w.heap.size) 25 #[.slice tA ts.length tC, .slice lA ls.length lC, .int .i64 used] := (Blk.alloc (blk_at (by simp)) (.cells #[.slice tA2 ts2.length tC2, .slice lA2 ls2.length lC2, .int .i64 used2] 25))
      have k1 : Blk ((w.alloc (.cells #[.slice tA ts.length tC, .slice lA ls.length lC, .int .i64 used] 25)).alloc (.cells #[.slice tA2 ts2.length tC2, .slice lA2 ls2.length lC2, .int .i64 used2] 25)) (w.heap.size + 1) 25 #[.slice tA2 ts2.length tC2, .slice lA2 ls2.length lC2, .int .i64 used2] := (blk_at (by simp))
      have hB : Below w.heap.size w ((w.alloc (.cells #[.slice tA ts.length tC, .slice lA ls.length lC, .int .i64 used] 25)).alloc (.cells #[.slice tA2 ts2.length tC2, .slice lA2 ls2.length lC2, .int .i64 used2] 25)) := (bel_at (bel_at (Below.refl _ _) (.cells #[.slice tA ts.length tC, .slice lA ls.length lC, .int .i64 used] 25)) (.cells #[.slice tA2 ts2.length tC2, .slice lA2 ls2.length lC2, .int .i64 used2] 25))
      generalize ((w.alloc (.cells #[.slice tA ts.length tC, .slice lA ls.length lC, .int .i64 used] 25)).alloc (.cells #[.slice tA2 ts2.length tC2, .slice lA2 ls2.length lC2, .int .i64 used2] 25)) = w1 at *
      (try clear k0c k0f k0z); have k0c := fun i => Blk.cell k0 i; have k0f := fun i => Blk.free k0 i; have k0z := Blk.lt k0; (try clear k1c k1f k1z); have k1c := fun i => Blk.cell k1 i; have k1f := fun i => Blk.free k1 i; have k1z := Blk.lt k1
      unfold Hold
      go_wp2_with (go_at_call 6; refine (CT.out _ hB).mono ?_; rintro e w' ⟨rfl, n, rfl⟩)
      go_ret
      exact ⟨ret_bool R.out.symm, below_drewN hB _⟩
    · subst hu
      by_cases hl : ls.length = ls2.length
      rotate_left
      · have R := Lib.hid (logB_rows (a := ⟨ts, ls, used⟩) (b := ⟨ts2, ls2, used⟩) (rowsB_len hl))
        have hne : ((ls.length : Int) != (ls2.length : Int)) = true := by simp; omega
        clear hl
        go_enter Try.func9, Try.ntmps9
        go_wp2_with (first | ((with_reducible refine hold_list ?_ ?_); (· exact Eq.refl true)) | ((with_reducible refine hold_region ?_ ?_); (· exact Eq.refl true)) | (with_reducible refine hold_loop ?_))
        have k0 : Blk ((w.alloc (.cells #[.slice tA ts.length tC, .slice lA ls.length lC, .int .i64 used] 25)).alloc (.cells #[.slice tA2 ts2.length tC2, .slice lA2 ls2.length lC2, .int .i64 used] 25)) (w.heap.size) 25 #[.slice tA ts.length tC, .slice lA ls.length lC, .int .i64 used] := (Blk.alloc (blk_at (by simp)) (.cells #[.slice tA2 ts2.length tC2, .slice lA2 ls2.length lC2, .int .i64 used] 25))
        have k1 : Blk ((w.alloc (.cells #[.slice tA ts.length tC, .slice lA ls.length lC, .int .i64 used] 25)).alloc (.cells #[.slice tA2 ts2.length tC2, .slice lA2 ls2.length lC2, .int .i64 used] 25)) (w.heap.size + 1) 25 #[.slice tA2 ts2.length tC2, .slice lA2 ls2.length lC2, .int .i64 used] := (blk_at (by simp))
        have hB : Below w.heap.size w ((w.alloc (.cells #[.slice tA ts.length tC, .slice lA ls.length lC, .int .i64 used] 25)).alloc (.cells #[.slice tA2 ts2.length tC2, .slice lA2 ls2.length lC2, .int .i64 used] 25)) := (bel_at (bel_at (Below.refl _ _) (.cells #[.slice tA ts.length tC, .slice lA ls.length lC, .int .i64 used] 25)) (.cells #[.slice tA2 ts2.length tC2, .slice lA2 ls2.length lC2, .int .i64 used] 25))
        generalize ((w.alloc (.cells #[.slice tA ts.length tC, .slice lA ls.length lC, .int .i64 used] 25)).alloc (.cells #[.slice tA2 ts2.length tC2, .slice lA2 ls2.length lC2, .int .i64 used] 25)) = w1 at *
        (try clear k0c k0f k0z); have k0c := fun i => Blk.cell k0 i; have k0f := fun i => Blk.free k0 i; have k0z := Blk.lt k0; (try clear k1c k1f k1z); have k1c := fun i => Blk.cell k1 i; have k1f := fun i => Blk.free k1 i; have k1z := Blk.lt k1
        unfold Hold
        go_wp2_with (go_at_call 6; refine (CT.out _ hB).mono ?_; rintro e w' ⟨rfl, n, rfl⟩)
        go_ret
        exact ⟨ret_bool R.out.symm, below_drewN hB _⟩
      · have HL := Lib.hid hl
        have hne : ((ls.length : Int) != (ls2.length : Int)) = false := by simp; omega
        clear hl
        go_enter Try.func9, Try.ntmps9
        go_wp2_with (first | ((with_reducible refine hold_list ?_ ?_); (· exact Eq.refl true)) | ((with_reducible refine hold_region ?_ ?_); (· exact Eq.refl true)) | (with_reducible refine hold_loop ?_))
        have k0 : Blk ((w.alloc (.cells #[.slice tA ts.length tC, .slice lA ls.length lC, .int .i64 used] 25)).alloc (.cells #[.slice tA2 ts2.length tC2, .slice lA2 ls2.length lC2, .int .i64 used] 25)) (w.heap.size) 25 #[.slice tA ts.length tC, .slice lA ls.length lC, .int .i64 used] := (Blk.alloc (blk_at (by simp)) (.cells #[.slice tA2 ts2.length tC2, .slice lA2 ls2.length lC2, .int .i64 used] 25))
        have k1 : Blk ((w.alloc (.cells #[.slice tA ts.length tC, .slice lA ls.length lC, .int .i64 used] 25)).alloc (.cells #[.slice tA2 ts2.length tC2, .slice lA2 ls2.length lC2, .int .i64 used] 25)) (w.heap.size + 1) 25 #[.slice tA2 ts2.length tC2, .slice lA2 ls2.length lC2, .int .i64 used] := (blk_at (by simp))
        have hB : Below w.heap.size w ((w.alloc (.cells #[.slice tA ts.length tC, .slice lA ls.length lC, .int .i64 used] 25)).alloc (.cells #[.slice tA2 ts2.length tC2, .slice lA2 ls2.length lC2, .int .i64 used] 25)) := (bel_at (bel_at (Below.refl _ _) (.cells #[.slice tA ts.length tC, .slice lA ls.length lC, .int .i64 used] 25)) (.cells #[.slice tA2 ts2.length tC2, .slice lA2 ls2.length lC2, .int .i64 used] 25))
        generalize ((w.alloc (.cells #[.slice tA ts.length tC, .slice lA ls.length lC, .int .i64 used] 25)).alloc (.cells #[.slice tA2 ts2.length tC2, .slice lA2 ls2.length lC2, .int .i64 used] 25)) = w1 at *
        (try clear k0c k0f k0z); have k0c := fun i => Blk.cell k0 i; have k0f := fun i => Blk.free k0 i; have k0z := Blk.lt k0; (try clear k1c k1f k1z); have k1c := fun i => Blk.cell k1 i; have k1f := fun i => Blk.free k1 i; have k1z := Blk.lt k1
        unfold Hold
        go_wp2_with (first | (go_at_call 6; refine (CT.out _ hB).mono ?_; rintro e w' ⟨rfl, n, rfl⟩) | (with_reducible refine hold_loop ?_))
        replace hB := below_drewN hB n
        replace k0 := Blk.below k0 (below_drewN (Below.refl _ _) n) (Blk.lt k0)
        replace k1 := Blk.below k1 (below_drewN (Below.refl _ _) n) (Blk.lt k1)
        generalize w1.drewN n = w2 at *
        (try clear k0c k0f k0z); have k0c := fun i => Blk.cell k0 i; have k0f := fun i => Blk.free k0 i; have k0z := Blk.lt k0; (try clear k1c k1f k1z); have k1c := fun i => Blk.cell k1 i; have k1f := fun i => Blk.free k1 i; have k1z := Blk.lt k1
        unfold Hold
        clear hne
        have HB := Lib.hid hB
        clear hB
        go_loopw [37, 7, 8] (fun i _ _ wr => ∃ k : Nat, k ≤ ls.length ∧ i = .int .i64 k ∧ Hid (∀ j, j < k → legsB (rowD ls j) (rowD ls2 j) = true) ∧ Below w2.heap.size w2 wr) (fun i _ _ _ => ls.length - (intOf i).toNat)
        case atStart => exact ⟨0, by omega, rfl, fun j hj => by omega, Below.refl _ _⟩
        case round =>
          obtain ⟨k, hk, rfl, hpre, hb⟩ := hrel
          have hbw := HB.out.trans (hb.mono HB.out.size)
          replace k0 := Blk.below k0 hb k0.lt
          replace k1 := Blk.below k1 hb k1.lt
          (try clear k0c k0f k0z); have k0c := fun i => Blk.cell k0 i; have k0f := fun i => Blk.free k0 i; have k0z := Blk.lt k0; (try clear k1c k1f k1z); have k1c := fun i => Blk.cell k1 i; have k1f := fun i => Blk.free k1 i; have k1z := Blk.lt k1
          by_cases hkl : k < ls.length
          · have hkl2 : k < ls2.length := by have := HL.out; omega
            obtain ⟨b, off, rfl, hbl, hce⟩ := HX.out (by omega)
            obtain ⟨b2, off2, rfl, hbl2, hce2⟩ := HY.out (by omega)
            obtain ⟨xs, hg⟩ := at_some hkl
            obtain ⟨ys, hg2⟩ := at_some hkl2
            obtain ⟨A', C', z, hel⟩ := hce k xs hg
            obtain ⟨A2', C2', y, hel2⟩ := hce2 k ys hg2
            replace z := (hbw.cell (p := ⟨b, off + k, none⟩) hbl).trans z
            replace y := (hbw.cell (p := ⟨b2, off2 + k, none⟩) hbl2).trans y
            have cL := diff_Legs A' A2' C' C2' xs ys wr (hel.below hbw) (hel2.below hbw) (S2.out k xs hg) (S4.out k ys hg2)
            cases hr : legsB xs ys
            · rw [hr] at cL
              have CL := Lib.hid cL
              have R := Lib.hid (logB_rows (a := ⟨ts, ls, used⟩) (b := ⟨ts2, ls2, used⟩) (rowsB_not hg hg2 hr))
              clear cL hce hce2 hel hel2 hr hg hg2
              go_wp2_with (go_at_call 7; refine CL.out.mono ?_; rintro e w' ⟨rfl, hb2⟩)
              go_ret
              exact ⟨ret_bool R.out.symm, hbw.trans (hb2.mono hbw.size)⟩
            · rw [hr] at cL
              have CL := Lib.hid cL
              have hpre2 : Hid (∀ j, j < k + 1 → legsB (rowD ls j) (rowD ls2 j) = true) := fun j hj => by
                by_cases e : j < k
                · exact hpre.out j e
                · obtain rfl : j = k := by omega
                  rw [rowD_of hg, rowD_of hg2]; exact hr
              clear cL hce hce2 hel hel2 hr hg hg2
              go_wp2_with (go_at_call 7; refine CL.out.mono ?_; rintro e w' ⟨rfl, hb2⟩)
              go_roundw
              case rel => exact ⟨k + 1, by omega, by go_num, hpre2, hb.trans (hb2.mono hb.size)⟩
              case measure => simp [intOf]; omega
          · obtain rfl : k = ls.length := by omega
            have R := Lib.hid (logB_all (a := ⟨ts, ls, used⟩) (b := ⟨ts2, ls2, used⟩) HT.out rfl (rowsB_all HL.out hpre.out))
            go_wp2
            go_ret
            exact ⟨ret_bool R.out.symm, hbw⟩
end Go.Proofs.Ytemakmnoncmpbaa

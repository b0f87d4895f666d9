/-
  The first tick behind which two ways part: diff.Ways. Condition: the legs are within bounds, the horizon is at most 300.
-/
import Derived.Test.YtfpmdldngnopjaaTrack
import Derived.Test.YtfpmdldngnopjaaScan
set_option linter.unusedVariables false
set_option linter.unusedSimpArgs false
namespace Go.Proofs.Ytfpmdldngnopjaa
open Go.Joins Go.ChangeShapes Go.WideShapes Go.ChangeAt Go.RowKit Go.Deep

/-- Do two ways part behind a tick? -/
def waysB (a b : List Leg) (t : Nat) : Bool := wayP a t != wayP b t || wayD a t != wayD b t || wayB a t != wayB b t
theorem ret_ibw {k : IntKind} {a b : Int} {c d : Bool} (h : a = b) (h' : c = d) : Ending.returned (.tuple #[.int k a, .bool c]) = .returned (.tuple #[.int k b, .bool d]) := by rw [h, h']
set_option maxHeartbeats 2000000 in
theorem diff_Ways (A B : Option Addr) (C D : Nat) (xs ys : List Leg) (h : Int) (w : World) (hx : Legs w A xs) (hy : Legs w B ys) (fx : fineLs xs) (fy : fineLs ys) (hh : h ≤ 300) :
    Calls Try.prog 66 #[.slice A xs.length C, .slice B ys.length D, .int .i64 h] w fun e w' => e = .returned (.tuple #[.int .i64 (scanI (waysB xs ys) h.toNat h.toNat), .bool (scanB (waysB xs ys) h.toNat h.toNat)]) ∧ ∃ n, w' = w.drewN n := by
  have cX := fun t w hx ht => track_At A C xs t w hx fx ht
  have cY := fun t w hy ht => track_At B D ys t w hy fy ht
  have CX := Lib.hid cX
  have CY := Lib.hid cY
  have HX := Lib.hid hx
  have HY := Lib.hid hy
  clear cX cY hx hy fx fy
  go_enter Try.func66, Try.ntmps66
  go_wp2
  go_loopw [16] (fun i wr => ∃ k n : Nat, k ≤ h.toNat ∧ i = .int .i64 k ∧ Hid (∀ j, j < k → waysB xs ys j = false) ∧ wr = w.drewN n) (fun i _ => h.toNat - (intOf i).toNat)
  case atStart => exact ⟨0, 0, by omega, rfl, fun j hj => by omega, rfl⟩
  case round =>
    obtain ⟨k, n, hk, rfl, hpre, rfl⟩ := hrel
    by_cases hkl : (k : Int) < h
    · have hx1 := Lib.hid (HX.out.below (below_drewN (Below.refl _ _) n))
      have cxk := fun w hx => CX.out k w hx (by omega)
      have cyk := fun w hy => CY.out k w hy (by omega)
      have hpk : waysB xs ys k = (wayP xs k != wayP ys k || wayD xs k != wayD ys k || wayB xs k != wayB ys k) := rfl
      generalize wayP xs k = p1 at *
      generalize wayP ys k = p2 at *
      generalize wayD xs k = d1 at *
      generalize wayD ys k = d2 at *
      generalize wayB xs k = b1 at *
      generalize wayB ys k = b2 at *
      by_cases hp : p1 = p2
      · subst hp
        have hpp : (p1 != p1) = false := by simp
        rcases d1 with _ | _ <;> rcases d2 with _ | _
        · rcases b1 with _ | _ <;> rcases b2 with _ | _
          · have CXK := Lib.hid cxk
            have CYK := Lib.hid cyk
            have HPK := Lib.hid hpk
            clear cxk cyk hpk
            have hpre2 : Hid (∀ j, j < k + 1 → waysB xs ys j = false) := fun j hj => by
              by_cases e : j < k
              · exact hpre.out j e
              · obtain rfl : j = k := by omega
                exact HPK.out.trans (by simp)
            go_wp2_with fail
            refine (CXK.out _ hx1.out).mono ?_
            rintro e w2 ⟨rfl, n2, rfl⟩
            go_wp2_with fail
            refine (CYK.out _ (HY.out.below (by first | exact below_drewN (Below.refl _ _) _ | exact below_drewN (below_drewN (Below.refl _ _) _) _))).mono ?_
            rintro e w3 ⟨rfl, n3, rfl⟩
            go_wp2
            go_roundw
            case rel => exact ⟨k + 1, _, by omega, by go_num, hpre2, rfl⟩
            case measure => simp [intOf]; omega
          · have CXK := Lib.hid cxk
            have CYK := Lib.hid cyk
            have HPK := Lib.hid hpk
            clear cxk cyk hpk
            obtain ⟨r1, r2⟩ := scan_hit (p := waysB xs ys) (n := h.toNat) (d := h.toNat) (k := k) (Nat.le_refl _) (HPK.out.trans (by simp)) (by omega) (by omega) (fun j _ hj => hpre.out j hj)
            have R1 := Lib.hid r1
            have R2 := Lib.hid r2
            clear r1 r2
            go_wp2_with fail
            refine (CXK.out _ hx1.out).mono ?_
            rintro e w2 ⟨rfl, n2, rfl⟩
            go_wp2_with fail
            refine (CYK.out _ (HY.out.below (by first | exact below_drewN (Below.refl _ _) _ | exact below_drewN (below_drewN (Below.refl _ _) _) _))).mono ?_
            rintro e w3 ⟨rfl, n3, rfl⟩
            go_wp2
            go_ret2
            exact ⟨ret_ibw R1.out.symm R2.out.symm, _, rfl⟩
          · have CXK := Lib.hid cxk
            have CYK := Lib.hid cyk
            have HPK := Lib.hid hpk
            clear cxk cyk hpk
            obtain ⟨r1, r2⟩ := scan_hit (p := waysB xs ys) (n := h.toNat) (d := h.toNat) (k := k) (Nat.le_refl _) (HPK.out.trans (by simp)) (by omega) (by omega) (fun j _ hj => hpre.out j hj)
            have R1 := Lib.hid r1
            have R2 := Lib.hid r2
            clear r1 r2
            go_wp2_with fail
            refine (CXK.out _ hx1.out).mono ?_
            rintro e w2 ⟨rfl, n2, rfl⟩
            go_wp2_with fail
            refine (CYK.out _ (HY.out.below (by first | exact below_drewN (Below.refl _ _) _ | exact below_drewN (below_drewN (Below.refl _ _) _) _))).mono ?_
            rintro e w3 ⟨rfl, n3, rfl⟩
            go_wp2
            go_ret2
            exact ⟨ret_ibw R1.out.symm R2.out.symm, _, rfl⟩
          · have CXK := Lib.hid cxk
            have CYK := Lib.hid cyk
            have HPK := Lib.hid hpk
            clear cxk cyk hpk
            have hpre2 : Hid (∀ j, j < k + 1 → waysB xs ys j = false) := fun j hj => by
              by_cases e : j < k
              · exact hpre.out j e
              · obtain rfl : j = k := by omega
                exact HPK.out.trans (by simp)
            go_wp2_with fail
            refine (CXK.out _ hx1.out).mono ?_
            rintro e w2 ⟨rfl, n2, rfl⟩
            go_wp2_with fail
            refine (CYK.out _ (HY.out.below (by first | exact below_drewN (Below.refl _ _) _ | exact below_drewN (below_drewN (Below.refl _ _) _) _))).mono ?_
            rintro e w3 ⟨rfl, n3, rfl⟩
            go_wp2
            go_roundw
            case rel => exact ⟨k + 1, _, by omega, by go_num, hpre2, rfl⟩
            case measure => simp [intOf]; omega
        · have CXK := Lib.hid cxk
          have CYK := Lib.hid cyk
          have HPK := Lib.hid hpk
          clear cxk cyk hpk
          obtain ⟨r1, r2⟩ := scan_hit (p := waysB xs ys) (n := h.toNat) (d := h.toNat) (k := k) (Nat.le_refl _) (HPK.out.trans (by simp)) (by omega) (by omega) (fun j _ hj => hpre.out j hj)
          have R1 := Lib.hid r1
          have R2 := Lib.hid r2
          clear r1 r2
          go_wp2_with fail
          refine (CXK.out _ hx1.out).mono ?_
          rintro e w2 ⟨rfl, n2, rfl⟩
          go_wp2_with fail
          refine (CYK.out _ (HY.out.below (by first | exact below_drewN (Below.refl _ _) _ | exact below_drewN (below_drewN (Below.refl _ _) _) _))).mono ?_
          rintro e w3 ⟨rfl, n3, rfl⟩
          go_wp2
          go_ret2
          exact ⟨ret_ibw R1.out.symm R2.out.symm, _, rfl⟩
        · have CXK := Lib.hid cxk
          have CYK := Lib.hid cyk
          have HPK := Lib.hid hpk
          clear cxk cyk hpk
          obtain ⟨r1, r2⟩ := scan_hit (p := waysB xs ys) (n := h.toNat) (d := h.toNat) (k := k) (Nat.le_refl _) (HPK.out.trans (by simp)) (by omega) (by omega) (fun j _ hj => hpre.out j hj)
          have R1 := Lib.hid r1
          have R2 := Lib.hid r2
          clear r1 r2
          go_wp2_with fail
          refine (CXK.out _ hx1.out).mono ?_
          rintro e w2 ⟨rfl, n2, rfl⟩
          go_wp2_with fail
          refine (CYK.out _ (HY.out.below (by first | exact below_drewN (Below.refl _ _) _ | exact below_drewN (below_drewN (Below.refl _ _) _) _))).mono ?_
          rintro e w3 ⟨rfl, n3, rfl⟩
          go_wp2
          go_ret2
          exact ⟨ret_ibw R1.out.symm R2.out.symm, _, rfl⟩
        · rcases b1 with _ | _ <;> rcases b2 with _ | _
          · have CXK := Lib.hid cxk
            have CYK := Lib.hid cyk
            have HPK := Lib.hid hpk
            clear cxk cyk hpk
            have hpre2 : Hid (∀ j, j < k + 1 → waysB xs ys j = false) := fun j hj => by
              by_cases e : j < k
              · exact hpre.out j e
              · obtain rfl : j = k := by omega
                exact HPK.out.trans (by simp)
            go_wp2_with fail
            refine (CXK.out _ hx1.out).mono ?_
            rintro e w2 ⟨rfl, n2, rfl⟩
            go_wp2_with fail
            refine (CYK.out _ (HY.out.below (by first | exact below_drewN (Below.refl _ _) _ | exact below_drewN (below_drewN (Below.refl _ _) _) _))).mono ?_
            rintro e w3 ⟨rfl, n3, rfl⟩
            go_wp2
            go_roundw
            case rel => exact ⟨k + 1, _, by omega, by go_num, hpre2, rfl⟩
            case measure => simp [intOf]; omega
          · have CXK := Lib.hid cxk
            have CYK := Lib.hid cyk
            have HPK := Lib.hid hpk
            clear cxk cyk hpk
            obtain ⟨r1, r2⟩ := scan_hit (p := waysB xs ys) (n := h.toNat) (d := h.toNat) (k := k) (Nat.le_refl _) (HPK.out.trans (by simp)) (by omega) (by omega) (fun j _ hj => hpre.out j hj)
            have R1 := Lib.hid r1
            have R2 := Lib.hid r2
            clear r1 r2
            go_wp2_with fail
            refine (CXK.out _ hx1.out).mono ?_
            rintro e w2 ⟨rfl, n2, rfl⟩
            go_wp2_with fail
            refine (CYK.out _ (HY.out.below (by first | exact below_drewN (Below.refl _ _) _ | exact below_drewN (below_drewN (Below.refl _ _) _) _))).mono ?_
            rintro e w3 ⟨rfl, n3, rfl⟩
            go_wp2
            go_ret2
            exact ⟨ret_ibw R1.out.symm R2.out.symm, _, rfl⟩
          · have CXK := Lib.hid cxk
            have CYK := Lib.hid cyk
            have HPK := Lib.hid hpk
            clear cxk cyk hpk
            obtain ⟨r1, r2⟩ := scan_hit (p := waysB xs ys) (n := h.toNat) (d := h.toNat) (k := k) (Nat.le_refl _) (HPK.out.trans (by simp)) (by omega) (by omega) (fun j _ hj => hpre.out j hj)
            have R1 := Lib.hid r1
            have R2 := Lib.hid r2
            clear r1 r2
            go_wp2_with fail
            refine (CXK.out _ hx1.out).mono ?_
            rintro e w2 ⟨rfl, n2, rfl⟩
            go_wp2_with fail
            refine (CYK.out _ (HY.out.below (by first | exact below_drewN (Below.refl _ _) _ | exact below_drewN (below_drewN (Below.refl _ _) _) _))).mono ?_
            rintro e w3 ⟨rfl, n3, rfl⟩
            go_wp2
            go_ret2
            exact ⟨ret_ibw R1.out.symm R2.out.symm, _, rfl⟩
          · have CXK := Lib.hid cxk
            have CYK := Lib.hid cyk
            have HPK := Lib.hid hpk
            clear cxk cyk hpk
            have hpre2 : Hid (∀ j, j < k + 1 → waysB xs ys j = false) := fun j hj => by
              by_cases e : j < k
              · exact hpre.out j e
              · obtain rfl : j = k := by omega
                exact HPK.out.trans (by simp)
            go_wp2_with fail
            refine (CXK.out _ hx1.out).mono ?_
            rintro e w2 ⟨rfl, n2, rfl⟩
            go_wp2_with fail
            refine (CYK.out _ (HY.out.below (by first | exact below_drewN (Below.refl _ _) _ | exact below_drewN (below_drewN (Below.refl _ _) _) _))).mono ?_
            rintro e w3 ⟨rfl, n3, rfl⟩
            go_wp2
            go_roundw
            case rel => exact ⟨k + 1, _, by omega, by go_num, hpre2, rfl⟩
            case measure => simp [intOf]; omega
      · have hpp : (p1 != p2) = true := by simp [hp]
        have CXK := Lib.hid cxk
        have CYK := Lib.hid cyk
        have HPK := Lib.hid (hpk.trans (by rw [hpp]; rfl) : waysB xs ys k = true)
        clear cxk cyk hpk hp
        obtain ⟨r1, r2⟩ := scan_hit (p := waysB xs ys) (n := h.toNat) (d := h.toNat) (k := k) (Nat.le_refl _) HPK.out (by omega) (by omega) (fun j _ hj => hpre.out j hj)
        have R1 := Lib.hid r1
        have R2 := Lib.hid r2
        clear r1 r2
        go_wp2_with fail
        refine (CXK.out _ hx1.out).mono ?_
        rintro e w2 ⟨rfl, n2, rfl⟩
        go_wp2_with fail
        refine (CYK.out _ (HY.out.below (by first | exact below_drewN (Below.refl _ _) _ | exact below_drewN (below_drewN (Below.refl _ _) _) _))).mono ?_
        rintro e w3 ⟨rfl, n3, rfl⟩
        go_wp2
        go_ret2
        exact ⟨ret_ibw R1.out.symm R2.out.symm, _, rfl⟩
    · have hkh : k = h.toNat := by omega
      obtain ⟨r1, r2⟩ := scan_none (p := waysB xs ys) (n := h.toNat) (d := h.toNat) (Nat.le_refl _) (fun j _ hj => hpre.out j (by omega))
      have R1 := Lib.hid r1
      have R2 := Lib.hid r2
      clear r1 r2 hkh
      go_wp2
      go_ret2
      exact ⟨ret_ibw R1.out.symm R2.out.symm, _, rfl⟩
end Go.Proofs.Ytfpmdldngnopjaa

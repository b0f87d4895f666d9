
/-
  Are two rows of rows of texts the same: hoistwayref53.Same. Condition: there are at most 10000 rows, of at most 10000 texts.
-/
import Derived.Test.YtgfhgopfhcakhaaDoorCsvV
set_option linter.unusedVariables false
set_option linter.unusedSimpArgs false
namespace Go.Proofs.YtgfhgopfhcakhaaDoor
open Go Go.Joins Go.ChangeShapes Go.WideShapes Go.ChangeAt Go.RowKit Go.Deep

def preEq {α : Type} (xs ys : List α) (k : Nat) : Prop := ∀ i, i < k → xs[i]? = ys[i]?
theorem preEq_succ {α : Type} {xs ys : List α} {k : Nat} (h : preEq xs ys k) (hk : xs[k]? = ys[k]?) : preEq xs ys (k + 1) := fun i hi => by
  by_cases e : i < k
  · exact h i e
  · obtain rfl : i = k := by omega
    exact hk
theorem preEq_all {α : Type} {xs ys : List α} (hl : xs.length = ys.length) (h : preEq xs ys xs.length) : xs = ys := by
  apply List.ext_getElem?
  intro i
  by_cases e : i < xs.length
  · exact h i e
  · rw [List.getElem?_eq_none (by omega), List.getElem?_eq_none (by omega)]
theorem ne_at {α : Type} {xs ys : List α} {k : Nat} {x y : α} (hx : xs[k]? = some x) (hy : ys[k]? = some y) (h : x ≠ y) : xs ≠ ys := fun e => by
  rw [e, hy] at hx
  injection hx with hx
  exact h hx.symm
set_option maxRecDepth 20000 in
set_option maxHeartbeats 8000000 in
theorem ref53_Same (A B : Option Addr) (C D : Nat) (xss yss : List (List Byt)) (w : World) (hx : TxtRows w A xss) (hy : TxtRows w B yss) (hl : xss.length ≤ 10000) (hl2 : yss.length ≤ 10000)
    (hxl : ∀ (i : Nat) (xs : List Byt), xss[i]? = some xs → xs.length ≤ 10000) (hyl : ∀ (i : Nat) (xs : List Byt), yss[i]? = some xs → xs.length ≤ 10000) :
    Calls Tryd.prog 15 #[.slice A xss.length C, .slice B yss.length D] w fun e w' => e = .returned (.bool (decide (xss = yss))) ∧ Below w.heap.size w w' := by
  have HX := Lib.hid hx
  have HY := Lib.hid hy
  have HXL := Lib.hid hxl
  have HYL := Lib.hid hyl
  clear hx hy hxl hyl
  by_cases hm : xss.length = yss.length
  rotate_left
  · have hne : ((xss.length : Int) != (yss.length : Int)) = true := by simp; omega
    have R := Lib.hid (show decide (xss = yss) = false from decide_eq_false fun e => hm (by rw [e]))
    clear hm
    go_enter Tryd.func15, Tryd.ntmps15
    go_wp2
    go_ret
    exact ⟨ret_bool R.out.symm, Below.refl _ _⟩
  · have hne : ((xss.length : Int) != (yss.length : Int)) = false := by simp; omega
    have HM := Lib.hid hm
    clear hm
    go_enter Tryd.func15, Tryd.ntmps15
    go_wp2
    clear hne
    go_loopw [5] (fun i wr => ∃ n : Nat, n ≤ xss.length ∧ i = .int .i64 n ∧ Hid (preEq xss yss n) ∧ Below w.heap.size w wr) (fun i _ => xss.length - (intOf i).toNat)
    case atStart => exact ⟨0, by omega, rfl, fun j hj => by omega, Below.refl _ _⟩
    case round =>
      obtain ⟨n, hn, rfl, hpre, hb⟩ := hrel
      by_cases hkx : n < xss.length
      · have hky : n < yss.length := by have := HM.out; omega
        obtain ⟨xs, hgx⟩ := at_some hkx
        obtain ⟨ys, hgy⟩ := at_some hky
        obtain ⟨b, off, rfl, hbl, hce⟩ := HX.out (by omega)
        obtain ⟨A', C', z, hel⟩ := hce n xs hgx
        obtain ⟨b2, off2, rfl, hbl2, hce2⟩ := HY.out (by omega)
        obtain ⟨B', D', y, hel2⟩ := hce2 n ys hgy
        have HZ := Lib.hid z
        have HYY := Lib.hid y
        have HE := Lib.hid hel
        have HE2 := Lib.hid hel2
        have HB := Lib.hid hb
        have hxl := HXL.out n xs hgx
        have hyl := HYL.out n ys hgy
        have z1 := (hb.cell (p := ⟨b, off + n, none⟩) hbl).trans z
        have y1 := (hb.cell (p := ⟨b2, off2 + n, none⟩) hbl2).trans y
        have hbz := Nat.lt_of_lt_of_le hbl hb.size
        have hbz2 := Nat.lt_of_lt_of_le hbl2 hb.size
        by_cases hlm : xs.length = ys.length
        rotate_left
        · have hne : ((xs.length : Int) != (ys.length : Int)) = true := by simp; omega
          have R := Lib.hid (show decide (xss = yss) = false from decide_eq_false (ne_at hgx hgy fun e => hlm (by rw [e])))
          clear hlm hce hce2 hgx hgy z y hel hel2 hb
          go_wp2
          go_quiet (fail)
          go_wp2
          go_ret
          exact ⟨ret_bool R.out.symm, below_drewN HB.out _⟩
        · have hne : ((xs.length : Int) != (ys.length : Int)) = false := by simp; omega
          have HLM := Lib.hid hlm
          have HNE := Lib.hid (show xs ≠ ys → decide (xss = yss) = false from fun h => decide_eq_false (ne_at hgx hgy h))
          have HEQ := Lib.hid (show xs = ys → preEq xss yss (n + 1) from fun h => preEq_succ hpre.out (by rw [hgx, hgy, h]))
          clear hlm hce hce2 hgx hgy z y hel hel2 hb
          go_wp2
          go_quiet (fail)
          go_wp2
          clear hne z1 y1 hbz hbz2
          go_loopw [6] (fun i wr => ∃ k : Nat, k ≤ xs.length ∧ i = .int .i64 k ∧ Hid (preEq xs ys k) ∧ Below w.heap.size w wr) (fun i _ => xs.length - (intOf i).toNat)
          case atStart => exact ⟨0, by omega, rfl, fun j hj => by omega, below_drewN HB.out _⟩
          case round =>
            obtain ⟨k, hk, rfl, hpk, hb⟩ := hrel
            have z1 := (hb.cell (p := ⟨b, off + n, none⟩) hbl).trans HZ.out
            have y1 := (hb.cell (p := ⟨b2, off2 + n, none⟩) hbl2).trans HYY.out
            have hbz := Nat.lt_of_lt_of_le hbl hb.size
            have hbz2 := Nat.lt_of_lt_of_le hbl2 hb.size
            by_cases hlk : k < xs.length
            · have hlk2 : k < ys.length := by have := HLM.out; omega
              obtain ⟨x, hg⟩ := at_some hlk
              obtain ⟨v, hg2⟩ := at_some hlk2
              obtain ⟨b3, off3, rfl, hbl3, hce3⟩ := HE.out (by omega)
              obtain ⟨b4, off4, rfl, hbl4, hce4⟩ := HE2.out (by omega)
              have z2 := (hb.cell (p := ⟨b3, off3 + k * 1 + 0, none⟩) hbl3).trans (hce3 k x hg 0 _ rfl)
              have y2 := (hb.cell (p := ⟨b4, off4 + k * 1 + 0, none⟩) hbl4).trans (hce4 k v hg2 0 _ rfl)
              simp only [Nat.mul_one, Nat.add_zero] at z2 y2
              have hbz3 := Nat.lt_of_lt_of_le hbl3 hb.size
              have hbz4 := Nat.lt_of_lt_of_le hbl4 hb.size
              have q0 := eq_txt x v
              by_cases e : x = v
              · have q1 : ((txt x).toList == (txt v).toList) = true := by rw [q0]; simpa using e
                have q2 : ((txt x).toList != (txt v).toList) = false := by simp only [bne, q1]; rfl
                have HP := Lib.hid (preEq_succ hpk.out (by rw [hg, hg2, e]))
                have HB2 := Lib.hid hb
                clear q0 e hg hg2 hce3 hce4 hb
                generalize txt x = s at *
                generalize txt v = s2 at *
                go_wp2
                go_quiet (fail)
                go_wp2
                go_roundw
                case rel => exact ⟨k + 1, by omega, by go_num, HP, below_drewN HB2.out _⟩
                case measure => simp [intOf]; omega
              · have q1 : ((txt x).toList == (txt v).toList) = false := by rw [q0]; simpa using e
                have q2 : ((txt x).toList != (txt v).toList) = true := by simp only [bne, q1]; rfl
                have R := Lib.hid (HNE.out (ne_at hg hg2 e))
                have HB2 := Lib.hid hb
                clear q0 e hg hg2 hce3 hce4 hb
                generalize txt x = s at *
                generalize txt v = s2 at *
                go_wp2
                go_quiet (fail)
                go_wp2
                go_ret
                exact ⟨ret_bool R.out.symm, below_drewN HB2.out _⟩
            · obtain rfl : k = xs.length := by omega
              have HP := Lib.hid (HEQ.out (preEq_all HLM.out hpk.out))
              go_wp2
              go_roundw
              case rel => exact ⟨n + 1, by omega, by go_num, HP, hb⟩
              case measure => simp [intOf]; omega
      · obtain rfl : n = xss.length := by omega
        have R := Lib.hid (show decide (xss = yss) = true from decide_eq_true (preEq_all HM.out hpre.out))
        go_wp2
        go_ret
        exact ⟨ret_bool R.out.symm, hb⟩
end Go.Proofs.YtgfhgopfhcakhaaDoor

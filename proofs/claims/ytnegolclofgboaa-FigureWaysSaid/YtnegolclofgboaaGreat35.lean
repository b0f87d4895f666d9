
/-
  Cars' legs within bounds: hoistwaylaw35.Great. No conditions.
-/
import Derived.Test.YtnegolclofgboaaGreat25
import Derived.Test.YtnegolclofgboaaRows2
set_option linter.unusedVariables false
set_option linter.unusedSimpArgs false
namespace Go.Proofs.Ytnegolclofgboaa
open Go.Joins Go.ChangeShapes Go.WideShapes Go.ChangeAt Go.RowKit Go.Deep

abbrev LegRows (w : World) (A : Option Addr) (xss : List (List Leg)) : Prop := Rows2 4 Leg.cells w A xss
/-- One car's legs. -/
def fineRow (h : Int) (xs : List Leg) : Prop := xs.length ≤ 40 ∧ fineLs xs ∧ (0 < xs.length → h - (legAt xs 0).tick ≤ 300)
def fine35 (xss : List (List Leg)) (h : Int) : Prop := xss.length ≤ 10 ∧ (-1 ≤ h ∧ h ≤ 1073741824) ∧ ∀ (i : Nat) (xs : List Leg), xss[i]? = some xs → fineRow h xs
def Great35Post (xss : List (List Leg)) (h : Int) (w : World) (e : Ending) (w' : World) : Prop := ∃ b : Bool, e = .returned (.bool b) ∧ (b = false → fine35 xss h) ∧ Below w.heap.size w w'
set_option maxRecDepth 20000 in
set_option maxHeartbeats 4000000 in
theorem great35 (A : Option Addr) (C : Nat) (xss : List (List Leg)) (h : Int) (w : World) (hx : LegRows w A xss) (hh : -9223372036854775808 ≤ h ∧ h ≤ 9223372036854775807) : Calls Try.prog 6 #[.slice A xss.length C, .int .i64 h] w (Great35Post xss h w) := by
  have HX := Lib.hid hx
  clear hx
  have hcs : 10 < xss.length ∨ (xss.length ≤ 10 ∧ h < -1) ∨ (xss.length ≤ 10 ∧ -1 ≤ h ∧ 1073741824 < h) ∨ (xss.length ≤ 10 ∧ -1 ≤ h ∧ h ≤ 1073741824) := by omega
  rcases hcs with h1 | ⟨h1, h2⟩ | ⟨h1, h2, h3⟩ | ⟨h1, h2, h3⟩
  · go_enter Try.func6, Try.ntmps6
    go_wp2
    go_ret
    exact ⟨true, rfl, (fun h => by cases h), Below.refl _ _⟩
  · go_enter Try.func6, Try.ntmps6
    go_wp2
    go_ret
    exact ⟨true, rfl, (fun h => by cases h), Below.refl _ _⟩
  · go_enter Try.func6, Try.ntmps6
    go_wp2
    go_ret
    exact ⟨true, rfl, (fun h => by cases h), Below.refl _ _⟩
  · go_enter Try.func6, Try.ntmps6
    go_wp2
    go_loopw [5] (fun i wr => ∃ k : Nat, k ≤ xss.length ∧ i = .int .i64 k ∧ Hid (∀ (j : Nat) (xs : List Leg), j < k → xss[j]? = some xs → fineRow h xs) ∧ Below w.heap.size w wr) (fun i _ => xss.length - (intOf i).toNat)
    case atStart => exact ⟨0, by omega, rfl, fun j xs hj => by omega, Below.refl _ _⟩
    case round =>
      obtain ⟨k, hk, rfl, hpre, hb⟩ := hrel
      by_cases hkl : k < xss.length
      · obtain ⟨b, off, rfl, hbl, hce⟩ := HX.out (by omega)
        obtain ⟨xs, hg⟩ := at_some hkl
        obtain ⟨A', C', z, hel⟩ := hce k xs hg
        replace z := (hb.cell (p := ⟨b, off + k, none⟩) hbl).trans z
        replace hel := hel.below hb
        have hzb : b < wr.heap.size := by have := hb.size; omega
        have hnext : fineRow h xs → Hid (∀ (j : Nat) (xs : List Leg), j < k + 1 → xss[j]? = some xs → fineRow h xs) := fun hf j xs' hj hj2 => by
          by_cases e : j < k
          · exact hpre.out j xs' e hj2
          · obtain rfl : j = k := by omega
            rw [hg] at hj2
            injection hj2 with hj2
            subst hj2
            exact hf
        have HN := Lib.hid hnext
        have HE := Lib.hid hel
        have HB := Lib.hid hb
        clear hce hg hnext hel
        by_cases h40 : 40 < xs.length
        · go_wp2
          go_ret
          exact ⟨true, rfl, (fun h => by cases h), hb⟩
        · have cG := great25 A' C' xs wr HE.out
          have CG := Lib.hid cG
          clear cG
          go_wp2_with fail
          refine CG.out.mono ?_
          rintro e w2 ⟨g, rfl, hf, hb2⟩
          have hb3 := HB.out.trans (hb2.mono HB.out.size)
          have HB3 := Lib.hid hb3
          replace z := (hb2.cell (p := ⟨b, off + k, none⟩) hzb).trans z
          have HE2 := Lib.hid (HE.out.below hb2)
          clear CG hb hb3
          cases g
          rotate_left
          · clear hf
            go_wp2
            go_ret
            exact ⟨true, rfl, (fun h => by cases h), HB3.out⟩
          · have hf := hf rfl
            rcases Nat.eq_zero_or_pos xs.length with h0 | h0
            · have hfr : fineRow h xs := ⟨by omega, hf, fun hp => by omega⟩
              have hnx := HN.out hfr
              have e1 : decide ((0 : Int) < (xs.length : Int)) = false := decide_eq_false (by omega)
              have e2 : decide (0 < xs.length) = false := decide_eq_false (by omega)
              have H0 := Lib.hid h0
              clear hf hfr h0
              go_wp2
              go_roundw
              case rel => exact ⟨k + 1, by omega, by go_num, hnx, HB3.out⟩
              case measure => simp [intOf]; omega
            · obtain ⟨b3, off3, rfl, hbl3, hce3⟩ := HE2.out h0
              obtain ⟨g, hg⟩ := at_some (xs := xs) (k := 0) h0
              have y0 := hce3 0 g hg 0 _ rfl
              simp only [Nat.zero_mul, Nat.add_zero] at y0
              have hl0 := legAt_of hg
              have hfl := hf.2.1 0 h0
              rw [hl0] at hfl
              obtain ⟨_, _, hf4, hf5⟩ := hfl
              by_cases h300 : 300 < h - g.tick
              · clear hf hce3 hg hl0
                go_wp2
                go_ret
                exact ⟨true, rfl, (fun h => by cases h), HB3.out⟩
              · have hfr : fineRow h xs := ⟨by omega, hf, fun hp => by rw [hl0]; omega⟩
                have hnx := HN.out hfr
                clear hf hfr hce3 hg hl0
                go_wp2
                go_roundw
                case rel => exact ⟨k + 1, by omega, by go_num, hnx, HB3.out⟩
                case measure => simp [intOf]; omega
      · have hall : fine35 xss h := by
          obtain rfl : k = xss.length := by omega
          exact ⟨by omega, ⟨h2, h3⟩, fun i xs hi => hpre.out i xs (List.getElem?_eq_some_iff.1 hi).1 hi⟩
        have HA := Lib.hid hall
        clear hall
        go_wp2
        go_ret
        exact ⟨false, rfl, fun _ => HA.out, hb⟩
end Go.Proofs.Ytnegolclofgboaa

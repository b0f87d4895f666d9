
/-
  Legs within bounds whose ticks rise: hoistwaylaw25.Great. No conditions.
-/
import Derived.Test.YtnegolclofgboaaTrack
set_option linter.unusedVariables false
set_option linter.unusedSimpArgs false
namespace Go.Proofs.Ytnegolclofgboaa
open Go.Joins Go.ChangeShapes Go.WideShapes Go.ChangeAt Go.RowKit Go.Deep

def Great25Post (ls : List Leg) (w : World) (e : Ending) (w' : World) : Prop := ∃ b : Bool, e = .returned (.bool b) ∧ (b = false → fineLs ls) ∧ Below w.heap.size w w'
/-- The first k are within bounds, and rise. -/
def preL (ls : List Leg) (k : Nat) : Prop := (∀ i, i < k → fineL (legAt ls i)) ∧ ∀ i, i + 1 < k → (legAt ls i).tick < (legAt ls (i + 1)).tick
set_option maxRecDepth 20000 in
set_option maxHeartbeats 4000000 in
theorem great25 (A : Option Addr) (C : Nat) (ls : List Leg) (w : World) (hx : Legs w A ls) : Calls Try.prog 27 #[.slice A ls.length C] w (Great25Post ls w) := by
  have HX := Lib.hid hx
  clear hx
  by_cases h60 : 60 < ls.length
  · go_enter Try.func27, Try.ntmps27
    go_wp2
    go_ret
    exact ⟨true, rfl, (fun h => by cases h), Below.refl _ _⟩
  · go_enter Try.func27, Try.ntmps27
    go_wp2
    go_loopw [3] (fun i wr => ∃ k : Nat, k ≤ ls.length ∧ i = .int .i64 k ∧ Hid (preL ls k) ∧ Below w.heap.size w wr) (fun i _ => ls.length - (intOf i).toNat)
    case atStart => exact ⟨0, by omega, rfl, ⟨fun i hi => by omega, fun i hi => by omega⟩, Below.refl _ _⟩
    case round =>
      obtain ⟨k, hk, rfl, hin, hb⟩ := hrel
      by_cases hkl : k < ls.length
      · obtain ⟨b, off, rfl, hbl, hce⟩ := HX.out (by omega)
        obtain ⟨g, hg⟩ := at_some hkl
        have hga := legAt_of hg
        have z := fun j u h => (hb.cell (p := ⟨b, off + k * 4 + j, none⟩) hbl).trans (hce k g hg j u h)
        have z0 := z 0 _ rfl
        have z1 := z 1 _ rfl
        have z2 := z 2 _ rfl
        have z3 := z 3 _ rfl
        simp only [Nat.add_zero] at z0
        have hbn := below_of_alloc hb (.cells g.cells.toArray 65)
        obtain ⟨tick, pos, dir, door⟩ := g
        simp only [Leg.cells] at *
        have hlt : b < wr.heap.size := by have := hb.size; omega
        have hcs : dir < -1 ∨ (-1 ≤ dir ∧ 1 < dir) ∨ (-1 ≤ dir ∧ dir ≤ 1 ∧ pos < -1073741824) ∨ (-1 ≤ dir ∧ dir ≤ 1 ∧ -1073741824 ≤ pos ∧ 1073741824 < pos) ∨ (-1 ≤ dir ∧ dir ≤ 1 ∧ -1073741824 ≤ pos ∧ pos ≤ 1073741824 ∧ tick < -1073741824) ∨ (-1 ≤ dir ∧ dir ≤ 1 ∧ -1073741824 ≤ pos ∧ pos ≤ 1073741824 ∧ -1073741824 ≤ tick ∧ 1073741824 < tick) ∨ (-1 ≤ dir ∧ dir ≤ 1 ∧ -1073741824 ≤ pos ∧ pos ≤ 1073741824 ∧ -1073741824 ≤ tick ∧ tick ≤ 1073741824) := by omega
        rcases hcs with h1 | ⟨h1, h2⟩ | ⟨h1, h2, h3⟩ | ⟨h1, h2, h3, h4⟩ | ⟨h1, h2, h3, h4, h5⟩ | ⟨h1, h2, h3, h4, h5, h6⟩ | ⟨h1, h2, h3, h4, h5, h6⟩
        · have d1 : decide (dir < -1) = true := decide_eq_true (by omega)
          clear z hce hg hga
          go_wp2_with fail
          go_quiet (fail)
          go_wp2
          go_ret
          exact ⟨true, rfl, (fun h => by cases h), below_drewN hbn _⟩
        · have d1 : decide (dir < -1) = false := decide_eq_false (by omega)
          have d2 : decide (1 < dir) = true := decide_eq_true (by omega)
          clear z hce hg hga
          go_wp2_with fail
          go_quiet (fail)
          go_wp2
          go_ret
          exact ⟨true, rfl, (fun h => by cases h), below_drewN hbn _⟩
        · have d1 : decide (dir < -1) = false := decide_eq_false (by omega)
          have d2 : decide (1 < dir) = false := decide_eq_false (by omega)
          have d3 : decide (pos < -1073741824) = true := decide_eq_true (by omega)
          clear z hce hg hga
          go_wp2_with fail
          go_quiet (fail)
          go_wp2
          go_ret
          exact ⟨true, rfl, (fun h => by cases h), below_drewN hbn _⟩
        · have d1 : decide (dir < -1) = false := decide_eq_false (by omega)
          have d2 : decide (1 < dir) = false := decide_eq_false (by omega)
          have d3 : decide (pos < -1073741824) = false := decide_eq_false (by omega)
          have d4 : decide (1073741824 < pos) = true := decide_eq_true (by omega)
          clear z hce hg hga
          go_wp2_with fail
          go_quiet (fail)
          go_wp2
          go_ret
          exact ⟨true, rfl, (fun h => by cases h), below_drewN hbn _⟩
        · have d1 : decide (dir < -1) = false := decide_eq_false (by omega)
          have d2 : decide (1 < dir) = false := decide_eq_false (by omega)
          have d3 : decide (pos < -1073741824) = false := decide_eq_false (by omega)
          have d4 : decide (1073741824 < pos) = false := decide_eq_false (by omega)
          have d5 : decide (tick < -1073741824) = true := decide_eq_true (by omega)
          clear z hce hg hga
          go_wp2_with fail
          go_quiet (fail)
          go_wp2
          go_ret
          exact ⟨true, rfl, (fun h => by cases h), below_drewN hbn _⟩
        · have d1 : decide (dir < -1) = false := decide_eq_false (by omega)
          have d2 : decide (1 < dir) = false := decide_eq_false (by omega)
          have d3 : decide (pos < -1073741824) = false := decide_eq_false (by omega)
          have d4 : decide (1073741824 < pos) = false := decide_eq_false (by omega)
          have d5 : decide (tick < -1073741824) = false := decide_eq_false (by omega)
          have d6 : decide (1073741824 < tick) = true := decide_eq_true (by omega)
          clear z hce hg hga
          go_wp2_with fail
          go_quiet (fail)
          go_wp2
          go_ret
          exact ⟨true, rfl, (fun h => by cases h), below_drewN hbn _⟩
        · have d1 : decide (dir < -1) = false := decide_eq_false (by omega)
          have d2 : decide (1 < dir) = false := decide_eq_false (by omega)
          have d3 : decide (pos < -1073741824) = false := decide_eq_false (by omega)
          have d4 : decide (1073741824 < pos) = false := decide_eq_false (by omega)
          have d5 : decide (tick < -1073741824) = false := decide_eq_false (by omega)
          have d6 : decide (1073741824 < tick) = false := decide_eq_false (by omega)
          have hfine : fineL (legAt ls k) := by rw [hga]; exact ⟨⟨h1, h2⟩, ⟨h3, h4⟩, h5, h6⟩
          rcases Nat.eq_zero_or_pos k with hk0 | hk0
          · have hpre : Hid (preL ls (k + 1)) := ⟨fun i hi => by obtain rfl : i = k := by omega
                                                                 exact hfine, fun i hi => by omega⟩
            have d7 : decide ((0 : Int) < (k : Int)) = false := decide_eq_false (by omega)
            have d8 : decide (0 < k) = false := decide_eq_false (by omega)
            have HK0 := Lib.hid hk0
            clear z hce hg hga hfine hk0
            go_wp2_with fail
            go_quiet (fail)
            go_wp2
            go_roundw
            case rel => exact ⟨k + 1, by omega, by go_num, hpre, below_drewN hbn _⟩
            case measure => simp [intOf]; omega
          · obtain ⟨p, hp⟩ : ∃ p, p + 1 = k := ⟨k - 1, by omega⟩
            obtain ⟨g2, hg2⟩ := at_some (xs := ls) (k := p) (by omega)
            have hga2 := legAt_of hg2
            have y := fun j u h => (hb.cell (p := ⟨b, off + p * 4 + j, none⟩) hbl).trans (hce p g2 hg2 j u h)
            have y0 := y 0 _ rfl
            simp only [Nat.add_zero] at y0
            have d7 : decide ((0 : Int) < (k : Int)) = true := decide_eq_true (by omega)
            have d8 : decide (0 < k) = true := decide_eq_true (by omega)
            have e1 : IntKind.i64.wrap ((k : Int) - 1) = (p : Int) := by rw [show (k : Int) - 1 = (p : Int) by omega]; exact IntWalk.i64_in _ (by omega)
            have e2 : (0 : Int) ≤ (p : Int) := by omega
            have e3 : (p : Int) < (ls.length : Int) := by omega
            obtain ⟨tick2, pos2, dir2, door2⟩ := g2
            simp only at y0
            have hpl : p < ls.length := by omega
            have HP := Lib.hid hp
            rcases Int.lt_or_le tick2 tick with hr | hr
            · have d9 : decide (tick ≤ tick2) = false := decide_eq_false (by omega)
              have hpre : Hid (preL ls (k + 1)) := ⟨fun i hi => by
                  by_cases e : i < k
                  · exact hin.out.1 i e
                  · obtain rfl : i = k := by omega
                    exact hfine, fun i hi => by
                  by_cases e : i + 1 < k
                  · exact hin.out.2 i e
                  · obtain rfl : i = p := by omega
                    rw [show i + 1 = k from hp, hga, hga2]
                    exact hr⟩
              clear z hce hg hga hfine y hg2 hga2 hp hk0
              go_wp2_with fail
              go_quiet (fail)
              clear e1
              go_wp2
              go_roundw
              case rel => exact ⟨k + 1, by omega, by go_num, hpre, below_drewN hbn _⟩
              case measure => simp [intOf]; omega
            · have d9 : decide (tick ≤ tick2) = true := decide_eq_true (by omega)
              clear z hce hg hga hfine y hg2 hga2 hp hk0
              go_wp2_with fail
              go_quiet (fail)
              clear e1
              go_wp2
              go_ret
              exact ⟨true, rfl, (fun h => by cases h), below_drewN hbn _⟩
      · have hall : fineLs ls := by
          obtain rfl : k = ls.length := by omega
          exact ⟨by omega, hin.out.1, hin.out.2⟩
        have HA := Lib.hid hall
        clear hall
        go_wp2
        go_ret
        exact ⟨false, rfl, fun _ => HA.out, hb⟩
end Go.Proofs.Ytnegolclofgboaa

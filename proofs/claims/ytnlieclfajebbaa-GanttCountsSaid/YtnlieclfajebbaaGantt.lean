
/-
  What a car does at the ticks of a span: gantt.Count. Condition: the legs are within bounds, the span has at most 300 ticks.
-/
import Derived.Test.YtnlieclfajebbaaTrack
import Derived.Test.YtnlieclfajebbaaDataP
set_option linter.unusedVariables false
set_option linter.unusedSimpArgs false
namespace Go.Proofs.Ytnlieclfajebbaa
open Go.Joins Go.ChangeShapes Go.WideShapes Go.ChangeAt Go.RowKit Go.Deep

def gU (ls : List Leg) (t : Int) : Int := if wayB ls t = true ∧ wayD ls t = false ∧ wayB ls (t - 1) = true ∧ wayP ls (t - 1) < wayP ls t then 1 else 0
def gD (ls : List Leg) (t : Int) : Int := if wayB ls t = true ∧ wayD ls t = false ∧ wayB ls (t - 1) = true ∧ wayP ls t < wayP ls (t - 1) then 1 else 0
def gO (ls : List Leg) (t : Int) : Int := if wayB ls t = true ∧ wayD ls t = true then 1 else 0
/-- How often, at the first k ticks. -/
def sumG (g : Int → Int) (f : Int) : Nat → Int
  | 0 => 0
  | k + 1 => sumG g f k + g (f + k)
theorem sumG_bd {g : Int → Int} (h : ∀ t, 0 ≤ g t ∧ g t ≤ 1) (f : Int) (k : Nat) : 0 ≤ sumG g f k ∧ sumG g f k ≤ k := by
  induction k with
  | zero => simp [sumG]
  | succ k ih => have := h (f + k); simp only [sumG]; omega
theorem gU_bd (ls : List Leg) (t : Int) : 0 ≤ gU ls t ∧ gU ls t ≤ 1 := by unfold gU; split <;> omega
theorem gD_bd (ls : List Leg) (t : Int) : 0 ≤ gD ls t ∧ gD ls t ≤ 1 := by unfold gD; split <;> omega
theorem gO_bd (ls : List Leg) (t : Int) : 0 ≤ gO ls t ∧ gO ls t ≤ 1 := by unfold gO; split <;> omega
set_option maxRecDepth 20000 in
set_option maxHeartbeats 8000000 in
theorem gantt_Count (A : Option Addr) (C : Nat) (ls : List Leg) (f t : Int) (w : World) (hx : Legs w A ls) (hf : fineLs ls) (f0 : -1048576 ≤ f) (f1 : f ≤ 1048576) (t0 : -1048576 ≤ t) (t1 : t ≤ f + 300) :
    Calls Try.prog 23 #[.slice A ls.length C, .agg #[.int .i64 f, .int .i64 t]] w fun e w' => e = .returned (.tuple #[.int .i64 (sumG (gU ls) f (t - f).toNat), .int .i64 (sumG (gD ls) f (t - f).toNat), .int .i64 (sumG (gO ls) f (t - f).toNat)]) ∧ Below w.heap.size w w' := by
  have cA := fun u w hx hu => track_At A C ls u w hx hf hu
  have CA := Lib.hid cA
  have HX := Lib.hid hx
  clear cA hx hf
  go_enter Try.func23, Try.ntmps23
  go_wp2_with fail
  have hB1 := Blk.new w 23 #[.int .i64 f, .int .i64 t]
  obtain ⟨hBw1, hcw1, hzw1⟩ := box w 23 #[.int .i64 f, .int .i64 t]
  change Code.wp _ _ _ _ (w.alloc (.cells #[.int .i64 f, .int .i64 t] 23))
  generalize (w.alloc (.cells #[.int .i64 f, .int .i64 t] 23)) = w1 at *
  clear hcw1
  go_loopw [7, 8, 9, 10] (fun x y z i wr => ∃ k : Nat, k ≤ (t - f).toNat ∧ i = .int .i64 (f + k) ∧ x = .int .i64 (sumG (gU ls) f k) ∧ y = .int .i64 (sumG (gD ls) f k) ∧ z = .int .i64 (sumG (gO ls) f k) ∧ Blk wr w.heap.size 23 #[.int .i64 f, .int .i64 t] ∧ Below w.heap.size w wr) (fun _ _ _ i _ => (t - intOf i).toNat)
  case atStart => exact ⟨0, by omega, val_int (by omega), rfl, rfl, rfl, hB1, hBw1⟩
  case round =>
    obtain ⟨k, hk, rfl, rfl, rfl, rfl, hblk, hb⟩ := hrel
    have z1 : wr.cell? ⟨w.heap.size, 1, none⟩ = some (.int .i64 t) := hblk.cell 1
    obtain ⟨v0, v1⟩ := sumG_bd (gU_bd ls) f k
    obtain ⟨v2, v3⟩ := sumG_bd (gD_bd ls) f k
    obtain ⟨v4, v5⟩ := sumG_bd (gO_bd ls) f k
    by_cases hkl : f + (k : Int) < t
    · have cx := fun w hx => CA.out (f + k) w hx (by omega)
      have cy := fun w hx => CA.out (f + k - 1) w hx (by omega)
      have eU : gU ls (f + k) = if wayB ls (f + k) = true ∧ wayD ls (f + k) = false ∧ wayB ls (f + k - 1) = true ∧ wayP ls (f + k - 1) < wayP ls (f + k) then 1 else 0 := rfl
      have eD : gD ls (f + k) = if wayB ls (f + k) = true ∧ wayD ls (f + k) = false ∧ wayB ls (f + k - 1) = true ∧ wayP ls (f + k) < wayP ls (f + k - 1) then 1 else 0 := rfl
      have eO : gO ls (f + k) = if wayB ls (f + k) = true ∧ wayD ls (f + k) = true then 1 else 0 := rfl
      generalize wayP ls (f + k) = p1 at *
      generalize wayP ls (f + k - 1) = p0 at *
      generalize wayD ls (f + k) = d1 at *
      generalize wayD ls (f + k - 1) = d0 at *
      generalize wayB ls (f + k) = b1 at *
      generalize wayB ls (f + k - 1) = b0 at *
      rcases b1 with _ | _
      · have hu : gU ls (f + k) = 0 := eU.trans (by simp [*] <;> omega)
        have hd : gD ls (f + k) = 0 := eD.trans (by simp [*] <;> omega)
        have ho : gO ls (f + k) = 0 := eO.trans (by simp [*])
        have HU := Lib.hid (show sumG (gU ls) f (k + 1) = sumG (gU ls) f k + 0 by simp only [sumG]; rw [hu])
        have HD := Lib.hid (show sumG (gD ls) f (k + 1) = sumG (gD ls) f k + 0 by simp only [sumG]; rw [hd])
        have HO := Lib.hid (show sumG (gO ls) f (k + 1) = sumG (gO ls) f k + 0 by simp only [sumG]; rw [ho])
        have CX := Lib.hid cx
        have CY := Lib.hid cy
        clear hu hd ho eU eD eO cx cy
        go_wp2_with fail
        refine (CX.out _ (HX.out.below hb)).mono ?_
        rintro e w2 ⟨rfl, n2, rfl⟩
        have hB2 := below_drewN hb n2
        have s0 : (wr.drewN n2).cell? ⟨w.heap.size, 1, none⟩ = some (.int .i64 t) := z1
        go_wp2_with fail
        refine (CY.out _ (HX.out.below hB2)).mono ?_
        rintro e w3 ⟨rfl, n3, rfl⟩
        have hB3 := below_drewN hB2 n3
        go_wp2
        go_roundw
        case rel => exact ⟨k + 1, by omega, val_int (by omega), val_int (by have := HU.out; omega), val_int (by have := HD.out; omega), val_int (by have := HO.out; omega), by first | exact hblk | exact hblk.drewN _, by first | exact hB3 | exact below_drewN hb _⟩
        case measure => simp [intOf]; omega
      · rcases d1 with _ | _
        · rcases b0 with _ | _
          · have hu : gU ls (f + k) = 0 := eU.trans (by simp [*] <;> omega)
            have hd : gD ls (f + k) = 0 := eD.trans (by simp [*] <;> omega)
            have ho : gO ls (f + k) = 0 := eO.trans (by simp [*])
            have HU := Lib.hid (show sumG (gU ls) f (k + 1) = sumG (gU ls) f k + 0 by simp only [sumG]; rw [hu])
            have HD := Lib.hid (show sumG (gD ls) f (k + 1) = sumG (gD ls) f k + 0 by simp only [sumG]; rw [hd])
            have HO := Lib.hid (show sumG (gO ls) f (k + 1) = sumG (gO ls) f k + 0 by simp only [sumG]; rw [ho])
            have CX := Lib.hid cx
            have CY := Lib.hid cy
            clear hu hd ho eU eD eO cx cy
            go_wp2_with fail
            refine (CX.out _ (HX.out.below hb)).mono ?_
            rintro e w2 ⟨rfl, n2, rfl⟩
            have hB2 := below_drewN hb n2
            have s0 : (wr.drewN n2).cell? ⟨w.heap.size, 1, none⟩ = some (.int .i64 t) := z1
            go_wp2_with fail
            refine (CY.out _ (HX.out.below hB2)).mono ?_
            rintro e w3 ⟨rfl, n3, rfl⟩
            have hB3 := below_drewN hB2 n3
            go_wp2
            go_roundw
            case rel => exact ⟨k + 1, by omega, val_int (by omega), val_int (by have := HU.out; omega), val_int (by have := HD.out; omega), val_int (by have := HO.out; omega), by first | exact hblk | exact hblk.drewN _, by first | exact hB3 | exact below_drewN hb _⟩
            case measure => simp [intOf]; omega
          · rcases Int.lt_or_le p0 p1 with hc | hc
            · have hu : gU ls (f + k) = 1 := eU.trans (by simp [*] <;> omega)
              have hd : gD ls (f + k) = 0 := eD.trans (by simp [*] <;> omega)
              have ho : gO ls (f + k) = 0 := eO.trans (by simp [*])
              have HU := Lib.hid (show sumG (gU ls) f (k + 1) = sumG (gU ls) f k + 1 by simp only [sumG]; rw [hu])
              have HD := Lib.hid (show sumG (gD ls) f (k + 1) = sumG (gD ls) f k + 0 by simp only [sumG]; rw [hd])
              have HO := Lib.hid (show sumG (gO ls) f (k + 1) = sumG (gO ls) f k + 0 by simp only [sumG]; rw [ho])
              have CX := Lib.hid cx
              have CY := Lib.hid cy
              clear hu hd ho eU eD eO cx cy
              go_wp2_with fail
              refine (CX.out _ (HX.out.below hb)).mono ?_
              rintro e w2 ⟨rfl, n2, rfl⟩
              have hB2 := below_drewN hb n2
              have s0 : (wr.drewN n2).cell? ⟨w.heap.size, 1, none⟩ = some (.int .i64 t) := z1
              go_wp2_with fail
              refine (CY.out _ (HX.out.below hB2)).mono ?_
              rintro e w3 ⟨rfl, n3, rfl⟩
              have hB3 := below_drewN hB2 n3
              go_wp2
              go_roundw
              case rel => exact ⟨k + 1, by omega, val_int (by omega), val_int (by have := HU.out; omega), val_int (by have := HD.out; omega), val_int (by have := HO.out; omega), by first | exact hblk | exact hblk.drewN _, by first | exact hB3 | exact below_drewN hb _⟩
              case measure => simp [intOf]; omega
            · rcases Int.lt_or_le p1 p0 with hc2 | hc2
              · have hc3 : ¬ p0 < p1 := by omega
                have hu : gU ls (f + k) = 0 := eU.trans (by simp [*] <;> omega)
                have hd : gD ls (f + k) = 1 := eD.trans (by simp [*] <;> omega)
                have ho : gO ls (f + k) = 0 := eO.trans (by simp [*])
                have HU := Lib.hid (show sumG (gU ls) f (k + 1) = sumG (gU ls) f k + 0 by simp only [sumG]; rw [hu])
                have HD := Lib.hid (show sumG (gD ls) f (k + 1) = sumG (gD ls) f k + 1 by simp only [sumG]; rw [hd])
                have HO := Lib.hid (show sumG (gO ls) f (k + 1) = sumG (gO ls) f k + 0 by simp only [sumG]; rw [ho])
                have CX := Lib.hid cx
                have CY := Lib.hid cy
                clear hu hd ho eU eD eO cx cy
                go_wp2_with fail
                refine (CX.out _ (HX.out.below hb)).mono ?_
                rintro e w2 ⟨rfl, n2, rfl⟩
                have hB2 := below_drewN hb n2
                have s0 : (wr.drewN n2).cell? ⟨w.heap.size, 1, none⟩ = some (.int .i64 t) := z1
                go_wp2_with fail
                refine (CY.out _ (HX.out.below hB2)).mono ?_
                rintro e w3 ⟨rfl, n3, rfl⟩
                have hB3 := below_drewN hB2 n3
                go_wp2
                go_roundw
                case rel => exact ⟨k + 1, by omega, val_int (by omega), val_int (by have := HU.out; omega), val_int (by have := HD.out; omega), val_int (by have := HO.out; omega), by first | exact hblk | exact hblk.drewN _, by first | exact hB3 | exact below_drewN hb _⟩
                case measure => simp [intOf]; omega
              · have hc3 : ¬ p0 < p1 := by omega
                have hc4 : ¬ p1 < p0 := by omega
                have hu : gU ls (f + k) = 0 := eU.trans (by simp [*] <;> omega)
                have hd : gD ls (f + k) = 0 := eD.trans (by simp [*] <;> omega)
                have ho : gO ls (f + k) = 0 := eO.trans (by simp [*])
                have HU := Lib.hid (show sumG (gU ls) f (k + 1) = sumG (gU ls) f k + 0 by simp only [sumG]; rw [hu])
                have HD := Lib.hid (show sumG (gD ls) f (k + 1) = sumG (gD ls) f k + 0 by simp only [sumG]; rw [hd])
                have HO := Lib.hid (show sumG (gO ls) f (k + 1) = sumG (gO ls) f k + 0 by simp only [sumG]; rw [ho])
                have CX := Lib.hid cx
                have CY := Lib.hid cy
                clear hu hd ho eU eD eO cx cy
                go_wp2_with fail
                refine (CX.out _ (HX.out.below hb)).mono ?_
                rintro e w2 ⟨rfl, n2, rfl⟩
                have hB2 := below_drewN hb n2
                have s0 : (wr.drewN n2).cell? ⟨w.heap.size, 1, none⟩ = some (.int .i64 t) := z1
                go_wp2_with fail
                refine (CY.out _ (HX.out.below hB2)).mono ?_
                rintro e w3 ⟨rfl, n3, rfl⟩
                have hB3 := below_drewN hB2 n3
                go_wp2
                go_roundw
                case rel => exact ⟨k + 1, by omega, val_int (by omega), val_int (by have := HU.out; omega), val_int (by have := HD.out; omega), val_int (by have := HO.out; omega), by first | exact hblk | exact hblk.drewN _, by first | exact hB3 | exact below_drewN hb _⟩
                case measure => simp [intOf]; omega
        · have hu : gU ls (f + k) = 0 := eU.trans (by simp [*] <;> omega)
          have hd : gD ls (f + k) = 0 := eD.trans (by simp [*] <;> omega)
          have ho : gO ls (f + k) = 1 := eO.trans (by simp [*])
          have HU := Lib.hid (show sumG (gU ls) f (k + 1) = sumG (gU ls) f k + 0 by simp only [sumG]; rw [hu])
          have HD := Lib.hid (show sumG (gD ls) f (k + 1) = sumG (gD ls) f k + 0 by simp only [sumG]; rw [hd])
          have HO := Lib.hid (show sumG (gO ls) f (k + 1) = sumG (gO ls) f k + 1 by simp only [sumG]; rw [ho])
          have CX := Lib.hid cx
          have CY := Lib.hid cy
          clear hu hd ho eU eD eO cx cy
          go_wp2_with fail
          refine (CX.out _ (HX.out.below hb)).mono ?_
          rintro e w2 ⟨rfl, n2, rfl⟩
          have hB2 := below_drewN hb n2
          have s0 : (wr.drewN n2).cell? ⟨w.heap.size, 1, none⟩ = some (.int .i64 t) := z1
          go_wp2_with fail
          refine (CY.out _ (HX.out.below hB2)).mono ?_
          rintro e w3 ⟨rfl, n3, rfl⟩
          have hB3 := below_drewN hB2 n3
          go_wp2
          go_roundw
          case rel => exact ⟨k + 1, by omega, val_int (by omega), val_int (by have := HU.out; omega), val_int (by have := HD.out; omega), val_int (by have := HO.out; omega), by first | exact hblk | exact hblk.drewN _, by first | exact hB3 | exact below_drewN hb _⟩
          case measure => simp [intOf]; omega
    · obtain rfl : k = (t - f).toNat := by omega
      go_wp2
      go_ret3
      exact ⟨rfl, hb⟩
end Go.Proofs.Ytnlieclfajebbaa

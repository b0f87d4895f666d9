
/-
  What a car does at the ticks of a span, by the statement's own reckoning: hoistwaylaw71.count. Condition: the legs are within bounds, the span has at most 300 ticks.
-/
import Derived.Test.YtnlieclfajebbaaGantt
import Derived.Test.YtnlieclfajebbaaTrackR
set_option linter.unusedVariables false
set_option linter.unusedSimpArgs false
namespace Go.Proofs.Ytnlieclfajebbaa
open Go.Joins Go.ChangeShapes Go.WideShapes Go.ChangeAt Go.RowKit Go.Deep

theorem set3b {w w' : World} {b : Nat} {u1 u2 u3 : Value} (h : Below w.heap.size w w') (hb : w.heap.size ≤ b) : Below w.heap.size w (((w'.setCell ⟨b, 0, none⟩ u1).setCell ⟨b, 1, none⟩ u2).setCell ⟨b, 2, none⟩ u3) :=
  ((h.setCell hb _).setCell hb _).setCell hb _
set_option maxRecDepth 20000 in
set_option maxHeartbeats 8000000 in
theorem law71_count (A : Option Addr) (C : Nat) (ls : List Leg) (f t : Int) (w : World) (hx : Legs w A ls) (hf : fineLs ls) (f0 : -1048576 ≤ f) (f1 : f ≤ 1048576) (t0 : -1048576 ≤ t) (t1 : t ≤ f + 300) :
    Calls Try.prog 24 #[.slice A ls.length C, .agg #[.int .i64 f, .int .i64 t]] w fun e w' => e = .returned (.agg #[.int .i64 (sumG (gU ls) f (t - f).toNat), .int .i64 (sumG (gD ls) f (t - f).toNat), .int .i64 (sumG (gO ls) f (t - f).toNat)]) ∧ Below w.heap.size w w' := by
  have cA := fun u w hx hu => ref25_At A C ls u w hx hf hu
  have CA := Lib.hid cA
  have HX := Lib.hid hx
  clear cA hx hf
  go_enter Try.func24, Try.ntmps24
  go_wp2_with fail
  have hS := ((Blk.new w 23 #[.int .i64 f, .int .i64 t]).alloc (.cells #[.int .i64 0, .int .i64 0, .int .i64 0] 38)).alloc (.cells #[.int .i64 0, .int .i64 0, .int .i64 0] 38)
  have hR := (Blk.new (w.alloc (.cells #[.int .i64 f, .int .i64 t] 23)) 38 #[.int .i64 0, .int .i64 0, .int .i64 0]).alloc (.cells #[.int .i64 0, .int .i64 0, .int .i64 0] 38)
  have hN := Blk.new ((w.alloc (.cells #[.int .i64 f, .int .i64 t] 23)).alloc (.cells #[.int .i64 0, .int .i64 0, .int .i64 0] 38)) 38 #[.int .i64 0, .int .i64 0, .int .i64 0]
  have hB := below_of_alloc (Joins.below_alloc2 w (.cells #[.int .i64 f, .int .i64 t] 23) (.cells #[.int .i64 0, .int .i64 0, .int .i64 0] 38)) (.cells #[.int .i64 0, .int .i64 0, .int .i64 0] 38)
  simp only [alloc_size] at hR hN
  generalize (((w.alloc (.cells #[.int .i64 f, .int .i64 t] 23)).alloc (.cells #[.int .i64 0, .int .i64 0, .int .i64 0] 38)).alloc (.cells #[.int .i64 0, .int .i64 0, .int .i64 0] 38)) = w1 at *
  go_loopw [6] (fun i wr => ∃ k : Nat, k ≤ (t - f).toNat ∧ i = .int .i64 (f + k) ∧ Blk wr w.heap.size 23 #[.int .i64 f, .int .i64 t] ∧ Blk wr (w.heap.size + 1) 38 #[.int .i64 0, .int .i64 0, .int .i64 0] ∧ Blk wr (w.heap.size + 2) 38 #[.int .i64 (sumG (gU ls) f k), .int .i64 (sumG (gD ls) f k), .int .i64 (sumG (gO ls) f k)] ∧ Below w.heap.size w wr) (fun i _ => (t - intOf i).toNat)
  case atStart => exact ⟨0, by omega, val_int (by omega), hS, hR, hN, hB⟩
  case round =>
    obtain ⟨k, hk, rfl, hsp, hre, hnn, hb⟩ := hrel
    have z1 : wr.cell? ⟨w.heap.size, 1, none⟩ = some (.int .i64 t) := hsp.cell 1
    obtain ⟨v0, v1⟩ := sumG_bd (gU_bd ls) f k
    obtain ⟨v2, v3⟩ := sumG_bd (gD_bd ls) f k
    obtain ⟨v4, v5⟩ := sumG_bd (gO_bd ls) f k
    by_cases hkl : f + (k : Int) < t
    · have cx := fun w hx => CA.out (f + k) w hx (by omega)
      have cy := fun w hx => CA.out (f + k - 1) w hx (by omega)
      have eU : gU ls (f + k) = if wayB ls (f + k) = true ∧ wayD ls (f + k) = false ∧ wayB ls (f + k - 1) = true ∧ wayP ls (f + k - 1) < wayP ls (f + k) then 1 else 0 := rfl
      have eD : gD ls (f + k) = if wayB ls (f + k) = true ∧ wayD ls (f + k) = false ∧ wayB ls (f + k - 1) = true ∧ wayP ls (f + k) < wayP ls (f + k - 1) then 1 else 0 := rfl
      have eO : gO ls (f + k) = if wayB ls (f + k) = true ∧ wayD ls (f + k) = true then 1 else 0 := rfl
      generalize wayP ls (f + k) = p1 at *
      generalize wayP ls (f + k - 1) = p0 at *
      generalize wayD ls (f + k) = d1 at *
      generalize wayD ls (f + k - 1) = d0 at *
      generalize wayB ls (f + k) = b1 at *
      generalize wayB ls (f + k - 1) = b0 at *
      rcases b1 with _ | _
      · have hu : gU ls (f + k) = 0 := eU.trans (by simp [*] <;> omega)
        have hd : gD ls (f + k) = 0 := eD.trans (by simp [*] <;> omega)
        have ho : gO ls (f + k) = 0 := eO.trans (by simp [*])
        have HU := Lib.hid (show sumG (gU ls) f (k + 1) = sumG (gU ls) f k + 0 by simp only [sumG]; rw [hu])
        have HD := Lib.hid (show sumG (gD ls) f (k + 1) = sumG (gD ls) f k + 0 by simp only [sumG]; rw [hd])
        have HO := Lib.hid (show sumG (gO ls) f (k + 1) = sumG (gO ls) f k + 0 by simp only [sumG]; rw [ho])
        have CX := Lib.hid cx
        have CY := Lib.hid cy
        clear hu hd ho eU eD eO cx cy
        go_wp2_with fail
        refine (CX.out _ (HX.out.below hb)).mono ?_
        rintro e w2 ⟨rfl, hb2⟩
        have hB2 := hb.trans (hb2.mono hb.size)
        have hs2 := hsp.below hb2 hsp.lt
        have hr2 := hre.below hb2 hre.lt
        have hn2 := hnn.below hb2 hnn.lt
        clear hb2 hsp hre hnn z1
        go_wp2_with fail
        have hx3 := Blk.new w2 102 #[.int .i64 p1, .bool d1]
        have hB3 := below_of_alloc hB2 (.cells #[.int .i64 p1, .bool d1] 102)
        have hs3 := hs2.alloc (.cells #[.int .i64 p1, .bool d1] 102)
        have hr3 := hr2.alloc (.cells #[.int .i64 p1, .bool d1] 102)
        have hn3 := hn2.alloc (.cells #[.int .i64 p1, .bool d1] 102)
        clear hs2 hr2 hn2
        refine (CY.out _ (HX.out.below hB3)).mono ?_
        rintro e w4 ⟨rfl, hb4⟩
        have hB4 := hB3.trans (hb4.mono hB3.size)
        have hx4 := hx3.below hb4 hx3.lt
        have hs4 := hs3.below hb4 hs3.lt
        have hr4 := hr3.below hb4 hr3.lt
        have hn4 := hn3.below hb4 hn3.lt
        have hz4 := hx4.lt
        have hn5 := hn4.alloc (.cells #[.int .i64 p0, .bool d0] 102)
        have hs5 := hs4.alloc (.cells #[.int .i64 p0, .bool d0] 102)
        have hr5 := hr4.alloc (.cells #[.int .i64 p0, .bool d0] 102)
        have hB5 := below_of_alloc hB4 (.cells #[.int .i64 p0, .bool d0] 102)
        have x0 : w4.cell? ⟨w2.heap.size, 0, none⟩ = some (.int .i64 p1) := hx4.cell 0
        have x1 : w4.cell? ⟨w2.heap.size, 1, none⟩ = some (.bool d1) := hx4.cell 1
        have m0 : w4.cell? ⟨w.heap.size + 2, 0, none⟩ = some (.int .i64 (sumG (gU ls) f k)) := hn4.cell 0
        have m1 : w4.cell? ⟨w.heap.size + 2, 1, none⟩ = some (.int .i64 (sumG (gD ls) f k)) := hn4.cell 1
        have m2 : w4.cell? ⟨w.heap.size + 2, 2, none⟩ = some (.int .i64 (sumG (gO ls) f k)) := hn4.cell 2
        have q0 := hn4.free 0
        have q1 := hn4.free 1
        have q2 := hn4.free 2
        have hltn := hn4.lt
        have hne := hn5.lt
        clear hb4 hx3 hs3 hr3 hn3 hx4 hB3 hB2
        go_wp2
        go_roundw
        case rel => exact ⟨k + 1, by omega, val_int (by omega), hs5, hr5, by rw [HU.out, HD.out, HO.out, Int.add_zero, Int.add_zero, Int.add_zero]; exact hn5, hB5⟩
        case measure => simp [intOf]; omega
      · rcases d1 with _ | _
        · rcases b0 with _ | _
          · have hu : gU ls (f + k) = 0 := eU.trans (by simp [*] <;> omega)
            have hd : gD ls (f + k) = 0 := eD.trans (by simp [*] <;> omega)
            have ho : gO ls (f + k) = 0 := eO.trans (by simp [*])
            have HU := Lib.hid (show sumG (gU ls) f (k + 1) = sumG (gU ls) f k + 0 by simp only [sumG]; rw [hu])
            have HD := Lib.hid (show sumG (gD ls) f (k + 1) = sumG (gD ls) f k + 0 by simp only [sumG]; rw [hd])
            have HO := Lib.hid (show sumG (gO ls) f (k + 1) = sumG (gO ls) f k + 0 by simp only [sumG]; rw [ho])
            have CX := Lib.hid cx
            have CY := Lib.hid cy
            clear hu hd ho eU eD eO cx cy
            go_wp2_with fail
            refine (CX.out _ (HX.out.below hb)).mono ?_
            rintro e w2 ⟨rfl, hb2⟩
            have hB2 := hb.trans (hb2.mono hb.size)
            have hs2 := hsp.below hb2 hsp.lt
            have hr2 := hre.below hb2 hre.lt
            have hn2 := hnn.below hb2 hnn.lt
            clear hb2 hsp hre hnn z1
            go_wp2_with fail
            have hx3 := Blk.new w2 102 #[.int .i64 p1, .bool false]
            have hB3 := below_of_alloc hB2 (.cells #[.int .i64 p1, .bool false] 102)
            have hs3 := hs2.alloc (.cells #[.int .i64 p1, .bool false] 102)
            have hr3 := hr2.alloc (.cells #[.int .i64 p1, .bool false] 102)
            have hn3 := hn2.alloc (.cells #[.int .i64 p1, .bool false] 102)
            clear hs2 hr2 hn2
            refine (CY.out _ (HX.out.below hB3)).mono ?_
            rintro e w4 ⟨rfl, hb4⟩
            have hB4 := hB3.trans (hb4.mono hB3.size)
            have hx4 := hx3.below hb4 hx3.lt
            have hs4 := hs3.below hb4 hs3.lt
            have hr4 := hr3.below hb4 hr3.lt
            have hn4 := hn3.below hb4 hn3.lt
            have hz4 := hx4.lt
            have hn5 := hn4.alloc (.cells #[.int .i64 p0, .bool d0] 102)
            have hs5 := hs4.alloc (.cells #[.int .i64 p0, .bool d0] 102)
            have hr5 := hr4.alloc (.cells #[.int .i64 p0, .bool d0] 102)
            have hB5 := below_of_alloc hB4 (.cells #[.int .i64 p0, .bool d0] 102)
            have x0 : w4.cell? ⟨w2.heap.size, 0, none⟩ = some (.int .i64 p1) := hx4.cell 0
            have x1 : w4.cell? ⟨w2.heap.size, 1, none⟩ = some (.bool false) := hx4.cell 1
            have m0 : w4.cell? ⟨w.heap.size + 2, 0, none⟩ = some (.int .i64 (sumG (gU ls) f k)) := hn4.cell 0
            have m1 : w4.cell? ⟨w.heap.size + 2, 1, none⟩ = some (.int .i64 (sumG (gD ls) f k)) := hn4.cell 1
            have m2 : w4.cell? ⟨w.heap.size + 2, 2, none⟩ = some (.int .i64 (sumG (gO ls) f k)) := hn4.cell 2
            have q0 := hn4.free 0
            have q1 := hn4.free 1
            have q2 := hn4.free 2
            have hltn := hn4.lt
            have hne := hn5.lt
            clear hb4 hx3 hs3 hr3 hn3 hx4 hB3 hB2
            go_wp2
            go_roundw
            case rel => exact ⟨k + 1, by omega, val_int (by omega), hs5, hr5, by rw [HU.out, HD.out, HO.out, Int.add_zero, Int.add_zero, Int.add_zero]; exact hn5, hB5⟩
            case measure => simp [intOf]; omega
          · rcases Int.lt_or_le p0 p1 with hc | hc
            · have hu : gU ls (f + k) = 1 := eU.trans (by simp [*] <;> omega)
              have hd : gD ls (f + k) = 0 := eD.trans (by simp [*] <;> omega)
              have ho : gO ls (f + k) = 0 := eO.trans (by simp [*])
              have HU := Lib.hid (show sumG (gU ls) f (k + 1) = sumG (gU ls) f k + 1 by simp only [sumG]; rw [hu])
              have HD := Lib.hid (show sumG (gD ls) f (k + 1) = sumG (gD ls) f k + 0 by simp only [sumG]; rw [hd])
              have HO := Lib.hid (show sumG (gO ls) f (k + 1) = sumG (gO ls) f k + 0 by simp only [sumG]; rw [ho])
              have CX := Lib.hid cx
              have CY := Lib.hid cy
              clear hu hd ho eU eD eO cx cy
              go_wp2_with fail
              refine (CX.out _ (HX.out.below hb)).mono ?_
              rintro e w2 ⟨rfl, hb2⟩
              have hB2 := hb.trans (hb2.mono hb.size)
              have hs2 := hsp.below hb2 hsp.lt
              have hr2 := hre.below hb2 hre.lt
              have hn2 := hnn.below hb2 hnn.lt
              clear hb2 hsp hre hnn z1
              go_wp2_with fail
              have hx3 := Blk.new w2 102 #[.int .i64 p1, .bool false]
              have hB3 := below_of_alloc hB2 (.cells #[.int .i64 p1, .bool false] 102)
              have hs3 := hs2.alloc (.cells #[.int .i64 p1, .bool false] 102)
              have hr3 := hr2.alloc (.cells #[.int .i64 p1, .bool false] 102)
              have hn3 := hn2.alloc (.cells #[.int .i64 p1, .bool false] 102)
              clear hs2 hr2 hn2
              refine (CY.out _ (HX.out.below hB3)).mono ?_
              rintro e w4 ⟨rfl, hb4⟩
              have hB4 := hB3.trans (hb4.mono hB3.size)
              have hx4 := hx3.below hb4 hx3.lt
              have hs4 := hs3.below hb4 hs3.lt
              have hr4 := hr3.below hb4 hr3.lt
              have hn4 := hn3.below hb4 hn3.lt
              have hz4 := hx4.lt
              have hn5 := hn4.alloc (.cells #[.int .i64 p0, .bool d0] 102)
              have hs5 := hs4.alloc (.cells #[.int .i64 p0, .bool d0] 102)
              have hr5 := hr4.alloc (.cells #[.int .i64 p0, .bool d0] 102)
              have hB5 := below_of_alloc hB4 (.cells #[.int .i64 p0, .bool d0] 102)
              have x0 : w4.cell? ⟨w2.heap.size, 0, none⟩ = some (.int .i64 p1) := hx4.cell 0
              have x1 : w4.cell? ⟨w2.heap.size, 1, none⟩ = some (.bool false) := hx4.cell 1
              have m0 : w4.cell? ⟨w.heap.size + 2, 0, none⟩ = some (.int .i64 (sumG (gU ls) f k)) := hn4.cell 0
              have m1 : w4.cell? ⟨w.heap.size + 2, 1, none⟩ = some (.int .i64 (sumG (gD ls) f k)) := hn4.cell 1
              have m2 : w4.cell? ⟨w.heap.size + 2, 2, none⟩ = some (.int .i64 (sumG (gO ls) f k)) := hn4.cell 2
              have q0 := hn4.free 0
              have q1 := hn4.free 1
              have q2 := hn4.free 2
              have hltn := hn4.lt
              have hne := hn5.lt
              clear hb4 hx3 hs3 hr3 hn3 hx4 hB3 hB2
              go_wp2
              go_roundw
              case rel => exact ⟨k + 1, by omega, val_int (by omega), (hs4.far (p := ⟨w.heap.size + 1 + 1, 0, none⟩) (by show w.heap.size ≠ w.heap.size + 1 + 1; omega) _).alloc _, (hr4.far (p := ⟨w.heap.size + 1 + 1, 0, none⟩) (by show w.heap.size + 1 ≠ w.heap.size + 1 + 1; omega) _).alloc _, by rw [HU.out, HD.out, HO.out, Int.add_zero, Int.add_zero]; exact (hn4.set_ 0 _).alloc _, below_of_alloc (hB4.setCell (p := ⟨w.heap.size + 1 + 1, 0, none⟩) (by show w.heap.size ≤ w.heap.size + 1 + 1; omega) _) _⟩
              case measure => simp [intOf]; omega
            · rcases Int.lt_or_le p1 p0 with hc2 | hc2
              · have hc3 : ¬ p0 < p1 := by omega
                have hu : gU ls (f + k) = 0 := eU.trans (by simp [*] <;> omega)
                have hd : gD ls (f + k) = 1 := eD.trans (by simp [*] <;> omega)
                have ho : gO ls (f + k) = 0 := eO.trans (by simp [*])
                have HU := Lib.hid (show sumG (gU ls) f (k + 1) = sumG (gU ls) f k + 0 by simp only [sumG]; rw [hu])
                have HD := Lib.hid (show sumG (gD ls) f (k + 1) = sumG (gD ls) f k + 1 by simp only [sumG]; rw [hd])
                have HO := Lib.hid (show sumG (gO ls) f (k + 1) = sumG (gO ls) f k + 0 by simp only [sumG]; rw [ho])
                have CX := Lib.hid cx
                have CY := Lib.hid cy
                clear hu hd ho eU eD eO cx cy
                go_wp2_with fail
                refine (CX.out _ (HX.out.below hb)).mono ?_
                rintro e w2 ⟨rfl, hb2⟩
                have hB2 := hb.trans (hb2.mono hb.size)
                have hs2 := hsp.below hb2 hsp.lt
                have hr2 := hre.below hb2 hre.lt
                have hn2 := hnn.below hb2 hnn.lt
                clear hb2 hsp hre hnn z1
                go_wp2_with fail
                have hx3 := Blk.new w2 102 #[.int .i64 p1, .bool false]
                have hB3 := below_of_alloc hB2 (.cells #[.int .i64 p1, .bool false] 102)
                have hs3 := hs2.alloc (.cells #[.int .i64 p1, .bool false] 102)
                have hr3 := hr2.alloc (.cells #[.int .i64 p1, .bool false] 102)
                have hn3 := hn2.alloc (.cells #[.int .i64 p1, .bool false] 102)
                clear hs2 hr2 hn2
                refine (CY.out _ (HX.out.below hB3)).mono ?_
                rintro e w4 ⟨rfl, hb4⟩
                have hB4 := hB3.trans (hb4.mono hB3.size)
                have hx4 := hx3.below hb4 hx3.lt
                have hs4 := hs3.below hb4 hs3.lt
                have hr4 := hr3.below hb4 hr3.lt
                have hn4 := hn3.below hb4 hn3.lt
                have hz4 := hx4.lt
                have hn5 := hn4.alloc (.cells #[.int .i64 p0, .bool d0] 102)
                have hs5 := hs4.alloc (.cells #[.int .i64 p0, .bool d0] 102)
                have hr5 := hr4.alloc (.cells #[.int .i64 p0, .bool d0] 102)
                have hB5 := below_of_alloc hB4 (.cells #[.int .i64 p0, .bool d0] 102)
                have x0 : w4.cell? ⟨w2.heap.size, 0, none⟩ = some (.int .i64 p1) := hx4.cell 0
                have x1 : w4.cell? ⟨w2.heap.size, 1, none⟩ = some (.bool false) := hx4.cell 1
                have m0 : w4.cell? ⟨w.heap.size + 2, 0, none⟩ = some (.int .i64 (sumG (gU ls) f k)) := hn4.cell 0
                have m1 : w4.cell? ⟨w.heap.size + 2, 1, none⟩ = some (.int .i64 (sumG (gD ls) f k)) := hn4.cell 1
                have m2 : w4.cell? ⟨w.heap.size + 2, 2, none⟩ = some (.int .i64 (sumG (gO ls) f k)) := hn4.cell 2
                have q0 := hn4.free 0
                have q1 := hn4.free 1
                have q2 := hn4.free 2
                have hltn := hn4.lt
                have hne := hn5.lt
                clear hb4 hx3 hs3 hr3 hn3 hx4 hB3 hB2
                go_wp2
                go_roundw
                case rel => exact ⟨k + 1, by omega, val_int (by omega), (hs4.far (p := ⟨w.heap.size + 1 + 1, 1, none⟩) (by show w.heap.size ≠ w.heap.size + 1 + 1; omega) _).alloc _, (hr4.far (p := ⟨w.heap.size + 1 + 1, 1, none⟩) (by show w.heap.size + 1 ≠ w.heap.size + 1 + 1; omega) _).alloc _, by rw [HU.out, HD.out, HO.out, Int.add_zero, Int.add_zero]; exact (hn4.set_ 1 _).alloc _, below_of_alloc (hB4.setCell (p := ⟨w.heap.size + 1 + 1, 1, none⟩) (by show w.heap.size ≤ w.heap.size + 1 + 1; omega) _) _⟩
                case measure => simp [intOf]; omega
              · have hc3 : ¬ p0 < p1 := by omega
                have hc4 : ¬ p1 < p0 := by omega
                have hu : gU ls (f + k) = 0 := eU.trans (by simp [*] <;> omega)
                have hd : gD ls (f + k) = 0 := eD.trans (by simp [*] <;> omega)
                have ho : gO ls (f + k) = 0 := eO.trans (by simp [*])
                have HU := Lib.hid (show sumG (gU ls) f (k + 1) = sumG (gU ls) f k + 0 by simp only [sumG]; rw [hu])
                have HD := Lib.hid (show sumG (gD ls) f (k + 1) = sumG (gD ls) f k + 0 by simp only [sumG]; rw [hd])
                have HO := Lib.hid (show sumG (gO ls) f (k + 1) = sumG (gO ls) f k + 0 by simp only [sumG]; rw [ho])
                have CX := Lib.hid cx
                have CY := Lib.hid cy
                clear hu hd ho eU eD eO cx cy
                go_wp2_with fail
                refine (CX.out _ (HX.out.below hb)).mono ?_
                rintro e w2 ⟨rfl, hb2⟩
                have hB2 := hb.trans (hb2.mono hb.size)
                have hs2 := hsp.below hb2 hsp.lt
                have hr2 := hre.below hb2 hre.lt
                have hn2 := hnn.below hb2 hnn.lt
                clear hb2 hsp hre hnn z1
                go_wp2_with fail
                have hx3 := Blk.new w2 102 #[.int .i64 p1, .bool false]
                have hB3 := below_of_alloc hB2 (.cells #[.int .i64 p1, .bool false] 102)
                have hs3 := hs2.alloc (.cells #[.int .i64 p1, .bool false] 102)
                have hr3 := hr2.alloc (.cells #[.int .i64 p1, .bool false] 102)
                have hn3 := hn2.alloc (.cells #[.int .i64 p1, .bool false] 102)
                clear hs2 hr2 hn2
                refine (CY.out _ (HX.out.below hB3)).mono ?_
                rintro e w4 ⟨rfl, hb4⟩
                have hB4 := hB3.trans (hb4.mono hB3.size)
                have hx4 := hx3.below hb4 hx3.lt
                have hs4 := hs3.below hb4 hs3.lt
                have hr4 := hr3.below hb4 hr3.lt
                have hn4 := hn3.below hb4 hn3.lt
                have hz4 := hx4.lt
                have hn5 := hn4.alloc (.cells #[.int .i64 p0, .bool d0] 102)
                have hs5 := hs4.alloc (.cells #[.int .i64 p0, .bool d0] 102)
                have hr5 := hr4.alloc (.cells #[.int .i64 p0, .bool d0] 102)
                have hB5 := below_of_alloc hB4 (.cells #[.int .i64 p0, .bool d0] 102)
                have x0 : w4.cell? ⟨w2.heap.size, 0, none⟩ = some (.int .i64 p1) := hx4.cell 0
                have x1 : w4.cell? ⟨w2.heap.size, 1, none⟩ = some (.bool false) := hx4.cell 1
                have m0 : w4.cell? ⟨w.heap.size + 2, 0, none⟩ = some (.int .i64 (sumG (gU ls) f k)) := hn4.cell 0
                have m1 : w4.cell? ⟨w.heap.size + 2, 1, none⟩ = some (.int .i64 (sumG (gD ls) f k)) := hn4.cell 1
                have m2 : w4.cell? ⟨w.heap.size + 2, 2, none⟩ = some (.int .i64 (sumG (gO ls) f k)) := hn4.cell 2
                have q0 := hn4.free 0
                have q1 := hn4.free 1
                have q2 := hn4.free 2
                have hltn := hn4.lt
                have hne := hn5.lt
                clear hb4 hx3 hs3 hr3 hn3 hx4 hB3 hB2
                go_wp2
                go_roundw
                case rel => exact ⟨k + 1, by omega, val_int (by omega), hs5, hr5, by rw [HU.out, HD.out, HO.out, Int.add_zero, Int.add_zero, Int.add_zero]; exact hn5, hB5⟩
                case measure => simp [intOf]; omega
        · have hu : gU ls (f + k) = 0 := eU.trans (by simp [*] <;> omega)
          have hd : gD ls (f + k) = 0 := eD.trans (by simp [*] <;> omega)
          have ho : gO ls (f + k) = 1 := eO.trans (by simp [*])
          have HU := Lib.hid (show sumG (gU ls) f (k + 1) = sumG (gU ls) f k + 0 by simp only [sumG]; rw [hu])
          have HD := Lib.hid (show sumG (gD ls) f (k + 1) = sumG (gD ls) f k + 0 by simp only [sumG]; rw [hd])
          have HO := Lib.hid (show sumG (gO ls) f (k + 1) = sumG (gO ls) f k + 1 by simp only [sumG]; rw [ho])
          have CX := Lib.hid cx
          have CY := Lib.hid cy
          clear hu hd ho eU eD eO cx cy
          go_wp2_with fail
          refine (CX.out _ (HX.out.below hb)).mono ?_
          rintro e w2 ⟨rfl, hb2⟩
          have hB2 := hb.trans (hb2.mono hb.size)
          have hs2 := hsp.below hb2 hsp.lt
          have hr2 := hre.below hb2 hre.lt
          have hn2 := hnn.below hb2 hnn.lt
          clear hb2 hsp hre hnn z1
          go_wp2_with fail
          have hx3 := Blk.new w2 102 #[.int .i64 p1, .bool true]
          have hB3 := below_of_alloc hB2 (.cells #[.int .i64 p1, .bool true] 102)
          have hs3 := hs2.alloc (.cells #[.int .i64 p1, .bool true] 102)
          have hr3 := hr2.alloc (.cells #[.int .i64 p1, .bool true] 102)
          have hn3 := hn2.alloc (.cells #[.int .i64 p1, .bool true] 102)
          clear hs2 hr2 hn2
          refine (CY.out _ (HX.out.below hB3)).mono ?_
          rintro e w4 ⟨rfl, hb4⟩
          have hB4 := hB3.trans (hb4.mono hB3.size)
          have hx4 := hx3.below hb4 hx3.lt
          have hs4 := hs3.below hb4 hs3.lt
          have hr4 := hr3.below hb4 hr3.lt
          have hn4 := hn3.below hb4 hn3.lt
          have hz4 := hx4.lt
          have hn5 := hn4.alloc (.cells #[.int .i64 p0, .bool d0] 102)
          have hs5 := hs4.alloc (.cells #[.int .i64 p0, .bool d0] 102)
          have hr5 := hr4.alloc (.cells #[.int .i64 p0, .bool d0] 102)
          have hB5 := below_of_alloc hB4 (.cells #[.int .i64 p0, .bool d0] 102)
          have x0 : w4.cell? ⟨w2.heap.size, 0, none⟩ = some (.int .i64 p1) := hx4.cell 0
          have x1 : w4.cell? ⟨w2.heap.size, 1, none⟩ = some (.bool true) := hx4.cell 1
          have m0 : w4.cell? ⟨w.heap.size + 2, 0, none⟩ = some (.int .i64 (sumG (gU ls) f k)) := hn4.cell 0
          have m1 : w4.cell? ⟨w.heap.size + 2, 1, none⟩ = some (.int .i64 (sumG (gD ls) f k)) := hn4.cell 1
          have m2 : w4.cell? ⟨w.heap.size + 2, 2, none⟩ = some (.int .i64 (sumG (gO ls) f k)) := hn4.cell 2
          have q0 := hn4.free 0
          have q1 := hn4.free 1
          have q2 := hn4.free 2
          have hltn := hn4.lt
          have hne := hn5.lt
          clear hb4 hx3 hs3 hr3 hn3 hx4 hB3 hB2
          go_wp2
          go_roundw
          case rel => exact ⟨k + 1, by omega, val_int (by omega), (hs4.far (p := ⟨w.heap.size + 1 + 1, 2, none⟩) (by show w.heap.size ≠ w.heap.size + 1 + 1; omega) _).alloc _, (hr4.far (p := ⟨w.heap.size + 1 + 1, 2, none⟩) (by show w.heap.size + 1 ≠ w.heap.size + 1 + 1; omega) _).alloc _, by rw [HU.out, HD.out, HO.out, Int.add_zero, Int.add_zero]; exact (hn4.set_ 2 _).alloc _, below_of_alloc (hB4.setCell (p := ⟨w.heap.size + 1 + 1, 2, none⟩) (by show w.heap.size ≤ w.heap.size + 1 + 1; omega) _) _⟩
          case measure => simp [intOf]; omega
    · obtain rfl : k = (t - f).toNat := by omega
      have n0 : wr.cell? ⟨w.heap.size + 2, 0, none⟩ = some (.int .i64 (sumG (gU ls) f (t - f).toNat)) := hnn.cell 0
      have n1 : wr.cell? ⟨w.heap.size + 2, 1, none⟩ = some (.int .i64 (sumG (gD ls) f (t - f).toNat)) := hnn.cell 1
      have n2 : wr.cell? ⟨w.heap.size + 2, 2, none⟩ = some (.int .i64 (sumG (gO ls) f (t - f).toNat)) := hnn.cell 2
      have d0 : wr.cell? ⟨w.heap.size + 1, 0, none⟩ = some (.int .i64 0) := hre.cell 0
      have d1 : wr.cell? ⟨w.heap.size + 1, 1, none⟩ = some (.int .i64 0) := hre.cell 1
      have d2 : wr.cell? ⟨w.heap.size + 1, 2, none⟩ = some (.int .i64 0) := hre.cell 2
      have g0 := hre.free 0
      have g1 := hre.free 1
      have g2 := hre.free 2
      clear hnn hre hsp
      go_wp2
      refine bodyPost_ret (v := .agg #[.int .i64 (sumG (gU ls) f (t - f).toNat), .int .i64 (sumG (gD ls) f (t - f).toNat), .int .i64 (sumG (gO ls) f (t - f).toNat)]) (by simp [results, Try.results24, go_sem, d0, d1, d2]) rfl ?_
      exact ⟨rfl, set3b hb (by omega)⟩
end Go.Proofs.Ytnlieclfajebbaa

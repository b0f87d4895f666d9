/-
  The statement DiffWays, walked.
-/
import Derived.Test.YtfpmdldngnopjaaWays
import Derived.Test.YtfpmdldngnopjaaTrackR
import Derived.Test.YtfpmdldngnopjaaGreat25
import Derived.Test.YtfpmdldngnopjaaAlive38
import Derived.Test.YtfpmdldngnopjaaArgA
set_option linter.unusedVariables false
set_option linter.unusedSimpArgs false
namespace Go.Proofs.Ytfpmdldngnopjaa
open Go.Joins Go.ChangeShapes Go.WideShapes Go.ChangeAt Go.RowKit Go.Deep

theorem val_bool {a b : Bool} (h : a = b) : Value.bool a = .bool b := by rw [h]
theorem run_tick (a b : Int) (c d : Bool) (w : World) : (Op.equalIn 10000 90 (.agg #[.int .i64 a, .bool c]) (.agg #[.int .i64 b, .bool d])).run Try.prog w = .ok ((a == b) && (c == d)) w := by
  cases c <;> cases d
  all_goals
    simp [go_sem]
    try (by_cases h : a = b <;> simp [h])
set_option maxRecDepth 20000 in
set_option maxHeartbeats 8000000 in
theorem ways_1 (A B : Option Addr) (C D : Nat) (xs ys : List Leg) (h : Int) (w : World) (hx : Legs w A xs) (hy : Legs w B ys) :
    Calls Try.prog 14 #[.slice A xs.length C, .slice B ys.length D, .int .i64 h] w fun e w' => e = .returned (.bool true) ∧ Below w.heap.size w w' := by
  have cG := great25 A C xs w hx
  have CG := Lib.hid cG
  have HX := Lib.hid hx
  have HY := Lib.hid hy
  clear hx hy cG
  go_enter Try.func14, Try.ntmps14
  go_wp2_with fail
  refine CG.out.mono ?_
  rintro e w1 ⟨g1, rfl, hf, hb1⟩
  cases g1
  · have hf := hf rfl
    have HF := Lib.hid hf
    have cG2 := great25 B D ys w1 (HY.out.below hb1)
    have CG2 := Lib.hid cG2
    clear hf CG cG2
    go_wp2_with fail
    refine CG2.out.mono ?_
    rintro e w2 ⟨g2, rfl, hg, hb2⟩
    have hB2 : Below w.heap.size w w2 := hb1.trans (hb2.mono hb1.size)
    clear hb1 hb2 CG2
    cases g2
    · have hg := hg rfl
      have HG := Lib.hid hg
      clear hg
      by_cases h300 : 300 < h
      · go_wp2
        go_ret
        exact ⟨rfl, hB2⟩
      · have hh3 : h ≤ 300 := by omega
        have cW := fun w hx hy => diff_Ways A B C D xs ys h w hx hy HF.out HG.out hh3
        have CW := Lib.hid cW
        clear cW
        rcases Int.lt_or_le 0 h with hpos | hneg
        · have cX := fun t w hx ht => ref25_At A C xs t w hx HF.out ht
          have cY := fun t w hy ht => ref25_At B D ys t w hy HG.out ht
          have CX := Lib.hid cX
          have CY := Lib.hid cY
          clear cX cY h300
          go_wp2
          go_loopw [7, 8, 9] (fun u v i wr => ∃ d : Nat, d ≤ h.toNat ∧ i = .int .i64 (h - 1 - d) ∧ u = .int .i64 (scanI (waysB xs ys) h.toNat d) ∧ v = .bool (scanB (waysB xs ys) h.toNat d) ∧ Below w.heap.size w wr) (fun _ _ i _ => (intOf i + 1).toNat)
          case atStart => exact ⟨0, by omega, val_int (by omega), rfl, rfl, hB2⟩
          case round =>
            obtain ⟨d, hd, rfl, rfl, rfl, hbw⟩ := hrel
            by_cases hdl : d < h.toNat
            · have hti : h - 1 - (d : Int) = ((h.toNat - 1 - d : Nat) : Int) := by omega
              have cxk := fun w hx => CX.out (h - 1 - d) w hx (by omega)
              have cyk := fun w hy => CY.out (h - 1 - d) w hy (by omega)
              have hpk : waysB xs ys (h.toNat - 1 - d) = (wayP xs (h - 1 - d) != wayP ys (h - 1 - d) || wayD xs (h - 1 - d) != wayD ys (h - 1 - d) || wayB xs (h - 1 - d) != wayB ys (h - 1 - d)) := by rw [hti]; rfl
              have hdi : (0 : Int) ≤ h - 1 - d := by omega
              clear hti
              generalize wayP xs (h - 1 - d) = p1 at *
              generalize wayP ys (h - 1 - d) = p2 at *
              generalize wayD xs (h - 1 - d) = d1 at *
              generalize wayD ys (h - 1 - d) = d2 at *
              generalize wayB xs (h - 1 - d) = b1 at *
              generalize wayB ys (h - 1 - d) = b2 at *
              by_cases hp : p1 = p2
              · subst hp
                rcases d1 with _ | _ <;> rcases d2 with _ | _
                · rcases b1 with _ | _ <;> rcases b2 with _ | _
                  · have CXK := Lib.hid cxk
                    have CYK := Lib.hid cyk
                    have hpk2 : waysB xs ys (h.toNat - 1 - d) = false := hpk.trans (by simp)
                    have RI := Lib.hid (show scanI (waysB xs ys) h.toNat (d + 1) = scanI (waysB xs ys) h.toNat d by simp only [scanI]; rw [hpk2]; simp)
                    have RB := Lib.hid (show scanB (waysB xs ys) h.toNat (d + 1) = scanB (waysB xs ys) h.toNat d by simp only [scanB]; rw [hpk2]; simp)
                    clear cxk cyk hpk hpk2
                    go_wp2_with fail
                    refine (CXK.out _ (HX.out.below hbw)).mono ?_
                    rintro e w2 ⟨rfl, hb2⟩
                    have hB2 : Below w.heap.size w w2 := hbw.trans (hb2.mono hbw.size)
                    clear hb2
                    go_wp2_with fail
                    have hbx := below_of_alloc hB2 (.cells #[.int .i64 p1, .bool false] 90)
                    refine (CYK.out _ (HY.out.below hbx)).mono ?_
                    rintro e w3 ⟨rfl, hb3⟩
                    have hB3 : Below w.heap.size w w3 := hbx.trans (hb3.mono hbx.size)
                    obtain ⟨hc3, hf3⟩ := bcell hb3
                    have hz3 := hb3.size
                    simp only [alloc_size] at hc3 hf3 hz3
                    have c0 : w3.cell? ⟨w2.heap.size, 0, none⟩ = some (.int .i64 p1) := by rw [hc3 _ _ (by omega)]; exact (Blk.new w2 _ _).cell 0
                    have c1 : w3.cell? ⟨w2.heap.size, 1, none⟩ = some (.bool false) := by rw [hc3 _ _ (by omega)]; exact (Blk.new w2 _ _).cell 1
                    have hlt3 : w2.heap.size < w3.heap.size := by omega
                    have hby := below_of_alloc hB3 (.cells #[.int .i64 p1, .bool false] 90)
                    have hq := fun w => run_tick p1 p1 false false w
                    clear hb3 hc3 hf3 hbx
                    simp only [beq_self_eq_true, Bool.true_and, Bool.and_true, Bool.and_false, beq_iff_eq] at hq
                    go_wp2
                    clear hq
                    go_roundw
                    case rel => exact ⟨d + 1, by omega, val_int (by omega), val_int (by have h2 := RI.out; omega), val_bool (by rw [RB.out]), hby⟩
                    case measure => simp [intOf]; omega
                  · have CXK := Lib.hid cxk
                    have CYK := Lib.hid cyk
                    have hpk2 : waysB xs ys (h.toNat - 1 - d) = true := hpk.trans (by simp)
                    have RI := Lib.hid (show scanI (waysB xs ys) h.toNat (d + 1) = ((h.toNat - 1 - d : Nat) : Int) by simp only [scanI]; rw [hpk2]; simp)
                    have RB := Lib.hid (show scanB (waysB xs ys) h.toNat (d + 1) = true by simp only [scanB]; rw [hpk2]; simp)
                    clear cxk cyk hpk hpk2
                    go_wp2_with fail
                    refine (CXK.out _ (HX.out.below hbw)).mono ?_
                    rintro e w2 ⟨rfl, hb2⟩
                    have hB2 : Below w.heap.size w w2 := hbw.trans (hb2.mono hbw.size)
                    clear hb2
                    go_wp2_with fail
                    have hbx := below_of_alloc hB2 (.cells #[.int .i64 p1, .bool false] 90)
                    refine (CYK.out _ (HY.out.below hbx)).mono ?_
                    rintro e w3 ⟨rfl, hb3⟩
                    have hB3 : Below w.heap.size w w3 := hbx.trans (hb3.mono hbx.size)
                    obtain ⟨hc3, hf3⟩ := bcell hb3
                    have hz3 := hb3.size
                    simp only [alloc_size] at hc3 hf3 hz3
                    have c0 : w3.cell? ⟨w2.heap.size, 0, none⟩ = some (.int .i64 p1) := by rw [hc3 _ _ (by omega)]; exact (Blk.new w2 _ _).cell 0
                    have c1 : w3.cell? ⟨w2.heap.size, 1, none⟩ = some (.bool false) := by rw [hc3 _ _ (by omega)]; exact (Blk.new w2 _ _).cell 1
                    have hlt3 : w2.heap.size < w3.heap.size := by omega
                    have hby := below_of_alloc hB3 (.cells #[.int .i64 p1, .bool false] 90)
                    have hq := fun w => run_tick p1 p1 false false w
                    clear hb3 hc3 hf3 hbx
                    simp only [beq_self_eq_true, Bool.true_and, Bool.and_true, Bool.and_false, beq_iff_eq] at hq
                    go_wp2
                    clear hq
                    go_roundw
                    case rel => exact ⟨d + 1, by omega, val_int (by omega), val_int (by have h2 := RI.out; omega), val_bool (by rw [RB.out]), hby⟩
                    case measure => simp [intOf]; omega
                  · have CXK := Lib.hid cxk
                    have CYK := Lib.hid cyk
                    have hpk2 : waysB xs ys (h.toNat - 1 - d) = true := hpk.trans (by simp)
                    have RI := Lib.hid (show scanI (waysB xs ys) h.toNat (d + 1) = ((h.toNat - 1 - d : Nat) : Int) by simp only [scanI]; rw [hpk2]; simp)
                    have RB := Lib.hid (show scanB (waysB xs ys) h.toNat (d + 1) = true by simp only [scanB]; rw [hpk2]; simp)
                    clear cxk cyk hpk hpk2
                    go_wp2_with fail
                    refine (CXK.out _ (HX.out.below hbw)).mono ?_
                    rintro e w2 ⟨rfl, hb2⟩
                    have hB2 : Below w.heap.size w w2 := hbw.trans (hb2.mono hbw.size)
                    clear hb2
                    go_wp2_with fail
                    have hbx := below_of_alloc hB2 (.cells #[.int .i64 p1, .bool false] 90)
                    refine (CYK.out _ (HY.out.below hbx)).mono ?_
                    rintro e w3 ⟨rfl, hb3⟩
                    have hB3 : Below w.heap.size w w3 := hbx.trans (hb3.mono hbx.size)
                    obtain ⟨hc3, hf3⟩ := bcell hb3
                    have hz3 := hb3.size
                    simp only [alloc_size] at hc3 hf3 hz3
                    have c0 : w3.cell? ⟨w2.heap.size, 0, none⟩ = some (.int .i64 p1) := by rw [hc3 _ _ (by omega)]; exact (Blk.new w2 _ _).cell 0
                    have c1 : w3.cell? ⟨w2.heap.size, 1, none⟩ = some (.bool false) := by rw [hc3 _ _ (by omega)]; exact (Blk.new w2 _ _).cell 1
                    have hlt3 : w2.heap.size < w3.heap.size := by omega
                    have hby := below_of_alloc hB3 (.cells #[.int .i64 p1, .bool false] 90)
                    have hq := fun w => run_tick p1 p1 false false w
                    clear hb3 hc3 hf3 hbx
                    simp only [beq_self_eq_true, Bool.true_and, Bool.and_true, Bool.and_false, beq_iff_eq] at hq
                    go_wp2
                    clear hq
                    go_roundw
                    case rel => exact ⟨d + 1, by omega, val_int (by omega), val_int (by have h2 := RI.out; omega), val_bool (by rw [RB.out]), hby⟩
                    case measure => simp [intOf]; omega
                  · have CXK := Lib.hid cxk
                    have CYK := Lib.hid cyk
                    have hpk2 : waysB xs ys (h.toNat - 1 - d) = false := hpk.trans (by simp)
                    have RI := Lib.hid (show scanI (waysB xs ys) h.toNat (d + 1) = scanI (waysB xs ys) h.toNat d by simp only [scanI]; rw [hpk2]; simp)
                    have RB := Lib.hid (show scanB (waysB xs ys) h.toNat (d + 1) = scanB (waysB xs ys) h.toNat d by simp only [scanB]; rw [hpk2]; simp)
                    clear cxk cyk hpk hpk2
                    go_wp2_with fail
                    refine (CXK.out _ (HX.out.below hbw)).mono ?_
                    rintro e w2 ⟨rfl, hb2⟩
                    have hB2 : Below w.heap.size w w2 := hbw.trans (hb2.mono hbw.size)
                    clear hb2
                    go_wp2_with fail
                    have hbx := below_of_alloc hB2 (.cells #[.int .i64 p1, .bool false] 90)
                    refine (CYK.out _ (HY.out.below hbx)).mono ?_
                    rintro e w3 ⟨rfl, hb3⟩
                    have hB3 : Below w.heap.size w w3 := hbx.trans (hb3.mono hbx.size)
                    obtain ⟨hc3, hf3⟩ := bcell hb3
                    have hz3 := hb3.size
                    simp only [alloc_size] at hc3 hf3 hz3
                    have c0 : w3.cell? ⟨w2.heap.size, 0, none⟩ = some (.int .i64 p1) := by rw [hc3 _ _ (by omega)]; exact (Blk.new w2 _ _).cell 0
                    have c1 : w3.cell? ⟨w2.heap.size, 1, none⟩ = some (.bool false) := by rw [hc3 _ _ (by omega)]; exact (Blk.new w2 _ _).cell 1
                    have hlt3 : w2.heap.size < w3.heap.size := by omega
                    have hby := below_of_alloc hB3 (.cells #[.int .i64 p1, .bool false] 90)
                    have hq := fun w => run_tick p1 p1 false false w
                    clear hb3 hc3 hf3 hbx
                    simp only [beq_self_eq_true, Bool.true_and, Bool.and_true, Bool.and_false, beq_iff_eq] at hq
                    go_wp2
                    clear hq
                    go_roundw
                    case rel => exact ⟨d + 1, by omega, val_int (by omega), val_int (by have h2 := RI.out; omega), val_bool (by rw [RB.out]), hby⟩
                    case measure => simp [intOf]; omega
                · have CXK := Lib.hid cxk
                  have CYK := Lib.hid cyk
                  have hpk2 : waysB xs ys (h.toNat - 1 - d) = true := hpk.trans (by simp)
                  have RI := Lib.hid (show scanI (waysB xs ys) h.toNat (d + 1) = ((h.toNat - 1 - d : Nat) : Int) by simp only [scanI]; rw [hpk2]; simp)
                  have RB := Lib.hid (show scanB (waysB xs ys) h.toNat (d + 1) = true by simp only [scanB]; rw [hpk2]; simp)
                  clear cxk cyk hpk hpk2
                  go_wp2_with fail
                  refine (CXK.out _ (HX.out.below hbw)).mono ?_
                  rintro e w2 ⟨rfl, hb2⟩
                  have hB2 : Below w.heap.size w w2 := hbw.trans (hb2.mono hbw.size)
                  clear hb2
                  go_wp2_with fail
                  have hbx := below_of_alloc hB2 (.cells #[.int .i64 p1, .bool false] 90)
                  refine (CYK.out _ (HY.out.below hbx)).mono ?_
                  rintro e w3 ⟨rfl, hb3⟩
                  have hB3 : Below w.heap.size w w3 := hbx.trans (hb3.mono hbx.size)
                  obtain ⟨hc3, hf3⟩ := bcell hb3
                  have hz3 := hb3.size
                  simp only [alloc_size] at hc3 hf3 hz3
                  have c0 : w3.cell? ⟨w2.heap.size, 0, none⟩ = some (.int .i64 p1) := by rw [hc3 _ _ (by omega)]; exact (Blk.new w2 _ _).cell 0
                  have c1 : w3.cell? ⟨w2.heap.size, 1, none⟩ = some (.bool false) := by rw [hc3 _ _ (by omega)]; exact (Blk.new w2 _ _).cell 1
                  have hlt3 : w2.heap.size < w3.heap.size := by omega
                  have hby := below_of_alloc hB3 (.cells #[.int .i64 p1, .bool true] 90)
                  have hq := fun w => run_tick p1 p1 false true w
                  clear hb3 hc3 hf3 hbx
                  simp only [beq_self_eq_true, Bool.true_and, Bool.and_true, Bool.and_false, beq_iff_eq] at hq
                  go_wp2
                  clear hq
                  go_roundw
                  case rel => exact ⟨d + 1, by omega, val_int (by omega), val_int (by have h2 := RI.out; omega), val_bool (by rw [RB.out]), hby⟩
                  case measure => simp [intOf]; omega
                · have CXK := Lib.hid cxk
                  have CYK := Lib.hid cyk
                  have hpk2 : waysB xs ys (h.toNat - 1 - d) = true := hpk.trans (by simp)
                  have RI := Lib.hid (show scanI (waysB xs ys) h.toNat (d + 1) = ((h.toNat - 1 - d : Nat) : Int) by simp only [scanI]; rw [hpk2]; simp)
                  have RB := Lib.hid (show scanB (waysB xs ys) h.toNat (d + 1) = true by simp only [scanB]; rw [hpk2]; simp)
                  clear cxk cyk hpk hpk2
                  go_wp2_with fail
                  refine (CXK.out _ (HX.out.below hbw)).mono ?_
                  rintro e w2 ⟨rfl, hb2⟩
                  have hB2 : Below w.heap.size w w2 := hbw.trans (hb2.mono hbw.size)
                  clear hb2
                  go_wp2_with fail
                  have hbx := below_of_alloc hB2 (.cells #[.int .i64 p1, .bool true] 90)
                  refine (CYK.out _ (HY.out.below hbx)).mono ?_
                  rintro e w3 ⟨rfl, hb3⟩
                  have hB3 : Below w.heap.size w w3 := hbx.trans (hb3.mono hbx.size)
                  obtain ⟨hc3, hf3⟩ := bcell hb3
                  have hz3 := hb3.size
                  simp only [alloc_size] at hc3 hf3 hz3
                  have c0 : w3.cell? ⟨w2.heap.size, 0, none⟩ = some (.int .i64 p1) := by rw [hc3 _ _ (by omega)]; exact (Blk.new w2 _ _).cell 0
                  have c1 : w3.cell? ⟨w2.heap.size, 1, none⟩ = some (.bool true) := by rw [hc3 _ _ (by omega)]; exact (Blk.new w2 _ _).cell 1
                  have hlt3 : w2.heap.size < w3.heap.size := by omega
                  have hby := below_of_alloc hB3 (.cells #[.int .i64 p1, .bool false] 90)
                  have hq := fun w => run_tick p1 p1 true false w
                  clear hb3 hc3 hf3 hbx
                  simp only [beq_self_eq_true, Bool.true_and, Bool.and_true, Bool.and_false, beq_iff_eq] at hq
                  go_wp2
                  clear hq
                  go_roundw
                  case rel => exact ⟨d + 1, by omega, val_int (by omega), val_int (by have h2 := RI.out; omega), val_bool (by rw [RB.out]), hby⟩
                  case measure => simp [intOf]; omega
                · rcases b1 with _ | _ <;> rcases b2 with _ | _
                  · have CXK := Lib.hid cxk
                    have CYK := Lib.hid cyk
                    have hpk2 : waysB xs ys (h.toNat - 1 - d) = false := hpk.trans (by simp)
                    have RI := Lib.hid (show scanI (waysB xs ys) h.toNat (d + 1) = scanI (waysB xs ys) h.toNat d by simp only [scanI]; rw [hpk2]; simp)
                    have RB := Lib.hid (show scanB (waysB xs ys) h.toNat (d + 1) = scanB (waysB xs ys) h.toNat d by simp only [scanB]; rw [hpk2]; simp)
                    clear cxk cyk hpk hpk2
                    go_wp2_with fail
                    refine (CXK.out _ (HX.out.below hbw)).mono ?_
                    rintro e w2 ⟨rfl, hb2⟩
                    have hB2 : Below w.heap.size w w2 := hbw.trans (hb2.mono hbw.size)
                    clear hb2
                    go_wp2_with fail
                    have hbx := below_of_alloc hB2 (.cells #[.int .i64 p1, .bool true] 90)
                    refine (CYK.out _ (HY.out.below hbx)).mono ?_
                    rintro e w3 ⟨rfl, hb3⟩
                    have hB3 : Below w.heap.size w w3 := hbx.trans (hb3.mono hbx.size)
                    obtain ⟨hc3, hf3⟩ := bcell hb3
                    have hz3 := hb3.size
                    simp only [alloc_size] at hc3 hf3 hz3
                    have c0 : w3.cell? ⟨w2.heap.size, 0, none⟩ = some (.int .i64 p1) := by rw [hc3 _ _ (by omega)]; exact (Blk.new w2 _ _).cell 0
                    have c1 : w3.cell? ⟨w2.heap.size, 1, none⟩ = some (.bool true) := by rw [hc3 _ _ (by omega)]; exact (Blk.new w2 _ _).cell 1
                    have hlt3 : w2.heap.size < w3.heap.size := by omega
                    have hby := below_of_alloc hB3 (.cells #[.int .i64 p1, .bool true] 90)
                    have hq := fun w => run_tick p1 p1 true true w
                    clear hb3 hc3 hf3 hbx
                    simp only [beq_self_eq_true, Bool.true_and, Bool.and_true, Bool.and_false, beq_iff_eq] at hq
                    go_wp2
                    clear hq
                    go_roundw
                    case rel => exact ⟨d + 1, by omega, val_int (by omega), val_int (by have h2 := RI.out; omega), val_bool (by rw [RB.out]), hby⟩
                    case measure => simp [intOf]; omega
                  · have CXK := Lib.hid cxk
                    have CYK := Lib.hid cyk
                    have hpk2 : waysB xs ys (h.toNat - 1 - d) = true := hpk.trans (by simp)
                    have RI := Lib.hid (show scanI (waysB xs ys) h.toNat (d + 1) = ((h.toNat - 1 - d : Nat) : Int) by simp only [scanI]; rw [hpk2]; simp)
                    have RB := Lib.hid (show scanB (waysB xs ys) h.toNat (d + 1) = true by simp only [scanB]; rw [hpk2]; simp)
                    clear cxk cyk hpk hpk2
                    go_wp2_with fail
                    refine (CXK.out _ (HX.out.below hbw)).mono ?_
                    rintro e w2 ⟨rfl, hb2⟩
                    have hB2 : Below w.heap.size w w2 := hbw.trans (hb2.mono hbw.size)
                    clear hb2
                    go_wp2_with fail
                    have hbx := below_of_alloc hB2 (.cells #[.int .i64 p1, .bool true] 90)
                    refine (CYK.out _ (HY.out.below hbx)).mono ?_
                    rintro e w3 ⟨rfl, hb3⟩
                    have hB3 : Below w.heap.size w w3 := hbx.trans (hb3.mono hbx.size)
                    obtain ⟨hc3, hf3⟩ := bcell hb3
                    have hz3 := hb3.size
                    simp only [alloc_size] at hc3 hf3 hz3
                    have c0 : w3.cell? ⟨w2.heap.size, 0, none⟩ = some (.int .i64 p1) := by rw [hc3 _ _ (by omega)]; exact (Blk.new w2 _ _).cell 0
                    have c1 : w3.cell? ⟨w2.heap.size, 1, none⟩ = some (.bool true) := by rw [hc3 _ _ (by omega)]; exact (Blk.new w2 _ _).cell 1
                    have hlt3 : w2.heap.size < w3.heap.size := by omega
                    have hby := below_of_alloc hB3 (.cells #[.int .i64 p1, .bool true] 90)
                    have hq := fun w => run_tick p1 p1 true true w
                    clear hb3 hc3 hf3 hbx
                    simp only [beq_self_eq_true, Bool.true_and, Bool.and_true, Bool.and_false, beq_iff_eq] at hq
                    go_wp2
                    clear hq
                    go_roundw
                    case rel => exact ⟨d + 1, by omega, val_int (by omega), val_int (by have h2 := RI.out; omega), val_bool (by rw [RB.out]), hby⟩
                    case measure => simp [intOf]; omega
                  · have CXK := Lib.hid cxk
                    have CYK := Lib.hid cyk
                    have hpk2 : waysB xs ys (h.toNat - 1 - d) = true := hpk.trans (by simp)
                    have RI := Lib.hid (show scanI (waysB xs ys) h.toNat (d + 1) = ((h.toNat - 1 - d : Nat) : Int) by simp only [scanI]; rw [hpk2]; simp)
                    have RB := Lib.hid (show scanB (waysB xs ys) h.toNat (d + 1) = true by simp only [scanB]; rw [hpk2]; simp)
                    clear cxk cyk hpk hpk2
                    go_wp2_with fail
                    refine (CXK.out _ (HX.out.below hbw)).mono ?_
                    rintro e w2 ⟨rfl, hb2⟩
                    have hB2 : Below w.heap.size w w2 := hbw.trans (hb2.mono hbw.size)
                    clear hb2
                    go_wp2_with fail
                    have hbx := below_of_alloc hB2 (.cells #[.int .i64 p1, .bool true] 90)
                    refine (CYK.out _ (HY.out.below hbx)).mono ?_
                    rintro e w3 ⟨rfl, hb3⟩
                    have hB3 : Below w.heap.size w w3 := hbx.trans (hb3.mono hbx.size)
                    obtain ⟨hc3, hf3⟩ := bcell hb3
                    have hz3 := hb3.size
                    simp only [alloc_size] at hc3 hf3 hz3
                    have c0 : w3.cell? ⟨w2.heap.size, 0, none⟩ = some (.int .i64 p1) := by rw [hc3 _ _ (by omega)]; exact (Blk.new w2 _ _).cell 0
                    have c1 : w3.cell? ⟨w2.heap.size, 1, none⟩ = some (.bool true) := by rw [hc3 _ _ (by omega)]; exact (Blk.new w2 _ _).cell 1
                    have hlt3 : w2.heap.size < w3.heap.size := by omega
                    have hby := below_of_alloc hB3 (.cells #[.int .i64 p1, .bool true] 90)
                    have hq := fun w => run_tick p1 p1 true true w
                    clear hb3 hc3 hf3 hbx
                    simp only [beq_self_eq_true, Bool.true_and, Bool.and_true, Bool.and_false, beq_iff_eq] at hq
                    go_wp2
                    clear hq
                    go_roundw
                    case rel => exact ⟨d + 1, by omega, val_int (by omega), val_int (by have h2 := RI.out; omega), val_bool (by rw [RB.out]), hby⟩
                    case measure => simp [intOf]; omega
                  · have CXK := Lib.hid cxk
                    have CYK := Lib.hid cyk
                    have hpk2 : waysB xs ys (h.toNat - 1 - d) = false := hpk.trans (by simp)
                    have RI := Lib.hid (show scanI (waysB xs ys) h.toNat (d + 1) = scanI (waysB xs ys) h.toNat d by simp only [scanI]; rw [hpk2]; simp)
                    have RB := Lib.hid (show scanB (waysB xs ys) h.toNat (d + 1) = scanB (waysB xs ys) h.toNat d by simp only [scanB]; rw [hpk2]; simp)
                    clear cxk cyk hpk hpk2
                    go_wp2_with fail
                    refine (CXK.out _ (HX.out.below hbw)).mono ?_
                    rintro e w2 ⟨rfl, hb2⟩
                    have hB2 : Below w.heap.size w w2 := hbw.trans (hb2.mono hbw.size)
                    clear hb2
                    go_wp2_with fail
                    have hbx := below_of_alloc hB2 (.cells #[.int .i64 p1, .bool true] 90)
                    refine (CYK.out _ (HY.out.below hbx)).mono ?_
                    rintro e w3 ⟨rfl, hb3⟩
                    have hB3 : Below w.heap.size w w3 := hbx.trans (hb3.mono hbx.size)
                    obtain ⟨hc3, hf3⟩ := bcell hb3
                    have hz3 := hb3.size
                    simp only [alloc_size] at hc3 hf3 hz3
                    have c0 : w3.cell? ⟨w2.heap.size, 0, none⟩ = some (.int .i64 p1) := by rw [hc3 _ _ (by omega)]; exact (Blk.new w2 _ _).cell 0
                    have c1 : w3.cell? ⟨w2.heap.size, 1, none⟩ = some (.bool true) := by rw [hc3 _ _ (by omega)]; exact (Blk.new w2 _ _).cell 1
                    have hlt3 : w2.heap.size < w3.heap.size := by omega
                    have hby := below_of_alloc hB3 (.cells #[.int .i64 p1, .bool true] 90)
                    have hq := fun w => run_tick p1 p1 true true w
                    clear hb3 hc3 hf3 hbx
                    simp only [beq_self_eq_true, Bool.true_and, Bool.and_true, Bool.and_false, beq_iff_eq] at hq
                    go_wp2
                    clear hq
                    go_roundw
                    case rel => exact ⟨d + 1, by omega, val_int (by omega), val_int (by have h2 := RI.out; omega), val_bool (by rw [RB.out]), hby⟩
                    case measure => simp [intOf]; omega
              · have hpp : (p1 != p2) = true := by simp [hp]
                have hpe : (p1 == p2) = false := by simp [hp]
                have CXK := Lib.hid cxk
                have CYK := Lib.hid cyk
                have hpk2 : waysB xs ys (h.toNat - 1 - d) = true := hpk.trans (by rw [hpp]; rfl)
                have RI := Lib.hid (show scanI (waysB xs ys) h.toNat (d + 1) = ((h.toNat - 1 - d : Nat) : Int) by simp only [scanI]; rw [hpk2]; simp)
                have RB := Lib.hid (show scanB (waysB xs ys) h.toNat (d + 1) = true by simp only [scanB]; rw [hpk2]; simp)
                clear cxk cyk hpk hpk2 hp
                go_wp2_with fail
                refine (CXK.out _ (HX.out.below hbw)).mono ?_
                rintro e w2 ⟨rfl, hb2⟩
                have hB2 : Below w.heap.size w w2 := hbw.trans (hb2.mono hbw.size)
                clear hb2
                go_wp2_with fail
                have hbx := below_of_alloc hB2 (.cells #[.int .i64 p1, .bool d1] 90)
                refine (CYK.out _ (HY.out.below hbx)).mono ?_
                rintro e w3 ⟨rfl, hb3⟩
                have hB3 : Below w.heap.size w w3 := hbx.trans (hb3.mono hbx.size)
                obtain ⟨hc3, hf3⟩ := bcell hb3
                have hz3 := hb3.size
                simp only [alloc_size] at hc3 hf3 hz3
                have c0 : w3.cell? ⟨w2.heap.size, 0, none⟩ = some (.int .i64 p1) := by rw [hc3 _ _ (by omega)]; exact (Blk.new w2 _ _).cell 0
                have c1 : w3.cell? ⟨w2.heap.size, 1, none⟩ = some (.bool d1) := by rw [hc3 _ _ (by omega)]; exact (Blk.new w2 _ _).cell 1
                have hlt3 : w2.heap.size < w3.heap.size := by omega
                have hby := below_of_alloc hB3 (.cells #[.int .i64 p2, .bool d2] 90)
                have hq := fun w => run_tick p1 p2 d1 d2 w
                clear hb3 hc3 hf3 hbx
                simp only [hpe, Bool.false_and] at hq
                go_wp2
                clear hq
                go_roundw
                case rel => exact ⟨d + 1, by omega, val_int (by omega), val_int (by have h2 := RI.out; omega), val_bool (by rw [RB.out]), hby⟩
                case measure => simp [intOf]; omega
            · obtain rfl : d = h.toNat := by omega
              have e1 : (scanI (waysB xs ys) h.toNat h.toNat == scanI (waysB xs ys) h.toNat h.toNat) = true := by simp
              have e2 : (scanB (waysB xs ys) h.toNat h.toNat == scanB (waysB xs ys) h.toNat h.toNat) = true := by simp
              generalize scanI (waysB xs ys) h.toNat h.toNat = ri at *
              generalize scanB (waysB xs ys) h.toNat h.toNat = rb at *
              have cw := Lib.hid (CW.out wr (HX.out.below hbw) (HY.out.below hbw))
              go_wp2_with fail
              refine cw.out.mono ?_
              rintro e w3 ⟨rfl, n3, rfl⟩
              have hB3 := below_drewN hbw n3
              go_wp2_with fail
              refine (alive38 _).mono ?_
              rintro e w4 ⟨rfl, hb4⟩
              go_wp2
              go_ret
              exact ⟨rfl, hB3.trans (hb4.mono hB3.size)⟩
        · have h0 : h.toNat = 0 := by omega
          have cw := CW.out w2 (HX.out.below hB2) (HY.out.below hB2)
          rw [h0] at cw
          change Calls _ _ _ w2 fun e w' => e = .returned (.tuple #[.int .i64 0, .bool false]) ∧ _ at cw
          have CW2 := Lib.hid cw
          clear cw h0 CW
          go_wp2
          go_loopw [7, 8, 9] (fun x7 x8 i wr => ∃ v : Int, i = .int .i64 v ∧ x7 = .int .i64 0 ∧ x8 = .bool false ∧ wr = w2) (fun _ _ _ _ => 0)
          case atStart => exact ⟨_, rfl, rfl, rfl, rfl⟩
          case round =>
            obtain ⟨v, rfl, rfl, rfl, rfl⟩ := hrel
            rcases Int.lt_or_le v 0 with hv | hv
            all_goals
              go_wp2_with fail
              refine CW2.out.mono ?_
              rintro e w3 ⟨rfl, n3, rfl⟩
              have hB3 := below_drewN hB2 n3
              go_wp2_with fail
              refine (alive38 _).mono ?_
              rintro e w4 ⟨rfl, hb4⟩
              go_wp2
              go_ret
              exact ⟨rfl, hB3.trans (hb4.mono hB3.size)⟩
    · go_wp2
      go_ret
      exact ⟨rfl, hB2⟩
  · go_wp2
    go_ret
    exact ⟨rfl, hb1⟩

set_option maxRecDepth 100000 in
theorem walkDiffWays {H : Type} (W : World) (base : Nat) (enc : TypeId × Value → H) {v0 : Value} {d0 : DataW H} {p0 : List MemPlace} {v1 : Value} {d1 : DataW H} {p1 : List MemPlace} {v2 : Value} {d2 : DataW H} {p2 : List MemPlace}
    (h0 : DataW.Trod enc Try.prog W 0 (fun _ => true) true 72 v0 d0 p0) (h1 : DataW.Trod enc Try.prog W 0 (fun _ => true) true 72 v1 d1 p1) (h2 : DataW.Trod enc Try.prog W 0 (fun _ => true) true 3 v2 d2 p2)
    (o0 : Value.okWide Try.prog W .any base 72 v0) (o1 : Value.okWide Try.prog W .any base 72 v1) (o2 : Value.okWide Try.prog W .any base 3 v2) :
    Calls Try.prog 14 #[v0, v1, v2] W fun e W' => e = .returned (.bool true) ∧ Below W.heap.size W W' := by
  obtain ⟨n, hn⟩ := arg_slice Try.underlying72 o0 h0
  obtain ⟨xs, hxs⟩ := read_slice (size := 4) Try.underlying72 (by kernel_rfl) (by decide) (fun _ _ _ h => read_Leg h) hn
  obtain ⟨A, C, rfl, _, _⟩ := slice_len hxs
  obtain ⟨n, hn⟩ := arg_slice Try.underlying72 o1 h1
  obtain ⟨ys, hys⟩ := read_slice (size := 4) Try.underlying72 (by kernel_rfl) (by decide) (fun _ _ _ h => read_Leg h) hn
  obtain ⟨B, D, rfl, _, _⟩ := slice_len hys
  obtain ⟨h, rfl, _, _⟩ := arg_int o2 h2
  exact ways_1 A B C D xs ys h W (elems_of (ok := fun _ => True) (fun _ _ _ h => h.1) hxs) (elems_of (ok := fun _ => True) (fun _ _ _ h => h.1) hys)
end Go.Proofs.Ytfpmdldngnopjaa

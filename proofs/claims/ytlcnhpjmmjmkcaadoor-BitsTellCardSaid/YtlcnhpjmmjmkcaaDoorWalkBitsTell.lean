
/-
  The statement BitsTell, walked. Condition: the library's table lies as laid.
-/
import Derived.Test.YtlcnhpjmmjmkcaaDoorDoorW
import Derived.Test.YtlcnhpjmmjmkcaaDoorAlive03
import Derived.Test.YtlcnhpjmmjmkcaaDoorArgSet
import Derived.Test.YtlcnhpjmmjmkcaaDoorWalkBitsSets
set_option linter.unusedVariables false
set_option linter.unusedSimpArgs false
namespace Go.Proofs.YtlcnhpjmmjmkcaaDoor
open Go.Joins Go.ChangeShapes Go.WideShapes Go.ChangeAt Go.RowKit Go.Deep

def relOne (n0 : Nat) (n : Int) (s o r : Value) (i : Nat) (v : Value) (w : World) : Prop := match i with
  | 0 => v = s
  | 1 => v = .int .i64 n
  | 2 => ∃ b, v = .slice (some ⟨b, 0, none⟩) 1 1 ∧ Blk w b 3 #[.int .i64 n]
  | 3 => v = o
  | 4 => v = r
  | 5 => ∃ b, v = .pointer (some ⟨b, 0, none⟩) ∧ n0 ≤ b ∧ Blk w b 24 #[.int .u64 0, .int .u64 0]
  | _ => True
theorem relOne_stays (n0 : Nat) (n : Int) (s o r : Value) : ∀ i v w1 w2, relOne n0 n s o r i v w1 → Below w1.heap.size w1 w2 → relOne n0 n s o r i v w2 := by
  intro i v w1 w2 h hb
  unfold relOne at *
  split <;> simp only at h <;> first | exact h | (obtain ⟨b, e, h⟩ := h; exact ⟨b, e, h.below hb h.lt⟩) | (obtain ⟨b, e, hn, h⟩ := h; exact ⟨b, e, hn, h.below hb h.lt⟩)
def relTell (n : Int) (h : Bool) (s a b c l : Value) (k : Nat) (i : Nat) (v : Value) (w : World) : Prop := match i with
  | 0 => v = s
  | 1 => v = .int .i64 n
  | 2 => v = .bool h
  | 3 => v = s
  | 4 => v = .int .i64 n
  | 5 => v = .bool h
  | 6 => v = .bool true
  | 7 => v = .bool true
  | 8 => v = s
  | 9 => v = .int .i64 n
  | 10 => v = a
  | 11 => v = a
  | 12 => v = .bool true
  | 13 => v = .bool true
  | 14 => v = .bool true
  | 15 => v = s
  | 16 => v = .int .i64 n
  | 17 => v = b
  | 18 => v = b
  | 19 => v = .bool true
  | 20 => v = .bool true
  | 21 => v = .bool true
  | 22 => v = l
  | 23 => v = c
  | 24 => v = l
  | 25 => v = c
  | 26 => v = .bool true
  | 27 => v = .bool true
  | 28 => v = .bool true
  | 29 => v = s
  | 30 => v = .int .i64 (k : Int)
  | 31 => v = s
  | 32 => ∃ A C, v = .slice A k C
  | 33 => v = .int .i64 (k : Int)
  | 34 => v = .bool true
  | 35 => v = .bool true
  | 36 => v = .bool true
  | 37 => v = .bool true
  | 38 => v = .bool true
  | _ => True
theorem relTell_stays (n : Int) (h : Bool) (s a b c l : Value) (k : Nat) : ∀ i v w1 w2, relTell n h s a b c l k i v w1 → Below w1.heap.size w1 w2 → relTell n h s a b c l k i v w2 := by
  intro i v w1 w2 h hb
  unfold relTell at *
  split <;> simp only at h <;> exact h
theorem gop_yesR {P : Program} {ops : Array Oper} {o : Oper} {a : Act} {w : World} {R : Value → World → Prop} (h : Region.wanted o (yielded ops a.tmps) = true) (hg : grows P o a w R) : gop P ops o a w R := by unfold gop; rw [if_pos h]; exact hg
theorem one_set (n : Int) : ofX (at0 [n]) 1 = withX 0 n ∧ ofY (at0 [n]) 1 = withY 0 n := ⟨rfl, rfl⟩
theorem ref_one (n : Int) (hn : I64 n) (b : Nat) (w : World) (hk : Blk w b 3 #[.int .i64 n]) : Calls Tryd.prog 13 #[.slice (some ⟨b, 0, none⟩) 1 1] w fun e w' => e = .returned (sv (withX 0 n) (withY 0 n)) ∧ Below w.heap.size w w' :=
  ref03_Of (some ⟨b, 0, none⟩) 1 [n] w (fun _ => ⟨b, 0, rfl, hk.lt, fun i hi => by
    have := hk.cell i
    match i, hi with
    | 0, _ => simpa [at0] using this⟩) (by simp) (fun i => by
      match i with
      | 0 => exact hn
      | _ + 1 => unfold I64 at0; simp [List.getD])
set_option maxRecDepth 20000 in
set_option maxHeartbeats 8000000 in
theorem law_BitsTell (x y : Nat) (n : Int) (A : Option Addr) (C : Nat) (xs : List Int) (w : World) (hx : Wd x) (hy : Wd y) (hn : I64 n) (hxs : Ints w A xs) (hbd : ∀ i, I64 (at0 xs i)) (hlen : (xs.length : Int) ≤ 9223372036854775807) (hT : Tab w) :
    Calls Tryd.prog 6 #[.agg #[.int .u64 (x : Int), .int .u64 (y : Int)], .int .i64 n, .slice A xs.length C] w fun e w' => e = .returned (.bool true) ∧ Below w.heap.size w w' := by
  by_cases hl : 200 < xs.length
  · have q1 : decide (200 < (xs.length : Int)) = true := decide_eq_true (by omega)
    clear hx hy hn hxs hbd hT hl
    go_enter Tryd.func6, Tryd.ntmps6
    go_wp2
    go_ret
    exact ⟨rfl, below_alloc1 _ _⟩
  have q1 : decide (200 < (xs.length : Int)) = false := decide_eq_false (by omega)
  have cO := ref_one n hn
  have hw0 : Wd (withX 0 n) ∧ Wd (withY 0 n) := ⟨wd_withX n (by show 0 < _; omega), wd_withY n (by show 0 < _; omega)⟩
  have b1 := fun w => ref03_Both 1 x y (withX 0 n) (withY 0 n) w hx hy hw0.1 hw0.2 (.inr (.inl rfl))
  have b2 := fun w => ref03_Both 2 x y (withX 0 n) (withY 0 n) w hx hy hw0.1 hw0.2 (.inr (.inr rfl))
  rw [(both_or hx hy hw0.1 hw0.2).1, (both_or hx hy hw0.1 hw0.2).2] at b1
  rw [(both_sub hx hy hw0.1 hw0.2).1, (both_sub hx hy hw0.1 hw0.2).2] at b2
  have cW := fun w => bits_With x y n w hx hy hn
  rw [with_or x n, with_orY y n] at cW
  have cWO := fun w => bits_Without x y n w hx hy hn
  have cH := fun w => bits_Has x y n w hx hy hn
  have cRH := fun w => ref03_Has x y n w hx hy hn
  have cOF := fun w hx => bits_Of A C xs w hx (by omega) hbd
  have cROF := fun w hx => ref03_Of A C xs w hx (by omega) hbd
  have cC := fun w => bits_Count x y w hx hy
  rw [show ((popN x 64 : Nat) : Int) + ((popN y 64 : Nat) : Int) = ((items x y).length : Nat) by rw [items_count]; omega] at cC
  have cI := fun w => ref03_Items x y w hx hy
  have cA := fun w hT => alive03 w hT
  unfold sv at *
  clear hw0 hx hy hn hbd
  generalize withX 0 n = o1 at *
  generalize withY 0 n = o2 at *
  generalize x ||| o1 = a1 at *
  generalize y ||| o2 = a2 at *
  generalize subW x o1 = d1 at *
  generalize subW y o2 = d2 at *
  generalize memB x y n = h at *
  generalize ofX (at0 xs) xs.length = c1 at *
  generalize ofY (at0 xs) xs.length = c2 at *
  generalize items x y = L at *
  have g1 := eq_sets a1 a2
  have g2 := eq_sets d1 d2
  have g3 := eq_sets c1 c2
  have CO := Lib.hid cO
  have B1 := Lib.hid b1
  have B2 := Lib.hid b2
  have CW := Lib.hid cW
  have CWO := Lib.hid cWO
  have CH := Lib.hid cH
  have CRH := Lib.hid cRH
  have COF := Lib.hid cOF
  have CROF := Lib.hid cROF
  have CC := Lib.hid cC
  have CI := Lib.hid cI
  have CA := Lib.hid cA
  have HT := Lib.hid hT
  have HX := Lib.hid hxs
  have HL := Lib.hid hl
  clear cO b1 b2 cW cWO cH cRH cOF cROF cC cI cA hT hxs hl
  go_enter Tryd.func6, Tryd.ntmps6
  go_wp2_with (first | ((with_reducible refine hold_list ?_ ?_); (· exact Eq.refl true)) | ((with_reducible refine hold_region ?_ ?_); (· exact Eq.refl true)) | (with_reducible refine hold_loop ?_))
  have k0 : Blk (w.alloc (.cells #[.int .u64 (x : Int), .int .u64 (y : Int)] 24)) (w.heap.size) 24 #[.int .u64 (x : Int), .int .u64 (y : Int)] := (blk_at (by simp))
  have hB : Below w.heap.size w (w.alloc (.cells #[.int .u64 (x : Int), .int .u64 (y : Int)] 24)) := (bel_at (Below.refl _ _) (.cells #[.int .u64 (x : Int), .int .u64 (y : Int)] 24))
  generalize (w.alloc (.cells #[.int .u64 (x : Int), .int .u64 (y : Int)] 24)) = w1 at *
  (try clear k0c k0f k0z); have k0c := fun i => Blk.cell k0 i; have k0f := fun i => Blk.free k0 i; have k0z := Blk.lt k0
  unfold Hold
  refine wp_region_rel 6 [12, 13, 14, 15, 16, 7] (relOne w1.heap.size n (.agg #[.int .u64 (x : Int), .int .u64 (y : Int)]) (.agg #[.int .u64 (o1 : Int), .int .u64 (o2 : Int)]) (.agg #[.int .u64 (a1 : Int), .int .u64 (a2 : Int)])) (by kernel_rfl) (by kernel_rfl) (by kernel_rfl) (relOne_stays _ _ _ _ _) ?_ ?_
  · refine ⟨?_, ?_, ?_, ?_, ?_, ?_, trivial⟩
    all_goals
      intro f w2 hb hl2
      simp [leans, Region.binds, relOne] at hl2
      have j0 := k0.below hb k0.lt
      have j0c := fun i => Blk.cell j0 i
      simp [gop, Region.wanted, grows, frm]
    · simp [execOp, go_sem, *, growsUpon]
      exact ⟨Below.refl _ _, rfl⟩
    · simp [execOp, go_sem, *, growsUpon]
      exact ⟨Below.refl _ _, rfl⟩
    · simp [execOp, go_sem, *, growsUpon]
      exact ⟨below_alloc1 _ _, w2.heap.size, rfl, Blk.new _ _ _⟩
    · obtain ⟨b, e1, hk⟩ := hl2
      simp [execOp, go_sem, *, growsUpon]
      exact ⟨Below.refl _ _, (CO.out b _ hk).mono fun e w3 h => ⟨_, h.1, h.2, rfl⟩⟩
    · simp [execOp, go_sem, *, growsUpon]
      exact ⟨Below.refl _ _, (B1.out _).mono fun e w3 h => ⟨_, h.1, h.2, rfl⟩⟩
    · simp [execOp, go_sem, *, growsUpon]
      exact ⟨below_alloc1 _ _, w2.heap.size, rfl, hb.size, Blk.new _ _ _⟩
  intro f w2 hb hl2
  simp [allRel, relOne] at hl2
  obtain ⟨⟨⟨⟨⟨e1, e2⟩, e3⟩, e4⟩, e5⟩, b7, e6, k7n, k7⟩ := hl2
  simp [frm, e1, e2, e4, e5, e6]
  replace hB := hB.trans (hb.mono hB.size)
  replace k0 := k0.below hb k0.lt
  have z7 : w.heap.size < b7 := by omega
  clear hb e1 e2 e3 e4 e5 e6 k7n k0c k0f k0z
  (try clear k0c k0f k0z); have k0c := fun i => Blk.cell k0 i; have k0f := fun i => Blk.free k0 i; have k0z := Blk.lt k0; (try clear k7c k7f k7z); have k7c := fun i => Blk.cell k7 i; have k7f := fun i => Blk.free k7 i; have k7z := Blk.lt k7
  go_wp2_with (first | ((with_reducible refine hold_list ?_ ?_); (· exact Eq.refl true)) | ((with_reducible refine hold_region ?_ ?_); (· exact Eq.refl true)) | (with_reducible refine hold_loop ?_))
  replace k7 := (Blk.set_ (Blk.set_ k7 0 (.int .u64 (a1 : Int))) 1 (.int .u64 (a2 : Int)))
  replace k0 := (Blk.far (Blk.far k0 (p := ⟨b7, 0, none⟩) (by show _ ≠ b7; first | omega | (simp; omega)) (.int .u64 (a1 : Int))) (p := ⟨b7, 1, none⟩) (by show _ ≠ b7; first | omega | (simp; omega)) (.int .u64 (a2 : Int)))
  replace hB := (Below.setCell (Below.setCell hB (p := ⟨b7, 0, none⟩) (by show _ ≤ b7; have := Below.size hB; first | omega | (simp; omega)) (.int .u64 (a1 : Int))) (p := ⟨b7, 1, none⟩) (by show _ ≤ b7; have := Below.size hB; first | omega | (simp; omega)) (.int .u64 (a2 : Int)))
  generalize ((w2.setCell ⟨b7, 0, none⟩ (.int .u64 (a1 : Int))).setCell ⟨b7, 1, none⟩ (.int .u64 (a2 : Int))) = w3 at *
  (try clear k0c k0f k0z); have k0c := fun i => Blk.cell k0 i; have k0f := fun i => Blk.free k0 i; have k0z := Blk.lt k0; (try clear k7c k7f k7z); have k7c := fun i => Blk.cell k7 i; have k7f := fun i => Blk.free k7 i; have k7z := Blk.lt k7
  unfold Hold
  refine wp_region_rel 6 [17, 18, 19, 20, 21, 8] (relOne w3.heap.size n (.agg #[.int .u64 (x : Int), .int .u64 (y : Int)]) (.agg #[.int .u64 (o1 : Int), .int .u64 (o2 : Int)]) (.agg #[.int .u64 (d1 : Int), .int .u64 (d2 : Int)])) (by kernel_rfl) (by kernel_rfl) (by kernel_rfl) (relOne_stays _ _ _ _ _) ?_ ?_
  · refine ⟨?_, ?_, ?_, ?_, ?_, ?_, trivial⟩
    all_goals
      intro f w4 hb hl2
      simp [leans, Region.binds, relOne] at hl2
      have j0 := k0.below hb k0.lt
      have j0c := fun i => Blk.cell j0 i
      simp [gop, Region.wanted, grows, frm]
    · simp [execOp, go_sem, *, growsUpon]
      exact ⟨Below.refl _ _, rfl⟩
    · simp [execOp, go_sem, *, growsUpon]
      exact ⟨Below.refl _ _, rfl⟩
    · simp [execOp, go_sem, *, growsUpon]
      exact ⟨below_alloc1 _ _, w4.heap.size, rfl, Blk.new _ _ _⟩
    · obtain ⟨b, e1, hk⟩ := hl2
      simp [execOp, go_sem, *, growsUpon]
      exact ⟨Below.refl _ _, (CO.out b _ hk).mono fun e w3 h => ⟨_, h.1, h.2, rfl⟩⟩
    · simp [execOp, go_sem, *, growsUpon]
      exact ⟨Below.refl _ _, (B2.out _).mono fun e w3 h => ⟨_, h.1, h.2, rfl⟩⟩
    · simp [execOp, go_sem, *, growsUpon]
      exact ⟨below_alloc1 _ _, w4.heap.size, rfl, hb.size, Blk.new _ _ _⟩
  intro f w4 hb hl2
  simp [allRel, relOne] at hl2
  obtain ⟨⟨⟨⟨⟨e1, e2⟩, e3⟩, e4⟩, e5⟩, b8, e6, k8n, k8⟩ := hl2
  simp [frm, e1, e2, e4, e5, e6]
  replace hB := hB.trans (hb.mono hB.size)
  replace k0 := k0.below hb k0.lt
  have z8 : b7 < b8 := by omega
  replace k7 := k7.below hb k7.lt
  clear hb e1 e2 e3 e4 e5 e6 k8n k0c k0f k0z k7c k7f k7z
  (try clear k0c k0f k0z); have k0c := fun i => Blk.cell k0 i; have k0f := fun i => Blk.free k0 i; have k0z := Blk.lt k0; (try clear k7c k7f k7z); have k7c := fun i => Blk.cell k7 i; have k7f := fun i => Blk.free k7 i; have k7z := Blk.lt k7; (try clear k8c k8f k8z); have k8c := fun i => Blk.cell k8 i; have k8f := fun i => Blk.free k8 i; have k8z := Blk.lt k8
  go_wp2_with (first | ((with_reducible refine hold_list ?_ ?_); (· exact Eq.refl true)) | ((with_reducible refine hold_region ?_ ?_); (· exact Eq.refl true)) | (with_reducible refine hold_loop ?_))
  replace k8 := (Blk.set_ (Blk.set_ k8 0 (.int .u64 (d1 : Int))) 1 (.int .u64 (d2 : Int)))
  replace k0 := (Blk.far (Blk.far k0 (p := ⟨b8, 0, none⟩) (by show _ ≠ b8; first | omega | (simp; omega)) (.int .u64 (d1 : Int))) (p := ⟨b8, 1, none⟩) (by show _ ≠ b8; first | omega | (simp; omega)) (.int .u64 (d2 : Int)))
  replace k7 := (Blk.far (Blk.far k7 (p := ⟨b8, 0, none⟩) (by show _ ≠ b8; first | omega | (simp; omega)) (.int .u64 (d1 : Int))) (p := ⟨b8, 1, none⟩) (by show _ ≠ b8; first | omega | (simp; omega)) (.int .u64 (d2 : Int)))
  replace hB := (Below.setCell (Below.setCell hB (p := ⟨b8, 0, none⟩) (by show _ ≤ b8; have := Below.size hB; first | omega | (simp; omega)) (.int .u64 (d1 : Int))) (p := ⟨b8, 1, none⟩) (by show _ ≤ b8; have := Below.size hB; first | omega | (simp; omega)) (.int .u64 (d2 : Int)))
  generalize ((w4.setCell ⟨b8, 0, none⟩ (.int .u64 (d1 : Int))).setCell ⟨b8, 1, none⟩ (.int .u64 (d2 : Int))) = w5 at *
  (try clear k0c k0f k0z); have k0c := fun i => Blk.cell k0 i; have k0f := fun i => Blk.free k0 i; have k0z := Blk.lt k0; (try clear k7c k7f k7z); have k7c := fun i => Blk.cell k7 i; have k7f := fun i => Blk.free k7 i; have k7z := Blk.lt k7; (try clear k8c k8f k8z); have k8c := fun i => Blk.cell k8 i; have k8f := fun i => Blk.free k8 i; have k8z := Blk.lt k8
  unfold Hold
  have HX2 := Lib.hid (HX.out.below hB)
  have HT2 := Lib.hid (HT.out.below hB)
  refine wp_region_rel 39 [22, 23, 24, 25, 26, 27, 28, 29, 30, 31, 32, 33, 34, 35, 36, 37, 38, 39, 40, 41, 42, 43, 44, 45, 46, 47, 48, 49, 50, 51, 52, 53, 54, 55, 56, 57, 58, 59, 60] (relTell n h (.agg #[.int .u64 (x : Int), .int .u64 (y : Int)]) (.agg #[.int .u64 (a1 : Int), .int .u64 (a2 : Int)]) (.agg #[.int .u64 (d1 : Int), .int .u64 (d2 : Int)]) (.agg #[.int .u64 (c1 : Int), .int .u64 (c2 : Int)]) (.slice A xs.length C) L.length) (by kernel_rfl) (by kernel_rfl) (by kernel_rfl) (relTell_stays _ _ _ _ _ _ _ _) ?_ ?_
  · refine ⟨?_, ?_, ?_, ?_, ?_, ?_, ?_, ?_, ?_, ?_, ?_, ?_, ?_, ?_, ?_, ?_, ?_, ?_, ?_, ?_, ?_, ?_, ?_, ?_, ?_, ?_, ?_, ?_, ?_, ?_, ?_, ?_, ?_, ?_, ?_, ?_, ?_, ?_, ?_, trivial⟩
    all_goals
      intro f w6 hb hl2
      simp [leans, Region.binds, relTell] at hl2
      have j0 := k0.below hb k0.lt
      have j0c := fun i => Blk.cell j0 i
      have j7 := k7.below hb k7.lt
      have j7c := fun i => Blk.cell j7 i
      have j8 := k8.below hb k8.lt
      have j8c := fun i => Blk.cell j8 i
    · simp [gop, Region.wanted, grows, frm]
      simp [execOp, go_sem, *, growsUpon]
      exact ⟨Below.refl _ _, rfl⟩
    · simp [gop, Region.wanted, grows, frm]
      simp [execOp, go_sem, *, growsUpon]
      exact ⟨Below.refl _ _, rfl⟩
    · simp [gop, Region.wanted, grows, frm]
      simp [execOp, go_sem, *, growsUpon]
      exact ⟨Below.refl _ _, (CH.out _).mono fun e w3 h => ⟨_, h.1, h.2, rfl⟩⟩
    · simp [gop, Region.wanted, grows, frm]
      simp [execOp, go_sem, *, growsUpon]
      exact ⟨Below.refl _ _, rfl⟩
    · simp [gop, Region.wanted, grows, frm]
      simp [execOp, go_sem, *, growsUpon]
      exact ⟨Below.refl _ _, rfl⟩
    · simp [gop, Region.wanted, grows, frm]
      simp [execOp, go_sem, *, growsUpon]
      exact ⟨Below.refl _ _, (CRH.out _).mono fun e w3 h => ⟨_, h.1, h.2, rfl⟩⟩
    · simp [gop, Region.wanted, grows, frm]
      simp [execOp, go_sem, *, growsUpon]
      exact ⟨Below.refl _ _, rfl⟩
    · simp [gop, Region.wanted, grows, frm]
      simp [execOp, go_sem, *, growsUpon]
      exact ⟨Below.refl _ _, rfl⟩
    · have hg : f 29 = .bool true := by simp [hl2]
      simp only [frm, List.setIfInBounds_toArray, List.set_cons_succ, List.set_cons_zero]
      rw [hg]
      refine gop_yesR (by rfl) ?_
      simp [grows, execOp, go_sem, *, growsUpon]
      exact ⟨Below.refl _ _, rfl⟩
    · have hg : f 29 = .bool true := by simp [hl2]
      simp only [frm, List.setIfInBounds_toArray, List.set_cons_succ, List.set_cons_zero]
      rw [hg]
      refine gop_yesR (by rfl) ?_
      simp [grows, execOp, go_sem, *, growsUpon]
      exact ⟨Below.refl _ _, rfl⟩
    · have hg : f 29 = .bool true := by simp [hl2]
      simp only [frm, List.setIfInBounds_toArray, List.set_cons_succ, List.set_cons_zero]
      rw [hg]
      refine gop_yesR (by rfl) ?_
      simp [grows, execOp, go_sem, *, growsUpon]
      exact ⟨Below.refl _ _, (CW.out _).mono fun e w3 h => ⟨_, h.1, h.2, rfl⟩⟩
    · have hg : f 29 = .bool true := by simp [hl2]
      simp only [frm, List.setIfInBounds_toArray, List.set_cons_succ, List.set_cons_zero]
      rw [hg]
      refine gop_yesR (by rfl) ?_
      simp [grows, execOp, go_sem, *, growsUpon]
      exact ⟨Below.refl _ _, rfl⟩
    · have hg : f 29 = .bool true := by simp [hl2]
      simp only [frm, List.setIfInBounds_toArray, List.set_cons_succ, List.set_cons_zero]
      rw [hg]
      refine gop_yesR (by rfl) ?_
      simp [grows, execOp, go_sem, *, growsUpon]
      exact ⟨Below.refl _ _, rfl⟩
    · simp [gop, Region.wanted, grows, frm]
      simp [execOp, go_sem, *, growsUpon]
      exact ⟨Below.refl _ _, rfl⟩
    · simp [gop, Region.wanted, grows, frm]
      simp [execOp, go_sem, *, growsUpon]
      exact ⟨Below.refl _ _, rfl⟩
    · have hg : f 36 = .bool true := by simp [hl2]
      simp only [frm, List.setIfInBounds_toArray, List.set_cons_succ, List.set_cons_zero]
      rw [hg]
      refine gop_yesR (by rfl) ?_
      simp [grows, execOp, go_sem, *, growsUpon]
      exact ⟨Below.refl _ _, rfl⟩
    · have hg : f 36 = .bool true := by simp [hl2]
      simp only [frm, List.setIfInBounds_toArray, List.set_cons_succ, List.set_cons_zero]
      rw [hg]
      refine gop_yesR (by rfl) ?_
      simp [grows, execOp, go_sem, *, growsUpon]
      exact ⟨Below.refl _ _, rfl⟩
    · have hg : f 36 = .bool true := by simp [hl2]
      simp only [frm, List.setIfInBounds_toArray, List.set_cons_succ, List.set_cons_zero]
      rw [hg]
      refine gop_yesR (by rfl) ?_
      simp [grows, execOp, go_sem, *, growsUpon]
      exact ⟨Below.refl _ _, (CWO.out _).mono fun e w3 h => ⟨_, h.1, h.2, rfl⟩⟩
    · have hg : f 36 = .bool true := by simp [hl2]
      simp only [frm, List.setIfInBounds_toArray, List.set_cons_succ, List.set_cons_zero]
      rw [hg]
      refine gop_yesR (by rfl) ?_
      simp [grows, execOp, go_sem, *, growsUpon]
      exact ⟨Below.refl _ _, rfl⟩
    · have hg : f 36 = .bool true := by simp [hl2]
      simp only [frm, List.setIfInBounds_toArray, List.set_cons_succ, List.set_cons_zero]
      rw [hg]
      refine gop_yesR (by rfl) ?_
      simp [grows, execOp, go_sem, *, growsUpon]
      exact ⟨Below.refl _ _, rfl⟩
    · simp [gop, Region.wanted, grows, frm]
      simp [execOp, go_sem, *, growsUpon]
      exact ⟨Below.refl _ _, rfl⟩
    · simp [gop, Region.wanted, grows, frm]
      simp [execOp, go_sem, *, growsUpon]
      exact ⟨Below.refl _ _, rfl⟩
    · have hg : f 43 = .bool true := by simp [hl2]
      simp only [frm, List.setIfInBounds_toArray, List.set_cons_succ, List.set_cons_zero]
      rw [hg]
      refine gop_yesR (by rfl) ?_
      simp [grows, execOp, go_sem, *, growsUpon]
      exact ⟨Below.refl _ _, rfl⟩
    · have hg : f 43 = .bool true := by simp [hl2]
      simp only [frm, List.setIfInBounds_toArray, List.set_cons_succ, List.set_cons_zero]
      rw [hg]
      refine gop_yesR (by rfl) ?_
      simp [grows, execOp, go_sem, *, growsUpon]
      exact ⟨Below.refl _ _, (COF.out _ (HX2.out.below hb)).mono fun e w3 h => ⟨_, h.1, h.2, rfl⟩⟩
    · have hg : f 43 = .bool true := by simp [hl2]
      simp only [frm, List.setIfInBounds_toArray, List.set_cons_succ, List.set_cons_zero]
      rw [hg]
      refine gop_yesR (by rfl) ?_
      simp [grows, execOp, go_sem, *, growsUpon]
      exact ⟨Below.refl _ _, rfl⟩
    · have hg : f 43 = .bool true := by simp [hl2]
      simp only [frm, List.setIfInBounds_toArray, List.set_cons_succ, List.set_cons_zero]
      rw [hg]
      refine gop_yesR (by rfl) ?_
      simp [grows, execOp, go_sem, *, growsUpon]
      exact ⟨Below.refl _ _, (CROF.out _ (HX2.out.below hb)).mono fun e w3 h => ⟨_, h.1, h.2, rfl⟩⟩
    · have hg : f 43 = .bool true := by simp [hl2]
      simp only [frm, List.setIfInBounds_toArray, List.set_cons_succ, List.set_cons_zero]
      rw [hg]
      refine gop_yesR (by rfl) ?_
      simp [grows, execOp, go_sem, *, growsUpon]
      exact ⟨Below.refl _ _, rfl⟩
    · simp [gop, Region.wanted, grows, frm]
      simp [execOp, go_sem, *, growsUpon]
      exact ⟨Below.refl _ _, rfl⟩
    · simp [gop, Region.wanted, grows, frm]
      simp [execOp, go_sem, *, growsUpon]
      exact ⟨Below.refl _ _, rfl⟩
    · have hg : f 50 = .bool true := by simp [hl2]
      simp only [frm, List.setIfInBounds_toArray, List.set_cons_succ, List.set_cons_zero]
      rw [hg]
      refine gop_yesR (by rfl) ?_
      simp [grows, execOp, go_sem, *, growsUpon]
      exact ⟨Below.refl _ _, rfl⟩
    · have hg : f 50 = .bool true := by simp [hl2]
      simp only [frm, List.setIfInBounds_toArray, List.set_cons_succ, List.set_cons_zero]
      rw [hg]
      refine gop_yesR (by rfl) ?_
      simp [grows, execOp, go_sem, *, growsUpon]
      exact ⟨Below.refl _ _, (CC.out _).mono fun e w3 h => ⟨_, h.1, h.2, rfl⟩⟩
    · have hg : f 50 = .bool true := by simp [hl2]
      simp only [frm, List.setIfInBounds_toArray, List.set_cons_succ, List.set_cons_zero]
      rw [hg]
      refine gop_yesR (by rfl) ?_
      simp [grows, execOp, go_sem, *, growsUpon]
      exact ⟨Below.refl _ _, rfl⟩
    · have hg : f 50 = .bool true := by simp [hl2]
      simp only [frm, List.setIfInBounds_toArray, List.set_cons_succ, List.set_cons_zero]
      rw [hg]
      refine gop_yesR (by rfl) ?_
      simp [grows, execOp, go_sem, *, growsUpon]
      exact ⟨Below.refl _ _, (CI.out _).mono fun e w3 h => by obtain ⟨A, C, he, hi, hb⟩ := h.ints; exact ⟨_, he, hb, A, C, rfl⟩⟩
    · have hg3 := hl2.1
      replace hl2 := hl2.2
      cases hg3 with
      | intro A3 h3 =>
      cases h3 with
      | intro C3 hs3 =>
      have hg : f 50 = .bool true := by simp [hl2]
      simp only [frm, List.setIfInBounds_toArray, List.set_cons_succ, List.set_cons_zero]
      rw [hg]
      refine gop_yesR (by rfl) ?_
      simp [grows, execOp, go_sem, *, growsUpon]
      exact ⟨Below.refl _ _, rfl⟩
    · have hg : f 50 = .bool true := by simp [hl2]
      simp only [frm, List.setIfInBounds_toArray, List.set_cons_succ, List.set_cons_zero]
      rw [hg]
      refine gop_yesR (by rfl) ?_
      simp [grows, execOp, go_sem, *, growsUpon]
      exact ⟨Below.refl _ _, rfl⟩
    · simp [gop, Region.wanted, grows, frm]
      simp [execOp, go_sem, *, growsUpon]
      exact ⟨Below.refl _ _, rfl⟩
    · simp [gop, Region.wanted, grows, frm]
      simp [execOp, go_sem, *, growsUpon]
      exact ⟨Below.refl _ _, rfl⟩
    · have hg : f 58 = .bool true := by simp [hl2]
      simp only [frm, List.setIfInBounds_toArray, List.set_cons_succ, List.set_cons_zero]
      rw [hg]
      refine gop_yesR (by rfl) ?_
      simp [grows, execOp, go_sem, *, growsUpon]
      exact ⟨Below.refl _ _, (CA.out _ (HT2.out.below hb)).mono fun e w3 h => ⟨_, h.1, h.2, rfl⟩⟩
    · simp [gop, Region.wanted, grows, frm]
      simp [execOp, go_sem, *, growsUpon]
      exact ⟨Below.refl _ _, rfl⟩
  intro f w6 hb hl2
  simp [allRel, relTell] at hl2
  replace hl2 := hl2.2
  simp [frm, hl2]
  replace hB := hB.trans (hb.mono hB.size)
  clear k0 k7 k8 k0c k0f k0z k7c k7f k7z k8c k8f k8z hb
  go_wp2
  go_ret
  exact ⟨rfl, hB⟩
set_option maxRecDepth 100000 in
theorem walkBitsTell {H : Type} (W : World) (base : Nat) (enc : TypeId × Value → H) {v0 : Value} {d0 : DataW H} {p0 : List MemPlace} {v1 : Value} {d1 : DataW H} {p1 : List MemPlace} {v2 : Value} {d2 : DataW H} {p2 : List MemPlace}
    (h0 : DataW.Trod enc Tryd.prog W 0 (fun _ => true) true 24 v0 d0 p0) (h1 : DataW.Trod enc Tryd.prog W 0 (fun _ => true) true 3 v1 d1 p1) (h2 : DataW.Trod enc Tryd.prog W 0 (fun _ => true) true 26 v2 d2 p2)
    (o0 : Value.okWide Tryd.prog W .any base 24 v0) (o1 : Value.okWide Tryd.prog W .any base 3 v1) (o2 : Value.okWide Tryd.prog W .any base 26 v2) (hT : Tab W) :
    Calls Tryd.prog 6 #[v0, v1, v2] W fun e W' => e = .returned (.bool true) ∧ Below W.heap.size W W' := by
  obtain ⟨cs, rfl, m, hm⟩ := arg_agg (.inr ⟨_, _, Tryd.underlying24⟩) o0 h0
  obtain ⟨x, y, rfl, b1, b2⟩ := read_set hm
  obtain ⟨n, rfl, hn⟩ := arg_int o1 h1
  obtain ⟨n2, hn2⟩ := arg_slice Tryd.underlying26 o2 h2
  obtain ⟨xs, hxs⟩ := read_slice (size := 1) Tryd.underlying26 (by kernel_rfl) (by decide) (fun _ _ _ h => read_int Tryd.underlying3 h) hn2
  obtain ⟨A, C, hv, hrest⟩ := id hxs
  injection hv with hv
  subst hv
  exact law_BitsTell x y n A C xs W b1 b2 hn (ints_of hxs) (ints_bd hxs) (by have := hrest.1; have := hrest.2.1; unfold maxLen at *; omega) hT
end Go.Proofs.YtlcnhpjmmjmkcaaDoor

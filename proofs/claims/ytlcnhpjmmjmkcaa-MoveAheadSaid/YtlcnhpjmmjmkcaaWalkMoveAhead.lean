
/-
  The statement MoveAhead, walked.
-/
import Derived.Test.YtlcnhpjmmjmkcaaAhead
import Derived.Test.YtlcnhpjmmjmkcaaAheadR
import Derived.Test.YtlcnhpjmmjmkcaaAlive40
import Derived.Test.YtlcnhpjmmjmkcaaArgSet
set_option linter.unusedVariables false
set_option linter.unusedSimpArgs false
namespace Go.Proofs.Ytlcnhpjmmjmkcaa
open Go.Joins Go.ChangeShapes Go.WideShapes Go.ChangeAt Go.RowKit Go.Deep

set_option maxRecDepth 20000 in
set_option maxHeartbeats 8000000 in
theorem law_MoveAhead (s : Scen) (A : Option Addr) (C : Nat) (c : Car) (A2 : Option Addr) (C2 : Nat) (x0 y0 x1 y1 : Nat) (w : World) (hs : RSlice 3 RSeg w [.slice A s.segs.length C] s.segs) (hr : RSlice 2 RRider w [.slice A2 c.riders.length C2] c.riders) (hok : s.ok) (hco : c.ok)
    (h0 : Wd x0) (h1 : Wd y0) (h2 : Wd x1) (h3 : Wd y1) :
    Calls Try.prog 5 #[s.val A C, c.val A2 C2, .agg #[.int .u64 (x0 : Int), .int .u64 (y0 : Int), .int .u64 (x1 : Int), .int .u64 (y1 : Int)]] w fun e w' => e = .returned (.bool true) ∧ Below w.heap.size w w' := by
  have cF := fun w hs hr => fine40 s A C c A2 C2 x0 y0 x1 y1 w hs hr hok hco h0 h1 h2 h3
  have hrs := rids_of hr
  have hbd := rids_bd hr
  have cM := fun (h : FineP s c x0 y0 x1 y1) hm hd w hr => move_Ahead s A C c A2 C2 x0 y0 x1 y1 w h hm hd hr hbd h0 h1 h2 h3
  have cR := fun (h : FineP s c x0 y0 x1 y1) hm hd w hr => ref40_Ahead s A C c A2 C2 x0 y0 x1 y1 w h hm hd hr hbd h0 h1 h2 h3
  have hNb := fun (h : FineP s c x0 y0 x1 y1) hm hd => ahN_bd h hm hd h0 h1 h2 h3
  have cA := fun w => alive40 w
  unfold sv at *
  generalize ahN s c x0 y0 x1 y1 = aN at *
  generalize ahF s c x0 y0 x1 y1 = aF at *
  have CF := Lib.hid cF
  have HS := Lib.hid hs
  have HR := Lib.hid hr
  have HRS := Lib.hid hrs
  have CM := Lib.hid cM
  have CR := Lib.hid cR
  have HNB := Lib.hid hNb
  have CA := Lib.hid cA
  clear cF hs hr hrs cM cR cA hok hco h0 h1 h2 h3 hbd hNb
  go_enter Try.func5, Try.ntmps5
  go_wp2_with (first | ((with_reducible refine hold_list ?_ ?_); (· exact Eq.refl true)) | ((with_reducible refine hold_region ?_ ?_); (· exact Eq.refl true)) | (with_reducible refine hold_loop ?_))
  have k0 : Blk (((w.alloc (.cells #[.int .i64 s.floors, .int .i64 s.gap, .int .i64 s.cars, .int .i64 s.capacity, .int .i64 s.open_, .int .i64 s.dwell, .int .i64 s.close, .int .i64 s.transfer, .slice A s.segs.length C, .int .i64 s.disp, .int .i64 s.horizon, .int .i64 s.bins, .int .i64 s.width] 42)).alloc (.cells #[.int .i64 c.pos, .int .i64 c.dir, .int .i64 c.mode, .int .i64 c.left, .bool c.waited, .slice A2 c.riders.length C2] 25)).alloc (.cells #[.int .u64 (x0 : Int), .int .u64 (y0 : Int), .int .u64 (x1 : Int), .int .u64 (y1 : Int)] 29)) (w.heap.size) 42 #[.int .i64 s.floors, .int .i64 s.gap, .int .i64 s.cars, .int .i64 s.capacity, .int .i64 s.open_, .int .i64 s.dwell, .int .i64 s.close, .int .i64 s.transfer, .slice A s.segs.length C, .int .i64 s.disp, .int .i64 s.horizon, .int .i64 s.bins, .int .i64 s.width] := (Blk.alloc (Blk.alloc (blk_at (by simp)) (.cells #[.int .i64 c.pos, .int .i64 c.dir, .int .i64 c.mode, .int .i64 c.left, .bool c.waited, .slice A2 c.riders.length C2] 25)) (.cells #[.int .u64 (x0 : Int), .int .u64 (y0 : Int), .int .u64 (x1 : Int), .int .u64 (y1 : Int)] 29))
  have k1 : Blk (((w.alloc (.cells #[.int .i64 s.floors, .int .i64 s.gap, .int .i64 s.cars, .int .i64 s.capacity, .int .i64 s.open_, .int .i64 s.dwell, .int .i64 s.close, .int .i64 s.transfer, .slice A s.segs.length C, .int .i64 s.disp, .int .i64 s.horizon, .int .i64 s.bins, .int .i64 s.width] 42)).alloc (.cells #[.int .i64 c.pos, .int .i64 c.dir, .int .i64 c.mode, .int .i64 c.left, .bool c.waited, .slice A2 c.riders.length C2] 25)).alloc (.cells #[.int .u64 (x0 : Int), .int .u64 (y0 : Int), .int .u64 (x1 : Int), .int .u64 (y1 : Int)] 29)) (w.heap.size + 1) 25 #[.int .i64 c.pos, .int .i64 c.dir, .int .i64 c.mode, .int .i64 c.left, .bool c.waited, .slice A2 c.riders.length C2] := (Blk.alloc (blk_at (by simp)) (.cells #[.int .u64 (x0 : Int), .int .u64 (y0 : Int), .int .u64 (x1 : Int), .int .u64 (y1 : Int)] 29))
  have k2 : Blk (((w.alloc (.cells #[.int .i64 s.floors, .int .i64 s.gap, .int .i64 s.cars, .int .i64 s.capacity, .int .i64 s.open_, .int .i64 s.dwell, .int .i64 s.close, .int .i64 s.transfer, .slice A s.segs.length C, .int .i64 s.disp, .int .i64 s.horizon, .int .i64 s.bins, .int .i64 s.width] 42)).alloc (.cells #[.int .i64 c.pos, .int .i64 c.dir, .int .i64 c.mode, .int .i64 c.left, .bool c.waited, .slice A2 c.riders.length C2] 25)).alloc (.cells #[.int .u64 (x0 : Int), .int .u64 (y0 : Int), .int .u64 (x1 : Int), .int .u64 (y1 : Int)] 29)) (w.heap.size + 2) 29 #[.int .u64 (x0 : Int), .int .u64 (y0 : Int), .int .u64 (x1 : Int), .int .u64 (y1 : Int)] := (blk_at (by simp))
  have hB : Below w.heap.size w (((w.alloc (.cells #[.int .i64 s.floors, .int .i64 s.gap, .int .i64 s.cars, .int .i64 s.capacity, .int .i64 s.open_, .int .i64 s.dwell, .int .i64 s.close, .int .i64 s.transfer, .slice A s.segs.length C, .int .i64 s.disp, .int .i64 s.horizon, .int .i64 s.bins, .int .i64 s.width] 42)).alloc (.cells #[.int .i64 c.pos, .int .i64 c.dir, .int .i64 c.mode, .int .i64 c.left, .bool c.waited, .slice A2 c.riders.length C2] 25)).alloc (.cells #[.int .u64 (x0 : Int), .int .u64 (y0 : Int), .int .u64 (x1 : Int), .int .u64 (y1 : Int)] 29)) := (bel_at (bel_at (bel_at (Below.refl _ _) (.cells #[.int .i64 s.floors, .int .i64 s.gap, .int .i64 s.cars, .int .i64 s.capacity, .int .i64 s.open_, .int .i64 s.dwell, .int .i64 s.close, .int .i64 s.transfer, .slice A s.segs.length C, .int .i64 s.disp, .int .i64 s.horizon, .int .i64 s.bins, .int .i64 s.width] 42)) (.cells #[.int .i64 c.pos, .int .i64 c.dir, .int .i64 c.mode, .int .i64 c.left, .bool c.waited, .slice A2 c.riders.length C2] 25)) (.cells #[.int .u64 (x0 : Int), .int .u64 (y0 : Int), .int .u64 (x1 : Int), .int .u64 (y1 : Int)] 29))
  generalize (((w.alloc (.cells #[.int .i64 s.floors, .int .i64 s.gap, .int .i64 s.cars, .int .i64 s.capacity, .int .i64 s.open_, .int .i64 s.dwell, .int .i64 s.close, .int .i64 s.transfer, .slice A s.segs.length C, .int .i64 s.disp, .int .i64 s.horizon, .int .i64 s.bins, .int .i64 s.width] 42)).alloc (.cells #[.int .i64 c.pos, .int .i64 c.dir, .int .i64 c.mode, .int .i64 c.left, .bool c.waited, .slice A2 c.riders.length C2] 25)).alloc (.cells #[.int .u64 (x0 : Int), .int .u64 (y0 : Int), .int .u64 (x1 : Int), .int .u64 (y1 : Int)] 29)) = w1 at *
  (try clear k0c k0f k0z); have k0c := fun i => Blk.cell k0 i; have k0f := fun i => Blk.free k0 i; have k0z := Blk.lt k0; (try clear k1c k1f k1z); have k1c := fun i => Blk.cell k1 i; have k1f := fun i => Blk.free k1 i; have k1z := Blk.lt k1; (try clear k2c k2f k2z); have k2c := fun i => Blk.cell k2 i; have k2f := fun i => Blk.free k2 i; have k2z := Blk.lt k2
  unfold Hold
  go_wp2_with (go_at_call 13; refine (CF.out _ ((RSlice.stays RSeg.stays) _ _ _ _ HS.out hB) ((RSlice.stays RRider.stays) _ _ _ _ HR.out hB)).mono ?_)
  rintro e w2 ⟨r, rfl, hfine, hb⟩
  replace hB := hB.trans (hb.mono hB.size)
  replace k0 := k0.below hb k0.lt
  replace k1 := k1.below hb k1.lt
  replace k2 := k2.below hb k2.lt
  (try clear k0c k0f k0z); have k0c := fun i => Blk.cell k0 i; have k0f := fun i => Blk.free k0 i; have k0z := Blk.lt k0; (try clear k1c k1f k1z); have k1c := fun i => Blk.cell k1 i; have k1f := fun i => Blk.free k1 i; have k1z := Blk.lt k1; (try clear k2c k2f k2z); have k2c := fun i => Blk.cell k2 i; have k2f := fun i => Blk.free k2 i; have k2z := Blk.lt k2
  clear hb CF HS HR
  cases r with
  | false =>
    go_wp2
    go_ret
    exact ⟨rfl, hB⟩
  | true =>
    have hF := hfine rfl
    clear hfine
    by_cases hm : c.mode = 1
    · by_cases hd : c.dir = 0
      · have q1 : (c.mode != 1) = false := by simpa using hm
        have q2 : (c.dir == 0) = true := by simpa using hd
        clear hm hd
        go_wp2
        go_ret
        exact ⟨rfl, hB⟩
      · have q1 : (c.mode != 1) = false := by simpa using hm
        have q2 : (c.dir == 0) = false := by simpa using hd
        have cM := CM.out hF hm hd
        have cR := CR.out hF hm hd
        have hb := HNB.out hF hm hd
        clear CM CR HNB hF hm hd
        have CM := Lib.hid cM
        have CR := Lib.hid cR
        clear cM cR
        have q3 : decide (0 < aN + 1) = true := decide_eq_true (by omega)
        have q4 : (aN + 1 == aN + 1) = true := by simp
        have q5 : (aF == aF) = true := by simp
        go_wp2_with (first | ((with_reducible refine hold_list ?_ ?_); (· exact Eq.refl true)) | ((with_reducible refine hold_region ?_ ?_); (· exact Eq.refl true)) | (with_reducible refine hold_loop ?_))
        unfold Hold
        go_wp2_with (first | ((with_reducible refine wpList_here ?_ ?_); (· exact Eq.refl true); first | ((with_reducible refine wpList_grow 7 ?_ ?_); (· exact Eq.refl true)) | ((with_reducible refine wpList_grow 12 ?_ ?_); (· exact Eq.refl true))) | ((with_reducible refine wp_region_any_here ?_ ?_); (· exact Eq.refl true); first | ((with_reducible refine wp_region_drawn 7 ?_ ?_ ?_ ?_); (· exact Eq.refl true); (· kernel_rfl); (· kernel_rfl)) | ((with_reducible refine wp_region_drawn 12 ?_ ?_ ?_ ?_); (· exact Eq.refl true); (· kernel_rfl); (· kernel_rfl)) | refine wp_region_grow (by kernel_rfl) (by kernel_rfl) ?_)); (try simp only [List.take_succ_cons, List.take_zero, List.drop_succ_cons, List.drop_zero]); (repeat (go_big_quiet_step ((first | (go_at_call 18; with_reducible exact grow_of (CM.out _ ((HRS.out.below hB).below (Grow.below _)))) | (go_at_call 19; with_reducible exact grow_of (CR.out _ ((HRS.out.below hB).below (Grow.below _)))) | (go_at_call 17; with_reducible exact grow_of (CA.out _)))))); (first | (refine wpQuiet_nil ?_; intro w' hb; replace hB := Below.trans hB (Below.mono hb (Below.size hB)); replace k0 := Blk.below k0 hb (Blk.lt k0); replace k1 := Blk.below k1 hb (Blk.lt k1); replace k2 := Blk.below k2 hb (Blk.lt k2); (try clear k0c k0f k0z); have k0c := fun i => Blk.cell k0 i; have k0f := fun i => Blk.free k0 i; have k0z := Blk.lt k0; (try clear k1c k1f k1z); have k1c := fun i => Blk.cell k1 i; have k1f := fun i => Blk.free k1 i; have k1z := Blk.lt k1; (try clear k2c k2f k2z); have k2c := fun i => Blk.cell k2 i; have k2f := fun i => Blk.free k2 i; have k2z := Blk.lt k2) | skip)
        all_goals (try (go_wp2_with (first | ((with_reducible refine wpList_here ?_ ?_); (· exact Eq.refl true); first | ((with_reducible refine wpList_grow 7 ?_ ?_); (· exact Eq.refl true)) | ((with_reducible refine wpList_grow 12 ?_ ?_); (· exact Eq.refl true))) | ((with_reducible refine wp_region_any_here ?_ ?_); (· exact Eq.refl true); first | ((with_reducible refine wp_region_drawn 7 ?_ ?_ ?_ ?_); (· exact Eq.refl true); (· kernel_rfl); (· kernel_rfl)) | ((with_reducible refine wp_region_drawn 12 ?_ ?_ ?_ ?_); (· exact Eq.refl true); (· kernel_rfl); (· kernel_rfl)) | refine wp_region_grow (by kernel_rfl) (by kernel_rfl) ?_)); (try simp only [List.take_succ_cons, List.take_zero, List.drop_succ_cons, List.drop_zero]); (repeat (go_big_quiet_step ((first | (go_at_call 18; with_reducible exact grow_of (CM.out _ ((HRS.out.below hB).below (Grow.below _)))) | (go_at_call 19; with_reducible exact grow_of (CR.out _ ((HRS.out.below hB).below (Grow.below _)))) | (go_at_call 17; with_reducible exact grow_of (CA.out _)))))); (first | (refine wpQuiet_nil ?_; intro w' hb; replace hB := Below.trans hB (Below.mono hb (Below.size hB)); replace k0 := Blk.below k0 hb (Blk.lt k0); replace k1 := Blk.below k1 hb (Blk.lt k1); replace k2 := Blk.below k2 hb (Blk.lt k2); (try clear k0c k0f k0z); have k0c := fun i => Blk.cell k0 i; have k0f := fun i => Blk.free k0 i; have k0z := Blk.lt k0; (try clear k1c k1f k1z); have k1c := fun i => Blk.cell k1 i; have k1f := fun i => Blk.free k1 i; have k1z := Blk.lt k1; (try clear k2c k2f k2z); have k2c := fun i => Blk.cell k2 i; have k2f := fun i => Blk.free k2 i; have k2z := Blk.lt k2) | skip)))
        all_goals (try (go_wp2_with (first | ((with_reducible refine wpList_here ?_ ?_); (· exact Eq.refl true); first | ((with_reducible refine wpList_grow 7 ?_ ?_); (· exact Eq.refl true)) | ((with_reducible refine wpList_grow 12 ?_ ?_); (· exact Eq.refl true))) | ((with_reducible refine wp_region_any_here ?_ ?_); (· exact Eq.refl true); first | ((with_reducible refine wp_region_drawn 7 ?_ ?_ ?_ ?_); (· exact Eq.refl true); (· kernel_rfl); (· kernel_rfl)) | ((with_reducible refine wp_region_drawn 12 ?_ ?_ ?_ ?_); (· exact Eq.refl true); (· kernel_rfl); (· kernel_rfl)) | refine wp_region_grow (by kernel_rfl) (by kernel_rfl) ?_)); (try simp only [List.take_succ_cons, List.take_zero, List.drop_succ_cons, List.drop_zero]); (repeat (go_big_quiet_step ((first | (go_at_call 18; with_reducible exact grow_of (CM.out _ ((HRS.out.below hB).below (Grow.below _)))) | (go_at_call 19; with_reducible exact grow_of (CR.out _ ((HRS.out.below hB).below (Grow.below _)))) | (go_at_call 17; with_reducible exact grow_of (CA.out _)))))); (first | (refine wpQuiet_nil ?_; intro w' hb; replace hB := Below.trans hB (Below.mono hb (Below.size hB)); replace k0 := Blk.below k0 hb (Blk.lt k0); replace k1 := Blk.below k1 hb (Blk.lt k1); replace k2 := Blk.below k2 hb (Blk.lt k2); (try clear k0c k0f k0z); have k0c := fun i => Blk.cell k0 i; have k0f := fun i => Blk.free k0 i; have k0z := Blk.lt k0; (try clear k1c k1f k1z); have k1c := fun i => Blk.cell k1 i; have k1f := fun i => Blk.free k1 i; have k1z := Blk.lt k1; (try clear k2c k2f k2z); have k2c := fun i => Blk.cell k2 i; have k2f := fun i => Blk.free k2 i; have k2z := Blk.lt k2) | skip)))
        all_goals (try (go_wp2_with (first | ((with_reducible refine wpList_here ?_ ?_); (· exact Eq.refl true); first | ((with_reducible refine wpList_grow 7 ?_ ?_); (· exact Eq.refl true)) | ((with_reducible refine wpList_grow 12 ?_ ?_); (· exact Eq.refl true))) | ((with_reducible refine wp_region_any_here ?_ ?_); (· exact Eq.refl true); first | ((with_reducible refine wp_region_drawn 7 ?_ ?_ ?_ ?_); (· exact Eq.refl true); (· kernel_rfl); (· kernel_rfl)) | ((with_reducible refine wp_region_drawn 12 ?_ ?_ ?_ ?_); (· exact Eq.refl true); (· kernel_rfl); (· kernel_rfl)) | refine wp_region_grow (by kernel_rfl) (by kernel_rfl) ?_)); (try simp only [List.take_succ_cons, List.take_zero, List.drop_succ_cons, List.drop_zero]); (repeat (go_big_quiet_step ((first | (go_at_call 18; with_reducible exact grow_of (CM.out _ ((HRS.out.below hB).below (Grow.below _)))) | (go_at_call 19; with_reducible exact grow_of (CR.out _ ((HRS.out.below hB).below (Grow.below _)))) | (go_at_call 17; with_reducible exact grow_of (CA.out _)))))); (first | (refine wpQuiet_nil ?_; intro w' hb; replace hB := Below.trans hB (Below.mono hb (Below.size hB)); replace k0 := Blk.below k0 hb (Blk.lt k0); replace k1 := Blk.below k1 hb (Blk.lt k1); replace k2 := Blk.below k2 hb (Blk.lt k2); (try clear k0c k0f k0z); have k0c := fun i => Blk.cell k0 i; have k0f := fun i => Blk.free k0 i; have k0z := Blk.lt k0; (try clear k1c k1f k1z); have k1c := fun i => Blk.cell k1 i; have k1f := fun i => Blk.free k1 i; have k1z := Blk.lt k1; (try clear k2c k2f k2z); have k2c := fun i => Blk.cell k2 i; have k2f := fun i => Blk.free k2 i; have k2z := Blk.lt k2) | skip)))
        all_goals (try (go_wp2_with (first | ((with_reducible refine wpList_here ?_ ?_); (· exact Eq.refl true); first | ((with_reducible refine wpList_grow 7 ?_ ?_); (· exact Eq.refl true)) | ((with_reducible refine wpList_grow 12 ?_ ?_); (· exact Eq.refl true))) | ((with_reducible refine wp_region_any_here ?_ ?_); (· exact Eq.refl true); first | ((with_reducible refine wp_region_drawn 7 ?_ ?_ ?_ ?_); (· exact Eq.refl true); (· kernel_rfl); (· kernel_rfl)) | ((with_reducible refine wp_region_drawn 12 ?_ ?_ ?_ ?_); (· exact Eq.refl true); (· kernel_rfl); (· kernel_rfl)) | refine wp_region_grow (by kernel_rfl) (by kernel_rfl) ?_)); (try simp only [List.take_succ_cons, List.take_zero, List.drop_succ_cons, List.drop_zero]); (repeat (go_big_quiet_step ((first | (go_at_call 18; with_reducible exact grow_of (CM.out _ ((HRS.out.below hB).below (Grow.below _)))) | (go_at_call 19; with_reducible exact grow_of (CR.out _ ((HRS.out.below hB).below (Grow.below _)))) | (go_at_call 17; with_reducible exact grow_of (CA.out _)))))); (first | (refine wpQuiet_nil ?_; intro w' hb; replace hB := Below.trans hB (Below.mono hb (Below.size hB)); replace k0 := Blk.below k0 hb (Blk.lt k0); replace k1 := Blk.below k1 hb (Blk.lt k1); replace k2 := Blk.below k2 hb (Blk.lt k2); (try clear k0c k0f k0z); have k0c := fun i => Blk.cell k0 i; have k0f := fun i => Blk.free k0 i; have k0z := Blk.lt k0; (try clear k1c k1f k1z); have k1c := fun i => Blk.cell k1 i; have k1f := fun i => Blk.free k1 i; have k1z := Blk.lt k1; (try clear k2c k2f k2z); have k2c := fun i => Blk.cell k2 i; have k2f := fun i => Blk.free k2 i; have k2z := Blk.lt k2) | skip)))
        go_ret
        exact ⟨rfl, hB⟩
    · have q1 : (c.mode != 1) = true := by simpa using hm
      clear hm
      go_wp2
      go_ret
      exact ⟨rfl, hB⟩
set_option maxRecDepth 100000 in
theorem walkMoveAhead {H : Type} (W : World) (base : Nat) (enc : TypeId × Value → H) {v0 : Value} {d0 : DataW H} {p0 : List MemPlace} {v1 : Value} {d1 : DataW H} {p1 : List MemPlace} {v2 : Value} {d2 : DataW H} {p2 : List MemPlace}
    (h0 : DataW.Trod enc Try.prog W 0 (fun _ => true) true 42 v0 d0 p0) (h1 : DataW.Trod enc Try.prog W 0 (fun _ => true) true 25 v1 d1 p1) (h2 : DataW.Trod enc Try.prog W 0 (fun _ => true) true 29 v2 d2 p2)
    (o0 : Value.okWide Try.prog W .any base 42 v0) (o1 : Value.okWide Try.prog W .any base 25 v1) (o2 : Value.okWide Try.prog W .any base 29 v2) :
    Calls Try.prog 5 #[v0, v1, v2] W fun e W' => e = .returned (.bool true) ∧ Below W.heap.size W W' := by
  obtain ⟨cs, rfl, m, hm⟩ := arg_agg (.inl ⟨_, Try.underlying42⟩) o0 h0
  obtain ⟨s, A, C, rfl, hok, hsl⟩ := read_Scen hm
  obtain ⟨cs, rfl, m1, hm1⟩ := arg_agg (.inl ⟨_, Try.underlying25⟩) o1 h1
  obtain ⟨c, A2, C2, rfl, hco, hrs⟩ := read_Car hm1
  obtain ⟨cs, rfl, m2, hm2⟩ := arg_agg (.inr ⟨_, _, Try.underlying29⟩) o2 h2
  obtain ⟨ux, uy, dx, dy, rfl, ⟨b1, b2⟩, b3, b4⟩ := read_sets2 hm2
  exact law_MoveAhead s A C c A2 C2 ux uy dx dy W hsl hrs hok hco b1 b2 b3 b4
end Go.Proofs.Ytlcnhpjmmjmkcaa

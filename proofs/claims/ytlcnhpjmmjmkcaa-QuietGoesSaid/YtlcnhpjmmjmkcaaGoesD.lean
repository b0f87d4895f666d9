
/-
  QuietGoes, walked: a car at an open door.
-/
import Derived.Test.YtlcnhpjmmjmkcaaGoesM
set_option linter.unusedVariables false
set_option linter.unusedSimpArgs false
namespace Go.Proofs.Ytlcnhpjmmjmkcaa
open Go.Joins Go.ChangeShapes Go.WideShapes Go.ChangeAt Go.RowKit Go.Deep

set_option maxRecDepth 20000 in
set_option maxHeartbeats 8000000 in
theorem goes_d (s : Scen) (A : Option Addr) (C : Nat) (c : Car) (A2 : Option Addr) (C2 : Nat) (x0 y0 x1 y1 : Nat) (w : World) (hs : RSlice 3 RSeg w [.slice A s.segs.length C] s.segs) (hr : RSlice 2 RRider w [.slice A2 c.riders.length C2] c.riders) (hok : s.ok) (hco : c.ok)
    (h0 : Wd x0) (h1 : Wd y0) (h2 : Wd x1) (h3 : Wd y1) (hm1 : c.mode ≠ 1) (hm0 : c.mode ≠ 0) :
    Calls Try.prog 7 #[s.val A C, c.val A2 C2, .agg #[.int .u64 (x0 : Int), .int .u64 (y0 : Int), .int .u64 (x1 : Int), .int .u64 (y1 : Int)]] w fun e w' => e = .returned (.bool true) ∧ Below w.heap.size w w' := by
  have cF := fun w hs hr => fine44 s A C c A2 C2 x0 y0 x1 y1 w hs hr hok hco h0 h1 h2 h3
  have hrs := rids_of hr
  have hbd := rids_bd hr
  have hlf := fun (h : FineQ s c x0 y0 x1 y1) => (show 1 ≤ c.left ∧ c.left ≤ 64 by
    have := h.car.2.2.2.1
    rcases h.ways with ⟨a, _⟩ | ⟨a, _⟩ | ⟨_, _, a, _⟩
    · exact absurd a hm0
    · exact absurd a hm1
    · omega)
  have hmd := fun (h : FineQ s c x0 y0 x1 y1) => (show 0 ≤ c.mode ∧ c.mode ≤ 4 from by have := h.car.2.2.2.2; omega)
  have cN := fun (h : FineQ s c x0 y0 x1 y1) (k : Int) w hr (hk : 0 ≤ k ∧ k < c.left) => (by
    have := quiet_Next s A C { c with left := c.left - k } A2 C2 x0 y0 x1 y1 w (fine_left h hm1 hm0 k hk) hr hbd h0 h1 h2 h3
    have e1 : qN s { c with left := c.left - k } x0 y0 x1 y1 = c.left - k := by
      unfold qN; rw [if_neg (show ¬ c.mode = 1 from hm1), if_neg (show ¬ c.mode = 0 from hm0)]
    have e2 : qB s { c with left := c.left - k } x0 y0 x1 y1 = true := by unfold qB; rw [if_neg (show ¬ c.mode = 0 from hm0)]
    rw [e1, e2] at this
    exact this : Calls Try.prog 21 #[s.val A C, (Car.val { c with left := c.left - k } A2 C2), sv x0 y0, sv x1 y1] w fun e w' => e = .returned (.tuple #[.int .i64 (c.left - k), .bool true]) ∧ Below w.heap.size w w')
  have cC := fun (h : FineQ s c x0 y0 x1 y1) (k : Int) w hr => ref39_Car { c with left := c.left - k } A2 C2 w hr (by have := h.car.2.2.1; show c.riders.length ≤ 1000; omega)
  have cB := fun (h : FineQ s c x0 y0 x1 y1) (j k : Int) w (hj : 0 ≤ j ∧ j ≤ c.left) (hk : 0 ≤ k ∧ k ≤ c.left) => (by
    have hp := h.car.1
    have ht := high_bd (small_of h.fine)
    have hl := h.car.2.2.2.1
    have := quiet_After { c with left := c.left - j } A2 C2 k w (show -1000000 ≤ c.pos ∧ c.pos ≤ 1000000 by omega) (show -1000000 ≤ c.left - j ∧ c.left - j ≤ 1000000 by omega) (by omega) (by have := h.car.2.1; show -1 ≤ c.dir ∧ c.dir ≤ 1; omega)
    have ea : afterC { c with left := c.left - j } k = { c with left := c.left - (j + k) } := by
      rw [after_tick (c := { c with left := c.left - j }) hm1 hm0 (hmd h)]
      show Car.mk _ _ _ (c.left - j - k) _ _ = _
      rw [show c.left - j - k = c.left - (j + k) by omega]
    rw [ea] at this
    exact this : Calls Try.prog 26 #[(Car.val { c with left := c.left - j } A2 C2), .int .i64 k] w fun e w' => e = .returned (Car.val { c with left := c.left - (j + k) } A2 C2) ∧ Below w.heap.size w w')
  have cA := fun w => alive44 w
  unfold sv at *
  have CF := Lib.hid cF
  have HS := Lib.hid hs
  have HR := Lib.hid hr
  have HRS := Lib.hid hrs
  have CA := Lib.hid cA
  have HLF_ := Lib.hid hlf
  have CN_ := Lib.hid cN
  have CC_ := Lib.hid cC
  have CB_ := Lib.hid cB
  have q7 : (c.mode == 1) = false := by simpa using hm1
  have q8 : (c.mode == 0) = false := by simpa using hm0
  clear hlf hmd cN cC cB hm1 hm0
  clear cF hs hr hrs cA hok hco h0 h1 h2 h3 hbd
  go_enter Try.func7, Try.ntmps7
  go_wp2_with (first | ((with_reducible refine hold_list ?_ ?_); (· exact Eq.refl true)) | ((with_reducible refine hold_region ?_ ?_); (· exact Eq.refl true)) | (with_reducible refine hold_loop ?_))
  have k0 : Blk (((w.alloc (.cells #[.int .i64 s.floors, .int .i64 s.gap, .int .i64 s.cars, .int .i64 s.capacity, .int .i64 s.open_, .int .i64 s.dwell, .int .i64 s.close, .int .i64 s.transfer, .slice A s.segs.length C, .int .i64 s.disp, .int .i64 s.horizon, .int .i64 s.bins, .int .i64 s.width] 42)).alloc (.cells #[.int .i64 c.pos, .int .i64 c.dir, .int .i64 c.mode, .int .i64 c.left, .bool c.waited, .slice A2 c.riders.length C2] 25)).alloc (.cells #[.int .u64 (x0 : Int), .int .u64 (y0 : Int), .int .u64 (x1 : Int), .int .u64 (y1 : Int)] 29)) (w.heap.size) 42 #[.int .i64 s.floors, .int .i64 s.gap, .int .i64 s.cars, .int .i64 s.capacity, .int .i64 s.open_, .int .i64 s.dwell, .int .i64 s.close, .int .i64 s.transfer, .slice A s.segs.length C, .int .i64 s.disp, .int .i64 s.horizon, .int .i64 s.bins, .int .i64 s.width] := (Blk.alloc (Blk.alloc (blk_at (by simp)) (.cells #[.int .i64 c.pos, .int .i64 c.dir, .int .i64 c.mode, .int .i64 c.left, .bool c.waited, .slice A2 c.riders.length C2] 25)) (.cells #[.int .u64 (x0 : Int), .int .u64 (y0 : Int), .int .u64 (x1 : Int), .int .u64 (y1 : Int)] 29))
  have k1 : Blk (((w.alloc (.cells #[.int .i64 s.floors, .int .i64 s.gap, .int .i64 s.cars, .int .i64 s.capacity, .int .i64 s.open_, .int .i64 s.dwell, .int .i64 s.close, .int .i64 s.transfer, .slice A s.segs.length C, .int .i64 s.disp, .int .i64 s.horizon, .int .i64 s.bins, .int .i64 s.width] 42)).alloc (.cells #[.int .i64 c.pos, .int .i64 c.dir, .int .i64 c.mode, .int .i64 c.left, .bool c.waited, .slice A2 c.riders.length C2] 25)).alloc (.cells #[.int .u64 (x0 : Int), .int .u64 (y0 : Int), .int .u64 (x1 : Int), .int .u64 (y1 : Int)] 29)) (w.heap.size + 1) 25 #[.int .i64 c.pos, .int .i64 c.dir, .int .i64 c.mode, .int .i64 c.left, .bool c.waited, .slice A2 c.riders.length C2] := (Blk.alloc (blk_at (by simp)) (.cells #[.int .u64 (x0 : Int), .int .u64 (y0 : Int), .int .u64 (x1 : Int), .int .u64 (y1 : Int)] 29))
  have k2 : Blk (((w.alloc (.cells #[.int .i64 s.floors, .int .i64 s.gap, .int .i64 s.cars, .int .i64 s.capacity, .int .i64 s.open_, .int .i64 s.dwell, .int .i64 s.close, .int .i64 s.transfer, .slice A s.segs.length C, .int .i64 s.disp, .int .i64 s.horizon, .int .i64 s.bins, .int .i64 s.width] 42)).alloc (.cells #[.int .i64 c.pos, .int .i64 c.dir, .int .i64 c.mode, .int .i64 c.left, .bool c.waited, .slice A2 c.riders.length C2] 25)).alloc (.cells #[.int .u64 (x0 : Int), .int .u64 (y0 : Int), .int .u64 (x1 : Int), .int .u64 (y1 : Int)] 29)) (w.heap.size + 2) 29 #[.int .u64 (x0 : Int), .int .u64 (y0 : Int), .int .u64 (x1 : Int), .int .u64 (y1 : Int)] := (blk_at (by simp))
  have hB : Below w.heap.size w (((w.alloc (.cells #[.int .i64 s.floors, .int .i64 s.gap, .int .i64 s.cars, .int .i64 s.capacity, .int .i64 s.open_, .int .i64 s.dwell, .int .i64 s.close, .int .i64 s.transfer, .slice A s.segs.length C, .int .i64 s.disp, .int .i64 s.horizon, .int .i64 s.bins, .int .i64 s.width] 42)).alloc (.cells #[.int .i64 c.pos, .int .i64 c.dir, .int .i64 c.mode, .int .i64 c.left, .bool c.waited, .slice A2 c.riders.length C2] 25)).alloc (.cells #[.int .u64 (x0 : Int), .int .u64 (y0 : Int), .int .u64 (x1 : Int), .int .u64 (y1 : Int)] 29)) := (bel_at (bel_at (bel_at (Below.refl _ _) (.cells #[.int .i64 s.floors, .int .i64 s.gap, .int .i64 s.cars, .int .i64 s.capacity, .int .i64 s.open_, .int .i64 s.dwell, .int .i64 s.close, .int .i64 s.transfer, .slice A s.segs.length C, .int .i64 s.disp, .int .i64 s.horizon, .int .i64 s.bins, .int .i64 s.width] 42)) (.cells #[.int .i64 c.pos, .int .i64 c.dir, .int .i64 c.mode, .int .i64 c.left, .bool c.waited, .slice A2 c.riders.length C2] 25)) (.cells #[.int .u64 (x0 : Int), .int .u64 (y0 : Int), .int .u64 (x1 : Int), .int .u64 (y1 : Int)] 29))
  generalize (((w.alloc (.cells #[.int .i64 s.floors, .int .i64 s.gap, .int .i64 s.cars, .int .i64 s.capacity, .int .i64 s.open_, .int .i64 s.dwell, .int .i64 s.close, .int .i64 s.transfer, .slice A s.segs.length C, .int .i64 s.disp, .int .i64 s.horizon, .int .i64 s.bins, .int .i64 s.width] 42)).alloc (.cells #[.int .i64 c.pos, .int .i64 c.dir, .int .i64 c.mode, .int .i64 c.left, .bool c.waited, .slice A2 c.riders.length C2] 25)).alloc (.cells #[.int .u64 (x0 : Int), .int .u64 (y0 : Int), .int .u64 (x1 : Int), .int .u64 (y1 : Int)] 29)) = w1 at *
  (try clear k0c k0f k0z); have k0c := fun i => Blk.cell k0 i; have k0f := fun i => Blk.free k0 i; have k0z := Blk.lt k0; (try clear k1c k1f k1z); have k1c := fun i => Blk.cell k1 i; have k1f := fun i => Blk.free k1 i; have k1z := Blk.lt k1; (try clear k2c k2f k2z); have k2c := fun i => Blk.cell k2 i; have k2f := fun i => Blk.free k2 i; have k2z := Blk.lt k2
  unfold Hold
  go_wp2_with (go_at_call 20; refine (CF.out _ ((RSlice.stays RSeg.stays) _ _ _ _ HS.out hB) ((RSlice.stays RRider.stays) _ _ _ _ HR.out hB)).mono ?_)
  rintro e w2 ⟨r, rfl, hfine, hb⟩
  replace hB := hB.trans (hb.mono hB.size)
  replace k0 := k0.below hb k0.lt
  replace k1 := k1.below hb k1.lt
  replace k2 := k2.below hb k2.lt
  (try clear k0c k0f k0z); have k0c := fun i => Blk.cell k0 i; have k0f := fun i => Blk.free k0 i; have k0z := Blk.lt k0; (try clear k1c k1f k1z); have k1c := fun i => Blk.cell k1 i; have k1f := fun i => Blk.free k1 i; have k1z := Blk.lt k1; (try clear k2c k2f k2z); have k2c := fun i => Blk.cell k2 i; have k2f := fun i => Blk.free k2 i; have k2z := Blk.lt k2
  clear hb CF HS HR
  cases r with
  | false =>
    go_wp2
    go_ret
    exact ⟨rfl, hB⟩
  | true =>
    have hF := hfine rfl
    clear hfine
    have hlf := HLF_.out hF
    have cN := CN_.out hF
    have cC := CC_.out hF
    have cB := CB_.out hF
    clear HLF_ CN_ CC_ CB_ hF
    obtain ⟨p, d, md, l, wt, rs⟩ := c
    simp only at *
    have cN0 := fun w hr => cN 0 w hr (by omega)
    have cZ := fun w => cB 0 0 w (by omega) (by omega)
    have cZc := cC 0
    simp only [Int.sub_zero, Int.add_zero] at cN0 cZ cZc
    have CN := Lib.hid cN
    have CN0 := Lib.hid cN0
    have CC := Lib.hid cC
    have CB := Lib.hid cB
    have CZ := Lib.hid cZ
    have CZC := Lib.hid cZc
    clear cN cN0 cC cB cZ cZc
    have q0 : decide (l < 1) = false := decide_eq_false (by omega)
    have q1 : decide (5000 < l) = false := decide_eq_false (by omega)
    go_wp2_with (first | ((with_reducible refine hold_list ?_ ?_); (· exact Eq.refl true)) | ((with_reducible refine hold_region ?_ ?_); (· exact Eq.refl true)) | (with_reducible refine hold_loop ?_))
    unfold Hold
    go_wp2_with (first | (first | ((with_reducible refine wpList_here ?_ ?_); (· exact Eq.refl true); first | ((with_reducible refine wpList_grow 7 ?_ ?_); (· exact Eq.refl true))) | ((with_reducible refine wp_region_any_here ?_ ?_); (· exact Eq.refl true); first | ((with_reducible refine wp_region_drawn 7 ?_ ?_ ?_ ?_); (· exact Eq.refl true); (· kernel_rfl); (· kernel_rfl)) | refine wp_region_grow (by kernel_rfl) (by kernel_rfl) ?_)); (try simp only [List.take_succ_cons, List.take_zero, List.drop_succ_cons, List.drop_zero]); (repeat (go_big_quiet_step ((first | (go_at_call 21; with_reducible exact grow_of (CN0.out _ ((HRS.out.below hB).below (Grow.below _)))))))); (first | (refine wpQuiet_nil ?_; intro w' hb; replace hB := Below.trans hB (Below.mono hb (Below.size hB)); replace k0 := Blk.below k0 hb (Blk.lt k0); replace k1 := Blk.below k1 hb (Blk.lt k1); replace k2 := Blk.below k2 hb (Blk.lt k2); (try clear k0c k0f k0z); have k0c := fun i => Blk.cell k0 i; have k0f := fun i => Blk.free k0 i; have k0z := Blk.lt k0; (try clear k1c k1f k1z); have k1c := fun i => Blk.cell k1 i; have k1f := fun i => Blk.free k1 i; have k1z := Blk.lt k1; (try clear k2c k2f k2z); have k2c := fun i => Blk.cell k2 i; have k2f := fun i => Blk.free k2 i; have k2z := Blk.lt k2) | skip) | ((with_reducible refine hold_list ?_ ?_); (· exact Eq.refl true)) | ((with_reducible refine hold_region ?_ ?_); (· exact Eq.refl true)) | (with_reducible refine hold_loop ?_))
    all_goals (try (go_wp2_with (first | ((with_reducible refine hold_list ?_ ?_); (· exact Eq.refl true)) | ((with_reducible refine hold_region ?_ ?_); (· exact Eq.refl true)) | (with_reducible refine hold_loop ?_))))
    have hk9 : w.heap.size + 3 ≤ w'.heap.size := by omega
    have k9 : Blk (w'.alloc (.cells #[.int .i64 p, .int .i64 d, .int .i64 md, .int .i64 l, .bool wt, .slice A2 rs.length C2] 25)) w'.heap.size 25 #[.int .i64 p, .int .i64 d, .int .i64 md, .int .i64 l, .bool wt, .slice A2 rs.length C2] := Blk.new _ _ _
    replace k0 := Blk.alloc k0 (.cells #[.int .i64 p, .int .i64 d, .int .i64 md, .int .i64 l, .bool wt, .slice A2 rs.length C2] 25)
    replace k1 := Blk.alloc k1 (.cells #[.int .i64 p, .int .i64 d, .int .i64 md, .int .i64 l, .bool wt, .slice A2 rs.length C2] 25)
    replace k2 := Blk.alloc k2 (.cells #[.int .i64 p, .int .i64 d, .int .i64 md, .int .i64 l, .bool wt, .slice A2 rs.length C2] 25)
    replace hB := bel_at hB (.cells #[.int .i64 p, .int .i64 d, .int .i64 md, .int .i64 l, .bool wt, .slice A2 rs.length C2] 25)
    generalize w'.alloc (.cells #[.int .i64 p, .int .i64 d, .int .i64 md, .int .i64 l, .bool wt, .slice A2 rs.length C2] 25) = w5 at *
    (try clear k0c k0f k0z); have k0c := fun i => Blk.cell k0 i; have k0f := fun i => Blk.free k0 i; have k0z := Blk.lt k0; (try clear k1c k1f k1z); have k1c := fun i => Blk.cell k1 i; have k1f := fun i => Blk.free k1 i; have k1z := Blk.lt k1; (try clear k2c k2f k2z); have k2c := fun i => Blk.cell k2 i; have k2f := fun i => Blk.free k2 i; have k2z := Blk.lt k2; (try clear k9c k9f k9z); have k9c := fun i => Blk.cell k9 i; have k9f := fun i => Blk.free k9 i; have k9z := Blk.lt k9
    generalize w'.heap.size = b9 at *
    unfold Hold
    go_loopw [10, 11, 12, 13] (fun n _ _ _ wr => ∃ m : Nat, (m : Int) < l ∧ n = .int .i64 (m + 1) ∧ Blk wr w.heap.size 42 #[.int .i64 s.floors, .int .i64 s.gap, .int .i64 s.cars, .int .i64 s.capacity, .int .i64 s.open_, .int .i64 s.dwell, .int .i64 s.close, .int .i64 s.transfer, .slice A s.segs.length C, .int .i64 s.disp, .int .i64 s.horizon, .int .i64 s.bins, .int .i64 s.width] ∧ Blk wr (w.heap.size + 1) 25 #[.int .i64 p, .int .i64 d, .int .i64 md, .int .i64 l, .bool wt, .slice A2 rs.length C2] ∧ Blk wr (w.heap.size + 2) 29 #[.int .u64 (x0 : Int), .int .u64 (y0 : Int), .int .u64 (x1 : Int), .int .u64 (y1 : Int)] ∧ Blk wr b9 25 #[.int .i64 p, .int .i64 d, .int .i64 md, .int .i64 (l - (m : Int)), .bool wt, .slice A2 rs.length C2] ∧ Below w.heap.size w wr) (fun n _ _ _ _ => (l - intOf n).toNat)
    case atStart => exact ⟨0, by omega, by simp, k0, k1, k2, by simpa using k9, hB⟩
    case round =>
      clear k0 k1 k2 k9 k0c k0f k0z k1c k1f k1z k2c k2f k2z k9c k9f k9z hB
      obtain ⟨m, hm, rfl, k0, k1, k2, k9, hB⟩ := hrel
      have z0 := k0.lt
      have z1 := k1.lt
      have z9 := k9.lt
      by_cases hlt : (m : Int) + 1 < l
      · have hhv := half_bd (x := (m : Int) + 1) (by omega)
        have cN := fun w hr => CN.out ((m : Int) + 1) w hr (by omega)
        have cC := CC.out ((m : Int) + 1)
        have cB := fun w => CB.out 0 ((m : Int) + 1) w (by omega) (by omega)
        have cH := fun w => CB.out 0 (((m : Int) + 1) / 2) w (by omega) (by omega)
        have cD := fun w => CB.out (((m : Int) + 1) / 2) ((m : Int) + 1 - ((m : Int) + 1) / 2) w (by omega) (by omega)
        rw [show ((m : Int) + 1) / 2 + ((m : Int) + 1 - ((m : Int) + 1) / 2) = (m : Int) + 1 by omega] at cD
        simp only [Int.sub_zero, Int.zero_add] at cB cH
        have e5 : IntKind.i64.wrap (l - ((m : Int) + 1)) = l - ((m : Int) + 1) := IntWalk.i64_in _ (by omega)
        have e6 : IntKind.i64.wrap (l - (m : Int) - 1) = l - ((m : Int) + 1) := by rw [IntWalk.i64_in _ (by omega)]; omega
        have e4 : IntKind.i64.wrap ((m : Int) + 1 - ((m : Int) + 1) / 2) = (m : Int) + 1 - ((m : Int) + 1) / 2 := IntWalk.i64_in _ (by omega)
        have hlk : l - ((m + 1 : Nat) : Int) = l - ((m : Int) + 1) := by omega
        have q6 : decide ((m : Int) + 1 < l) = true := decide_eq_true (by omega)
        clear CN CN0 CC CB CZ CZC
        generalize l - (m : Int) = lm at *
        generalize hlq : l - ((m : Int) + 1) = lk at *
        have q5 : (lk != lk) = false := by simp
        have HLK := Lib.hid hlk
        generalize l - ((m : Int) + 1) / 2 = lh at *
        generalize hj : ((m : Int) + 1) / 2 = jj at *
        have CN := Lib.hid cN
        have CC := Lib.hid cC
        have CB := Lib.hid cB
        have CH := Lib.hid cH
        have CD := Lib.hid cD
        clear cN cC cB cH cD hlk
        (try clear k0c k0f k0z); have k0c := fun i => Blk.cell k0 i; have k0f := fun i => Blk.free k0 i; have k0z := Blk.lt k0; (try clear k1c k1f k1z); have k1c := fun i => Blk.cell k1 i; have k1f := fun i => Blk.free k1 i; have k1z := Blk.lt k1; (try clear k2c k2f k2z); have k2c := fun i => Blk.cell k2 i; have k2f := fun i => Blk.free k2 i; have k2z := Blk.lt k2; (try clear k9c k9f k9z); have k9c := fun i => Blk.cell k9 i; have k9f := fun i => Blk.free k9 i; have k9z := Blk.lt k9
        go_wp2_with (first | ((with_reducible refine hold_list ?_ ?_); (· exact Eq.refl true)) | ((with_reducible refine hold_region ?_ ?_); (· exact Eq.refl true)) | (with_reducible refine hold_loop ?_))
        replace k9 := Blk.set_ k9 3 (.int .i64 lk)
        replace k0 := Blk.far k0 (p := ⟨b9, 3, none⟩) (by show _ ≠ b9; omega) (.int .i64 lk)
        replace k1 := Blk.far k1 (p := ⟨b9, 3, none⟩) (by show _ ≠ b9; omega) (.int .i64 lk)
        replace k2 := Blk.far k2 (p := ⟨b9, 3, none⟩) (by show _ ≠ b9; omega) (.int .i64 lk)
        replace hB := Below.setCell hB (p := ⟨b9, 3, none⟩) (by show _ ≤ b9; omega) (.int .i64 lk)
        generalize wr.setCell ⟨b9, 3, none⟩ (.int .i64 lk) = w6 at *
        replace k9 : Blk w6 b9 25 #[.int .i64 p, .int .i64 d, .int .i64 md, .int .i64 lk, .bool wt, .slice A2 rs.length C2] := k9
        (try clear k0c k0f k0z); have k0c := fun i => Blk.cell k0 i; have k0f := fun i => Blk.free k0 i; have k0z := Blk.lt k0; (try clear k1c k1f k1z); have k1c := fun i => Blk.cell k1 i; have k1f := fun i => Blk.free k1 i; have k1z := Blk.lt k1; (try clear k2c k2f k2z); have k2c := fun i => Blk.cell k2 i; have k2f := fun i => Blk.free k2 i; have k2z := Blk.lt k2; (try clear k9c k9f k9z); have k9c := fun i => Blk.cell k9 i; have k9f := fun i => Blk.free k9 i; have k9z := Blk.lt k9
        unfold Hold
        go_wp2_with (first | (first | ((with_reducible refine wpList_here ?_ ?_); (· exact Eq.refl true); first | ((with_reducible refine wpList_grow 3 ?_ ?_); (· exact Eq.refl true))) | ((with_reducible refine wp_region_any_here ?_ ?_); (· exact Eq.refl true); first | ((with_reducible refine wp_region_drawn 3 ?_ ?_ ?_ ?_); (· exact Eq.refl true); (· kernel_rfl); (· kernel_rfl)) | refine wp_region_grow (by kernel_rfl) (by kernel_rfl) ?_)); (try simp only [List.take_succ_cons, List.take_zero, List.drop_succ_cons, List.drop_zero]); (repeat (go_big_quiet_step ((first | (go_at_call 26; with_reducible exact grow_of (CB.out _)))))); (first | (refine wpQuiet_nil ?_; intro w' hb; replace hB := Below.trans hB (Below.mono hb (Below.size hB)); replace k0 := Blk.below k0 hb (Blk.lt k0); replace k1 := Blk.below k1 hb (Blk.lt k1); replace k2 := Blk.below k2 hb (Blk.lt k2); replace k9 := Blk.below k9 hb (Blk.lt k9); (try clear k0c k0f k0z); have k0c := fun i => Blk.cell k0 i; have k0f := fun i => Blk.free k0 i; have k0z := Blk.lt k0; (try clear k1c k1f k1z); have k1c := fun i => Blk.cell k1 i; have k1f := fun i => Blk.free k1 i; have k1z := Blk.lt k1; (try clear k2c k2f k2z); have k2c := fun i => Blk.cell k2 i; have k2f := fun i => Blk.free k2 i; have k2z := Blk.lt k2; (try clear k9c k9f k9z); have k9c := fun i => Blk.cell k9 i; have k9f := fun i => Blk.free k9 i; have k9z := Blk.lt k9) | skip) | ((with_reducible refine hold_list ?_ ?_); (· exact Eq.refl true)) | ((with_reducible refine hold_region ?_ ?_); (· exact Eq.refl true)) | (with_reducible refine hold_loop ?_))
        all_goals (try (go_wp2_with (first | ((with_reducible refine hold_list ?_ ?_); (· exact Eq.refl true)) | ((with_reducible refine hold_region ?_ ?_); (· exact Eq.refl true)) | (with_reducible refine hold_loop ?_))))
        have k5 : Blk (w'.alloc (.cells #[.int .i64 p, .int .i64 d, .int .i64 md, .int .i64 lk, .bool wt, .slice A2 rs.length C2] 25)) w'.heap.size 25 #[.int .i64 p, .int .i64 d, .int .i64 md, .int .i64 lk, .bool wt, .slice A2 rs.length C2] := Blk.new _ _ _
        replace k0 := Blk.alloc k0 (.cells #[.int .i64 p, .int .i64 d, .int .i64 md, .int .i64 lk, .bool wt, .slice A2 rs.length C2] 25)
        replace k1 := Blk.alloc k1 (.cells #[.int .i64 p, .int .i64 d, .int .i64 md, .int .i64 lk, .bool wt, .slice A2 rs.length C2] 25)
        replace k2 := Blk.alloc k2 (.cells #[.int .i64 p, .int .i64 d, .int .i64 md, .int .i64 lk, .bool wt, .slice A2 rs.length C2] 25)
        replace k9 := Blk.alloc k9 (.cells #[.int .i64 p, .int .i64 d, .int .i64 md, .int .i64 lk, .bool wt, .slice A2 rs.length C2] 25)
        replace hB := bel_at hB (.cells #[.int .i64 p, .int .i64 d, .int .i64 md, .int .i64 lk, .bool wt, .slice A2 rs.length C2] 25)
        generalize w'.alloc (.cells #[.int .i64 p, .int .i64 d, .int .i64 md, .int .i64 lk, .bool wt, .slice A2 rs.length C2] 25) = w7 at *
        (try clear k0c k0f k0z); have k0c := fun i => Blk.cell k0 i; have k0f := fun i => Blk.free k0 i; have k0z := Blk.lt k0; (try clear k1c k1f k1z); have k1c := fun i => Blk.cell k1 i; have k1f := fun i => Blk.free k1 i; have k1z := Blk.lt k1; (try clear k2c k2f k2z); have k2c := fun i => Blk.cell k2 i; have k2f := fun i => Blk.free k2 i; have k2z := Blk.lt k2; (try clear k9c k9f k9z); have k9c := fun i => Blk.cell k9 i; have k9f := fun i => Blk.free k9 i; have k9z := Blk.lt k9; (try clear k5c k5f k5z); have k5c := fun i => Blk.cell k5 i; have k5f := fun i => Blk.free k5 i; have k5z := Blk.lt k5
        unfold Hold
        go_wp2_with (first | ((with_reducible refine wpList_here ?_ ?_); (· exact Eq.refl true); first | ((with_reducible refine wpList_grow 7 ?_ ?_); (· exact Eq.refl true)) | ((with_reducible refine wpList_grow 99 ?_ ?_); (· exact Eq.refl true))) | ((with_reducible refine wp_region_any_here ?_ ?_); (· exact Eq.refl true); first | ((with_reducible refine wp_region_drawn 7 ?_ ?_ ?_ ?_); (· exact Eq.refl true); (· kernel_rfl); (· kernel_rfl)) | ((with_reducible refine wp_region_drawn 99 ?_ ?_ ?_ ?_); (· exact Eq.refl true); (· kernel_rfl); (· kernel_rfl)) | refine wp_region_grow (by kernel_rfl) (by kernel_rfl) ?_)); (try simp only [List.take_succ_cons, List.take_zero, List.drop_succ_cons, List.drop_zero]); (repeat (go_big_quiet_step ((first | (go_at_call 21; with_reducible exact grow_of (CN.out _ ((HRS.out.below hB).below (Grow.below _)))) | (go_at_call 15; with_reducible exact grow_of (CC.out _ ((HRS.out.below hB).below (Grow.below _)))) | (go_at_call 26; with_reducible exact grow_of (CB.out _)) | (go_at_call 26; with_reducible exact grow_of (CH.out _)) | (go_at_call 26; with_reducible exact grow_of (CD.out _)))))); (first | (refine wpQuiet_nil ?_; intro w' hb; replace hB := Below.trans hB (Below.mono hb (Below.size hB)); replace k0 := Blk.below k0 hb (Blk.lt k0); replace k1 := Blk.below k1 hb (Blk.lt k1); replace k2 := Blk.below k2 hb (Blk.lt k2); replace k9 := Blk.below k9 hb (Blk.lt k9); replace k5 := Blk.below k5 hb (Blk.lt k5); (try clear k0c k0f k0z); have k0c := fun i => Blk.cell k0 i; have k0f := fun i => Blk.free k0 i; have k0z := Blk.lt k0; (try clear k1c k1f k1z); have k1c := fun i => Blk.cell k1 i; have k1f := fun i => Blk.free k1 i; have k1z := Blk.lt k1; (try clear k2c k2f k2z); have k2c := fun i => Blk.cell k2 i; have k2f := fun i => Blk.free k2 i; have k2z := Blk.lt k2; (try clear k9c k9f k9z); have k9c := fun i => Blk.cell k9 i; have k9f := fun i => Blk.free k9 i; have k9z := Blk.lt k9; (try clear k5c k5f k5z); have k5c := fun i => Blk.cell k5 i; have k5f := fun i => Blk.free k5 i; have k5z := Blk.lt k5) | skip)
        all_goals (try (go_wp2_with (first | ((with_reducible refine wpList_here ?_ ?_); (· exact Eq.refl true); first | ((with_reducible refine wpList_grow 7 ?_ ?_); (· exact Eq.refl true)) | ((with_reducible refine wpList_grow 99 ?_ ?_); (· exact Eq.refl true))) | ((with_reducible refine wp_region_any_here ?_ ?_); (· exact Eq.refl true); first | ((with_reducible refine wp_region_drawn 7 ?_ ?_ ?_ ?_); (· exact Eq.refl true); (· kernel_rfl); (· kernel_rfl)) | ((with_reducible refine wp_region_drawn 99 ?_ ?_ ?_ ?_); (· exact Eq.refl true); (· kernel_rfl); (· kernel_rfl)) | refine wp_region_grow (by kernel_rfl) (by kernel_rfl) ?_)); (try simp only [List.take_succ_cons, List.take_zero, List.drop_succ_cons, List.drop_zero]); (repeat (go_big_quiet_step ((first | (go_at_call 21; with_reducible exact grow_of (CN.out _ ((HRS.out.below hB).below (Grow.below _)))) | (go_at_call 15; with_reducible exact grow_of (CC.out _ ((HRS.out.below hB).below (Grow.below _)))) | (go_at_call 26; with_reducible exact grow_of (CB.out _)) | (go_at_call 26; with_reducible exact grow_of (CH.out _)) | (go_at_call 26; with_reducible exact grow_of (CD.out _)))))); (first | (refine wpQuiet_nil ?_; intro w' hb; replace hB := Below.trans hB (Below.mono hb (Below.size hB)); replace k0 := Blk.below k0 hb (Blk.lt k0); replace k1 := Blk.below k1 hb (Blk.lt k1); replace k2 := Blk.below k2 hb (Blk.lt k2); replace k9 := Blk.below k9 hb (Blk.lt k9); replace k5 := Blk.below k5 hb (Blk.lt k5); (try clear k0c k0f k0z); have k0c := fun i => Blk.cell k0 i; have k0f := fun i => Blk.free k0 i; have k0z := Blk.lt k0; (try clear k1c k1f k1z); have k1c := fun i => Blk.cell k1 i; have k1f := fun i => Blk.free k1 i; have k1z := Blk.lt k1; (try clear k2c k2f k2z); have k2c := fun i => Blk.cell k2 i; have k2f := fun i => Blk.free k2 i; have k2z := Blk.lt k2; (try clear k9c k9f k9z); have k9c := fun i => Blk.cell k9 i; have k9f := fun i => Blk.free k9 i; have k9z := Blk.lt k9; (try clear k5c k5f k5z); have k5c := fun i => Blk.cell k5 i; have k5f := fun i => Blk.free k5 i; have k5z := Blk.lt k5) | skip)))
        all_goals (try (go_wp2_with (first | ((with_reducible refine wpList_here ?_ ?_); (· exact Eq.refl true); first | ((with_reducible refine wpList_grow 7 ?_ ?_); (· exact Eq.refl true)) | ((with_reducible refine wpList_grow 99 ?_ ?_); (· exact Eq.refl true))) | ((with_reducible refine wp_region_any_here ?_ ?_); (· exact Eq.refl true); first | ((with_reducible refine wp_region_drawn 7 ?_ ?_ ?_ ?_); (· exact Eq.refl true); (· kernel_rfl); (· kernel_rfl)) | ((with_reducible refine wp_region_drawn 99 ?_ ?_ ?_ ?_); (· exact Eq.refl true); (· kernel_rfl); (· kernel_rfl)) | refine wp_region_grow (by kernel_rfl) (by kernel_rfl) ?_)); (try simp only [List.take_succ_cons, List.take_zero, List.drop_succ_cons, List.drop_zero]); (repeat (go_big_quiet_step ((first | (go_at_call 21; with_reducible exact grow_of (CN.out _ ((HRS.out.below hB).below (Grow.below _)))) | (go_at_call 15; with_reducible exact grow_of (CC.out _ ((HRS.out.below hB).below (Grow.below _)))) | (go_at_call 26; with_reducible exact grow_of (CB.out _)) | (go_at_call 26; with_reducible exact grow_of (CH.out _)) | (go_at_call 26; with_reducible exact grow_of (CD.out _)))))); (first | (refine wpQuiet_nil ?_; intro w' hb; replace hB := Below.trans hB (Below.mono hb (Below.size hB)); replace k0 := Blk.below k0 hb (Blk.lt k0); replace k1 := Blk.below k1 hb (Blk.lt k1); replace k2 := Blk.below k2 hb (Blk.lt k2); replace k9 := Blk.below k9 hb (Blk.lt k9); replace k5 := Blk.below k5 hb (Blk.lt k5); (try clear k0c k0f k0z); have k0c := fun i => Blk.cell k0 i; have k0f := fun i => Blk.free k0 i; have k0z := Blk.lt k0; (try clear k1c k1f k1z); have k1c := fun i => Blk.cell k1 i; have k1f := fun i => Blk.free k1 i; have k1z := Blk.lt k1; (try clear k2c k2f k2z); have k2c := fun i => Blk.cell k2 i; have k2f := fun i => Blk.free k2 i; have k2z := Blk.lt k2; (try clear k9c k9f k9z); have k9c := fun i => Blk.cell k9 i; have k9f := fun i => Blk.free k9 i; have k9z := Blk.lt k9; (try clear k5c k5f k5z); have k5c := fun i => Blk.cell k5 i; have k5f := fun i => Blk.free k5 i; have k5z := Blk.lt k5) | skip)))
        all_goals (try (go_wp2_with (first | ((with_reducible refine wpList_here ?_ ?_); (· exact Eq.refl true); first | ((with_reducible refine wpList_grow 7 ?_ ?_); (· exact Eq.refl true)) | ((with_reducible refine wpList_grow 99 ?_ ?_); (· exact Eq.refl true))) | ((with_reducible refine wp_region_any_here ?_ ?_); (· exact Eq.refl true); first | ((with_reducible refine wp_region_drawn 7 ?_ ?_ ?_ ?_); (· exact Eq.refl true); (· kernel_rfl); (· kernel_rfl)) | ((with_reducible refine wp_region_drawn 99 ?_ ?_ ?_ ?_); (· exact Eq.refl true); (· kernel_rfl); (· kernel_rfl)) | refine wp_region_grow (by kernel_rfl) (by kernel_rfl) ?_)); (try simp only [List.take_succ_cons, List.take_zero, List.drop_succ_cons, List.drop_zero]); (repeat (go_big_quiet_step ((first | (go_at_call 21; with_reducible exact grow_of (CN.out _ ((HRS.out.below hB).below (Grow.below _)))) | (go_at_call 15; with_reducible exact grow_of (CC.out _ ((HRS.out.below hB).below (Grow.below _)))) | (go_at_call 26; with_reducible exact grow_of (CB.out _)) | (go_at_call 26; with_reducible exact grow_of (CH.out _)) | (go_at_call 26; with_reducible exact grow_of (CD.out _)))))); (first | (refine wpQuiet_nil ?_; intro w' hb; replace hB := Below.trans hB (Below.mono hb (Below.size hB)); replace k0 := Blk.below k0 hb (Blk.lt k0); replace k1 := Blk.below k1 hb (Blk.lt k1); replace k2 := Blk.below k2 hb (Blk.lt k2); replace k9 := Blk.below k9 hb (Blk.lt k9); replace k5 := Blk.below k5 hb (Blk.lt k5); (try clear k0c k0f k0z); have k0c := fun i => Blk.cell k0 i; have k0f := fun i => Blk.free k0 i; have k0z := Blk.lt k0; (try clear k1c k1f k1z); have k1c := fun i => Blk.cell k1 i; have k1f := fun i => Blk.free k1 i; have k1z := Blk.lt k1; (try clear k2c k2f k2z); have k2c := fun i => Blk.cell k2 i; have k2f := fun i => Blk.free k2 i; have k2z := Blk.lt k2; (try clear k9c k9f k9z); have k9c := fun i => Blk.cell k9 i; have k9f := fun i => Blk.free k9 i; have k9z := Blk.lt k9; (try clear k5c k5f k5z); have k5c := fun i => Blk.cell k5 i; have k5f := fun i => Blk.free k5 i; have k5z := Blk.lt k5) | skip)))
        go_roundw
        case rel => exact ⟨m + 1, by omega, by simp, k0, k1, k2, by rw [HLK.out]; exact k9, hB⟩
        case measure => simp [intOf]; omega
      · have hme : l - (m : Int) = 1 := by omega
        have q6 : decide ((m : Int) + 1 < l) = false := decide_eq_false (by omega)
        rw [hme] at k9
        clear CN CN0 CC CB hme
        (try clear k0c k0f k0z); have k0c := fun i => Blk.cell k0 i; have k0f := fun i => Blk.free k0 i; have k0z := Blk.lt k0; (try clear k1c k1f k1z); have k1c := fun i => Blk.cell k1 i; have k1f := fun i => Blk.free k1 i; have k1z := Blk.lt k1; (try clear k2c k2f k2z); have k2c := fun i => Blk.cell k2 i; have k2f := fun i => Blk.free k2 i; have k2z := Blk.lt k2; (try clear k9c k9f k9z); have k9c := fun i => Blk.cell k9 i; have k9f := fun i => Blk.free k9 i; have k9z := Blk.lt k9
        go_wp2_with (first | ((with_reducible refine hold_list ?_ ?_); (· exact Eq.refl true)) | ((with_reducible refine hold_region ?_ ?_); (· exact Eq.refl true)) | (with_reducible refine hold_loop ?_))
        unfold Hold
        go_wp2_with (first | ((with_reducible refine wpList_here ?_ ?_); (· exact Eq.refl true); first | ((with_reducible refine wpList_grow 99 ?_ ?_); (· exact Eq.refl true))) | ((with_reducible refine wp_region_any_here ?_ ?_); (· exact Eq.refl true); first | ((with_reducible refine wp_region_drawn 99 ?_ ?_ ?_ ?_); (· exact Eq.refl true); (· kernel_rfl); (· kernel_rfl)) | refine wp_region_grow (by kernel_rfl) (by kernel_rfl) ?_)); (try simp only [List.take_succ_cons, List.take_zero, List.drop_succ_cons, List.drop_zero]); (repeat (go_big_quiet_step ((first | (go_at_call 26; with_reducible exact grow_of (CZ.out _)) | (go_at_call 15; with_reducible exact grow_of (CZC.out _ ((HRS.out.below hB).below (Grow.below _)))) | (go_at_call 22; with_reducible exact grow_of (CA.out _)))))); (first | (refine wpQuiet_nil ?_; intro w' hb; replace hB := Below.trans hB (Below.mono hb (Below.size hB)); replace k0 := Blk.below k0 hb (Blk.lt k0); replace k1 := Blk.below k1 hb (Blk.lt k1); replace k2 := Blk.below k2 hb (Blk.lt k2); replace k9 := Blk.below k9 hb (Blk.lt k9); (try clear k0c k0f k0z); have k0c := fun i => Blk.cell k0 i; have k0f := fun i => Blk.free k0 i; have k0z := Blk.lt k0; (try clear k1c k1f k1z); have k1c := fun i => Blk.cell k1 i; have k1f := fun i => Blk.free k1 i; have k1z := Blk.lt k1; (try clear k2c k2f k2z); have k2c := fun i => Blk.cell k2 i; have k2f := fun i => Blk.free k2 i; have k2z := Blk.lt k2; (try clear k9c k9f k9z); have k9c := fun i => Blk.cell k9 i; have k9f := fun i => Blk.free k9 i; have k9z := Blk.lt k9) | skip)
        all_goals (try (go_wp2_with (first | ((with_reducible refine wpList_here ?_ ?_); (· exact Eq.refl true); first | ((with_reducible refine wpList_grow 99 ?_ ?_); (· exact Eq.refl true))) | ((with_reducible refine wp_region_any_here ?_ ?_); (· exact Eq.refl true); first | ((with_reducible refine wp_region_drawn 99 ?_ ?_ ?_ ?_); (· exact Eq.refl true); (· kernel_rfl); (· kernel_rfl)) | refine wp_region_grow (by kernel_rfl) (by kernel_rfl) ?_)); (try simp only [List.take_succ_cons, List.take_zero, List.drop_succ_cons, List.drop_zero]); (repeat (go_big_quiet_step ((first | (go_at_call 26; with_reducible exact grow_of (CZ.out _)) | (go_at_call 15; with_reducible exact grow_of (CZC.out _ ((HRS.out.below hB).below (Grow.below _)))) | (go_at_call 22; with_reducible exact grow_of (CA.out _)))))); (first | (refine wpQuiet_nil ?_; intro w' hb; replace hB := Below.trans hB (Below.mono hb (Below.size hB)); replace k0 := Blk.below k0 hb (Blk.lt k0); replace k1 := Blk.below k1 hb (Blk.lt k1); replace k2 := Blk.below k2 hb (Blk.lt k2); replace k9 := Blk.below k9 hb (Blk.lt k9); (try clear k0c k0f k0z); have k0c := fun i => Blk.cell k0 i; have k0f := fun i => Blk.free k0 i; have k0z := Blk.lt k0; (try clear k1c k1f k1z); have k1c := fun i => Blk.cell k1 i; have k1f := fun i => Blk.free k1 i; have k1z := Blk.lt k1; (try clear k2c k2f k2z); have k2c := fun i => Blk.cell k2 i; have k2f := fun i => Blk.free k2 i; have k2z := Blk.lt k2; (try clear k9c k9f k9z); have k9c := fun i => Blk.cell k9 i; have k9f := fun i => Blk.free k9 i; have k9z := Blk.lt k9) | skip)))
        all_goals (try (go_wp2_with (first | ((with_reducible refine wpList_here ?_ ?_); (· exact Eq.refl true); first | ((with_reducible refine wpList_grow 99 ?_ ?_); (· exact Eq.refl true))) | ((with_reducible refine wp_region_any_here ?_ ?_); (· exact Eq.refl true); first | ((with_reducible refine wp_region_drawn 99 ?_ ?_ ?_ ?_); (· exact Eq.refl true); (· kernel_rfl); (· kernel_rfl)) | refine wp_region_grow (by kernel_rfl) (by kernel_rfl) ?_)); (try simp only [List.take_succ_cons, List.take_zero, List.drop_succ_cons, List.drop_zero]); (repeat (go_big_quiet_step ((first | (go_at_call 26; with_reducible exact grow_of (CZ.out _)) | (go_at_call 15; with_reducible exact grow_of (CZC.out _ ((HRS.out.below hB).below (Grow.below _)))) | (go_at_call 22; with_reducible exact grow_of (CA.out _)))))); (first | (refine wpQuiet_nil ?_; intro w' hb; replace hB := Below.trans hB (Below.mono hb (Below.size hB)); replace k0 := Blk.below k0 hb (Blk.lt k0); replace k1 := Blk.below k1 hb (Blk.lt k1); replace k2 := Blk.below k2 hb (Blk.lt k2); replace k9 := Blk.below k9 hb (Blk.lt k9); (try clear k0c k0f k0z); have k0c := fun i => Blk.cell k0 i; have k0f := fun i => Blk.free k0 i; have k0z := Blk.lt k0; (try clear k1c k1f k1z); have k1c := fun i => Blk.cell k1 i; have k1f := fun i => Blk.free k1 i; have k1z := Blk.lt k1; (try clear k2c k2f k2z); have k2c := fun i => Blk.cell k2 i; have k2f := fun i => Blk.free k2 i; have k2z := Blk.lt k2; (try clear k9c k9f k9z); have k9c := fun i => Blk.cell k9 i; have k9f := fun i => Blk.free k9 i; have k9z := Blk.lt k9) | skip)))
        go_ret
        exact ⟨rfl, hB⟩
end Go.Proofs.Ytlcnhpjmmjmkcaa


/-
  QuietGoes, walked: a moving car.
-/
import Derived.Test.YtlcnhpjmmjmkcaaGoesP
import Derived.Test.YtlcnhpjmmjmkcaaAheadR
import Derived.Test.YtlcnhpjmmjmkcaaRef39
set_option linter.unusedVariables false
set_option linter.unusedSimpArgs false
namespace Go.Proofs.Ytlcnhpjmmjmkcaa
open Go.Joins Go.ChangeShapes Go.WideShapes Go.ChangeAt Go.RowKit Go.Deep

theorem FineP.at {s : Scen} {c : Car} {x0 y0 x1 y1 : Nat} (h : FineQ s c x0 y0 x1 y1) (hm : c.mode = 1) (hd : c.dir ≠ 0) (h0 : Wd x0) (h1 : Wd y0) (h2 : Wd x1) (h3 : Wd y1) (m : Nat) (hle : (m : Int) ≤ ahN s c x0 y0 x1 y1) : FineQ s (carAt c m) x0 y0 x1 y1 :=
  ⟨h.fine, (fine_at (h.moving hm).1 hm hd h0 h1 h2 h3 m hle).car, h.riders, h.up, h.down, .inr (.inl ⟨hm, hd⟩)⟩
theorem half_bd {x : Int} (h : 0 ≤ x) : 0 ≤ x / 2 ∧ x / 2 ≤ x := ⟨Int.ediv_nonneg h (by omega), Int.ediv_le_self _ h⟩
set_option maxRecDepth 20000 in
set_option maxHeartbeats 8000000 in
theorem goes_m (s : Scen) (A : Option Addr) (C : Nat) (c : Car) (A2 : Option Addr) (C2 : Nat) (x0 y0 x1 y1 : Nat) (w : World) (hs : RSlice 3 RSeg w [.slice A s.segs.length C] s.segs) (hr : RSlice 2 RRider w [.slice A2 c.riders.length C2] c.riders) (hok : s.ok) (hco : c.ok)
    (h0 : Wd x0) (h1 : Wd y0) (h2 : Wd x1) (h3 : Wd y1) (hm : c.mode = 1) :
    Calls Try.prog 7 #[s.val A C, c.val A2 C2, .agg #[.int .u64 (x0 : Int), .int .u64 (y0 : Int), .int .u64 (x1 : Int), .int .u64 (y1 : Int)]] w fun e w' => e = .returned (.bool true) ∧ Below w.heap.size w w' := by
  have cF := fun w hs hr => fine44 s A C c A2 C2 x0 y0 x1 y1 w hs hr hok hco h0 h1 h2 h3
  have hrs := rids_of hr
  have hbd := rids_bd hr
  have hsm := fun (h : FineQ s c x0 y0 x1 y1) => small_of h.fine
  have hway := fun (h : FineQ s c x0 y0 x1 y1) m hle => way_in (h.moving hm).1 hm (h.moving hm).2 h0 h1 h2 h3 m hle
  have hNb := fun (h : FineQ s c x0 y0 x1 y1) => ahN_bd (h.moving hm).1 hm (h.moving hm).2 h0 h1 h2 h3
  have hgo := fun (h : FineQ s c x0 y0 x1 y1) m hlt => ah_goes (h.moving hm).1 hm (h.moving hm).2 h0 h1 h2 h3 m hlt
  have hoth := fun (h : FineQ s c x0 y0 x1 y1) m he => ah_other (h.moving hm).1 hm (h.moving hm).2 h0 h1 h2 h3 m he
  have cS := fun (h : FineQ s c x0 y0 x1 y1) m w hr hle => ref40_Step s A C (carAt c m) A2 C2 x0 y0 x1 y1 w (small_of h.fine) h.fine.2.1.1 hr (by have := h.car.2.2.1; show c.riders.length ≤ 1000; omega) hbd (way_in (h.moving hm).1 hm (h.moving hm).2 h0 h1 h2 h3 m hle) h.car.2.1 h0 h1 h2 h3
  have hsr := fun m => (show (stepC s (carAt c m) x0 y0 x1 y1).riders = c.riders by unfold stepC carAt; (repeat' split) <;> rfl)
  have cN := fun (h : FineQ s c x0 y0 x1 y1) (m : Nat) w hr hle => (by
    have := quiet_Next s A C (carAt c m) A2 C2 x0 y0 x1 y1 w (FineP.at h hm (h.moving hm).2 h0 h1 h2 h3 m hle) hr hbd h0 h1 h2 h3
    have e1 : qN s (carAt c m) x0 y0 x1 y1 = ahN s c x0 y0 x1 y1 - m + 1 := by
      unfold qN; rw [if_pos (show (carAt c m).mode = 1 from hm), ah_shift (h.moving hm).1 hm (h.moving hm).2 h0 h1 h2 h3 m hle]
    have e2 : qB s (carAt c m) x0 y0 x1 y1 = true := by unfold qB; rw [if_neg (by show c.mode ≠ 0; omega)]
    rw [e1, e2] at this
    exact this : Calls Try.prog 21 #[s.val A C, (carAt c m).val A2 C2, sv x0 y0, sv x1 y1] w fun e w' => e = .returned (.tuple #[.int .i64 (ahN s c x0 y0 x1 y1 - m + 1), .bool true]) ∧ Below w.heap.size w w')
  have cC := fun (h : FineQ s c x0 y0 x1 y1) m w hr => ref39_Car (carAt c m) A2 C2 w hr (by have := h.car.2.2.1; show c.riders.length ≤ 1000; omega)
  have cB := fun (h : FineQ s c x0 y0 x1 y1) (k : Nat) w (hk : (k : Int) ≤ ahN s c x0 y0 x1 y1) => (by
    have hp := h.car.1
    have ht := high_bd (small_of h.fine)
    have hl := h.car.2.2.2.1
    have hb := ahN_bd (h.moving hm).1 hm (h.moving hm).2 h0 h1 h2 h3
    have := quiet_After c A2 C2 k w (by omega) (by omega) (by omega) (by have := h.car.2.1; omega)
    rw [after_move hm] at this
    exact this : Calls Try.prog 26 #[c.val A2 C2, .int .i64 k] w fun e w' => e = .returned ((carAt c k).val A2 C2) ∧ Below w.heap.size w w')
  have cD := fun (h : FineQ s c x0 y0 x1 y1) (j k : Nat) w (hk : ((j + k : Nat) : Int) ≤ ahN s c x0 y0 x1 y1) => (by
    have hp := way_in (h.moving hm).1 hm (h.moving hm).2 h0 h1 h2 h3 j (by omega)
    have hl := h.car.2.2.2.1
    have hb := ahN_bd (h.moving hm).1 hm (h.moving hm).2 h0 h1 h2 h3
    have := quiet_After (carAt c j) A2 C2 k w (by omega) (by show -1000000 ≤ c.left ∧ c.left ≤ 1000000; omega) (by omega) (by have := h.car.2.1; show -1 ≤ c.dir ∧ c.dir ≤ 1; omega)
    rw [after_move (show (carAt c j).mode = 1 from hm), carAt_add] at this
    exact this : Calls Try.prog 26 #[(carAt c j).val A2 C2, .int .i64 k] w fun e w' => e = .returned ((carAt c (j + k)).val A2 C2) ∧ Below w.heap.size w w')
  have cA := fun w => alive44 w
  have HBD := Lib.hid hbd
  unfold sv at *
  have CF := Lib.hid cF
  have HS := Lib.hid hs
  have HR := Lib.hid hr
  have HRS := Lib.hid hrs
  have CA := Lib.hid cA
  have HSM_ := Lib.hid hsm
  have HWAY_ := Lib.hid hway
  have HNB_ := Lib.hid hNb
  have HGO_ := Lib.hid hgo
  have HOTH_ := Lib.hid hoth
  have CS_ := Lib.hid cS
  have CN_ := Lib.hid cN
  have CC_ := Lib.hid cC
  have CB_ := Lib.hid cB
  have CD_ := Lib.hid cD
  have HSR_ := Lib.hid hsr
  clear hsm hway hNb hgo hoth cS cN cC cB cD hsr
  have HM := Lib.hid hm
  clear hm
  clear cF hs hr hrs cA hok hco h0 h1 h2 h3 hbd
  go_enter Try.func7, Try.ntmps7
  go_wp2_with (first | ((with_reducible refine hold_list ?_ ?_); (· exact Eq.refl true)) | ((with_reducible refine hold_region ?_ ?_); (· exact Eq.refl true)) | (with_reducible refine hold_loop ?_))
  have k0 : Blk (((w.alloc (.cells #[.int .i64 s.floors, .int .i64 s.gap, .int .i64 s.cars, .int .i64 s.capacity, .int .i64 s.open_, .int .i64 s.dwell, .int .i64 s.close, .int .i64 s.transfer, .slice A s.segs.length C, .int .i64 s.disp, .int .i64 s.horizon, .int .i64 s.bins, .int .i64 s.width] 42)).alloc (.cells #[.int .i64 c.pos, .int .i64 c.dir, .int .i64 c.mode, .int .i64 c.left, .bool c.waited, .slice A2 c.riders.length C2] 25)).alloc (.cells #[.int .u64 (x0 : Int), .int .u64 (y0 : Int), .int .u64 (x1 : Int), .int .u64 (y1 : Int)] 29)) (w.heap.size) 42 #[.int .i64 s.floors, .int .i64 s.gap, .int .i64 s.cars, .int .i64 s.capacity, .int .i64 s.open_, .int .i64 s.dwell, .int .i64 s.close, .int .i64 s.transfer, .slice A s.segs.length C, .int .i64 s.disp, .int .i64 s.horizon, .int .i64 s.bins, .int .i64 s.width] := (Blk.alloc (Blk.alloc (blk_at (by simp)) (.cells #[.int .i64 c.pos, .int .i64 c.dir, .int .i64 c.mode, .int .i64 c.left, .bool c.waited, .slice A2 c.riders.length C2] 25)) (.cells #[.int .u64 (x0 : Int), .int .u64 (y0 : Int), .int .u64 (x1 : Int), .int .u64 (y1 : Int)] 29))
  have k1 : Blk (((w.alloc (.cells #[.int .i64 s.floors, .int .i64 s.gap, .int .i64 s.cars, .int .i64 s.capacity, .int .i64 s.open_, .int .i64 s.dwell, .int .i64 s.close, .int .i64 s.transfer, .slice A s.segs.length C, .int .i64 s.disp, .int .i64 s.horizon, .int .i64 s.bins, .int .i64 s.width] 42)).alloc (.cells #[.int .i64 c.pos, .int .i64 c.dir, .int .i64 c.mode, .int .i64 c.left, .bool c.waited, .slice A2 c.riders.length C2] 25)).alloc (.cells #[.int .u64 (x0 : Int), .int .u64 (y0 : Int), .int .u64 (x1 : Int), .int .u64 (y1 : Int)] 29)) (w.heap.size + 1) 25 #[.int .i64 c.pos, .int .i64 c.dir, .int .i64 c.mode, .int .i64 c.left, .bool c.waited, .slice A2 c.riders.length C2] := (Blk.alloc (blk_at (by simp)) (.cells #[.int .u64 (x0 : Int), .int .u64 (y0 : Int), .int .u64 (x1 : Int), .int .u64 (y1 : Int)] 29))
  have k2 : Blk (((w.alloc (.cells #[.int .i64 s.floors, .int .i64 s.gap, .int .i64 s.cars, .int .i64 s.capacity, .int .i64 s.open_, .int .i64 s.dwell, .int .i64 s.close, .int .i64 s.transfer, .slice A s.segs.length C, .int .i64 s.disp, .int .i64 s.horizon, .int .i64 s.bins, .int .i64 s.width] 42)).alloc (.cells #[.int .i64 c.pos, .int .i64 c.dir, .int .i64 c.mode, .int .i64 c.left, .bool c.waited, .slice A2 c.riders.length C2] 25)).alloc (.cells #[.int .u64 (x0 : Int), .int .u64 (y0 : Int), .int .u64 (x1 : Int), .int .u64 (y1 : Int)] 29)) (w.heap.size + 2) 29 #[.int .u64 (x0 : Int), .int .u64 (y0 : Int), .int .u64 (x1 : Int), .int .u64 (y1 : Int)] := (blk_at (by simp))
  have hB : Below w.heap.size w (((w.alloc (.cells #[.int .i64 s.floors, .int .i64 s.gap, .int .i64 s.cars, .int .i64 s.capacity, .int .i64 s.open_, .int .i64 s.dwell, .int .i64 s.close, .int .i64 s.transfer, .slice A s.segs.length C, .int .i64 s.disp, .int .i64 s.horizon, .int .i64 s.bins, .int .i64 s.width] 42)).alloc (.cells #[.int .i64 c.pos, .int .i64 c.dir, .int .i64 c.mode, .int .i64 c.left, .bool c.waited, .slice A2 c.riders.length C2] 25)).alloc (.cells #[.int .u64 (x0 : Int), .int .u64 (y0 : Int), .int .u64 (x1 : Int), .int .u64 (y1 : Int)] 29)) := (bel_at (bel_at (bel_at (Below.refl _ _) (.cells #[.int .i64 s.floors, .int .i64 s.gap, .int .i64 s.cars, .int .i64 s.capacity, .int .i64 s.open_, .int .i64 s.dwell, .int .i64 s.close, .int .i64 s.transfer, .slice A s.segs.length C, .int .i64 s.disp, .int .i64 s.horizon, .int .i64 s.bins, .int .i64 s.width] 42)) (.cells #[.int .i64 c.pos, .int .i64 c.dir, .int .i64 c.mode, .int .i64 c.left, .bool c.waited, .slice A2 c.riders.length C2] 25)) (.cells #[.int .u64 (x0 : Int), .int .u64 (y0 : Int), .int .u64 (x1 : Int), .int .u64 (y1 : Int)] 29))
  generalize (((w.alloc (.cells #[.int .i64 s.floors, .int .i64 s.gap, .int .i64 s.cars, .int .i64 s.capacity, .int .i64 s.open_, .int .i64 s.dwell, .int .i64 s.close, .int .i64 s.transfer, .slice A s.segs.length C, .int .i64 s.disp, .int .i64 s.horizon, .int .i64 s.bins, .int .i64 s.width] 42)).alloc (.cells #[.int .i64 c.pos, .int .i64 c.dir, .int .i64 c.mode, .int .i64 c.left, .bool c.waited, .slice A2 c.riders.length C2] 25)).alloc (.cells #[.int .u64 (x0 : Int), .int .u64 (y0 : Int), .int .u64 (x1 : Int), .int .u64 (y1 : Int)] 29)) = w1 at *
  (try clear k0c k0f k0z); have k0c := fun i => Blk.cell k0 i; have k0f := fun i => Blk.free k0 i; have k0z := Blk.lt k0; (try clear k1c k1f k1z); have k1c := fun i => Blk.cell k1 i; have k1f := fun i => Blk.free k1 i; have k1z := Blk.lt k1; (try clear k2c k2f k2z); have k2c := fun i => Blk.cell k2 i; have k2f := fun i => Blk.free k2 i; have k2z := Blk.lt k2
  unfold Hold
  go_wp2_with (go_at_call 20; refine (CF.out _ ((RSlice.stays RSeg.stays) _ _ _ _ HS.out hB) ((RSlice.stays RRider.stays) _ _ _ _ HR.out hB)).mono ?_)
  rintro e w2 ⟨r, rfl, hfine, hb⟩
  replace hB := hB.trans (hb.mono hB.size)
  replace k0 := k0.below hb k0.lt
  replace k1 := k1.below hb k1.lt
  replace k2 := k2.below hb k2.lt
  (try clear k0c k0f k0z); have k0c := fun i => Blk.cell k0 i; have k0f := fun i => Blk.free k0 i; have k0z := Blk.lt k0; (try clear k1c k1f k1z); have k1c := fun i => Blk.cell k1 i; have k1f := fun i => Blk.free k1 i; have k1z := Blk.lt k1; (try clear k2c k2f k2z); have k2c := fun i => Blk.cell k2 i; have k2f := fun i => Blk.free k2 i; have k2z := Blk.lt k2
  clear hb CF HS HR
  cases r with
  | false =>
    go_wp2
    go_ret
    exact ⟨rfl, hB⟩
  | true =>
    have hF := hfine rfl
    clear hfine
    have hm := HM.out
    clear HM
    have hsm := HSM_.out hF
    have hp0 := HWAY_.out hF 0
    have hNb := HNB_.out hF
    have hway := HWAY_.out hF
    have hgo := HGO_.out hF
    have hoth := HOTH_.out hF
    have cS := CS_.out hF
    have cN := CN_.out hF
    have cC := CC_.out hF
    have cB := CB_.out hF
    have cD := CD_.out hF
    have hsr := HSR_.out
    have cN0 := fun w hr => cN 0 w hr (by omega)
    rw [carAt_zero] at cN0
    rw [show ahN s c x0 y0 x1 y1 - (0 : Nat) + 1 = ahN s c x0 y0 x1 y1 + 1 by omega] at cN0
    clear HSM_ HWAY_ HNB_ HGO_ HOTH_ CS_ CN_ CC_ CB_ CD_ HSR_ hF
    generalize ahN s c x0 y0 x1 y1 = aN at *
    obtain ⟨p, d, md, l, wt, rs⟩ := c
    simp only [carAt] at *
    subst hm
    have HWAY := Lib.hid hway
    have HGO := Lib.hid hgo
    have HOTH := Lib.hid hoth
    have CS := Lib.hid cS
    have CN := Lib.hid cN
    have CN0 := Lib.hid cN0
    have CC := Lib.hid cC
    have CB := Lib.hid cB
    have CD := Lib.hid cD
    have HSR := Lib.hid hsr
    clear hway hgo hoth cS cN cN0 cC cB cD hsr hp0
    have q0 : decide (aN + 1 < 1) = false := decide_eq_false (by omega)
    have q1 : decide (5000 < aN + 1) = false := decide_eq_false (by omega)
    go_wp2_with (first | ((with_reducible refine hold_list ?_ ?_); (· exact Eq.refl true)) | ((with_reducible refine hold_region ?_ ?_); (· exact Eq.refl true)) | (with_reducible refine hold_loop ?_))
    unfold Hold
    go_wp2_with (first | (first | ((with_reducible refine wpList_here ?_ ?_); (· exact Eq.refl true); first | ((with_reducible refine wpList_grow 7 ?_ ?_); (· exact Eq.refl true))) | ((with_reducible refine wp_region_any_here ?_ ?_); (· exact Eq.refl true); first | ((with_reducible refine wp_region_drawn 7 ?_ ?_ ?_ ?_); (· exact Eq.refl true); (· kernel_rfl); (· kernel_rfl)) | refine wp_region_grow (by kernel_rfl) (by kernel_rfl) ?_)); (try simp only [List.take_succ_cons, List.take_zero, List.drop_succ_cons, List.drop_zero]); (repeat (go_big_quiet_step ((first | (go_at_call 21; with_reducible exact grow_of (CN0.out _ ((HRS.out.below hB).below (Grow.below _)))))))); (first | (refine wpQuiet_nil ?_; intro w' hb; replace hB := Below.trans hB (Below.mono hb (Below.size hB)); replace k0 := Blk.below k0 hb (Blk.lt k0); replace k1 := Blk.below k1 hb (Blk.lt k1); replace k2 := Blk.below k2 hb (Blk.lt k2); (try clear k0c k0f k0z); have k0c := fun i => Blk.cell k0 i; have k0f := fun i => Blk.free k0 i; have k0z := Blk.lt k0; (try clear k1c k1f k1z); have k1c := fun i => Blk.cell k1 i; have k1f := fun i => Blk.free k1 i; have k1z := Blk.lt k1; (try clear k2c k2f k2z); have k2c := fun i => Blk.cell k2 i; have k2f := fun i => Blk.free k2 i; have k2z := Blk.lt k2) | skip) | ((with_reducible refine hold_list ?_ ?_); (· exact Eq.refl true)) | ((with_reducible refine hold_region ?_ ?_); (· exact Eq.refl true)) | (with_reducible refine hold_loop ?_))
    all_goals (try (go_wp2_with (first | ((with_reducible refine hold_list ?_ ?_); (· exact Eq.refl true)) | ((with_reducible refine hold_region ?_ ?_); (· exact Eq.refl true)) | (with_reducible refine hold_loop ?_))))
    have hk9 : w.heap.size + 3 ≤ w'.heap.size := by omega
    have k9 : Blk (w'.alloc (.cells #[.int .i64 p, .int .i64 d, .int .i64 1, .int .i64 l, .bool wt, .slice A2 rs.length C2] 25)) w'.heap.size 25 #[.int .i64 p, .int .i64 d, .int .i64 1, .int .i64 l, .bool wt, .slice A2 rs.length C2] := Blk.new _ _ _
    replace k0 := Blk.alloc k0 (.cells #[.int .i64 p, .int .i64 d, .int .i64 1, .int .i64 l, .bool wt, .slice A2 rs.length C2] 25)
    replace k1 := Blk.alloc k1 (.cells #[.int .i64 p, .int .i64 d, .int .i64 1, .int .i64 l, .bool wt, .slice A2 rs.length C2] 25)
    replace k2 := Blk.alloc k2 (.cells #[.int .i64 p, .int .i64 d, .int .i64 1, .int .i64 l, .bool wt, .slice A2 rs.length C2] 25)
    replace hB := bel_at hB (.cells #[.int .i64 p, .int .i64 d, .int .i64 1, .int .i64 l, .bool wt, .slice A2 rs.length C2] 25)
    generalize w'.alloc (.cells #[.int .i64 p, .int .i64 d, .int .i64 1, .int .i64 l, .bool wt, .slice A2 rs.length C2] 25) = w5 at *
    (try clear k0c k0f k0z); have k0c := fun i => Blk.cell k0 i; have k0f := fun i => Blk.free k0 i; have k0z := Blk.lt k0; (try clear k1c k1f k1z); have k1c := fun i => Blk.cell k1 i; have k1f := fun i => Blk.free k1 i; have k1z := Blk.lt k1; (try clear k2c k2f k2z); have k2c := fun i => Blk.cell k2 i; have k2f := fun i => Blk.free k2 i; have k2z := Blk.lt k2; (try clear k9c k9f k9z); have k9c := fun i => Blk.cell k9 i; have k9f := fun i => Blk.free k9 i; have k9z := Blk.lt k9
    generalize w'.heap.size = b9 at *
    unfold Hold

    go_loopw [10, 11, 12, 13] (fun n _ _ _ wr => ∃ m : Nat, (m : Int) ≤ aN ∧ n = .int .i64 (m + 1) ∧ Blk wr w.heap.size 42 #[.int .i64 s.floors, .int .i64 s.gap, .int .i64 s.cars, .int .i64 s.capacity, .int .i64 s.open_, .int .i64 s.dwell, .int .i64 s.close, .int .i64 s.transfer, .slice A s.segs.length C, .int .i64 s.disp, .int .i64 s.horizon, .int .i64 s.bins, .int .i64 s.width] ∧ Blk wr (w.heap.size + 1) 25 #[.int .i64 p, .int .i64 d, .int .i64 1, .int .i64 l, .bool wt, .slice A2 rs.length C2] ∧ Blk wr (w.heap.size + 2) 29 #[.int .u64 (x0 : Int), .int .u64 (y0 : Int), .int .u64 (x1 : Int), .int .u64 (y1 : Int)] ∧ Blk wr b9 25 #[.int .i64 (p + (m : Int) * d), .int .i64 d, .int .i64 1, .int .i64 l, .bool wt, .slice A2 rs.length C2] ∧ Below w.heap.size w wr) (fun n _ _ _ _ => (aN + 1 - intOf n).toNat)
    case atStart => exact ⟨0, by omega, by simp, k0, k1, k2, by simpa using k9, hB⟩
    case round =>
      clear k0 k1 k2 k9 k0c k0f k0z k1c k1f k1z k2c k2f k2z k9c k9f k9z hB
      obtain ⟨m, hm, rfl, k0, k1, k2, k9, hB⟩ := hrel
      have z0 := k0.lt
      have z1 := k1.lt
      have z9 := k9.lt
      (try clear k0c k0f k0z); have k0c := fun i => Blk.cell k0 i; have k0f := fun i => Blk.free k0 i; have k0z := Blk.lt k0; (try clear k1c k1f k1z); have k1c := fun i => Blk.cell k1 i; have k1f := fun i => Blk.free k1 i; have k1z := Blk.lt k1; (try clear k2c k2f k2z); have k2c := fun i => Blk.cell k2 i; have k2f := fun i => Blk.free k2 i; have k2z := Blk.lt k2; (try clear k9c k9f k9z); have k9c := fun i => Blk.cell k9 i; have k9f := fun i => Blk.free k9 i; have k9z := Blk.lt k9
      have cS := fun w hr => CS.out m w hr hm
      have hp := HWAY.out m hm
      by_cases hlt : (m : Int) < aN
      · have hgo := HGO.out m hlt
        rw [hgo] at cS
        have cN := fun w hr => CN.out (m + 1) w hr (by omega)
        have cC := CC.out (m + 1)
        have cB := fun w => CB.out (m + 1) w (by omega)
        have hhv := half_bd (x := (m : Int) + 1) (by omega)
        obtain ⟨j, hj⟩ := Int.eq_ofNat_of_zero_le hhv.1
        have cH := fun w => CB.out j w (by omega)
        have cD := fun w => CD.out j (m + 1 - j) w (by omega)
        rw [show j + (m + 1 - j) = m + 1 by omega] at cD
        have e1 : ((m + 1 - j : Nat) : Int) = (m : Int) + 1 - j := by omega
        have e2 : ((m + 1 : Nat) : Int) = (m : Int) + 1 := by omega
        have e3 : aN - ((m + 1 : Nat) : Int) + 1 = aN - m := by omega
        have hp2 := HWAY.out (m + 1) (by omega)
        have hmx : p + ((m + 1 : Nat) : Int) * d = p + (m : Int) * d + d := by push_cast; rw [Int.add_mul]; omega
        rw [e1] at cD
        rw [e3] at cN
        clear hmx hgo e3 e1 HGO HOTH CS CN CN0 CC CB CD HSR HWAY
        generalize p + (m : Int) * d = pm at *
        generalize hpq : p + ((m + 1 : Nat) : Int) * d = pq at *
        have HPQ := Lib.hid hpq
        clear hpq
        generalize p + (j : Int) * d = ph at *
        rw [e2] at cB
        clear e2
        generalize (j : Int) = jj at *
        have CS := Lib.hid cS
        have CN := Lib.hid cN
        have CC := Lib.hid cC
        have CB := Lib.hid cB
        have CH := Lib.hid cH
        have CD := Lib.hid cD
        clear cS cN cC cB cH cD
        have e4 : IntKind.i64.wrap ((m : Int) + 1 - jj) = (m : Int) + 1 - jj := IntWalk.i64_in _ (by omega)
        have e5 : IntKind.i64.wrap (aN + 1 - ((m : Int) + 1)) = aN - m := by rw [IntWalk.i64_in _ (by omega)]; omega
        have e6 : IntKind.i64.wrap (aN - m) = aN - m := IntWalk.i64_in _ (by omega)
        have q5 : (aN - (m : Int) != aN - m) = false := by simp
        have q6 : decide ((m : Int) + 1 < aN + 1) = true := decide_eq_true (by omega)
        go_wp2_with (first | ((with_reducible refine hold_list ?_ ?_); (· exact Eq.refl true)) | ((with_reducible refine hold_region ?_ ?_); (· exact Eq.refl true)) | (with_reducible refine hold_loop ?_))
        unfold Hold
        go_wp2_with (first | (first | ((with_reducible refine wpList_here ?_ ?_); (· exact Eq.refl true); first | ((with_reducible refine wpList_grow 7 ?_ ?_); (· exact Eq.refl true))) | ((with_reducible refine wp_region_any_here ?_ ?_); (· exact Eq.refl true); first | ((with_reducible refine wp_region_drawn 7 ?_ ?_ ?_ ?_); (· exact Eq.refl true); (· kernel_rfl); (· kernel_rfl)) | refine wp_region_grow (by kernel_rfl) (by kernel_rfl) ?_)); (try simp only [List.take_succ_cons, List.take_zero, List.drop_succ_cons, List.drop_zero]); (repeat (go_big_quiet_step ((first | (go_at_call 16; with_reducible exact grow_of (CS.out _ ((HRS.out.below hB).below (Grow.below _)))))))); (first | (refine wpQuiet_nil ?_; intro w' hb; replace hB := Below.trans hB (Below.mono hb (Below.size hB)); replace k0 := Blk.below k0 hb (Blk.lt k0); replace k1 := Blk.below k1 hb (Blk.lt k1); replace k2 := Blk.below k2 hb (Blk.lt k2); replace k9 := Blk.below k9 hb (Blk.lt k9); (try clear k0c k0f k0z); have k0c := fun i => Blk.cell k0 i; have k0f := fun i => Blk.free k0 i; have k0z := Blk.lt k0; (try clear k1c k1f k1z); have k1c := fun i => Blk.cell k1 i; have k1f := fun i => Blk.free k1 i; have k1z := Blk.lt k1; (try clear k2c k2f k2z); have k2c := fun i => Blk.cell k2 i; have k2f := fun i => Blk.free k2 i; have k2z := Blk.lt k2; (try clear k9c k9f k9z); have k9c := fun i => Blk.cell k9 i; have k9f := fun i => Blk.free k9 i; have k9z := Blk.lt k9) | skip) | ((with_reducible refine hold_list ?_ ?_); (· exact Eq.refl true)) | ((with_reducible refine hold_region ?_ ?_); (· exact Eq.refl true)) | (with_reducible refine hold_loop ?_))
        all_goals (try (go_wp2_with (first | ((with_reducible refine hold_list ?_ ?_); (· exact Eq.refl true)) | ((with_reducible refine hold_region ?_ ?_); (· exact Eq.refl true)) | (with_reducible refine hold_loop ?_))))
        replace k9 := (Blk.set_ (Blk.set_ (Blk.set_ (Blk.set_ (Blk.set_ (Blk.set_ k9 0 (.int .i64 pq)) 1 (.int .i64 d)) 2 (.int .i64 1)) 3 (.int .i64 l)) 4 (.bool wt)) 5 (.slice A2 rs.length C2))
        replace k0 := (Blk.far (Blk.far (Blk.far (Blk.far (Blk.far (Blk.far k0 (p := ⟨b9, 0, none⟩) (by show _ ≠ b9; first | omega | (simp; omega)) (.int .i64 pq)) (p := ⟨b9, 1, none⟩) (by show _ ≠ b9; first | omega | (simp; omega)) (.int .i64 d)) (p := ⟨b9, 2, none⟩) (by show _ ≠ b9; first | omega | (simp; omega)) (.int .i64 1)) (p := ⟨b9, 3, none⟩) (by show _ ≠ b9; first | omega | (simp; omega)) (.int .i64 l)) (p := ⟨b9, 4, none⟩) (by show _ ≠ b9; first | omega | (simp; omega)) (.bool wt)) (p := ⟨b9, 5, none⟩) (by show _ ≠ b9; first | omega | (simp; omega)) (.slice A2 rs.length C2))
        replace k1 := (Blk.far (Blk.far (Blk.far (Blk.far (Blk.far (Blk.far k1 (p := ⟨b9, 0, none⟩) (by show _ ≠ b9; first | omega | (simp; omega)) (.int .i64 pq)) (p := ⟨b9, 1, none⟩) (by show _ ≠ b9; first | omega | (simp; omega)) (.int .i64 d)) (p := ⟨b9, 2, none⟩) (by show _ ≠ b9; first | omega | (simp; omega)) (.int .i64 1)) (p := ⟨b9, 3, none⟩) (by show _ ≠ b9; first | omega | (simp; omega)) (.int .i64 l)) (p := ⟨b9, 4, none⟩) (by show _ ≠ b9; first | omega | (simp; omega)) (.bool wt)) (p := ⟨b9, 5, none⟩) (by show _ ≠ b9; first | omega | (simp; omega)) (.slice A2 rs.length C2))
        replace k2 := (Blk.far (Blk.far (Blk.far (Blk.far (Blk.far (Blk.far k2 (p := ⟨b9, 0, none⟩) (by show _ ≠ b9; first | omega | (simp; omega)) (.int .i64 pq)) (p := ⟨b9, 1, none⟩) (by show _ ≠ b9; first | omega | (simp; omega)) (.int .i64 d)) (p := ⟨b9, 2, none⟩) (by show _ ≠ b9; first | omega | (simp; omega)) (.int .i64 1)) (p := ⟨b9, 3, none⟩) (by show _ ≠ b9; first | omega | (simp; omega)) (.int .i64 l)) (p := ⟨b9, 4, none⟩) (by show _ ≠ b9; first | omega | (simp; omega)) (.bool wt)) (p := ⟨b9, 5, none⟩) (by show _ ≠ b9; first | omega | (simp; omega)) (.slice A2 rs.length C2))
        replace hB := (Below.setCell (Below.setCell (Below.setCell (Below.setCell (Below.setCell (Below.setCell hB (p := ⟨b9, 0, none⟩) (by show _ ≤ b9; have := Below.size hB; first | omega | (simp; omega)) (.int .i64 pq)) (p := ⟨b9, 1, none⟩) (by show _ ≤ b9; have := Below.size hB; first | omega | (simp; omega)) (.int .i64 d)) (p := ⟨b9, 2, none⟩) (by show _ ≤ b9; have := Below.size hB; first | omega | (simp; omega)) (.int .i64 1)) (p := ⟨b9, 3, none⟩) (by show _ ≤ b9; have := Below.size hB; first | omega | (simp; omega)) (.int .i64 l)) (p := ⟨b9, 4, none⟩) (by show _ ≤ b9; have := Below.size hB; first | omega | (simp; omega)) (.bool wt)) (p := ⟨b9, 5, none⟩) (by show _ ≤ b9; have := Below.size hB; first | omega | (simp; omega)) (.slice A2 rs.length C2))
        generalize ((((((w'.setCell ⟨b9, 0, none⟩ (.int .i64 pq)).setCell ⟨b9, 1, none⟩ (.int .i64 d)).setCell ⟨b9, 2, none⟩ (.int .i64 1)).setCell ⟨b9, 3, none⟩ (.int .i64 l)).setCell ⟨b9, 4, none⟩ (.bool wt)).setCell ⟨b9, 5, none⟩ (.slice A2 rs.length C2)) = w6 at *
        (try clear k0c k0f k0z); have k0c := fun i => Blk.cell k0 i; have k0f := fun i => Blk.free k0 i; have k0z := Blk.lt k0; (try clear k1c k1f k1z); have k1c := fun i => Blk.cell k1 i; have k1f := fun i => Blk.free k1 i; have k1z := Blk.lt k1; (try clear k2c k2f k2z); have k2c := fun i => Blk.cell k2 i; have k2f := fun i => Blk.free k2 i; have k2z := Blk.lt k2; (try clear k9c k9f k9z); have k9c := fun i => Blk.cell k9 i; have k9f := fun i => Blk.free k9 i; have k9z := Blk.lt k9
        unfold Hold
        go_wp2_with (first | (first | ((with_reducible refine wpList_here ?_ ?_); (· exact Eq.refl true); first | ((with_reducible refine wpList_grow 3 ?_ ?_); (· exact Eq.refl true))) | ((with_reducible refine wp_region_any_here ?_ ?_); (· exact Eq.refl true); first | ((with_reducible refine wp_region_drawn 3 ?_ ?_ ?_ ?_); (· exact Eq.refl true); (· kernel_rfl); (· kernel_rfl)) | refine wp_region_grow (by kernel_rfl) (by kernel_rfl) ?_)); (try simp only [List.take_succ_cons, List.take_zero, List.drop_succ_cons, List.drop_zero]); (repeat (go_big_quiet_step ((first | (go_at_call 26; with_reducible exact grow_of (CB.out _)))))); (first | (refine wpQuiet_nil ?_; intro w' hb; replace hB := Below.trans hB (Below.mono hb (Below.size hB)); replace k0 := Blk.below k0 hb (Blk.lt k0); replace k1 := Blk.below k1 hb (Blk.lt k1); replace k2 := Blk.below k2 hb (Blk.lt k2); replace k9 := Blk.below k9 hb (Blk.lt k9); (try clear k0c k0f k0z); have k0c := fun i => Blk.cell k0 i; have k0f := fun i => Blk.free k0 i; have k0z := Blk.lt k0; (try clear k1c k1f k1z); have k1c := fun i => Blk.cell k1 i; have k1f := fun i => Blk.free k1 i; have k1z := Blk.lt k1; (try clear k2c k2f k2z); have k2c := fun i => Blk.cell k2 i; have k2f := fun i => Blk.free k2 i; have k2z := Blk.lt k2; (try clear k9c k9f k9z); have k9c := fun i => Blk.cell k9 i; have k9f := fun i => Blk.free k9 i; have k9z := Blk.lt k9) | skip) | ((with_reducible refine hold_list ?_ ?_); (· exact Eq.refl true)) | ((with_reducible refine hold_region ?_ ?_); (· exact Eq.refl true)) | (with_reducible refine hold_loop ?_))
        all_goals (try (go_wp2_with (first | ((with_reducible refine hold_list ?_ ?_); (· exact Eq.refl true)) | ((with_reducible refine hold_region ?_ ?_); (· exact Eq.refl true)) | (with_reducible refine hold_loop ?_))))
        have k5 : Blk (w'.alloc (.cells #[.int .i64 pq, .int .i64 d, .int .i64 1, .int .i64 l, .bool wt, .slice A2 rs.length C2] 25)) w'.heap.size 25 #[.int .i64 pq, .int .i64 d, .int .i64 1, .int .i64 l, .bool wt, .slice A2 rs.length C2] := Blk.new _ _ _
        replace k0 := Blk.alloc k0 (.cells #[.int .i64 pq, .int .i64 d, .int .i64 1, .int .i64 l, .bool wt, .slice A2 rs.length C2] 25)
        replace k1 := Blk.alloc k1 (.cells #[.int .i64 pq, .int .i64 d, .int .i64 1, .int .i64 l, .bool wt, .slice A2 rs.length C2] 25)
        replace k2 := Blk.alloc k2 (.cells #[.int .i64 pq, .int .i64 d, .int .i64 1, .int .i64 l, .bool wt, .slice A2 rs.length C2] 25)
        replace k9 := Blk.alloc k9 (.cells #[.int .i64 pq, .int .i64 d, .int .i64 1, .int .i64 l, .bool wt, .slice A2 rs.length C2] 25)
        replace hB := bel_at hB (.cells #[.int .i64 pq, .int .i64 d, .int .i64 1, .int .i64 l, .bool wt, .slice A2 rs.length C2] 25)
        generalize w'.alloc (.cells #[.int .i64 pq, .int .i64 d, .int .i64 1, .int .i64 l, .bool wt, .slice A2 rs.length C2] 25) = w7 at *
        (try clear k0c k0f k0z); have k0c := fun i => Blk.cell k0 i; have k0f := fun i => Blk.free k0 i; have k0z := Blk.lt k0; (try clear k1c k1f k1z); have k1c := fun i => Blk.cell k1 i; have k1f := fun i => Blk.free k1 i; have k1z := Blk.lt k1; (try clear k2c k2f k2z); have k2c := fun i => Blk.cell k2 i; have k2f := fun i => Blk.free k2 i; have k2z := Blk.lt k2; (try clear k9c k9f k9z); have k9c := fun i => Blk.cell k9 i; have k9f := fun i => Blk.free k9 i; have k9z := Blk.lt k9; (try clear k5c k5f k5z); have k5c := fun i => Blk.cell k5 i; have k5f := fun i => Blk.free k5 i; have k5z := Blk.lt k5
        unfold Hold
        go_wp2_with (first | ((with_reducible refine wpList_here ?_ ?_); (· exact Eq.refl true); first | ((with_reducible refine wpList_grow 7 ?_ ?_); (· exact Eq.refl true)) | ((with_reducible refine wpList_grow 99 ?_ ?_); (· exact Eq.refl true))) | ((with_reducible refine wp_region_any_here ?_ ?_); (· exact Eq.refl true); first | ((with_reducible refine wp_region_drawn 7 ?_ ?_ ?_ ?_); (· exact Eq.refl true); (· kernel_rfl); (· kernel_rfl)) | ((with_reducible refine wp_region_drawn 99 ?_ ?_ ?_ ?_); (· exact Eq.refl true); (· kernel_rfl); (· kernel_rfl)) | refine wp_region_grow (by kernel_rfl) (by kernel_rfl) ?_)); (try simp only [List.take_succ_cons, List.take_zero, List.drop_succ_cons, List.drop_zero]); (repeat (go_big_quiet_step ((first | (go_at_call 21; with_reducible exact grow_of (CN.out _ ((HRS.out.below hB).below (Grow.below _)))) | (go_at_call 15; with_reducible exact grow_of (CC.out _ ((HRS.out.below hB).below (Grow.below _)))) | (go_at_call 26; with_reducible exact grow_of (CB.out _)) | (go_at_call 26; with_reducible exact grow_of (CH.out _)) | (go_at_call 26; with_reducible exact grow_of (CD.out _)))))); (first | (refine wpQuiet_nil ?_; intro w' hb; replace hB := Below.trans hB (Below.mono hb (Below.size hB)); replace k0 := Blk.below k0 hb (Blk.lt k0); replace k1 := Blk.below k1 hb (Blk.lt k1); replace k2 := Blk.below k2 hb (Blk.lt k2); replace k9 := Blk.below k9 hb (Blk.lt k9); replace k5 := Blk.below k5 hb (Blk.lt k5); (try clear k0c k0f k0z); have k0c := fun i => Blk.cell k0 i; have k0f := fun i => Blk.free k0 i; have k0z := Blk.lt k0; (try clear k1c k1f k1z); have k1c := fun i => Blk.cell k1 i; have k1f := fun i => Blk.free k1 i; have k1z := Blk.lt k1; (try clear k2c k2f k2z); have k2c := fun i => Blk.cell k2 i; have k2f := fun i => Blk.free k2 i; have k2z := Blk.lt k2; (try clear k9c k9f k9z); have k9c := fun i => Blk.cell k9 i; have k9f := fun i => Blk.free k9 i; have k9z := Blk.lt k9; (try clear k5c k5f k5z); have k5c := fun i => Blk.cell k5 i; have k5f := fun i => Blk.free k5 i; have k5z := Blk.lt k5) | skip)
        all_goals (try (go_wp2_with (first | ((with_reducible refine wpList_here ?_ ?_); (· exact Eq.refl true); first | ((with_reducible refine wpList_grow 7 ?_ ?_); (· exact Eq.refl true)) | ((with_reducible refine wpList_grow 99 ?_ ?_); (· exact Eq.refl true))) | ((with_reducible refine wp_region_any_here ?_ ?_); (· exact Eq.refl true); first | ((with_reducible refine wp_region_drawn 7 ?_ ?_ ?_ ?_); (· exact Eq.refl true); (· kernel_rfl); (· kernel_rfl)) | ((with_reducible refine wp_region_drawn 99 ?_ ?_ ?_ ?_); (· exact Eq.refl true); (· kernel_rfl); (· kernel_rfl)) | refine wp_region_grow (by kernel_rfl) (by kernel_rfl) ?_)); (try simp only [List.take_succ_cons, List.take_zero, List.drop_succ_cons, List.drop_zero]); (repeat (go_big_quiet_step ((first | (go_at_call 21; with_reducible exact grow_of (CN.out _ ((HRS.out.below hB).below (Grow.below _)))) | (go_at_call 15; with_reducible exact grow_of (CC.out _ ((HRS.out.below hB).below (Grow.below _)))) | (go_at_call 26; with_reducible exact grow_of (CB.out _)) | (go_at_call 26; with_reducible exact grow_of (CH.out _)) | (go_at_call 26; with_reducible exact grow_of (CD.out _)))))); (first | (refine wpQuiet_nil ?_; intro w' hb; replace hB := Below.trans hB (Below.mono hb (Below.size hB)); replace k0 := Blk.below k0 hb (Blk.lt k0); replace k1 := Blk.below k1 hb (Blk.lt k1); replace k2 := Blk.below k2 hb (Blk.lt k2); replace k9 := Blk.below k9 hb (Blk.lt k9); replace k5 := Blk.below k5 hb (Blk.lt k5); (try clear k0c k0f k0z); have k0c := fun i => Blk.cell k0 i; have k0f := fun i => Blk.free k0 i; have k0z := Blk.lt k0; (try clear k1c k1f k1z); have k1c := fun i => Blk.cell k1 i; have k1f := fun i => Blk.free k1 i; have k1z := Blk.lt k1; (try clear k2c k2f k2z); have k2c := fun i => Blk.cell k2 i; have k2f := fun i => Blk.free k2 i; have k2z := Blk.lt k2; (try clear k9c k9f k9z); have k9c := fun i => Blk.cell k9 i; have k9f := fun i => Blk.free k9 i; have k9z := Blk.lt k9; (try clear k5c k5f k5z); have k5c := fun i => Blk.cell k5 i; have k5f := fun i => Blk.free k5 i; have k5z := Blk.lt k5) | skip)))
        all_goals (try (go_wp2_with (first | ((with_reducible refine wpList_here ?_ ?_); (· exact Eq.refl true); first | ((with_reducible refine wpList_grow 7 ?_ ?_); (· exact Eq.refl true)) | ((with_reducible refine wpList_grow 99 ?_ ?_); (· exact Eq.refl true))) | ((with_reducible refine wp_region_any_here ?_ ?_); (· exact Eq.refl true); first | ((with_reducible refine wp_region_drawn 7 ?_ ?_ ?_ ?_); (· exact Eq.refl true); (· kernel_rfl); (· kernel_rfl)) | ((with_reducible refine wp_region_drawn 99 ?_ ?_ ?_ ?_); (· exact Eq.refl true); (· kernel_rfl); (· kernel_rfl)) | refine wp_region_grow (by kernel_rfl) (by kernel_rfl) ?_)); (try simp only [List.take_succ_cons, List.take_zero, List.drop_succ_cons, List.drop_zero]); (repeat (go_big_quiet_step ((first | (go_at_call 21; with_reducible exact grow_of (CN.out _ ((HRS.out.below hB).below (Grow.below _)))) | (go_at_call 15; with_reducible exact grow_of (CC.out _ ((HRS.out.below hB).below (Grow.below _)))) | (go_at_call 26; with_reducible exact grow_of (CB.out _)) | (go_at_call 26; with_reducible exact grow_of (CH.out _)) | (go_at_call 26; with_reducible exact grow_of (CD.out _)))))); (first | (refine wpQuiet_nil ?_; intro w' hb; replace hB := Below.trans hB (Below.mono hb (Below.size hB)); replace k0 := Blk.below k0 hb (Blk.lt k0); replace k1 := Blk.below k1 hb (Blk.lt k1); replace k2 := Blk.below k2 hb (Blk.lt k2); replace k9 := Blk.below k9 hb (Blk.lt k9); replace k5 := Blk.below k5 hb (Blk.lt k5); (try clear k0c k0f k0z); have k0c := fun i => Blk.cell k0 i; have k0f := fun i => Blk.free k0 i; have k0z := Blk.lt k0; (try clear k1c k1f k1z); have k1c := fun i => Blk.cell k1 i; have k1f := fun i => Blk.free k1 i; have k1z := Blk.lt k1; (try clear k2c k2f k2z); have k2c := fun i => Blk.cell k2 i; have k2f := fun i => Blk.free k2 i; have k2z := Blk.lt k2; (try clear k9c k9f k9z); have k9c := fun i => Blk.cell k9 i; have k9f := fun i => Blk.free k9 i; have k9z := Blk.lt k9; (try clear k5c k5f k5z); have k5c := fun i => Blk.cell k5 i; have k5f := fun i => Blk.free k5 i; have k5z := Blk.lt k5) | skip)))
        all_goals (try (go_wp2_with (first | ((with_reducible refine wpList_here ?_ ?_); (· exact Eq.refl true); first | ((with_reducible refine wpList_grow 7 ?_ ?_); (· exact Eq.refl true)) | ((with_reducible refine wpList_grow 99 ?_ ?_); (· exact Eq.refl true))) | ((with_reducible refine wp_region_any_here ?_ ?_); (· exact Eq.refl true); first | ((with_reducible refine wp_region_drawn 7 ?_ ?_ ?_ ?_); (· exact Eq.refl true); (· kernel_rfl); (· kernel_rfl)) | ((with_reducible refine wp_region_drawn 99 ?_ ?_ ?_ ?_); (· exact Eq.refl true); (· kernel_rfl); (· kernel_rfl)) | refine wp_region_grow (by kernel_rfl) (by kernel_rfl) ?_)); (try simp only [List.take_succ_cons, List.take_zero, List.drop_succ_cons, List.drop_zero]); (repeat (go_big_quiet_step ((first | (go_at_call 21; with_reducible exact grow_of (CN.out _ ((HRS.out.below hB).below (Grow.below _)))) | (go_at_call 15; with_reducible exact grow_of (CC.out _ ((HRS.out.below hB).below (Grow.below _)))) | (go_at_call 26; with_reducible exact grow_of (CB.out _)) | (go_at_call 26; with_reducible exact grow_of (CH.out _)) | (go_at_call 26; with_reducible exact grow_of (CD.out _)))))); (first | (refine wpQuiet_nil ?_; intro w' hb; replace hB := Below.trans hB (Below.mono hb (Below.size hB)); replace k0 := Blk.below k0 hb (Blk.lt k0); replace k1 := Blk.below k1 hb (Blk.lt k1); replace k2 := Blk.below k2 hb (Blk.lt k2); replace k9 := Blk.below k9 hb (Blk.lt k9); replace k5 := Blk.below k5 hb (Blk.lt k5); (try clear k0c k0f k0z); have k0c := fun i => Blk.cell k0 i; have k0f := fun i => Blk.free k0 i; have k0z := Blk.lt k0; (try clear k1c k1f k1z); have k1c := fun i => Blk.cell k1 i; have k1f := fun i => Blk.free k1 i; have k1z := Blk.lt k1; (try clear k2c k2f k2z); have k2c := fun i => Blk.cell k2 i; have k2f := fun i => Blk.free k2 i; have k2z := Blk.lt k2; (try clear k9c k9f k9z); have k9c := fun i => Blk.cell k9 i; have k9f := fun i => Blk.free k9 i; have k9z := Blk.lt k9; (try clear k5c k5f k5z); have k5c := fun i => Blk.cell k5 i; have k5f := fun i => Blk.free k5 i; have k5z := Blk.lt k5) | skip)))
        go_roundw
        case rel => exact ⟨m + 1, by omega, by simp, k0, k1, k2, by rw [HPQ.out]; exact k9, hB⟩
        case measure => simp [intOf]; omega
      · have hme : (m : Int) = aN := by omega
        have hoth := HOTH.out m hme
        have hsr := HSR.out m
        generalize stepC s _ x0 y0 x1 y1 = D at cS hoth hsr
        obtain ⟨dp, dd, dm, dl, dw, drs⟩ := D
        simp only at hsr hoth
        replace hsr := hsr.symm
        subst hsr
        have q6 : decide ((m : Int) + 1 < aN + 1) = false := decide_eq_false (by omega)
        have hways : (dm != 1) = true ∨ ((dm != 1) = false ∧ (dd != d) = true) := by
          by_cases a : dm = 1
          · right
            rcases hoth with b | b
            · exact absurd a b
            · exact ⟨by simpa using a, by simpa using b⟩
          · left; simpa using a
        have CS2 := Lib.hid cS
        generalize p + (m : Int) * d = pm at *
        clear cS HGO HOTH CS CN CN0 CC CB CD HSR HWAY hoth hme
        have hways2 : ((dm != 1) = true ∨ (dm != 1) = false) := by cases (dm != 1) <;> simp
        have hwq : (dm != 1) = false → (dd != d) = true := by
          intro a
          cases hways with
          | inl b => rw [a] at b; exact absurd b (by simp)
          | inr b => exact b.2
        clear hways
        cases hways2 with
        | inl qa =>
          clear hwq
          go_wp2_with (first | ((with_reducible refine hold_list ?_ ?_); (· exact Eq.refl true)) | ((with_reducible refine hold_region ?_ ?_); (· exact Eq.refl true)) | (with_reducible refine hold_loop ?_))
          unfold Hold
          go_wp2_with (first | (first | ((with_reducible refine wpList_here ?_ ?_); (· exact Eq.refl true); first | ((with_reducible refine wpList_grow 7 ?_ ?_); (· exact Eq.refl true))) | ((with_reducible refine wp_region_any_here ?_ ?_); (· exact Eq.refl true); first | ((with_reducible refine wp_region_drawn 7 ?_ ?_ ?_ ?_); (· exact Eq.refl true); (· kernel_rfl); (· kernel_rfl)) | refine wp_region_grow (by kernel_rfl) (by kernel_rfl) ?_)); (try simp only [List.take_succ_cons, List.take_zero, List.drop_succ_cons, List.drop_zero]); (repeat (go_big_quiet_step ((first | (go_at_call 16; with_reducible exact grow_of (CS2.out _ ((HRS.out.below hB).below (Grow.below _)))))))); (first | (refine wpQuiet_nil ?_; intro w' hb; replace hB := Below.trans hB (Below.mono hb (Below.size hB)); replace k0 := Blk.below k0 hb (Blk.lt k0); replace k1 := Blk.below k1 hb (Blk.lt k1); replace k2 := Blk.below k2 hb (Blk.lt k2); replace k9 := Blk.below k9 hb (Blk.lt k9); (try clear k0c k0f k0z); have k0c := fun i => Blk.cell k0 i; have k0f := fun i => Blk.free k0 i; have k0z := Blk.lt k0; (try clear k1c k1f k1z); have k1c := fun i => Blk.cell k1 i; have k1f := fun i => Blk.free k1 i; have k1z := Blk.lt k1; (try clear k2c k2f k2z); have k2c := fun i => Blk.cell k2 i; have k2f := fun i => Blk.free k2 i; have k2z := Blk.lt k2; (try clear k9c k9f k9z); have k9c := fun i => Blk.cell k9 i; have k9f := fun i => Blk.free k9 i; have k9z := Blk.lt k9) | skip) | ((with_reducible refine hold_list ?_ ?_); (· exact Eq.refl true)) | ((with_reducible refine hold_region ?_ ?_); (· exact Eq.refl true)) | (with_reducible refine hold_loop ?_))
          all_goals (try (go_wp2_with (first | ((with_reducible refine hold_list ?_ ?_); (· exact Eq.refl true)) | ((with_reducible refine hold_region ?_ ?_); (· exact Eq.refl true)) | (with_reducible refine hold_loop ?_))))
          have k5 : Blk (w'.alloc (.cells #[.int .i64 dp, .int .i64 dd, .int .i64 dm, .int .i64 dl, .bool dw, .slice A2 rs.length C2] 25)) w'.heap.size 25 #[.int .i64 dp, .int .i64 dd, .int .i64 dm, .int .i64 dl, .bool dw, .slice A2 rs.length C2] := Blk.new _ _ _
          replace k0 := Blk.alloc k0 (.cells #[.int .i64 dp, .int .i64 dd, .int .i64 dm, .int .i64 dl, .bool dw, .slice A2 rs.length C2] 25)
          replace k1 := Blk.alloc k1 (.cells #[.int .i64 dp, .int .i64 dd, .int .i64 dm, .int .i64 dl, .bool dw, .slice A2 rs.length C2] 25)
          replace k2 := Blk.alloc k2 (.cells #[.int .i64 dp, .int .i64 dd, .int .i64 dm, .int .i64 dl, .bool dw, .slice A2 rs.length C2] 25)
          replace k9 := Blk.alloc k9 (.cells #[.int .i64 dp, .int .i64 dd, .int .i64 dm, .int .i64 dl, .bool dw, .slice A2 rs.length C2] 25)
          replace hB := bel_at hB (.cells #[.int .i64 dp, .int .i64 dd, .int .i64 dm, .int .i64 dl, .bool dw, .slice A2 rs.length C2] 25)
          generalize w'.alloc (.cells #[.int .i64 dp, .int .i64 dd, .int .i64 dm, .int .i64 dl, .bool dw, .slice A2 rs.length C2] 25) = w7 at *
          (try clear k0c k0f k0z); have k0c := fun i => Blk.cell k0 i; have k0f := fun i => Blk.free k0 i; have k0z := Blk.lt k0; (try clear k1c k1f k1z); have k1c := fun i => Blk.cell k1 i; have k1f := fun i => Blk.free k1 i; have k1z := Blk.lt k1; (try clear k2c k2f k2z); have k2c := fun i => Blk.cell k2 i; have k2f := fun i => Blk.free k2 i; have k2z := Blk.lt k2; (try clear k9c k9f k9z); have k9c := fun i => Blk.cell k9 i; have k9f := fun i => Blk.free k9 i; have k9z := Blk.lt k9; (try clear k5c k5f k5z); have k5c := fun i => Blk.cell k5 i; have k5f := fun i => Blk.free k5 i; have k5z := Blk.lt k5
          unfold Hold
          go_wp2_with (first | ((with_reducible refine wpList_here ?_ ?_); (· exact Eq.refl true); first | ((with_reducible refine wpList_grow 17 ?_ ?_); (· exact Eq.refl true))) | ((with_reducible refine wp_region_any_here ?_ ?_); (· exact Eq.refl true); first | ((with_reducible refine wp_region_drawn 17 ?_ ?_ ?_ ?_); (· exact Eq.refl true); (· kernel_rfl); (· kernel_rfl)) | refine wp_region_grow (by kernel_rfl) (by kernel_rfl) ?_)); (try simp only [List.take_succ_cons, List.take_zero, List.drop_succ_cons, List.drop_zero]); (repeat (go_big_quiet_step ((first | (go_at_call 22; with_reducible exact grow_of (CA.out _)))))); (first | (refine wpQuiet_nil ?_; intro w' hb; replace hB := Below.trans hB (Below.mono hb (Below.size hB)); replace k0 := Blk.below k0 hb (Blk.lt k0); replace k1 := Blk.below k1 hb (Blk.lt k1); replace k2 := Blk.below k2 hb (Blk.lt k2); replace k9 := Blk.below k9 hb (Blk.lt k9); replace k5 := Blk.below k5 hb (Blk.lt k5); (try clear k0c k0f k0z); have k0c := fun i => Blk.cell k0 i; have k0f := fun i => Blk.free k0 i; have k0z := Blk.lt k0; (try clear k1c k1f k1z); have k1c := fun i => Blk.cell k1 i; have k1f := fun i => Blk.free k1 i; have k1z := Blk.lt k1; (try clear k2c k2f k2z); have k2c := fun i => Blk.cell k2 i; have k2f := fun i => Blk.free k2 i; have k2z := Blk.lt k2; (try clear k9c k9f k9z); have k9c := fun i => Blk.cell k9 i; have k9f := fun i => Blk.free k9 i; have k9z := Blk.lt k9; (try clear k5c k5f k5z); have k5c := fun i => Blk.cell k5 i; have k5f := fun i => Blk.free k5 i; have k5z := Blk.lt k5) | skip)
          all_goals (try (go_wp2_with (first | ((with_reducible refine wpList_here ?_ ?_); (· exact Eq.refl true); first | ((with_reducible refine wpList_grow 17 ?_ ?_); (· exact Eq.refl true))) | ((with_reducible refine wp_region_any_here ?_ ?_); (· exact Eq.refl true); first | ((with_reducible refine wp_region_drawn 17 ?_ ?_ ?_ ?_); (· exact Eq.refl true); (· kernel_rfl); (· kernel_rfl)) | refine wp_region_grow (by kernel_rfl) (by kernel_rfl) ?_)); (try simp only [List.take_succ_cons, List.take_zero, List.drop_succ_cons, List.drop_zero]); (repeat (go_big_quiet_step ((first | (go_at_call 22; with_reducible exact grow_of (CA.out _)))))); (first | (refine wpQuiet_nil ?_; intro w' hb; replace hB := Below.trans hB (Below.mono hb (Below.size hB)); replace k0 := Blk.below k0 hb (Blk.lt k0); replace k1 := Blk.below k1 hb (Blk.lt k1); replace k2 := Blk.below k2 hb (Blk.lt k2); replace k9 := Blk.below k9 hb (Blk.lt k9); replace k5 := Blk.below k5 hb (Blk.lt k5); (try clear k0c k0f k0z); have k0c := fun i => Blk.cell k0 i; have k0f := fun i => Blk.free k0 i; have k0z := Blk.lt k0; (try clear k1c k1f k1z); have k1c := fun i => Blk.cell k1 i; have k1f := fun i => Blk.free k1 i; have k1z := Blk.lt k1; (try clear k2c k2f k2z); have k2c := fun i => Blk.cell k2 i; have k2f := fun i => Blk.free k2 i; have k2z := Blk.lt k2; (try clear k9c k9f k9z); have k9c := fun i => Blk.cell k9 i; have k9f := fun i => Blk.free k9 i; have k9z := Blk.lt k9; (try clear k5c k5f k5z); have k5c := fun i => Blk.cell k5 i; have k5f := fun i => Blk.free k5 i; have k5z := Blk.lt k5) | skip)))
          all_goals (try (go_wp2_with (first | ((with_reducible refine wpList_here ?_ ?_); (· exact Eq.refl true); first | ((with_reducible refine wpList_grow 17 ?_ ?_); (· exact Eq.refl true))) | ((with_reducible refine wp_region_any_here ?_ ?_); (· exact Eq.refl true); first | ((with_reducible refine wp_region_drawn 17 ?_ ?_ ?_ ?_); (· exact Eq.refl true); (· kernel_rfl); (· kernel_rfl)) | refine wp_region_grow (by kernel_rfl) (by kernel_rfl) ?_)); (try simp only [List.take_succ_cons, List.take_zero, List.drop_succ_cons, List.drop_zero]); (repeat (go_big_quiet_step ((first | (go_at_call 22; with_reducible exact grow_of (CA.out _)))))); (first | (refine wpQuiet_nil ?_; intro w' hb; replace hB := Below.trans hB (Below.mono hb (Below.size hB)); replace k0 := Blk.below k0 hb (Blk.lt k0); replace k1 := Blk.below k1 hb (Blk.lt k1); replace k2 := Blk.below k2 hb (Blk.lt k2); replace k9 := Blk.below k9 hb (Blk.lt k9); replace k5 := Blk.below k5 hb (Blk.lt k5); (try clear k0c k0f k0z); have k0c := fun i => Blk.cell k0 i; have k0f := fun i => Blk.free k0 i; have k0z := Blk.lt k0; (try clear k1c k1f k1z); have k1c := fun i => Blk.cell k1 i; have k1f := fun i => Blk.free k1 i; have k1z := Blk.lt k1; (try clear k2c k2f k2z); have k2c := fun i => Blk.cell k2 i; have k2f := fun i => Blk.free k2 i; have k2z := Blk.lt k2; (try clear k9c k9f k9z); have k9c := fun i => Blk.cell k9 i; have k9f := fun i => Blk.free k9 i; have k9z := Blk.lt k9; (try clear k5c k5f k5z); have k5c := fun i => Blk.cell k5 i; have k5f := fun i => Blk.free k5 i; have k5z := Blk.lt k5) | skip)))
          go_ret
          exact ⟨rfl, hB⟩
        | inr qa =>
          have qb := hwq qa
          clear hwq
          go_wp2_with (first | ((with_reducible refine hold_list ?_ ?_); (· exact Eq.refl true)) | ((with_reducible refine hold_region ?_ ?_); (· exact Eq.refl true)) | (with_reducible refine hold_loop ?_))
          unfold Hold
          go_wp2_with (first | (first | ((with_reducible refine wpList_here ?_ ?_); (· exact Eq.refl true); first | ((with_reducible refine wpList_grow 7 ?_ ?_); (· exact Eq.refl true))) | ((with_reducible refine wp_region_any_here ?_ ?_); (· exact Eq.refl true); first | ((with_reducible refine wp_region_drawn 7 ?_ ?_ ?_ ?_); (· exact Eq.refl true); (· kernel_rfl); (· kernel_rfl)) | refine wp_region_grow (by kernel_rfl) (by kernel_rfl) ?_)); (try simp only [List.take_succ_cons, List.take_zero, List.drop_succ_cons, List.drop_zero]); (repeat (go_big_quiet_step ((first | (go_at_call 16; with_reducible exact grow_of (CS2.out _ ((HRS.out.below hB).below (Grow.below _)))))))); (first | (refine wpQuiet_nil ?_; intro w' hb; replace hB := Below.trans hB (Below.mono hb (Below.size hB)); replace k0 := Blk.below k0 hb (Blk.lt k0); replace k1 := Blk.below k1 hb (Blk.lt k1); replace k2 := Blk.below k2 hb (Blk.lt k2); replace k9 := Blk.below k9 hb (Blk.lt k9); (try clear k0c k0f k0z); have k0c := fun i => Blk.cell k0 i; have k0f := fun i => Blk.free k0 i; have k0z := Blk.lt k0; (try clear k1c k1f k1z); have k1c := fun i => Blk.cell k1 i; have k1f := fun i => Blk.free k1 i; have k1z := Blk.lt k1; (try clear k2c k2f k2z); have k2c := fun i => Blk.cell k2 i; have k2f := fun i => Blk.free k2 i; have k2z := Blk.lt k2; (try clear k9c k9f k9z); have k9c := fun i => Blk.cell k9 i; have k9f := fun i => Blk.free k9 i; have k9z := Blk.lt k9) | skip) | ((with_reducible refine hold_list ?_ ?_); (· exact Eq.refl true)) | ((with_reducible refine hold_region ?_ ?_); (· exact Eq.refl true)) | (with_reducible refine hold_loop ?_))
          all_goals (try (go_wp2_with (first | ((with_reducible refine hold_list ?_ ?_); (· exact Eq.refl true)) | ((with_reducible refine hold_region ?_ ?_); (· exact Eq.refl true)) | (with_reducible refine hold_loop ?_))))
          have k5 : Blk (w'.alloc (.cells #[.int .i64 dp, .int .i64 dd, .int .i64 dm, .int .i64 dl, .bool dw, .slice A2 rs.length C2] 25)) w'.heap.size 25 #[.int .i64 dp, .int .i64 dd, .int .i64 dm, .int .i64 dl, .bool dw, .slice A2 rs.length C2] := Blk.new _ _ _
          replace k0 := Blk.alloc k0 (.cells #[.int .i64 dp, .int .i64 dd, .int .i64 dm, .int .i64 dl, .bool dw, .slice A2 rs.length C2] 25)
          replace k1 := Blk.alloc k1 (.cells #[.int .i64 dp, .int .i64 dd, .int .i64 dm, .int .i64 dl, .bool dw, .slice A2 rs.length C2] 25)
          replace k2 := Blk.alloc k2 (.cells #[.int .i64 dp, .int .i64 dd, .int .i64 dm, .int .i64 dl, .bool dw, .slice A2 rs.length C2] 25)
          replace k9 := Blk.alloc k9 (.cells #[.int .i64 dp, .int .i64 dd, .int .i64 dm, .int .i64 dl, .bool dw, .slice A2 rs.length C2] 25)
          replace hB := bel_at hB (.cells #[.int .i64 dp, .int .i64 dd, .int .i64 dm, .int .i64 dl, .bool dw, .slice A2 rs.length C2] 25)
          generalize w'.alloc (.cells #[.int .i64 dp, .int .i64 dd, .int .i64 dm, .int .i64 dl, .bool dw, .slice A2 rs.length C2] 25) = w7 at *
          (try clear k0c k0f k0z); have k0c := fun i => Blk.cell k0 i; have k0f := fun i => Blk.free k0 i; have k0z := Blk.lt k0; (try clear k1c k1f k1z); have k1c := fun i => Blk.cell k1 i; have k1f := fun i => Blk.free k1 i; have k1z := Blk.lt k1; (try clear k2c k2f k2z); have k2c := fun i => Blk.cell k2 i; have k2f := fun i => Blk.free k2 i; have k2z := Blk.lt k2; (try clear k9c k9f k9z); have k9c := fun i => Blk.cell k9 i; have k9f := fun i => Blk.free k9 i; have k9z := Blk.lt k9; (try clear k5c k5f k5z); have k5c := fun i => Blk.cell k5 i; have k5f := fun i => Blk.free k5 i; have k5z := Blk.lt k5
          unfold Hold
          go_wp2_with (first | ((with_reducible refine wpList_here ?_ ?_); (· exact Eq.refl true); first | ((with_reducible refine wpList_grow 17 ?_ ?_); (· exact Eq.refl true))) | ((with_reducible refine wp_region_any_here ?_ ?_); (· exact Eq.refl true); first | ((with_reducible refine wp_region_drawn 17 ?_ ?_ ?_ ?_); (· exact Eq.refl true); (· kernel_rfl); (· kernel_rfl)) | refine wp_region_grow (by kernel_rfl) (by kernel_rfl) ?_)); (try simp only [List.take_succ_cons, List.take_zero, List.drop_succ_cons, List.drop_zero]); (repeat (go_big_quiet_step ((first | (go_at_call 22; with_reducible exact grow_of (CA.out _)))))); (first | (refine wpQuiet_nil ?_; intro w' hb; replace hB := Below.trans hB (Below.mono hb (Below.size hB)); replace k0 := Blk.below k0 hb (Blk.lt k0); replace k1 := Blk.below k1 hb (Blk.lt k1); replace k2 := Blk.below k2 hb (Blk.lt k2); replace k9 := Blk.below k9 hb (Blk.lt k9); replace k5 := Blk.below k5 hb (Blk.lt k5); (try clear k0c k0f k0z); have k0c := fun i => Blk.cell k0 i; have k0f := fun i => Blk.free k0 i; have k0z := Blk.lt k0; (try clear k1c k1f k1z); have k1c := fun i => Blk.cell k1 i; have k1f := fun i => Blk.free k1 i; have k1z := Blk.lt k1; (try clear k2c k2f k2z); have k2c := fun i => Blk.cell k2 i; have k2f := fun i => Blk.free k2 i; have k2z := Blk.lt k2; (try clear k9c k9f k9z); have k9c := fun i => Blk.cell k9 i; have k9f := fun i => Blk.free k9 i; have k9z := Blk.lt k9; (try clear k5c k5f k5z); have k5c := fun i => Blk.cell k5 i; have k5f := fun i => Blk.free k5 i; have k5z := Blk.lt k5) | skip)
          all_goals (try (go_wp2_with (first | ((with_reducible refine wpList_here ?_ ?_); (· exact Eq.refl true); first | ((with_reducible refine wpList_grow 17 ?_ ?_); (· exact Eq.refl true))) | ((with_reducible refine wp_region_any_here ?_ ?_); (· exact Eq.refl true); first | ((with_reducible refine wp_region_drawn 17 ?_ ?_ ?_ ?_); (· exact Eq.refl true); (· kernel_rfl); (· kernel_rfl)) | refine wp_region_grow (by kernel_rfl) (by kernel_rfl) ?_)); (try simp only [List.take_succ_cons, List.take_zero, List.drop_succ_cons, List.drop_zero]); (repeat (go_big_quiet_step ((first | (go_at_call 22; with_reducible exact grow_of (CA.out _)))))); (first | (refine wpQuiet_nil ?_; intro w' hb; replace hB := Below.trans hB (Below.mono hb (Below.size hB)); replace k0 := Blk.below k0 hb (Blk.lt k0); replace k1 := Blk.below k1 hb (Blk.lt k1); replace k2 := Blk.below k2 hb (Blk.lt k2); replace k9 := Blk.below k9 hb (Blk.lt k9); replace k5 := Blk.below k5 hb (Blk.lt k5); (try clear k0c k0f k0z); have k0c := fun i => Blk.cell k0 i; have k0f := fun i => Blk.free k0 i; have k0z := Blk.lt k0; (try clear k1c k1f k1z); have k1c := fun i => Blk.cell k1 i; have k1f := fun i => Blk.free k1 i; have k1z := Blk.lt k1; (try clear k2c k2f k2z); have k2c := fun i => Blk.cell k2 i; have k2f := fun i => Blk.free k2 i; have k2z := Blk.lt k2; (try clear k9c k9f k9z); have k9c := fun i => Blk.cell k9 i; have k9f := fun i => Blk.free k9 i; have k9z := Blk.lt k9; (try clear k5c k5f k5z); have k5c := fun i => Blk.cell k5 i; have k5f := fun i => Blk.free k5 i; have k5z := Blk.lt k5) | skip)))
          all_goals (try (go_wp2_with (first | ((with_reducible refine wpList_here ?_ ?_); (· exact Eq.refl true); first | ((with_reducible refine wpList_grow 17 ?_ ?_); (· exact Eq.refl true))) | ((with_reducible refine wp_region_any_here ?_ ?_); (· exact Eq.refl true); first | ((with_reducible refine wp_region_drawn 17 ?_ ?_ ?_ ?_); (· exact Eq.refl true); (· kernel_rfl); (· kernel_rfl)) | refine wp_region_grow (by kernel_rfl) (by kernel_rfl) ?_)); (try simp only [List.take_succ_cons, List.take_zero, List.drop_succ_cons, List.drop_zero]); (repeat (go_big_quiet_step ((first | (go_at_call 22; with_reducible exact grow_of (CA.out _)))))); (first | (refine wpQuiet_nil ?_; intro w' hb; replace hB := Below.trans hB (Below.mono hb (Below.size hB)); replace k0 := Blk.below k0 hb (Blk.lt k0); replace k1 := Blk.below k1 hb (Blk.lt k1); replace k2 := Blk.below k2 hb (Blk.lt k2); replace k9 := Blk.below k9 hb (Blk.lt k9); replace k5 := Blk.below k5 hb (Blk.lt k5); (try clear k0c k0f k0z); have k0c := fun i => Blk.cell k0 i; have k0f := fun i => Blk.free k0 i; have k0z := Blk.lt k0; (try clear k1c k1f k1z); have k1c := fun i => Blk.cell k1 i; have k1f := fun i => Blk.free k1 i; have k1z := Blk.lt k1; (try clear k2c k2f k2z); have k2c := fun i => Blk.cell k2 i; have k2f := fun i => Blk.free k2 i; have k2z := Blk.lt k2; (try clear k9c k9f k9z); have k9c := fun i => Blk.cell k9 i; have k9f := fun i => Blk.free k9 i; have k9z := Blk.lt k9; (try clear k5c k5f k5z); have k5c := fun i => Blk.cell k5 i; have k5f := fun i => Blk.free k5 i; have k5z := Blk.lt k5) | skip)))
          go_ret
          exact ⟨rfl, hB⟩
end Go.Proofs.Ytlcnhpjmmjmkcaa

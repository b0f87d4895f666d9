
/-
  move.Ahead. Conditions: a scenario that may be, a moving car within its building.
-/
import Derived.Test.YtlcnhpjmmjmkcaaAheadQ
set_option linter.unusedVariables false
set_option linter.unusedSimpArgs false
namespace Go.Proofs.Ytlcnhpjmmjmkcaa
open Go.Joins Go.ChangeShapes Go.WideShapes Go.ChangeAt Go.RowKit Go.Deep

set_option maxRecDepth 20000 in
set_option maxHeartbeats 8000000 in
theorem move_Ahead (s : Scen) (A : Option Addr) (C : Nat) (c : Car) (A2 : Option Addr) (C2 : Nat) (x0 y0 x1 y1 : Nat) (w : World) (h : FineP s c x0 y0 x1 y1) (hm : c.mode = 1) (hd : c.dir ≠ 0) (hr : Rids w A2 c.riders) (hbd : ∀ i, I64 (dst c.riders i))
    (h0 : Wd x0) (h1 : Wd y0) (h2 : Wd x1) (h3 : Wd y1) :
    Calls Try.prog 18 #[s.val A C, c.val A2 C2, sv x0 y0, sv x1 y1] w fun e w' => e = .returned (.tuple #[.int .i64 (ahN s c x0 y0 x1 y1 + 1), .int .i64 (ahF s c x0 y0 x1 y1)]) ∧ Below w.heap.size w w' := by
  have hl : c.riders.length ≤ 1000 := by have := h.car.2.2.1; omega
  have hsm := small_of h.fine
  have hcap : I64 s.capacity := by have := hsm.2.2.1; unfold I64; omega
  have hg := h.fine.2.1
  have hp := h.car.1
  have htop := high_bd hsm
  have hd3 := h.car.2.1
  have hsee := see_ok (c := c) (cap := s.capacity) h0 h1 h2 h3
  have hnf := nextF_in h hm hd h0 h1 h2 h3
  have hnn := next_well hp.1 hg.1 (show c.dir = 1 ∨ c.dir = -1 by omega)
  have hJ := ahJ_bd h hm hd h0 h1 h2 h3
  have hNb := ahN_bd h hm hd h0 h1 h2 h3
  have hon := ah_on h hm hd h0 h1 h2 h3
  have hend := ah_end h hm hd h0 h1 h2 h3
  have cE := fun w hr => face_See c A2 C2 s.capacity x0 y0 x1 y1 w hr hl hbd hcap h0 h1 h2 h3
  have cP := fun w => place_Next c.pos s.gap c.dir w hp.1 (by omega) hg.1 (by omega)
  have cF := fun f w hf => sight_Of (seeOf c s.capacity x0 y0 x1 y1) f c.dir w hsee hf hd3
  have cT := fun f w hr hf => sight_Stop (seeOf c s.capacity x0 y0 x1 y1) c A2 C2 f w hsee hr hl hbd hf hd3
  have hN : ahN s c x0 y0 x1 y1 = nextN c.pos s.gap c.dir + ahJ s c x0 y0 x1 y1 * s.gap := rfl
  have hFd : ahF s c x0 y0 x1 y1 = nextF c.pos s.gap c.dir + ahJ s c x0 y0 x1 y1 * c.dir := rfl
  unfold onB at hon hend
  clear hsee hbd hcap h0 h1 h2 h3 h hm hl
  generalize seeOf c s.capacity x0 y0 x1 y1 = sg at *
  generalize ahN s c x0 y0 x1 y1 = aN at *
  generalize ahF s c x0 y0 x1 y1 = aF at *
  generalize ahJ s c x0 y0 x1 y1 = J at *
  generalize nextN c.pos s.gap c.dir = n0 at *
  generalize nextF c.pos s.gap c.dir = f0 at *
  obtain ⟨wx, wy, lx, ly, mx, my⟩ := sg
  unfold Sgt.val sv at *
  simp only at *
  have HR := Lib.hid hr
  have CE := Lib.hid cE
  have CP := Lib.hid cP
  have CF := Lib.hid cF
  have CT := Lib.hid cT
  have HON := Lib.hid hon
  have HEND := Lib.hid hend
  clear hr cE cP cF cT hon hend
  have qd : (c.dir != 0) = true := by simpa using hd
  have qdd : (c.dir == c.dir) = true := by simp
  go_enter Try.func18, Try.ntmps18
  go_wp2_with (first | ((with_reducible refine hold_list ?_ ?_); (· exact Eq.refl true)) | ((with_reducible refine hold_region ?_ ?_); (· exact Eq.refl true)) | (with_reducible refine hold_loop ?_))
  have k0 : Blk ((((w.alloc (.cells #[.int .i64 s.floors, .int .i64 s.gap, .int .i64 s.cars, .int .i64 s.capacity, .int .i64 s.open_, .int .i64 s.dwell, .int .i64 s.close, .int .i64 s.transfer, .slice A s.segs.length C, .int .i64 s.disp, .int .i64 s.horizon, .int .i64 s.bins, .int .i64 s.width] 42)).alloc (.cells #[.int .i64 c.pos, .int .i64 c.dir, .int .i64 c.mode, .int .i64 c.left, .bool c.waited, .slice A2 c.riders.length C2] 25)).alloc (.cells #[.int .u64 (x0 : Int), .int .u64 (y0 : Int)] 28)).alloc (.cells #[.int .u64 (x1 : Int), .int .u64 (y1 : Int)] 28)) (w.heap.size) 42 #[.int .i64 s.floors, .int .i64 s.gap, .int .i64 s.cars, .int .i64 s.capacity, .int .i64 s.open_, .int .i64 s.dwell, .int .i64 s.close, .int .i64 s.transfer, .slice A s.segs.length C, .int .i64 s.disp, .int .i64 s.horizon, .int .i64 s.bins, .int .i64 s.width] := (Blk.alloc (Blk.alloc (Blk.alloc (blk_at (by simp)) (.cells #[.int .i64 c.pos, .int .i64 c.dir, .int .i64 c.mode, .int .i64 c.left, .bool c.waited, .slice A2 c.riders.length C2] 25)) (.cells #[.int .u64 (x0 : Int), .int .u64 (y0 : Int)] 28)) (.cells #[.int .u64 (x1 : Int), .int .u64 (y1 : Int)] 28))
  have k1 : Blk ((((w.alloc (.cells #[.int .i64 s.floors, .int .i64 s.gap, .int .i64 s.cars, .int .i64 s.capacity, .int .i64 s.open_, .int .i64 s.dwell, .int .i64 s.close, .int .i64 s.transfer, .slice A s.segs.length C, .int .i64 s.disp, .int .i64 s.horizon, .int .i64 s.bins, .int .i64 s.width] 42)).alloc (.cells #[.int .i64 c.pos, .int .i64 c.dir, .int .i64 c.mode, .int .i64 c.left, .bool c.waited, .slice A2 c.riders.length C2] 25)).alloc (.cells #[.int .u64 (x0 : Int), .int .u64 (y0 : Int)] 28)).alloc (.cells #[.int .u64 (x1 : Int), .int .u64 (y1 : Int)] 28)) (w.heap.size + 1) 25 #[.int .i64 c.pos, .int .i64 c.dir, .int .i64 c.mode, .int .i64 c.left, .bool c.waited, .slice A2 c.riders.length C2] := (Blk.alloc (Blk.alloc (blk_at (by simp)) (.cells #[.int .u64 (x0 : Int), .int .u64 (y0 : Int)] 28)) (.cells #[.int .u64 (x1 : Int), .int .u64 (y1 : Int)] 28))
  have k2 : Blk ((((w.alloc (.cells #[.int .i64 s.floors, .int .i64 s.gap, .int .i64 s.cars, .int .i64 s.capacity, .int .i64 s.open_, .int .i64 s.dwell, .int .i64 s.close, .int .i64 s.transfer, .slice A s.segs.length C, .int .i64 s.disp, .int .i64 s.horizon, .int .i64 s.bins, .int .i64 s.width] 42)).alloc (.cells #[.int .i64 c.pos, .int .i64 c.dir, .int .i64 c.mode, .int .i64 c.left, .bool c.waited, .slice A2 c.riders.length C2] 25)).alloc (.cells #[.int .u64 (x0 : Int), .int .u64 (y0 : Int)] 28)).alloc (.cells #[.int .u64 (x1 : Int), .int .u64 (y1 : Int)] 28)) (w.heap.size + 2) 28 #[.int .u64 (x0 : Int), .int .u64 (y0 : Int)] := (Blk.alloc (blk_at (by simp)) (.cells #[.int .u64 (x1 : Int), .int .u64 (y1 : Int)] 28))
  have k3 : Blk ((((w.alloc (.cells #[.int .i64 s.floors, .int .i64 s.gap, .int .i64 s.cars, .int .i64 s.capacity, .int .i64 s.open_, .int .i64 s.dwell, .int .i64 s.close, .int .i64 s.transfer, .slice A s.segs.length C, .int .i64 s.disp, .int .i64 s.horizon, .int .i64 s.bins, .int .i64 s.width] 42)).alloc (.cells #[.int .i64 c.pos, .int .i64 c.dir, .int .i64 c.mode, .int .i64 c.left, .bool c.waited, .slice A2 c.riders.length C2] 25)).alloc (.cells #[.int .u64 (x0 : Int), .int .u64 (y0 : Int)] 28)).alloc (.cells #[.int .u64 (x1 : Int), .int .u64 (y1 : Int)] 28)) (w.heap.size + 3) 28 #[.int .u64 (x1 : Int), .int .u64 (y1 : Int)] := (blk_at (by simp))
  have hB : Below w.heap.size w ((((w.alloc (.cells #[.int .i64 s.floors, .int .i64 s.gap, .int .i64 s.cars, .int .i64 s.capacity, .int .i64 s.open_, .int .i64 s.dwell, .int .i64 s.close, .int .i64 s.transfer, .slice A s.segs.length C, .int .i64 s.disp, .int .i64 s.horizon, .int .i64 s.bins, .int .i64 s.width] 42)).alloc (.cells #[.int .i64 c.pos, .int .i64 c.dir, .int .i64 c.mode, .int .i64 c.left, .bool c.waited, .slice A2 c.riders.length C2] 25)).alloc (.cells #[.int .u64 (x0 : Int), .int .u64 (y0 : Int)] 28)).alloc (.cells #[.int .u64 (x1 : Int), .int .u64 (y1 : Int)] 28)) := (bel_at (bel_at (bel_at (bel_at (Below.refl _ _) (.cells #[.int .i64 s.floors, .int .i64 s.gap, .int .i64 s.cars, .int .i64 s.capacity, .int .i64 s.open_, .int .i64 s.dwell, .int .i64 s.close, .int .i64 s.transfer, .slice A s.segs.length C, .int .i64 s.disp, .int .i64 s.horizon, .int .i64 s.bins, .int .i64 s.width] 42)) (.cells #[.int .i64 c.pos, .int .i64 c.dir, .int .i64 c.mode, .int .i64 c.left, .bool c.waited, .slice A2 c.riders.length C2] 25)) (.cells #[.int .u64 (x0 : Int), .int .u64 (y0 : Int)] 28)) (.cells #[.int .u64 (x1 : Int), .int .u64 (y1 : Int)] 28))
  generalize ((((w.alloc (.cells #[.int .i64 s.floors, .int .i64 s.gap, .int .i64 s.cars, .int .i64 s.capacity, .int .i64 s.open_, .int .i64 s.dwell, .int .i64 s.close, .int .i64 s.transfer, .slice A s.segs.length C, .int .i64 s.disp, .int .i64 s.horizon, .int .i64 s.bins, .int .i64 s.width] 42)).alloc (.cells #[.int .i64 c.pos, .int .i64 c.dir, .int .i64 c.mode, .int .i64 c.left, .bool c.waited, .slice A2 c.riders.length C2] 25)).alloc (.cells #[.int .u64 (x0 : Int), .int .u64 (y0 : Int)] 28)).alloc (.cells #[.int .u64 (x1 : Int), .int .u64 (y1 : Int)] 28)) = w1 at *
  (try clear k0c k0f k0z); have k0c := fun i => Blk.cell k0 i; have k0f := fun i => Blk.free k0 i; have k0z := Blk.lt k0; (try clear k1c k1f k1z); have k1c := fun i => Blk.cell k1 i; have k1f := fun i => Blk.free k1 i; have k1z := Blk.lt k1; (try clear k2c k2f k2z); have k2c := fun i => Blk.cell k2 i; have k2f := fun i => Blk.free k2 i; have k2z := Blk.lt k2; (try clear k3c k3f k3z); have k3c := fun i => Blk.cell k3 i; have k3f := fun i => Blk.free k3 i; have k3z := Blk.lt k3
  unfold Hold
  go_wp2_with (first | (first | ((with_reducible refine wpList_here ?_ ?_); (· exact Eq.refl true); first | ((with_reducible refine wpList_grow 6 ?_ ?_); (· exact Eq.refl true))) | ((with_reducible refine wp_region_any_here ?_ ?_); (· exact Eq.refl true); first | ((with_reducible refine wp_region_drawn 6 ?_ ?_ ?_ ?_); (· exact Eq.refl true); (· kernel_rfl); (· kernel_rfl)) | refine wp_region_grow (by kernel_rfl) (by kernel_rfl) ?_)); (try simp only [List.take_succ_cons, List.take_zero, List.drop_succ_cons, List.drop_zero]); (repeat (go_big_quiet_step ((first | (go_at_call 8; with_reducible exact grow_of (CE.out _ ((HR.out.below hB).below (Grow.below _)))))))); (first | (refine wpQuiet_nil ?_; intro w' hb; replace hB := Below.trans hB (Below.mono hb (Below.size hB)); replace k0 := Blk.below k0 hb (Blk.lt k0); replace k1 := Blk.below k1 hb (Blk.lt k1); replace k2 := Blk.below k2 hb (Blk.lt k2); replace k3 := Blk.below k3 hb (Blk.lt k3); (try clear k0c k0f k0z); have k0c := fun i => Blk.cell k0 i; have k0f := fun i => Blk.free k0 i; have k0z := Blk.lt k0; (try clear k1c k1f k1z); have k1c := fun i => Blk.cell k1 i; have k1f := fun i => Blk.free k1 i; have k1z := Blk.lt k1; (try clear k2c k2f k2z); have k2c := fun i => Blk.cell k2 i; have k2f := fun i => Blk.free k2 i; have k2z := Blk.lt k2; (try clear k3c k3f k3z); have k3c := fun i => Blk.cell k3 i; have k3f := fun i => Blk.free k3 i; have k3z := Blk.lt k3) | skip) | ((with_reducible refine hold_list ?_ ?_); (· exact Eq.refl true)) | ((with_reducible refine hold_region ?_ ?_); (· exact Eq.refl true)) | (with_reducible refine hold_loop ?_))
  all_goals (try (go_wp2_with (first | ((with_reducible refine hold_list ?_ ?_); (· exact Eq.refl true)) | ((with_reducible refine hold_region ?_ ?_); (· exact Eq.refl true)) | (with_reducible refine hold_loop ?_))))
  have k4 : Blk (w'.alloc (.cells #[.int .u64 (wx : Int), .int .u64 (wy : Int), .int .u64 (lx : Int), .int .u64 (ly : Int), .int .u64 (mx : Int), .int .u64 (my : Int)] 32)) w'.heap.size 32 #[.int .u64 (wx : Int), .int .u64 (wy : Int), .int .u64 (lx : Int), .int .u64 (ly : Int), .int .u64 (mx : Int), .int .u64 (my : Int)] := Blk.new _ _ _
  replace k0 := Blk.alloc k0 (.cells #[.int .u64 (wx : Int), .int .u64 (wy : Int), .int .u64 (lx : Int), .int .u64 (ly : Int), .int .u64 (mx : Int), .int .u64 (my : Int)] 32)
  replace k1 := Blk.alloc k1 (.cells #[.int .u64 (wx : Int), .int .u64 (wy : Int), .int .u64 (lx : Int), .int .u64 (ly : Int), .int .u64 (mx : Int), .int .u64 (my : Int)] 32)
  replace hB := bel_at hB (.cells #[.int .u64 (wx : Int), .int .u64 (wy : Int), .int .u64 (lx : Int), .int .u64 (ly : Int), .int .u64 (mx : Int), .int .u64 (my : Int)] 32)
  generalize w'.alloc (.cells #[.int .u64 (wx : Int), .int .u64 (wy : Int), .int .u64 (lx : Int), .int .u64 (ly : Int), .int .u64 (mx : Int), .int .u64 (my : Int)] 32) = w3 at *
  (try clear k0c k0f k0z); have k0c := fun i => Blk.cell k0 i; have k0f := fun i => Blk.free k0 i; have k0z := Blk.lt k0; (try clear k1c k1f k1z); have k1c := fun i => Blk.cell k1 i; have k1f := fun i => Blk.free k1 i; have k1z := Blk.lt k1; (try clear k4c k4f k4z); have k4c := fun i => Blk.cell k4 i; have k4f := fun i => Blk.free k4 i; have k4z := Blk.lt k4
  clear k2 k2c k2f k2z k3 k3c k3f k3z
  generalize w'.heap.size = b4 at *
  unfold Hold
  go_wp2_with (first | (with_reducible refine hold_loop ?_) | (first | ((with_reducible refine wpList_here ?_ ?_); (· exact Eq.refl true); first | ((with_reducible refine wpList_grow 7 ?_ ?_); (· exact Eq.refl true))) | ((with_reducible refine wp_region_any_here ?_ ?_); (· exact Eq.refl true); first | ((with_reducible refine wp_region_drawn 7 ?_ ?_ ?_ ?_); (· exact Eq.refl true); (· kernel_rfl); (· kernel_rfl)) | refine wp_region_grow (by kernel_rfl) (by kernel_rfl) ?_)); (try simp only [List.take_succ_cons, List.take_zero, List.drop_succ_cons, List.drop_zero]); (repeat (go_big_quiet_step ((first | (go_at_call 38; with_reducible exact grow_draw (CP.out _)))))); (first | (refine wpQuiet_nil ?_; intro w' hb; replace hB := Below.trans hB (Below.mono hb (Below.size hB)); replace k0 := Blk.below k0 hb (Blk.lt k0); replace k1 := Blk.below k1 hb (Blk.lt k1); replace k4 := Blk.below k4 hb (Blk.lt k4); (try clear k0c k0f k0z); have k0c := fun i => Blk.cell k0 i; have k0f := fun i => Blk.free k0 i; have k0z := Blk.lt k0; (try clear k1c k1f k1z); have k1c := fun i => Blk.cell k1 i; have k1f := fun i => Blk.free k1 i; have k1z := Blk.lt k1; (try clear k4c k4f k4z); have k4c := fun i => Blk.cell k4 i; have k4f := fun i => Blk.free k4 i; have k4z := Blk.lt k4) | skip))
  all_goals (try (go_wp2_with (with_reducible refine hold_loop ?_)))
  unfold Hold
  go_loopw [11, 12] (fun n f wr => ∃ j : Nat, j ≤ J ∧ n = .int .i64 (n0 + j * s.gap) ∧ f = .int .i64 (f0 + j * c.dir) ∧ Blk wr w.heap.size 42 #[.int .i64 s.floors, .int .i64 s.gap, .int .i64 s.cars, .int .i64 s.capacity, .int .i64 s.open_, .int .i64 s.dwell, .int .i64 s.close, .int .i64 s.transfer, .slice A s.segs.length C, .int .i64 s.disp, .int .i64 s.horizon, .int .i64 s.bins, .int .i64 s.width] ∧ Blk wr (w.heap.size + 1) 25 #[.int .i64 c.pos, .int .i64 c.dir, .int .i64 c.mode, .int .i64 c.left, .bool c.waited, .slice A2 c.riders.length C2] ∧ Blk wr b4 32 #[.int .u64 (wx : Int), .int .u64 (wy : Int), .int .u64 (lx : Int), .int .u64 (ly : Int), .int .u64 (mx : Int), .int .u64 (my : Int)] ∧ Below w.heap.size w wr) (fun n _ _ => (aN - intOf n).toNat)
  case atStart => exact ⟨0, by omega, by simp, by simp, k0, k1, k4, hB⟩
  case round =>
    clear k0 k1 k4 k0c k0f k0z k1c k1f k1z k4c k4f k4z hB
    obtain ⟨j, hj, rfl, rfl, k0, k1, k4, hB⟩ := hrel
    (try clear k0c k0f k0z); have k0c := fun i => Blk.cell k0 i; have k0f := fun i => Blk.free k0 i; have k0z := Blk.lt k0; (try clear k1c k1f k1z); have k1c := fun i => Blk.cell k1 i; have k1f := fun i => Blk.free k1 i; have k1z := Blk.lt k1; (try clear k4c k4f k4z); have k4c := fun i => Blk.cell k4 i; have k4f := fun i => Blk.free k4 i; have k4z := Blk.lt k4
    have hjg : 0 ≤ (j : Int) * s.gap ∧ (j : Int) * s.gap ≤ (J : Int) * s.gap := ⟨Int.mul_nonneg (by omega) (by omega), Int.mul_le_mul_of_nonneg_right (by omega) (by omega)⟩
    have hjd : -128 ≤ (j : Int) * c.dir ∧ (j : Int) * c.dir ≤ 128 := by
      have hd4 : c.dir = 1 ∨ c.dir = -1 := by omega
      rcases hd4 with e | e <;> rw [e] <;> omega
    have hnx : n0 + ((j + 1 : Nat) : Int) * s.gap = n0 + (j : Int) * s.gap + s.gap := by push_cast; rw [Int.add_mul]; omega
    have hfx : f0 + ((j + 1 : Nat) : Int) * c.dir = f0 + (j : Int) * c.dir + c.dir := by push_cast; rw [Int.add_mul]; omega
    have cF := fun w => CF.out (f0 + (j : Int) * c.dir) w (by omega)
    have cT := fun w hr => CT.out (f0 + (j : Int) * c.dir) w hr (by omega)
    have HNX := Lib.hid hnx
    have HFX := Lib.hid hfx
    clear hnx hfx
    by_cases hlt : j < J
    · have ho := HON.out j hlt
      simp only [Bool.and_eq_true, Bool.not_eq_true', beq_iff_eq] at ho
      rw [ho.1] at cT
      rw [ho.2] at cF
      have hjl : (j : Int) * s.gap + s.gap ≤ (J : Int) * s.gap := by
        have := Int.mul_le_mul_of_nonneg_right (show (j : Int) + 1 ≤ (J : Int) by omega) (show 0 ≤ s.gap by omega)
        rwa [Int.add_mul, Int.one_mul] at this
      clear ho
      have CF2 := Lib.hid cF
      have CT2 := Lib.hid cT
      clear cF cT
      generalize hnj : n0 + (j : Int) * s.gap = nj at *
      generalize hfj : f0 + (j : Int) * c.dir = fj at *
      have e1 : IntKind.i64.wrap (nj + s.gap) = nj + s.gap := IntWalk.i64_in _ (by omega)
      have e2 : IntKind.i64.wrap (fj + c.dir) = fj + c.dir := IntWalk.i64_in _ (by omega)
      go_wp2_with (first | (first | ((with_reducible refine wpList_here ?_ ?_); (· exact Eq.refl true); first | ((with_reducible refine wpList_grow 99 ?_ ?_); (· exact Eq.refl true))) | ((with_reducible refine wp_region_any_here ?_ ?_); (· exact Eq.refl true); first | ((with_reducible refine wp_region_drawn 99 ?_ ?_ ?_ ?_); (· exact Eq.refl true); (· kernel_rfl); (· kernel_rfl)) | refine wp_region_grow (by kernel_rfl) (by kernel_rfl) ?_)); (try simp only [List.take_succ_cons, List.take_zero, List.drop_succ_cons, List.drop_zero]); (repeat (go_big_quiet_step ((first | (go_at_call 10; with_reducible exact grow_of (CT2.out _ ((HR.out.below hB).below (Grow.below _)))) | (go_at_call 9; with_reducible exact grow_of (CF2.out _)))))); (first | (refine wpQuiet_nil ?_; intro w' hb; replace hB := Below.trans hB (Below.mono hb (Below.size hB)); replace k0 := Blk.below k0 hb (Blk.lt k0); replace k1 := Blk.below k1 hb (Blk.lt k1); replace k4 := Blk.below k4 hb (Blk.lt k4); (try clear k0c k0f k0z); have k0c := fun i => Blk.cell k0 i; have k0f := fun i => Blk.free k0 i; have k0z := Blk.lt k0; (try clear k1c k1f k1z); have k1c := fun i => Blk.cell k1 i; have k1f := fun i => Blk.free k1 i; have k1z := Blk.lt k1; (try clear k4c k4f k4z); have k4c := fun i => Blk.cell k4 i; have k4f := fun i => Blk.free k4 i; have k4z := Blk.lt k4) | skip))
      all_goals (try (go_wp2))
      go_quiet (fail)
      go_wp2
      go_roundw
      case rel => exact ⟨j + 1, by omega, by rw [HNX.out], by rw [HFX.out], k0.drewN _, k1.drewN _, k4.drewN _, below_drewN hB _⟩
      case measure => simp [intOf]; omega
    · obtain rfl : j = J := by omega
      have ho := HEND.out
      rw [← hFd] at cF cT ⊢
      rw [← hN]
      have hways : stopB ⟨wx, wy, lx, ly, mx, my⟩ c aF = true ∨ (stopB ⟨wx, wy, lx, ly, mx, my⟩ c aF = false ∧ faceOf ⟨wx, wy, lx, ly, mx, my⟩ aF c.dir ≠ c.dir) := by
        cases hst : stopB ⟨wx, wy, lx, ly, mx, my⟩ c aF with
        | true => exact .inl rfl
        | false =>
          rw [hst] at ho
          exact .inr ⟨rfl, by simpa using ho⟩
      clear ho HON HEND
      have e3 : IntKind.i64.wrap (aN + 1) = aN + 1 := IntWalk.i64_in _ (by omega)
      clear hjg hjd HNX HFX hN hFd
      generalize stopB ⟨wx, wy, lx, ly, mx, my⟩ c aF = st at *
      generalize faceOf ⟨wx, wy, lx, ly, mx, my⟩ aF c.dir = fo at *
      have CF2 := Lib.hid cF
      have CT2 := Lib.hid cT
      clear cF cT
      rcases hways with hst | ⟨hst, hfo⟩
      · subst hst
        go_wp2_with (first | (first | ((with_reducible refine wpList_here ?_ ?_); (· exact Eq.refl true); first | ((with_reducible refine wpList_grow 99 ?_ ?_); (· exact Eq.refl true))) | ((with_reducible refine wp_region_any_here ?_ ?_); (· exact Eq.refl true); first | ((with_reducible refine wp_region_drawn 99 ?_ ?_ ?_ ?_); (· exact Eq.refl true); (· kernel_rfl); (· kernel_rfl)) | refine wp_region_grow (by kernel_rfl) (by kernel_rfl) ?_)); (try simp only [List.take_succ_cons, List.take_zero, List.drop_succ_cons, List.drop_zero]); (repeat (go_big_quiet_step ((first | (go_at_call 10; with_reducible exact grow_of (CT2.out _ ((HR.out.below hB).below (Grow.below _)))) | (go_at_call 9; with_reducible exact grow_of (CF2.out _)))))); (first | (refine wpQuiet_nil ?_; intro w' hb; replace hB := Below.trans hB (Below.mono hb (Below.size hB)); replace k0 := Blk.below k0 hb (Blk.lt k0); replace k1 := Blk.below k1 hb (Blk.lt k1); replace k4 := Blk.below k4 hb (Blk.lt k4); (try clear k0c k0f k0z); have k0c := fun i => Blk.cell k0 i; have k0f := fun i => Blk.free k0 i; have k0z := Blk.lt k0; (try clear k1c k1f k1z); have k1c := fun i => Blk.cell k1 i; have k1f := fun i => Blk.free k1 i; have k1z := Blk.lt k1; (try clear k4c k4f k4z); have k4c := fun i => Blk.cell k4 i; have k4f := fun i => Blk.free k4 i; have k4z := Blk.lt k4) | skip))
        all_goals (try (go_wp2))
        go_ret2
        exact ⟨rfl, hB⟩
      · subst hst
        have q1 : (fo == c.dir) = false := by simpa using hfo
        clear hfo
        go_wp2_with (first | (first | ((with_reducible refine wpList_here ?_ ?_); (· exact Eq.refl true); first | ((with_reducible refine wpList_grow 99 ?_ ?_); (· exact Eq.refl true))) | ((with_reducible refine wp_region_any_here ?_ ?_); (· exact Eq.refl true); first | ((with_reducible refine wp_region_drawn 99 ?_ ?_ ?_ ?_); (· exact Eq.refl true); (· kernel_rfl); (· kernel_rfl)) | refine wp_region_grow (by kernel_rfl) (by kernel_rfl) ?_)); (try simp only [List.take_succ_cons, List.take_zero, List.drop_succ_cons, List.drop_zero]); (repeat (go_big_quiet_step ((first | (go_at_call 10; with_reducible exact grow_of (CT2.out _ ((HR.out.below hB).below (Grow.below _)))) | (go_at_call 9; with_reducible exact grow_of (CF2.out _)))))); (first | (refine wpQuiet_nil ?_; intro w' hb; replace hB := Below.trans hB (Below.mono hb (Below.size hB)); replace k0 := Blk.below k0 hb (Blk.lt k0); replace k1 := Blk.below k1 hb (Blk.lt k1); replace k4 := Blk.below k4 hb (Blk.lt k4); (try clear k0c k0f k0z); have k0c := fun i => Blk.cell k0 i; have k0f := fun i => Blk.free k0 i; have k0z := Blk.lt k0; (try clear k1c k1f k1z); have k1c := fun i => Blk.cell k1 i; have k1f := fun i => Blk.free k1 i; have k1z := Blk.lt k1; (try clear k4c k4f k4z); have k4c := fun i => Blk.cell k4 i; have k4f := fun i => Blk.free k4 i; have k4z := Blk.lt k4) | skip))
        all_goals (try (go_wp2))
        go_ret2
        exact ⟨rfl, hB⟩
end Go.Proofs.Ytlcnhpjmmjmkcaa

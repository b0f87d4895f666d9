
/-
  The document's Ahead: hoistwayref40.Ahead. Conditions: a scenario that may be, a moving car within its building.
-/
import Derived.Test.YtlcnhpjmmjmkcaaAheadQ
import Derived.Test.YtlcnhpjmmjmkcaaMoveR
set_option linter.unusedVariables false
set_option linter.unusedSimpArgs false
namespace Go.Proofs.Ytlcnhpjmmjmkcaa
open Go.Joins Go.ChangeShapes Go.WideShapes Go.ChangeAt Go.RowKit Go.Deep

theorem two_ret {a b c d : Int} (h1 : a = c) (h2 : b = d) : Ending.returned (.tuple #[.int .i64 (a + 1), .int .i64 b]) = Ending.returned (.tuple #[.int .i64 (c + 1), .int .i64 d]) := by rw [h1, h2]
theorem way_in {s : Scen} {c : Car} {x0 y0 x1 y1 : Nat} (h : FineP s c x0 y0 x1 y1) (hm : c.mode = 1) (hd : c.dir ≠ 0) (h0 : Wd x0) (h1 : Wd y0) (h2 : Wd x1) (h3 : Wd y1) (m : Nat) (hle : (m : Int) ≤ ahN s c x0 y0 x1 y1) : 0 ≤ (carAt c m).pos ∧ (carAt c m).pos ≤ 100000 := by
  have hd3 : c.dir = 1 ∨ c.dir = -1 := by have := h.car.2.1; omega
  have hg := h.fine.2.1
  have hn := next_well h.car.1.1 hg.1 hd3
  have hJ := ahJ_bd h hm hd h0 h1 h2 h3
  have hb := ahN_bd h hm hd h0 h1 h2 h3
  have hf := nextF_in h hm hd h0 h1 h2 h3
  have hp := h.car.1
  have ht := high_bd (small_of h.fine)
  show 0 ≤ c.pos + (m : Int) * c.dir ∧ c.pos + (m : Int) * c.dir ≤ 100000
  rcases hd3 with e | e
  · rw [e]; omega
  · have hend : 0 ≤ ahF s c x0 y0 x1 y1 := by
      rcases Nat.eq_zero_or_pos (ahJ s c x0 y0 x1 y1) with hz | hz
      · unfold ahF; rw [hz]; omega
      · have := on_dest (see_ok h0 h1 h2 h3) (.inr e) (ah_on h hm hd h0 h1 h2 h3 (ahJ s c x0 y0 x1 y1 - 1) (by omega))
        unfold ahF
        generalize ahJ s c x0 y0 x1 y1 = J at *
        have e4 : ((J - 1 : Nat) : Int) = (J : Int) - 1 := by omega
        rw [e4, e] at this
        rw [e]
        omega
    have hpe : c.pos + ahN s c x0 y0 x1 y1 * c.dir = ahF s c x0 y0 x1 y1 * s.gap := by
      unfold ahN ahF
      rw [Int.add_mul, Int.add_mul, ← hn.1, Int.mul_assoc, Int.mul_assoc, Int.mul_comm s.gap c.dir]
      omega
    have h5 : 0 ≤ ahF s c x0 y0 x1 y1 * s.gap := Int.mul_nonneg hend (by omega)
    rw [e] at hpe ⊢
    omega
set_option maxRecDepth 20000 in
set_option maxHeartbeats 8000000 in
theorem ref40_Ahead (s : Scen) (A : Option Addr) (C : Nat) (c : Car) (A2 : Option Addr) (C2 : Nat) (x0 y0 x1 y1 : Nat) (w : World) (h : FineP s c x0 y0 x1 y1) (hm : c.mode = 1) (hd : c.dir ≠ 0) (hr : Rids w A2 c.riders) (hbd : ∀ i, I64 (dst c.riders i))
    (h0 : Wd x0) (h1 : Wd y0) (h2 : Wd x1) (h3 : Wd y1) :
    Calls Try.prog 19 #[s.val A C, c.val A2 C2, sv x0 y0, sv x1 y1] w fun e w' => e = .returned (.tuple #[.int .i64 (ahN s c x0 y0 x1 y1 + 1), .int .i64 (ahF s c x0 y0 x1 y1)]) ∧ Below w.heap.size w w' := by
  have hl : c.riders.length ≤ 1000 := by have := h.car.2.2.1; omega
  have hsm := small_of h.fine
  have hg := h.fine.2.1
  have hd3 := h.car.2.1
  have hNb := ahN_bd h hm hd h0 h1 h2 h3
  have hway := fun m hle => way_in h hm hd h0 h1 h2 h3 m hle
  have hgo := fun m hlt => ah_goes h hm hd h0 h1 h2 h3 m hlt
  have hst := fun m he => ah_stops h hm hd h0 h1 h2 h3 m he
  have cS := fun m w hr hle => ref40_Step s A C (carAt c m) A2 C2 x0 y0 x1 y1 w hsm hg.1 hr hl hbd (hway m hle) hd3 h0 h1 h2 h3
  have hsr := fun m => (show (stepC s (carAt c m) x0 y0 x1 y1).riders = c.riders by unfold stepC carAt; (repeat' split) <;> rfl)
  clear hbd h0 h1 h2 h3 h hl hsm
  generalize ahN s c x0 y0 x1 y1 = aN at *
  generalize ahF s c x0 y0 x1 y1 = aF at *
  obtain ⟨p, d, md, l, wt, rs⟩ := c
  unfold sv at *
  simp only [carAt] at *
  subst hm
  have HR := Lib.hid hr
  have CS := Lib.hid cS
  have HWAY := Lib.hid hway
  have HGO := Lib.hid hgo
  have HST := Lib.hid hst
  have HSR := Lib.hid hsr
  clear hr cS hway hgo hst hsr
  go_enter Try.func19, Try.ntmps19
  go_wp2_with (first | ((with_reducible refine hold_list ?_ ?_); (· exact Eq.refl true)) | ((with_reducible refine hold_region ?_ ?_); (· exact Eq.refl true)) | (with_reducible refine hold_loop ?_))
  have k0 : Blk ((((w.alloc (.cells #[.int .i64 s.floors, .int .i64 s.gap, .int .i64 s.cars, .int .i64 s.capacity, .int .i64 s.open_, .int .i64 s.dwell, .int .i64 s.close, .int .i64 s.transfer, .slice A s.segs.length C, .int .i64 s.disp, .int .i64 s.horizon, .int .i64 s.bins, .int .i64 s.width] 42)).alloc (.cells #[.int .i64 p, .int .i64 d, .int .i64 1, .int .i64 l, .bool wt, .slice A2 rs.length C2] 25)).alloc (.cells #[.int .u64 (x0 : Int), .int .u64 (y0 : Int)] 28)).alloc (.cells #[.int .u64 (x1 : Int), .int .u64 (y1 : Int)] 28)) (w.heap.size) 42 #[.int .i64 s.floors, .int .i64 s.gap, .int .i64 s.cars, .int .i64 s.capacity, .int .i64 s.open_, .int .i64 s.dwell, .int .i64 s.close, .int .i64 s.transfer, .slice A s.segs.length C, .int .i64 s.disp, .int .i64 s.horizon, .int .i64 s.bins, .int .i64 s.width] := (Blk.alloc (Blk.alloc (Blk.alloc (blk_at (by simp)) (.cells #[.int .i64 p, .int .i64 d, .int .i64 1, .int .i64 l, .bool wt, .slice A2 rs.length C2] 25)) (.cells #[.int .u64 (x0 : Int), .int .u64 (y0 : Int)] 28)) (.cells #[.int .u64 (x1 : Int), .int .u64 (y1 : Int)] 28))
  have k1 : Blk ((((w.alloc (.cells #[.int .i64 s.floors, .int .i64 s.gap, .int .i64 s.cars, .int .i64 s.capacity, .int .i64 s.open_, .int .i64 s.dwell, .int .i64 s.close, .int .i64 s.transfer, .slice A s.segs.length C, .int .i64 s.disp, .int .i64 s.horizon, .int .i64 s.bins, .int .i64 s.width] 42)).alloc (.cells #[.int .i64 p, .int .i64 d, .int .i64 1, .int .i64 l, .bool wt, .slice A2 rs.length C2] 25)).alloc (.cells #[.int .u64 (x0 : Int), .int .u64 (y0 : Int)] 28)).alloc (.cells #[.int .u64 (x1 : Int), .int .u64 (y1 : Int)] 28)) (w.heap.size + 1) 25 #[.int .i64 p, .int .i64 d, .int .i64 1, .int .i64 l, .bool wt, .slice A2 rs.length C2] := (Blk.alloc (Blk.alloc (blk_at (by simp)) (.cells #[.int .u64 (x0 : Int), .int .u64 (y0 : Int)] 28)) (.cells #[.int .u64 (x1 : Int), .int .u64 (y1 : Int)] 28))
  have k2 : Blk ((((w.alloc (.cells #[.int .i64 s.floors, .int .i64 s.gap, .int .i64 s.cars, .int .i64 s.capacity, .int .i64 s.open_, .int .i64 s.dwell, .int .i64 s.close, .int .i64 s.transfer, .slice A s.segs.length C, .int .i64 s.disp, .int .i64 s.horizon, .int .i64 s.bins, .int .i64 s.width] 42)).alloc (.cells #[.int .i64 p, .int .i64 d, .int .i64 1, .int .i64 l, .bool wt, .slice A2 rs.length C2] 25)).alloc (.cells #[.int .u64 (x0 : Int), .int .u64 (y0 : Int)] 28)).alloc (.cells #[.int .u64 (x1 : Int), .int .u64 (y1 : Int)] 28)) (w.heap.size + 2) 28 #[.int .u64 (x0 : Int), .int .u64 (y0 : Int)] := (Blk.alloc (blk_at (by simp)) (.cells #[.int .u64 (x1 : Int), .int .u64 (y1 : Int)] 28))
  have k3 : Blk ((((w.alloc (.cells #[.int .i64 s.floors, .int .i64 s.gap, .int .i64 s.cars, .int .i64 s.capacity, .int .i64 s.open_, .int .i64 s.dwell, .int .i64 s.close, .int .i64 s.transfer, .slice A s.segs.length C, .int .i64 s.disp, .int .i64 s.horizon, .int .i64 s.bins, .int .i64 s.width] 42)).alloc (.cells #[.int .i64 p, .int .i64 d, .int .i64 1, .int .i64 l, .bool wt, .slice A2 rs.length C2] 25)).alloc (.cells #[.int .u64 (x0 : Int), .int .u64 (y0 : Int)] 28)).alloc (.cells #[.int .u64 (x1 : Int), .int .u64 (y1 : Int)] 28)) (w.heap.size + 3) 28 #[.int .u64 (x1 : Int), .int .u64 (y1 : Int)] := (blk_at (by simp))
  have hB : Below w.heap.size w ((((w.alloc (.cells #[.int .i64 s.floors, .int .i64 s.gap, .int .i64 s.cars, .int .i64 s.capacity, .int .i64 s.open_, .int .i64 s.dwell, .int .i64 s.close, .int .i64 s.transfer, .slice A s.segs.length C, .int .i64 s.disp, .int .i64 s.horizon, .int .i64 s.bins, .int .i64 s.width] 42)).alloc (.cells #[.int .i64 p, .int .i64 d, .int .i64 1, .int .i64 l, .bool wt, .slice A2 rs.length C2] 25)).alloc (.cells #[.int .u64 (x0 : Int), .int .u64 (y0 : Int)] 28)).alloc (.cells #[.int .u64 (x1 : Int), .int .u64 (y1 : Int)] 28)) := (bel_at (bel_at (bel_at (bel_at (Below.refl _ _) (.cells #[.int .i64 s.floors, .int .i64 s.gap, .int .i64 s.cars, .int .i64 s.capacity, .int .i64 s.open_, .int .i64 s.dwell, .int .i64 s.close, .int .i64 s.transfer, .slice A s.segs.length C, .int .i64 s.disp, .int .i64 s.horizon, .int .i64 s.bins, .int .i64 s.width] 42)) (.cells #[.int .i64 p, .int .i64 d, .int .i64 1, .int .i64 l, .bool wt, .slice A2 rs.length C2] 25)) (.cells #[.int .u64 (x0 : Int), .int .u64 (y0 : Int)] 28)) (.cells #[.int .u64 (x1 : Int), .int .u64 (y1 : Int)] 28))
  generalize ((((w.alloc (.cells #[.int .i64 s.floors, .int .i64 s.gap, .int .i64 s.cars, .int .i64 s.capacity, .int .i64 s.open_, .int .i64 s.dwell, .int .i64 s.close, .int .i64 s.transfer, .slice A s.segs.length C, .int .i64 s.disp, .int .i64 s.horizon, .int .i64 s.bins, .int .i64 s.width] 42)).alloc (.cells #[.int .i64 p, .int .i64 d, .int .i64 1, .int .i64 l, .bool wt, .slice A2 rs.length C2] 25)).alloc (.cells #[.int .u64 (x0 : Int), .int .u64 (y0 : Int)] 28)).alloc (.cells #[.int .u64 (x1 : Int), .int .u64 (y1 : Int)] 28)) = w1 at *
  (try clear k0c k0f k0z); have k0c := fun i => Blk.cell k0 i; have k0f := fun i => Blk.free k0 i; have k0z := Blk.lt k0; (try clear k1c k1f k1z); have k1c := fun i => Blk.cell k1 i; have k1f := fun i => Blk.free k1 i; have k1z := Blk.lt k1; (try clear k2c k2f k2z); have k2c := fun i => Blk.cell k2 i; have k2f := fun i => Blk.free k2 i; have k2z := Blk.lt k2; (try clear k3c k3f k3z); have k3c := fun i => Blk.cell k3 i; have k3f := fun i => Blk.free k3 i; have k3z := Blk.lt k3
  unfold Hold
  go_loopw [10, 11] (fun n _ wr => ∃ m : Nat, (m : Int) ≤ aN ∧ n = .int .i64 (m + 1) ∧ Blk wr w.heap.size 42 #[.int .i64 s.floors, .int .i64 s.gap, .int .i64 s.cars, .int .i64 s.capacity, .int .i64 s.open_, .int .i64 s.dwell, .int .i64 s.close, .int .i64 s.transfer, .slice A s.segs.length C, .int .i64 s.disp, .int .i64 s.horizon, .int .i64 s.bins, .int .i64 s.width] ∧ Blk wr (w.heap.size + 1) 25 #[.int .i64 (p + (m : Int) * d), .int .i64 d, .int .i64 1, .int .i64 l, .bool wt, .slice A2 rs.length C2] ∧ Blk wr (w.heap.size + 2) 28 #[.int .u64 (x0 : Int), .int .u64 (y0 : Int)] ∧ Blk wr (w.heap.size + 3) 28 #[.int .u64 (x1 : Int), .int .u64 (y1 : Int)] ∧ Below w.heap.size w wr) (fun n _ _ => (aN + 1 - intOf n).toNat)
  case atStart => exact ⟨0, by omega, by simp, k0, by simpa using k1, k2, k3, hB⟩
  case round =>
    clear k0 k1 k2 k3 k0c k0f k0z k1c k1f k1z k2c k2f k2z k3c k3f k3z hB
    obtain ⟨m, hm, rfl, k0, k1, k2, k3, hB⟩ := hrel
    have z0 := k0.lt
    have z1 := k1.lt
    (try clear k0c k0f k0z); have k0c := fun i => Blk.cell k0 i; have k0f := fun i => Blk.free k0 i; have k0z := Blk.lt k0; (try clear k1c k1f k1z); have k1c := fun i => Blk.cell k1 i; have k1f := fun i => Blk.free k1 i; have k1z := Blk.lt k1; (try clear k2c k2f k2z); have k2c := fun i => Blk.cell k2 i; have k2f := fun i => Blk.free k2 i; have k2z := Blk.lt k2; (try clear k3c k3f k3z); have k3c := fun i => Blk.cell k3 i; have k3f := fun i => Blk.free k3 i; have k3z := Blk.lt k3
    have cS := fun w hr => CS.out m w hr hm
    have hp := HWAY.out m hm
    have hmx : p + ((m + 1 : Nat) : Int) * d = p + (m : Int) * d + d := by push_cast; rw [Int.add_mul]; omega
    have q0 : decide ((m : Int) + 1 ≤ 5000) = true := decide_eq_true (by omega)
    have hm5 : (m : Int) ≤ 2100 := by omega
    by_cases hlt : (m : Int) < aN
    · have hgo := HGO.out m hlt
      rw [hgo] at cS
      rw [hmx] at cS
      have HMX := Lib.hid hmx
      clear hgo hmx
      have CS2 := Lib.hid cS
      clear cS
      generalize hpm : p + (m : Int) * d = pm at *
      have e1 : IntKind.i64.wrap (pm + d) = pm + d := IntWalk.i64_in _ (by omega)
      have q1 : (d == d) = true := by simp
      have q2 : (d != d) = false := by simp
      have q3 : (pm + d != pm + d) = false := by simp
      go_wp2_with (first | ((with_reducible refine hold_list ?_ ?_); (· exact Eq.refl true)) | ((with_reducible refine hold_region ?_ ?_); (· exact Eq.refl true)) | (with_reducible refine hold_loop ?_))
      unfold Hold
      go_wp2_with (first | (first | ((with_reducible refine wpList_here ?_ ?_); (· exact Eq.refl true); first | ((with_reducible refine wpList_grow 5 ?_ ?_); (· exact Eq.refl true))) | ((with_reducible refine wp_region_any_here ?_ ?_); (· exact Eq.refl true); first | ((with_reducible refine wp_region_drawn 5 ?_ ?_ ?_ ?_); (· exact Eq.refl true); (· kernel_rfl); (· kernel_rfl)) | refine wp_region_grow (by kernel_rfl) (by kernel_rfl) ?_)); (try simp only [List.take_succ_cons, List.take_zero, List.drop_succ_cons, List.drop_zero]); (repeat (go_big_quiet_step ((first | (go_at_call 16; with_reducible exact grow_of (CS2.out _ ((HR.out.below hB).below (Grow.below _)))))))); (first | (refine wpQuiet_nil ?_; intro w' hb; replace hB := Below.trans hB (Below.mono hb (Below.size hB)); replace k0 := Blk.below k0 hb (Blk.lt k0); replace k1 := Blk.below k1 hb (Blk.lt k1); replace k2 := Blk.below k2 hb (Blk.lt k2); replace k3 := Blk.below k3 hb (Blk.lt k3); (try clear k0c k0f k0z); have k0c := fun i => Blk.cell k0 i; have k0f := fun i => Blk.free k0 i; have k0z := Blk.lt k0; (try clear k1c k1f k1z); have k1c := fun i => Blk.cell k1 i; have k1f := fun i => Blk.free k1 i; have k1z := Blk.lt k1; (try clear k2c k2f k2z); have k2c := fun i => Blk.cell k2 i; have k2f := fun i => Blk.free k2 i; have k2z := Blk.lt k2; (try clear k3c k3f k3z); have k3c := fun i => Blk.cell k3 i; have k3f := fun i => Blk.free k3 i; have k3z := Blk.lt k3) | skip) | (with_reducible refine hold_slot 21 ?_))
      all_goals (try (go_wp2_with (with_reducible refine hold_slot 21 ?_)))
      have k5 : Blk (w'.alloc (.cells #[.int .i64 (pm + d), .int .i64 d, .int .i64 1, .int .i64 l, .bool wt, .slice A2 rs.length C2] 25)) w'.heap.size 25 #[.int .i64 (pm + d), .int .i64 d, .int .i64 1, .int .i64 l, .bool wt, .slice A2 rs.length C2] := Blk.new _ _ _
      replace k0 := Blk.alloc k0 (.cells #[.int .i64 (pm + d), .int .i64 d, .int .i64 1, .int .i64 l, .bool wt, .slice A2 rs.length C2] 25)
      replace k1 := Blk.alloc k1 (.cells #[.int .i64 (pm + d), .int .i64 d, .int .i64 1, .int .i64 l, .bool wt, .slice A2 rs.length C2] 25)
      replace k2 := Blk.alloc k2 (.cells #[.int .i64 (pm + d), .int .i64 d, .int .i64 1, .int .i64 l, .bool wt, .slice A2 rs.length C2] 25)
      replace k3 := Blk.alloc k3 (.cells #[.int .i64 (pm + d), .int .i64 d, .int .i64 1, .int .i64 l, .bool wt, .slice A2 rs.length C2] 25)
      replace hB := bel_at hB (.cells #[.int .i64 (pm + d), .int .i64 d, .int .i64 1, .int .i64 l, .bool wt, .slice A2 rs.length C2] 25)
      generalize w'.alloc (.cells #[.int .i64 (pm + d), .int .i64 d, .int .i64 1, .int .i64 l, .bool wt, .slice A2 rs.length C2] 25) = w5 at *
      (try clear k0c k0f k0z); have k0c := fun i => Blk.cell k0 i; have k0f := fun i => Blk.free k0 i; have k0z := Blk.lt k0; (try clear k1c k1f k1z); have k1c := fun i => Blk.cell k1 i; have k1f := fun i => Blk.free k1 i; have k1z := Blk.lt k1; (try clear k2c k2f k2z); have k2c := fun i => Blk.cell k2 i; have k2f := fun i => Blk.free k2 i; have k2z := Blk.lt k2; (try clear k3c k3f k3z); have k3c := fun i => Blk.cell k3 i; have k3f := fun i => Blk.free k3 i; have k3z := Blk.lt k3; (try clear k5c k5f k5z); have k5c := fun i => Blk.cell k5 i; have k5f := fun i => Blk.free k5 i; have k5z := Blk.lt k5
      unfold Hold
      go_wp2
      go_roundw
      case rel => exact ⟨m + 1, by omega, by simp, (Blk.far (Blk.far (Blk.far (Blk.far (Blk.far (Blk.far k0 (p := ⟨w.heap.size + 1, 0, none⟩) (by simp) (.int .i64 (pm + d))) (p := ⟨w.heap.size + 1, 1, none⟩) (by simp) (.int .i64 d)) (p := ⟨w.heap.size + 1, 2, none⟩) (by simp) (.int .i64 1)) (p := ⟨w.heap.size + 1, 3, none⟩) (by simp) (.int .i64 l)) (p := ⟨w.heap.size + 1, 4, none⟩) (by simp) (.bool wt)) (p := ⟨w.heap.size + 1, 5, none⟩) (by simp) (.slice A2 rs.length C2)), by rw [HMX.out]; exact (Blk.set_ (Blk.set_ (Blk.set_ (Blk.set_ (Blk.set_ (Blk.set_ k1 0 (.int .i64 (pm + d))) 1 (.int .i64 d)) 2 (.int .i64 1)) 3 (.int .i64 l)) 4 (.bool wt)) 5 (.slice A2 rs.length C2)), (Blk.far (Blk.far (Blk.far (Blk.far (Blk.far (Blk.far k2 (p := ⟨w.heap.size + 1, 0, none⟩) (by simp) (.int .i64 (pm + d))) (p := ⟨w.heap.size + 1, 1, none⟩) (by simp) (.int .i64 d)) (p := ⟨w.heap.size + 1, 2, none⟩) (by simp) (.int .i64 1)) (p := ⟨w.heap.size + 1, 3, none⟩) (by simp) (.int .i64 l)) (p := ⟨w.heap.size + 1, 4, none⟩) (by simp) (.bool wt)) (p := ⟨w.heap.size + 1, 5, none⟩) (by simp) (.slice A2 rs.length C2)), (Blk.far (Blk.far (Blk.far (Blk.far (Blk.far (Blk.far k3 (p := ⟨w.heap.size + 1, 0, none⟩) (by simp) (.int .i64 (pm + d))) (p := ⟨w.heap.size + 1, 1, none⟩) (by simp) (.int .i64 d)) (p := ⟨w.heap.size + 1, 2, none⟩) (by simp) (.int .i64 1)) (p := ⟨w.heap.size + 1, 3, none⟩) (by simp) (.int .i64 l)) (p := ⟨w.heap.size + 1, 4, none⟩) (by simp) (.bool wt)) (p := ⟨w.heap.size + 1, 5, none⟩) (by simp) (.slice A2 rs.length C2)), (Below.setCell (Below.setCell (Below.setCell (Below.setCell (Below.setCell (Below.setCell hB (p := ⟨w.heap.size + 1, 0, none⟩) (by simp) (.int .i64 (pm + d))) (p := ⟨w.heap.size + 1, 1, none⟩) (by simp) (.int .i64 d)) (p := ⟨w.heap.size + 1, 2, none⟩) (by simp) (.int .i64 1)) (p := ⟨w.heap.size + 1, 3, none⟩) (by simp) (.int .i64 l)) (p := ⟨w.heap.size + 1, 4, none⟩) (by simp) (.bool wt)) (p := ⟨w.heap.size + 1, 5, none⟩) (by simp) (.slice A2 rs.length C2))⟩
      case measure => simp [intOf]; omega
    · have hme : (m : Int) = aN := by omega
      have hst := HST.out m hme
      have hsr := HSR.out m
      clear hmx
      generalize stepC s _ x0 y0 x1 y1 = D at cS hst hsr
      obtain ⟨dp, dd, dm, dl, dw, drs⟩ := D
      simp only at hsr
      replace hsr := hsr.symm
      subst hsr
      obtain ⟨hng, hq⟩ := hst
      unfold goesOn at hng
      simp only at hng hq
      have CS2 := Lib.hid cS
      clear cS
      generalize hpm : p + (m : Int) * d = pm at *
      have e1 : IntKind.i64.wrap (pm + d) = pm + d := IntWalk.i64_in _ (by omega)
      have hways : dm ≠ 1 ∨ (dm = 1 ∧ dd ≠ d) ∨ (dm = 1 ∧ dd = d ∧ dp ≠ pm + d) := by
        by_cases a : dm = 1
        · by_cases b : dd = d
          · exact .inr (.inr ⟨a, b, fun c => hng ⟨a, b, c⟩⟩)
          · exact .inr (.inl ⟨a, b⟩)
        · exact .inl a
      have hp0 := hp.1
      have hg1 := hg.1
      have hg2 := hg.2
      have HME := Lib.hid hme
      clear hng hpm hlt hme
      go_wp2_with (first | ((with_reducible refine hold_list ?_ ?_); (· exact Eq.refl true)) | ((with_reducible refine hold_region ?_ ?_); (· exact Eq.refl true)) | (with_reducible refine hold_loop ?_))
      unfold Hold
      go_wp2_with (first | (first | ((with_reducible refine wpList_here ?_ ?_); (· exact Eq.refl true); first | ((with_reducible refine wpList_grow 5 ?_ ?_); (· exact Eq.refl true))) | ((with_reducible refine wp_region_any_here ?_ ?_); (· exact Eq.refl true); first | ((with_reducible refine wp_region_drawn 5 ?_ ?_ ?_ ?_); (· exact Eq.refl true); (· kernel_rfl); (· kernel_rfl)) | refine wp_region_grow (by kernel_rfl) (by kernel_rfl) ?_)); (try simp only [List.take_succ_cons, List.take_zero, List.drop_succ_cons, List.drop_zero]); (repeat (go_big_quiet_step ((first | (go_at_call 16; with_reducible exact grow_of (CS2.out _ ((HR.out.below hB).below (Grow.below _)))))))); (first | (refine wpQuiet_nil ?_; intro w' hb; replace hB := Below.trans hB (Below.mono hb (Below.size hB)); replace k0 := Blk.below k0 hb (Blk.lt k0); replace k1 := Blk.below k1 hb (Blk.lt k1); replace k2 := Blk.below k2 hb (Blk.lt k2); replace k3 := Blk.below k3 hb (Blk.lt k3); (try clear k0c k0f k0z); have k0c := fun i => Blk.cell k0 i; have k0f := fun i => Blk.free k0 i; have k0z := Blk.lt k0; (try clear k1c k1f k1z); have k1c := fun i => Blk.cell k1 i; have k1f := fun i => Blk.free k1 i; have k1z := Blk.lt k1; (try clear k2c k2f k2z); have k2c := fun i => Blk.cell k2 i; have k2f := fun i => Blk.free k2 i; have k2z := Blk.lt k2; (try clear k3c k3f k3z); have k3c := fun i => Blk.cell k3 i; have k3f := fun i => Blk.free k3 i; have k3z := Blk.lt k3) | skip) | (with_reducible refine hold_slot 21 ?_))
      all_goals (try (go_wp2_with (with_reducible refine hold_slot 21 ?_)))
      have k5 : Blk (w'.alloc (.cells #[.int .i64 dp, .int .i64 dd, .int .i64 dm, .int .i64 dl, .bool dw, .slice A2 rs.length C2] 25)) w'.heap.size 25 #[.int .i64 dp, .int .i64 dd, .int .i64 dm, .int .i64 dl, .bool dw, .slice A2 rs.length C2] := Blk.new _ _ _
      replace k0 := Blk.alloc k0 (.cells #[.int .i64 dp, .int .i64 dd, .int .i64 dm, .int .i64 dl, .bool dw, .slice A2 rs.length C2] 25)
      replace k1 := Blk.alloc k1 (.cells #[.int .i64 dp, .int .i64 dd, .int .i64 dm, .int .i64 dl, .bool dw, .slice A2 rs.length C2] 25)
      replace k2 := Blk.alloc k2 (.cells #[.int .i64 dp, .int .i64 dd, .int .i64 dm, .int .i64 dl, .bool dw, .slice A2 rs.length C2] 25)
      replace k3 := Blk.alloc k3 (.cells #[.int .i64 dp, .int .i64 dd, .int .i64 dm, .int .i64 dl, .bool dw, .slice A2 rs.length C2] 25)
      replace hB := bel_at hB (.cells #[.int .i64 dp, .int .i64 dd, .int .i64 dm, .int .i64 dl, .bool dw, .slice A2 rs.length C2] 25)
      generalize w'.alloc (.cells #[.int .i64 dp, .int .i64 dd, .int .i64 dm, .int .i64 dl, .bool dw, .slice A2 rs.length C2] 25) = w5 at *
      (try clear k0c k0f k0z); have k0c := fun i => Blk.cell k0 i; have k0f := fun i => Blk.free k0 i; have k0z := Blk.lt k0; (try clear k1c k1f k1z); have k1c := fun i => Blk.cell k1 i; have k1f := fun i => Blk.free k1 i; have k1z := Blk.lt k1; (try clear k2c k2f k2z); have k2c := fun i => Blk.cell k2 i; have k2f := fun i => Blk.free k2 i; have k2z := Blk.lt k2; (try clear k3c k3f k3z); have k3c := fun i => Blk.cell k3 i; have k3f := fun i => Blk.free k3 i; have k3z := Blk.lt k3; (try clear k5c k5f k5z); have k5c := fun i => Blk.cell k5 i; have k5f := fun i => Blk.free k5 i; have k5z := Blk.lt k5
      unfold Hold
      rcases hways with a | ⟨a, b⟩ | ⟨a, b, c⟩
      · have q1 : (dm != 1) = true := by simpa using a
        go_wp2
        go_quiet (fail)
        go_wp2
        go_ret2
        first | exact ⟨two_ret HME.out hq, below_drewN hB _⟩ | exact ⟨two_ret HME.out rfl, below_drewN hB _⟩
      · subst a
        have q2 : (dd != d) = true := by simpa using b
        go_wp2
        go_quiet (fail)
        go_wp2
        go_ret2
        first | exact ⟨two_ret HME.out hq, below_drewN hB _⟩ | exact ⟨two_ret HME.out rfl, below_drewN hB _⟩
      · subst a b
        have q2 : (dd != dd) = false := by simp
        have q3 : (dp != pm + dd) = true := by simpa using c
        go_wp2
        go_quiet (fail)
        go_wp2
        go_ret2
        first | exact ⟨two_ret HME.out hq, below_drewN hB _⟩ | exact ⟨two_ret HME.out rfl, below_drewN hB _⟩
end Go.Proofs.Ytlcnhpjmmjmkcaa


/-
  quiet.Next. Conditions: a scenario that may be, a car within its building.
-/
import Derived.Test.YtlcnhpjmmjmkcaaFine44
import Derived.Test.YtlcnhpjmmjmkcaaAhead
set_option linter.unusedVariables false
set_option linter.unusedSimpArgs false
namespace Go.Proofs.Ytlcnhpjmmjmkcaa
open Go.Joins Go.ChangeShapes Go.WideShapes Go.ChangeAt Go.RowKit Go.Deep

theorem FineQ.moving {s : Scen} {c : Car} {x0 y0 x1 y1 : Nat} (h : FineQ s c x0 y0 x1 y1) (hm : c.mode = 1) : FineP s c x0 y0 x1 y1 ∧ c.dir ≠ 0 := by
  have hw : c.dir ≠ 0 := by
    rcases h.ways with ⟨a, _⟩ | ⟨_, a⟩ | ⟨_, a, _⟩
    · omega
    · exact a
    · exact absurd hm a
  exact ⟨⟨h.fine, h.car, .inr hm, h.riders, h.up, h.down, .inr ⟨hm, hw⟩⟩, hw⟩
/-- Does it stay as it is for good? -/
def stillB (s : Scen) (c : Car) (x0 y0 x1 y1 : Nat) : Bool := c.dir == 0 && !stopB (seeOf c s.capacity x0 y0 x1 y1) c (c.pos / s.gap) && faceOf (seeOf c s.capacity x0 y0 x1 y1) (c.pos / s.gap) 0 == 0
/-- In how many ticks it does something else; is there such a tick? -/
def qN (s : Scen) (c : Car) (x0 y0 x1 y1 : Nat) : Int := if c.mode = 1 then ahN s c x0 y0 x1 y1 + 1 else if c.mode = 0 then (if stillB s c x0 y0 x1 y1 = true then 0 else 1) else c.left
def qB (s : Scen) (c : Car) (x0 y0 x1 y1 : Nat) : Bool := if c.mode = 0 then !stillB s c x0 y0 x1 y1 else true
set_option maxRecDepth 20000 in
set_option maxHeartbeats 8000000 in
theorem quiet_Next (s : Scen) (A : Option Addr) (C : Nat) (c : Car) (A2 : Option Addr) (C2 : Nat) (x0 y0 x1 y1 : Nat) (w : World) (h : FineQ s c x0 y0 x1 y1) (hr : Rids w A2 c.riders) (hbd : ∀ i, I64 (dst c.riders i))
    (h0 : Wd x0) (h1 : Wd y0) (h2 : Wd x1) (h3 : Wd y1) :
    Calls Try.prog 21 #[s.val A C, c.val A2 C2, sv x0 y0, sv x1 y1] w fun e w' => e = .returned (.tuple #[.int .i64 (qN s c x0 y0 x1 y1), .bool (qB s c x0 y0 x1 y1)]) ∧ Below w.heap.size w w' := by
  have hl : c.riders.length ≤ 1000 := by have := h.car.2.2.1; omega
  have hsm := small_of h.fine
  have hcap : I64 s.capacity := by have := hsm.2.2.1; unfold I64; omega
  have hg := h.fine.2.1
  have hp := h.car.1
  have htop := high_bd hsm
  have hd3 := h.car.2.1
  have hmd := h.car.2.2.2.2
  have hq0 : 0 ≤ c.pos / s.gap := Int.ediv_nonneg hp.1 (by omega)
  have hq1 : c.pos / s.gap ≤ c.pos := Int.ediv_le_self _ hp.1
  have hsee := see_ok (c := c) (cap := s.capacity) h0 h1 h2 h3
  have cM := fun hm w hr => move_Ahead s A C c A2 C2 x0 y0 x1 y1 w (h.moving hm).1 hm (h.moving hm).2 hr hbd h0 h1 h2 h3
  have cE := fun w hr => face_See c A2 C2 s.capacity x0 y0 x1 y1 w hr hl hbd hcap h0 h1 h2 h3
  have cP := fun w => place_Floor c.pos s.gap w hp.1 (by omega) hg.1 (by omega)
  have cF := fun w => sight_Of (seeOf c s.capacity x0 y0 x1 y1) (c.pos / s.gap) 0 w hsee (by omega) (by omega)
  have cT := fun w hr => sight_Stop (seeOf c s.capacity x0 y0 x1 y1) c A2 C2 (c.pos / s.gap) w hsee hr hl hbd (by omega) hd3
  unfold sv at *
  by_cases hm1 : c.mode = 1
  · have e1 : qN s c x0 y0 x1 y1 = ahN s c x0 y0 x1 y1 + 1 := by unfold qN; rw [if_pos hm1]
    have e2 : qB s c x0 y0 x1 y1 = true := by unfold qB; rw [if_neg (by omega)]
    rw [e1, e2]
    have cM := cM hm1
    generalize ahN s c x0 y0 x1 y1 + 1 = aN at *
    generalize ahF s c x0 y0 x1 y1 = aF at *
    have q1 : (c.mode == 2) = false := by rw [hm1]; rfl
    have q2 : (c.mode == 3) = false := by rw [hm1]; rfl
    have q3 : (c.mode == 4) = false := by rw [hm1]; rfl
    have q4 : (c.mode == 1) = true := by rw [hm1]; rfl
    have HR := Lib.hid hr
    have CM := Lib.hid cM
    clear cM cE cP cF cT hr hm1 e1 e2 hsee hbd h0 h1 h2 h3 h hcap
    go_enter Try.func21, Try.ntmps21
    go_wp2_with (first | ((with_reducible refine hold_list ?_ ?_); (· exact Eq.refl true)) | ((with_reducible refine hold_region ?_ ?_); (· exact Eq.refl true)) | (with_reducible refine hold_loop ?_))
    have k0 : Blk ((((w.alloc (.cells #[.int .i64 s.floors, .int .i64 s.gap, .int .i64 s.cars, .int .i64 s.capacity, .int .i64 s.open_, .int .i64 s.dwell, .int .i64 s.close, .int .i64 s.transfer, .slice A s.segs.length C, .int .i64 s.disp, .int .i64 s.horizon, .int .i64 s.bins, .int .i64 s.width] 42)).alloc (.cells #[.int .i64 c.pos, .int .i64 c.dir, .int .i64 c.mode, .int .i64 c.left, .bool c.waited, .slice A2 c.riders.length C2] 25)).alloc (.cells #[.int .u64 (x0 : Int), .int .u64 (y0 : Int)] 28)).alloc (.cells #[.int .u64 (x1 : Int), .int .u64 (y1 : Int)] 28)) (w.heap.size) 42 #[.int .i64 s.floors, .int .i64 s.gap, .int .i64 s.cars, .int .i64 s.capacity, .int .i64 s.open_, .int .i64 s.dwell, .int .i64 s.close, .int .i64 s.transfer, .slice A s.segs.length C, .int .i64 s.disp, .int .i64 s.horizon, .int .i64 s.bins, .int .i64 s.width] := (Blk.alloc (Blk.alloc (Blk.alloc (blk_at (by simp)) (.cells #[.int .i64 c.pos, .int .i64 c.dir, .int .i64 c.mode, .int .i64 c.left, .bool c.waited, .slice A2 c.riders.length C2] 25)) (.cells #[.int .u64 (x0 : Int), .int .u64 (y0 : Int)] 28)) (.cells #[.int .u64 (x1 : Int), .int .u64 (y1 : Int)] 28))
    have k1 : Blk ((((w.alloc (.cells #[.int .i64 s.floors, .int .i64 s.gap, .int .i64 s.cars, .int .i64 s.capacity, .int .i64 s.open_, .int .i64 s.dwell, .int .i64 s.close, .int .i64 s.transfer, .slice A s.segs.length C, .int .i64 s.disp, .int .i64 s.horizon, .int .i64 s.bins, .int .i64 s.width] 42)).alloc (.cells #[.int .i64 c.pos, .int .i64 c.dir, .int .i64 c.mode, .int .i64 c.left, .bool c.waited, .slice A2 c.riders.length C2] 25)).alloc (.cells #[.int .u64 (x0 : Int), .int .u64 (y0 : Int)] 28)).alloc (.cells #[.int .u64 (x1 : Int), .int .u64 (y1 : Int)] 28)) (w.heap.size + 1) 25 #[.int .i64 c.pos, .int .i64 c.dir, .int .i64 c.mode, .int .i64 c.left, .bool c.waited, .slice A2 c.riders.length C2] := (Blk.alloc (Blk.alloc (blk_at (by simp)) (.cells #[.int .u64 (x0 : Int), .int .u64 (y0 : Int)] 28)) (.cells #[.int .u64 (x1 : Int), .int .u64 (y1 : Int)] 28))
    have k2 : Blk ((((w.alloc (.cells #[.int .i64 s.floors, .int .i64 s.gap, .int .i64 s.cars, .int .i64 s.capacity, .int .i64 s.open_, .int .i64 s.dwell, .int .i64 s.close, .int .i64 s.transfer, .slice A s.segs.length C, .int .i64 s.disp, .int .i64 s.horizon, .int .i64 s.bins, .int .i64 s.width] 42)).alloc (.cells #[.int .i64 c.pos, .int .i64 c.dir, .int .i64 c.mode, .int .i64 c.left, .bool c.waited, .slice A2 c.riders.length C2] 25)).alloc (.cells #[.int .u64 (x0 : Int), .int .u64 (y0 : Int)] 28)).alloc (.cells #[.int .u64 (x1 : Int), .int .u64 (y1 : Int)] 28)) (w.heap.size + 2) 28 #[.int .u64 (x0 : Int), .int .u64 (y0 : Int)] := (Blk.alloc (blk_at (by simp)) (.cells #[.int .u64 (x1 : Int), .int .u64 (y1 : Int)] 28))
    have k3 : Blk ((((w.alloc (.cells #[.int .i64 s.floors, .int .i64 s.gap, .int .i64 s.cars, .int .i64 s.capacity, .int .i64 s.open_, .int .i64 s.dwell, .int .i64 s.close, .int .i64 s.transfer, .slice A s.segs.length C, .int .i64 s.disp, .int .i64 s.horizon, .int .i64 s.bins, .int .i64 s.width] 42)).alloc (.cells #[.int .i64 c.pos, .int .i64 c.dir, .int .i64 c.mode, .int .i64 c.left, .bool c.waited, .slice A2 c.riders.length C2] 25)).alloc (.cells #[.int .u64 (x0 : Int), .int .u64 (y0 : Int)] 28)).alloc (.cells #[.int .u64 (x1 : Int), .int .u64 (y1 : Int)] 28)) (w.heap.size + 3) 28 #[.int .u64 (x1 : Int), .int .u64 (y1 : Int)] := (blk_at (by simp))
    have hB : Below w.heap.size w ((((w.alloc (.cells #[.int .i64 s.floors, .int .i64 s.gap, .int .i64 s.cars, .int .i64 s.capacity, .int .i64 s.open_, .int .i64 s.dwell, .int .i64 s.close, .int .i64 s.transfer, .slice A s.segs.length C, .int .i64 s.disp, .int .i64 s.horizon, .int .i64 s.bins, .int .i64 s.width] 42)).alloc (.cells #[.int .i64 c.pos, .int .i64 c.dir, .int .i64 c.mode, .int .i64 c.left, .bool c.waited, .slice A2 c.riders.length C2] 25)).alloc (.cells #[.int .u64 (x0 : Int), .int .u64 (y0 : Int)] 28)).alloc (.cells #[.int .u64 (x1 : Int), .int .u64 (y1 : Int)] 28)) := (bel_at (bel_at (bel_at (bel_at (Below.refl _ _) (.cells #[.int .i64 s.floors, .int .i64 s.gap, .int .i64 s.cars, .int .i64 s.capacity, .int .i64 s.open_, .int .i64 s.dwell, .int .i64 s.close, .int .i64 s.transfer, .slice A s.segs.length C, .int .i64 s.disp, .int .i64 s.horizon, .int .i64 s.bins, .int .i64 s.width] 42)) (.cells #[.int .i64 c.pos, .int .i64 c.dir, .int .i64 c.mode, .int .i64 c.left, .bool c.waited, .slice A2 c.riders.length C2] 25)) (.cells #[.int .u64 (x0 : Int), .int .u64 (y0 : Int)] 28)) (.cells #[.int .u64 (x1 : Int), .int .u64 (y1 : Int)] 28))
    generalize ((((w.alloc (.cells #[.int .i64 s.floors, .int .i64 s.gap, .int .i64 s.cars, .int .i64 s.capacity, .int .i64 s.open_, .int .i64 s.dwell, .int .i64 s.close, .int .i64 s.transfer, .slice A s.segs.length C, .int .i64 s.disp, .int .i64 s.horizon, .int .i64 s.bins, .int .i64 s.width] 42)).alloc (.cells #[.int .i64 c.pos, .int .i64 c.dir, .int .i64 c.mode, .int .i64 c.left, .bool c.waited, .slice A2 c.riders.length C2] 25)).alloc (.cells #[.int .u64 (x0 : Int), .int .u64 (y0 : Int)] 28)).alloc (.cells #[.int .u64 (x1 : Int), .int .u64 (y1 : Int)] 28)) = w1 at *
    (try clear k0c k0f k0z); have k0c := fun i => Blk.cell k0 i; have k0f := fun i => Blk.free k0 i; have k0z := Blk.lt k0; (try clear k1c k1f k1z); have k1c := fun i => Blk.cell k1 i; have k1f := fun i => Blk.free k1 i; have k1z := Blk.lt k1; (try clear k2c k2f k2z); have k2c := fun i => Blk.cell k2 i; have k2f := fun i => Blk.free k2 i; have k2z := Blk.lt k2; (try clear k3c k3f k3z); have k3c := fun i => Blk.cell k3 i; have k3f := fun i => Blk.free k3 i; have k3z := Blk.lt k3
    unfold Hold
    go_wp2_with (first | ((with_reducible refine wpList_here ?_ ?_); (· exact Eq.refl true); first | ((with_reducible refine wpList_grow 5 ?_ ?_); (· exact Eq.refl true))) | ((with_reducible refine wp_region_any_here ?_ ?_); (· exact Eq.refl true); first | ((with_reducible refine wp_region_drawn 5 ?_ ?_ ?_ ?_); (· exact Eq.refl true); (· kernel_rfl); (· kernel_rfl)) | refine wp_region_grow (by kernel_rfl) (by kernel_rfl) ?_)); (try simp only [List.take_succ_cons, List.take_zero, List.drop_succ_cons, List.drop_zero]); (repeat (go_big_quiet_step ((first | (go_at_call 18; with_reducible exact grow_of (CM.out _ ((HR.out.below hB).below (Grow.below _)))))))); (first | (refine wpQuiet_nil ?_; intro w' hb; replace hB := Below.trans hB (Below.mono hb (Below.size hB)); replace k0 := Blk.below k0 hb (Blk.lt k0); replace k1 := Blk.below k1 hb (Blk.lt k1); replace k2 := Blk.below k2 hb (Blk.lt k2); replace k3 := Blk.below k3 hb (Blk.lt k3); (try clear k0c k0f k0z); have k0c := fun i => Blk.cell k0 i; have k0f := fun i => Blk.free k0 i; have k0z := Blk.lt k0; (try clear k1c k1f k1z); have k1c := fun i => Blk.cell k1 i; have k1f := fun i => Blk.free k1 i; have k1z := Blk.lt k1; (try clear k2c k2f k2z); have k2c := fun i => Blk.cell k2 i; have k2f := fun i => Blk.free k2 i; have k2z := Blk.lt k2; (try clear k3c k3f k3z); have k3c := fun i => Blk.cell k3 i; have k3f := fun i => Blk.free k3 i; have k3z := Blk.lt k3) | skip)
    all_goals (try (go_wp2_with (first | ((with_reducible refine wpList_here ?_ ?_); (· exact Eq.refl true); first | ((with_reducible refine wpList_grow 5 ?_ ?_); (· exact Eq.refl true))) | ((with_reducible refine wp_region_any_here ?_ ?_); (· exact Eq.refl true); first | ((with_reducible refine wp_region_drawn 5 ?_ ?_ ?_ ?_); (· exact Eq.refl true); (· kernel_rfl); (· kernel_rfl)) | refine wp_region_grow (by kernel_rfl) (by kernel_rfl) ?_)); (try simp only [List.take_succ_cons, List.take_zero, List.drop_succ_cons, List.drop_zero]); (repeat (go_big_quiet_step ((first | (go_at_call 18; with_reducible exact grow_of (CM.out _ ((HR.out.below hB).below (Grow.below _)))))))); (first | (refine wpQuiet_nil ?_; intro w' hb; replace hB := Below.trans hB (Below.mono hb (Below.size hB)); replace k0 := Blk.below k0 hb (Blk.lt k0); replace k1 := Blk.below k1 hb (Blk.lt k1); replace k2 := Blk.below k2 hb (Blk.lt k2); replace k3 := Blk.below k3 hb (Blk.lt k3); (try clear k0c k0f k0z); have k0c := fun i => Blk.cell k0 i; have k0f := fun i => Blk.free k0 i; have k0z := Blk.lt k0; (try clear k1c k1f k1z); have k1c := fun i => Blk.cell k1 i; have k1f := fun i => Blk.free k1 i; have k1z := Blk.lt k1; (try clear k2c k2f k2z); have k2c := fun i => Blk.cell k2 i; have k2f := fun i => Blk.free k2 i; have k2z := Blk.lt k2; (try clear k3c k3f k3z); have k3c := fun i => Blk.cell k3 i; have k3f := fun i => Blk.free k3 i; have k3z := Blk.lt k3) | skip)))
    all_goals (try (go_wp2_with (first | ((with_reducible refine wpList_here ?_ ?_); (· exact Eq.refl true); first | ((with_reducible refine wpList_grow 5 ?_ ?_); (· exact Eq.refl true))) | ((with_reducible refine wp_region_any_here ?_ ?_); (· exact Eq.refl true); first | ((with_reducible refine wp_region_drawn 5 ?_ ?_ ?_ ?_); (· exact Eq.refl true); (· kernel_rfl); (· kernel_rfl)) | refine wp_region_grow (by kernel_rfl) (by kernel_rfl) ?_)); (try simp only [List.take_succ_cons, List.take_zero, List.drop_succ_cons, List.drop_zero]); (repeat (go_big_quiet_step ((first | (go_at_call 18; with_reducible exact grow_of (CM.out _ ((HR.out.below hB).below (Grow.below _)))))))); (first | (refine wpQuiet_nil ?_; intro w' hb; replace hB := Below.trans hB (Below.mono hb (Below.size hB)); replace k0 := Blk.below k0 hb (Blk.lt k0); replace k1 := Blk.below k1 hb (Blk.lt k1); replace k2 := Blk.below k2 hb (Blk.lt k2); replace k3 := Blk.below k3 hb (Blk.lt k3); (try clear k0c k0f k0z); have k0c := fun i => Blk.cell k0 i; have k0f := fun i => Blk.free k0 i; have k0z := Blk.lt k0; (try clear k1c k1f k1z); have k1c := fun i => Blk.cell k1 i; have k1f := fun i => Blk.free k1 i; have k1z := Blk.lt k1; (try clear k2c k2f k2z); have k2c := fun i => Blk.cell k2 i; have k2f := fun i => Blk.free k2 i; have k2z := Blk.lt k2; (try clear k3c k3f k3z); have k3c := fun i => Blk.cell k3 i; have k3f := fun i => Blk.free k3 i; have k3z := Blk.lt k3) | skip)))
    go_ret2
    exact ⟨rfl, hB⟩
  · by_cases hm0 : c.mode = 0
    · have hgen : ∀ st fo, stopB (seeOf c s.capacity x0 y0 x1 y1) c (c.pos / s.gap) = st → faceOf (seeOf c s.capacity x0 y0 x1 y1) (c.pos / s.gap) 0 = fo → qN s c x0 y0 x1 y1 = (if (c.dir == 0 && !st && fo == 0) = true then 0 else 1) ∧ qB s c x0 y0 x1 y1 = !(c.dir == 0 && !st && fo == 0) := by
        intro st fo e1 e2
        unfold qN qB stillB
        rw [if_neg hm1, if_pos hm0, if_pos hm0, e1, e2]
        exact ⟨rfl, rfl⟩
      have q1 : (c.mode == 2) = false := by rw [hm0]; rfl
      have q2 : (c.mode == 3) = false := by rw [hm0]; rfl
      have q3 : (c.mode == 4) = false := by rw [hm0]; rfl
      have q4 : (c.mode == 1) = false := by rw [hm0]; rfl
      obtain ⟨st, hst⟩ : ∃ st, stopB (seeOf c s.capacity x0 y0 x1 y1) c (c.pos / s.gap) = st := ⟨_, rfl⟩
      obtain ⟨fo, hfo⟩ : ∃ fo, faceOf (seeOf c s.capacity x0 y0 x1 y1) (c.pos / s.gap) 0 = fo := ⟨_, rfl⟩
      have hgg := hgen st fo hst hfo
      rw [hst] at cT
      rw [hfo] at cF
      clear hgen hst hfo cM hsee hbd h0 h1 h2 h3 h hcap hm0 hm1
      generalize seeOf c s.capacity x0 y0 x1 y1 = sg at *
      rw [hgg.1, hgg.2]
      clear hgg
      generalize (c.pos % s.gap == 0) = atb at *
      generalize c.pos / s.gap = fl at *
      obtain ⟨wx, wy, lx, ly, mx, my⟩ := sg
      unfold Sgt.val at *
      simp only at *
      have HR := Lib.hid hr
      have CP := Lib.hid cP
      have CE := Lib.hid cE
      have CF := Lib.hid cF
      have CT := Lib.hid cT
      clear hr cP cE cF cT
      have hways : (c.dir == 0) = false ∨ ((c.dir == 0) = true ∧ st = true) ∨ ((c.dir == 0) = true ∧ st = false ∧ (fo == 0) = false) ∨ ((c.dir == 0) = true ∧ st = false ∧ (fo == 0) = true) := by
        cases (c.dir == 0) <;> cases st <;> cases (fo == 0) <;> simp
      rcases hways with qa | ⟨qa, qb⟩ | ⟨qa, qb, qc⟩ | ⟨qa, qb, qc⟩
      all_goals
        try subst qb
        simp only [qa, Bool.false_and, Bool.true_and, Bool.not_true, Bool.not_false, if_true, if_false, Bool.false_eq_true]
        try simp only [qc, if_true, if_false, Bool.false_eq_true, Bool.not_true, Bool.not_false]
        go_enter Try.func21, Try.ntmps21
        go_wp2_with (first | ((with_reducible refine hold_list ?_ ?_); (· exact Eq.refl true)) | ((with_reducible refine hold_region ?_ ?_); (· exact Eq.refl true)) | (with_reducible refine hold_loop ?_))
        have k0 : Blk ((((w.alloc (.cells #[.int .i64 s.floors, .int .i64 s.gap, .int .i64 s.cars, .int .i64 s.capacity, .int .i64 s.open_, .int .i64 s.dwell, .int .i64 s.close, .int .i64 s.transfer, .slice A s.segs.length C, .int .i64 s.disp, .int .i64 s.horizon, .int .i64 s.bins, .int .i64 s.width] 42)).alloc (.cells #[.int .i64 c.pos, .int .i64 c.dir, .int .i64 c.mode, .int .i64 c.left, .bool c.waited, .slice A2 c.riders.length C2] 25)).alloc (.cells #[.int .u64 (x0 : Int), .int .u64 (y0 : Int)] 28)).alloc (.cells #[.int .u64 (x1 : Int), .int .u64 (y1 : Int)] 28)) (w.heap.size) 42 #[.int .i64 s.floors, .int .i64 s.gap, .int .i64 s.cars, .int .i64 s.capacity, .int .i64 s.open_, .int .i64 s.dwell, .int .i64 s.close, .int .i64 s.transfer, .slice A s.segs.length C, .int .i64 s.disp, .int .i64 s.horizon, .int .i64 s.bins, .int .i64 s.width] := (Blk.alloc (Blk.alloc (Blk.alloc (blk_at (by simp)) (.cells #[.int .i64 c.pos, .int .i64 c.dir, .int .i64 c.mode, .int .i64 c.left, .bool c.waited, .slice A2 c.riders.length C2] 25)) (.cells #[.int .u64 (x0 : Int), .int .u64 (y0 : Int)] 28)) (.cells #[.int .u64 (x1 : Int), .int .u64 (y1 : Int)] 28))
        have k1 : Blk ((((w.alloc (.cells #[.int .i64 s.floors, .int .i64 s.gap, .int .i64 s.cars, .int .i64 s.capacity, .int .i64 s.open_, .int .i64 s.dwell, .int .i64 s.close, .int .i64 s.transfer, .slice A s.segs.length C, .int .i64 s.disp, .int .i64 s.horizon, .int .i64 s.bins, .int .i64 s.width] 42)).alloc (.cells #[.int .i64 c.pos, .int .i64 c.dir, .int .i64 c.mode, .int .i64 c.left, .bool c.waited, .slice A2 c.riders.length C2] 25)).alloc (.cells #[.int .u64 (x0 : Int), .int .u64 (y0 : Int)] 28)).alloc (.cells #[.int .u64 (x1 : Int), .int .u64 (y1 : Int)] 28)) (w.heap.size + 1) 25 #[.int .i64 c.pos, .int .i64 c.dir, .int .i64 c.mode, .int .i64 c.left, .bool c.waited, .slice A2 c.riders.length C2] := (Blk.alloc (Blk.alloc (blk_at (by simp)) (.cells #[.int .u64 (x0 : Int), .int .u64 (y0 : Int)] 28)) (.cells #[.int .u64 (x1 : Int), .int .u64 (y1 : Int)] 28))
        have k2 : Blk ((((w.alloc (.cells #[.int .i64 s.floors, .int .i64 s.gap, .int .i64 s.cars, .int .i64 s.capacity, .int .i64 s.open_, .int .i64 s.dwell, .int .i64 s.close, .int .i64 s.transfer, .slice A s.segs.length C, .int .i64 s.disp, .int .i64 s.horizon, .int .i64 s.bins, .int .i64 s.width] 42)).alloc (.cells #[.int .i64 c.pos, .int .i64 c.dir, .int .i64 c.mode, .int .i64 c.left, .bool c.waited, .slice A2 c.riders.length C2] 25)).alloc (.cells #[.int .u64 (x0 : Int), .int .u64 (y0 : Int)] 28)).alloc (.cells #[.int .u64 (x1 : Int), .int .u64 (y1 : Int)] 28)) (w.heap.size + 2) 28 #[.int .u64 (x0 : Int), .int .u64 (y0 : Int)] := (Blk.alloc (blk_at (by simp)) (.cells #[.int .u64 (x1 : Int), .int .u64 (y1 : Int)] 28))
        have k3 : Blk ((((w.alloc (.cells #[.int .i64 s.floors, .int .i64 s.gap, .int .i64 s.cars, .int .i64 s.capacity, .int .i64 s.open_, .int .i64 s.dwell, .int .i64 s.close, .int .i64 s.transfer, .slice A s.segs.length C, .int .i64 s.disp, .int .i64 s.horizon, .int .i64 s.bins, .int .i64 s.width] 42)).alloc (.cells #[.int .i64 c.pos, .int .i64 c.dir, .int .i64 c.mode, .int .i64 c.left, .bool c.waited, .slice A2 c.riders.length C2] 25)).alloc (.cells #[.int .u64 (x0 : Int), .int .u64 (y0 : Int)] 28)).alloc (.cells #[.int .u64 (x1 : Int), .int .u64 (y1 : Int)] 28)) (w.heap.size + 3) 28 #[.int .u64 (x1 : Int), .int .u64 (y1 : Int)] := (blk_at (by simp))
        have hB : Below w.heap.size w ((((w.alloc (.cells #[.int .i64 s.floors, .int .i64 s.gap, .int .i64 s.cars, .int .i64 s.capacity, .int .i64 s.open_, .int .i64 s.dwell, .int .i64 s.close, .int .i64 s.transfer, .slice A s.segs.length C, .int .i64 s.disp, .int .i64 s.horizon, .int .i64 s.bins, .int .i64 s.width] 42)).alloc (.cells #[.int .i64 c.pos, .int .i64 c.dir, .int .i64 c.mode, .int .i64 c.left, .bool c.waited, .slice A2 c.riders.length C2] 25)).alloc (.cells #[.int .u64 (x0 : Int), .int .u64 (y0 : Int)] 28)).alloc (.cells #[.int .u64 (x1 : Int), .int .u64 (y1 : Int)] 28)) := (bel_at (bel_at (bel_at (bel_at (Below.refl _ _) (.cells #[.int .i64 s.floors, .int .i64 s.gap, .int .i64 s.cars, .int .i64 s.capacity, .int .i64 s.open_, .int .i64 s.dwell, .int .i64 s.close, .int .i64 s.transfer, .slice A s.segs.length C, .int .i64 s.disp, .int .i64 s.horizon, .int .i64 s.bins, .int .i64 s.width] 42)) (.cells #[.int .i64 c.pos, .int .i64 c.dir, .int .i64 c.mode, .int .i64 c.left, .bool c.waited, .slice A2 c.riders.length C2] 25)) (.cells #[.int .u64 (x0 : Int), .int .u64 (y0 : Int)] 28)) (.cells #[.int .u64 (x1 : Int), .int .u64 (y1 : Int)] 28))
        generalize ((((w.alloc (.cells #[.int .i64 s.floors, .int .i64 s.gap, .int .i64 s.cars, .int .i64 s.capacity, .int .i64 s.open_, .int .i64 s.dwell, .int .i64 s.close, .int .i64 s.transfer, .slice A s.segs.length C, .int .i64 s.disp, .int .i64 s.horizon, .int .i64 s.bins, .int .i64 s.width] 42)).alloc (.cells #[.int .i64 c.pos, .int .i64 c.dir, .int .i64 c.mode, .int .i64 c.left, .bool c.waited, .slice A2 c.riders.length C2] 25)).alloc (.cells #[.int .u64 (x0 : Int), .int .u64 (y0 : Int)] 28)).alloc (.cells #[.int .u64 (x1 : Int), .int .u64 (y1 : Int)] 28)) = w1 at *
        (try clear k0c k0f k0z); have k0c := fun i => Blk.cell k0 i; have k0f := fun i => Blk.free k0 i; have k0z := Blk.lt k0; (try clear k1c k1f k1z); have k1c := fun i => Blk.cell k1 i; have k1f := fun i => Blk.free k1 i; have k1z := Blk.lt k1; (try clear k2c k2f k2z); have k2c := fun i => Blk.cell k2 i; have k2f := fun i => Blk.free k2 i; have k2z := Blk.lt k2; (try clear k3c k3f k3z); have k3c := fun i => Blk.cell k3 i; have k3f := fun i => Blk.free k3 i; have k3z := Blk.lt k3
        unfold Hold
        go_wp2_with (first | (first | ((with_reducible refine wpList_here ?_ ?_); (· exact Eq.refl true); first | ((with_reducible refine wpList_grow 5 ?_ ?_); (· exact Eq.refl true))) | ((with_reducible refine wp_region_any_here ?_ ?_); (· exact Eq.refl true); first | ((with_reducible refine wp_region_drawn 5 ?_ ?_ ?_ ?_); (· exact Eq.refl true); (· kernel_rfl); (· kernel_rfl)) | refine wp_region_grow (by kernel_rfl) (by kernel_rfl) ?_)); (try simp only [List.take_succ_cons, List.take_zero, List.drop_succ_cons, List.drop_zero]); (repeat (go_big_quiet_step ((first | (go_at_call 36; with_reducible exact grow_draw (CP.out _)))))); (first | (refine wpQuiet_nil ?_; intro w' hb; replace hB := Below.trans hB (Below.mono hb (Below.size hB)); replace k0 := Blk.below k0 hb (Blk.lt k0); replace k1 := Blk.below k1 hb (Blk.lt k1); replace k2 := Blk.below k2 hb (Blk.lt k2); replace k3 := Blk.below k3 hb (Blk.lt k3); (try clear k0c k0f k0z); have k0c := fun i => Blk.cell k0 i; have k0f := fun i => Blk.free k0 i; have k0z := Blk.lt k0; (try clear k1c k1f k1z); have k1c := fun i => Blk.cell k1 i; have k1f := fun i => Blk.free k1 i; have k1z := Blk.lt k1; (try clear k2c k2f k2z); have k2c := fun i => Blk.cell k2 i; have k2f := fun i => Blk.free k2 i; have k2z := Blk.lt k2; (try clear k3c k3f k3z); have k3c := fun i => Blk.cell k3 i; have k3f := fun i => Blk.free k3 i; have k3z := Blk.lt k3) | skip) | ((with_reducible refine hold_list ?_ ?_); (· exact Eq.refl true)) | ((with_reducible refine hold_region ?_ ?_); (· exact Eq.refl true)) | (with_reducible refine hold_loop ?_))
        all_goals (try (go_wp2_with (first | ((with_reducible refine hold_list ?_ ?_); (· exact Eq.refl true)) | ((with_reducible refine hold_region ?_ ?_); (· exact Eq.refl true)) | (with_reducible refine hold_loop ?_))))
        unfold Hold
        go_wp2_with (first | (first | ((with_reducible refine wpList_here ?_ ?_); (· exact Eq.refl true); first | ((with_reducible refine wpList_grow 6 ?_ ?_); (· exact Eq.refl true))) | ((with_reducible refine wp_region_any_here ?_ ?_); (· exact Eq.refl true); first | ((with_reducible refine wp_region_drawn 6 ?_ ?_ ?_ ?_); (· exact Eq.refl true); (· kernel_rfl); (· kernel_rfl)) | refine wp_region_grow (by kernel_rfl) (by kernel_rfl) ?_)); (try simp only [List.take_succ_cons, List.take_zero, List.drop_succ_cons, List.drop_zero]); (repeat (go_big_quiet_step ((first | (go_at_call 8; with_reducible exact grow_of (CE.out _ ((HR.out.below hB).below (Grow.below _)))))))); (first | (refine wpQuiet_nil ?_; intro w' hb; replace hB := Below.trans hB (Below.mono hb (Below.size hB)); replace k0 := Blk.below k0 hb (Blk.lt k0); replace k1 := Blk.below k1 hb (Blk.lt k1); replace k2 := Blk.below k2 hb (Blk.lt k2); replace k3 := Blk.below k3 hb (Blk.lt k3); (try clear k0c k0f k0z); have k0c := fun i => Blk.cell k0 i; have k0f := fun i => Blk.free k0 i; have k0z := Blk.lt k0; (try clear k1c k1f k1z); have k1c := fun i => Blk.cell k1 i; have k1f := fun i => Blk.free k1 i; have k1z := Blk.lt k1; (try clear k2c k2f k2z); have k2c := fun i => Blk.cell k2 i; have k2f := fun i => Blk.free k2 i; have k2z := Blk.lt k2; (try clear k3c k3f k3z); have k3c := fun i => Blk.cell k3 i; have k3f := fun i => Blk.free k3 i; have k3z := Blk.lt k3) | skip) | ((with_reducible refine hold_list ?_ ?_); (· exact Eq.refl true)) | ((with_reducible refine hold_region ?_ ?_); (· exact Eq.refl true)) | (with_reducible refine hold_loop ?_))
        all_goals (try (go_wp2_with (first | ((with_reducible refine hold_list ?_ ?_); (· exact Eq.refl true)) | ((with_reducible refine hold_region ?_ ?_); (· exact Eq.refl true)) | (with_reducible refine hold_loop ?_))))
        have k5 : Blk (w'.alloc (.cells #[.int .u64 (wx : Int), .int .u64 (wy : Int), .int .u64 (lx : Int), .int .u64 (ly : Int), .int .u64 (mx : Int), .int .u64 (my : Int)] 32)) w'.heap.size 32 #[.int .u64 (wx : Int), .int .u64 (wy : Int), .int .u64 (lx : Int), .int .u64 (ly : Int), .int .u64 (mx : Int), .int .u64 (my : Int)] := Blk.new _ _ _
        replace k0 := Blk.alloc k0 (.cells #[.int .u64 (wx : Int), .int .u64 (wy : Int), .int .u64 (lx : Int), .int .u64 (ly : Int), .int .u64 (mx : Int), .int .u64 (my : Int)] 32)
        replace k1 := Blk.alloc k1 (.cells #[.int .u64 (wx : Int), .int .u64 (wy : Int), .int .u64 (lx : Int), .int .u64 (ly : Int), .int .u64 (mx : Int), .int .u64 (my : Int)] 32)
        replace hB := bel_at hB (.cells #[.int .u64 (wx : Int), .int .u64 (wy : Int), .int .u64 (lx : Int), .int .u64 (ly : Int), .int .u64 (mx : Int), .int .u64 (my : Int)] 32)
        generalize w'.alloc (.cells #[.int .u64 (wx : Int), .int .u64 (wy : Int), .int .u64 (lx : Int), .int .u64 (ly : Int), .int .u64 (mx : Int), .int .u64 (my : Int)] 32) = w5 at *
        (try clear k0c k0f k0z); have k0c := fun i => Blk.cell k0 i; have k0f := fun i => Blk.free k0 i; have k0z := Blk.lt k0; (try clear k1c k1f k1z); have k1c := fun i => Blk.cell k1 i; have k1f := fun i => Blk.free k1 i; have k1z := Blk.lt k1; (try clear k5c k5f k5z); have k5c := fun i => Blk.cell k5 i; have k5f := fun i => Blk.free k5 i; have k5z := Blk.lt k5
        unfold Hold
        go_wp2_with (first | ((with_reducible refine wpList_here ?_ ?_); (· exact Eq.refl true); first | ((with_reducible refine wpList_grow 14 ?_ ?_); (· exact Eq.refl true))) | ((with_reducible refine wp_region_any_here ?_ ?_); (· exact Eq.refl true); first | ((with_reducible refine wp_region_drawn 14 ?_ ?_ ?_ ?_); (· exact Eq.refl true); (· kernel_rfl); (· kernel_rfl)) | refine wp_region_grow (by kernel_rfl) (by kernel_rfl) ?_)); (try simp only [List.take_succ_cons, List.take_zero, List.drop_succ_cons, List.drop_zero]); (repeat (go_big_quiet_step ((first | (go_at_call 10; with_reducible exact grow_of (CT.out _ ((HR.out.below hB).below (Grow.below _)))) | (go_at_call 9; with_reducible exact grow_of (CF.out _)))))); (first | (refine wpQuiet_nil ?_; intro w' hb; replace hB := Below.trans hB (Below.mono hb (Below.size hB)); replace k0 := Blk.below k0 hb (Blk.lt k0); replace k1 := Blk.below k1 hb (Blk.lt k1); replace k5 := Blk.below k5 hb (Blk.lt k5); (try clear k0c k0f k0z); have k0c := fun i => Blk.cell k0 i; have k0f := fun i => Blk.free k0 i; have k0z := Blk.lt k0; (try clear k1c k1f k1z); have k1c := fun i => Blk.cell k1 i; have k1f := fun i => Blk.free k1 i; have k1z := Blk.lt k1; (try clear k5c k5f k5z); have k5c := fun i => Blk.cell k5 i; have k5f := fun i => Blk.free k5 i; have k5z := Blk.lt k5) | skip)
        all_goals (try (go_wp2_with (first | ((with_reducible refine wpList_here ?_ ?_); (· exact Eq.refl true); first | ((with_reducible refine wpList_grow 14 ?_ ?_); (· exact Eq.refl true))) | ((with_reducible refine wp_region_any_here ?_ ?_); (· exact Eq.refl true); first | ((with_reducible refine wp_region_drawn 14 ?_ ?_ ?_ ?_); (· exact Eq.refl true); (· kernel_rfl); (· kernel_rfl)) | refine wp_region_grow (by kernel_rfl) (by kernel_rfl) ?_)); (try simp only [List.take_succ_cons, List.take_zero, List.drop_succ_cons, List.drop_zero]); (repeat (go_big_quiet_step ((first | (go_at_call 10; with_reducible exact grow_of (CT.out _ ((HR.out.below hB).below (Grow.below _)))) | (go_at_call 9; with_reducible exact grow_of (CF.out _)))))); (first | (refine wpQuiet_nil ?_; intro w' hb; replace hB := Below.trans hB (Below.mono hb (Below.size hB)); replace k0 := Blk.below k0 hb (Blk.lt k0); replace k1 := Blk.below k1 hb (Blk.lt k1); replace k5 := Blk.below k5 hb (Blk.lt k5); (try clear k0c k0f k0z); have k0c := fun i => Blk.cell k0 i; have k0f := fun i => Blk.free k0 i; have k0z := Blk.lt k0; (try clear k1c k1f k1z); have k1c := fun i => Blk.cell k1 i; have k1f := fun i => Blk.free k1 i; have k1z := Blk.lt k1; (try clear k5c k5f k5z); have k5c := fun i => Blk.cell k5 i; have k5f := fun i => Blk.free k5 i; have k5z := Blk.lt k5) | skip)))
        all_goals (try (go_wp2_with (first | ((with_reducible refine wpList_here ?_ ?_); (· exact Eq.refl true); first | ((with_reducible refine wpList_grow 14 ?_ ?_); (· exact Eq.refl true))) | ((with_reducible refine wp_region_any_here ?_ ?_); (· exact Eq.refl true); first | ((with_reducible refine wp_region_drawn 14 ?_ ?_ ?_ ?_); (· exact Eq.refl true); (· kernel_rfl); (· kernel_rfl)) | refine wp_region_grow (by kernel_rfl) (by kernel_rfl) ?_)); (try simp only [List.take_succ_cons, List.take_zero, List.drop_succ_cons, List.drop_zero]); (repeat (go_big_quiet_step ((first | (go_at_call 10; with_reducible exact grow_of (CT.out _ ((HR.out.below hB).below (Grow.below _)))) | (go_at_call 9; with_reducible exact grow_of (CF.out _)))))); (first | (refine wpQuiet_nil ?_; intro w' hb; replace hB := Below.trans hB (Below.mono hb (Below.size hB)); replace k0 := Blk.below k0 hb (Blk.lt k0); replace k1 := Blk.below k1 hb (Blk.lt k1); replace k5 := Blk.below k5 hb (Blk.lt k5); (try clear k0c k0f k0z); have k0c := fun i => Blk.cell k0 i; have k0f := fun i => Blk.free k0 i; have k0z := Blk.lt k0; (try clear k1c k1f k1z); have k1c := fun i => Blk.cell k1 i; have k1f := fun i => Blk.free k1 i; have k1z := Blk.lt k1; (try clear k5c k5f k5z); have k5c := fun i => Blk.cell k5 i; have k5f := fun i => Blk.free k5 i; have k5z := Blk.lt k5) | skip)))
        go_ret2
        exact ⟨rfl, hB⟩
    · have e1 : qN s c x0 y0 x1 y1 = c.left := by unfold qN; rw [if_neg hm1, if_neg hm0]
      have e2 : qB s c x0 y0 x1 y1 = true := by unfold qB; rw [if_neg hm0]
      rw [e1, e2]
      clear cM cE cP cF cT hr hsee hbd h0 h1 h2 h3 h hcap e1 e2
      have hm3 : c.mode = 2 ∨ c.mode = 3 ∨ c.mode = 4 := by omega
      rcases hm3 with hm | hm | hm
      · have q1 : (c.mode == 2) = true := by rw [hm]; rfl
        clear hm hm0 hm1 hmd
        go_enter Try.func21, Try.ntmps21
        go_wp2
        go_ret2
        exact ⟨rfl, bel4 _ _ _ _ _⟩
      · have q1 : (c.mode == 2) = false := by rw [hm]; rfl
        have q2 : (c.mode == 3) = true := by rw [hm]; rfl
        clear hm hm0 hm1 hmd
        go_enter Try.func21, Try.ntmps21
        go_wp2
        go_ret2
        exact ⟨rfl, bel4 _ _ _ _ _⟩
      · have q1 : (c.mode == 2) = false := by rw [hm]; rfl
        have q2 : (c.mode == 3) = false := by rw [hm]; rfl
        have q3 : (c.mode == 4) = true := by rw [hm]; rfl
        clear hm hm0 hm1 hmd
        go_enter Try.func21, Try.ntmps21
        go_wp2
        go_ret2
        exact ⟨rfl, bel4 _ _ _ _ _⟩
end Go.Proofs.Ytlcnhpjmmjmkcaa

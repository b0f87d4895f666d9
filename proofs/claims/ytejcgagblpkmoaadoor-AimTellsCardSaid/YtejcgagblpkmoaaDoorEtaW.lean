
/-
  eta.Door, ahead, turn; the document's Door, far. Conditions: the scenario's and the car's numbers lie within bounds.
-/
import Derived.Test.YtejcgagblpkmoaaDoorEtaP
import Derived.Test.YtejcgagblpkmoaaDoorPlaceE
import Derived.Test.YtejcgagblpkmoaaDoorEqSet
set_option linter.unusedVariables false
set_option linter.unusedSimpArgs false
namespace Go.Proofs.YtejcgagblpkmoaaDoor
open Go.Joins Go.ChangeShapes Go.WideShapes Go.ChangeAt Go.RowKit Go.Deep

/-- A scenario and a car within bounds. -/
structure EtaOk (s : Scen) (c : Car) : Prop where
  sm : s.small
  g1 : 1 ≤ s.gap
  p : 0 ≤ c.pos ∧ c.pos ≤ 2048
  d : -1 ≤ c.dir ∧ c.dir ≤ 1
  l : 0 ≤ c.left ∧ c.left ≤ 64
def doorOf (s : Scen) (c : Car) : Int := if c.mode = 2 then c.left + s.transfer + s.dwell + s.close else if c.mode = 3 then c.left + s.dwell + s.close else if c.mode = 4 then c.left else 0
theorem door_bd {s : Scen} {c : Car} (h : EtaOk s c) : 0 ≤ doorOf s c ∧ doorOf s c ≤ 256 := by
  obtain ⟨⟨_, _, _, _, h5, h6, h7⟩, _, _, _, hl⟩ := h
  unfold doorOf
  split
  · omega
  · split
    · omega
    · split <;> omega
def farOf (a b : Int) : Int := max (a - b) (b - a)
theorem one_of (w : World) (t1 : TypeId) (c1 : Array Value) (t2 : TypeId) (c2 : Array Value) : Below w.heap.size w ((w.alloc (.cells c1 t1)).alloc (.cells c2 t2)) := Joins.below_alloc2 _ _ _
set_option maxRecDepth 20000 in
set_option maxHeartbeats 2000000 in
theorem eta_Door (s : Scen) (A : Option Addr) (C : Nat) (c : Car) (A2 : Option Addr) (C2 : Nat) (w : World) (h : EtaOk s c) :
    Calls Tryd.prog 11 #[s.val A C, c.val A2 C2] w fun e w' => e = .returned (.int .i64 (doorOf s c)) ∧ Below w.heap.size w w' := by
  obtain ⟨⟨_, _, _, _, ⟨a1, a2⟩, ⟨b1, b2⟩, ⟨d1, d2⟩⟩, _, _, _, ⟨l1, l2⟩⟩ := h
  unfold doorOf
  by_cases h2 : c.mode = 2
  · have q2 : (c.mode == 2) = true := by simp [h2]
    rw [if_pos h2]
    clear h2
    go_enter Tryd.func11, Tryd.ntmps11
    go_wp2
    go_ret
    exact ⟨rfl, one_of _ _ _ _ _⟩
  · have q2 : (c.mode == 2) = false := by simp [h2]
    rw [if_neg h2]
    clear h2
    by_cases h3 : c.mode = 3
    · have q3 : (c.mode == 3) = true := by simp [h3]
      rw [if_pos h3]
      clear h3
      go_enter Tryd.func11, Tryd.ntmps11
      go_wp2
      go_ret
      exact ⟨rfl, one_of _ _ _ _ _⟩
    · have q3 : (c.mode == 3) = false := by simp [h3]
      rw [if_neg h3]
      clear h3
      by_cases h4 : c.mode = 4
      · have q4 : (c.mode == 4) = true := by simp [h4]
        rw [if_pos h4]
        clear h4
        go_enter Tryd.func11, Tryd.ntmps11
        go_wp2
        go_ret
        exact ⟨rfl, one_of _ _ _ _ _⟩
      · have q4 : (c.mode == 4) = false := by simp [h4]
        rw [if_neg h4]
        clear h4
        go_enter Tryd.func11, Tryd.ntmps11
        go_wp2
        go_ret
        exact ⟨rfl, one_of _ _ _ _ _⟩
set_option maxRecDepth 20000 in
set_option maxHeartbeats 2000000 in
theorem ref34_Door (s : Scen) (A : Option Addr) (C : Nat) (c : Car) (A2 : Option Addr) (C2 : Nat) (w : World) (h : EtaOk s c) :
    Calls Tryd.prog 12 #[s.val A C, c.val A2 C2] w fun e w' => e = .returned (.int .i64 (doorOf s c)) ∧ Below w.heap.size w w' := by
  obtain ⟨⟨_, _, _, _, ⟨a1, a2⟩, ⟨b1, b2⟩, ⟨d1, d2⟩⟩, _, _, _, ⟨l1, l2⟩⟩ := h
  unfold doorOf
  by_cases h2 : c.mode = 2
  · have q2 : (c.mode == 2) = true := by simp [h2]
    rw [if_pos h2]
    clear h2
    go_enter Tryd.func12, Tryd.ntmps12
    go_wp2
    go_ret
    exact ⟨rfl, one_of _ _ _ _ _⟩
  · have q2 : (c.mode == 2) = false := by simp [h2]
    rw [if_neg h2]
    clear h2
    by_cases h3 : c.mode = 3
    · have q3 : (c.mode == 3) = true := by simp [h3]
      rw [if_pos h3]
      clear h3
      go_enter Tryd.func12, Tryd.ntmps12
      go_wp2
      go_ret
      exact ⟨rfl, one_of _ _ _ _ _⟩
    · have q3 : (c.mode == 3) = false := by simp [h3]
      rw [if_neg h3]
      clear h3
      by_cases h4 : c.mode = 4
      · have q4 : (c.mode == 4) = true := by simp [h4]
        rw [if_pos h4]
        clear h4
        go_enter Tryd.func12, Tryd.ntmps12
        go_wp2
        go_ret
        exact ⟨rfl, one_of _ _ _ _ _⟩
      · have q4 : (c.mode == 4) = false := by simp [h4]
        rw [if_neg h4]
        clear h4
        go_enter Tryd.func12, Tryd.ntmps12
        go_wp2
        go_ret
        exact ⟨rfl, one_of _ _ _ _ _⟩
theorem ref34_far (a b : Int) (w : World) (ha : -100000 ≤ a ∧ a ≤ 100000) (hb : -100000 ≤ b ∧ b ≤ 100000) :
    Calls Tryd.prog 35 #[.int .i64 a, .int .i64 b] w fun e w' => e = .returned (.int .i64 (farOf a b)) ∧ w = w' := by
  unfold farOf
  by_cases h : a < b
  · have q : decide (a < b) = true := decide_eq_true h
    rw [show max (a - b) (b - a) = b - a by omega]
    have e0 : IntKind.i64.wrap (b - a) = b - a := IntWalk.i64_in _ (by omega)
    clear h ha hb
    go_enter Tryd.func35, Tryd.ntmps35
    go_wp2
    go_ret
    exact ⟨rfl, rfl⟩
  · have q : decide (a < b) = false := decide_eq_false h
    rw [show max (a - b) (b - a) = a - b by omega]
    have e0 : IntKind.i64.wrap (a - b) = a - b := IntWalk.i64_in _ (by omega)
    clear h ha hb
    go_enter Tryd.func35, Tryd.ntmps35
    go_wp2
    go_ret
    exact ⟨rfl, rfl⟩
set_option maxRecDepth 20000 in
set_option maxHeartbeats 4000000 in
theorem eta_ahead (s : Scen) (A : Option Addr) (C : Nat) (x y : Nat) (pos d : Int) (w : World) (hx : Wd x) (hy : Wd y) (hg : 1 ≤ s.gap ∧ s.gap ≤ 16) (hp : 0 ≤ pos ∧ pos ≤ 4096) (hd : -1 ≤ d ∧ d ≤ 1) :
    Calls Tryd.prog 31 #[s.val A C, sv x y, .int .i64 pos, .int .i64 d] w fun e w' => e = .returned (sv (ahX x pos s.gap d) (ahY y pos s.gap d)) ∧ Below w.heap.size w w' := by
  have cF := fun w => place_Floor pos s.gap w hp.1 (by omega) hg.1 (by omega)
  have hq0 : 0 ≤ pos / s.gap := Int.ediv_nonneg hp.1 (by omega)
  have hq1 : pos / s.gap ≤ pos := Int.ediv_le_self _ hp.1
  have cB := fun w => want_Beyond x y (aheadF pos s.gap d) d w hx hy (by unfold aheadF; split <;> omega) (by unfold I64; omega)
  obtain ⟨f0, f1, f2, f3, f4, f5, f6, f7, sg, f8, f9, f10, f11⟩ := s
  simp only at *
  have e0 : IntKind.i64.wrap (pos / f1 + 1) = pos / f1 + 1 := IntWalk.i64_in _ (by omega)
  unfold sv ahX ahY at *
  generalize (beyX x (aheadF pos f1 d) d : Int) = b1 at *
  generalize (beyY y (aheadF pos f1 d) d : Int) = b2 at *
  have hw : (d < 0 ∧ pos % f1 ≠ 0 ∧ aheadF pos f1 d = pos / f1 + 1) ∨ (d < 0 ∧ pos % f1 = 0 ∧ aheadF pos f1 d = pos / f1) ∨ (¬ d < 0 ∧ aheadF pos f1 d = pos / f1) := by
    unfold aheadF
    by_cases h1 : d < 0
    · by_cases h2 : pos % f1 = 0
      · exact .inr (.inl ⟨h1, h2, by rw [if_neg (by omega)]⟩)
      · exact .inl ⟨h1, h2, by rw [if_pos ⟨h1, h2⟩]⟩
    · exact .inr (.inr ⟨h1, by rw [if_neg (by omega)]⟩)
  have CF := Lib.hid cF
  clear cF hx hy hg hp hd hq0 hq1
  rcases hw with ⟨h1, h2, h3⟩ | ⟨h1, h2, h3⟩ | ⟨h1, h3⟩
  · have q1 : decide (d < 0) = true := decide_eq_true h1
    have cF2 := CF.out
    rw [show (pos % f1 == 0) = false by simp [h2]] at cF2
    rw [h3] at cB
    have CF2 := Lib.hid cF2
    have CB := Lib.hid cB
    generalize pos / f1 = q at *
    clear h1 h2 h3 cF2 cB CF
    go_enter Tryd.func31, Tryd.ntmps31
    go_wp2_with (first | ((with_reducible refine hold_list ?_ ?_); (· exact Eq.refl true)) | ((with_reducible refine hold_region ?_ ?_); (· exact Eq.refl true)) | (with_reducible refine hold_loop ?_))
    have k0 : Blk (((w.alloc (.cells #[.int .i64 f0, .int .i64 f1, .int .i64 f2, .int .i64 f3, .int .i64 f4, .int .i64 f5, .int .i64 f6, .int .i64 f7, .slice A sg.length C, .int .i64 f8, .int .i64 f9, .int .i64 f10, .int .i64 f11] 25)).alloc (.cells #[.int .u64 (x : Int), .int .u64 (y : Int)] 38)).alloc (.cells #[.int .u64 0, .int .u64 0] 38)) (w.heap.size) 25 #[.int .i64 f0, .int .i64 f1, .int .i64 f2, .int .i64 f3, .int .i64 f4, .int .i64 f5, .int .i64 f6, .int .i64 f7, .slice A sg.length C, .int .i64 f8, .int .i64 f9, .int .i64 f10, .int .i64 f11] := (Blk.alloc (Blk.alloc (blk_at (by simp)) (.cells #[.int .u64 (x : Int), .int .u64 (y : Int)] 38)) (.cells #[.int .u64 0, .int .u64 0] 38))
    have k1 : Blk (((w.alloc (.cells #[.int .i64 f0, .int .i64 f1, .int .i64 f2, .int .i64 f3, .int .i64 f4, .int .i64 f5, .int .i64 f6, .int .i64 f7, .slice A sg.length C, .int .i64 f8, .int .i64 f9, .int .i64 f10, .int .i64 f11] 25)).alloc (.cells #[.int .u64 (x : Int), .int .u64 (y : Int)] 38)).alloc (.cells #[.int .u64 0, .int .u64 0] 38)) (w.heap.size + 1) 38 #[.int .u64 (x : Int), .int .u64 (y : Int)] := (Blk.alloc (blk_at (by simp)) (.cells #[.int .u64 0, .int .u64 0] 38))
    have k2 : Blk (((w.alloc (.cells #[.int .i64 f0, .int .i64 f1, .int .i64 f2, .int .i64 f3, .int .i64 f4, .int .i64 f5, .int .i64 f6, .int .i64 f7, .slice A sg.length C, .int .i64 f8, .int .i64 f9, .int .i64 f10, .int .i64 f11] 25)).alloc (.cells #[.int .u64 (x : Int), .int .u64 (y : Int)] 38)).alloc (.cells #[.int .u64 0, .int .u64 0] 38)) (w.heap.size + 2) 38 #[.int .u64 0, .int .u64 0] := (blk_at (by simp))
    have hB : Below w.heap.size w (((w.alloc (.cells #[.int .i64 f0, .int .i64 f1, .int .i64 f2, .int .i64 f3, .int .i64 f4, .int .i64 f5, .int .i64 f6, .int .i64 f7, .slice A sg.length C, .int .i64 f8, .int .i64 f9, .int .i64 f10, .int .i64 f11] 25)).alloc (.cells #[.int .u64 (x : Int), .int .u64 (y : Int)] 38)).alloc (.cells #[.int .u64 0, .int .u64 0] 38)) := (bel_at (bel_at (bel_at (Below.refl _ _) (.cells #[.int .i64 f0, .int .i64 f1, .int .i64 f2, .int .i64 f3, .int .i64 f4, .int .i64 f5, .int .i64 f6, .int .i64 f7, .slice A sg.length C, .int .i64 f8, .int .i64 f9, .int .i64 f10, .int .i64 f11] 25)) (.cells #[.int .u64 (x : Int), .int .u64 (y : Int)] 38)) (.cells #[.int .u64 0, .int .u64 0] 38))
    generalize (((w.alloc (.cells #[.int .i64 f0, .int .i64 f1, .int .i64 f2, .int .i64 f3, .int .i64 f4, .int .i64 f5, .int .i64 f6, .int .i64 f7, .slice A sg.length C, .int .i64 f8, .int .i64 f9, .int .i64 f10, .int .i64 f11] 25)).alloc (.cells #[.int .u64 (x : Int), .int .u64 (y : Int)] 38)).alloc (.cells #[.int .u64 0, .int .u64 0] 38)) = w1 at *
    (try clear k0c k0f k0z); have k0c := fun i => Blk.cell k0 i; have k0f := fun i => Blk.free k0 i; have k0z := Blk.lt k0; (try clear k1c k1f k1z); have k1c := fun i => Blk.cell k1 i; have k1f := fun i => Blk.free k1 i; have k1z := Blk.lt k1; (try clear k2c k2f k2z); have k2c := fun i => Blk.cell k2 i; have k2f := fun i => Blk.free k2 i; have k2z := Blk.lt k2
    unfold Hold
    go_wp2_with (first | ((with_reducible refine wpList_here ?_ ?_); (· exact Eq.refl true); first | ((with_reducible refine wpList_grow 3 ?_ ?_); (· exact Eq.refl true)) | ((with_reducible refine wpList_grow 4 ?_ ?_); (· exact Eq.refl true))) | ((with_reducible refine wp_region_any_here ?_ ?_); (· exact Eq.refl true); first | ((with_reducible refine wp_region_drawn 3 ?_ ?_ ?_ ?_); (· exact Eq.refl true); (· kernel_rfl); (· kernel_rfl)) | ((with_reducible refine wp_region_drawn 4 ?_ ?_ ?_ ?_); (· exact Eq.refl true); (· kernel_rfl); (· kernel_rfl)) | refine wp_region_grow (by kernel_rfl) (by kernel_rfl) ?_)); (try simp only [List.take_succ_cons, List.take_zero, List.drop_succ_cons, List.drop_zero]); (repeat (go_big_quiet_step ((first | (go_at_call 48; with_reducible exact grow_draw (CF2.out _)) | (go_at_call 49; with_reducible exact grow_of (CB.out _)))))); (first | (refine wpQuiet_nil ?_; intro w' hb; replace hB := Below.trans hB (Below.mono hb (Below.size hB)); replace k0 := Blk.below k0 hb (Blk.lt k0); replace k1 := Blk.below k1 hb (Blk.lt k1); replace k2 := Blk.below k2 hb (Blk.lt k2); (try clear k0c k0f k0z); have k0c := fun i => Blk.cell k0 i; have k0f := fun i => Blk.free k0 i; have k0z := Blk.lt k0; (try clear k1c k1f k1z); have k1c := fun i => Blk.cell k1 i; have k1f := fun i => Blk.free k1 i; have k1z := Blk.lt k1; (try clear k2c k2f k2z); have k2c := fun i => Blk.cell k2 i; have k2f := fun i => Blk.free k2 i; have k2z := Blk.lt k2) | skip)
    all_goals (try (go_wp2_with (first | ((with_reducible refine wpList_here ?_ ?_); (· exact Eq.refl true); first | ((with_reducible refine wpList_grow 3 ?_ ?_); (· exact Eq.refl true)) | ((with_reducible refine wpList_grow 4 ?_ ?_); (· exact Eq.refl true))) | ((with_reducible refine wp_region_any_here ?_ ?_); (· exact Eq.refl true); first | ((with_reducible refine wp_region_drawn 3 ?_ ?_ ?_ ?_); (· exact Eq.refl true); (· kernel_rfl); (· kernel_rfl)) | ((with_reducible refine wp_region_drawn 4 ?_ ?_ ?_ ?_); (· exact Eq.refl true); (· kernel_rfl); (· kernel_rfl)) | refine wp_region_grow (by kernel_rfl) (by kernel_rfl) ?_)); (try simp only [List.take_succ_cons, List.take_zero, List.drop_succ_cons, List.drop_zero]); (repeat (go_big_quiet_step ((first | (go_at_call 48; with_reducible exact grow_draw (CF2.out _)) | (go_at_call 49; with_reducible exact grow_of (CB.out _)))))); (first | (refine wpQuiet_nil ?_; intro w' hb; replace hB := Below.trans hB (Below.mono hb (Below.size hB)); replace k0 := Blk.below k0 hb (Blk.lt k0); replace k1 := Blk.below k1 hb (Blk.lt k1); replace k2 := Blk.below k2 hb (Blk.lt k2); (try clear k0c k0f k0z); have k0c := fun i => Blk.cell k0 i; have k0f := fun i => Blk.free k0 i; have k0z := Blk.lt k0; (try clear k1c k1f k1z); have k1c := fun i => Blk.cell k1 i; have k1f := fun i => Blk.free k1 i; have k1z := Blk.lt k1; (try clear k2c k2f k2z); have k2c := fun i => Blk.cell k2 i; have k2f := fun i => Blk.free k2 i; have k2z := Blk.lt k2) | skip)))
    all_goals (try (go_wp2_with (first | ((with_reducible refine wpList_here ?_ ?_); (· exact Eq.refl true); first | ((with_reducible refine wpList_grow 3 ?_ ?_); (· exact Eq.refl true)) | ((with_reducible refine wpList_grow 4 ?_ ?_); (· exact Eq.refl true))) | ((with_reducible refine wp_region_any_here ?_ ?_); (· exact Eq.refl true); first | ((with_reducible refine wp_region_drawn 3 ?_ ?_ ?_ ?_); (· exact Eq.refl true); (· kernel_rfl); (· kernel_rfl)) | ((with_reducible refine wp_region_drawn 4 ?_ ?_ ?_ ?_); (· exact Eq.refl true); (· kernel_rfl); (· kernel_rfl)) | refine wp_region_grow (by kernel_rfl) (by kernel_rfl) ?_)); (try simp only [List.take_succ_cons, List.take_zero, List.drop_succ_cons, List.drop_zero]); (repeat (go_big_quiet_step ((first | (go_at_call 48; with_reducible exact grow_draw (CF2.out _)) | (go_at_call 49; with_reducible exact grow_of (CB.out _)))))); (first | (refine wpQuiet_nil ?_; intro w' hb; replace hB := Below.trans hB (Below.mono hb (Below.size hB)); replace k0 := Blk.below k0 hb (Blk.lt k0); replace k1 := Blk.below k1 hb (Blk.lt k1); replace k2 := Blk.below k2 hb (Blk.lt k2); (try clear k0c k0f k0z); have k0c := fun i => Blk.cell k0 i; have k0f := fun i => Blk.free k0 i; have k0z := Blk.lt k0; (try clear k1c k1f k1z); have k1c := fun i => Blk.cell k1 i; have k1f := fun i => Blk.free k1 i; have k1z := Blk.lt k1; (try clear k2c k2f k2z); have k2c := fun i => Blk.cell k2 i; have k2f := fun i => Blk.free k2 i; have k2z := Blk.lt k2) | skip)))
    refine bodyPost_ret (v := .agg #[.int .u64 b1, .int .u64 b2]) (by simp [results, Tryd.results31, go_sem, k2c, k2f]) rfl ?_
    exact ⟨rfl, by (repeat' (first | with_reducible exact hB | with_reducible exact below_drewN hB _ | with_reducible refine Below.drew ?_ | with_reducible refine Below.setCell ?_ ?_ _)) <;> (first | (simp; done) | omega | (simp; omega))⟩
  · have q1 : decide (d < 0) = true := decide_eq_true h1
    have cF2 := CF.out
    rw [show (pos % f1 == 0) = true by simp [h2]] at cF2
    rw [h3] at cB
    have CF2 := Lib.hid cF2
    have CB := Lib.hid cB
    generalize pos / f1 = q at *
    clear h1 h2 h3 cF2 cB CF
    go_enter Tryd.func31, Tryd.ntmps31
    go_wp2_with (first | ((with_reducible refine hold_list ?_ ?_); (· exact Eq.refl true)) | ((with_reducible refine hold_region ?_ ?_); (· exact Eq.refl true)) | (with_reducible refine hold_loop ?_))
    have k0 : Blk (((w.alloc (.cells #[.int .i64 f0, .int .i64 f1, .int .i64 f2, .int .i64 f3, .int .i64 f4, .int .i64 f5, .int .i64 f6, .int .i64 f7, .slice A sg.length C, .int .i64 f8, .int .i64 f9, .int .i64 f10, .int .i64 f11] 25)).alloc (.cells #[.int .u64 (x : Int), .int .u64 (y : Int)] 38)).alloc (.cells #[.int .u64 0, .int .u64 0] 38)) (w.heap.size) 25 #[.int .i64 f0, .int .i64 f1, .int .i64 f2, .int .i64 f3, .int .i64 f4, .int .i64 f5, .int .i64 f6, .int .i64 f7, .slice A sg.length C, .int .i64 f8, .int .i64 f9, .int .i64 f10, .int .i64 f11] := (Blk.alloc (Blk.alloc (blk_at (by simp)) (.cells #[.int .u64 (x : Int), .int .u64 (y : Int)] 38)) (.cells #[.int .u64 0, .int .u64 0] 38))
    have k1 : Blk (((w.alloc (.cells #[.int .i64 f0, .int .i64 f1, .int .i64 f2, .int .i64 f3, .int .i64 f4, .int .i64 f5, .int .i64 f6, .int .i64 f7, .slice A sg.length C, .int .i64 f8, .int .i64 f9, .int .i64 f10, .int .i64 f11] 25)).alloc (.cells #[.int .u64 (x : Int), .int .u64 (y : Int)] 38)).alloc (.cells #[.int .u64 0, .int .u64 0] 38)) (w.heap.size + 1) 38 #[.int .u64 (x : Int), .int .u64 (y : Int)] := (Blk.alloc (blk_at (by simp)) (.cells #[.int .u64 0, .int .u64 0] 38))
    have k2 : Blk (((w.alloc (.cells #[.int .i64 f0, .int .i64 f1, .int .i64 f2, .int .i64 f3, .int .i64 f4, .int .i64 f5, .int .i64 f6, .int .i64 f7, .slice A sg.length C, .int .i64 f8, .int .i64 f9, .int .i64 f10, .int .i64 f11] 25)).alloc (.cells #[.int .u64 (x : Int), .int .u64 (y : Int)] 38)).alloc (.cells #[.int .u64 0, .int .u64 0] 38)) (w.heap.size + 2) 38 #[.int .u64 0, .int .u64 0] := (blk_at (by simp))
    have hB : Below w.heap.size w (((w.alloc (.cells #[.int .i64 f0, .int .i64 f1, .int .i64 f2, .int .i64 f3, .int .i64 f4, .int .i64 f5, .int .i64 f6, .int .i64 f7, .slice A sg.length C, .int .i64 f8, .int .i64 f9, .int .i64 f10, .int .i64 f11] 25)).alloc (.cells #[.int .u64 (x : Int), .int .u64 (y : Int)] 38)).alloc (.cells #[.int .u64 0, .int .u64 0] 38)) := (bel_at (bel_at (bel_at (Below.refl _ _) (.cells #[.int .i64 f0, .int .i64 f1, .int .i64 f2, .int .i64 f3, .int .i64 f4, .int .i64 f5, .int .i64 f6, .int .i64 f7, .slice A sg.length C, .int .i64 f8, .int .i64 f9, .int .i64 f10, .int .i64 f11] 25)) (.cells #[.int .u64 (x : Int), .int .u64 (y : Int)] 38)) (.cells #[.int .u64 0, .int .u64 0] 38))
    generalize (((w.alloc (.cells #[.int .i64 f0, .int .i64 f1, .int .i64 f2, .int .i64 f3, .int .i64 f4, .int .i64 f5, .int .i64 f6, .int .i64 f7, .slice A sg.length C, .int .i64 f8, .int .i64 f9, .int .i64 f10, .int .i64 f11] 25)).alloc (.cells #[.int .u64 (x : Int), .int .u64 (y : Int)] 38)).alloc (.cells #[.int .u64 0, .int .u64 0] 38)) = w1 at *
    (try clear k0c k0f k0z); have k0c := fun i => Blk.cell k0 i; have k0f := fun i => Blk.free k0 i; have k0z := Blk.lt k0; (try clear k1c k1f k1z); have k1c := fun i => Blk.cell k1 i; have k1f := fun i => Blk.free k1 i; have k1z := Blk.lt k1; (try clear k2c k2f k2z); have k2c := fun i => Blk.cell k2 i; have k2f := fun i => Blk.free k2 i; have k2z := Blk.lt k2
    unfold Hold
    go_wp2_with (first | ((with_reducible refine wpList_here ?_ ?_); (· exact Eq.refl true); first | ((with_reducible refine wpList_grow 3 ?_ ?_); (· exact Eq.refl true)) | ((with_reducible refine wpList_grow 4 ?_ ?_); (· exact Eq.refl true))) | ((with_reducible refine wp_region_any_here ?_ ?_); (· exact Eq.refl true); first | ((with_reducible refine wp_region_drawn 3 ?_ ?_ ?_ ?_); (· exact Eq.refl true); (· kernel_rfl); (· kernel_rfl)) | ((with_reducible refine wp_region_drawn 4 ?_ ?_ ?_ ?_); (· exact Eq.refl true); (· kernel_rfl); (· kernel_rfl)) | refine wp_region_grow (by kernel_rfl) (by kernel_rfl) ?_)); (try simp only [List.take_succ_cons, List.take_zero, List.drop_succ_cons, List.drop_zero]); (repeat (go_big_quiet_step ((first | (go_at_call 48; with_reducible exact grow_draw (CF2.out _)) | (go_at_call 49; with_reducible exact grow_of (CB.out _)))))); (first | (refine wpQuiet_nil ?_; intro w' hb; replace hB := Below.trans hB (Below.mono hb (Below.size hB)); replace k0 := Blk.below k0 hb (Blk.lt k0); replace k1 := Blk.below k1 hb (Blk.lt k1); replace k2 := Blk.below k2 hb (Blk.lt k2); (try clear k0c k0f k0z); have k0c := fun i => Blk.cell k0 i; have k0f := fun i => Blk.free k0 i; have k0z := Blk.lt k0; (try clear k1c k1f k1z); have k1c := fun i => Blk.cell k1 i; have k1f := fun i => Blk.free k1 i; have k1z := Blk.lt k1; (try clear k2c k2f k2z); have k2c := fun i => Blk.cell k2 i; have k2f := fun i => Blk.free k2 i; have k2z := Blk.lt k2) | skip)
    all_goals (try (go_wp2_with (first | ((with_reducible refine wpList_here ?_ ?_); (· exact Eq.refl true); first | ((with_reducible refine wpList_grow 3 ?_ ?_); (· exact Eq.refl true)) | ((with_reducible refine wpList_grow 4 ?_ ?_); (· exact Eq.refl true))) | ((with_reducible refine wp_region_any_here ?_ ?_); (· exact Eq.refl true); first | ((with_reducible refine wp_region_drawn 3 ?_ ?_ ?_ ?_); (· exact Eq.refl true); (· kernel_rfl); (· kernel_rfl)) | ((with_reducible refine wp_region_drawn 4 ?_ ?_ ?_ ?_); (· exact Eq.refl true); (· kernel_rfl); (· kernel_rfl)) | refine wp_region_grow (by kernel_rfl) (by kernel_rfl) ?_)); (try simp only [List.take_succ_cons, List.take_zero, List.drop_succ_cons, List.drop_zero]); (repeat (go_big_quiet_step ((first | (go_at_call 48; with_reducible exact grow_draw (CF2.out _)) | (go_at_call 49; with_reducible exact grow_of (CB.out _)))))); (first | (refine wpQuiet_nil ?_; intro w' hb; replace hB := Below.trans hB (Below.mono hb (Below.size hB)); replace k0 := Blk.below k0 hb (Blk.lt k0); replace k1 := Blk.below k1 hb (Blk.lt k1); replace k2 := Blk.below k2 hb (Blk.lt k2); (try clear k0c k0f k0z); have k0c := fun i => Blk.cell k0 i; have k0f := fun i => Blk.free k0 i; have k0z := Blk.lt k0; (try clear k1c k1f k1z); have k1c := fun i => Blk.cell k1 i; have k1f := fun i => Blk.free k1 i; have k1z := Blk.lt k1; (try clear k2c k2f k2z); have k2c := fun i => Blk.cell k2 i; have k2f := fun i => Blk.free k2 i; have k2z := Blk.lt k2) | skip)))
    all_goals (try (go_wp2_with (first | ((with_reducible refine wpList_here ?_ ?_); (· exact Eq.refl true); first | ((with_reducible refine wpList_grow 3 ?_ ?_); (· exact Eq.refl true)) | ((with_reducible refine wpList_grow 4 ?_ ?_); (· exact Eq.refl true))) | ((with_reducible refine wp_region_any_here ?_ ?_); (· exact Eq.refl true); first | ((with_reducible refine wp_region_drawn 3 ?_ ?_ ?_ ?_); (· exact Eq.refl true); (· kernel_rfl); (· kernel_rfl)) | ((with_reducible refine wp_region_drawn 4 ?_ ?_ ?_ ?_); (· exact Eq.refl true); (· kernel_rfl); (· kernel_rfl)) | refine wp_region_grow (by kernel_rfl) (by kernel_rfl) ?_)); (try simp only [List.take_succ_cons, List.take_zero, List.drop_succ_cons, List.drop_zero]); (repeat (go_big_quiet_step ((first | (go_at_call 48; with_reducible exact grow_draw (CF2.out _)) | (go_at_call 49; with_reducible exact grow_of (CB.out _)))))); (first | (refine wpQuiet_nil ?_; intro w' hb; replace hB := Below.trans hB (Below.mono hb (Below.size hB)); replace k0 := Blk.below k0 hb (Blk.lt k0); replace k1 := Blk.below k1 hb (Blk.lt k1); replace k2 := Blk.below k2 hb (Blk.lt k2); (try clear k0c k0f k0z); have k0c := fun i => Blk.cell k0 i; have k0f := fun i => Blk.free k0 i; have k0z := Blk.lt k0; (try clear k1c k1f k1z); have k1c := fun i => Blk.cell k1 i; have k1f := fun i => Blk.free k1 i; have k1z := Blk.lt k1; (try clear k2c k2f k2z); have k2c := fun i => Blk.cell k2 i; have k2f := fun i => Blk.free k2 i; have k2z := Blk.lt k2) | skip)))
    refine bodyPost_ret (v := .agg #[.int .u64 b1, .int .u64 b2]) (by simp [results, Tryd.results31, go_sem, k2c, k2f]) rfl ?_
    exact ⟨rfl, by (repeat' (first | with_reducible exact hB | with_reducible exact below_drewN hB _ | with_reducible refine Below.drew ?_ | with_reducible refine Below.setCell ?_ ?_ _)) <;> (first | (simp; done) | omega | (simp; omega))⟩
  · have q1 : decide (d < 0) = false := decide_eq_false h1
    rw [h3] at cB
    have CB := Lib.hid cB
    generalize pos / f1 = q at *
    generalize (pos % f1 == 0) = z at *
    clear h1 h3 cB
    go_enter Tryd.func31, Tryd.ntmps31
    go_wp2_with (first | ((with_reducible refine hold_list ?_ ?_); (· exact Eq.refl true)) | ((with_reducible refine hold_region ?_ ?_); (· exact Eq.refl true)) | (with_reducible refine hold_loop ?_))
    have k0 : Blk (((w.alloc (.cells #[.int .i64 f0, .int .i64 f1, .int .i64 f2, .int .i64 f3, .int .i64 f4, .int .i64 f5, .int .i64 f6, .int .i64 f7, .slice A sg.length C, .int .i64 f8, .int .i64 f9, .int .i64 f10, .int .i64 f11] 25)).alloc (.cells #[.int .u64 (x : Int), .int .u64 (y : Int)] 38)).alloc (.cells #[.int .u64 0, .int .u64 0] 38)) (w.heap.size) 25 #[.int .i64 f0, .int .i64 f1, .int .i64 f2, .int .i64 f3, .int .i64 f4, .int .i64 f5, .int .i64 f6, .int .i64 f7, .slice A sg.length C, .int .i64 f8, .int .i64 f9, .int .i64 f10, .int .i64 f11] := (Blk.alloc (Blk.alloc (blk_at (by simp)) (.cells #[.int .u64 (x : Int), .int .u64 (y : Int)] 38)) (.cells #[.int .u64 0, .int .u64 0] 38))
    have k1 : Blk (((w.alloc (.cells #[.int .i64 f0, .int .i64 f1, .int .i64 f2, .int .i64 f3, .int .i64 f4, .int .i64 f5, .int .i64 f6, .int .i64 f7, .slice A sg.length C, .int .i64 f8, .int .i64 f9, .int .i64 f10, .int .i64 f11] 25)).alloc (.cells #[.int .u64 (x : Int), .int .u64 (y : Int)] 38)).alloc (.cells #[.int .u64 0, .int .u64 0] 38)) (w.heap.size + 1) 38 #[.int .u64 (x : Int), .int .u64 (y : Int)] := (Blk.alloc (blk_at (by simp)) (.cells #[.int .u64 0, .int .u64 0] 38))
    have k2 : Blk (((w.alloc (.cells #[.int .i64 f0, .int .i64 f1, .int .i64 f2, .int .i64 f3, .int .i64 f4, .int .i64 f5, .int .i64 f6, .int .i64 f7, .slice A sg.length C, .int .i64 f8, .int .i64 f9, .int .i64 f10, .int .i64 f11] 25)).alloc (.cells #[.int .u64 (x : Int), .int .u64 (y : Int)] 38)).alloc (.cells #[.int .u64 0, .int .u64 0] 38)) (w.heap.size + 2) 38 #[.int .u64 0, .int .u64 0] := (blk_at (by simp))
    have hB : Below w.heap.size w (((w.alloc (.cells #[.int .i64 f0, .int .i64 f1, .int .i64 f2, .int .i64 f3, .int .i64 f4, .int .i64 f5, .int .i64 f6, .int .i64 f7, .slice A sg.length C, .int .i64 f8, .int .i64 f9, .int .i64 f10, .int .i64 f11] 25)).alloc (.cells #[.int .u64 (x : Int), .int .u64 (y : Int)] 38)).alloc (.cells #[.int .u64 0, .int .u64 0] 38)) := (bel_at (bel_at (bel_at (Below.refl _ _) (.cells #[.int .i64 f0, .int .i64 f1, .int .i64 f2, .int .i64 f3, .int .i64 f4, .int .i64 f5, .int .i64 f6, .int .i64 f7, .slice A sg.length C, .int .i64 f8, .int .i64 f9, .int .i64 f10, .int .i64 f11] 25)) (.cells #[.int .u64 (x : Int), .int .u64 (y : Int)] 38)) (.cells #[.int .u64 0, .int .u64 0] 38))
    generalize (((w.alloc (.cells #[.int .i64 f0, .int .i64 f1, .int .i64 f2, .int .i64 f3, .int .i64 f4, .int .i64 f5, .int .i64 f6, .int .i64 f7, .slice A sg.length C, .int .i64 f8, .int .i64 f9, .int .i64 f10, .int .i64 f11] 25)).alloc (.cells #[.int .u64 (x : Int), .int .u64 (y : Int)] 38)).alloc (.cells #[.int .u64 0, .int .u64 0] 38)) = w1 at *
    (try clear k0c k0f k0z); have k0c := fun i => Blk.cell k0 i; have k0f := fun i => Blk.free k0 i; have k0z := Blk.lt k0; (try clear k1c k1f k1z); have k1c := fun i => Blk.cell k1 i; have k1f := fun i => Blk.free k1 i; have k1z := Blk.lt k1; (try clear k2c k2f k2z); have k2c := fun i => Blk.cell k2 i; have k2f := fun i => Blk.free k2 i; have k2z := Blk.lt k2
    unfold Hold
    go_wp2_with (first | ((with_reducible refine wpList_here ?_ ?_); (· exact Eq.refl true); first | ((with_reducible refine wpList_grow 3 ?_ ?_); (· exact Eq.refl true)) | ((with_reducible refine wpList_grow 4 ?_ ?_); (· exact Eq.refl true))) | ((with_reducible refine wp_region_any_here ?_ ?_); (· exact Eq.refl true); first | ((with_reducible refine wp_region_drawn 3 ?_ ?_ ?_ ?_); (· exact Eq.refl true); (· kernel_rfl); (· kernel_rfl)) | ((with_reducible refine wp_region_drawn 4 ?_ ?_ ?_ ?_); (· exact Eq.refl true); (· kernel_rfl); (· kernel_rfl)) | refine wp_region_grow (by kernel_rfl) (by kernel_rfl) ?_)); (try simp only [List.take_succ_cons, List.take_zero, List.drop_succ_cons, List.drop_zero]); (repeat (go_big_quiet_step ((first | (go_at_call 48; with_reducible exact grow_draw (CF.out _)) | (go_at_call 49; with_reducible exact grow_of (CB.out _)))))); (first | (refine wpQuiet_nil ?_; intro w' hb; replace hB := Below.trans hB (Below.mono hb (Below.size hB)); replace k0 := Blk.below k0 hb (Blk.lt k0); replace k1 := Blk.below k1 hb (Blk.lt k1); replace k2 := Blk.below k2 hb (Blk.lt k2); (try clear k0c k0f k0z); have k0c := fun i => Blk.cell k0 i; have k0f := fun i => Blk.free k0 i; have k0z := Blk.lt k0; (try clear k1c k1f k1z); have k1c := fun i => Blk.cell k1 i; have k1f := fun i => Blk.free k1 i; have k1z := Blk.lt k1; (try clear k2c k2f k2z); have k2c := fun i => Blk.cell k2 i; have k2f := fun i => Blk.free k2 i; have k2z := Blk.lt k2) | skip)
    all_goals (try (go_wp2_with (first | ((with_reducible refine wpList_here ?_ ?_); (· exact Eq.refl true); first | ((with_reducible refine wpList_grow 3 ?_ ?_); (· exact Eq.refl true)) | ((with_reducible refine wpList_grow 4 ?_ ?_); (· exact Eq.refl true))) | ((with_reducible refine wp_region_any_here ?_ ?_); (· exact Eq.refl true); first | ((with_reducible refine wp_region_drawn 3 ?_ ?_ ?_ ?_); (· exact Eq.refl true); (· kernel_rfl); (· kernel_rfl)) | ((with_reducible refine wp_region_drawn 4 ?_ ?_ ?_ ?_); (· exact Eq.refl true); (· kernel_rfl); (· kernel_rfl)) | refine wp_region_grow (by kernel_rfl) (by kernel_rfl) ?_)); (try simp only [List.take_succ_cons, List.take_zero, List.drop_succ_cons, List.drop_zero]); (repeat (go_big_quiet_step ((first | (go_at_call 48; with_reducible exact grow_draw (CF.out _)) | (go_at_call 49; with_reducible exact grow_of (CB.out _)))))); (first | (refine wpQuiet_nil ?_; intro w' hb; replace hB := Below.trans hB (Below.mono hb (Below.size hB)); replace k0 := Blk.below k0 hb (Blk.lt k0); replace k1 := Blk.below k1 hb (Blk.lt k1); replace k2 := Blk.below k2 hb (Blk.lt k2); (try clear k0c k0f k0z); have k0c := fun i => Blk.cell k0 i; have k0f := fun i => Blk.free k0 i; have k0z := Blk.lt k0; (try clear k1c k1f k1z); have k1c := fun i => Blk.cell k1 i; have k1f := fun i => Blk.free k1 i; have k1z := Blk.lt k1; (try clear k2c k2f k2z); have k2c := fun i => Blk.cell k2 i; have k2f := fun i => Blk.free k2 i; have k2z := Blk.lt k2) | skip)))
    all_goals (try (go_wp2_with (first | ((with_reducible refine wpList_here ?_ ?_); (· exact Eq.refl true); first | ((with_reducible refine wpList_grow 3 ?_ ?_); (· exact Eq.refl true)) | ((with_reducible refine wpList_grow 4 ?_ ?_); (· exact Eq.refl true))) | ((with_reducible refine wp_region_any_here ?_ ?_); (· exact Eq.refl true); first | ((with_reducible refine wp_region_drawn 3 ?_ ?_ ?_ ?_); (· exact Eq.refl true); (· kernel_rfl); (· kernel_rfl)) | ((with_reducible refine wp_region_drawn 4 ?_ ?_ ?_ ?_); (· exact Eq.refl true); (· kernel_rfl); (· kernel_rfl)) | refine wp_region_grow (by kernel_rfl) (by kernel_rfl) ?_)); (try simp only [List.take_succ_cons, List.take_zero, List.drop_succ_cons, List.drop_zero]); (repeat (go_big_quiet_step ((first | (go_at_call 48; with_reducible exact grow_draw (CF.out _)) | (go_at_call 49; with_reducible exact grow_of (CB.out _)))))); (first | (refine wpQuiet_nil ?_; intro w' hb; replace hB := Below.trans hB (Below.mono hb (Below.size hB)); replace k0 := Blk.below k0 hb (Blk.lt k0); replace k1 := Blk.below k1 hb (Blk.lt k1); replace k2 := Blk.below k2 hb (Blk.lt k2); (try clear k0c k0f k0z); have k0c := fun i => Blk.cell k0 i; have k0f := fun i => Blk.free k0 i; have k0z := Blk.lt k0; (try clear k1c k1f k1z); have k1c := fun i => Blk.cell k1 i; have k1f := fun i => Blk.free k1 i; have k1z := Blk.lt k1; (try clear k2c k2f k2z); have k2c := fun i => Blk.cell k2 i; have k2f := fun i => Blk.free k2 i; have k2z := Blk.lt k2) | skip)))
    refine bodyPost_ret (v := .agg #[.int .u64 b1, .int .u64 b2]) (by simp [results, Tryd.results31, go_sem, k2c, k2f]) rfl ?_
    exact ⟨rfl, by (repeat' (first | with_reducible exact hB | with_reducible exact below_drewN hB _ | with_reducible refine Below.drew ?_ | with_reducible refine Below.setCell ?_ ?_ _)) <;> (first | (simp; done) | omega | (simp; omega))⟩
end Go.Proofs.YtejcgagblpkmoaaDoor

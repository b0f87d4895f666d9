
/-
  (Sight).Call, Beyond, Of, Stop. Conditions: floors within a million, directions -1, 0, 1.
-/
import Derived.Test.YtlcnhpjmmjmkcaaFace
import Derived.Test.YtlcnhpjmmjmkcaaEqSet
set_option linter.unusedVariables false
set_option linter.unusedSimpArgs false
namespace Go.Proofs.Ytlcnhpjmmjmkcaa
open Go.Joins Go.ChangeShapes Go.WideShapes Go.ChangeAt Go.RowKit Go.Deep

def callB (s : Sgt) (f d : Int) : Bool := if 0 < d then memB s.ux s.uy f else if d < 0 then memB s.dx s.dy f else false
def beyB (s : Sgt) (f d : Int) : Bool := !((beyX s.wx f d : Int) == 0 && (beyY s.wy f d : Int) == 0)
set_option maxRecDepth 20000 in
set_option maxHeartbeats 1000000 in
theorem sight_Call (s : Sgt) (f d : Int) (w : World) (hs : s.ok) (hf : I64 f) : Calls Try.prog 29 #[s.val, .int .i64 f, .int .i64 d] w fun e w' => e = .returned (.bool (callB s f d)) ∧ Below w.heap.size w w' := by
  have cU := fun w => bits_Has s.ux s.uy f w hs.2.1.1 hs.2.1.2 hf
  have cD := fun w => bits_Has s.dx s.dy f w hs.2.2.1 hs.2.2.2 hf
  obtain ⟨wx, wy, ux, uy, dx, dy⟩ := s
  unfold callB
  unfold Sgt.val sv at *
  simp only at *
  clear hs
  generalize memB ux uy f = bu at *
  generalize memB dx dy f = bd at *
  have CU := Lib.hid cU
  have CD := Lib.hid cD
  clear cU cD hf
  by_cases h1 : 0 < d
  · simp only [if_pos h1]
    have q1 : decide (0 < d) = true := decide_eq_true h1
    go_enter Try.func29, Try.ntmps29
    go_wp2_with (first | ((with_reducible refine hold_list ?_ ?_); (· exact Eq.refl true)) | ((with_reducible refine hold_region ?_ ?_); (· exact Eq.refl true)) | (with_reducible refine hold_loop ?_))
    have k0 : Blk (w.alloc (.cells #[.int .u64 (wx : Int), .int .u64 (wy : Int), .int .u64 (ux : Int), .int .u64 (uy : Int), .int .u64 (dx : Int), .int .u64 (dy : Int)] 32)) (w.heap.size) 32 #[.int .u64 (wx : Int), .int .u64 (wy : Int), .int .u64 (ux : Int), .int .u64 (uy : Int), .int .u64 (dx : Int), .int .u64 (dy : Int)] := (blk_at (by simp))
    have hB : Below w.heap.size w (w.alloc (.cells #[.int .u64 (wx : Int), .int .u64 (wy : Int), .int .u64 (ux : Int), .int .u64 (uy : Int), .int .u64 (dx : Int), .int .u64 (dy : Int)] 32)) := (bel_at (Below.refl _ _) (.cells #[.int .u64 (wx : Int), .int .u64 (wy : Int), .int .u64 (ux : Int), .int .u64 (uy : Int), .int .u64 (dx : Int), .int .u64 (dy : Int)] 32))
    generalize (w.alloc (.cells #[.int .u64 (wx : Int), .int .u64 (wy : Int), .int .u64 (ux : Int), .int .u64 (uy : Int), .int .u64 (dx : Int), .int .u64 (dy : Int)] 32)) = w1 at *
    (try clear k0c k0f k0z); have k0c := fun i => Blk.cell k0 i; have k0f := fun i => Blk.free k0 i; have k0z := Blk.lt k0
    unfold Hold
    go_wp2_with (first | ((with_reducible refine wpList_here ?_ ?_); (· exact Eq.refl true); first | ((with_reducible refine wpList_grow 4 ?_ ?_); (· exact Eq.refl true))) | ((with_reducible refine wp_region_any_here ?_ ?_); (· exact Eq.refl true); first | ((with_reducible refine wp_region_drawn 4 ?_ ?_ ?_ ?_); (· exact Eq.refl true); (· kernel_rfl); (· kernel_rfl)) | refine wp_region_grow (by kernel_rfl) (by kernel_rfl) ?_)); (try simp only [List.take_succ_cons, List.take_zero, List.drop_succ_cons, List.drop_zero]); (repeat (go_big_quiet_step ((first | (go_at_call 30; with_reducible exact grow_of (CU.out _)))))); (first | (refine wpQuiet_nil ?_; intro w' hb; replace hB := Below.trans hB (Below.mono hb (Below.size hB)); replace k0 := Blk.below k0 hb (Blk.lt k0); (try clear k0c k0f k0z); have k0c := fun i => Blk.cell k0 i; have k0f := fun i => Blk.free k0 i; have k0z := Blk.lt k0) | skip)
    all_goals (try (go_wp2_with (first | ((with_reducible refine wpList_here ?_ ?_); (· exact Eq.refl true); first | ((with_reducible refine wpList_grow 4 ?_ ?_); (· exact Eq.refl true))) | ((with_reducible refine wp_region_any_here ?_ ?_); (· exact Eq.refl true); first | ((with_reducible refine wp_region_drawn 4 ?_ ?_ ?_ ?_); (· exact Eq.refl true); (· kernel_rfl); (· kernel_rfl)) | refine wp_region_grow (by kernel_rfl) (by kernel_rfl) ?_)); (try simp only [List.take_succ_cons, List.take_zero, List.drop_succ_cons, List.drop_zero]); (repeat (go_big_quiet_step ((first | (go_at_call 30; with_reducible exact grow_of (CU.out _)))))); (first | (refine wpQuiet_nil ?_; intro w' hb; replace hB := Below.trans hB (Below.mono hb (Below.size hB)); replace k0 := Blk.below k0 hb (Blk.lt k0); (try clear k0c k0f k0z); have k0c := fun i => Blk.cell k0 i; have k0f := fun i => Blk.free k0 i; have k0z := Blk.lt k0) | skip)))
    go_ret
    exact ⟨rfl, hB⟩
  · have q1 : decide (0 < d) = false := decide_eq_false h1
    simp only [if_neg h1]
    by_cases h2 : d < 0
    · simp only [if_pos h2]
      have q2 : decide (d < 0) = true := decide_eq_true h2
      go_enter Try.func29, Try.ntmps29
      go_wp2_with (first | ((with_reducible refine hold_list ?_ ?_); (· exact Eq.refl true)) | ((with_reducible refine hold_region ?_ ?_); (· exact Eq.refl true)) | (with_reducible refine hold_loop ?_))
      have k0 : Blk (w.alloc (.cells #[.int .u64 (wx : Int), .int .u64 (wy : Int), .int .u64 (ux : Int), .int .u64 (uy : Int), .int .u64 (dx : Int), .int .u64 (dy : Int)] 32)) (w.heap.size) 32 #[.int .u64 (wx : Int), .int .u64 (wy : Int), .int .u64 (ux : Int), .int .u64 (uy : Int), .int .u64 (dx : Int), .int .u64 (dy : Int)] := (blk_at (by simp))
      have hB : Below w.heap.size w (w.alloc (.cells #[.int .u64 (wx : Int), .int .u64 (wy : Int), .int .u64 (ux : Int), .int .u64 (uy : Int), .int .u64 (dx : Int), .int .u64 (dy : Int)] 32)) := (bel_at (Below.refl _ _) (.cells #[.int .u64 (wx : Int), .int .u64 (wy : Int), .int .u64 (ux : Int), .int .u64 (uy : Int), .int .u64 (dx : Int), .int .u64 (dy : Int)] 32))
      generalize (w.alloc (.cells #[.int .u64 (wx : Int), .int .u64 (wy : Int), .int .u64 (ux : Int), .int .u64 (uy : Int), .int .u64 (dx : Int), .int .u64 (dy : Int)] 32)) = w1 at *
      (try clear k0c k0f k0z); have k0c := fun i => Blk.cell k0 i; have k0f := fun i => Blk.free k0 i; have k0z := Blk.lt k0
      unfold Hold
      go_wp2_with (first | ((with_reducible refine wpList_here ?_ ?_); (· exact Eq.refl true); first | ((with_reducible refine wpList_grow 4 ?_ ?_); (· exact Eq.refl true))) | ((with_reducible refine wp_region_any_here ?_ ?_); (· exact Eq.refl true); first | ((with_reducible refine wp_region_drawn 4 ?_ ?_ ?_ ?_); (· exact Eq.refl true); (· kernel_rfl); (· kernel_rfl)) | refine wp_region_grow (by kernel_rfl) (by kernel_rfl) ?_)); (try simp only [List.take_succ_cons, List.take_zero, List.drop_succ_cons, List.drop_zero]); (repeat (go_big_quiet_step ((first | (go_at_call 30; with_reducible exact grow_of (CD.out _)))))); (first | (refine wpQuiet_nil ?_; intro w' hb; replace hB := Below.trans hB (Below.mono hb (Below.size hB)); replace k0 := Blk.below k0 hb (Blk.lt k0); (try clear k0c k0f k0z); have k0c := fun i => Blk.cell k0 i; have k0f := fun i => Blk.free k0 i; have k0z := Blk.lt k0) | skip)
      all_goals (try (go_wp2_with (first | ((with_reducible refine wpList_here ?_ ?_); (· exact Eq.refl true); first | ((with_reducible refine wpList_grow 4 ?_ ?_); (· exact Eq.refl true))) | ((with_reducible refine wp_region_any_here ?_ ?_); (· exact Eq.refl true); first | ((with_reducible refine wp_region_drawn 4 ?_ ?_ ?_ ?_); (· exact Eq.refl true); (· kernel_rfl); (· kernel_rfl)) | refine wp_region_grow (by kernel_rfl) (by kernel_rfl) ?_)); (try simp only [List.take_succ_cons, List.take_zero, List.drop_succ_cons, List.drop_zero]); (repeat (go_big_quiet_step ((first | (go_at_call 30; with_reducible exact grow_of (CD.out _)))))); (first | (refine wpQuiet_nil ?_; intro w' hb; replace hB := Below.trans hB (Below.mono hb (Below.size hB)); replace k0 := Blk.below k0 hb (Blk.lt k0); (try clear k0c k0f k0z); have k0c := fun i => Blk.cell k0 i; have k0f := fun i => Blk.free k0 i; have k0z := Blk.lt k0) | skip)))
      go_ret
      exact ⟨rfl, hB⟩
    · simp only [if_neg h2]
      have q2 : decide (d < 0) = false := decide_eq_false h2
      go_enter Try.func29, Try.ntmps29
      go_wp2
      go_ret
      exact ⟨rfl, by simpa using bel_at (Below.refl _ _) _⟩
set_option maxRecDepth 20000 in
set_option maxHeartbeats 1000000 in
theorem sight_Beyond (s : Sgt) (f d : Int) (w : World) (hs : s.ok) (hf : -1000000 ≤ f ∧ f ≤ 1000000) (hd : I64 d) : Calls Try.prog 12 #[s.val, .int .i64 f, .int .i64 d] w fun e w' => e = .returned (.bool (beyB s f d)) ∧ Below w.heap.size w w' := by
  have cB := fun w => want_Beyond s.wx s.wy f d w hs.1.1 hs.1.2 hf hd
  obtain ⟨wx, wy, ux, uy, dx, dy⟩ := s
  unfold beyB
  unfold Sgt.val sv at *
  simp only at *
  generalize (beyX wx f d : Int) = r1 at *
  generalize (beyY wy f d : Int) = r2 at *
  have hq := run_set2 r1 r2 0 0
  have CB := Lib.hid cB
  clear cB hf hs hd
  generalize (r1 == 0 && r2 == 0) = rb at *
  go_enter Try.func12, Try.ntmps12
  go_wp2_with (first | ((with_reducible refine hold_list ?_ ?_); (· exact Eq.refl true)) | ((with_reducible refine hold_region ?_ ?_); (· exact Eq.refl true)) | (with_reducible refine hold_loop ?_))
  have k0 : Blk (w.alloc (.cells #[.int .u64 (wx : Int), .int .u64 (wy : Int), .int .u64 (ux : Int), .int .u64 (uy : Int), .int .u64 (dx : Int), .int .u64 (dy : Int)] 32)) (w.heap.size) 32 #[.int .u64 (wx : Int), .int .u64 (wy : Int), .int .u64 (ux : Int), .int .u64 (uy : Int), .int .u64 (dx : Int), .int .u64 (dy : Int)] := (blk_at (by simp))
  have hB : Below w.heap.size w (w.alloc (.cells #[.int .u64 (wx : Int), .int .u64 (wy : Int), .int .u64 (ux : Int), .int .u64 (uy : Int), .int .u64 (dx : Int), .int .u64 (dy : Int)] 32)) := (bel_at (Below.refl _ _) (.cells #[.int .u64 (wx : Int), .int .u64 (wy : Int), .int .u64 (ux : Int), .int .u64 (uy : Int), .int .u64 (dx : Int), .int .u64 (dy : Int)] 32))
  generalize (w.alloc (.cells #[.int .u64 (wx : Int), .int .u64 (wy : Int), .int .u64 (ux : Int), .int .u64 (uy : Int), .int .u64 (dx : Int), .int .u64 (dy : Int)] 32)) = w1 at *
  (try clear k0c k0f k0z); have k0c := fun i => Blk.cell k0 i; have k0f := fun i => Blk.free k0 i; have k0z := Blk.lt k0
  unfold Hold
  go_wp2_with (first | ((with_reducible refine wpList_here ?_ ?_); (· exact Eq.refl true); first | ((with_reducible refine wpList_grow 5 ?_ ?_); (· exact Eq.refl true))) | ((with_reducible refine wp_region_any_here ?_ ?_); (· exact Eq.refl true); first | ((with_reducible refine wp_region_drawn 5 ?_ ?_ ?_ ?_); (· exact Eq.refl true); (· kernel_rfl); (· kernel_rfl)) | refine wp_region_grow (by kernel_rfl) (by kernel_rfl) ?_)); (try simp only [List.take_succ_cons, List.take_zero, List.drop_succ_cons, List.drop_zero]); (repeat (go_big_quiet_step ((first | (go_at_call 33; with_reducible exact grow_of (CB.out _)))))); (first | (refine wpQuiet_nil ?_; intro w' hb; replace hB := Below.trans hB (Below.mono hb (Below.size hB)); replace k0 := Blk.below k0 hb (Blk.lt k0); (try clear k0c k0f k0z); have k0c := fun i => Blk.cell k0 i; have k0f := fun i => Blk.free k0 i; have k0z := Blk.lt k0) | skip)
  all_goals (try (go_wp2_with (first | ((with_reducible refine wpList_here ?_ ?_); (· exact Eq.refl true); first | ((with_reducible refine wpList_grow 5 ?_ ?_); (· exact Eq.refl true))) | ((with_reducible refine wp_region_any_here ?_ ?_); (· exact Eq.refl true); first | ((with_reducible refine wp_region_drawn 5 ?_ ?_ ?_ ?_); (· exact Eq.refl true); (· kernel_rfl); (· kernel_rfl)) | refine wp_region_grow (by kernel_rfl) (by kernel_rfl) ?_)); (try simp only [List.take_succ_cons, List.take_zero, List.drop_succ_cons, List.drop_zero]); (repeat (go_big_quiet_step ((first | (go_at_call 33; with_reducible exact grow_of (CB.out _)))))); (first | (refine wpQuiet_nil ?_; intro w' hb; replace hB := Below.trans hB (Below.mono hb (Below.size hB)); replace k0 := Blk.below k0 hb (Blk.lt k0); (try clear k0c k0f k0z); have k0c := fun i => Blk.cell k0 i; have k0f := fun i => Blk.free k0 i; have k0z := Blk.lt k0) | skip)))
  go_ret
  exact ⟨rfl, hB⟩
end Go.Proofs.Ytlcnhpjmmjmkcaa

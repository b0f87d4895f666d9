
/-
  hoistwaylaw34.Within of two sets: what it makes sure of. Condition: the number of floors fits.
-/
import Derived.Test.YtlcnhpjmmjmkcaaRef03f
import Derived.Test.YtlcnhpjmmjmkcaaEqSet
import Derived.Test.YtlcnhpjmmjmkcaaDataC
set_option linter.unusedVariables false
set_option linter.unusedSimpArgs false
namespace Go.Proofs.Ytlcnhpjmmjmkcaa
open Go.Joins Go.ChangeShapes Go.WideShapes Go.ChangeAt Go.RowKit Go.Deep

/-- All are below a number. -/
def inF (fl : Int) (x y : Nat) : Prop := ∀ n : Int, memB x y n = true → n < fl
def sameB (fl : Int) (x y : Nat) : Bool := ((mkX (rngF x y 0 fl) : Nat) : Int) == (x : Int) && ((mkY (rngF x y 0 fl) : Nat) : Int) == (y : Int)
theorem same_in {fl : Int} {x y : Nat} (h : sameB fl x y = true) : inF fl x y := by
  intro n hn
  unfold sameB at h
  simp only [Bool.and_eq_true, beq_iff_eq] at h
  have h1 : mkX (rngF x y 0 fl) = x := by omega
  have h2 : mkY (rngF x y 0 fl) = y := by omega
  by_cases ho : n < 0 ∨ 128 ≤ n
  · rw [mem_out ho] at hn; cases hn
  · have := mem_mk (rngF x y 0 fl) n (by omega) (by omega)
    rw [h1, h2, hn] at this
    unfold rngF at this
    have := this.symm
    simp only [Bool.and_eq_true, decide_eq_true_eq] at this
    omega
set_option maxRecDepth 20000 in
set_option maxHeartbeats 4000000 in
theorem within34 (s : Scen) (A : Option Addr) (C : Nat) (b : Nat) (x0 y0 x1 y1 : Nat) (w : World) (hf : I64 s.floors) (h0 : Wd x0) (h1 : Wd y0) (h2 : Wd x1) (h3 : Wd y1) (hk : Blk w b 29 #[.int .u64 (x0 : Int), .int .u64 (y0 : Int), .int .u64 (x1 : Int), .int .u64 (y1 : Int)]) :
    Calls Try.prog 35 #[s.val A C, .slice (some ⟨b, 0, none⟩) 2 2] w fun e w' => ∃ r, e = .returned (.bool r) ∧ (r = true → inF s.floors x0 y0 ∧ inF s.floors x1 y1) ∧ Below w.heap.size w w' := by
  have c0 := fun w => ref03_Range x0 y0 0 s.floors w h0 h1 (by unfold I64; omega) hf
  have c1 := fun w => ref03_Range x1 y1 0 s.floors w h2 h3 (by unfold I64; omega) hf
  have i0 := @same_in s.floors x0 y0
  have i1 := @same_in s.floors x1 y1
  have e0 := fun b (h : sameB s.floors x0 y0 = b) w => (run_set2 ((mkX (rngF x0 y0 0 s.floors) : Nat) : Int) ((mkY (rngF x0 y0 0 s.floors) : Nat) : Int) x0 y0 w).trans (by rw [← h]; rfl : _ = Result.ok b w)
  have e1 := fun b (h : sameB s.floors x1 y1 = b) w => (run_set2 ((mkX (rngF x1 y1 0 s.floors) : Nat) : Int) ((mkY (rngF x1 y1 0 s.floors) : Nat) : Int) x1 y1 w).trans (by rw [← h]; rfl : _ = Result.ok b w)
  obtain ⟨r0, hr0⟩ : ∃ r, sameB s.floors x0 y0 = r := ⟨_, rfl⟩
  obtain ⟨r1, hr1⟩ : ∃ r, sameB s.floors x1 y1 = r := ⟨_, rfl⟩
  have q0 := e0 r0 hr0
  have q1 := e1 r1 hr1
  rw [hr0] at i0
  rw [hr1] at i1
  have I0 := Lib.hid i0
  have I1 := Lib.hid i1
  clear e0 e1 hr0 hr1 i0 i1 h0 h1 h2 h3
  unfold sv at *
  obtain ⟨f0, f1, f2, f3, f4, f5, f6, f7, sg, f8, f9, f10, f11⟩ := s
  simp only at *
  generalize ((mkX (rngF x0 y0 0 f0) : Nat) : Int) = m0 at *
  generalize ((mkY (rngF x0 y0 0 f0) : Nat) : Int) = m1 at *
  generalize ((mkX (rngF x1 y1 0 f0) : Nat) : Int) = m2 at *
  generalize ((mkY (rngF x1 y1 0 f0) : Nat) : Int) = m3 at *
  have C0 := Lib.hid c0
  have C1 := Lib.hid c1
  clear c0 c1 hf
  have hall : r0 = false ∨ (r0 = true ∧ r1 = false) ∨ (r0 = true ∧ r1 = true) := by cases r0 <;> cases r1 <;> simp
  rcases hall with h | ⟨h, h'⟩ | ⟨h, h'⟩
  all_goals
    subst_vars
    go_enter Try.func35, Try.ntmps35
    go_wp2_with (first | ((with_reducible refine hold_list ?_ ?_); (· exact Eq.refl true)) | ((with_reducible refine hold_region ?_ ?_); (· exact Eq.refl true)) | (with_reducible refine hold_loop ?_))
    have k0 : Blk (w.alloc (.cells #[.int .i64 f0, .int .i64 f1, .int .i64 f2, .int .i64 f3, .int .i64 f4, .int .i64 f5, .int .i64 f6, .int .i64 f7, .slice A sg.length C, .int .i64 f8, .int .i64 f9, .int .i64 f10, .int .i64 f11] 42)) (w.heap.size) 42 #[.int .i64 f0, .int .i64 f1, .int .i64 f2, .int .i64 f3, .int .i64 f4, .int .i64 f5, .int .i64 f6, .int .i64 f7, .slice A sg.length C, .int .i64 f8, .int .i64 f9, .int .i64 f10, .int .i64 f11] := (blk_at (by simp))
    have hB : Below w.heap.size w (w.alloc (.cells #[.int .i64 f0, .int .i64 f1, .int .i64 f2, .int .i64 f3, .int .i64 f4, .int .i64 f5, .int .i64 f6, .int .i64 f7, .slice A sg.length C, .int .i64 f8, .int .i64 f9, .int .i64 f10, .int .i64 f11] 42)) := (bel_at (Below.refl _ _) (.cells #[.int .i64 f0, .int .i64 f1, .int .i64 f2, .int .i64 f3, .int .i64 f4, .int .i64 f5, .int .i64 f6, .int .i64 f7, .slice A sg.length C, .int .i64 f8, .int .i64 f9, .int .i64 f10, .int .i64 f11] 42))
    generalize (w.alloc (.cells #[.int .i64 f0, .int .i64 f1, .int .i64 f2, .int .i64 f3, .int .i64 f4, .int .i64 f5, .int .i64 f6, .int .i64 f7, .slice A sg.length C, .int .i64 f8, .int .i64 f9, .int .i64 f10, .int .i64 f11] 42)) = w1 at *
    (try clear k0c k0f k0z); have k0c := fun i => Blk.cell k0 i; have k0f := fun i => Blk.free k0 i; have k0z := Blk.lt k0
    have ks := hk.below hB hk.lt
    (try clear ksc ksf ksz); have ksc := fun i => Blk.cell ks i; have ksf := fun i => Blk.free ks i; have ksz := Blk.lt ks
    unfold Hold
    go_wp2_with (first | (with_reducible refine wp_loop_rounds 3 ?_) | (with_reducible refine rounds_in ?_) | (first | ((with_reducible refine wpList_here ?_ ?_); (· exact Eq.refl true); first | ((with_reducible refine wpList_grow 99 ?_ ?_); (· exact Eq.refl true))) | ((with_reducible refine wp_region_any_here ?_ ?_); (· exact Eq.refl true); first | ((with_reducible refine wp_region_drawn 99 ?_ ?_ ?_ ?_); (· exact Eq.refl true); (· kernel_rfl); (· kernel_rfl)) | refine wp_region_grow (by kernel_rfl) (by kernel_rfl) ?_)); (try simp only [List.take_succ_cons, List.take_zero, List.drop_succ_cons, List.drop_zero]); (repeat (go_big_quiet_step ((first | (go_at_call 51; with_reducible exact grow_of (C0.out _)) | (go_at_call 51; with_reducible exact grow_of (C1.out _)))))); (first | (refine wpQuiet_nil ?_; intro w' hb; replace hB := Below.trans hB (Below.mono hb (Below.size hB)); replace k0 := Blk.below k0 hb (Blk.lt k0); replace ks := Blk.below ks hb (Blk.lt ks); (try clear k0c k0f k0z); have k0c := fun i => Blk.cell k0 i; have k0f := fun i => Blk.free k0 i; have k0z := Blk.lt k0; (try clear ksc ksf ksz); have ksc := fun i => Blk.cell ks i; have ksf := fun i => Blk.free ks i; have ksz := Blk.lt ks) | skip))
    all_goals (try (go_wp2_with (first | (with_reducible refine wp_loop_rounds 3 ?_) | (with_reducible refine rounds_in ?_) | (first | ((with_reducible refine wpList_here ?_ ?_); (· exact Eq.refl true); first | ((with_reducible refine wpList_grow 99 ?_ ?_); (· exact Eq.refl true))) | ((with_reducible refine wp_region_any_here ?_ ?_); (· exact Eq.refl true); first | ((with_reducible refine wp_region_drawn 99 ?_ ?_ ?_ ?_); (· exact Eq.refl true); (· kernel_rfl); (· kernel_rfl)) | refine wp_region_grow (by kernel_rfl) (by kernel_rfl) ?_)); (try simp only [List.take_succ_cons, List.take_zero, List.drop_succ_cons, List.drop_zero]); (repeat (go_big_quiet_step ((first | (go_at_call 51; with_reducible exact grow_of (C0.out _)) | (go_at_call 51; with_reducible exact grow_of (C1.out _)))))); (first | (refine wpQuiet_nil ?_; intro w' hb; replace hB := Below.trans hB (Below.mono hb (Below.size hB)); replace k0 := Blk.below k0 hb (Blk.lt k0); replace ks := Blk.below ks hb (Blk.lt ks); (try clear k0c k0f k0z); have k0c := fun i => Blk.cell k0 i; have k0f := fun i => Blk.free k0 i; have k0z := Blk.lt k0; (try clear ksc ksf ksz); have ksc := fun i => Blk.cell ks i; have ksf := fun i => Blk.free ks i; have ksz := Blk.lt ks) | skip))))
    all_goals (try (go_wp2_with (first | (with_reducible refine wp_loop_rounds 3 ?_) | (with_reducible refine rounds_in ?_) | (first | ((with_reducible refine wpList_here ?_ ?_); (· exact Eq.refl true); first | ((with_reducible refine wpList_grow 99 ?_ ?_); (· exact Eq.refl true))) | ((with_reducible refine wp_region_any_here ?_ ?_); (· exact Eq.refl true); first | ((with_reducible refine wp_region_drawn 99 ?_ ?_ ?_ ?_); (· exact Eq.refl true); (· kernel_rfl); (· kernel_rfl)) | refine wp_region_grow (by kernel_rfl) (by kernel_rfl) ?_)); (try simp only [List.take_succ_cons, List.take_zero, List.drop_succ_cons, List.drop_zero]); (repeat (go_big_quiet_step ((first | (go_at_call 51; with_reducible exact grow_of (C0.out _)) | (go_at_call 51; with_reducible exact grow_of (C1.out _)))))); (first | (refine wpQuiet_nil ?_; intro w' hb; replace hB := Below.trans hB (Below.mono hb (Below.size hB)); replace k0 := Blk.below k0 hb (Blk.lt k0); replace ks := Blk.below ks hb (Blk.lt ks); (try clear k0c k0f k0z); have k0c := fun i => Blk.cell k0 i; have k0f := fun i => Blk.free k0 i; have k0z := Blk.lt k0; (try clear ksc ksf ksz); have ksc := fun i => Blk.cell ks i; have ksf := fun i => Blk.free ks i; have ksz := Blk.lt ks) | skip))))
    all_goals (try (go_wp2_with (first | (with_reducible refine wp_loop_rounds 3 ?_) | (with_reducible refine rounds_in ?_) | (first | ((with_reducible refine wpList_here ?_ ?_); (· exact Eq.refl true); first | ((with_reducible refine wpList_grow 99 ?_ ?_); (· exact Eq.refl true))) | ((with_reducible refine wp_region_any_here ?_ ?_); (· exact Eq.refl true); first | ((with_reducible refine wp_region_drawn 99 ?_ ?_ ?_ ?_); (· exact Eq.refl true); (· kernel_rfl); (· kernel_rfl)) | refine wp_region_grow (by kernel_rfl) (by kernel_rfl) ?_)); (try simp only [List.take_succ_cons, List.take_zero, List.drop_succ_cons, List.drop_zero]); (repeat (go_big_quiet_step ((first | (go_at_call 51; with_reducible exact grow_of (C0.out _)) | (go_at_call 51; with_reducible exact grow_of (C1.out _)))))); (first | (refine wpQuiet_nil ?_; intro w' hb; replace hB := Below.trans hB (Below.mono hb (Below.size hB)); replace k0 := Blk.below k0 hb (Blk.lt k0); replace ks := Blk.below ks hb (Blk.lt ks); (try clear k0c k0f k0z); have k0c := fun i => Blk.cell k0 i; have k0f := fun i => Blk.free k0 i; have k0z := Blk.lt k0; (try clear ksc ksf ksz); have ksc := fun i => Blk.cell ks i; have ksf := fun i => Blk.free ks i; have ksz := Blk.lt ks) | skip))))
    all_goals (try (go_wp2_with (first | (with_reducible refine wp_loop_rounds 3 ?_) | (with_reducible refine rounds_in ?_) | (first | ((with_reducible refine wpList_here ?_ ?_); (· exact Eq.refl true); first | ((with_reducible refine wpList_grow 99 ?_ ?_); (· exact Eq.refl true))) | ((with_reducible refine wp_region_any_here ?_ ?_); (· exact Eq.refl true); first | ((with_reducible refine wp_region_drawn 99 ?_ ?_ ?_ ?_); (· exact Eq.refl true); (· kernel_rfl); (· kernel_rfl)) | refine wp_region_grow (by kernel_rfl) (by kernel_rfl) ?_)); (try simp only [List.take_succ_cons, List.take_zero, List.drop_succ_cons, List.drop_zero]); (repeat (go_big_quiet_step ((first | (go_at_call 51; with_reducible exact grow_of (C0.out _)) | (go_at_call 51; with_reducible exact grow_of (C1.out _)))))); (first | (refine wpQuiet_nil ?_; intro w' hb; replace hB := Below.trans hB (Below.mono hb (Below.size hB)); replace k0 := Blk.below k0 hb (Blk.lt k0); replace ks := Blk.below ks hb (Blk.lt ks); (try clear k0c k0f k0z); have k0c := fun i => Blk.cell k0 i; have k0f := fun i => Blk.free k0 i; have k0z := Blk.lt k0; (try clear ksc ksf ksz); have ksc := fun i => Blk.cell ks i; have ksf := fun i => Blk.free ks i; have ksz := Blk.lt ks) | skip))))
    all_goals (try (go_wp2_with (first | (with_reducible refine wp_loop_rounds 3 ?_) | (with_reducible refine rounds_in ?_) | (first | ((with_reducible refine wpList_here ?_ ?_); (· exact Eq.refl true); first | ((with_reducible refine wpList_grow 99 ?_ ?_); (· exact Eq.refl true))) | ((with_reducible refine wp_region_any_here ?_ ?_); (· exact Eq.refl true); first | ((with_reducible refine wp_region_drawn 99 ?_ ?_ ?_ ?_); (· exact Eq.refl true); (· kernel_rfl); (· kernel_rfl)) | refine wp_region_grow (by kernel_rfl) (by kernel_rfl) ?_)); (try simp only [List.take_succ_cons, List.take_zero, List.drop_succ_cons, List.drop_zero]); (repeat (go_big_quiet_step ((first | (go_at_call 51; with_reducible exact grow_of (C0.out _)) | (go_at_call 51; with_reducible exact grow_of (C1.out _)))))); (first | (refine wpQuiet_nil ?_; intro w' hb; replace hB := Below.trans hB (Below.mono hb (Below.size hB)); replace k0 := Blk.below k0 hb (Blk.lt k0); replace ks := Blk.below ks hb (Blk.lt ks); (try clear k0c k0f k0z); have k0c := fun i => Blk.cell k0 i; have k0f := fun i => Blk.free k0 i; have k0z := Blk.lt k0; (try clear ksc ksf ksz); have ksc := fun i => Blk.cell ks i; have ksf := fun i => Blk.free ks i; have ksz := Blk.lt ks) | skip))))
    go_ret
    first
    | exact ⟨_, rfl, (fun h : false = true => nomatch h), hB⟩
    | exact ⟨_, rfl, (fun _ => ⟨I0.out (by trivial), I1.out (by trivial)⟩), hB⟩
end Go.Proofs.Ytlcnhpjmmjmkcaa


/-
  The statement GanttCounts, walked.
-/
import Derived.Test.YtnlieclfajebbaaAlive71
import Derived.Test.YtnlieclfajebbaaGantt2
import Derived.Test.YtnlieclfajebbaaGreat25
import Derived.Test.YtnlieclfajebbaaDataP
import Derived.Test.YtnlieclfajebbaaArg3
set_option linter.unusedVariables false
set_option linter.unusedSimpArgs false
namespace Go.Proofs.Ytnlieclfajebbaa
open Go.Joins Go.ChangeShapes Go.WideShapes Go.ChangeAt Go.RowKit Go.Deep

theorem run_arr3d (d : Nat) (a b c : Int) (w : World) : (Op.equalIn (d + 1 + 1) 38 (.agg #[.int .i64 a, .int .i64 b, .int .i64 c]) (.agg #[.int .i64 a, .int .i64 b, .int .i64 c])).run Try.prog w = .ok true w := by
  have hq : ∀ (x : Int) (w : World), (Op.equalIn (d + 1) 3 (.int .i64 x) (.int .i64 x)).run Try.prog w = .ok true w := fun x w => by
    rw [run_equalIn_int w d _ .i64 .i64 x x Try.underlying3]; simp
  have hz := Try.sizeOf3
  rw [Op.equalIn]
  simp only [Sem.run_bind, run_underlying Try.underlying38, Result.andThen_ok, hz]
  simp [Std.Legacy.Range.forIn_eq_forIn_range', Std.Legacy.Range.size, List.range', go_sem, hq]
theorem run_arr3 (a b c : Int) (w : World) : (Op.equalIn 10000 38 (.agg #[.int .i64 a, .int .i64 b, .int .i64 c]) (.agg #[.int .i64 a, .int .i64 b, .int .i64 c])).run Try.prog w = .ok true w := run_arr3d 9998 a b c w
set_option maxRecDepth 20000 in
set_option maxHeartbeats 8000000 in
theorem gantt_1 (A : Option Addr) (C : Nat) (ls : List Leg) (f t n0 n1 n2 : Int) (w : World) (hx : Legs w A ls) (hf1 : -9223372036854775808 ≤ f ∧ f ≤ 9223372036854775807) (ht1 : -9223372036854775808 ≤ t ∧ t ≤ 9223372036854775807) :
    Calls Try.prog 5 #[.slice A ls.length C, .agg #[.int .i64 f, .int .i64 t], .agg #[.int .i64 n0, .int .i64 n1, .int .i64 n2]] w fun e w' => e = .returned (.bool true) ∧ Below w.heap.size w w' := by
  have cG := fun w hx => great25 A C ls w hx
  have CG := Lib.hid cG
  have HX := Lib.hid hx
  clear hx cG
  go_enter Try.func5, Try.ntmps5
  go_wp2_with fail
  have hS := (Blk.new w 23 #[.int .i64 f, .int .i64 t]).alloc (.cells #[.int .i64 n0, .int .i64 n1, .int .i64 n2] 38)
  have hN := Blk.new (w.alloc (.cells #[.int .i64 f, .int .i64 t] 23)) 38 #[.int .i64 n0, .int .i64 n1, .int .i64 n2]
  have hB := Joins.below_alloc2 w (.cells #[.int .i64 f, .int .i64 t] 23) (.cells #[.int .i64 n0, .int .i64 n1, .int .i64 n2] 38)
  simp only [alloc_size] at hN
  generalize ((w.alloc (.cells #[.int .i64 f, .int .i64 t] 23)).alloc (.cells #[.int .i64 n0, .int .i64 n1, .int .i64 n2] 38)) = w1 at *
  refine (CG.out _ (HX.out.below hB)).mono ?_
  rintro e w2 ⟨g, rfl, hf, hb2⟩
  have hB2 := hB.trans (hb2.mono hB.size)
  have hS2 := hS.below hb2 hS.lt
  have hN2 := hN.below hb2 hN.lt
  have s0 : w2.cell? ⟨w.heap.size, 0, none⟩ = some (.int .i64 f) := hS2.cell 0
  have s1 : w2.cell? ⟨w.heap.size, 1, none⟩ = some (.int .i64 t) := hS2.cell 1
  clear hB hb2 hS hN CG
  cases g
  · have hf := hf rfl
    by_cases hu : -1048576 ≤ f ∧ f ≤ 1048576 ∧ -1048576 ≤ t ∧ t ≤ f + 300
    · obtain ⟨f0, f1, t0, t1⟩ := hu
      have cC := fun w hx => gantt_Count A C ls f t w hx hf f0 f1 t0 t1
      have cD := fun w hx => law71_count A C ls f t w hx hf f0 f1 t0 t1
      have CC := Lib.hid cC
      have CD := Lib.hid cD
      clear cC cD hf
      go_wp2_with fail
      refine (CC.out _ (HX.out.below hB2)).mono ?_
      rintro e w3 ⟨rfl, hb3⟩
      have hB3 := hB2.trans (hb3.mono hB2.size)
      have hS3 := hS2.below hb3 hS2.lt
      have hN3 := hN2.below hb3 hN2.lt
      have cD : ∀ g : Grow w3, _ := fun g => CD.out g.world ((HX.out.below hB3).below (Grow.below g))
      generalize sumG (gU ls) f (t - f).toNat = x0 at *
      generalize sumG (gD ls) f (t - f).toNat = x1 at *
      generalize sumG (gO ls) f (t - f).toNat = x2 at *
      have z0 : w3.cell? ⟨w.heap.size, 0, none⟩ = some (.int .i64 f) := hS3.cell 0
      have z1 : w3.cell? ⟨w.heap.size, 1, none⟩ = some (.int .i64 t) := hS3.cell 1
      have y0 : w3.cell? ⟨w.heap.size + 1, 0, none⟩ = some (.int .i64 n0) := hN3.cell 0
      have y1 : w3.cell? ⟨w.heap.size + 1, 1, none⟩ = some (.int .i64 n1) := hN3.cell 1
      have y2 : w3.cell? ⟨w.heap.size + 1, 2, none⟩ = some (.int .i64 n2) := hN3.cell 2
      have l0 : w.heap.size < w3.heap.size := hS3.lt
      have l1 : w.heap.size + 1 < w3.heap.size := hN3.lt
      have cM : ∀ w, Calls Try.prog 25 #[.int .i64 n0, .int .i64 n1, .int .i64 n2] w fun e w' => e = .returned (.int .u8 ((mk n0 n1 n2).toNat : Int)) ∧ w = w' := fun w => (gantt_Mark n0 n1 n2 w).mono fun _ _ h => ⟨h.1, h.2.symm⟩
      have cK : ∀ w, Calls Try.prog 26 #[.int .i64 n0, .int .i64 n1, .int .i64 n2] w fun e w' => e = .returned (.int .u8 ((mk n0 n1 n2).toNat : Int)) ∧ w = w' := fun w => (law71_mark n0 n1 n2 w).mono fun _ _ h => ⟨h.1, h.2.symm⟩
      generalize ((mk n0 n1 n2).toNat : Int) = m at *
      have CD2 := Lib.hid cD
      have CM := Lib.hid cM
      have CK := Lib.hid cK
      have r3 := fun w => run_arr3 x0 x1 x2 w
      have e1 : (m == m) = true := by simp
      clear CC CD cD cM cK s0 s1 hS2 hN2 hb3
      go_wp2
      refine wp_region_grow (by kernel_rfl) (by kernel_rfl) ?_
      repeat (go_big_quiet_step ((first | (go_at_call 24; with_reducible exact grow_of (CD2.out _)) | (go_at_call 25; with_reducible exact grow_same (CM.out _)) | (go_at_call 26; with_reducible exact grow_same (CK.out _)) | (go_at_call 27; with_reducible exact grow_of (alive71 _)))))
      refine wpQuiet_nil ?_
      intro w5 hb5
      go_wp2
      go_ret
      exact ⟨rfl, hB3.trans (hb5.mono hB3.size)⟩
    · have hu2 : f < -1048576 ∨ (-1048576 ≤ f ∧ 1048576 < f) ∨ (-1048576 ≤ f ∧ f ≤ 1048576 ∧ t < -1048576) ∨ (-1048576 ≤ f ∧ f ≤ 1048576 ∧ -1048576 ≤ t ∧ f + 300 < t) := by omega
      clear hu hf
      rcases hu2 with hu | ⟨hu, hu2⟩ | ⟨hu, hu2, hu3⟩ | ⟨hu, hu2, hu3, hu4⟩
      all_goals
        go_wp2
        go_ret
        exact ⟨rfl, hB2⟩
  · go_wp2
    go_ret
    exact ⟨rfl, hB2⟩

set_option maxRecDepth 100000 in
theorem walkGanttCounts {H : Type} (W : World) (base : Nat) (enc : TypeId × Value → H) {v0 : Value} {d0 : DataW H} {p0 : List MemPlace} {v1 : Value} {d1 : DataW H} {p1 : List MemPlace} {v2 : Value} {d2 : DataW H} {p2 : List MemPlace}
    (h0 : DataW.Trod enc Try.prog W 0 (fun _ => true) true 37 v0 d0 p0) (h1 : DataW.Trod enc Try.prog W 0 (fun _ => true) true 23 v1 d1 p1) (h2 : DataW.Trod enc Try.prog W 0 (fun _ => true) true 38 v2 d2 p2)
    (o0 : Value.okWide Try.prog W .any base 37 v0) (o1 : Value.okWide Try.prog W .any base 23 v1) (o2 : Value.okWide Try.prog W .any base 38 v2) :
    Calls Try.prog 5 #[v0, v1, v2] W fun e W' => e = .returned (.bool true) ∧ Below W.heap.size W W' := by
  obtain ⟨n, hn⟩ := arg_slice Try.underlying37 o0 h0
  obtain ⟨xs, hxs⟩ := read_slice (size := 4) Try.underlying37 (by kernel_rfl) (by decide) (fun _ _ _ h => read_Leg h) hn
  obtain ⟨A, C, rfl, _, _⟩ := slice_len hxs
  obtain ⟨cs, rfl, m, hm⟩ := arg_agg (.inl ⟨_, Try.underlying23⟩) o1 h1
  obtain ⟨s, rfl, hs1, hs2⟩ := read_Span hm
  obtain ⟨a, b, c, rfl, _, _, _⟩ := arg_arr3 Try.underlying38 Try.underlying3 (by kernel_rfl) (by kernel_rfl) o2 h2
  exact gantt_1 A C xs s.from_ s.dest a b c W (elems_of (ok := fun _ => True) (fun _ _ _ h => h.1) hxs) hs1 hs2
end Go.Proofs.Ytnlieclfajebbaa

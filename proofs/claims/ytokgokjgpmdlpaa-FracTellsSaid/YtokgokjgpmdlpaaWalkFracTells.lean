/-
  The statement FracTells, walked.
-/
import Derived.Test.YtokgokjgpmdlpaaFrac2
import Derived.Test.YtokgokjgpmdlpaaFrac3
import Derived.Test.YtokgokjgpmdlpaaArgA
set_option linter.unusedVariables false
set_option linter.unusedSimpArgs false
namespace Go.Proofs.Ytokgokjgpmdlpaa
open Go.Joins Go.ChangeShapes Go.WideShapes Go.ChangeAt Go.RowKit Go.Deep

set_option maxRecDepth 20000 in
set_option maxHeartbeats 1000000 in
theorem tells_1 (n b : Int) (f : Frac) (w : World) (hn : I64 n) (hb : I64 b) (hk : f.ok) :
    Calls Try.prog 5 #[.int .i64 n, .int .i64 b, f.val] w fun e w' => e = .returned (.bool true) ∧ Below w.heap.size w w' := by
  have cO := fun w => frac_Of n b w hn hb
  have cR := fun w => frac_Right f w
  have cQ := fun w => ref08_Right f w
  have cL := fun w => frac_Least f w hk
  have cM := fun w => ref08_Least f w hk
  generalize leastF f = l at *
  generalize rightF f = r at *
  obtain ⟨x, y, z⟩ := f
  obtain ⟨u, v, t⟩ := l
  have e1 : (r == r) = true := by simp
  have e2 : (u == u) = true := by simp
  have e3 : (v == v) = true := by simp
  have e4 : (t == t) = true := by simp
  have CR := Lib.hid cR
  have CQ := Lib.hid cQ
  have CL := Lib.hid cL
  have CM := Lib.hid cM
  clear cR cQ cL cM hk
  unfold I64 at hn hb
  by_cases h : n < 0 ∨ b < 0
  · have h1 : ofF n b = ⟨0, 0, 0⟩ := by unfold ofF; rw [if_pos (by omega)]
    have h2 : ofE n b = 22 := by unfold ofE; rw [if_pos h]
    rw [h1, h2] at cO
    have CO := Lib.hid cO
    clear cO h1 h2
    have hc : n < 0 ∨ (0 ≤ n ∧ b < 0) := by omega
    clear h
    rcases hc with hc | ⟨hc, hd⟩
    all_goals
      go_enter Try.func5, Try.ntmps5
      go_wp2_with fail
      obtain ⟨hBw1, hcw1, hzw1⟩ := box w 41 #[.int .i64 x, .int .i64 y, .int .i64 z]
      change Calls _ _ _ (w.alloc (.cells #[.int .i64 x, .int .i64 y, .int .i64 z] 41)) _
      generalize (w.alloc (.cells #[.int .i64 x, .int .i64 y, .int .i64 z] 41)) = w1 at *
      refine (CO.out _).mono ?_
      rintro e w2 ⟨rfl, hb2⟩
      have hq2 : ∀ i, w2.cell? ⟨w.heap.size, i, none⟩ = (#[.int .i64 x, .int .i64 y, .int .i64 z] : Array Value)[i]? := fun i => (hb2.cell (p := ⟨w.heap.size, i, none⟩) (by show w.heap.size < w1.heap.size; omega)).trans (hcw1 i)
      have hfin2 : Below w.heap.size w w2 := hBw1.trans (hb2.mono hBw1.size)
      have hlt2 : w.heap.size < w2.heap.size := by have := hb2.size; omega
      clear hcw1 hb2
      go_wp2
      refine wp_region_grow (by kernel_rfl) (by kernel_rfl) ?_
      repeat (go_big_quiet_step ((first | (go_at_call 31; with_reducible exact grow_of (CR.out _)) | (go_at_call 32; with_reducible exact grow_of (CQ.out _)) | (go_at_call 33; with_reducible exact grow_of (CL.out _)) | (go_at_call 34; with_reducible exact grow_of (CM.out _)) | (go_at_call 35; with_reducible exact grow_of (alive08 _)))))
      refine wpQuiet_nil ?_
      intro w3 hb3
      go_wp2
      go_ret
      exact ⟨rfl, below_box hfin2 hb3⟩
  · by_cases hz : b = 0
    · have h1 : ofF n b = ⟨0, 0, 0⟩ := by unfold ofF; rw [if_pos (by omega)]
      have h2 : ofE n b = 11 := by unfold ofE; rw [if_neg h, if_pos hz]
      rw [h1, h2] at cO
      subst hz
      have CO := Lib.hid cO
      have hc : 0 ≤ n := by omega
      clear cO h1 h2 h
      go_enter Try.func5, Try.ntmps5
      go_wp2_with fail
      obtain ⟨hBw1, hcw1, hzw1⟩ := box w 41 #[.int .i64 x, .int .i64 y, .int .i64 z]
      change Calls _ _ _ (w.alloc (.cells #[.int .i64 x, .int .i64 y, .int .i64 z] 41)) _
      generalize (w.alloc (.cells #[.int .i64 x, .int .i64 y, .int .i64 z] 41)) = w1 at *
      refine (CO.out _).mono ?_
      rintro e w2 ⟨rfl, hb2⟩
      have hq2 : ∀ i, w2.cell? ⟨w.heap.size, i, none⟩ = (#[.int .i64 x, .int .i64 y, .int .i64 z] : Array Value)[i]? := fun i => (hb2.cell (p := ⟨w.heap.size, i, none⟩) (by show w.heap.size < w1.heap.size; omega)).trans (hcw1 i)
      have hfin2 : Below w.heap.size w w2 := hBw1.trans (hb2.mono hBw1.size)
      have hlt2 : w.heap.size < w2.heap.size := by have := hb2.size; omega
      clear hcw1 hb2
      go_wp2
      refine wp_region_grow (by kernel_rfl) (by kernel_rfl) ?_
      repeat (go_big_quiet_step ((first | (go_at_call 31; with_reducible exact grow_of (CR.out _)) | (go_at_call 32; with_reducible exact grow_of (CQ.out _)) | (go_at_call 33; with_reducible exact grow_of (CL.out _)) | (go_at_call 34; with_reducible exact grow_of (CM.out _)) | (go_at_call 35; with_reducible exact grow_of (alive08 _)))))
      refine wpQuiet_nil ?_
      intro w3 hb3
      go_wp2
      go_ret
      exact ⟨rfl, below_box hfin2 hb3⟩
    · have h1 : ofF n b = ⟨n / b, n % b, b⟩ := by unfold ofF; rw [if_neg (by omega)]
      have h2 : ofE n b = 0 := by unfold ofE; rw [if_neg h, if_neg hz]
      rw [h1, h2] at cO
      have CO := Lib.hid cO
      have hc : 0 ≤ n := by omega
      have hd : 1 ≤ b := by omega
      have hzb : (b == 0) = false := by simp [hz]
      have q1 : 0 ≤ n / b := Int.ediv_nonneg hc (by omega)
      have q2 : n / b ≤ n := Int.ediv_le_self _ hc
      have q3 : 0 ≤ n % b := Int.emod_nonneg _ hz
      have q4 : n % b < b := Int.emod_lt_of_pos _ (by omega)
      have q5 : n / b * b + n % b = n := by rw [Int.mul_comm]; exact Int.mul_ediv_add_emod n b
      have q6 : n / b * b = n - n % b := by omega
      have q7 : 0 ≤ n / b * b := Int.mul_nonneg q1 (by omega)
      have k1 : IntKind.i64.wrap (n / b * b) = n / b * b := IntWalk.i64_in _ (by omega)
      have k2 : IntKind.i64.wrap (n / b * b + n % b) = n := by rw [q5]; exact IntWalk.i64_in _ (by omega)
      have K1 := Lib.hid k1
      have K2 := Lib.hid k2
      clear cO h1 h2 h hz q5 q6 q7 k1 k2
      go_enter Try.func5, Try.ntmps5
      go_wp2_with fail
      obtain ⟨hBw1, hcw1, hzw1⟩ := box w 41 #[.int .i64 x, .int .i64 y, .int .i64 z]
      change Calls _ _ _ (w.alloc (.cells #[.int .i64 x, .int .i64 y, .int .i64 z] 41)) _
      generalize (w.alloc (.cells #[.int .i64 x, .int .i64 y, .int .i64 z] 41)) = w1 at *
      refine (CO.out _).mono ?_
      rintro e w2 ⟨rfl, hb2⟩
      have hq2 : ∀ i, w2.cell? ⟨w.heap.size, i, none⟩ = (#[.int .i64 x, .int .i64 y, .int .i64 z] : Array Value)[i]? := fun i => (hb2.cell (p := ⟨w.heap.size, i, none⟩) (by show w.heap.size < w1.heap.size; omega)).trans (hcw1 i)
      have hfin2 : Below w.heap.size w w2 := hBw1.trans (hb2.mono hBw1.size)
      have hlt2 : w.heap.size < w2.heap.size := by have := hb2.size; omega
      clear hcw1 hb2
      go_wp2
      have k1 := K1.out
      have k2 := K2.out
      have i1 : (b != b) = false := by simp
      have i2 : decide (n % b < 0) = false := by simp; omega
      have i3 : decide (b ≤ n % b) = false := by simp; omega
      have i4 : (n / b != n / b) = false := by simp
      have i5 : (n != n) = false := by simp
      go_quiet (fail)
      clear k1 k2 i1 i2 i3 i4 i5 K1 K2
      go_wp2
      refine wp_region_grow (by kernel_rfl) (by kernel_rfl) ?_
      repeat (go_big_quiet_step ((first | (go_at_call 31; with_reducible exact grow_of (CR.out _)) | (go_at_call 32; with_reducible exact grow_of (CQ.out _)) | (go_at_call 33; with_reducible exact grow_of (CL.out _)) | (go_at_call 34; with_reducible exact grow_of (CM.out _)) | (go_at_call 35; with_reducible exact grow_of (alive08 _)))))
      refine wpQuiet_nil ?_
      intro w3 hb3
      go_wp2
      go_ret
      exact ⟨rfl, below_boxd hfin2 hb3⟩

set_option maxRecDepth 100000 in
theorem walkFracTells {H : Type} (W : World) (base : Nat) (enc : TypeId × Value → H) {v0 : Value} {d0 : DataW H} {p0 : List MemPlace} {v1 : Value} {d1 : DataW H} {p1 : List MemPlace} {v2 : Value} {d2 : DataW H} {p2 : List MemPlace}
    (h0 : DataW.Trod enc Try.prog W 0 (fun _ => true) true 3 v0 d0 p0) (h1 : DataW.Trod enc Try.prog W 0 (fun _ => true) true 3 v1 d1 p1) (h2 : DataW.Trod enc Try.prog W 0 (fun _ => true) true 41 v2 d2 p2)
    (o0 : Value.okWide Try.prog W .any base 3 v0) (o1 : Value.okWide Try.prog W .any base 3 v1) (o2 : Value.okWide Try.prog W .any base 41 v2) :
    Calls Try.prog 5 #[v0, v1, v2] W fun e W' => e = .returned (.bool true) ∧ Below W.heap.size W W' := by
  obtain ⟨n, rfl, a0, a1⟩ := arg_int o0 h0
  obtain ⟨b, rfl, b0, b1⟩ := arg_int o1 h1
  obtain ⟨cs, rfl, m, hm⟩ := arg_agg (.inl ⟨_, Try.underlying41⟩) o2 h2
  obtain ⟨f, rfl, hk⟩ := read_Frac hm
  exact tells_1 n b f W ⟨a0, a1⟩ ⟨b0, b1⟩ hk
end Go.Proofs.Ytokgokjgpmdlpaa


/-
  The statement ClockTexts, walked.
-/
import Derived.Test.YtnlieclfajebbaaClockR
import Derived.Test.YtnlieclfajebbaaDataP
import Derived.Test.YtnlieclfajebbaaArgA
set_option linter.unusedVariables false
set_option linter.unusedSimpArgs false
namespace Go.Proofs.Ytnlieclfajebbaa
open Go.Joins Go.ChangeShapes Go.WideShapes Go.ChangeAt Go.RowKit Go.Deep

theorem clkI_size (a : Int) : (txt (clkI a)).size ≤ 30 := by
  unfold clkI
  split
  · have := clkN_size (if a = -9223372036854775808 then 9223372036854775807 else a.natAbs)
    rw [txt_size] at *
    simp only [List.length_cons]
    omega
  · have := clkN_size a.toNat
    omega
set_option maxRecDepth 20000 in
set_option maxHeartbeats 2000000 in
theorem clock_Span (f t : Int) (w : World) (hf : I64 f) (ht : I64 t) : Calls Try.prog 17 #[.agg #[.int .i64 f, .int .i64 t]] w fun e w' => e = .returned (.string (txt (clkI f) ++ ⟨#[45]⟩ ++ txt (clkI t))) ∧ Below w.heap.size w w' := by
  have cF := fun w => clock_Text f w hf
  have cT := fun w => clock_Text t w ht
  have s1 := clkI_size f
  have s2 := clkI_size t
  have CF := Lib.hid cF
  have CT := Lib.hid cT
  clear cF cT hf ht
  generalize txt (clkI f) = b1 at *
  generalize txt (clkI t) = b2 at *
  go_enter Try.func17, Try.ntmps17
  go_wp2_with fail
  obtain ⟨hBw1, hcw1, hzw1⟩ := box w 23 #[.int .i64 f, .int .i64 t]
  change Code.wp _ _ _ _ (w.alloc (.cells #[.int .i64 f, .int .i64 t] 23))
  generalize (w.alloc (.cells #[.int .i64 f, .int .i64 t] 23)) = w1 at *
  refine wp_region_grow (by kernel_rfl) (by kernel_rfl) ?_
  repeat (go_big_quiet_step ((first | (go_at_call 15; with_reducible exact grow_of (CF.out _)) | (go_at_call 15; with_reducible exact grow_of (CT.out _)))))
  refine wpQuiet_nil ?_
  intro w5 hb5
  go_wp2
  go_ret
  exact ⟨rfl, hBw1.trans (hb5.mono hBw1.size)⟩
set_option maxRecDepth 20000 in
set_option maxHeartbeats 4000000 in
theorem clock_1 (a f t : Int) (w : World) (ha : I64 a) (hf : I64 f) (ht : I64 t) : Calls Try.prog 3 #[.int .i64 a, .agg #[.int .i64 f, .int .i64 t]] w fun e w' => e = .returned (.bool true) ∧ Below w.heap.size w w' := by
  have cA := fun w => clock_Text a w ha
  have cS := fun w => clock_Span f t w hf ht
  have cR := fun w => ref52_Text a w ha
  have cF := fun w => ref52_Text f w hf
  have cT := fun w => ref52_Text t w ht
  have s1 := clkI_size f
  have s2 := clkI_size t
  have CA := Lib.hid cA
  have CS := Lib.hid cS
  have CR := Lib.hid cR
  have CF := Lib.hid cF
  have CT := Lib.hid cT
  clear cA cS cR cF cT hf ht ha
  generalize txt (clkI a) = b0 at *
  generalize txt (clkI f) = b1 at *
  generalize txt (clkI t) = b2 at *
  have e1 : (b0.toList == b0.toList) = true := by simp
  have e2 : ((b1 ++ ⟨#[45]⟩ ++ b2).toList == (b1 ++ ⟨#[45]⟩ ++ b2).toList) = true := by simp
  go_enter Try.func3, Try.ntmps3
  go_wp2_with fail
  obtain ⟨hBw1, hcw1, hzw1⟩ := box w 23 #[.int .i64 f, .int .i64 t]
  change Code.wp _ _ _ _ (w.alloc (.cells #[.int .i64 f, .int .i64 t] 23))
  generalize (w.alloc (.cells #[.int .i64 f, .int .i64 t] 23)) = w1 at *
  refine wp_region_grow (by kernel_rfl) (by kernel_rfl) ?_
  repeat (go_big_quiet_step ((first | (go_at_call 15; with_reducible exact grow_of (CA.out _)) | (go_at_call 16; with_reducible exact grow_of (CR.out _)) | (go_at_call 17; with_reducible exact grow_of (CS.out _)) | (go_at_call 16; with_reducible exact grow_of (CF.out _)) | (go_at_call 16; with_reducible exact grow_of (CT.out _)) | (go_at_call 18; with_reducible exact grow_of (alive52 _)))))
  refine wpQuiet_nil ?_
  intro w5 hb5
  go_wp2
  go_ret
  exact ⟨rfl, hBw1.trans (hb5.mono hBw1.size)⟩

set_option maxRecDepth 100000 in
theorem walkClockTexts {H : Type} (W : World) (base : Nat) (enc : TypeId × Value → H) {v0 : Value} {d0 : DataW H} {p0 : List MemPlace} {v1 : Value} {d1 : DataW H} {p1 : List MemPlace}
    (h0 : DataW.Trod enc Try.prog W 0 (fun _ => true) true 2 v0 d0 p0) (h1 : DataW.Trod enc Try.prog W 0 (fun _ => true) true 23 v1 d1 p1)
    (o0 : Value.okWide Try.prog W .any base 2 v0) (o1 : Value.okWide Try.prog W .any base 23 v1) :
    Calls Try.prog 3 #[v0, v1] W fun e W' => e = .returned (.bool true) ∧ Below W.heap.size W W' := by
  obtain ⟨a, rfl, a0, a1⟩ := arg_int64 o0 h0
  obtain ⟨cs, rfl, m, hm⟩ := arg_agg (.inl ⟨_, Try.underlying23⟩) o1 h1
  obtain ⟨s, rfl, hs1, hs2⟩ := read_Span hm
  exact clock_1 a s.from_ s.dest W ⟨a0, a1⟩ hs1 hs2
end Go.Proofs.Ytnlieclfajebbaa

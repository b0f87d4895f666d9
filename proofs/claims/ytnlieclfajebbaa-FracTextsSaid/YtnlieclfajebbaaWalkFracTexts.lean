
/-
  FracTexts walked: any quotient as a text and in hundredths. Conditions: none beyond the arguments' kinds.
-/
import Derived.Test.YtnlieclfajebbaaFrac6
import Derived.Test.YtnlieclfajebbaaArgA
set_option linter.unusedVariables false
set_option linter.unusedSimpArgs false
namespace Go.Proofs.Ytnlieclfajebbaa
open Go.Joins Go.ChangeShapes Go.WideShapes Go.ChangeAt Go.RowKit Go.Deep

theorem below_end {w w1 w2 : World} (h : Below w.heap.size w w1) (h2 : Below w1.heap.size w1 w2) : Below w.heap.size w w2 := h.trans (h2.mono h.size)
set_option maxRecDepth 20000 in
set_option maxHeartbeats 4000000 in
theorem texts_1 (f : Frac) (w : World) (hk : f.ok) : Calls Try.prog 12 #[f.val] w fun e w' => e = .returned (.bool true) ∧ Below w.heap.size w w' := by
  have cH := fun w => frac_Hundredths f w hk
  have cR := fun w => ref08_Hundredths f w hk
  have cT := fun w => frac_Text f w hk
  have cU := fun w => ref08_Text f w hk
  have CH := Lib.hid cH
  have CR := Lib.hid cR
  have CT := Lib.hid cT
  have CU := Lib.hid cU
  clear cH cR cT cU hk
  generalize txt (txtF f) = b0 at *
  generalize hunV f = n at *
  generalize hunE f = m at *
  obtain ⟨x, y, z⟩ := f
  have e1 : (b0.toList == b0.toList) = true := by simp
  have e2 : (n == n) = true := by simp
  have e3 : (m == m) = true := by simp
  go_enter Try.func12, Try.ntmps12
  go_wp2_with fail
  obtain ⟨hBw1, hcw1, hzw1⟩ := box w 32 #[.int .i64 x, .int .i64 y, .int .i64 z]
  change Calls _ _ _ (w.alloc (.cells #[.int .i64 x, .int .i64 y, .int .i64 z] 32)) _
  generalize (w.alloc (.cells #[.int .i64 x, .int .i64 y, .int .i64 z] 32)) = w1 at *
  refine (CH.out _).mono ?_
  rintro e w2 ⟨rfl, hb2⟩
  have hq2 : ∀ i, w2.cell? ⟨w.heap.size, i, none⟩ = (#[.int .i64 x, .int .i64 y, .int .i64 z] : Array Value)[i]? := fun i => (hb2.cell (p := ⟨w.heap.size, i, none⟩) (by show w.heap.size < w1.heap.size; omega)).trans (hcw1 i)
  have hfin2 : Below w.heap.size w w2 := hBw1.trans (hb2.mono hBw1.size)
  have hlt2 : w.heap.size < w2.heap.size := by have := hb2.size; omega
  clear hcw1 hb2
  go_wp2_with fail
  refine (CR.out _).mono ?_
  rintro e w3 ⟨rfl, hb3⟩
  have hq3 : ∀ i, w3.cell? ⟨w.heap.size, i, none⟩ = (#[.int .i64 x, .int .i64 y, .int .i64 z] : Array Value)[i]? := fun i => (hb3.cell (p := ⟨w.heap.size, i, none⟩) hlt2).trans (hq2 i)
  have hfin3 : Below w.heap.size w w3 := below_end hfin2 hb3
  have hlt3 : w.heap.size < w3.heap.size := by have := hb3.size; omega
  clear hq2 hb3
  go_wp2
  refine wp_region_grow (by kernel_rfl) (by kernel_rfl) ?_
  repeat (go_big_quiet_step ((first | (go_at_call 51; with_reducible exact grow_of (CT.out _)) | (go_at_call 52; with_reducible exact grow_of (CU.out _)) | (go_at_call 21; with_reducible exact grow_of (alive08 _)))))
  refine wpQuiet_nil ?_
  intro w5 hb5
  go_wp2
  go_ret
  exact ⟨rfl, below_end hfin3 hb5⟩

set_option maxRecDepth 100000 in
theorem walkFracTexts {H : Type} (W : World) (base : Nat) (enc : TypeId × Value → H) {v0 : Value} {d0 : DataW H} {p0 : List MemPlace}
    (h0 : DataW.Trod enc Try.prog W 0 (fun _ => true) true 32 v0 d0 p0)
    (o0 : Value.okWide Try.prog W .any base 32 v0) :
    Calls Try.prog 12 #[v0] W fun e W' => e = .returned (.bool true) ∧ Below W.heap.size W W' := by
  obtain ⟨cs, rfl, m, hm⟩ := arg_agg (.inl ⟨_, Try.underlying32⟩) o0 h0
  obtain ⟨f, rfl, hk⟩ := read_Frac hm
  exact texts_1 f W hk
end Go.Proofs.Ytnlieclfajebbaa

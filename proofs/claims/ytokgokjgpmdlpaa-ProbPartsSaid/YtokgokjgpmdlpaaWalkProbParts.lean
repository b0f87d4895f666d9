/-
  The law ProbParts, walked: it returns true, and nothing that was there turns.
-/
import Derived.Test.YtokgokjgpmdlpaaProb3
import Derived.Test.YtokgokjgpmdlpaaArgA
set_option linter.unusedVariables false
set_option linter.unusedSimpArgs false
namespace Go.Proofs.Ytokgokjgpmdlpaa
open Go.Joins Go.ChangeShapes Go.WideShapes Go.ChangeAt Go.RowKit Go.Deep

set_option maxRecDepth 20000 in
set_option maxHeartbeats 1000000 in
theorem parts_1 (a b x y : Int) (w : World) (ha : U64 a) (hb : U64 b) : Calls Try.prog 4 #[.int .u64 a, .int .u64 b, .agg #[.int .i64 x, .int .i64 y]] w fun e W' => e = .returned (.bool true) ∧ Below w.heap.size w W' := by
  have HA := Lib.hid ha
  have HB := Lib.hid hb
  clear ha hb
  have e1 : (timesV a b == timesV a b) = true := by simp
  have e2 : (powP a (cntP x) == powP a (cntP x)) = true := by simp
  have e3 : (partV x y == partV x y) = true := by simp
  have e4 : (partE x y == partE x y) = true := by simp
  go_enter Try.func4, Try.ntmps4
  go_wp2_with fail
  obtain ⟨hBw1, hcw1, hzw1⟩ := box w 32 #[.int .i64 x, .int .i64 y]
  change Calls _ _ _ (w.alloc (.cells #[.int .i64 x, .int .i64 y] 32)) _
  generalize (w.alloc (.cells #[.int .i64 x, .int .i64 y] 32)) = w1 at *
  have z0 : w1.cell? ⟨w.heap.size, 0, none⟩ = some (.int .i64 x) := hcw1 0
  have z1 : w1.cell? ⟨w.heap.size, 1, none⟩ = some (.int .i64 y) := hcw1 1
  refine (prob_Part _ _ _).mono ?_
  rintro e w' ⟨rfl, rfl⟩
  go_wp2_with (first | (go_at_call 23; refine (prob_Part _ _ _).mono ?_; rintro e w' ⟨rfl, rfl⟩) | (go_at_call 24; refine (ref56_Part _ _ _).mono ?_; rintro e w' ⟨rfl, rfl⟩))
  refine wp_region_grow (by kernel_rfl) (by kernel_rfl) ?_
  repeat (go_big_quiet_step ((first | (go_at_call 25; with_reducible exact grow_same (prob_Times _ _ _ HA.out HB.out)) | (go_at_call 26; with_reducible exact grow_same (ref56_Times _ _ _ HA.out HB.out)) | (go_at_call 27; with_reducible exact grow_same (prob_Power _ _ _ HA.out)) | (go_at_call 28; with_reducible exact grow_same (ref56_Power _ _ _ HA.out)) | (go_at_call 29; with_reducible exact grow_same (alive56 _)))))
  refine wpQuiet_nil ?_
  intro w3 hb3
  go_wp2
  go_ret
  exact ⟨rfl, hBw1.trans (hb3.mono hBw1.size)⟩

set_option maxRecDepth 100000 in
theorem walkProbParts {H : Type} (W : World) (base : Nat) (enc : TypeId × Value → H) {v0 : Value} {d0 : DataW H} {p0 : List MemPlace} {v1 : Value} {d1 : DataW H} {p1 : List MemPlace} {v2 : Value} {d2 : DataW H} {p2 : List MemPlace}
    (h0 : DataW.Trod enc Try.prog W 0 (fun _ => true) true 31 v0 d0 p0) (h1 : DataW.Trod enc Try.prog W 0 (fun _ => true) true 31 v1 d1 p1) (h2 : DataW.Trod enc Try.prog W 0 (fun _ => true) true 32 v2 d2 p2)
    (o0 : Value.okWide Try.prog W .any base 31 v0) (o1 : Value.okWide Try.prog W .any base 31 v1) (o2 : Value.okWide Try.prog W .any base 32 v2) :
    Calls Try.prog 4 #[v0, v1, v2] W fun e W' => e = .returned (.bool true) ∧ Below W.heap.size W W' := by
  obtain ⟨a, rfl, a0, a1⟩ := arg_u64 o0 h0
  obtain ⟨b, rfl, b0, b1⟩ := arg_u64 o1 h1
  obtain ⟨x, y, rfl, -, -⟩ := arg_arr2 Try.underlying32 Try.underlying3 (by kernel_rfl) (by kernel_rfl) o2 h2
  exact parts_1 a b x y W ⟨a0, a1⟩ ⟨b0, b1⟩
end Go.Proofs.Ytokgokjgpmdlpaa

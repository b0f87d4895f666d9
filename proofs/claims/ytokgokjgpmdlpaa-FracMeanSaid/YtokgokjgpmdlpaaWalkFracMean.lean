/-
  The statement FracMean, walked.
-/
import Derived.Test.YtokgokjgpmdlpaaMean
import Derived.Test.YtokgokjgpmdlpaaFrac3
import Derived.Test.YtokgokjgpmdlpaaArgA
set_option linter.unusedVariables false
set_option linter.unusedSimpArgs false
namespace Go.Proofs.Ytokgokjgpmdlpaa
open Go.Joins Go.ChangeShapes Go.WideShapes Go.ChangeAt Go.RowKit Go.Deep

set_option maxRecDepth 20000 in
set_option maxHeartbeats 1000000 in
theorem mean_1 (A : Option Addr) (C : Nat) (xs : List Int) (w : World) (hx : Ints w A xs) (hbd : ∀ i, I64 (at0 xs i)) :
    Calls Try.prog 7 #[.slice A xs.length C] w fun e w' => e = .returned (.bool true) ∧ Below w.heap.size w w' := by
  by_cases hl : 200 < xs.length
  · go_enter Try.func7, Try.ntmps7
    go_wp2
    go_ret
    exact ⟨rfl, Below.refl _ _⟩
  · have cM := fun w hx => frac_Mean A C xs w hx (by omega) hbd
    have cN := fun w hx => ref08_Mean A C xs w hx (by omega) hbd
    rcases hmf : meanF xs with ⟨x, y, z⟩
    rw [hmf] at cM cN
    generalize meanE xs = er at *
    have e1 : (x == x) = true := by simp
    have e2 : (y == y) = true := by simp
    have e3 : (z == z) = true := by simp
    have e4 : (er == er) = true := by simp
    have CM := Lib.hid cM
    have CN := Lib.hid cN
    have HX := Lib.hid hx
    clear cM cN hmf hx hbd
    go_enter Try.func7, Try.ntmps7
    go_wp2_with fail
    refine (CM.out _ HX.out).mono ?_
    rintro e w1 ⟨rfl, hb1⟩
    have hx1 := HX.out.below hb1
    go_wp2_with fail
    have hx2 : Ints (w1.alloc (.cells #[.int .i64 x, .int .i64 y, .int .i64 z] 41)) A xs := hx1.below (Joins.below_alloc1 _ _)
    refine (CN.out _ hx2).mono ?_
    rintro e w2 ⟨rfl, hb2⟩
    have hb3 : Below w.heap.size w w2 := below_box hb1 hb2
    obtain ⟨hc, hf⟩ := bcell hb2
    have hz := hb2.size
    simp only [alloc_size] at hc hf hz
    have hz2 : w1.heap.size < w2.heap.size := by omega
    clear hb1 hb2 hf hx1 hx2
    go_wp2_with fail
    refine (alive08 _).mono ?_
    rintro e w4 ⟨rfl, hb4⟩
    go_wp2
    go_ret
    exact ⟨rfl, below_box hb3 hb4⟩

set_option maxRecDepth 100000 in
theorem walkFracMean {H : Type} (W : World) (base : Nat) (enc : TypeId × Value → H) {v0 : Value} {d0 : DataW H} {p0 : List MemPlace}
    (h0 : DataW.Trod enc Try.prog W 0 (fun _ => true) true 48 v0 d0 p0)
    (o0 : Value.okWide Try.prog W .any base 48 v0) :
    Calls Try.prog 7 #[v0] W fun e W' => e = .returned (.bool true) ∧ Below W.heap.size W W' := by
  obtain ⟨n, hn⟩ := arg_slice Try.underlying48 o0 h0
  obtain ⟨xs, hxs⟩ := read_slice (size := 1) Try.underlying48 (by kernel_rfl) (by decide) (fun _ _ _ h => read_int Try.underlying3 h) hn
  obtain ⟨A, C, hv, hrest⟩ := id hxs
  injection hv with hv
  subst hv
  exact mean_1 A C xs W (ints_of hxs) (ints_bd hxs)
end Go.Proofs.Ytokgokjgpmdlpaa

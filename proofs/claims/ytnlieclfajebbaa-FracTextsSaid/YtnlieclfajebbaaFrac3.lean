
/-
  A quotient as a text: frac.Text; the chapter's example. Condition: the numbers fit their kinds.
-/
import Derived.Test.YtnlieclfajebbaaFrac
set_option linter.unusedVariables false
set_option linter.unusedSimpArgs false
namespace Go.Proofs.Ytnlieclfajebbaa
open Go.Joins Go.ChangeShapes Go.WideShapes Go.ChangeAt Go.RowKit Go.Deep

def txtF (f : Frac) : List UInt8 := if f.rest = 0 then decI f.whole else decI f.whole ++ [32] ++ decI f.rest ++ [47] ++ decI f.by_
theorem below_boxd {B w' w2 : World} {o : Obj} {n : Nat} (hb : Below B.heap.size B w') (hb2 : Below ((w'.alloc o).drewN n).heap.size ((w'.alloc o).drewN n) w2) : Below B.heap.size B w2 :=
  (below_drewN (hb.alloc hb.size o) n).trans (hb2.mono (by have := hb.size; simp; omega))
theorem txtF_cat (a b c : List UInt8) : (((txt a ++ ⟨#[32]⟩) ++ txt b) ++ ⟨#[47]⟩) ++ txt c = txt (a ++ [32] ++ b ++ [47] ++ c) := by
  rw [show (⟨#[32]⟩ : ByteArray) = txt [32] from rfl, show (⟨#[47]⟩ : ByteArray) = txt [47] from rfl]
  simp only [txt_append]
theorem decI_size (a : Int) : (txt (decI a)).size ≤ 21 := by rw [txt_size]; exact decI_len a
set_option maxHeartbeats 1000000 in
theorem frac_Text (f : Frac) (w : World) (hk : f.ok) : Calls Try.prog 51 #[f.val] w fun e w' => e = .returned (.string (txt (txtF f))) ∧ Below w.heap.size w w' := by
  obtain ⟨k1, k2, k3⟩ := hk
  have c1 := fun w => digits_Of f.whole w k1
  have c2 := fun w => digits_Of f.rest w k2
  have c3 := fun w => digits_Of f.by_ w k3
  have C1 := Lib.hid c1
  have C2 := Lib.hid c2
  have C3 := Lib.hid c3
  clear c1 c2 c3 k1 k2 k3
  have s1 := decI_size f.whole
  have s2 := decI_size f.rest
  have s3 := decI_size f.by_
  obtain ⟨x, y, z⟩ := f
  simp only at *
  by_cases h0 : y = 0
  · have hl : txtF ⟨x, y, z⟩ = decI x := by unfold txtF; rw [if_pos h0]
    rw [hl]
    subst h0
    clear hl
    go_enter Try.func51, Try.ntmps51
    go_wp2_with (first | (go_at_call 33; refine (C1.out _).mono ?_; rintro e w' ⟨rfl, hb⟩))
    go_ret
    exact ⟨rfl, ((Below.refl _ _).alloc (Nat.le_refl _) _).trans (hb.mono (by simp))⟩
  · have hl : txtF ⟨x, y, z⟩ = decI x ++ [32] ++ decI y ++ [47] ++ decI z := by unfold txtF; rw [if_neg h0]
    rw [hl, ← txtF_cat]
    have hzb : (y == 0) = false := by simp [h0]
    clear hl h0
    generalize txt (decI x) = a at *
    generalize txt (decI y) = b at *
    generalize txt (decI z) = c at *
    go_enter Try.func51, Try.ntmps51
    go_wp2_with fail
    obtain ⟨hBw1, hcw1, hzw1⟩ := box w 32 #[.int .i64 x, .int .i64 y, .int .i64 z]
    change Code.wp _ _ _ _ (w.alloc (.cells #[.int .i64 x, .int .i64 y, .int .i64 z] 32))
    generalize (w.alloc (.cells #[.int .i64 x, .int .i64 y, .int .i64 z] 32)) = w1 at *
    refine wp_region_grow (by kernel_rfl) (by kernel_rfl) ?_
    repeat (go_big_quiet_step ((first | (go_at_call 33; with_reducible exact grow_of (C1.out _)) | (go_at_call 33; with_reducible exact grow_of (C2.out _)) | (go_at_call 33; with_reducible exact grow_of (C3.out _)))))
    refine wpQuiet_nil ?_
    intro w3 hb3
    go_wp2
    go_ret
    exact ⟨rfl, hBw1.trans (hb3.mono hBw1.size)⟩
set_option maxHeartbeats 1000000 in
theorem alive08 (w : World) : Calls Try.prog 21 #[] w fun e w' => e = .returned (.bool true) ∧ Below w.heap.size w w' := by
  have cO : ∀ w, Calls Try.prog 69 #[.int .i64 7, .int .i64 2] w fun e w' => e = .returned (.tuple #[.agg #[.int .i64 3, .int .i64 1, .int .i64 2], .int .i64 0]) ∧ Below w.heap.size w w' := fun w => frac_Of 7 2 w (by unfold I64; omega) (by unfold I64; omega)
  have cT : ∀ w, Calls Try.prog 51 #[.agg #[.int .i64 3, .int .i64 1, .int .i64 2]] w fun e w' => e = .returned (.string ⟨#[51, 32, 49, 47, 50]⟩) ∧ Below w.heap.size w w' := fun w => frac_Text ⟨3, 1, 2⟩ w (by unfold Frac.ok; simp)
  have CO := Lib.hid cO
  have CT := Lib.hid cT
  clear cO cT
  go_enter Try.func21, Try.ntmps21
  go_wp2_with fail
  refine (CO.out _).mono ?_
  rintro e w' ⟨rfl, hb⟩
  go_wp2_with (first | (go_at_call 51; refine (CT.out _).mono ?_; rintro e w2 ⟨rfl, hb2⟩))
  go_ret
  exact ⟨rfl, below_box hb hb2⟩
end Go.Proofs.Ytnlieclfajebbaa

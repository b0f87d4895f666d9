
/-
  The chapter's example: hoistwaylaw36.alive. No conditions.
-/
import Derived.Test.YtnegolclofgboaaChartT
set_option linter.unusedVariables false
set_option linter.unusedSimpArgs false
namespace Go.Proofs.Ytnegolclofgboaa
open Go.Joins Go.ChangeShapes Go.WideShapes Go.ChangeAt Go.RowKit Go.Deep

def leg36 : Leg := ⟨0, 0, 0, false⟩
def sc36 : Scen := { floors := 2, gap := 1, cars := 1, capacity := 1, open_ := 1, dwell := 1, close := 1, transfer := 1, segs := [⟨1, 1, 0⟩], disp := 1, horizon := 4, bins := 1, width := 1 }
theorem leg36_at (i : Nat) : legAt [leg36] i = leg36 := by
  unfold legAt
  cases i with
  | zero => rfl
  | succ i => simp [List.getD, leg36]
theorem leg36_fine : fineLs [leg36] := by
  refine ⟨by decide, fun i hi => ?_, fun i hi => by simp at hi⟩
  rw [leg36_at]
  unfold fineL leg36
  decide
theorem ok36 : chOk [[leg36]] 1 4 := by
  refine ⟨by decide, by decide, by decide, fun i xs hi => ?_⟩
  have h0 := (List.getElem?_eq_some_iff.1 hi).1
  obtain rfl : i = 0 := by simp at h0; omega
  simp at hi
  subst hi
  refine ⟨leg36_fine, fun t _ _ _ => ?_⟩
  unfold wayP wayG
  rw [leg36_at]
  unfold leg36
  split <;> simp
theorem rows36 {w : World} {a b : Nat} (h1 : Blk w a 65 #[.int .i64 0, .int .i64 0, .int .i64 0, .bool false]) (h2 : Blk w b 44 #[.slice (some ⟨a, 0, none⟩) 1 1]) : LegRows w (some ⟨b, 0, none⟩) [[leg36]] := fun _ => by
  refine ⟨b, 0, rfl, h2.lt, fun i xs hi => ?_⟩
  have h0 := (List.getElem?_eq_some_iff.1 hi).1
  obtain rfl : i = 0 := by simp at h0; omega
  simp at hi
  subst hi
  refine ⟨some ⟨a, 0, none⟩, 1, h2.cell 0, fun _ => ⟨a, 0, rfl, h1.lt, fun j g hj m u hm => ?_⟩⟩
  have h3 := (List.getElem?_eq_some_iff.1 hj).1
  obtain rfl : j = 0 := by simp at h3; omega
  simp at hj
  subst hj
  rw [h1.cell]
  have hm4 : m < 4 := (List.getElem?_eq_some_iff.1 hm).1
  have : m = 0 ∨ m = 1 ∨ m = 2 ∨ m = 3 := by omega
  rcases this with rfl | rfl | rfl | rfl <;> exact hm
theorem chart36 : chartL [[leg36]] 1 4 2 2 (2 : Int).toNat = [32, 32, 49, 32, 46, 46, 10, 32, 32, 48, 32, 48, 48, 10] := by decide +kernel
theorem alive36 (w : World) : Calls Try.prog 9 #[] w fun e w' => e = .returned (.bool true) ∧ Below w.heap.size w w' := by
  have hT := fun lA lC A C w hx => chart_Text lA lC [[leg36]] sc36 A C 2 w hx ok36 (by decide) (by decide)
  rw [show sc36.gap = 1 from rfl, show sc36.horizon = 4 from rfl, show sc36.floors = 2 from rfl, chart36] at hT
  simp only [Scen.val, sc36, List.length_cons, List.length_nil, Nat.zero_add] at hT
  have HT := Lib.hid hT
  clear hT
  go_enter Try.func9, Try.ntmps9
  go_wp2_with fail
  have k0 : Blk (((w.alloc (.cells #[.int .i64 0, .int .i64 0, .int .i64 0, .bool false] 65)).alloc (.cells #[.slice (some ⟨w.heap.size, 0, none⟩) 1 1] 44)).alloc (.cells #[.int .i64 1, .int .i64 1, .int .i64 0] 62)) (w.heap.size) 65 #[.int .i64 0, .int .i64 0, .int .i64 0, .bool false] := (Blk.alloc (Blk.alloc (blk_at (by simp)) (.cells #[.slice (some ⟨w.heap.size, 0, none⟩) 1 1] 44)) (.cells #[.int .i64 1, .int .i64 1, .int .i64 0] 62))
  have k1 : Blk (((w.alloc (.cells #[.int .i64 0, .int .i64 0, .int .i64 0, .bool false] 65)).alloc (.cells #[.slice (some ⟨w.heap.size, 0, none⟩) 1 1] 44)).alloc (.cells #[.int .i64 1, .int .i64 1, .int .i64 0] 62)) (w.heap.size + 1) 44 #[.slice (some ⟨w.heap.size, 0, none⟩) 1 1] := (Blk.alloc (blk_at (by simp)) (.cells #[.int .i64 1, .int .i64 1, .int .i64 0] 62))
  have k2 : Blk (((w.alloc (.cells #[.int .i64 0, .int .i64 0, .int .i64 0, .bool false] 65)).alloc (.cells #[.slice (some ⟨w.heap.size, 0, none⟩) 1 1] 44)).alloc (.cells #[.int .i64 1, .int .i64 1, .int .i64 0] 62)) (w.heap.size + 2) 62 #[.int .i64 1, .int .i64 1, .int .i64 0] := (blk_at (by simp))
  have hB : Below w.heap.size w (((w.alloc (.cells #[.int .i64 0, .int .i64 0, .int .i64 0, .bool false] 65)).alloc (.cells #[.slice (some ⟨w.heap.size, 0, none⟩) 1 1] 44)).alloc (.cells #[.int .i64 1, .int .i64 1, .int .i64 0] 62)) := (bel_at (bel_at (bel_at (Below.refl _ _) (.cells #[.int .i64 0, .int .i64 0, .int .i64 0, .bool false] 65)) (.cells #[.slice (some ⟨w.heap.size, 0, none⟩) 1 1] 44)) (.cells #[.int .i64 1, .int .i64 1, .int .i64 0] 62))
  generalize (((w.alloc (.cells #[.int .i64 0, .int .i64 0, .int .i64 0, .bool false] 65)).alloc (.cells #[.slice (some ⟨w.heap.size, 0, none⟩) 1 1] 44)).alloc (.cells #[.int .i64 1, .int .i64 1, .int .i64 0] 62)) = w1 at *
  (try clear k0c k0f k0z); have k0c := fun i => Blk.cell k0 i; have k0f := fun i => Blk.free k0 i; have k0z := Blk.lt k0; (try clear k1c k1f k1z); have k1c := fun i => Blk.cell k1 i; have k1f := fun i => Blk.free k1 i; have k1z := Blk.lt k1; (try clear k2c k2f k2z); have k2c := fun i => Blk.cell k2 i; have k2f := fun i => Blk.free k2 i; have k2z := Blk.lt k2
  refine (HT.out _ _ _ _ _ (rows36 k0 k1)).mono ?_
  rintro e w2 ⟨rfl, hb2⟩
  have hb3 := hB.trans (hb2.mono hB.size)
  have he : ((txt [32, 32, 49, 32, 46, 46, 10, 32, 32, 48, 32, 48, 48, 10]).toList == [32, 32, 49, 32, 46, 46, 10, 32, 32, 48, 32, 48, 48, 10]) = true := by rw [txt_toList]; decide
  go_wp2
  go_ret
  exact ⟨rfl, hb3⟩
end Go.Proofs.Ytnegolclofgboaa

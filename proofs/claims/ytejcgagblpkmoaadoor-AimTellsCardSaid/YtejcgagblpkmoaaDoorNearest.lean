
/-
  want.Nearest, want.Last: the first and the last of those that lie on. Condition: the library's table lies as laid.
-/
import Derived.Test.YtejcgagblpkmoaaDoorBetween
import Derived.Test.YtejcgagblpkmoaaDoorFace
import Derived.Test.YtejcgagblpkmoaaDoorRef30c
set_option linter.unusedVariables false
set_option linter.unusedSimpArgs false
namespace Go.Proofs.YtejcgagblpkmoaaDoor
open Go.Joins Go.ChangeShapes Go.WideShapes Go.ChangeAt Go.RowKit Go.Deep

theorem items_filter {x y a b : Nat} {p : Int → Bool} (h : ∀ k : Int, memB a b k = (memB x y k && p k)) : items a b = (items x y).filter p := by
  unfold items preI
  rw [List.filter_map, List.filter_filter]
  congr 1
  apply List.filter_congr
  intro i _
  unfold bitsF
  rw [h (i : Int), Bool.and_comm]
  rfl
theorem bey_items {x y : Nat} (hx : Wd x) (hy : Wd y) (f d : Int) : items (beyX x f d) (beyY y f d) = (items x y).filter (onP f d) := items_filter fun k => by rw [mem_bey hx hy]; rfl
theorem bey_row {x y : Nat} (hx : Wd x) (hy : Wd y) (f d : Int) : beyL x y f d = if d < 0 then (items (beyX x f d) (beyY y f d)).reverse else items (beyX x f d) (beyY y f d) := by
  rw [bey_items hx hy]
  unfold beyL beyS
  split
  · rw [List.filter_reverse]
  · rfl
theorem bey_zero {x y : Nat} (hx : Wd x) (hy : Wd y) (f : Int) : items (beyX x f 0) (beyY y f 0) = [] := by
  rw [bey_items hx hy]
  apply List.filter_eq_nil_iff.2
  intro a _
  unfold onP
  simp
theorem leL_last (n : Int) (l : List Int) (h : ∀ v ∈ l, v ≤ n) : leL n l = hdL l.reverse := by
  rcases List.eq_nil_or_concat l with rfl | ⟨a, v, rfl⟩
  · rfl
  · rw [List.concat_eq_append] at h ⊢
    rw [leL_snoc, if_pos (h v (by simp)), List.reverse_append]
    rfl
/-- Nearest and Last, by the row. -/
theorem near_row {x y : Nat} (hx : Wd x) (hy : Wd y) (f d : Int) : (if 0 < d then geL 0 (0, false) (items (beyX x f d) (beyY y f d)) else leL 128 (items (beyX x f d) (beyY y f d))) = hdL (beyL x y f d) := by
  have h0 : ∀ v ∈ items (beyX x f d) (beyY y f d), 0 ≤ v := fun v hv => (item_in hv).1
  have h1 : ∀ v ∈ items (beyX x f d) (beyY y f d), v ≤ 128 := fun v hv => by have := (item_in hv).2; omega
  rw [bey_row hx hy]
  by_cases hd : 0 < d
  · rw [if_pos hd, if_neg (by omega), geL_high 0 _ h0]
  · rw [if_neg hd, leL_last 128 _ h1]
    by_cases hn : d < 0
    · rw [if_pos hn]
    · obtain rfl : d = 0 := by omega
      rw [if_neg hn, bey_zero hx hy]
      rfl
theorem last_row {x y : Nat} (hx : Wd x) (hy : Wd y) (f d : Int) : (if 0 < d then leL 128 (items (beyX x f d) (beyY y f d)) else geL 0 (0, false) (items (beyX x f d) (beyY y f d))) = hdL (beyL x y f d).reverse := by
  have h0 : ∀ v ∈ items (beyX x f d) (beyY y f d), 0 ≤ v := fun v hv => (item_in hv).1
  have h1 : ∀ v ∈ items (beyX x f d) (beyY y f d), v ≤ 128 := fun v hv => by have := (item_in hv).2; omega
  rw [bey_row hx hy]
  by_cases hd : 0 < d
  · rw [if_pos hd, if_neg (by omega), leL_last 128 _ h1]
  · rw [if_neg hd, geL_high 0 _ h0]
    by_cases hn : d < 0
    · rw [if_pos hn, List.reverse_reverse]
    · obtain rfl : d = 0 := by omega
      rw [if_neg hn, bey_zero hx hy]
      rfl
/-- What Prev finds, by the row. -/
theorem bits_PrevL (x y : Nat) (n : Int) (w : World) (hx : Wd x) (hy : Wd y) (hn : I64 n) :
    Calls Tryd.prog 44 #[sv x y, .int .i64 n] w fun e w' => e = .returned (.tuple #[.int .i64 (leL n (items x y)).1, .bool (leL n (items x y)).2]) ∧ Below w.heap.size w w' := by
  rcases Int.lt_or_le n 0 with h | h
  · rw [prev_neg x y n h]
    exact bits_Prev_neg x y n w h
  · rw [prev_of x y n hx hy h]
    exact bits_Prev_pos x y n w hx hy ⟨h, hn.2⟩
theorem bits_NextG (x y : Nat) (n : Int) (w : World) (hx : Wd x) (hy : Wd y) (hn : I64 n) (hT : Tab w) :
    Calls Tryd.prog 45 #[sv x y, .int .i64 n] w fun e w' => e = .returned (.tuple #[.int .i64 (geL n (0, false) (items x y)).1, .bool (geL n (0, false) (items x y)).2]) ∧ Below w.heap.size w w' := by
  rw [next_of x y n hx hy]
  exact bits_Next x y n w hx hy hn hT
end Go.Proofs.YtejcgagblpkmoaaDoor

/-
  The law BoundTells, walked: it returns true, and nothing that was there turns.
-/
import Derived.Test.YtfpmdldngnopjaaBound
set_option linter.unusedVariables false
set_option linter.unusedSimpArgs false
namespace Go.Proofs.Ytfpmdldngnopjaa
open Go.Joins Go.ChangeShapes Go.WideShapes Go.ChangeAt Go.RowKit Go.Deep

def scA : Scen := { floors := 2, gap := 1, cars := 1, capacity := 1, open_ := 1, dwell := 3, close := 2, transfer := 4, segs := [⟨1, 1, 0⟩], disp := 1, horizon := 9, bins := 1, width := 1 }
theorem alive23 (w : World) : Calls Try.prog 22 #[] w fun e w' => e = .returned (.bool true) ∧ Below w.heap.size w w' := by
  have hs : scA.small := by unfold Scen.small; decide
  go_enter Try.func22, Try.ntmps22
  go_wp2_with (first | (go_at_call 20; refine (bound_Stop scA _ _ 2 _ hs (by decide) (by decide)).mono ?_; rintro e w' ⟨rfl, hb⟩))
  go_ret
  exact ⟨ret_bool (by decide), (below_alloc1 _ _).trans (hb.mono (by simp))⟩

set_option maxRecDepth 100000 in
set_option maxHeartbeats 4000000 in
theorem bt_0 (s : Scen) (A : Option Addr) (C : Nat) (people last : Int) (W : World) (hsl : RSlice 3 RSeg W [.slice A s.segs.length C] s.segs) (h8 : ¬ 8 < s.segs.length) (p0 : 0 ≤ people) (p1 : people ≤ 1073741824) (l0 : 0 ≤ last) (l1 : last ≤ 1073741824) (hm : s.dwell < s.transfer) (hc : s.capacity < people) :
    Calls Try.prog 3 #[s.val A C, .int .i64 people, .int .i64 last] W fun e W' => e = .returned (.bool true) ∧ Below W.heap.size W W' := by
  go_enter Try.func3, Try.ntmps3
  go_wp2_with fail
  obtain ⟨hBW1, hcW1, hzW1⟩ := box W 25 (s.cells A C).toArray
  change Calls _ _ _ (W.alloc (.cells (s.cells A C).toArray 25)) _
  generalize (W.alloc (.cells (s.cells A C).toArray 25)) = W1 at *
  refine (check_any s A C _ (RSlice.stays RSeg.stays _ _ _ _ hsl hBW1)).mono ?_
  rintro e w2 ⟨n, rfl, hn, hb⟩
  have hq : ∀ i, w2.cell? ⟨W.heap.size, i, none⟩ = (s.cells A C).toArray[i]? := fun i => (hb.cell (p := ⟨W.heap.size, i, none⟩) (by show W.heap.size < W1.heap.size; omega)).trans (hcW1 i)
  have hfin : Below W.heap.size W w2 := hBW1.trans (hb.mono hBW1.size)
  have hlt : W.heap.size < w2.heap.size := by have := hb.size; omega
  clear hb hcW1 hzW1 hBW1
  by_cases hn0 : n = 0
  · subst hn0
    have hfine := hn rfl
    have hs := small_of hfine
    clear hn
    obtain ⟨x1, x2, x3, x4, x5, x6, x7, x8, _⟩ := hfine
    have f0 : 0 ≤ s.floors * s.gap := Int.mul_nonneg (by omega) (by omega)
    have f1 : s.floors * s.gap ≤ 128 * 16 := Int.mul_le_mul (by omega) (by omega) (by omega) (by omega)
    have t0 : 0 ≤ people * s.transfer := Int.mul_nonneg (by omega) (by omega)
    have t1 : people * s.transfer ≤ 1073741824 * 64 := Int.mul_le_mul (by omega) (by omega) (by omega) (by omega)
    have n0 : 0 ≤ s.capacity * s.transfer := Int.mul_nonneg (by omega) (by omega)
    have n1 : s.capacity * s.transfer ≤ 64 * 64 := Int.mul_le_mul (by omega) (by omega) (by omega) (by omega)
    have m0 : 0 ≤ people * (s.open_ + s.transfer + s.dwell + s.close) := Int.mul_nonneg (by omega) (by omega)
    have m1 : people * (s.open_ + s.transfer + s.dwell + s.close) ≤ 1073741824 * 256 := Int.mul_le_mul (by omega) (by omega) (by omega) (by omega)
    have k0 : 0 ≤ s.capacity * (s.open_ + s.transfer + s.dwell + s.close) := Int.mul_nonneg (by omega) (by omega)
    have k1 : s.capacity * (s.open_ + s.transfer + s.dwell + s.close) ≤ 64 * 256 := Int.mul_le_mul (by omega) (by omega) (by omega) (by omega)
    have hng : -people < 0 := by omega
    go_wp2_with fail
    generalize hE1 : (s.floors * s.gap - s.gap) = h at *
    generalize hE2 : (s.open_ + s.open_ + s.transfer + s.dwell + s.close + h + s.gap + 4) = q at *
    generalize hE3 : (s.open_ + people * s.transfer + s.dwell + s.close) = st at *
    generalize hE4 : (h + h + s.open_ + s.capacity * s.transfer + s.dwell + s.close + s.capacity * (s.open_ + s.transfer + s.dwell + s.close)) = tr at *
    have fgap : (s.floors - 1) * s.gap = h := by rw [Int.sub_mul]; omega
    have hQ : s.quiet = q := by unfold Scen.quiet; rw [fgap]; omega
    have hS : s.stop people = st := by unfold Scen.stop; rw [show max people 0 = people from by omega]; omega
    have hN : s.stop (-people) = s.open_ + s.dwell + s.close := by unfold Scen.stop; rw [show max (-people) 0 = 0 from by omega]; omega
    have hT : s.trip people = tr := by
      unfold Scen.trip Scen.stop
      rw [fgap]
      rw [show tripN s people = s.capacity from by unfold tripN; omega, show max s.capacity 0 = s.capacity from by omega]
      rw [show max (1 : Int) 0 = 1 from by omega, show s.open_ + 1 * s.transfer + s.dwell + s.close = s.open_ + s.transfer + s.dwell + s.close from by omega]
      omega
    have qb := quiet_bd hs
    rw [hQ] at qb
    have e0 : -32 * people ≤ people * (q + q) := by rw [Int.mul_comm]; exact Int.mul_le_mul_of_nonneg_left (by omega) p0
    have e1 : people * (q + q) ≤ people * 8192 := Int.mul_le_mul_of_nonneg_left (by omega) p0
    have hR : (2 * ((s.floors - 1) * s.gap) == h + h) = true := by rw [fgap]; simp; omega
    have hE : (2 * q == q + q) = true := by simp; omega
    have hF : (last + people * (2 * q) == last + people * (q + q)) = true := by rw [show 2 * q = q + q from by omega]; simp
    have W1' : IntKind.i64.wrap (q + q) = q + q := IntWalk.i64_in _ (by omega)
    have W2' : IntKind.i64.wrap (h + h) = h + h := IntWalk.i64_in _ (by omega)
    have W3' : IntKind.i64.wrap (people * (q + q)) = people * (q + q) := IntWalk.i64_in _ (by omega)
    have W4' : IntKind.i64.wrap (last + people * (q + q)) = last + people * (q + q) := IntWalk.i64_in _ (by omega)
    have W5' : IntKind.i64.wrap (-people) = -people := IntWalk.i64_in _ (by omega)
    have W6' : IntKind.i64.wrap (s.open_ + s.dwell) = s.open_ + s.dwell := IntWalk.i64_in _ (by omega)
    have W7' : IntKind.i64.wrap (s.open_ + s.dwell + s.close) = s.open_ + s.dwell + s.close := IntWalk.i64_in _ (by omega)
    clear hE1 hE2 hE3 hE4 fgap
    simp only [List.append]
    refine wp_region_grow (by kernel_rfl) (by kernel_rfl) ?_
    repeat (go_big_quiet_step ((first | (go_at_call 16; with_reducible exact grow_of (bound_Quiet s A C _ hs)) | (go_at_call 17; with_reducible exact grow_of (bound_Each s A C _ hs)) | (go_at_call 18; with_reducible exact grow_of (bound_Enough s A C people last _ hs (by omega) (by omega) (by omega) (by omega))) | (go_at_call 19; with_reducible exact grow_of (bound_Round s A C _ hs)) | (go_at_call 20; with_reducible exact grow_of (bound_Stop s A C _ _ hs (by omega) (by omega))) | (go_at_call 21; with_reducible exact grow_of (bound_Trip s A C people _ hs (by omega) (by omega))) | (go_at_call 22; with_reducible exact grow_of (alive23 _)))))
    refine wpQuiet_nil ?_
    intro w3 hb3
    go_wp2
    go_ret
    exact ⟨rfl, hfin.trans (hb3.mono hfin.size)⟩
  · have hnb : (n != 0) = true := by simpa using hn0
    clear hn hn0
    go_wp2
    go_ret
    exact ⟨rfl, hfin⟩

set_option maxRecDepth 100000 in
set_option maxHeartbeats 4000000 in
theorem bt_2 (s : Scen) (A : Option Addr) (C : Nat) (people last : Int) (W : World) (hsl : RSlice 3 RSeg W [.slice A s.segs.length C] s.segs) (h8 : ¬ 8 < s.segs.length) (p0 : 0 ≤ people) (p1 : people ≤ 1073741824) (l0 : 0 ≤ last) (l1 : last ≤ 1073741824) (hm : s.dwell < s.transfer) (hc : people ≤ s.capacity) (hp : 0 < people) :
    Calls Try.prog 3 #[s.val A C, .int .i64 people, .int .i64 last] W fun e W' => e = .returned (.bool true) ∧ Below W.heap.size W W' := by
  go_enter Try.func3, Try.ntmps3
  go_wp2_with fail
  obtain ⟨hBW1, hcW1, hzW1⟩ := box W 25 (s.cells A C).toArray
  change Calls _ _ _ (W.alloc (.cells (s.cells A C).toArray 25)) _
  generalize (W.alloc (.cells (s.cells A C).toArray 25)) = W1 at *
  refine (check_any s A C _ (RSlice.stays RSeg.stays _ _ _ _ hsl hBW1)).mono ?_
  rintro e w2 ⟨n, rfl, hn, hb⟩
  have hq : ∀ i, w2.cell? ⟨W.heap.size, i, none⟩ = (s.cells A C).toArray[i]? := fun i => (hb.cell (p := ⟨W.heap.size, i, none⟩) (by show W.heap.size < W1.heap.size; omega)).trans (hcW1 i)
  have hfin : Below W.heap.size W w2 := hBW1.trans (hb.mono hBW1.size)
  have hlt : W.heap.size < w2.heap.size := by have := hb.size; omega
  clear hb hcW1 hzW1 hBW1
  by_cases hn0 : n = 0
  · subst hn0
    have hfine := hn rfl
    have hs := small_of hfine
    clear hn
    obtain ⟨x1, x2, x3, x4, x5, x6, x7, x8, _⟩ := hfine
    have f0 : 0 ≤ s.floors * s.gap := Int.mul_nonneg (by omega) (by omega)
    have f1 : s.floors * s.gap ≤ 128 * 16 := Int.mul_le_mul (by omega) (by omega) (by omega) (by omega)
    have t0 : 0 ≤ people * s.transfer := Int.mul_nonneg (by omega) (by omega)
    have t1 : people * s.transfer ≤ 1073741824 * 64 := Int.mul_le_mul (by omega) (by omega) (by omega) (by omega)
    have n0 : 0 ≤ s.capacity * s.transfer := Int.mul_nonneg (by omega) (by omega)
    have n1 : s.capacity * s.transfer ≤ 64 * 64 := Int.mul_le_mul (by omega) (by omega) (by omega) (by omega)
    have m0 : 0 ≤ people * (s.open_ + s.transfer + s.dwell + s.close) := Int.mul_nonneg (by omega) (by omega)
    have m1 : people * (s.open_ + s.transfer + s.dwell + s.close) ≤ 1073741824 * 256 := Int.mul_le_mul (by omega) (by omega) (by omega) (by omega)
    have k0 : 0 ≤ s.capacity * (s.open_ + s.transfer + s.dwell + s.close) := Int.mul_nonneg (by omega) (by omega)
    have k1 : s.capacity * (s.open_ + s.transfer + s.dwell + s.close) ≤ 64 * 256 := Int.mul_le_mul (by omega) (by omega) (by omega) (by omega)
    have hng : -people < 0 := by omega
    go_wp2_with fail
    generalize hE1 : (s.floors * s.gap - s.gap) = h at *
    generalize hE2 : (s.open_ + s.open_ + s.transfer + s.dwell + s.close + h + s.gap + 4) = q at *
    generalize hE3 : (s.open_ + people * s.transfer + s.dwell + s.close) = st at *
    generalize hE4 : (h + h + s.open_ + people * s.transfer + s.dwell + s.close + people * (s.open_ + s.transfer + s.dwell + s.close)) = tr at *
    have fgap : (s.floors - 1) * s.gap = h := by rw [Int.sub_mul]; omega
    have hQ : s.quiet = q := by unfold Scen.quiet; rw [fgap]; omega
    have hS : s.stop people = st := by unfold Scen.stop; rw [show max people 0 = people from by omega]; omega
    have hN : s.stop (-people) = s.open_ + s.dwell + s.close := by unfold Scen.stop; rw [show max (-people) 0 = 0 from by omega]; omega
    have hT : s.trip people = tr := by
      unfold Scen.trip Scen.stop
      rw [fgap]
      rw [show tripN s people = people from by unfold tripN; omega, show max people 0 = people from by omega]
      rw [show max (1 : Int) 0 = 1 from by omega, show s.open_ + 1 * s.transfer + s.dwell + s.close = s.open_ + s.transfer + s.dwell + s.close from by omega]
      omega
    have qb := quiet_bd hs
    rw [hQ] at qb
    have e0 : -32 * people ≤ people * (q + q) := by rw [Int.mul_comm]; exact Int.mul_le_mul_of_nonneg_left (by omega) p0
    have e1 : people * (q + q) ≤ people * 8192 := Int.mul_le_mul_of_nonneg_left (by omega) p0
    have hR : (2 * ((s.floors - 1) * s.gap) == h + h) = true := by rw [fgap]; simp; omega
    have hE : (2 * q == q + q) = true := by simp; omega
    have hF : (last + people * (2 * q) == last + people * (q + q)) = true := by rw [show 2 * q = q + q from by omega]; simp
    have W1' : IntKind.i64.wrap (q + q) = q + q := IntWalk.i64_in _ (by omega)
    have W2' : IntKind.i64.wrap (h + h) = h + h := IntWalk.i64_in _ (by omega)
    have W3' : IntKind.i64.wrap (people * (q + q)) = people * (q + q) := IntWalk.i64_in _ (by omega)
    have W4' : IntKind.i64.wrap (last + people * (q + q)) = last + people * (q + q) := IntWalk.i64_in _ (by omega)
    have W5' : IntKind.i64.wrap (-people) = -people := IntWalk.i64_in _ (by omega)
    have W6' : IntKind.i64.wrap (s.open_ + s.dwell) = s.open_ + s.dwell := IntWalk.i64_in _ (by omega)
    have W7' : IntKind.i64.wrap (s.open_ + s.dwell + s.close) = s.open_ + s.dwell + s.close := IntWalk.i64_in _ (by omega)
    clear hE1 hE2 hE3 hE4 fgap
    simp only [List.append]
    refine wp_region_grow (by kernel_rfl) (by kernel_rfl) ?_
    repeat (go_big_quiet_step ((first | (go_at_call 16; with_reducible exact grow_of (bound_Quiet s A C _ hs)) | (go_at_call 17; with_reducible exact grow_of (bound_Each s A C _ hs)) | (go_at_call 18; with_reducible exact grow_of (bound_Enough s A C people last _ hs (by omega) (by omega) (by omega) (by omega))) | (go_at_call 19; with_reducible exact grow_of (bound_Round s A C _ hs)) | (go_at_call 20; with_reducible exact grow_of (bound_Stop s A C _ _ hs (by omega) (by omega))) | (go_at_call 21; with_reducible exact grow_of (bound_Trip s A C people _ hs (by omega) (by omega))) | (go_at_call 22; with_reducible exact grow_of (alive23 _)))))
    refine wpQuiet_nil ?_
    intro w3 hb3
    go_wp2
    go_ret
    exact ⟨rfl, hfin.trans (hb3.mono hfin.size)⟩
  · have hnb : (n != 0) = true := by simpa using hn0
    clear hn hn0
    go_wp2
    go_ret
    exact ⟨rfl, hfin⟩

set_option maxRecDepth 100000 in
set_option maxHeartbeats 4000000 in
theorem bt_3 (s : Scen) (A : Option Addr) (C : Nat) (people last : Int) (W : World) (hsl : RSlice 3 RSeg W [.slice A s.segs.length C] s.segs) (h8 : ¬ 8 < s.segs.length) (p0 : 0 ≤ people) (p1 : people ≤ 1073741824) (l0 : 0 ≤ last) (l1 : last ≤ 1073741824) (hm : s.dwell < s.transfer) (hc : people ≤ s.capacity) (hp : people ≤ 0) :
    Calls Try.prog 3 #[s.val A C, .int .i64 people, .int .i64 last] W fun e W' => e = .returned (.bool true) ∧ Below W.heap.size W W' := by
  go_enter Try.func3, Try.ntmps3
  go_wp2_with fail
  obtain ⟨hBW1, hcW1, hzW1⟩ := box W 25 (s.cells A C).toArray
  change Calls _ _ _ (W.alloc (.cells (s.cells A C).toArray 25)) _
  generalize (W.alloc (.cells (s.cells A C).toArray 25)) = W1 at *
  refine (check_any s A C _ (RSlice.stays RSeg.stays _ _ _ _ hsl hBW1)).mono ?_
  rintro e w2 ⟨n, rfl, hn, hb⟩
  have hq : ∀ i, w2.cell? ⟨W.heap.size, i, none⟩ = (s.cells A C).toArray[i]? := fun i => (hb.cell (p := ⟨W.heap.size, i, none⟩) (by show W.heap.size < W1.heap.size; omega)).trans (hcW1 i)
  have hfin : Below W.heap.size W w2 := hBW1.trans (hb.mono hBW1.size)
  have hlt : W.heap.size < w2.heap.size := by have := hb.size; omega
  clear hb hcW1 hzW1 hBW1
  by_cases hn0 : n = 0
  · subst hn0
    have hfine := hn rfl
    have hs := small_of hfine
    clear hn
    obtain ⟨x1, x2, x3, x4, x5, x6, x7, x8, _⟩ := hfine
    have f0 : 0 ≤ s.floors * s.gap := Int.mul_nonneg (by omega) (by omega)
    have f1 : s.floors * s.gap ≤ 128 * 16 := Int.mul_le_mul (by omega) (by omega) (by omega) (by omega)
    have t0 : 0 ≤ people * s.transfer := Int.mul_nonneg (by omega) (by omega)
    have t1 : people * s.transfer ≤ 1073741824 * 64 := Int.mul_le_mul (by omega) (by omega) (by omega) (by omega)
    have n0 : 0 ≤ s.capacity * s.transfer := Int.mul_nonneg (by omega) (by omega)
    have n1 : s.capacity * s.transfer ≤ 64 * 64 := Int.mul_le_mul (by omega) (by omega) (by omega) (by omega)
    have m0 : 0 ≤ people * (s.open_ + s.transfer + s.dwell + s.close) := Int.mul_nonneg (by omega) (by omega)
    have m1 : people * (s.open_ + s.transfer + s.dwell + s.close) ≤ 1073741824 * 256 := Int.mul_le_mul (by omega) (by omega) (by omega) (by omega)
    have k0 : 0 ≤ s.capacity * (s.open_ + s.transfer + s.dwell + s.close) := Int.mul_nonneg (by omega) (by omega)
    have k1 : s.capacity * (s.open_ + s.transfer + s.dwell + s.close) ≤ 64 * 256 := Int.mul_le_mul (by omega) (by omega) (by omega) (by omega)
    have hng : ¬ -people < 0 := by omega
    have hz : -people * s.transfer = 0 := by rw [show -people = 0 from by omega, Int.zero_mul]
    go_wp2_with fail
    generalize hE1 : (s.floors * s.gap - s.gap) = h at *
    generalize hE2 : (s.open_ + s.open_ + s.transfer + s.dwell + s.close + h + s.gap + 4) = q at *
    generalize hE3 : (s.open_ + people * s.transfer + s.dwell + s.close) = st at *
    generalize hE4 : (h + h + s.open_ + people * s.transfer + s.dwell + s.close + people * (s.open_ + s.transfer + s.dwell + s.close)) = tr at *
    have fgap : (s.floors - 1) * s.gap = h := by rw [Int.sub_mul]; omega
    have hQ : s.quiet = q := by unfold Scen.quiet; rw [fgap]; omega
    have hS : s.stop people = st := by unfold Scen.stop; rw [show max people 0 = people from by omega]; omega
    have hN : s.stop (-people) = s.open_ + s.dwell + s.close := by unfold Scen.stop; rw [show max (-people) 0 = 0 from by omega]; omega
    have hT : s.trip people = tr := by
      unfold Scen.trip Scen.stop
      rw [fgap]
      rw [show tripN s people = people from by unfold tripN; omega, show max people 0 = people from by omega]
      rw [show max (1 : Int) 0 = 1 from by omega, show s.open_ + 1 * s.transfer + s.dwell + s.close = s.open_ + s.transfer + s.dwell + s.close from by omega]
      omega
    have qb := quiet_bd hs
    rw [hQ] at qb
    have e0 : -32 * people ≤ people * (q + q) := by rw [Int.mul_comm]; exact Int.mul_le_mul_of_nonneg_left (by omega) p0
    have e1 : people * (q + q) ≤ people * 8192 := Int.mul_le_mul_of_nonneg_left (by omega) p0
    have hR : (2 * ((s.floors - 1) * s.gap) == h + h) = true := by rw [fgap]; simp; omega
    have hE : (2 * q == q + q) = true := by simp; omega
    have hF : (last + people * (2 * q) == last + people * (q + q)) = true := by rw [show 2 * q = q + q from by omega]; simp
    have W1' : IntKind.i64.wrap (q + q) = q + q := IntWalk.i64_in _ (by omega)
    have W2' : IntKind.i64.wrap (h + h) = h + h := IntWalk.i64_in _ (by omega)
    have W3' : IntKind.i64.wrap (people * (q + q)) = people * (q + q) := IntWalk.i64_in _ (by omega)
    have W4' : IntKind.i64.wrap (last + people * (q + q)) = last + people * (q + q) := IntWalk.i64_in _ (by omega)
    have W5' : IntKind.i64.wrap (-people) = -people := IntWalk.i64_in _ (by omega)
    have W6' : IntKind.i64.wrap (s.open_ + s.dwell) = s.open_ + s.dwell := IntWalk.i64_in _ (by omega)
    have W7' : IntKind.i64.wrap (s.open_ + s.dwell + s.close) = s.open_ + s.dwell + s.close := IntWalk.i64_in _ (by omega)
    clear hE1 hE2 hE3 hE4 fgap
    simp only [List.append]
    refine wp_region_grow (by kernel_rfl) (by kernel_rfl) ?_
    repeat (go_big_quiet_step ((first | (go_at_call 16; with_reducible exact grow_of (bound_Quiet s A C _ hs)) | (go_at_call 17; with_reducible exact grow_of (bound_Each s A C _ hs)) | (go_at_call 18; with_reducible exact grow_of (bound_Enough s A C people last _ hs (by omega) (by omega) (by omega) (by omega))) | (go_at_call 19; with_reducible exact grow_of (bound_Round s A C _ hs)) | (go_at_call 20; with_reducible exact grow_of (bound_Stop s A C _ _ hs (by omega) (by omega))) | (go_at_call 21; with_reducible exact grow_of (bound_Trip s A C people _ hs (by omega) (by omega))) | (go_at_call 22; with_reducible exact grow_of (alive23 _)))))
    refine wpQuiet_nil ?_
    intro w3 hb3
    go_wp2
    go_ret
    exact ⟨rfl, hfin.trans (hb3.mono hfin.size)⟩
  · have hnb : (n != 0) = true := by simpa using hn0
    clear hn hn0
    go_wp2
    go_ret
    exact ⟨rfl, hfin⟩

set_option maxRecDepth 100000 in
set_option maxHeartbeats 4000000 in
theorem bt_4 (s : Scen) (A : Option Addr) (C : Nat) (people last : Int) (W : World) (hsl : RSlice 3 RSeg W [.slice A s.segs.length C] s.segs) (h8 : ¬ 8 < s.segs.length) (p0 : 0 ≤ people) (p1 : people ≤ 1073741824) (l0 : 0 ≤ last) (l1 : last ≤ 1073741824) (hm : s.transfer ≤ s.dwell) (hc : s.capacity < people) :
    Calls Try.prog 3 #[s.val A C, .int .i64 people, .int .i64 last] W fun e W' => e = .returned (.bool true) ∧ Below W.heap.size W W' := by
  go_enter Try.func3, Try.ntmps3
  go_wp2_with fail
  obtain ⟨hBW1, hcW1, hzW1⟩ := box W 25 (s.cells A C).toArray
  change Calls _ _ _ (W.alloc (.cells (s.cells A C).toArray 25)) _
  generalize (W.alloc (.cells (s.cells A C).toArray 25)) = W1 at *
  refine (check_any s A C _ (RSlice.stays RSeg.stays _ _ _ _ hsl hBW1)).mono ?_
  rintro e w2 ⟨n, rfl, hn, hb⟩
  have hq : ∀ i, w2.cell? ⟨W.heap.size, i, none⟩ = (s.cells A C).toArray[i]? := fun i => (hb.cell (p := ⟨W.heap.size, i, none⟩) (by show W.heap.size < W1.heap.size; omega)).trans (hcW1 i)
  have hfin : Below W.heap.size W w2 := hBW1.trans (hb.mono hBW1.size)
  have hlt : W.heap.size < w2.heap.size := by have := hb.size; omega
  clear hb hcW1 hzW1 hBW1
  by_cases hn0 : n = 0
  · subst hn0
    have hfine := hn rfl
    have hs := small_of hfine
    clear hn
    obtain ⟨x1, x2, x3, x4, x5, x6, x7, x8, _⟩ := hfine
    have f0 : 0 ≤ s.floors * s.gap := Int.mul_nonneg (by omega) (by omega)
    have f1 : s.floors * s.gap ≤ 128 * 16 := Int.mul_le_mul (by omega) (by omega) (by omega) (by omega)
    have t0 : 0 ≤ people * s.transfer := Int.mul_nonneg (by omega) (by omega)
    have t1 : people * s.transfer ≤ 1073741824 * 64 := Int.mul_le_mul (by omega) (by omega) (by omega) (by omega)
    have n0 : 0 ≤ s.capacity * s.transfer := Int.mul_nonneg (by omega) (by omega)
    have n1 : s.capacity * s.transfer ≤ 64 * 64 := Int.mul_le_mul (by omega) (by omega) (by omega) (by omega)
    have m0 : 0 ≤ people * (s.open_ + s.transfer + s.dwell + s.close) := Int.mul_nonneg (by omega) (by omega)
    have m1 : people * (s.open_ + s.transfer + s.dwell + s.close) ≤ 1073741824 * 256 := Int.mul_le_mul (by omega) (by omega) (by omega) (by omega)
    have k0 : 0 ≤ s.capacity * (s.open_ + s.transfer + s.dwell + s.close) := Int.mul_nonneg (by omega) (by omega)
    have k1 : s.capacity * (s.open_ + s.transfer + s.dwell + s.close) ≤ 64 * 256 := Int.mul_le_mul (by omega) (by omega) (by omega) (by omega)
    have hng : -people < 0 := by omega
    go_wp2_with fail
    generalize hE1 : (s.floors * s.gap - s.gap) = h at *
    generalize hE2 : (s.open_ + s.open_ + s.dwell + s.dwell + s.close + h + s.gap + 4) = q at *
    generalize hE3 : (s.open_ + people * s.transfer + s.dwell + s.close) = st at *
    generalize hE4 : (h + h + s.open_ + s.capacity * s.transfer + s.dwell + s.close + s.capacity * (s.open_ + s.transfer + s.dwell + s.close)) = tr at *
    have fgap : (s.floors - 1) * s.gap = h := by rw [Int.sub_mul]; omega
    have hQ : s.quiet = q := by unfold Scen.quiet; rw [fgap]; omega
    have hS : s.stop people = st := by unfold Scen.stop; rw [show max people 0 = people from by omega]; omega
    have hN : s.stop (-people) = s.open_ + s.dwell + s.close := by unfold Scen.stop; rw [show max (-people) 0 = 0 from by omega]; omega
    have hT : s.trip people = tr := by
      unfold Scen.trip Scen.stop
      rw [fgap]
      rw [show tripN s people = s.capacity from by unfold tripN; omega, show max s.capacity 0 = s.capacity from by omega]
      rw [show max (1 : Int) 0 = 1 from by omega, show s.open_ + 1 * s.transfer + s.dwell + s.close = s.open_ + s.transfer + s.dwell + s.close from by omega]
      omega
    have qb := quiet_bd hs
    rw [hQ] at qb
    have e0 : -32 * people ≤ people * (q + q) := by rw [Int.mul_comm]; exact Int.mul_le_mul_of_nonneg_left (by omega) p0
    have e1 : people * (q + q) ≤ people * 8192 := Int.mul_le_mul_of_nonneg_left (by omega) p0
    have hR : (2 * ((s.floors - 1) * s.gap) == h + h) = true := by rw [fgap]; simp; omega
    have hE : (2 * q == q + q) = true := by simp; omega
    have hF : (last + people * (2 * q) == last + people * (q + q)) = true := by rw [show 2 * q = q + q from by omega]; simp
    have W1' : IntKind.i64.wrap (q + q) = q + q := IntWalk.i64_in _ (by omega)
    have W2' : IntKind.i64.wrap (h + h) = h + h := IntWalk.i64_in _ (by omega)
    have W3' : IntKind.i64.wrap (people * (q + q)) = people * (q + q) := IntWalk.i64_in _ (by omega)
    have W4' : IntKind.i64.wrap (last + people * (q + q)) = last + people * (q + q) := IntWalk.i64_in _ (by omega)
    have W5' : IntKind.i64.wrap (-people) = -people := IntWalk.i64_in _ (by omega)
    have W6' : IntKind.i64.wrap (s.open_ + s.dwell) = s.open_ + s.dwell := IntWalk.i64_in _ (by omega)
    have W7' : IntKind.i64.wrap (s.open_ + s.dwell + s.close) = s.open_ + s.dwell + s.close := IntWalk.i64_in _ (by omega)
    clear hE1 hE2 hE3 hE4 fgap
    simp only [List.append]
    refine wp_region_grow (by kernel_rfl) (by kernel_rfl) ?_
    repeat (go_big_quiet_step ((first | (go_at_call 16; with_reducible exact grow_of (bound_Quiet s A C _ hs)) | (go_at_call 17; with_reducible exact grow_of (bound_Each s A C _ hs)) | (go_at_call 18; with_reducible exact grow_of (bound_Enough s A C people last _ hs (by omega) (by omega) (by omega) (by omega))) | (go_at_call 19; with_reducible exact grow_of (bound_Round s A C _ hs)) | (go_at_call 20; with_reducible exact grow_of (bound_Stop s A C _ _ hs (by omega) (by omega))) | (go_at_call 21; with_reducible exact grow_of (bound_Trip s A C people _ hs (by omega) (by omega))) | (go_at_call 22; with_reducible exact grow_of (alive23 _)))))
    refine wpQuiet_nil ?_
    intro w3 hb3
    go_wp2
    go_ret
    exact ⟨rfl, hfin.trans (hb3.mono hfin.size)⟩
  · have hnb : (n != 0) = true := by simpa using hn0
    clear hn hn0
    go_wp2
    go_ret
    exact ⟨rfl, hfin⟩

set_option maxRecDepth 100000 in
set_option maxHeartbeats 4000000 in
theorem bt_6 (s : Scen) (A : Option Addr) (C : Nat) (people last : Int) (W : World) (hsl : RSlice 3 RSeg W [.slice A s.segs.length C] s.segs) (h8 : ¬ 8 < s.segs.length) (p0 : 0 ≤ people) (p1 : people ≤ 1073741824) (l0 : 0 ≤ last) (l1 : last ≤ 1073741824) (hm : s.transfer ≤ s.dwell) (hc : people ≤ s.capacity) (hp : 0 < people) :
    Calls Try.prog 3 #[s.val A C, .int .i64 people, .int .i64 last] W fun e W' => e = .returned (.bool true) ∧ Below W.heap.size W W' := by
  go_enter Try.func3, Try.ntmps3
  go_wp2_with fail
  obtain ⟨hBW1, hcW1, hzW1⟩ := box W 25 (s.cells A C).toArray
  change Calls _ _ _ (W.alloc (.cells (s.cells A C).toArray 25)) _
  generalize (W.alloc (.cells (s.cells A C).toArray 25)) = W1 at *
  refine (check_any s A C _ (RSlice.stays RSeg.stays _ _ _ _ hsl hBW1)).mono ?_
  rintro e w2 ⟨n, rfl, hn, hb⟩
  have hq : ∀ i, w2.cell? ⟨W.heap.size, i, none⟩ = (s.cells A C).toArray[i]? := fun i => (hb.cell (p := ⟨W.heap.size, i, none⟩) (by show W.heap.size < W1.heap.size; omega)).trans (hcW1 i)
  have hfin : Below W.heap.size W w2 := hBW1.trans (hb.mono hBW1.size)
  have hlt : W.heap.size < w2.heap.size := by have := hb.size; omega
  clear hb hcW1 hzW1 hBW1
  by_cases hn0 : n = 0
  · subst hn0
    have hfine := hn rfl
    have hs := small_of hfine
    clear hn
    obtain ⟨x1, x2, x3, x4, x5, x6, x7, x8, _⟩ := hfine
    have f0 : 0 ≤ s.floors * s.gap := Int.mul_nonneg (by omega) (by omega)
    have f1 : s.floors * s.gap ≤ 128 * 16 := Int.mul_le_mul (by omega) (by omega) (by omega) (by omega)
    have t0 : 0 ≤ people * s.transfer := Int.mul_nonneg (by omega) (by omega)
    have t1 : people * s.transfer ≤ 1073741824 * 64 := Int.mul_le_mul (by omega) (by omega) (by omega) (by omega)
    have n0 : 0 ≤ s.capacity * s.transfer := Int.mul_nonneg (by omega) (by omega)
    have n1 : s.capacity * s.transfer ≤ 64 * 64 := Int.mul_le_mul (by omega) (by omega) (by omega) (by omega)
    have m0 : 0 ≤ people * (s.open_ + s.transfer + s.dwell + s.close) := Int.mul_nonneg (by omega) (by omega)
    have m1 : people * (s.open_ + s.transfer + s.dwell + s.close) ≤ 1073741824 * 256 := Int.mul_le_mul (by omega) (by omega) (by omega) (by omega)
    have k0 : 0 ≤ s.capacity * (s.open_ + s.transfer + s.dwell + s.close) := Int.mul_nonneg (by omega) (by omega)
    have k1 : s.capacity * (s.open_ + s.transfer + s.dwell + s.close) ≤ 64 * 256 := Int.mul_le_mul (by omega) (by omega) (by omega) (by omega)
    have hng : -people < 0 := by omega
    go_wp2_with fail
    generalize hE1 : (s.floors * s.gap - s.gap) = h at *
    generalize hE2 : (s.open_ + s.open_ + s.dwell + s.dwell + s.close + h + s.gap + 4) = q at *
    generalize hE3 : (s.open_ + people * s.transfer + s.dwell + s.close) = st at *
    generalize hE4 : (h + h + s.open_ + people * s.transfer + s.dwell + s.close + people * (s.open_ + s.transfer + s.dwell + s.close)) = tr at *
    have fgap : (s.floors - 1) * s.gap = h := by rw [Int.sub_mul]; omega
    have hQ : s.quiet = q := by unfold Scen.quiet; rw [fgap]; omega
    have hS : s.stop people = st := by unfold Scen.stop; rw [show max people 0 = people from by omega]; omega
    have hN : s.stop (-people) = s.open_ + s.dwell + s.close := by unfold Scen.stop; rw [show max (-people) 0 = 0 from by omega]; omega
    have hT : s.trip people = tr := by
      unfold Scen.trip Scen.stop
      rw [fgap]
      rw [show tripN s people = people from by unfold tripN; omega, show max people 0 = people from by omega]
      rw [show max (1 : Int) 0 = 1 from by omega, show s.open_ + 1 * s.transfer + s.dwell + s.close = s.open_ + s.transfer + s.dwell + s.close from by omega]
      omega
    have qb := quiet_bd hs
    rw [hQ] at qb
    have e0 : -32 * people ≤ people * (q + q) := by rw [Int.mul_comm]; exact Int.mul_le_mul_of_nonneg_left (by omega) p0
    have e1 : people * (q + q) ≤ people * 8192 := Int.mul_le_mul_of_nonneg_left (by omega) p0
    have hR : (2 * ((s.floors - 1) * s.gap) == h + h) = true := by rw [fgap]; simp; omega
    have hE : (2 * q == q + q) = true := by simp; omega
    have hF : (last + people * (2 * q) == last + people * (q + q)) = true := by rw [show 2 * q = q + q from by omega]; simp
    have W1' : IntKind.i64.wrap (q + q) = q + q := IntWalk.i64_in _ (by omega)
    have W2' : IntKind.i64.wrap (h + h) = h + h := IntWalk.i64_in _ (by omega)
    have W3' : IntKind.i64.wrap (people * (q + q)) = people * (q + q) := IntWalk.i64_in _ (by omega)
    have W4' : IntKind.i64.wrap (last + people * (q + q)) = last + people * (q + q) := IntWalk.i64_in _ (by omega)
    have W5' : IntKind.i64.wrap (-people) = -people := IntWalk.i64_in _ (by omega)
    have W6' : IntKind.i64.wrap (s.open_ + s.dwell) = s.open_ + s.dwell := IntWalk.i64_in _ (by omega)
    have W7' : IntKind.i64.wrap (s.open_ + s.dwell + s.close) = s.open_ + s.dwell + s.close := IntWalk.i64_in _ (by omega)
    clear hE1 hE2 hE3 hE4 fgap
    simp only [List.append]
    refine wp_region_grow (by kernel_rfl) (by kernel_rfl) ?_
    repeat (go_big_quiet_step ((first | (go_at_call 16; with_reducible exact grow_of (bound_Quiet s A C _ hs)) | (go_at_call 17; with_reducible exact grow_of (bound_Each s A C _ hs)) | (go_at_call 18; with_reducible exact grow_of (bound_Enough s A C people last _ hs (by omega) (by omega) (by omega) (by omega))) | (go_at_call 19; with_reducible exact grow_of (bound_Round s A C _ hs)) | (go_at_call 20; with_reducible exact grow_of (bound_Stop s A C _ _ hs (by omega) (by omega))) | (go_at_call 21; with_reducible exact grow_of (bound_Trip s A C people _ hs (by omega) (by omega))) | (go_at_call 22; with_reducible exact grow_of (alive23 _)))))
    refine wpQuiet_nil ?_
    intro w3 hb3
    go_wp2
    go_ret
    exact ⟨rfl, hfin.trans (hb3.mono hfin.size)⟩
  · have hnb : (n != 0) = true := by simpa using hn0
    clear hn hn0
    go_wp2
    go_ret
    exact ⟨rfl, hfin⟩

set_option maxRecDepth 100000 in
set_option maxHeartbeats 4000000 in
theorem bt_7 (s : Scen) (A : Option Addr) (C : Nat) (people last : Int) (W : World) (hsl : RSlice 3 RSeg W [.slice A s.segs.length C] s.segs) (h8 : ¬ 8 < s.segs.length) (p0 : 0 ≤ people) (p1 : people ≤ 1073741824) (l0 : 0 ≤ last) (l1 : last ≤ 1073741824) (hm : s.transfer ≤ s.dwell) (hc : people ≤ s.capacity) (hp : people ≤ 0) :
    Calls Try.prog 3 #[s.val A C, .int .i64 people, .int .i64 last] W fun e W' => e = .returned (.bool true) ∧ Below W.heap.size W W' := by
  go_enter Try.func3, Try.ntmps3
  go_wp2_with fail
  obtain ⟨hBW1, hcW1, hzW1⟩ := box W 25 (s.cells A C).toArray
  change Calls _ _ _ (W.alloc (.cells (s.cells A C).toArray 25)) _
  generalize (W.alloc (.cells (s.cells A C).toArray 25)) = W1 at *
  refine (check_any s A C _ (RSlice.stays RSeg.stays _ _ _ _ hsl hBW1)).mono ?_
  rintro e w2 ⟨n, rfl, hn, hb⟩
  have hq : ∀ i, w2.cell? ⟨W.heap.size, i, none⟩ = (s.cells A C).toArray[i]? := fun i => (hb.cell (p := ⟨W.heap.size, i, none⟩) (by show W.heap.size < W1.heap.size; omega)).trans (hcW1 i)
  have hfin : Below W.heap.size W w2 := hBW1.trans (hb.mono hBW1.size)
  have hlt : W.heap.size < w2.heap.size := by have := hb.size; omega
  clear hb hcW1 hzW1 hBW1
  by_cases hn0 : n = 0
  · subst hn0
    have hfine := hn rfl
    have hs := small_of hfine
    clear hn
    obtain ⟨x1, x2, x3, x4, x5, x6, x7, x8, _⟩ := hfine
    have f0 : 0 ≤ s.floors * s.gap := Int.mul_nonneg (by omega) (by omega)
    have f1 : s.floors * s.gap ≤ 128 * 16 := Int.mul_le_mul (by omega) (by omega) (by omega) (by omega)
    have t0 : 0 ≤ people * s.transfer := Int.mul_nonneg (by omega) (by omega)
    have t1 : people * s.transfer ≤ 1073741824 * 64 := Int.mul_le_mul (by omega) (by omega) (by omega) (by omega)
    have n0 : 0 ≤ s.capacity * s.transfer := Int.mul_nonneg (by omega) (by omega)
    have n1 : s.capacity * s.transfer ≤ 64 * 64 := Int.mul_le_mul (by omega) (by omega) (by omega) (by omega)
    have m0 : 0 ≤ people * (s.open_ + s.transfer + s.dwell + s.close) := Int.mul_nonneg (by omega) (by omega)
    have m1 : people * (s.open_ + s.transfer + s.dwell + s.close) ≤ 1073741824 * 256 := Int.mul_le_mul (by omega) (by omega) (by omega) (by omega)
    have k0 : 0 ≤ s.capacity * (s.open_ + s.transfer + s.dwell + s.close) := Int.mul_nonneg (by omega) (by omega)
    have k1 : s.capacity * (s.open_ + s.transfer + s.dwell + s.close) ≤ 64 * 256 := Int.mul_le_mul (by omega) (by omega) (by omega) (by omega)
    have hng : ¬ -people < 0 := by omega
    have hz : -people * s.transfer = 0 := by rw [show -people = 0 from by omega, Int.zero_mul]
    go_wp2_with fail
    generalize hE1 : (s.floors * s.gap - s.gap) = h at *
    generalize hE2 : (s.open_ + s.open_ + s.dwell + s.dwell + s.close + h + s.gap + 4) = q at *
    generalize hE3 : (s.open_ + people * s.transfer + s.dwell + s.close) = st at *
    generalize hE4 : (h + h + s.open_ + people * s.transfer + s.dwell + s.close + people * (s.open_ + s.transfer + s.dwell + s.close)) = tr at *
    have fgap : (s.floors - 1) * s.gap = h := by rw [Int.sub_mul]; omega
    have hQ : s.quiet = q := by unfold Scen.quiet; rw [fgap]; omega
    have hS : s.stop people = st := by unfold Scen.stop; rw [show max people 0 = people from by omega]; omega
    have hN : s.stop (-people) = s.open_ + s.dwell + s.close := by unfold Scen.stop; rw [show max (-people) 0 = 0 from by omega]; omega
    have hT : s.trip people = tr := by
      unfold Scen.trip Scen.stop
      rw [fgap]
      rw [show tripN s people = people from by unfold tripN; omega, show max people 0 = people from by omega]
      rw [show max (1 : Int) 0 = 1 from by omega, show s.open_ + 1 * s.transfer + s.dwell + s.close = s.open_ + s.transfer + s.dwell + s.close from by omega]
      omega
    have qb := quiet_bd hs
    rw [hQ] at qb
    have e0 : -32 * people ≤ people * (q + q) := by rw [Int.mul_comm]; exact Int.mul_le_mul_of_nonneg_left (by omega) p0
    have e1 : people * (q + q) ≤ people * 8192 := Int.mul_le_mul_of_nonneg_left (by omega) p0
    have hR : (2 * ((s.floors - 1) * s.gap) == h + h) = true := by rw [fgap]; simp; omega
    have hE : (2 * q == q + q) = true := by simp; omega
    have hF : (last + people * (2 * q) == last + people * (q + q)) = true := by rw [show 2 * q = q + q from by omega]; simp
    have W1' : IntKind.i64.wrap (q + q) = q + q := IntWalk.i64_in _ (by omega)
    have W2' : IntKind.i64.wrap (h + h) = h + h := IntWalk.i64_in _ (by omega)
    have W3' : IntKind.i64.wrap (people * (q + q)) = people * (q + q) := IntWalk.i64_in _ (by omega)
    have W4' : IntKind.i64.wrap (last + people * (q + q)) = last + people * (q + q) := IntWalk.i64_in _ (by omega)
    have W5' : IntKind.i64.wrap (-people) = -people := IntWalk.i64_in _ (by omega)
    have W6' : IntKind.i64.wrap (s.open_ + s.dwell) = s.open_ + s.dwell := IntWalk.i64_in _ (by omega)
    have W7' : IntKind.i64.wrap (s.open_ + s.dwell + s.close) = s.open_ + s.dwell + s.close := IntWalk.i64_in _ (by omega)
    clear hE1 hE2 hE3 hE4 fgap
    simp only [List.append]
    refine wp_region_grow (by kernel_rfl) (by kernel_rfl) ?_
    repeat (go_big_quiet_step ((first | (go_at_call 16; with_reducible exact grow_of (bound_Quiet s A C _ hs)) | (go_at_call 17; with_reducible exact grow_of (bound_Each s A C _ hs)) | (go_at_call 18; with_reducible exact grow_of (bound_Enough s A C people last _ hs (by omega) (by omega) (by omega) (by omega))) | (go_at_call 19; with_reducible exact grow_of (bound_Round s A C _ hs)) | (go_at_call 20; with_reducible exact grow_of (bound_Stop s A C _ _ hs (by omega) (by omega))) | (go_at_call 21; with_reducible exact grow_of (bound_Trip s A C people _ hs (by omega) (by omega))) | (go_at_call 22; with_reducible exact grow_of (alive23 _)))))
    refine wpQuiet_nil ?_
    intro w3 hb3
    go_wp2
    go_ret
    exact ⟨rfl, hfin.trans (hb3.mono hfin.size)⟩
  · have hnb : (n != 0) = true := by simpa using hn0
    clear hn hn0
    go_wp2
    go_ret
    exact ⟨rfl, hfin⟩

set_option maxRecDepth 100000 in
set_option maxHeartbeats 4000000 in
theorem bt_bad (s : Scen) (A : Option Addr) (C : Nat) (people last : Int) (W : World) (hsl : RSlice 3 RSeg W [.slice A s.segs.length C] s.segs) (h8 : ¬ 8 < s.segs.length) (hbad : people < 0 ∨ 1073741824 < people ∨ last < 0 ∨ 1073741824 < last) :
    Calls Try.prog 3 #[s.val A C, .int .i64 people, .int .i64 last] W fun e W' => e = .returned (.bool true) ∧ Below W.heap.size W W' := by
  go_enter Try.func3, Try.ntmps3
  go_wp2_with fail
  obtain ⟨hBW1, hcW1, hzW1⟩ := box W 25 (s.cells A C).toArray
  change Calls _ _ _ (W.alloc (.cells (s.cells A C).toArray 25)) _
  generalize (W.alloc (.cells (s.cells A C).toArray 25)) = W1 at *
  refine (check_any s A C _ (RSlice.stays RSeg.stays _ _ _ _ hsl hBW1)).mono ?_
  rintro e w2 ⟨n, rfl, hn, hb⟩
  have hq : ∀ i, w2.cell? ⟨W.heap.size, i, none⟩ = (s.cells A C).toArray[i]? := fun i => (hb.cell (p := ⟨W.heap.size, i, none⟩) (by show W.heap.size < W1.heap.size; omega)).trans (hcW1 i)
  have hfin : Below W.heap.size W w2 := hBW1.trans (hb.mono hBW1.size)
  have hlt : W.heap.size < w2.heap.size := by have := hb.size; omega
  clear hb hcW1 hzW1 hBW1
  by_cases hn0 : n = 0
  · subst hn0
    clear hn
    go_wp2
    all_goals go_ret
    all_goals exact ⟨rfl, hfin⟩
  · have hnb : (n != 0) = true := by simpa using hn0
    clear hn hn0
    go_wp2
    go_ret
    exact ⟨rfl, hfin⟩

set_option maxRecDepth 100000 in
theorem bound_law (s : Scen) (A : Option Addr) (C : Nat) (people last : Int) (W : World) (hsl : RSlice 3 RSeg W [.slice A s.segs.length C] s.segs) :
    Calls Try.prog 3 #[s.val A C, .int .i64 people, .int .i64 last] W fun e W' => e = .returned (.bool true) ∧ Below W.heap.size W W' := by
  by_cases h8 : 8 < s.segs.length
  · go_enter Try.func3, Try.ntmps3
    go_wp2
    go_ret
    exact ⟨rfl, below_alloc1 _ _⟩
  · by_cases hpl : 0 ≤ people ∧ people ≤ 1073741824 ∧ 0 ≤ last ∧ last ≤ 1073741824
    · obtain ⟨p0, p1, l0, l1⟩ := hpl
      rcases Int.lt_or_le s.dwell s.transfer with hm | hm
      · rcases Int.lt_or_le s.capacity people with hc | hc
        · exact bt_0 s A C people last W hsl h8 p0 p1 l0 l1 hm hc
        · rcases Int.lt_or_le 0 people with hp | hp
          · exact bt_2 s A C people last W hsl h8 p0 p1 l0 l1 hm hc hp
          · exact bt_3 s A C people last W hsl h8 p0 p1 l0 l1 hm hc hp
      · rcases Int.lt_or_le s.capacity people with hc | hc
        · exact bt_4 s A C people last W hsl h8 p0 p1 l0 l1 hm hc
        · rcases Int.lt_or_le 0 people with hp | hp
          · exact bt_6 s A C people last W hsl h8 p0 p1 l0 l1 hm hc hp
          · exact bt_7 s A C people last W hsl h8 p0 p1 l0 l1 hm hc hp
    · exact bt_bad s A C people last W hsl h8 (by omega)
set_option maxRecDepth 100000 in
theorem walkBoundTells {H : Type} (W : World) (base : Nat) (enc : TypeId × Value → H) {v0 : Value} {d0 : DataW H} {p0 : List MemPlace} {v1 : Value} {d1 : DataW H} {p1 : List MemPlace} {v2 : Value} {d2 : DataW H} {p2 : List MemPlace}
    (h0 : DataW.Trod enc Try.prog W 0 (fun _ => true) true 25 v0 d0 p0) (h1 : DataW.Trod enc Try.prog W 0 (fun _ => true) true 3 v1 d1 p1) (h2 : DataW.Trod enc Try.prog W 0 (fun _ => true) true 3 v2 d2 p2)
    (o0 : Value.okWide Try.prog W .any base 25 v0) (o1 : Value.okWide Try.prog W .any base 3 v1) (o2 : Value.okWide Try.prog W .any base 3 v2) :
    Calls Try.prog 3 #[v0, v1, v2] W fun e W' => e = .returned (.bool true) ∧ Below W.heap.size W W' := by
  obtain ⟨s, A, C, rfl, hok, hsl⟩ := scen_arg o0 h0
  obtain ⟨people, rfl, -, -⟩ := arg_int o1 h1
  obtain ⟨last, rfl, -, -⟩ := arg_int o2 h2
  exact bound_law s A C people last W hsl
end Go.Proofs.Ytfpmdldngnopjaa

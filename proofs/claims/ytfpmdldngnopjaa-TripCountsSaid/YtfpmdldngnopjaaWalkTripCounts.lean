/-
  The statement TripCounts, walked.
-/
import Derived.Test.YtfpmdldngnopjaaTrip
import Derived.Test.YtfpmdldngnopjaaArgA
set_option linter.unusedVariables false
set_option linter.unusedSimpArgs false
namespace Go.Proofs.Ytfpmdldngnopjaa
open Go.Joins Go.ChangeShapes Go.WideShapes Go.ChangeAt Go.RowKit Go.Deep

set_option maxRecDepth 20000 in
set_option maxHeartbeats 2000000 in
theorem counts_1 (A : Option Addr) (C : Nat) (xs : List Trip) (p : Pass) (w : World) (hx : Trips w A xs) :
    Calls Try.prog 6 #[.slice A xs.length C, p.val] w fun e w' => e = .returned (.bool true) ∧ Below w.heap.size w w' := by
  have HX := Lib.hid hx
  clear hx
  rcases hp : p with ⟨i0, i1, i2, i3⟩
  by_cases h100 : 100 < xs.length
  · go_enter Try.func6, Try.ntmps6
    go_wp2
    go_ret
    exact ⟨rfl, (Below.refl _ _).alloc (Nat.le_refl _) _⟩
  · have hl : xs.length ≤ 100 := by omega
    have cB := fun w => trip_Begin p w
    rw [hp] at cB
    have CB := Lib.hid cB
    clear cB hp
    go_enter Try.func6, Try.ntmps6
    go_wp2
    have HQ := Blk.new w 41 #[.int .i64 i0, .int .i64 i1, .int .i64 i2, .int .i64 i3]
    obtain ⟨hBw1, hcw1, hzw1⟩ := box w 41 #[.int .i64 i0, .int .i64 i1, .int .i64 i2, .int .i64 i3]
    change Code.wp _ _ _ _ (w.alloc (.cells #[.int .i64 i0, .int .i64 i1, .int .i64 i2, .int .i64 i3] 41))
    generalize (w.alloc (.cells #[.int .i64 i0, .int .i64 i1, .int .i64 i2, .int .i64 i3] 41)) = w1 at *
    clear hcw1
    go_loopw [5] (fun i wr => ∃ k : Nat, k ≤ xs.length ∧ i = .int .i64 k ∧ Below w1.heap.size w1 wr) (fun i _ => xs.length - (intOf i).toNat)
    case atStart => exact ⟨0, by omega, rfl, Below.refl _ _⟩
    case round =>
      obtain ⟨k, hk, rfl, hb⟩ := hrel
      have hbw : Below w.heap.size w wr := hBw1.trans (hb.mono hBw1.size)
      by_cases hkl : k < xs.length
      · obtain ⟨b, off, rfl, hbl, hce⟩ := HX.out (by omega)
        obtain ⟨t, ht⟩ := at_some hkl
        have z := fun j u h => (hbw.cell (p := ⟨b, off + k * 7 + j, none⟩) hbl).trans (hce k t ht j u h)
        have z0 := z 0 _ rfl
        have z1 := z 1 _ rfl
        have z2 := z 2 _ rfl
        have z3 := z 3 _ rfl
        have z4 := z 4 _ rfl
        have z5 := z 5 _ rfl
        have z6 := z 6 _ rfl
        simp only [Nat.add_zero] at z0
        have cA := fun w => trip_At t w
        have cR := fun w => ref24_At t w
        generalize phase t = q at *
        obtain ⟨a0, a1, a2, a3, a4, a5, a6⟩ := t
        simp only [Trip.cells] at *
        have CA := Lib.hid cA
        have CR := Lib.hid cR
        have e0 : (q != q) = false := by simp
        have hbr : b < wr.heap.size := by have := hbw.size; omega
        clear z hce ht cA cR
        go_wp2_with fail
        refine wp_region_grow (by kernel_rfl) (by kernel_rfl) ?_
        repeat (go_big_quiet_step ((first | (go_at_call 30; with_reducible exact grow_of (CA.out _)) | (go_at_call 31; with_reducible exact grow_of (CR.out _)))))
        refine wpQuiet_nil ?_
        intro w3 hb3
        have hb4 : Below w1.heap.size w1 w3 := hb.trans (hb3.mono hb.size)
        clear hb3
        go_wp2
        go_roundw
        case rel => exact ⟨k + 1, by omega, by go_num, hb4⟩
        case measure => simp [intOf]; omega
      · have hx1 : Trips wr A xs := HX.out.below hbw
        have HX1 := Lib.hid hx1
        have HQ1 := HQ.below hb (by omega)
        clear hx1
        obtain ⟨n0, n1⟩ := cntP_bd xs 0 xs.length
        obtain ⟨n2, n3⟩ := cntP_bd xs 1 xs.length
        obtain ⟨n4, n5⟩ := cntP_bd xs 2 xs.length
        have hsum := cntP_sum xs xs.length
        have HSUM := Lib.hid hsum
        clear hsum
        go_wp2_with fail
        refine (trip_Counts A C xs _ HX1.out hl).mono ?_
        rintro e w2 ⟨rfl, hb2⟩
        have HX2 := Lib.hid (HX1.out.below hb2)
        have HQ2 := HQ1.below hb2 HQ1.lt
        have hbw2 : Below w.heap.size w w2 := hbw.trans (hb2.mono hbw.size)
        have p0 : w2.cell? ⟨w.heap.size, 0, none⟩ = some (.int .i64 i0) := HQ2.cell 0
        have p1 : w2.cell? ⟨w.heap.size, 1, none⟩ = some (.int .i64 i1) := HQ2.cell 1
        have p2 : w2.cell? ⟨w.heap.size, 2, none⟩ = some (.int .i64 i2) := HQ2.cell 2
        have p3 : w2.cell? ⟨w.heap.size, 3, none⟩ = some (.int .i64 i3) := HQ2.cell 3
        clear hb2 HX1 HQ1 hbw hb HQ hBw1 hzw1
        generalize hg0 : cntP xs 0 xs.length = c0 at *
        generalize hg1 : cntP xs 1 xs.length = c1 at *
        generalize hg2 : cntP xs 2 xs.length = c2 at *
        have HG0 := Lib.hid hg0
        have HG1 := Lib.hid hg1
        have HG2 := Lib.hid hg2
        clear hg0 hg1 hg2
        go_wp2_with fail
        refine (CB.out _).mono ?_
        rintro e w3 ⟨rfl, hb3⟩
        have HX3 := Lib.hid (HX2.out.below hb3)
        have HQ3 := HQ2.below hb3 HQ2.lt
        have hbw3 : Below w.heap.size w w3 := hbw2.trans (hb3.mono hbw2.size)
        clear hb3 HX2 HQ2 hbw2 p0 p1 p2 p3
        go_wp2_with fail
        have HT4 := Blk.new w3 45 #[.int .i64 i0, .int .i64 i1, .int .i64 i2, .int .i64 i3, .int .i64 (-1), .int .i64 (-1), .int .i64 (-1)]
        obtain ⟨hBw4, hcw4, hzw4⟩ := box w3 45 #[.int .i64 i0, .int .i64 i1, .int .i64 i2, .int .i64 i3, .int .i64 (-1), .int .i64 (-1), .int .i64 (-1)]
        change Calls _ _ _ (w3.alloc (.cells #[.int .i64 i0, .int .i64 i1, .int .i64 i2, .int .i64 i3, .int .i64 (-1), .int .i64 (-1), .int .i64 (-1)] 45)) _
        generalize (w3.alloc (.cells #[.int .i64 i0, .int .i64 i1, .int .i64 i2, .int .i64 i3, .int .i64 (-1), .int .i64 (-1), .int .i64 (-1)] 45)) = w4 at *
        have HX4 := Lib.hid (HX3.out.below hBw4)
        have HQ4 := HQ3.below hBw4 HQ3.lt
        have hbw4 : Below w.heap.size w w4 := hbw3.trans (hBw4.mono hbw3.size)
        clear HX3 HQ3 hcw4 hBw4 hzw4 hbw3
        have cM2 := ref24_Many A C xs 2 w4 HX4.out hl
        rw [HG2.out] at cM2
        refine cM2.mono ?_
        rintro e w5 ⟨rfl, hb5⟩
        have HX5 := Lib.hid (HX4.out.below hb5)
        have HQ5 := HQ4.below hb5 HQ4.lt
        have HT5 := HT4.below hb5 HT4.lt
        have hbw5 : Below w.heap.size w w5 := hbw4.trans (hb5.mono hbw4.size)
        have g2 : (c2 == c2) = true := by simp
        have g1 : (c1 == c1) = true := by simp
        have g0 : (c0 == c0) = true := by simp
        clear hb5 HX4 HQ4 HT4 hbw4 cM2
        go_wp2_with fail
        have cM1 := ref24_Many A C xs 1 w5 HX5.out hl
        rw [HG1.out] at cM1
        refine cM1.mono ?_
        rintro e w6 ⟨rfl, hb6⟩
        have HX6 := Lib.hid (HX5.out.below hb6)
        have HQ6 := HQ5.below hb6 HQ5.lt
        have HT6 := HT5.below hb6 HT5.lt
        have hbw6 : Below w.heap.size w w6 := hbw5.trans (hb6.mono hbw5.size)
        clear hb6 HX5 HQ5 HT5 hbw5 cM1
        go_wp2_with fail
        have cM0 := ref24_Many A C xs 0 w6 HX6.out hl
        rw [HG0.out] at cM0
        refine cM0.mono ?_
        rintro e w7 ⟨rfl, hb7⟩
        have HQ7 := HQ6.below hb7 HQ6.lt
        have HT7 := HT6.below hb7 HT6.lt
        have hbw7 : Below w.heap.size w w7 := hbw6.trans (hb7.mono hbw6.size)
        have p0 : w7.cell? ⟨w.heap.size, 0, none⟩ = some (.int .i64 i0) := HQ7.cell 0
        have p1 : w7.cell? ⟨w.heap.size, 1, none⟩ = some (.int .i64 i1) := HQ7.cell 1
        have p2 : w7.cell? ⟨w.heap.size, 2, none⟩ = some (.int .i64 i2) := HQ7.cell 2
        have p3 : w7.cell? ⟨w.heap.size, 3, none⟩ = some (.int .i64 i3) := HQ7.cell 3
        have t0 : w7.cell? ⟨w3.heap.size, 0, none⟩ = some (.int .i64 i0) := HT7.cell 0
        have t1 : w7.cell? ⟨w3.heap.size, 1, none⟩ = some (.int .i64 i1) := HT7.cell 1
        have t2 : w7.cell? ⟨w3.heap.size, 2, none⟩ = some (.int .i64 i2) := HT7.cell 2
        have t3 : w7.cell? ⟨w3.heap.size, 3, none⟩ = some (.int .i64 i3) := HT7.cell 3
        have t4 : w7.cell? ⟨w3.heap.size, 4, none⟩ = some (.int .i64 (-1)) := HT7.cell 4
        have t5 : w7.cell? ⟨w3.heap.size, 5, none⟩ = some (.int .i64 (-1)) := HT7.cell 5
        have t6 : w7.cell? ⟨w3.heap.size, 6, none⟩ = some (.int .i64 (-1)) := HT7.cell 6
        have f0 : (i0 == i0) = true := by simp
        have f1 : (i1 == i1) = true := by simp
        have f2 : (i2 == i2) = true := by simp
        have f3 : (i3 == i3) = true := by simp
        have f4 : (c2 + c1 + c0 == (xs.length : Int)) = true := beq_iff_eq.2 HSUM.out
        clear hb7 HX6 HQ6 HT6 hbw6 cM0
        go_wp2_with fail
        refine (alive24 _).mono ?_
        rintro e w8 ⟨rfl, hb8⟩
        go_wp2
        go_ret
        exact ⟨rfl, hbw7.trans (hb8.mono hbw7.size)⟩

set_option maxRecDepth 100000 in
theorem walkTripCounts {H : Type} (W : World) (base : Nat) (enc : TypeId × Value → H) {v0 : Value} {d0 : DataW H} {p0 : List MemPlace} {v1 : Value} {d1 : DataW H} {p1 : List MemPlace}
    (h0 : DataW.Trod enc Try.prog W 0 (fun _ => true) true 39 v0 d0 p0) (h1 : DataW.Trod enc Try.prog W 0 (fun _ => true) true 41 v1 d1 p1)
    (o0 : Value.okWide Try.prog W .any base 39 v0) (o1 : Value.okWide Try.prog W .any base 41 v1) :
    Calls Try.prog 6 #[v0, v1] W fun e W' => e = .returned (.bool true) ∧ Below W.heap.size W W' := by
  obtain ⟨n, hn⟩ := arg_slice Try.underlying39 o0 h0
  obtain ⟨xs, hxs⟩ := read_slice (size := 7) Try.underlying39 (by kernel_rfl) (by decide) (fun _ _ _ h => read_Trip h) hn
  obtain ⟨A, C, rfl, _, _⟩ := slice_len hxs
  obtain ⟨cs, rfl, m, hm⟩ := arg_agg (.inl ⟨_, Try.underlying41⟩) o1 h1
  obtain ⟨p, rfl, hk⟩ := read_Pass hm
  exact counts_1 A C xs p W (elems_of (ok := fun _ => True) (fun _ _ _ h => h.1) hxs)
end Go.Proofs.Ytfpmdldngnopjaa

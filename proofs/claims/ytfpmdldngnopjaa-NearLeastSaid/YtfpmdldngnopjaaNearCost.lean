/-
  What near.Cost and hoistwayref32.Cost compute, for scenarios and cars within bounds.
-/
import Derived.Test.YtfpmdldngnopjaaNear
import Derived.Test.YtfpmdldngnopjaaBound
set_option linter.unusedVariables false
set_option linter.unusedSimpArgs false
namespace Go.Proofs.Ytfpmdldngnopjaa
open Go.Joins Go.ChangeShapes Go.WideShapes Go.ChangeAt Go.RowKit Go.Deep

def costOf (s : Scen) (c : Car) (floor dir : Int) : Int :=
  if c.dir = 0 then max (c.pos - floor * s.gap) (floor * s.gap - c.pos)
  else if 0 < max (c.pos - floor * s.gap) (floor * s.gap - c.pos) ∧ sg (floor * s.gap - c.pos) ≠ c.dir then max (c.pos - floor * s.gap) (floor * s.gap - c.pos) + 2 * ((s.floors - 1) * s.gap)
  else if dir ≠ c.dir then max (c.pos - floor * s.gap) (floor * s.gap - c.pos) + (s.floors - 1) * s.gap
  else max (c.pos - floor * s.gap) (floor * s.gap - c.pos)

theorem near_Cost (s : Scen) (A : Option Addr) (C : Nat) (c : Car) (A2 : Option Addr) (C2 : Nat) (floor dir : Int) (w : World) (hs : s.small) (f0 : 0 ≤ floor) (f1 : floor ≤ 128) (p0 : -4096 ≤ c.pos) (p1 : c.pos ≤ 4096) :
    Calls Try.prog 42 #[s.val A C, c.val A2 C2, .int .i64 floor, .int .i64 dir] w fun e w' => e = .returned (.int .i64 (costOf s c floor dir)) ∧ Below w.heap.size w w' := by
  obtain ⟨hh1, hh2⟩ := high_bd hs
  have g0 : 0 ≤ floor * s.gap := Int.mul_nonneg f0 hs.2.1.1
  have g1 : floor * s.gap ≤ 128 * 16 := Int.mul_le_mul f1 hs.2.1.2 hs.2.1.1 (by omega)
  obtain ⟨⟨a1, a2⟩, ⟨b1, b2⟩, _⟩ := hs
  unfold costOf
  obtain ⟨to_, hto⟩ : ∃ x, x = floor * s.gap := ⟨_, rfl⟩
  obtain ⟨high, hhigh⟩ : ∃ x, x = (s.floors - 1) * s.gap := ⟨_, rfl⟩
  rw [← hto, ← hhigh]
  rw [← hto] at g0 g1
  rw [← hhigh] at hh1 hh2
  have cAt := fun w => place_At floor s.gap w (by omega) (by omega)
  have cTop := fun w => place_Top s.floors s.gap w (by omega) (by omega) (by omega) (by omega)
  rw [← hto] at cAt
  rw [← hhigh] at cTop
  have HA := Lib.hid cAt
  have HT := Lib.hid cTop
  clear cAt cTop hto hhigh
  obtain ⟨far, hfar⟩ : ∃ x, x = max (c.pos - to_) (to_ - c.pos) := ⟨_, rfl⟩
  have cFar := fun w => place_Far c.pos to_ w (by omega) (by omega) (by omega) (by omega)
  rw [← hfar] at cFar ⊢
  have fb : 0 ≤ far ∧ far ≤ 8192 := by omega
  obtain ⟨fb0, fb1⟩ := fb
  have HF := Lib.hid cFar
  clear cFar hfar
  by_cases hd0 : c.dir = 0
  · have hb0 : (c.dir == 0) = true := by simp [hd0]
    rw [if_pos hd0]
    have HD := Lib.hid hd0
    clear hd0
    go_enter Try.func42, Try.ntmps42
    go_wp2_with (first | (go_at_call 27; refine (HA.out _).mono ?_; rintro e w' ⟨rfl, rfl⟩))
    obtain ⟨hBw2, hcw1, hdw2, hzw2⟩ := box2 w 25 (s.cells A C).toArray 63 (c.cells A2 C2).toArray
    change Code.wp _ _ _ _ ((w.alloc (.cells (s.cells A C).toArray 25)).alloc (.cells (c.cells A2 C2).toArray 63))
    generalize ((w.alloc (.cells (s.cells A C).toArray 25)).alloc (.cells (c.cells A2 C2).toArray 63)) = w2 at *
    have hyw2 : w.heap.size < w2.heap.size := by omega
    refine wp_region_grow (by kernel_rfl) (by kernel_rfl) ?_
    repeat (go_big_quiet_step ((first | (go_at_call 29; with_reducible exact grow_same (HT.out _)) | (go_at_call 38; with_reducible exact grow_same (HF.out _)))))
    refine wpQuiet_nil ?_
    intro w3 hb3
    have hd3 : ∀ i, w3.cell? ⟨w.heap.size + 1, i, none⟩ = (c.cells A2 C2).toArray[i]? := fun i => (hb3.cell (p := ⟨w.heap.size + 1, i, none⟩) (by show w.heap.size + 1 < w2.heap.size; omega)).trans (hdw2 i)
    have hfin : Below w.heap.size w w3 := hBw2.trans (hb3.mono hBw2.size)
    clear hcw1 hdw2
    go_wp2
    go_ret
    exact ⟨rfl, hfin⟩
  · have hb0 : (c.dir == 0) = false := by simp [hd0]
    rw [if_neg hd0]
    have cDir := fun w => place_Dir c.pos to_ w (by omega) (by omega) (by omega) (by omega)
    obtain ⟨sd, hsd⟩ : ∃ x, x = sg (to_ - c.pos) := ⟨_, rfl⟩
    rw [← hsd] at cDir ⊢
    have HS := Lib.hid cDir
    clear cDir hsd
    have HD := Lib.hid hd0
    clear hd0
    by_cases hf0 : 0 < far
    · have hf0' : decide (0 < far) = true := by simpa using hf0
      by_cases hs0 : sd = c.dir
      · have hs1 : (sd != c.dir) = false := by simp [hs0]
        rw [if_neg (by simp [hs0])]
        have HS0 := Lib.hid hs0
        clear hs0
        by_cases hdd : dir = c.dir
        · have hd1 : (dir != c.dir) = false := by simp [hdd]
          rw [if_neg (by simp [hdd])]
          have HD2 := Lib.hid hdd
          clear hdd
          go_enter Try.func42, Try.ntmps42
          go_wp2_with (first | (go_at_call 27; refine (HA.out _).mono ?_; rintro e w' ⟨rfl, rfl⟩))
          obtain ⟨hBw2, hcw1, hdw2, hzw2⟩ := box2 w 25 (s.cells A C).toArray 63 (c.cells A2 C2).toArray
          change Code.wp _ _ _ _ ((w.alloc (.cells (s.cells A C).toArray 25)).alloc (.cells (c.cells A2 C2).toArray 63))
          generalize ((w.alloc (.cells (s.cells A C).toArray 25)).alloc (.cells (c.cells A2 C2).toArray 63)) = w2 at *
          have hyw2 : w.heap.size < w2.heap.size := by omega
          refine wp_region_grow (by kernel_rfl) (by kernel_rfl) ?_
          repeat (go_big_quiet_step ((first | (go_at_call 29; with_reducible exact grow_same (HT.out _)) | (go_at_call 38; with_reducible exact grow_same (HF.out _)))))
          refine wpQuiet_nil ?_
          intro w3 hb3
          have hd3 : ∀ i, w3.cell? ⟨w.heap.size + 1, i, none⟩ = (c.cells A2 C2).toArray[i]? := fun i => (hb3.cell (p := ⟨w.heap.size + 1, i, none⟩) (by show w.heap.size + 1 < w2.heap.size; omega)).trans (hdw2 i)
          have hfin : Below w.heap.size w w3 := hBw2.trans (hb3.mono hBw2.size)
          clear hcw1 hdw2
          go_wp2
          go_quiet ((go_at_call 37; exact q_left (HS.out _)))
          go_wp2
          go_ret
          exact ⟨rfl, below_drewN hfin _⟩
        · have hd1 : (dir != c.dir) = true := by simp [hdd]
          rw [if_pos hdd]
          have HD2 := Lib.hid hdd
          clear hdd
          go_enter Try.func42, Try.ntmps42
          go_wp2_with (first | (go_at_call 27; refine (HA.out _).mono ?_; rintro e w' ⟨rfl, rfl⟩))
          obtain ⟨hBw2, hcw1, hdw2, hzw2⟩ := box2 w 25 (s.cells A C).toArray 63 (c.cells A2 C2).toArray
          change Code.wp _ _ _ _ ((w.alloc (.cells (s.cells A C).toArray 25)).alloc (.cells (c.cells A2 C2).toArray 63))
          generalize ((w.alloc (.cells (s.cells A C).toArray 25)).alloc (.cells (c.cells A2 C2).toArray 63)) = w2 at *
          have hyw2 : w.heap.size < w2.heap.size := by omega
          refine wp_region_grow (by kernel_rfl) (by kernel_rfl) ?_
          repeat (go_big_quiet_step ((first | (go_at_call 29; with_reducible exact grow_same (HT.out _)) | (go_at_call 38; with_reducible exact grow_same (HF.out _)))))
          refine wpQuiet_nil ?_
          intro w3 hb3
          have hd3 : ∀ i, w3.cell? ⟨w.heap.size + 1, i, none⟩ = (c.cells A2 C2).toArray[i]? := fun i => (hb3.cell (p := ⟨w.heap.size + 1, i, none⟩) (by show w.heap.size + 1 < w2.heap.size; omega)).trans (hdw2 i)
          have hfin : Below w.heap.size w w3 := hBw2.trans (hb3.mono hBw2.size)
          clear hcw1 hdw2
          go_wp2
          go_quiet ((go_at_call 37; exact q_left (HS.out _)))
          go_wp2
          go_ret
          exact ⟨rfl, below_drewN hfin _⟩
      · have hs1 : (sd != c.dir) = true := by simp [hs0]
        rw [if_pos ⟨hf0, hs0⟩]
        have HS0 := Lib.hid hs0
        clear hs0
        go_enter Try.func42, Try.ntmps42
        go_wp2_with (first | (go_at_call 27; refine (HA.out _).mono ?_; rintro e w' ⟨rfl, rfl⟩))
        obtain ⟨hBw2, hcw1, hdw2, hzw2⟩ := box2 w 25 (s.cells A C).toArray 63 (c.cells A2 C2).toArray
        change Code.wp _ _ _ _ ((w.alloc (.cells (s.cells A C).toArray 25)).alloc (.cells (c.cells A2 C2).toArray 63))
        generalize ((w.alloc (.cells (s.cells A C).toArray 25)).alloc (.cells (c.cells A2 C2).toArray 63)) = w2 at *
        have hyw2 : w.heap.size < w2.heap.size := by omega
        refine wp_region_grow (by kernel_rfl) (by kernel_rfl) ?_
        repeat (go_big_quiet_step ((first | (go_at_call 29; with_reducible exact grow_same (HT.out _)) | (go_at_call 38; with_reducible exact grow_same (HF.out _)))))
        refine wpQuiet_nil ?_
        intro w3 hb3
        have hd3 : ∀ i, w3.cell? ⟨w.heap.size + 1, i, none⟩ = (c.cells A2 C2).toArray[i]? := fun i => (hb3.cell (p := ⟨w.heap.size + 1, i, none⟩) (by show w.heap.size + 1 < w2.heap.size; omega)).trans (hdw2 i)
        have hfin : Below w.heap.size w w3 := hBw2.trans (hb3.mono hBw2.size)
        clear hcw1 hdw2
        go_wp2
        go_quiet ((go_at_call 37; exact q_left (HS.out _)))
        go_wp2
        go_ret
        exact ⟨rfl, below_drewN hfin _⟩
    · have hf0' : decide (0 < far) = false := by simpa using hf0
      rw [if_neg (by simp [hf0])]
      by_cases hdd : dir = c.dir
      · have hd1 : (dir != c.dir) = false := by simp [hdd]
        rw [if_neg (by simp [hdd])]
        have HD2 := Lib.hid hdd
        clear hdd
        go_enter Try.func42, Try.ntmps42
        go_wp2_with (first | (go_at_call 27; refine (HA.out _).mono ?_; rintro e w' ⟨rfl, rfl⟩))
        obtain ⟨hBw2, hcw1, hdw2, hzw2⟩ := box2 w 25 (s.cells A C).toArray 63 (c.cells A2 C2).toArray
        change Code.wp _ _ _ _ ((w.alloc (.cells (s.cells A C).toArray 25)).alloc (.cells (c.cells A2 C2).toArray 63))
        generalize ((w.alloc (.cells (s.cells A C).toArray 25)).alloc (.cells (c.cells A2 C2).toArray 63)) = w2 at *
        have hyw2 : w.heap.size < w2.heap.size := by omega
        refine wp_region_grow (by kernel_rfl) (by kernel_rfl) ?_
        repeat (go_big_quiet_step ((first | (go_at_call 29; with_reducible exact grow_same (HT.out _)) | (go_at_call 38; with_reducible exact grow_same (HF.out _)))))
        refine wpQuiet_nil ?_
        intro w3 hb3
        have hd3 : ∀ i, w3.cell? ⟨w.heap.size + 1, i, none⟩ = (c.cells A2 C2).toArray[i]? := fun i => (hb3.cell (p := ⟨w.heap.size + 1, i, none⟩) (by show w.heap.size + 1 < w2.heap.size; omega)).trans (hdw2 i)
        have hfin : Below w.heap.size w w3 := hBw2.trans (hb3.mono hBw2.size)
        clear hcw1 hdw2
        go_wp2
        go_quiet ((go_at_call 37; exact q_left (HS.out _)))
        go_wp2
        go_ret
        exact ⟨rfl, below_drewN hfin _⟩
      · have hd1 : (dir != c.dir) = true := by simp [hdd]
        rw [if_pos hdd]
        have HD2 := Lib.hid hdd
        clear hdd
        go_enter Try.func42, Try.ntmps42
        go_wp2_with (first | (go_at_call 27; refine (HA.out _).mono ?_; rintro e w' ⟨rfl, rfl⟩))
        obtain ⟨hBw2, hcw1, hdw2, hzw2⟩ := box2 w 25 (s.cells A C).toArray 63 (c.cells A2 C2).toArray
        change Code.wp _ _ _ _ ((w.alloc (.cells (s.cells A C).toArray 25)).alloc (.cells (c.cells A2 C2).toArray 63))
        generalize ((w.alloc (.cells (s.cells A C).toArray 25)).alloc (.cells (c.cells A2 C2).toArray 63)) = w2 at *
        have hyw2 : w.heap.size < w2.heap.size := by omega
        refine wp_region_grow (by kernel_rfl) (by kernel_rfl) ?_
        repeat (go_big_quiet_step ((first | (go_at_call 29; with_reducible exact grow_same (HT.out _)) | (go_at_call 38; with_reducible exact grow_same (HF.out _)))))
        refine wpQuiet_nil ?_
        intro w3 hb3
        have hd3 : ∀ i, w3.cell? ⟨w.heap.size + 1, i, none⟩ = (c.cells A2 C2).toArray[i]? := fun i => (hb3.cell (p := ⟨w.heap.size + 1, i, none⟩) (by show w.heap.size + 1 < w2.heap.size; omega)).trans (hdw2 i)
        have hfin : Below w.heap.size w w3 := hBw2.trans (hb3.mono hBw2.size)
        clear hcw1 hdw2
        go_wp2
        go_quiet ((go_at_call 37; exact q_left (HS.out _)))
        go_wp2
        go_ret
        exact ⟨rfl, below_drewN hfin _⟩

theorem mul_sign_neg (w d : Int) (hd : d = 1 ∨ d = -1) : w * d < 0 ↔ 0 < max (-w) w ∧ sg w ≠ d := by
  rcases hd with rfl | rfl
  · rw [Int.mul_one]; unfold sg; constructor <;> intro h <;> omega
  · rw [Int.mul_neg, Int.mul_one]; unfold sg; constructor <;> intro h <;> omega

theorem cost_alt {s : Scen} {c : Car} {floor dir r : Int} (h0 : c.dir ≠ 0) (hd : c.dir = 0 ∨ c.dir = 1 ∨ c.dir = -1) (hg : (s.floors - 1) * s.gap = s.gap * s.floors - s.gap)
    (h1 : (floor * s.gap - c.pos) * c.dir < 0 → r = max (c.pos - floor * s.gap) (floor * s.gap - c.pos) + (s.gap * s.floors - s.gap) + (s.gap * s.floors - s.gap))
    (h1' : (floor * s.gap - c.pos) * c.dir < 0 ∨ 0 ≤ (floor * s.gap - c.pos) * c.dir)
    (h2 : 0 ≤ (floor * s.gap - c.pos) * c.dir → c.dir ≠ dir → r = max (c.pos - floor * s.gap) (floor * s.gap - c.pos) + (s.gap * s.floors - s.gap))
    (h3 : 0 ≤ (floor * s.gap - c.pos) * c.dir → c.dir = dir → r = max (c.pos - floor * s.gap) (floor * s.gap - c.pos)) : r = costOf s c floor dir := by
  unfold costOf
  rw [if_neg h0, hg]
  have hs := mul_sign_neg (floor * s.gap - c.pos) c.dir (by omega)
  rw [show -(floor * s.gap - c.pos) = c.pos - floor * s.gap from by omega] at hs
  by_cases hn : (floor * s.gap - c.pos) * c.dir < 0
  · rw [if_pos (hs.1 hn), h1 hn]; omega
  · rw [if_neg (fun h => hn (hs.2 h))]
    by_cases e : c.dir = dir
    · rw [if_neg (by simp [e]), h3 (by omega) e]
    · rw [if_pos (fun h => e h.symm), h2 (by omega) e]

theorem ref_Cost (s : Scen) (A : Option Addr) (C : Nat) (c : Car) (A2 : Option Addr) (C2 : Nat) (floor dir : Int) (w : World) (hs : s.small) (f0 : 0 ≤ floor) (f1 : floor ≤ 128) (p0 : -4096 ≤ c.pos) (p1 : c.pos ≤ 4096) (hd : c.dir = 0 ∨ c.dir = 1 ∨ c.dir = -1) :
    Calls Try.prog 43 #[s.val A C, c.val A2 C2, .int .i64 floor, .int .i64 dir] w fun e w' => e = .returned (.int .i64 (costOf s c floor dir)) ∧ Below w.heap.size w w' := by
  obtain ⟨hh1, hh2⟩ := high_bd hs
  have g0 : 0 ≤ floor * s.gap := Int.mul_nonneg f0 hs.2.1.1
  have g1 : floor * s.gap ≤ 128 * 16 := Int.mul_le_mul f1 hs.2.1.2 hs.2.1.1 (by omega)
  have hg : (s.floors - 1) * s.gap = s.gap * s.floors - s.gap := by rw [Int.sub_mul, Int.mul_comm s.floors]; omega
  rw [hg] at hh1 hh2
  have e0 : -8192 ≤ (floor * s.gap - c.pos) * c.dir ∧ (floor * s.gap - c.pos) * c.dir ≤ 8192 := by rcases hd with h | h | h <;> rw [h] <;> omega
  have hsgn := fun h => mul_sign_neg (floor * s.gap - c.pos) c.dir h
  obtain ⟨⟨a1, a2⟩, ⟨b1, b2⟩, _⟩ := hs
  have b3 : 0 ≤ s.gap * s.floors := Int.mul_nonneg b1 a1
  obtain ⟨e0, e1⟩ := e0
  have HG := Lib.hid hg
  have HS := Lib.hid hsgn
  have HD := Lib.hid hd
  clear hg hsgn hd
  by_cases hd0 : c.dir = 0
  · have hb0 : (c.dir == 0) = true := by simp [hd0]
    have HD0 := Lib.hid hd0
    clear hd0
    go_enter Try.func43, Try.ntmps43
    go_wp2
    all_goals go_ret
    all_goals exact ⟨ret_int (by unfold costOf; rw [if_pos HD0.out]; omega), below_alloc2 _ _ _⟩
  · have hb0 : (c.dir == 0) = false := by simp [hd0]
    have HD0 := Lib.hid hd0
    clear hd0
    by_cases hdd : c.dir = dir
    · have hb1 : (c.dir != dir) = false := by simp [hdd]
      have HDD := Lib.hid hdd
      clear hdd
      go_enter Try.func43, Try.ntmps43
      go_wp2
      all_goals go_ret
      all_goals refine ⟨ret_int ?_, below_alloc2 _ _ _⟩
      all_goals exact cost_alt HD0.out HD.out HG.out (by omega) (by omega) (by have := HDD.out; omega) (by omega)
    · have hb1 : (c.dir != dir) = true := by simp [hdd]
      have HDD := Lib.hid hdd
      clear hdd
      go_enter Try.func43, Try.ntmps43
      go_wp2
      all_goals go_ret
      all_goals refine ⟨ret_int ?_, below_alloc2 _ _ _⟩
      all_goals exact cost_alt HD0.out HD.out HG.out (by omega) (by omega) (by omega) (by have := HDD.out; omega)
end Go.Proofs.Ytfpmdldngnopjaa

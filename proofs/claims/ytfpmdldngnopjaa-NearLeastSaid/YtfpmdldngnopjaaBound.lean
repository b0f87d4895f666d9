/-
  Contracts of the package bound, for scenarios whose numbers are within bounds.
-/
import Derived.Test.YtfpmdldngnopjaaPlace
import Derived.Test.YtfpmdldngnopjaaCheck
set_option linter.unusedVariables false
set_option linter.unusedSimpArgs false
namespace Go.Proofs.Ytfpmdldngnopjaa
open Go.Joins Go.ChangeShapes Go.WideShapes Go.ChangeAt Go.RowKit Go.Deep

/-- The numbers that bounds are reckoned of. -/
def Scen.small (s : Scen) : Prop := (0 ≤ s.floors ∧ s.floors ≤ 128) ∧ (0 ≤ s.gap ∧ s.gap ≤ 16) ∧ (0 ≤ s.capacity ∧ s.capacity ≤ 64) ∧ (0 ≤ s.open_ ∧ s.open_ ≤ 64) ∧ (0 ≤ s.dwell ∧ s.dwell ≤ 64) ∧ (0 ≤ s.close ∧ s.close ≤ 64) ∧ (0 ≤ s.transfer ∧ s.transfer ≤ 64)
theorem small_of {s : Scen} (h : s.fine) : s.small := by
  obtain ⟨h1, h2, _, h4, h5, h6, h7, h8, _⟩ := h
  unfold Scen.small
  omega
theorem high_bd {s : Scen} (h : s.small) : -16 ≤ (s.floors - 1) * s.gap ∧ (s.floors - 1) * s.gap ≤ 2048 := by
  obtain ⟨h1, h2, _⟩ := h
  have e : (s.floors - 1) * s.gap = s.floors * s.gap - s.gap := by rw [Int.sub_mul]; omega
  have a : 0 ≤ s.floors * s.gap := Int.mul_nonneg h1.1 h2.1
  have b : s.floors * s.gap ≤ 128 * 16 := Int.mul_le_mul h1.2 h2.2 h2.1 (by omega)
  omega
def Scen.quiet (s : Scen) : Int := 2 * s.open_ + max s.transfer s.dwell + s.dwell + s.close + (s.floors - 1) * s.gap + s.gap + 4
def Scen.stop (s : Scen) (people : Int) : Int := s.open_ + max people 0 * s.transfer + s.dwell + s.close
def tripN (s : Scen) (people : Int) : Int := min (max people 0) s.capacity
def Scen.trip (s : Scen) (people : Int) : Int := 2 * ((s.floors - 1) * s.gap) + s.stop (tripN s people) + tripN s people * s.stop 1

theorem bound_Quiet (s : Scen) (A : Option Addr) (C : Nat) (w : World) (hs : s.small) : Calls Try.prog 16 #[s.val A C] w fun e w' => e = .returned (.int .i64 s.quiet) ∧ Below w.heap.size w w' := by
  obtain ⟨hh1, hh2⟩ := high_bd hs
  obtain ⟨⟨a1, a2⟩, ⟨b1, b2⟩, ⟨c1, c2⟩, ⟨d1, d2⟩, ⟨e1, e2⟩, ⟨f1, f2⟩, ⟨g1, g2⟩⟩ := hs
  by_cases hm : s.transfer < s.dwell
  all_goals
    go_enter Try.func16, Try.ntmps16
    go_wp2
    obtain ⟨hBw1, hcw1, hzw1⟩ := box w 25 (s.cells A C).toArray
    change Code.wp _ _ _ _ (w.alloc (.cells (s.cells A C).toArray 25))
    generalize (w.alloc (.cells (s.cells A C).toArray 25)) = w1 at *
    go_quiet ((go_at_call 29; exact q_left (place_Top _ _ _ (by omega) (by omega) (by omega) (by omega))))
    go_wp2
    go_ret
    exact ⟨ret_int (by unfold Scen.quiet; omega), below_drewN hBw1 _⟩
theorem bound_Round (s : Scen) (A : Option Addr) (C : Nat) (w : World) (hs : s.small) : Calls Try.prog 19 #[s.val A C] w fun e w' => e = .returned (.int .i64 (2 * ((s.floors - 1) * s.gap))) ∧ Below w.heap.size w w' := by
  obtain ⟨hh1, hh2⟩ := high_bd hs
  obtain ⟨⟨a1, a2⟩, ⟨b1, b2⟩, ⟨c1, c2⟩, ⟨d1, d2⟩, ⟨e1, e2⟩, ⟨f1, f2⟩, ⟨g1, g2⟩⟩ := hs
  go_enter Try.func19, Try.ntmps19
  go_wp2_with (first | (go_at_call 29; refine (place_Top _ _ _ (by omega) (by omega) (by omega) (by omega)).mono ?_; rintro e w' ⟨rfl, rfl⟩))
  go_ret
  exact ⟨rfl, below_alloc1 _ _⟩
theorem bound_Stop (s : Scen) (A : Option Addr) (C : Nat) (people : Int) (w : World) (hs : s.small) (h0 : -1099511627776 ≤ people) (h1 : people ≤ 1099511627776) : Calls Try.prog 20 #[s.val A C, .int .i64 people] w fun e w' => e = .returned (.int .i64 (s.stop people)) ∧ Below w.heap.size w w' := by
  obtain ⟨⟨a1, a2⟩, ⟨b1, b2⟩, ⟨c1, c2⟩, ⟨d1, d2⟩, ⟨e1, e2⟩, ⟨f1, f2⟩, ⟨g1, g2⟩⟩ := hs
  by_cases hm : people < 0
  · go_enter Try.func20, Try.ntmps20
    go_wp2
    go_ret
    exact ⟨ret_int (by unfold Scen.stop; rw [show max people 0 = 0 from by omega]; omega), below_alloc1 _ _⟩
  · have p1 : 0 ≤ people * s.transfer := Int.mul_nonneg (by omega) g1
    have p2 : people * s.transfer ≤ 1099511627776 * 64 := Int.mul_le_mul h1 g2 g1 (by omega)
    go_enter Try.func20, Try.ntmps20
    go_wp2
    go_ret
    exact ⟨ret_int (by unfold Scen.stop; rw [show max people 0 = people from by omega]), below_alloc1 _ _⟩
theorem quiet_bd {s : Scen} (hs : s.small) : -16 ≤ s.quiet ∧ s.quiet ≤ 4096 := by
  obtain ⟨hh1, hh2⟩ := high_bd hs
  obtain ⟨⟨a1, a2⟩, ⟨b1, b2⟩, ⟨c1, c2⟩, ⟨d1, d2⟩, ⟨e1, e2⟩, ⟨f1, f2⟩, ⟨g1, g2⟩⟩ := hs
  unfold Scen.quiet
  omega
theorem stop_bd {s : Scen} (hs : s.small) (n : Int) (h1 : n ≤ 64) : 0 ≤ s.stop n ∧ s.stop n ≤ 8192 := by
  obtain ⟨⟨a1, a2⟩, ⟨b1, b2⟩, ⟨c1, c2⟩, ⟨d1, d2⟩, ⟨e1, e2⟩, ⟨f1, f2⟩, ⟨g1, g2⟩⟩ := hs
  unfold Scen.stop
  have p1 : 0 ≤ max n 0 * s.transfer := Int.mul_nonneg (by omega) g1
  have p2 : max n 0 * s.transfer ≤ 64 * 64 := Int.mul_le_mul (by omega) g2 g1 (by omega)
  omega
theorem bound_Each (s : Scen) (A : Option Addr) (C : Nat) (w : World) (hs : s.small) : Calls Try.prog 17 #[s.val A C] w fun e w' => e = .returned (.int .i64 (2 * s.quiet)) ∧ Below w.heap.size w w' := by
  obtain ⟨q1, q2⟩ := quiet_bd hs
  go_enter Try.func17, Try.ntmps17
  go_wp2_with (first | (go_at_call 16; refine (bound_Quiet _ _ _ _ hs).mono ?_; rintro e w' ⟨rfl, hb⟩))
  go_ret
  exact ⟨rfl, (below_alloc1 _ _).trans (hb.mono (by simp))⟩
theorem bound_Enough (s : Scen) (A : Option Addr) (C : Nat) (people last : Int) (w : World) (hs : s.small) (h0 : 0 ≤ people) (h1 : people ≤ 1099511627776) (l0 : 0 ≤ last) (l1 : last ≤ 1099511627776) :
    Calls Try.prog 18 #[s.val A C, .int .i64 people, .int .i64 last] w fun e w' => e = .returned (.int .i64 (last + people * (2 * s.quiet))) ∧ Below w.heap.size w w' := by
  obtain ⟨q1, q2⟩ := quiet_bd hs
  have p1 : 1099511627776 * (-32) ≤ people * (2 * s.quiet) := Int.le_trans (by omega) (Int.mul_le_mul_of_nonneg_left (show -32 ≤ 2 * s.quiet by omega) h0)
  have p2 : people * (2 * s.quiet) ≤ 1099511627776 * 8192 := Int.le_trans (Int.mul_le_mul_of_nonneg_left (show 2 * s.quiet ≤ 8192 by omega) h0) (by omega)
  go_enter Try.func18, Try.ntmps18
  go_wp2_with (first | (go_at_call 17; refine (bound_Each _ _ _ _ hs).mono ?_; rintro e w' ⟨rfl, hb⟩))
  go_ret
  exact ⟨rfl, (below_alloc1 _ _).trans (hb.mono (by simp))⟩
theorem bound_Trip (s : Scen) (A : Option Addr) (C : Nat) (people : Int) (w : World) (hs : s.small) (h0 : -1099511627776 ≤ people) (h1 : people ≤ 1099511627776) : Calls Try.prog 21 #[s.val A C, .int .i64 people] w fun e w' => e = .returned (.int .i64 (s.trip people)) ∧ Below w.heap.size w w' := by
  obtain ⟨hh1, hh2⟩ := high_bd hs
  have hcap := hs.2.2.1
  obtain ⟨n, hn⟩ : ∃ n, n = tripN s people := ⟨_, rfl⟩
  have hn0 : 0 ≤ n ∧ n ≤ s.capacity ∧ n ≤ 64 := by unfold tripN at hn; omega
  obtain ⟨n0, n1, n2⟩ := hn0
  obtain ⟨s1, s2⟩ := stop_bd hs n n2
  obtain ⟨t1, t2⟩ := stop_bd hs 1 (by omega)
  have m1 : 0 ≤ n * s.stop 1 := Int.mul_nonneg n0 t1
  have m2 : n * s.stop 1 ≤ 64 * 8192 := Int.mul_le_mul n2 t2 t1 (by omega)
  unfold Scen.trip
  rw [← hn]
  unfold tripN at hn
  rcases Int.lt_or_le people 0 with hp | hp
  · obtain rfl : n = 0 := by omega
    have hc0 : ¬ s.capacity < 0 := by omega
    clear hn
    go_enter Try.func21, Try.ntmps21
    go_wp2
    obtain ⟨hBw1, hcw1, hzw1⟩ := box w 25 (s.cells A C).toArray
    change Code.wp _ _ _ _ (w.alloc (.cells (s.cells A C).toArray 25))
    generalize (w.alloc (.cells (s.cells A C).toArray 25)) = w1 at *
    go_region_held3 (fun w' => Below w1.heap.size w1 w' ∧ ∀ b o, b < w1.heap.size → w'.cell? ⟨b, o, none⟩ = w1.cell? ⟨b, o, none⟩) ((first | exact hold0 _ | exact hold1 (by assumption) hb | exact hold2 (by assumption) _ | assumption)) (first | (go_at_call 19; refine (bound_Round s A C _ hs).mono ?_; rintro e w' ⟨rfl, hb⟩) | (go_at_call 20; first | (with_reducible refine (bound_Stop s A C 0 _ hs (by omega) (by omega)).mono ?_; rintro e w' ⟨rfl, hb⟩) | (with_reducible refine (bound_Stop s A C 1 _ hs (by omega) (by omega)).mono ?_; rintro e w' ⟨rfl, hb⟩)))
    go_wp2
    go_ret
    exact ⟨ret_int (by simp only [IntKind.wrap_i64]; omega), (hBw1.trans (And.left ‹Below w1.heap.size w1 _ ∧ _› |>.mono hBw1.size))⟩
  · rcases Int.lt_or_le s.capacity people with hq | hq
    · obtain rfl : n = s.capacity := by omega
      have hp0 : ¬ people < 0 := by omega
      clear hn
      go_enter Try.func21, Try.ntmps21
      go_wp2
      obtain ⟨hBw1, hcw1, hzw1⟩ := box w 25 (s.cells A C).toArray
      change Code.wp _ _ _ _ (w.alloc (.cells (s.cells A C).toArray 25))
      generalize (w.alloc (.cells (s.cells A C).toArray 25)) = w1 at *
      go_region_held3 (fun w' => Below w1.heap.size w1 w' ∧ ∀ b o, b < w1.heap.size → w'.cell? ⟨b, o, none⟩ = w1.cell? ⟨b, o, none⟩) ((first | exact hold0 _ | exact hold1 (by assumption) hb | exact hold2 (by assumption) _ | assumption)) (first | (go_at_call 19; refine (bound_Round s A C _ hs).mono ?_; rintro e w' ⟨rfl, hb⟩) | (go_at_call 20; first | (with_reducible refine (bound_Stop s A C s.capacity _ hs (by omega) (by omega)).mono ?_; rintro e w' ⟨rfl, hb⟩) | (with_reducible refine (bound_Stop s A C 1 _ hs (by omega) (by omega)).mono ?_; rintro e w' ⟨rfl, hb⟩)))
      go_wp2
      go_ret
      exact ⟨ret_int (by simp only [IntKind.wrap_i64]; omega), (hBw1.trans (And.left ‹Below w1.heap.size w1 _ ∧ _› |>.mono hBw1.size))⟩
    · obtain rfl : n = people := by omega
      have hp0 : ¬ n < 0 := by omega
      have hq0 : ¬ s.capacity < n := by omega
      clear hn
      go_enter Try.func21, Try.ntmps21
      go_wp2
      obtain ⟨hBw1, hcw1, hzw1⟩ := box w 25 (s.cells A C).toArray
      change Code.wp _ _ _ _ (w.alloc (.cells (s.cells A C).toArray 25))
      generalize (w.alloc (.cells (s.cells A C).toArray 25)) = w1 at *
      go_region_held3 (fun w' => Below w1.heap.size w1 w' ∧ ∀ b o, b < w1.heap.size → w'.cell? ⟨b, o, none⟩ = w1.cell? ⟨b, o, none⟩) ((first | exact hold0 _ | exact hold1 (by assumption) hb | exact hold2 (by assumption) _ | assumption)) (first | (go_at_call 19; refine (bound_Round s A C _ hs).mono ?_; rintro e w' ⟨rfl, hb⟩) | (go_at_call 20; first | (with_reducible refine (bound_Stop s A C n _ hs (by omega) (by omega)).mono ?_; rintro e w' ⟨rfl, hb⟩) | (with_reducible refine (bound_Stop s A C 1 _ hs (by omega) (by omega)).mono ?_; rintro e w' ⟨rfl, hb⟩)))
      go_wp2
      go_ret
      exact ⟨ret_int (by simp only [IntKind.wrap_i64]; omega), (hBw1.trans (And.left ‹Below w1.heap.size w1 _ ∧ _› |>.mono hBw1.size))⟩
end Go.Proofs.Ytfpmdldngnopjaa

/-
  How long a round is expected to take: prob.Round and hoistwayref56.Round. Condition: the scenario's numbers fit their kinds.
-/
import Derived.Test.YtokgokjgpmdlpaaProb3
import Derived.Test.YtokgokjgpmdlpaaDataS
import Derived.Deep.CutBlock
set_option linter.unusedVariables false
set_option linter.unusedSimpArgs false
namespace Go.Proofs.Ytokgokjgpmdlpaa
open Go.Joins Go.ChangeShapes Go.WideShapes Go.ChangeAt Go.RowKit Go.Deep

/-- How long the door takes. -/
def doorN (s : Scen) : Int := max s.open_ 0 + max s.dwell 0 + max s.close 0
/-- Whether a round can be told, its floors and people being right. -/
def roundB (s : Scen) : Bool := decide (s.open_ ≤ 192 ∧ s.dwell ≤ 192 ∧ s.close ≤ 192 ∧ doorN s ≤ 192 ∧ 0 ≤ s.gap ∧ s.gap ≤ 16 ∧ 0 ≤ s.transfer ∧ s.transfer ≤ 64)
/-- What is expected, in parts. -/
def roundN (s : Scen) (p : Int) : Int := 2 * highV (s.floors - 1) p * s.gap + stopsV (s.floors - 1) p * doorN s
def roundV (s : Scen) (p : Int) : Int := (roundN s p + 4294967295) / 4294967296 + doorN s + 2 * p * s.transfer

theorem prob_up (n : Int) (w : World) (h0 : 0 ≤ n) (h1 : n ≤ 4611686018427387904) : Calls Try.prog 67 #[.int .u64 n] w fun e w' => e = .returned (.int .i64 ((n + 4294967295) / 4294967296)) ∧ w = w' := by
  go_enter Try.func67, Try.ntmps67
  go_wp2
  go_ret
  exact ⟨ret_int (by omega), rfl⟩

theorem prob_Round_not (s : Scen) (A : Option Addr) (C : Nat) (p : Int) (w : World) (f1 : Int) (hf : wrap64 (s.floors - 1) = f1) (h : rightB f1 p = false) :
    Calls Try.prog 49 #[s.val A C, .int .i64 p] w fun e w' => e = .returned (.tuple #[.int .i64 0, .int .i64 22]) ∧ Below w.heap.size w w' := by
  have cS := fun w => prob_Stops_not f1 p w h
  have cH := fun w => prob_High_not f1 p w h
  rw [← hf] at cS cH
  have CS := Lib.hid cS
  have CH := Lib.hid cH
  have HF := Lib.hid hf
  have H := Lib.hid h
  clear cS cH hf h
  go_enter Try.func49, Try.ntmps49
  go_wp2_with fail
  obtain ⟨hBw1, hcw1, hzw1⟩ := box w 57 (s.cells A C).toArray
  change Calls _ _ _ (w.alloc (.cells (s.cells A C).toArray 57)) _
  generalize (w.alloc (.cells (s.cells A C).toArray 57)) = w1 at *
  have z0 : w1.cell? ⟨w.heap.size, 0, none⟩ = some (.int .i64 s.floors) := hcw1 0
  refine (CS.out _).mono ?_
  rintro e w' ⟨rfl, rfl⟩
  go_wp2_with (first | (go_at_call 46; refine (CH.out _).mono ?_; rintro e w' ⟨rfl, rfl⟩))
  go_ret2
  exact ⟨rfl, hBw1⟩

theorem round_bd {s : Scen} {p : Int} (h : rightB (s.floors - 1) p = true) (hb : roundB s = true) :
    0 ≤ stopsV (s.floors - 1) p ∧ stopsV (s.floors - 1) p ≤ 545460846592 ∧ 0 ≤ highV (s.floors - 1) p ∧ highV (s.floors - 1) p ≤ 545460846592 ∧
    0 ≤ 2 * highV (s.floors - 1) p * s.gap ∧ 2 * highV (s.floors - 1) p * s.gap ≤ 17454747090944 ∧ 0 ≤ stopsV (s.floors - 1) p * doorN s ∧ stopsV (s.floors - 1) p * doorN s ≤ 104728482545664 ∧ 0 ≤ doorN s ∧ doorN s ≤ 192 ∧
    0 ≤ 2 * p * s.transfer ∧ 2 * p * s.transfer ≤ 8192 := by
  obtain ⟨h1, h2, h3, h4⟩ := right_iff.1 h
  unfold roundB at hb
  simp only [decide_eq_true_eq] at hb
  obtain ⟨b1, b2, b3, b4, b5, b6, b7, b8⟩ := hb
  obtain ⟨r0, r1⟩ := restP_bd (s.floors - 1) p
  have hs := mul_bd h1 h2 (x := 4294967296 - restP (s.floors - 1) p) (by omega) (by omega)
  change 0 ≤ stopsV (s.floors - 1) p ∧ stopsV (s.floors - 1) p ≤ _ at hs
  have hsb := sumP_bd (s.floors - 1) p (s.floors - 1 - 1).toNat
  have hh : 0 ≤ highV (s.floors - 1) p ∧ highV (s.floors - 1) p ≤ 545460846592 := by unfold highV; split <;> omega
  have hd : 0 ≤ doorN s := by unfold doorN; omega
  have m1 : 0 ≤ 2 * highV (s.floors - 1) p * s.gap := Int.mul_nonneg (by omega) b5
  have m2 : 2 * highV (s.floors - 1) p * s.gap ≤ 1090921693184 * 16 := Int.mul_le_mul (by omega) b6 b5 (by omega)
  have m3 : 0 ≤ stopsV (s.floors - 1) p * doorN s := Int.mul_nonneg hs.1 hd
  have m4 : stopsV (s.floors - 1) p * doorN s ≤ 545460846592 * 192 := Int.mul_le_mul (by omega) b4 hd (by omega)
  have m5 : 0 ≤ 2 * p * s.transfer := Int.mul_nonneg (by omega) b7
  have m6 : 2 * p * s.transfer ≤ 128 * 64 := Int.mul_le_mul (by omega) b8 b7 (by omega)
  exact ⟨hs.1, by omega, hh.1, hh.2, m1, by omega, m3, by omega, hd, b4, m5, by omega⟩
set_option maxRecDepth 20000 in
set_option maxHeartbeats 1000000 in
theorem prob_Round_ok (s : Scen) (A : Option Addr) (C : Nat) (p : Int) (w : World) (h : rightB (s.floors - 1) p = true) (hb : roundB s = true) :
    Calls Try.prog 49 #[s.val A C, .int .i64 p] w fun e w' => e = .returned (.tuple #[.int .i64 (roundV s p), .int .i64 0]) ∧ Below w.heap.size w w' := by
  obtain ⟨c1, c2, c3, c4, c5, c6, c7, c8, c9, c10, c11, c12⟩ := round_bd h hb
  have cS := fun w => prob_Stops (s.floors - 1) p w h
  have cH := fun w => prob_High (s.floors - 1) p w h
  obtain ⟨h1, h2, h3, h4⟩ := right_iff.1 h
  unfold roundB at hb
  simp only [decide_eq_true_eq] at hb
  obtain ⟨b1, b2, b3, b4, b5, b6, b7, b8⟩ := hb
  have cU := fun w => prob_up (roundN s p) w (by unfold roundN; omega) (by unfold roundN; omega)
  have hrv : roundV s p = (roundN s p + 4294967295) / 4294967296 + doorN s + 2 * p * s.transfer := rfl
  rw [hrv]
  have hrn : roundN s p = 2 * highV (s.floors - 1) p * s.gap + stopsV (s.floors - 1) p * doorN s := rfl
  have hdn : doorN s = max s.open_ 0 + max s.dwell 0 + max s.close 0 := rfl
  have hup0 : 0 ≤ (roundN s p + 4294967295) / 4294967296 ∧ (roundN s p + 4294967295) / 4294967296 ≤ 100000 := by rw [hrn]; omega
  obtain ⟨hu0, hu1⟩ := hup0
  generalize roundN s p = rn at *
  generalize highV (s.floors - 1) p = hv at *
  generalize stopsV (s.floors - 1) p = sv at *
  have CS := Lib.hid cS
  have CH := Lib.hid cH
  have CU := Lib.hid cU
  have H := Lib.hid h
  have RN := Lib.hid hrn
  have DN := Lib.hid hdn
  clear cS cH cU h hrv hrn
  go_enter Try.func49, Try.ntmps49
  go_wp2_with fail
  obtain ⟨hBw1, hcw1, hzw1⟩ := box w 57 (s.cells A C).toArray
  change Calls _ _ _ (w.alloc (.cells (s.cells A C).toArray 57)) _
  generalize (w.alloc (.cells (s.cells A C).toArray 57)) = w1 at *
  have z0 : w1.cell? ⟨w.heap.size, 0, none⟩ = some (.int .i64 s.floors) := hcw1 0
  have z1 : w1.cell? ⟨w.heap.size, 1, none⟩ = some (.int .i64 s.gap) := hcw1 1
  have z4 : w1.cell? ⟨w.heap.size, 4, none⟩ = some (.int .i64 s.open_) := hcw1 4
  have z5 : w1.cell? ⟨w.heap.size, 5, none⟩ = some (.int .i64 s.dwell) := hcw1 5
  have z6 : w1.cell? ⟨w.heap.size, 6, none⟩ = some (.int .i64 s.close) := hcw1 6
  have z7 : w1.cell? ⟨w.heap.size, 7, none⟩ = some (.int .i64 s.transfer) := hcw1 7
  refine (CS.out _).mono ?_
  rintro e w' ⟨rfl, rfl⟩
  go_wp2_with fail
  refine (CH.out _).mono ?_
  rintro e w' ⟨rfl, rfl⟩
  have HB := Lib.hid hBw1
  clear hcw1 hBw1
  go_upto_region 9 with (fail)
  have e1 : (((if s.open_ < 0 then 0 else s.open_) + if s.dwell < 0 then 0 else s.dwell) + if s.close < 0 then 0 else s.close) = doorN s := by unfold doorN; omega
  rw [e1]
  rename_i hmax _ _ _ _
  clear hmax
  generalize (if (if s.open_ < s.dwell then s.dwell else s.open_) < s.close then s.close else if s.open_ < s.dwell then s.dwell else s.open_) = mx1
  generalize (if s.open_ < 0 then 0 else s.open_) = mx2
  generalize (if s.dwell < 0 then 0 else s.dwell) = mx3
  generalize (if s.close < 0 then 0 else s.close) = mx4
  clear e1 hdn
  go_wp2_with fail
  have RN2 := RN.out
  have k1 : IntKind.u64.wrap (2 * hv) = 2 * hv := IntWalk.u64_in _ (by omega)
  have k2 : IntKind.u64.wrap s.gap = s.gap := IntWalk.u64_in _ (by omega)
  have k3 : IntKind.u64.wrap (2 * hv * s.gap) = 2 * hv * s.gap := IntWalk.u64_in _ (by omega)
  have k4 : IntKind.u64.wrap (sv * doorN s) = sv * doorN s := IntWalk.u64_in _ (by omega)
  have k5 : IntKind.u64.wrap (2 * hv * s.gap + sv * doorN s) = rn := by rw [RN2]; exact IntWalk.u64_in _ (by omega)
  have k6 : IntKind.i64.wrap (doorN s) = doorN s := IntWalk.i64_in _ (by omega)
  have k7 : IntKind.i64.wrap ((rn + 4294967295) / 4294967296 + doorN s) = (rn + 4294967295) / 4294967296 + doorN s := IntWalk.i64_in _ (by omega)
  have k8 : IntKind.i64.wrap (2 * p) = 2 * p := IntWalk.i64_in _ (by omega)
  have k9 : IntKind.i64.wrap (2 * p * s.transfer) = 2 * p * s.transfer := IntWalk.i64_in _ (by omega)
  have k10 : IntKind.i64.wrap ((rn + 4294967295) / 4294967296 + doorN s + 2 * p * s.transfer) = (rn + 4294967295) / 4294967296 + doorN s + 2 * p * s.transfer := IntWalk.i64_in _ (by omega)
  clear RN2 RN DN CS CH
  go_quiet ((go_at_call 67; exact q_left (CU.out _)))
  go_wp2
  go_ret2
  exact ⟨rfl, below_drewN HB.out _⟩

set_option maxRecDepth 20000 in
set_option maxHeartbeats 1000000 in
theorem prob_Round_bad (s : Scen) (A : Option Addr) (C : Nat) (p : Int) (w : World) (h : rightB (s.floors - 1) p = true) (hb : roundB s = false) :
    Calls Try.prog 49 #[s.val A C, .int .i64 p] w fun e w' => e = .returned (.tuple #[.int .i64 0, .int .i64 22]) ∧ Below w.heap.size w w' := by
  have cS := fun w => prob_Stops (s.floors - 1) p w h
  have cH := fun w => prob_High (s.floors - 1) p w h
  obtain ⟨h1, h2, h3, h4⟩ := right_iff.1 h
  unfold roundB at hb
  simp only [decide_eq_false_iff_not] at hb
  have CS := Lib.hid cS
  have CH := Lib.hid cH
  have H := Lib.hid h
  have HBAD := Lib.hid hb
  clear cS cH h hb
  go_enter Try.func49, Try.ntmps49
  go_wp2_with fail
  obtain ⟨hBw1, hcw1, hzw1⟩ := box w 57 (s.cells A C).toArray
  change Calls _ _ _ (w.alloc (.cells (s.cells A C).toArray 57)) _
  generalize (w.alloc (.cells (s.cells A C).toArray 57)) = w1 at *
  have z0 : w1.cell? ⟨w.heap.size, 0, none⟩ = some (.int .i64 s.floors) := hcw1 0
  have z1 : w1.cell? ⟨w.heap.size, 1, none⟩ = some (.int .i64 s.gap) := hcw1 1
  have z4 : w1.cell? ⟨w.heap.size, 4, none⟩ = some (.int .i64 s.open_) := hcw1 4
  have z5 : w1.cell? ⟨w.heap.size, 5, none⟩ = some (.int .i64 s.dwell) := hcw1 5
  have z6 : w1.cell? ⟨w.heap.size, 6, none⟩ = some (.int .i64 s.close) := hcw1 6
  have z7 : w1.cell? ⟨w.heap.size, 7, none⟩ = some (.int .i64 s.transfer) := hcw1 7
  refine (CS.out _).mono ?_
  rintro e w' ⟨rfl, rfl⟩
  go_wp2_with fail
  refine (CH.out _).mono ?_
  rintro e w' ⟨rfl, rfl⟩
  have HB := Lib.hid hBw1
  clear hcw1 hBw1
  go_upto_region 9 with (fail)
  all_goals first | (go_ret2; exact ⟨rfl, HB.out⟩) | skip
  have e1 : (((if s.open_ < 0 then 0 else s.open_) + if s.dwell < 0 then 0 else s.dwell) + if s.close < 0 then 0 else s.close) = doorN s := by unfold doorN; omega
  rw [e1]
  have hm3 : s.open_ ≤ 192 ∧ s.dwell ≤ 192 ∧ s.close ≤ 192 := by omega
  have hd0 : 0 ≤ doorN s := by unfold doorN; omega
  have hd1 : doorN s ≤ 600 := by unfold doorN; omega
  have H3 := Lib.hid hm3
  rename_i hmax _ _ _ _
  clear hmax hm3 e1
  generalize (if (if s.open_ < s.dwell then s.dwell else s.open_) < s.close then s.close else if s.open_ < s.dwell then s.dwell else s.open_) = mx1
  generalize (if s.open_ < 0 then 0 else s.open_) = mx2
  generalize (if s.dwell < 0 then 0 else s.dwell) = mx3
  generalize (if s.close < 0 then 0 else s.close) = mx4
  go_wp2_with fail
  all_goals first | (go_ret2; exact ⟨rfl, HB.out⟩) | (exfalso; have := HBAD.out; have := H3.out; omega)
end Go.Proofs.Ytokgokjgpmdlpaa

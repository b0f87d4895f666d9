/-
  How long a round is expected to take, by the document: hoistwayref56.Round. Condition: the scenario's numbers fit their kinds.
-/
import Derived.Test.YtokgokjgpmdlpaaRound
set_option linter.unusedVariables false
set_option linter.unusedSimpArgs false
namespace Go.Proofs.Ytokgokjgpmdlpaa
open Go.Joins Go.ChangeShapes Go.WideShapes Go.ChangeAt Go.RowKit Go.Deep

/-- The k-th of the door's times; how long the first k take. -/
def doorL (s : Scen) : Nat → Int
  | 0 => s.open_
  | 1 => s.dwell
  | _ => s.close
def doorS (s : Scen) : Nat → Int
  | 0 => 0
  | k + 1 => doorS s k + max (doorL s k) 0
theorem doorS_bd (s : Scen) (k : Nat) (h : s.open_ ≤ 192 ∧ s.dwell ≤ 192 ∧ s.close ≤ 192) : 0 ≤ doorS s k ∧ doorS s k ≤ 192 * (k : Int) := by
  induction k with
  | zero => simp [doorS]
  | succ k ih =>
    have : doorL s k ≤ 192 := by unfold doorL; split <;> omega
    simp only [doorS]
    omega
theorem doorS_three (s : Scen) : doorS s 3 = doorN s := by simp only [doorS, doorL, doorN]; omega
set_option maxRecDepth 20000 in
theorem ref56_Round_not (s : Scen) (A : Option Addr) (C : Nat) (p : Int) (w : World) (f1 : Int) (hf : wrap64 (s.floors - 1) = f1) (h : rightB f1 p = false) :
    Calls Try.prog 50 #[s.val A C, .int .i64 p] w fun e w' => e = .returned (.tuple #[.int .i64 0, .bool false]) ∧ Below w.heap.size w w' := by
  have cS := fun w => ref56_Right f1 p w
  rw [← hf] at cS
  rw [← hf] at h
  rw [h] at cS
  have CS := Lib.hid cS
  have HF := Lib.hid hf
  have H := Lib.hid h
  clear cS hf h
  go_enter Try.func50, Try.ntmps50
  go_wp2_with fail
  obtain ⟨hBw1, hcw1, hzw1⟩ := box w 57 (s.cells A C).toArray
  change Calls _ _ _ (w.alloc (.cells (s.cells A C).toArray 57)) _
  generalize (w.alloc (.cells (s.cells A C).toArray 57)) = w1 at *
  have z0 : w1.cell? ⟨w.heap.size, 0, none⟩ = some (.int .i64 s.floors) := hcw1 0
  refine (CS.out _).mono ?_
  rintro e w' ⟨rfl, rfl⟩
  go_wp2
  go_ret2
  exact ⟨rfl, hBw1⟩
set_option maxRecDepth 20000 in
set_option maxHeartbeats 1000000 in
theorem ref56_Round_ok (s : Scen) (A : Option Addr) (C : Nat) (p : Int) (w : World) (h : rightB (s.floors - 1) p = true) (hb : roundB s = true) :
    Calls Try.prog 50 #[s.val A C, .int .i64 p] w fun e w' => e = .returned (.tuple #[.int .i64 (roundV s p), .bool true]) ∧ Below w.heap.size w w' := by
  obtain ⟨c1, c2, c3, c4, c5, c6, c7, c8, c9, c10, c11, c12⟩ := round_bd h hb
  have cR := fun w => ref56_Right (s.floors - 1) p w
  rw [h] at cR
  have cS := fun w => ref56_Stops (s.floors - 1) p w h
  have cH := fun w => ref56_High (s.floors - 1) p w h
  obtain ⟨h1, h2, h3, h4⟩ := right_iff.1 h
  unfold roundB at hb
  simp only [decide_eq_true_eq] at hb
  obtain ⟨b1, b2, b3, b4, b5, b6, b7, b8⟩ := hb
  have hrv : roundV s p = (roundN s p + 4294967295) / 4294967296 + doorN s + 2 * p * s.transfer := rfl
  rw [hrv]
  have hrn : roundN s p = highV (s.floors - 1) p * (2 * s.gap) + stopsV (s.floors - 1) p * doorN s := by unfold roundN; rw [Int.mul_left_comm, Int.mul_assoc]
  rw [Int.mul_assoc, Int.mul_left_comm 2] at c5 c6
  have hup0 : 0 ≤ roundN s p ∧ roundN s p ≤ 200000000000000 := by rw [hrn]; omega
  obtain ⟨hu0, hu1⟩ := hup0
  generalize roundN s p = rn at *
  generalize highV (s.floors - 1) p = hv at *
  generalize stopsV (s.floors - 1) p = sv at *
  generalize hdn2 : doorN s = dn at *
  have DN2 := Lib.hid hdn2
  clear hdn2
  have CR := Lib.hid cR
  have CS := Lib.hid cS
  have CH := Lib.hid cH
  have H := Lib.hid h
  have RN := Lib.hid hrn
  clear cR cS cH h hrv hrn
  go_enter Try.func50, Try.ntmps50
  go_wp2_with fail
  obtain ⟨hBw1, hcw1, hzw1⟩ := box w 57 (s.cells A C).toArray
  change Calls _ _ _ (w.alloc (.cells (s.cells A C).toArray 57)) _
  generalize (w.alloc (.cells (s.cells A C).toArray 57)) = w1 at *
  have z0 : w1.cell? ⟨w.heap.size, 0, none⟩ = some (.int .i64 s.floors) := hcw1 0
  have z1 : w1.cell? ⟨w.heap.size, 1, none⟩ = some (.int .i64 s.gap) := hcw1 1
  have z4 : w1.cell? ⟨w.heap.size, 4, none⟩ = some (.int .i64 s.open_) := hcw1 4
  have z5 : w1.cell? ⟨w.heap.size, 5, none⟩ = some (.int .i64 s.dwell) := hcw1 5
  have z6 : w1.cell? ⟨w.heap.size, 6, none⟩ = some (.int .i64 s.close) := hcw1 6
  have z7 : w1.cell? ⟨w.heap.size, 7, none⟩ = some (.int .i64 s.transfer) := hcw1 7
  clear hcw1
  refine (CR.out _).mono ?_
  rintro e w' ⟨rfl, rfl⟩
  go_wp2_with fail
  obtain ⟨hBw2, hcw2, hzw2⟩ := box w1 81 #[.int .i64 s.open_, .int .i64 s.dwell, .int .i64 s.close]
  change Code.wp _ _ _ _ (w1.alloc (.cells #[.int .i64 s.open_, .int .i64 s.dwell, .int .i64 s.close] 81))
  generalize (w1.alloc (.cells #[.int .i64 s.open_, .int .i64 s.dwell, .int .i64 s.close] 81)) = w2 at *
  rw [hzw1] at hcw2
  have y0 : w2.cell? ⟨w.heap.size + 1, 0, none⟩ = some (.int .i64 s.open_) := hcw2 0
  have y1 : w2.cell? ⟨w.heap.size + 1, 1, none⟩ = some (.int .i64 s.dwell) := hcw2 1
  have y2 : w2.cell? ⟨w.heap.size + 1, 2, none⟩ = some (.int .i64 s.close) := hcw2 2
  have x0 : w2.cell? ⟨w.heap.size, 0, none⟩ = some (.int .i64 s.floors) := keepc hBw2 z0
  have x1 : w2.cell? ⟨w.heap.size, 1, none⟩ = some (.int .i64 s.gap) := keepc hBw2 z1
  have x7 : w2.cell? ⟨w.heap.size, 7, none⟩ = some (.int .i64 s.transfer) := keepc hBw2 z7
  have hfin : Below w.heap.size w w2 := hBw1.trans (hBw2.mono hBw1.size)
  have HFIN := Lib.hid hfin
  clear hfin hBw1 hBw2 hcw2 hzw2 hzw1 z0 z1 z4 z5 z6 z7
  go_loop [7, 8] (fun u v => ∃ k : Nat, k ≤ 3 ∧ v = .int .i64 k ∧ u = .int .i64 (doorS s k)) (fun _ v => 3 - (intOf v).toNat)
  case atStart => exact ⟨0, by omega, rfl, rfl⟩
  case round =>
    obtain ⟨k, hk, rfl, rfl⟩ := hrel
    have hk4 : k = 0 ∨ k = 1 ∨ k = 2 ∨ k = 3 := by omega
    rcases hk4 with rfl | rfl | rfl | rfl
    · have hs : doorS s 1 = doorS s 0 + max s.open_ 0 := rfl
      obtain ⟨d0, d1⟩ := doorS_bd s 0 ⟨b1, b2, b3⟩
      generalize doorS s 0 = d at *
      have HS := Lib.hid hs
      clear hs
      rcases Int.lt_or_le 0 s.open_ with q | q
      all_goals
        go_wp2
        go_round
        case rel => exact ⟨1, by omega, by go_num, val_int (by rw [HS.out]; omega)⟩
        case measure => simp [intOf]
    · have hs : doorS s 2 = doorS s 1 + max s.dwell 0 := rfl
      obtain ⟨d0, d1⟩ := doorS_bd s 1 ⟨b1, b2, b3⟩
      generalize doorS s 1 = d at *
      have HS := Lib.hid hs
      clear hs
      rcases Int.lt_or_le 0 s.dwell with q | q
      all_goals
        go_wp2
        go_round
        case rel => exact ⟨2, by omega, by go_num, val_int (by rw [HS.out]; omega)⟩
        case measure => simp [intOf]
    · have hs : doorS s 3 = doorS s 2 + max s.close 0 := rfl
      obtain ⟨d0, d1⟩ := doorS_bd s 2 ⟨b1, b2, b3⟩
      generalize doorS s 2 = d at *
      have HS := Lib.hid hs
      clear hs
      rcases Int.lt_or_le 0 s.close with q | q
      all_goals
        go_wp2
        go_round
        case rel => exact ⟨3, by omega, by go_num, val_int (by rw [HS.out]; omega)⟩
        case measure => simp [intOf]
    · rw [doorS_three, DN2.out]
      go_wp2_with fail
      have RN2 := RN.out
      have k0 : IntKind.i64.wrap (s.floors - 1) = s.floors - 1 := IntWalk.i64_in _ (by omega)
      have k1 : IntKind.i64.wrap (2 * s.gap) = 2 * s.gap := IntWalk.i64_in _ (by omega)
      have k2 : IntKind.u64.wrap (2 * s.gap) = 2 * s.gap := IntWalk.u64_in _ (by omega)
      have k3 : IntKind.u64.wrap (hv * (2 * s.gap)) = hv * (2 * s.gap) := IntWalk.u64_in _ (by omega)
      have k4 : IntKind.u64.wrap (sv * dn) = sv * dn := IntWalk.u64_in _ (by omega)
      have k5 : IntKind.u64.wrap (hv * (2 * s.gap) + sv * dn) = rn := by rw [RN2]; exact IntWalk.u64_in _ (by omega)
      have k6 : IntKind.u64.wrap dn = dn := IntWalk.u64_in _ (by omega)
      clear RN2 RN DN2
      go_quiet ((first | (go_at_call 52; exact q_left (CH.out _)) | (go_at_call 51; exact q_left (CS.out _))))
      clear k0 k1 k2 k3 k4 k5 k6
      go_wp2
      all_goals go_ret2
      all_goals exact ⟨ret_ib (by omega) rfl, below_drewN HFIN.out _⟩
def pre192 (s : Scen) : Nat → Prop
  | 0 => True
  | 1 => s.open_ ≤ 192
  | 2 => s.open_ ≤ 192 ∧ s.dwell ≤ 192
  | _ => s.open_ ≤ 192 ∧ s.dwell ≤ 192 ∧ s.close ≤ 192
set_option maxRecDepth 20000 in
set_option maxHeartbeats 1000000 in
theorem ref56_Round_bad (s : Scen) (A : Option Addr) (C : Nat) (p : Int) (w : World) (h : rightB (s.floors - 1) p = true) (hb : roundB s = false) :
    Calls Try.prog 50 #[s.val A C, .int .i64 p] w fun e w' => e = .returned (.tuple #[.int .i64 0, .bool false]) ∧ Below w.heap.size w w' := by
  have cR := fun w => ref56_Right (s.floors - 1) p w
  rw [h] at cR
  obtain ⟨h1, h2, h3, h4⟩ := right_iff.1 h
  unfold roundB at hb
  simp only [decide_eq_false_iff_not] at hb
  have CR := Lib.hid cR
  have H := Lib.hid h
  have HBAD := Lib.hid hb
  clear cR h hb
  go_enter Try.func50, Try.ntmps50
  go_wp2_with fail
  obtain ⟨hBw1, hcw1, hzw1⟩ := box w 57 (s.cells A C).toArray
  change Calls _ _ _ (w.alloc (.cells (s.cells A C).toArray 57)) _
  generalize (w.alloc (.cells (s.cells A C).toArray 57)) = w1 at *
  have z0 : w1.cell? ⟨w.heap.size, 0, none⟩ = some (.int .i64 s.floors) := hcw1 0
  have z1 : w1.cell? ⟨w.heap.size, 1, none⟩ = some (.int .i64 s.gap) := hcw1 1
  have z4 : w1.cell? ⟨w.heap.size, 4, none⟩ = some (.int .i64 s.open_) := hcw1 4
  have z5 : w1.cell? ⟨w.heap.size, 5, none⟩ = some (.int .i64 s.dwell) := hcw1 5
  have z6 : w1.cell? ⟨w.heap.size, 6, none⟩ = some (.int .i64 s.close) := hcw1 6
  have z7 : w1.cell? ⟨w.heap.size, 7, none⟩ = some (.int .i64 s.transfer) := hcw1 7
  clear hcw1
  refine (CR.out _).mono ?_
  rintro e w' ⟨rfl, rfl⟩
  go_wp2_with fail
  obtain ⟨hBw2, hcw2, hzw2⟩ := box w1 81 #[.int .i64 s.open_, .int .i64 s.dwell, .int .i64 s.close]
  change Code.wp _ _ _ _ (w1.alloc (.cells #[.int .i64 s.open_, .int .i64 s.dwell, .int .i64 s.close] 81))
  generalize (w1.alloc (.cells #[.int .i64 s.open_, .int .i64 s.dwell, .int .i64 s.close] 81)) = w2 at *
  rw [hzw1] at hcw2
  have y0 : w2.cell? ⟨w.heap.size + 1, 0, none⟩ = some (.int .i64 s.open_) := hcw2 0
  have y1 : w2.cell? ⟨w.heap.size + 1, 1, none⟩ = some (.int .i64 s.dwell) := hcw2 1
  have y2 : w2.cell? ⟨w.heap.size + 1, 2, none⟩ = some (.int .i64 s.close) := hcw2 2
  have x0 : w2.cell? ⟨w.heap.size, 0, none⟩ = some (.int .i64 s.floors) := keepc hBw2 z0
  have x1 : w2.cell? ⟨w.heap.size, 1, none⟩ = some (.int .i64 s.gap) := keepc hBw2 z1
  have x7 : w2.cell? ⟨w.heap.size, 7, none⟩ = some (.int .i64 s.transfer) := keepc hBw2 z7
  have hfin : Below w.heap.size w w2 := hBw1.trans (hBw2.mono hBw1.size)
  have HFIN := Lib.hid hfin
  clear hfin hBw1 hBw2 hcw2 hzw2 hzw1 z0 z1 z4 z5 z6 z7
  go_loop [7, 8] (fun u v => ∃ k : Nat, k ≤ 3 ∧ v = .int .i64 k ∧ Hid (pre192 s k) ∧ u = .int .i64 (doorS s k)) (fun _ v => 3 - (intOf v).toNat)
  case atStart => exact ⟨0, by omega, rfl, trivial, rfl⟩
  case round =>
    obtain ⟨k, hk, rfl, hpre, rfl⟩ := hrel
    have hk4 : k = 0 ∨ k = 1 ∨ k = 2 ∨ k = 3 := by omega
    rcases hk4 with rfl | rfl | rfl | rfl
    · have hs : doorS s 1 = doorS s 0 + max s.open_ 0 := rfl
      have hd : 0 ≤ doorS s 0 ∧ doorS s 0 ≤ 600 := by (have hu := hpre.out); (try simp only [pre192] at hu); (simp only [doorS, doorL]); omega
      obtain ⟨d0, d1⟩ := hd
      have hpn : s.open_ ≤ 192 → Hid (pre192 s 1) := fun hq => by have hu := hpre.out; exact hq
      have HPN := Lib.hid hpn
      clear hpn
      generalize doorS s 0 = d at *
      have HS := Lib.hid hs
      clear hs
      rcases Int.lt_or_le 0 s.open_ with q | q
      all_goals
        rcases Int.lt_or_le 192 s.open_ with q2 | q2
        all_goals
          go_wp2
          first
          | (go_ret2; exact ⟨rfl, HFIN.out⟩)
          | (go_round
             case rel => exact ⟨1, by omega, by go_num, HPN.out q2, val_int (by rw [HS.out]; omega)⟩
             case measure => simp [intOf])
          | (exfalso; omega)
    · have hs : doorS s 2 = doorS s 1 + max s.dwell 0 := rfl
      have hd : 0 ≤ doorS s 1 ∧ doorS s 1 ≤ 600 := by (have hu := hpre.out); (try simp only [pre192] at hu); (simp only [doorS, doorL]); omega
      obtain ⟨d0, d1⟩ := hd
      have hpn : s.dwell ≤ 192 → Hid (pre192 s 2) := fun hq => by have hu := hpre.out; exact ⟨hu, hq⟩
      have HPN := Lib.hid hpn
      clear hpn
      generalize doorS s 1 = d at *
      have HS := Lib.hid hs
      clear hs
      rcases Int.lt_or_le 0 s.dwell with q | q
      all_goals
        rcases Int.lt_or_le 192 s.dwell with q2 | q2
        all_goals
          go_wp2
          first
          | (go_ret2; exact ⟨rfl, HFIN.out⟩)
          | (go_round
             case rel => exact ⟨2, by omega, by go_num, HPN.out q2, val_int (by rw [HS.out]; omega)⟩
             case measure => simp [intOf])
          | (exfalso; omega)
    · have hs : doorS s 3 = doorS s 2 + max s.close 0 := rfl
      have hd : 0 ≤ doorS s 2 ∧ doorS s 2 ≤ 600 := by (have hu := hpre.out); (try simp only [pre192] at hu); (simp only [doorS, doorL]); omega
      obtain ⟨d0, d1⟩ := hd
      have hpn : s.close ≤ 192 → Hid (pre192 s 3) := fun hq => by have hu := hpre.out; exact ⟨hu.1, hu.2, hq⟩
      have HPN := Lib.hid hpn
      clear hpn
      generalize doorS s 2 = d at *
      have HS := Lib.hid hs
      clear hs
      rcases Int.lt_or_le 0 s.close with q | q
      all_goals
        rcases Int.lt_or_le 192 s.close with q2 | q2
        all_goals
          go_wp2
          first
          | (go_ret2; exact ⟨rfl, HFIN.out⟩)
          | (go_round
             case rel => exact ⟨3, by omega, by go_num, HPN.out q2, val_int (by rw [HS.out]; omega)⟩
             case measure => simp [intOf])
          | (exfalso; omega)
    · rw [doorS_three]
      have hd : 0 ≤ doorN s ∧ doorN s ≤ 600 := by have hu := hpre.out; simp only [pre192] at hu; unfold doorN; omega
      obtain ⟨d0, d1⟩ := hd
      go_wp2
      all_goals first | (go_ret2; exact ⟨rfl, HFIN.out⟩) | (exfalso; have := HBAD.out; have hu := hpre.out; simp only [pre192] at hu; omega)
end Go.Proofs.Ytokgokjgpmdlpaa


/-
  The document's wants: hoistwayref30.Between. Conditions: the numbers fit.
-/
import Derived.Test.YtejcgagblpkmoaaDoorBetween
set_option linter.unusedVariables false
set_option linter.unusedSimpArgs false
namespace Go.Proofs.YtejcgagblpkmoaaDoor
open Go.Joins Go.ChangeShapes Go.WideShapes Go.ChangeAt Go.RowKit Go.Deep

theorem cntB_take (a b : Int) (l : List Int) (i : Nat) (hi : i < l.length) : cntB a b (l.take (i + 1)) = cntB a b (l.take i) + (if btw a b (at0 l i) then 1 else 0) := by
  have : at0 l i = l[i] := by unfold at0; simp [List.getD, List.getElem?_eq_getElem hi]
  rw [List.take_succ_eq_append_getElem hi, cntB_snoc, this]
set_option maxRecDepth 20000 in
set_option maxHeartbeats 8000000 in
theorem ref30_Between (x y : Nat) (a b : Int) (w : World) (hx : Wd x) (hy : Wd y) (ha : I64 a) (hb : I64 b) :
    Calls Tryd.prog 39 #[sv x y, .int .i64 a, .int .i64 b] w fun e w' => e = .returned (.int .i64 (cntB a b (items x y) : Nat)) ∧ Below w.heap.size w w' := by
  have cI := fun w => ref03_Items x y w hx hy
  have hlen := itemL_len x y
  have htk := cntB_take a b (items x y)
  have hle := fun i => cntB_le a b ((items x y).take i)
  have hal : cntB a b ((items x y).take (items x y).length) = cntB a b (items x y) := by rw [List.take_length]
  have hz : cntB a b ((items x y).take 0) = 0 := rfl
  have hbw : ∀ v, btw a b v = (decide (a < v) && decide (v < b) || (decide (b < v) && decide (v < a))) := fun v => (btw_or a b v).symm
  unfold sv at *
  generalize btw a b = Q at *
  generalize items x y = L at *
  generalize cntB a b L = r at *
  have hG : ∃ G : Nat → Nat, ∀ i, cntB a b (L.take i) = G i := ⟨fun i => cntB a b (L.take i), fun _ => rfl⟩
  obtain ⟨G, hG⟩ := hG
  simp only [hG] at htk hle hal hz
  have CI := Lib.hid cI
  have HTK := Lib.hid htk
  have HLE := Lib.hid hle
  have HAL := Lib.hid hal
  have HZ := Lib.hid hz
  have HBW := Lib.hid hbw
  have HL := Lib.hid hlen
  clear cI htk hle hal hz hbw hlen hx hy ha hb hG
  go_enter Tryd.func39, Tryd.ntmps39
  go_wp2_with (first | ((with_reducible refine hold_list ?_ ?_); (· exact Eq.refl true)) | ((with_reducible refine hold_region ?_ ?_); (· exact Eq.refl true)) | (with_reducible refine hold_loop ?_))
  have k0 : Blk (w.alloc (.cells #[.int .u64 (x : Int), .int .u64 (y : Int)] 38)) (w.heap.size) 38 #[.int .u64 (x : Int), .int .u64 (y : Int)] := (blk_at (by simp))
  have hB : Below w.heap.size w (w.alloc (.cells #[.int .u64 (x : Int), .int .u64 (y : Int)] 38)) := (bel_at (Below.refl _ _) (.cells #[.int .u64 (x : Int), .int .u64 (y : Int)] 38))
  generalize (w.alloc (.cells #[.int .u64 (x : Int), .int .u64 (y : Int)] 38)) = w1 at *
  (try clear k0c k0f k0z); have k0c := fun i => Blk.cell k0 i; have k0f := fun i => Blk.free k0 i; have k0z := Blk.lt k0
  unfold Hold
  go_wp2_with (go_at_call 33; refine (CI.out _).mono ?_)
  rintro e w2 hret
  obtain ⟨A, C, rfl, hint, hb2⟩ := hret.ints
  replace hB := hB.trans (hb2.mono hB.size)
  clear k0 k0c k0f k0z hret hb2
  have HI := Lib.hid hint
  have HB := Lib.hid hB
  clear hint hB
  go_wp2_with (with_reducible refine hold_loop ?_)
  unfold Hold
  go_loopw [8, 9] (fun v i wr => wr = w2 ∧ ∃ j : Nat, j ≤ L.length ∧ i = .int .i64 (j : Int) ∧ v = .int .i64 (G j : Nat)) (fun _ i _ => L.length - (intOf i).toNat)
  case atStart => exact ⟨rfl, 0, Nat.zero_le _, rfl, by rw [HZ.out]; rfl⟩
  case round =>
    obtain ⟨rfl, j, hj, rfl, rfl⟩ := hrel
    by_cases hlt : j < L.length
    · have htk := HTK.out j hlt
      obtain ⟨b0, off, rfl, hbl, hce⟩ := HI.out (by omega)
      have hcx := hce j hlt
      have e0 : IntKind.i64.wrap ((j : Int) + 1) = (j : Int) + 1 := IntWalk.i64_in _ (by have := HL.out; omega)
      have hgl := HLE.out j
      have hgl2 := List.length_take_le j L
      have e1 : IntKind.i64.wrap ((G j : Int) + 1) = (G j : Int) + 1 := IntWalk.i64_in _ (by have := HL.out; omega)
      generalize at0 L j = z at *
      have hbw := HBW.out z
      clear hgl hgl2 hce
      cases q1 : decide (a < z) <;> cases q2 : decide (z < b) <;> cases q3 : decide (b < z) <;> cases q4 : decide (z < a) <;> (
        rw [q1, q2, q3, q4] at hbw
        simp only [Bool.and_true, Bool.and_false, Bool.or_true, Bool.or_false, Bool.true_and, Bool.false_and] at hbw
        rw [hbw] at htk
        have HK := Lib.hid htk
        clear htk hbw
        go_wp2
        go_roundw
        case rel => exact ⟨trivial, j + 1, by omega, by go_num, by rw [HK.out]; first | rfl | (simp; done) | go_num⟩
        case measure => simp [intOf]; omega)
    · obtain rfl : j = L.length := by omega
      rw [HAL.out]
      go_wp2
      go_ret
      exact ⟨rfl, HB.out⟩
end Go.Proofs.YtejcgagblpkmoaaDoor

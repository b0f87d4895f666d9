/-
  slices.Equal of two slices that read as one list of trips. Condition: there are at most 100000. The chapter's example of layer 57. Condition: the library's variable is the one laid.
-/
import Derived.Test.YtgfhgopfhcakhaaDoorShtT
import Derived.Test.YtgfhgopfhcakhaaDoorTxt
set_option linter.unusedVariables false
set_option linter.unusedSimpArgs false
namespace Go.Proofs.YtgfhgopfhcakhaaDoor
open Go Go.Joins Go.ChangeShapes Go.WideShapes Go.ChangeAt Go.RowKit Go.Deep

def tripEq (a b : Trip) : Bool := a.id == b.id && a.arrive == b.arrive && a.from_ == b.from_ && a.dest == b.dest && a.car == b.car && a.board == b.board && a.alight == b.alight
theorem run_trips (a b : Trip) (w : World) : (Op.equalIn 10000 43 (.agg #[.int .i64 a.id, .int .i64 a.arrive, .int .i64 a.from_, .int .i64 a.dest, .int .i64 a.car, .int .i64 a.board, .int .i64 a.alight]) (.agg #[.int .i64 b.id, .int .i64 b.arrive, .int .i64 b.from_, .int .i64 b.dest, .int .i64 b.car, .int .i64 b.board, .int .i64 b.alight])).run Tryd.prog w = .ok (tripEq a b) w := by
  unfold tripEq
  simp [go_sem]
  repeat (split; rotate_left; · simp_all)
  simp_all
set_option maxHeartbeats 2000000 in
theorem trips_same (A B : Option Addr) (C D : Nat) (xs : List Trip) (w : World) (hx : Trips w A xs) (hy : Trips w B xs) (hl : xs.length ≤ 100000) :
    Calls Tryd.prog 20 #[.slice A xs.length C, .slice B xs.length D] w fun e w' => e = .returned (.bool true) ∧ Below w.heap.size w w' := by
  have HX := Lib.hid hx
  have HY := Lib.hid hy
  clear hx hy
  have hne : ((xs.length : Int) != (xs.length : Int)) = false := by simp
  go_enter Tryd.func20, Tryd.ntmps20
  go_wp2
  clear hne
  go_loopw [13] (fun i wr => ∃ k : Nat, k ≤ xs.length ∧ i = .int .i64 k ∧ Below w.heap.size w wr) (fun i _ => xs.length - (intOf i).toNat)
  case atStart => exact ⟨0, by omega, rfl, Below.refl _ _⟩
  case round =>
    obtain ⟨k, hk, rfl, hb⟩ := hrel
    by_cases hkx : k < xs.length
    · obtain ⟨b, off, rfl, hbl, hce⟩ := HX.out (by omega)
      obtain ⟨b2, off2, rfl, hbl2, hce2⟩ := HY.out (by omega)
      obtain ⟨t, ht⟩ := at_some hkx
      have z := fun j v h => (hb.cell (p := ⟨b, off + k * 7 + j, none⟩) hbl).trans (hce k t ht j v h)
      have y := fun j v h => (hb.cell (p := ⟨b2, off2 + k * 7 + j, none⟩) hbl2).trans (hce2 k t ht j v h)
      have z0 := z 0 _ rfl
      have z1 := z 1 _ rfl
      have z2 := z 2 _ rfl
      have z3 := z 3 _ rfl
      have z4 := z 4 _ rfl
      have z5 := z 5 _ rfl
      have z6 := z 6 _ rfl
      have y0 := y 0 _ rfl
      have y1 := y 1 _ rfl
      have y2 := y 2 _ rfl
      have y3 := y 3 _ rfl
      have y4 := y 4 _ rfl
      have y5 := y 5 _ rfl
      have y6 := y 6 _ rfl
      simp only [Nat.add_zero] at z0 y0
      have hzb : b < wr.heap.size := by have := hb.size; omega
      have hzb2 : b2 < wr.heap.size := by have := hb.size; omega
      have i0 : (0 : Int) ≤ (k : Int) := by omega
      have i1 : (k : Int) < (xs.length : Int) := by omega
      have hq := fun w => run_trips t t w
      rw [show tripEq t t = true by simp [tripEq]] at hq
      clear hce hce2 ht z y
      go_wp2_with fail
      have hb2 := hb
      go_quiet (fail)
      clear hq
      go_wp2
      go_roundw
      case rel => exact ⟨k + 1, by omega, by go_num, below_drewN hb2 _⟩
      case measure => simp [intOf]; omega
    · obtain rfl : k = xs.length := by omega
      go_wp2
      go_ret
      exact ⟨rfl, hb⟩
end Go.Proofs.YtgfhgopfhcakhaaDoor
set_option linter.unusedVariables false
set_option linter.unusedSimpArgs false
namespace Go.Proofs.YtgfhgopfhcakhaaDoor
open Go Go.Joins Go.ChangeShapes Go.WideShapes Go.ChangeAt Go.RowKit Go.Deep

set_option maxRecDepth 20000 in
theorem alive57 (m : Int) (w : World) (hm : Mx m w) : Calls Tryd.prog 21 #[] w fun e w' => e = .returned (.bool true) ∧ Below w.heap.size w w' := by
  have cT := sheet_Text m none 0 [] w hm (fun hp => absurd hp (by decide)) (by decide) (fun i t hi => by cases hi)
  have hv : sheetT [] = [105, 100, 44, 97, 114, 114, 105, 118, 101, 44, 102, 114, 111, 109, 44, 116, 111, 44, 99, 97, 114, 44, 98, 111, 97, 114, 100, 44, 97, 108, 105, 103, 104, 116, 10] := by decide
  rw [hv] at cT
  have q0 : ((txt [105, 100, 44, 97, 114, 114, 105, 118, 101, 44, 102, 114, 111, 109, 44, 116, 111, 44, 99, 97, 114, 44, 98, 111, 97, 114, 100, 44, 97, 108, 105, 103, 104, 116, 10]).toList == [105, 100, 44, 97, 114, 114, 105, 118, 101, 44, 102, 114, 111, 109, 44, 116, 111, 44, 99, 97, 114, 44, 98, 111, 97, 114, 100, 44, 97, 108, 105, 103, 104, 116, 10]) = true := by rw [txt_toList]; rfl
  have CT := Lib.hid cT
  clear cT hv
  go_enter Tryd.func21, Tryd.ntmps21
  go_wp2_with fail
  refine CT.out.mono ?_
  rintro e w2 ⟨rfl, hb2⟩
  go_wp2_with fail
  refine (sheet_Head w2).mono ?_
  rintro e w3 ⟨v, rfl, hown, hb3⟩
  obtain ⟨A, C, rfl⟩ := own_formQ hown
  have hl : Value.slice A headR.length C = .slice A 7 C := rfl
  rw [hl]
  clear hown hl
  go_wp2
  go_ret
  exact ⟨rfl, hb2.trans (hb3.mono hb2.size)⟩
end Go.Proofs.YtgfhgopfhcakhaaDoor

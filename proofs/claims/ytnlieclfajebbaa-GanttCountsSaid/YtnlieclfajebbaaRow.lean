
/-
  A row of the drawing: gantt.Row; and the chapter's example, hoistwaylaw71.alive. Condition: the legs are within bounds, no span has more than 300 ticks.
-/
import Derived.Test.YtnlieclfajebbaaMark
import Derived.Test.YtnlieclfajebbaaBld
set_option linter.unusedVariables false
set_option linter.unusedSimpArgs false
namespace Go.Proofs.Ytnlieclfajebbaa
open Go.Joins Go.ChangeShapes Go.WideShapes Go.ChangeAt Go.RowKit Go.Deep

def rowC (ls : List Leg) (f t : Int) : UInt8 := mk (sumG (gU ls) f (t - f).toNat) (sumG (gD ls) f (t - f).toNat) (sumG (gO ls) f (t - f).toNat)
def rowL (ls : List Leg) (n h : Int) : Nat → List UInt8
  | 0 => []
  | k + 1 => rowL ls n h k ++ [rowC ls ((k : Int) * h / n) (((k : Int) + 1) * h / n)]
theorem rowL_len (ls : List Leg) (n h : Int) (k : Nat) : (rowL ls n h k).length = k := by
  induction k with
  | zero => rfl
  | succ k ih => simp [rowL, ih]
theorem cells_snoc (l : List UInt8) (b : UInt8) : Lib.byteCells l ++ [.int .u8 (b.toNat : Int)] = Lib.byteCells (l ++ [b]) := by simp [Lib.byteCells]
theorem span_in {x n h : Int} (x0 : 0 ≤ x) (x1 : x ≤ n) (n1 : 1 ≤ n) (h0 : 0 ≤ h) : 0 ≤ x * h / n ∧ x * h / n ≤ h := by
  refine ⟨Int.ediv_nonneg (Int.mul_nonneg x0 h0) (by omega), ?_⟩
  have h1 : x * h ≤ n * h := Int.mul_le_mul_of_nonneg_right x1 h0
  have h2 := Int.ediv_le_ediv (show 0 < n by omega) h1
  rwa [Int.mul_ediv_cancel_left _ (by omega)] at h2
set_option maxRecDepth 20000 in
set_option maxHeartbeats 8000000 in
theorem gantt_Row (A : Option Addr) (C : Nat) (ls : List Leg) (n h : Int) (w : World) (hx : Legs w A ls) (hf : fineLs ls) (n1 : 1 ≤ n) (n2 : n ≤ 1000000) (h0 : 0 ≤ h) (h1 : h ≤ 1048576)
    (hs : ∀ i : Int, 0 ≤ i → i < n → (i + 1) * h / n ≤ i * h / n + 300) :
    Calls Try.prog 72 #[.slice A ls.length C, .int .i64 n, .int .i64 h] w fun e w' => e = .returned (.string ⟨(rowL ls n h n.toNat).toArray⟩) ∧ Below w.heap.size w w' := by
  have HX := Lib.hid hx
  have HF := Lib.hid hf
  have HS := Lib.hid hs
  clear hx hf hs
  go_enter Try.func72, Try.ntmps72
  go_wp2_with fail
  have hN := Bld.fresh w
  have hB := Joins.below_alloc1 w (.cells #[.pointer none, .slice none 0 0] 122)
  generalize w.alloc (.cells #[.pointer none, .slice none 0 0] 122) = w1 at *
  go_loopw [8, 10] (fun j i wr => ∃ k : Nat, (k : Int) ≤ n ∧ i = .int .i64 (k : Int) ∧ Bld w.heap.size w.heap.size (Lib.byteCells (rowL ls n h k)) wr ∧ Below w.heap.size w wr) (fun j i _ => (n - intOf i).toNat)
  case atStart => exact ⟨0, by omega, rfl, hN, hB⟩
  case round =>
    obtain ⟨k, hk, rfl, hbl, hb⟩ := hrel
    by_cases hkl : (k : Int) < n
    · obtain ⟨a0, a1⟩ := span_in (x := k) (n := n) (h := h) (by omega) (by omega) n1 h0
      obtain ⟨a2, a3⟩ := span_in (x := k + 1) (n := n) (h := h) (by omega) (by omega) n1 h0
      have a4 := HS.out k (by omega) hkl
      have cS := fun w => gantt_Span k n h w (by omega) (by omega) n1 (by omega) h0 h1
      have eL : rowL ls n h (k + 1) = rowL ls n h k ++ [rowC ls ((k : Int) * h / n) (((k : Int) + 1) * h / n)] := rfl
      have eC : rowC ls ((k : Int) * h / n) (((k : Int) + 1) * h / n) = mk (sumG (gU ls) ((k : Int) * h / n) ((((k : Int) + 1) * h / n) - ((k : Int) * h / n)).toNat) (sumG (gD ls) ((k : Int) * h / n) ((((k : Int) + 1) * h / n) - ((k : Int) * h / n)).toNat) (sumG (gO ls) ((k : Int) * h / n) ((((k : Int) + 1) * h / n) - ((k : Int) * h / n)).toNat) := rfl
      have hlen := rowL_len ls n h k
      generalize rowC ls ((k : Int) * h / n) (((k : Int) + 1) * h / n) = c at *
      generalize ((k : Int) + 1) * h / n = t at *
      generalize (k : Int) * h / n = f at *
      have cC := fun w hx => gantt_Count A C ls f t w hx HF.out (by omega) (by omega) (by omega) a4
      generalize sumG (gU ls) f (t - f).toNat = s1 at *
      generalize sumG (gD ls) f (t - f).toNat = s2 at *
      generalize sumG (gO ls) f (t - f).toNat = s3 at *
      have cM := fun w => gantt_Mark s1 s2 s3 w
      rw [← eC] at cM
      have CS := Lib.hid cS
      have CC := Lib.hid cC
      have CM := Lib.hid cM
      have EL := Lib.hid eL
      have HL := Lib.hid hlen
      clear cS cC cM eL eC hlen a0 a1 a2 a3 a4
      go_wp2_with fail
      refine (CS.out _).mono ?_
      rintro e w2 ⟨rfl, hb2⟩
      have hB2 := hb.trans (hb2.mono hb.size)
      have hbl2 := hbl.below hb2
      clear hb2
      go_wp2_with fail
      refine (CC.out _ (HX.out.below hB2)).mono ?_
      rintro e w3 ⟨rfl, hb3⟩
      have hB3 := hB2.trans (hb3.mono hB2.size)
      have hbl3 := hbl2.below hb3
      clear hb3
      go_wp2_with fail
      refine (CM.out _).mono ?_
      rintro e w4 ⟨rfl, rfl⟩
      go_wp2_with fail
      refine (bld_byte w.heap.size w.heap.size _ _ _ hbl3 (by rw [Lib.byteCells_length, HL.out]; omega) hB3.size).mono ?_
      rintro e w5 ⟨rfl, hbl5, hb5⟩
      have hB5 := hB3.trans hb5
      rw [cells_snoc, ← EL.out] at hbl5
      go_wp2
      go_roundw
      case rel => exact ⟨k + 1, by omega, val_int (by omega), hbl5, hB5⟩
      case measure => simp [intOf]; omega
    · have hkk : k = n.toNat := by omega
      subst hkk
      go_wp2_with fail
      refine (Try.Builder_String_any w.heap.size w.heap.size _ _ hbl hb.size).mono ?_
      rintro e w2 ⟨rfl, hb2⟩
      go_wp2
      go_ret
      exact ⟨rfl, hb.trans hb2⟩
end Go.Proofs.Ytnlieclfajebbaa

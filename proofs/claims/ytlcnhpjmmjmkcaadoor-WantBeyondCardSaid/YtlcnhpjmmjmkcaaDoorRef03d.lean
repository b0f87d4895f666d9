
/-
  The document's sets: hoistwayref03.Of, Has. Conditions: at most 1000000 numbers; the numbers fit.
-/
import Derived.Test.YtlcnhpjmmjmkcaaDoorRef03c
set_option linter.unusedVariables false
set_option linter.unusedSimpArgs false
namespace Go.Proofs.YtlcnhpjmmjmkcaaDoor
open Go.Joins Go.ChangeShapes Go.WideShapes Go.ChangeAt Go.RowKit Go.Deep

theorem of_step (f : Nat → Int) (k n : Nat) (h : f k = (n : Int)) (hn : n < 128) : rowA (fun j => if j = n then true else bitsF (ofX f k) (ofY f k) j) = rowA (bitsF (ofX f (k + 1)) (ofY f (k + 1))) := by
  apply row_ext
  intro i hi
  unfold bitsF
  simp only [ofX, ofY]
  rw [mem_with, h]
  by_cases e : i = n
  · subst e
    rw [if_pos rfl, decide_eq_true (show (0:Int) ≤ (i : Int) ∧ (i : Int) < 128 by omega), decide_eq_true rfl]
    simp
  · rw [if_neg e, decide_eq_false (show ¬ (n : Int) = (i : Int) by omega)]
    simp
theorem of_skip (f : Nat → Int) (k : Nat) (h : f k < 0 ∨ 128 ≤ f k) : ofX f (k + 1) = ofX f k ∧ ofY f (k + 1) = ofY f k := by
  simp only [ofX, ofY]
  unfold withX withY
  rw [if_neg (by omega), if_neg (by omega)]
  exact ⟨rfl, rfl⟩
set_option maxRecDepth 20000 in
set_option maxHeartbeats 4000000 in
theorem ref03_Of (A : Option Addr) (C : Nat) (xs : List Int) (w : World) (hx : Ints w A xs) (hl : xs.length ≤ 1000000) (hbd : ∀ i, I64 (at0 xs i)) :
    Calls Tryd.prog 13 #[.slice A xs.length C] w fun e w' => e = .returned (sv (ofX (at0 xs) xs.length) (ofY (at0 xs) xs.length)) ∧ Below w.heap.size w w' := by
  have hmk := mk_bits (f := bitsF (ofX (at0 xs) xs.length) (ofY (at0 xs) xs.length)) (wd_of (at0 xs) xs.length).1 (wd_of (at0 xs) xs.length).2 (fun n _ => rfl)
  have cM := fun w => ref03_Make (bitsF (ofX (at0 xs) xs.length) (ofY (at0 xs) xs.length)) w
  rw [hmk.1, hmk.2] at cM
  clear hmk
  unfold sv at *
  have z := row_zero
  have HX := Lib.hid hx
  have CM := Lib.hid cM
  clear hx cM
  go_enter Tryd.func13, Tryd.ntmps13
  go_wp2
  have k0 : Blk ((w.alloc (.cells #[.int .u64 0, .int .u64 0] 24)).alloc (.cells (rowA fun _ => false) 61)) (w.heap.size) 24 #[.int .u64 0, .int .u64 0] := (Blk.alloc (blk_at (by simp)) (.cells (rowA fun _ => false) 61))
  have k1 : Blk ((w.alloc (.cells #[.int .u64 0, .int .u64 0] 24)).alloc (.cells (rowA fun _ => false) 61)) (w.heap.size + 1) 61 (rowA fun _ => false) := (blk_at (by simp))
  have hB : Below w.heap.size w ((w.alloc (.cells #[.int .u64 0, .int .u64 0] 24)).alloc (.cells (rowA fun _ => false) 61)) := (bel_at (bel_at (Below.refl _ _) (.cells #[.int .u64 0, .int .u64 0] 24)) (.cells (rowA fun _ => false) 61))
  generalize ((w.alloc (.cells #[.int .u64 0, .int .u64 0] 24)).alloc (.cells (rowA fun _ => false) 61)) = w1 at *
  (try clear k0c k0f k0z); have k0c := fun i => Blk.cell k0 i; have k0f := fun i => Blk.free k0 i; have k0z := Blk.lt k0; (try clear k1c k1f k1z); have k1c := fun i => Blk.cell k1 i; have k1f := fun i => Blk.free k1 i; have k1z := Blk.lt k1
  have hp0 : rowA (fun _ => false) = rowA (bitsF (ofX (at0 xs) 0) (ofY (at0 xs) 0)) := row_ext fun i _ => by unfold bitsF; simp only [ofX, ofY]; rw [mem_zero]
  rw [hp0] at k1
  clear k0c k0f k0z k1c k1f k1z
  go_loopw [4] (fun i wr => ∃ k : Nat, k ≤ xs.length ∧ i = .int .i64 k ∧ Blk wr w.heap.size 24 #[.int .u64 0, .int .u64 0] ∧ Blk wr (w.heap.size + 1) 61 (rowA (bitsF (ofX (at0 xs) k) (ofY (at0 xs) k))) ∧ Below w.heap.size w wr) (fun i _ => xs.length - (intOf i).toNat)
  case atStart => exact ⟨0, by omega, rfl, k0, k1, hB⟩
  case round =>
    obtain ⟨k, hk, rfl, b0, b1, hb⟩ := hrel
    by_cases hlt : k < xs.length
    · obtain ⟨b, off, rfl, hbl, hce⟩ := (HX.out.below hb) (by omega)
      have hcx := hce k hlt
      have hbk := hbd k
      have B0 := Lib.hid b0
      have B1 := Lib.hid b1
      have k1f := fun i => Blk.free b1 i
      by_cases hu : at0 xs k < 0 ∨ 128 ≤ at0 xs k
      · have hs := of_skip (at0 xs) k hu
        have HS := Lib.hid hs
        clear hce hs b0 b1 CM
        generalize at0 xs k = x at *
        rcases hu with hu | hu
        · have q1 : decide (0 ≤ x) = false := decide_eq_false (by omega)
          go_wp2
          go_roundw
          case rel => exact ⟨k + 1, by omega, by go_num, B0.out, by rw [HS.out.1, HS.out.2]; exact B1.out, hb⟩
          case measure => simp [intOf]; try omega
        · have q1 : decide (0 ≤ x) = true := decide_eq_true (by omega)
          have q2 : decide (x < 128) = false := decide_eq_false (by omega)
          go_wp2
          go_roundw
          case rel => exact ⟨k + 1, by omega, by go_num, B0.out, by rw [HS.out.1, HS.out.2]; exact B1.out, hb⟩
          case measure => simp [intOf]; try omega
      · obtain ⟨n, hn⟩ : ∃ n : Nat, at0 xs k = (n : Int) := ⟨(at0 xs k).toNat, by omega⟩
        have hn3 : n < 128 := by omega
        have hs := of_step (at0 xs) k n hn hn3
        rw [hn] at hcx
        have k1n : wr.cell? ⟨w.heap.size + 1, n, none⟩ = some (.bool (bitsF (ofX (at0 xs) k) (ofY (at0 xs) k) n)) := by rw [b1.cell]; exact row_get _ hn3
        have hs2 := row_set (bitsF (ofX (at0 xs) k) (ofY (at0 xs) k)) n true
        rw [hs] at hs2
        have HS := Lib.hid hs2
        clear hce hs hs2 b0 b1 CM hn hu hbk
        generalize bitsF (ofX (at0 xs) k) (ofY (at0 xs) k) n = old at *
        have q1 : decide (0 ≤ (n : Int)) = true := decide_eq_true (by omega)
        have q2 : decide ((n : Int) < 128) = true := decide_eq_true (by omega)
        go_wp2
        go_roundw
        case rel => exact ⟨k + 1, by omega, by go_num, B0.out.far (p := ⟨w.heap.size + 1, n, none⟩) (by simp) _, by rw [← HS.out]; exact B1.out.set_ n _, hb.setCell (p := ⟨w.heap.size + 1, n, none⟩) (by simp) _⟩
        case measure => simp [intOf]; try omega
    · obtain rfl : k = xs.length := by omega
      obtain ⟨r1, hr1⟩ : ∃ r, r = ((ofX (at0 xs) xs.length : Nat) : Int) := ⟨_, rfl⟩
      obtain ⟨r2, hr2⟩ : ∃ r, r = ((ofY (at0 xs) xs.length : Nat) : Int) := ⟨_, rfl⟩
      have cM := CM.out
      rw [← hr1, ← hr2] at cM
      have CM2 := Lib.hid cM
      have R1 := Lib.hid hr1
      have R2 := Lib.hid hr2
      clear cM CM hr1 hr2 hbd
      go_wp2_with (first | ((with_reducible refine row_load_step ?_ b1 ?_); (· rfl); simp only [Act.put, List.setIfInBounds_toArray, List.set_cons_succ, List.set_cons_zero]) | (go_at_call 48; refine (CM2.out _).mono ?_))
      rintro e w2 ⟨rfl, hb2⟩
      have hB2 := hb.trans (hb2.mono hb.size)
      have k0 := b0.below hb2 b0.lt
      (try clear k0c k0f k0z); have k0c := fun i => Blk.cell k0 i; have k0f := fun i => Blk.free k0 i; have k0z := Blk.lt k0
      clear b0 b1
      go_wp2
      refine bodyPost_ret (v := .agg #[.int .u64 r1, .int .u64 r2]) (by simp [results, Tryd.results13, go_sem, k0c, k0f]) rfl ?_
      exact ⟨by rw [R1.out, R2.out], set2b (g := 0) hB2⟩
end Go.Proofs.YtlcnhpjmmjmkcaaDoor

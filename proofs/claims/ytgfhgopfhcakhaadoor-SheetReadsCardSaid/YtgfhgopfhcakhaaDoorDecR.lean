
/-
  The document's digits: hoistwayref02.plain, Text, Of. Condition: the numbers fit their kinds.
-/
import Derived.Test.YtgfhgopfhcakhaaDoorDecT
import Derived.RegionTactic
import Derived.Deep.DeepMust
set_option linter.unusedVariables false
set_option linter.unusedSimpArgs false
namespace Go.Proofs.YtgfhgopfhcakhaaDoor
open Go.Joins Go.ChangeShapes Go.WideShapes Go.ChangeAt Go.RowKit Go.Deep

theorem conv1 (g : Nat) (c : Nat) (b : UInt8) (x : Int) (w : World) (hx : x = (b.toNat : Int)) (h : w.cell? ⟨g, 0, none⟩ = some (.int .u8 x)) :
    (convert 48 9 (.slice (some ⟨g, 0, none⟩) 1 c)).run Tryd.prog w = .ok (.string (txt [b])) w := by
  subst hx
  refine run_convert_bytes_back w _ _ _ _ c [b] Tryd.underlying48 Tryd.underlying5 Tryd.underlying9 fun j hj => ?_
  have : j = 0 := by simp at hj; omega
  subst this
  exact h
theorem blk_conv (w : World) (b : UInt8) (x : Int) (hx : x = (b.toNat : Int)) (c : Nat) : (convert 48 9 (.slice (some ⟨w.heap.size, 0, none⟩) 1 c)).run Tryd.prog (w.alloc (.cells #[.int .u8 x] 5)) = .ok (.string (txt [b])) (w.alloc (.cells #[.int .u8 x] 5)) :=
  conv1 _ _ b x _ hx ((Blk.new w 5 #[.int .u8 x]).cell 0)
set_option maxRecDepth 20000 in
set_option maxHeartbeats 1000000 in
theorem ref_plain0 (n : Nat) (w : World) (hn : n < 10) : Calls Tryd.prog 61 #[.int .u64 n] w fun e w' => e = .returned (.string (txt (dec n))) ∧ Below w.heap.size w w' := by
  have hd : dec n = [dg n] := dec_small hn
  have hx : (48 : Int) + n = ((dg n).toNat : Int) := by rw [dg_toNat]; omega
  have hc := blk_conv w (dg n) (48 + n) hx 1
  have HD := Lib.hid hd
  clear hd hx
  go_enter Tryd.func61, Tryd.ntmps61
  go_wp2
  go_ret
  exact ⟨ret_str (by rw [HD.out]), Joins.below_alloc1 _ _⟩

theorem keep_cell {w w' : World} {g : Nat} {v : Value} (h : w.cell? ⟨g, 0, none⟩ = some v) (hg : g < w.heap.size) (hb : Below w.heap.size w w') : w'.cell? ⟨g, 0, none⟩ = some v := (hb.cell (p := ⟨g, 0, none⟩) hg).trans h
theorem held_tr {B w1 w' : World} (h : Below B.heap.size B w1) (hb : Below w1.heap.size w1 w') : Below B.heap.size B w' := h.trans (hb.mono h.size)
theorem held_al {B w1 : World} (h : Below B.heap.size B w1) (o : Obj) : Below B.heap.size B (w1.alloc o) := h.alloc h.size o
theorem blk0 (w : World) (v : Value) : (w.alloc (.cells #[v] 5)).cell? ⟨w.heap.size, 0, none⟩ = some v := (Blk.new w 5 #[v]).cell 0
theorem blk0d (w : World) (v : Value) : (w.alloc (.cells #[v] 5)).drew.cell? ⟨w.heap.size, 0, none⟩ = some v := blk0 w v
theorem blk0d_lt (w : World) (v : Value) : w.heap.size < (w.alloc (.cells #[v] 5)).drew.heap.size := by show w.heap.size < (w.alloc (.cells #[v] 5)).heap.size; simp
theorem held_ald (w : World) (o : Obj) : Below w.heap.size w (w.alloc o).drew := (Joins.below_alloc1 w o).drew
theorem blk_convd (w : World) (b : UInt8) (x : Int) (hx : x = (b.toNat : Int)) (c : Nat) : (convert 48 9 (.slice (some ⟨w.heap.size, 0, none⟩) 1 c)).run Tryd.prog (w.alloc (.cells #[.int .u8 x] 5)).drew = .ok (.string (txt [b])) (w.alloc (.cells #[.int .u8 x] 5)).drew :=
  conv1 _ _ b x _ hx (blk0d w _)
theorem blk0_lt (w : World) (v : Value) : w.heap.size < (w.alloc (.cells #[v] 5)).heap.size := by simp
set_option maxRecDepth 20000 in
set_option maxHeartbeats 400000 in
theorem ref_plain (f : Nat) : ∀ (n : Nat) (w : World), n < 10 ^ (f + 1) → n < 18446744073709551616 → Calls Tryd.prog 61 #[.int .u64 n] w fun e w' => e = .returned (.string (txt (dec n))) ∧ Below w.heap.size w w' := by
  induction f with
  | zero => exact fun n w h _ => ref_plain0 n w (by omega)
  | succ f ih =>
    intro n w h h64
    by_cases hn : n < 10
    · exact ref_plain0 n w hn
    · have hd : dec n = dec (n / 10) ++ [dg n] := dec_step (by omega) (by omega)
      have hx : (48 : Int) + (n : Int) % 10 = ((dg n).toNat : Int) := by rw [dg_toNat]; omega
      have cP : ∀ w, Calls Tryd.prog 61 #[.int .u64 ((n : Int) / 10)] w fun e w' => e = .returned (.string (txt (dec (n / 10)))) ∧ Below w.heap.size w w' := fun w => ih (n / 10) w (by rw [Nat.pow_succ] at h; omega) (by omega)
      have cV := fun g w h => conv1 g 1 (dg n) (48 + (n : Int) % 10) w hx h
      have n1 : (10 : Int) ≤ n := by omega
      have n2 : (n : Int) ≤ 18446744073709551615 := by omega
      have hr0 : (0 : Int) ≤ (n : Int) % 10 := by omega
      have hr1 : (n : Int) % 10 ≤ 9 := by omega
      have HD := Lib.hid hd
      have CP := Lib.hid cP
      have CV := Lib.hid cV
      have hx2 := Lib.hid hx
      clear hd cP cV ih h h64 hx hn
      go_enter Tryd.func61, Tryd.ntmps61
      go_wp2
      have hA := fun w => blk_conv w (dg n) (48 + (n : Int) % 10) hx2.out 1
      have hA2 := fun w => blk_convd w (dg n) (48 + (n : Int) % 10) hx2.out 1
      have hl1 : (txt (dec (n / 10))).size ≤ 20 := by rw [txt_size]; exact dec_len _
      have hl2 : (txt [dg n]).size ≤ 1 := by rw [txt_size]; simp
      have k1 : IntKind.u64.wrap ((n : Int) / 10) = (n : Int) / 10 := IntWalk.u64_in _ (by omega)
      have k2 : (n : Int).tmod 10 = (n : Int) % 10 := Int.tmod_eq_emod_of_nonneg (by omega)
      have k3 : IntKind.u64.wrap (48 + (n : Int) % 10) = 48 + (n : Int) % 10 := IntWalk.u64_in _ (by omega)
      have k4 : IntKind.u8.wrap (48 + (n : Int) % 10) = 48 + (n : Int) % 10 := by simp [IntKind.wrap, IntKind.bits, IntKind.signed]; omega
      go_region_with (first | (go_at_call 61; go_must (refine (CP.out _).mono ?_; rintro e w' ⟨rfl, hb⟩; try (have hcv := CV.out _ w' (keep_cell (blk0d _ _) (blk0d_lt _ _) hb)))))
      all_goals
        go_wp2
        go_ret
        exact ⟨ret_str (by rw [HD.out, ← txt_append]), by first | exact held_al (held_tr (B := w) (Below.refl _ _).drew hb) _ | exact held_tr (held_ald w _) hb⟩
theorem ref_plainN (n : Nat) (w : World) (h : n < 18446744073709551616) : Calls Tryd.prog 61 #[.int .u64 n] w fun e w' => e = .returned (.string (txt (dec n))) ∧ Below w.heap.size w w' := ref_plain 19 n w (by omega) h
set_option maxRecDepth 20000 in
theorem ref02_Text (a : Int) (w : World) (h : I64 a) : Calls Tryd.prog 51 #[.int .i64 a] w fun e w' => e = .returned (.string (txt (decI a))) ∧ Below w.heap.size w w' := by
  obtain ⟨b0, b1⟩ := absI_bd h
  have cS := fun w => ref_Size a w h
  rcases Int.lt_or_le a 0 with h0 | h0
  · have hd : decI a = 45 :: dec (absI a).toNat := by unfold decI; rw [if_pos h0]
    have hl : (txt (dec (absI a).toNat)).size ≤ 20 := by rw [txt_size]; exact dec_len (absI a).toNat
    have cP := fun w => ref_plainN (absI a).toNat w (by omega)
    rw [Int.toNat_of_nonneg b0] at cP
    have HD := Lib.hid hd
    have CS := Lib.hid cS
    have CP := Lib.hid cP
    clear hd cS cP
    unfold I64 at h
    obtain ⟨h1, h2⟩ := h
    generalize absI a = x at *
    go_enter Tryd.func51, Tryd.ntmps51
    go_wp2_with (first | (go_at_call 62; refine (CS.out _).mono ?_; rintro e w' ⟨rfl, rfl⟩) | (go_at_call 61; refine (CP.out _).mono ?_; rintro e w' ⟨rfl, hb⟩))
    go_ret
    exact ⟨ret_str (by rw [HD.out]; exact txt_cons 45 _), hb⟩
  · have hd : decI a = dec a.toNat := by unfold decI; rw [if_neg (by omega)]
    unfold I64 at h
    obtain ⟨h1, h2⟩ := h
    have cP := fun w => ref_plainN a.toNat w (by omega)
    rw [Int.toNat_of_nonneg h0] at cP
    have HD := Lib.hid hd
    have CP := Lib.hid cP
    clear hd cS cP b0 b1
    go_enter Tryd.func51, Tryd.ntmps51
    go_wp2_with (first | (go_at_call 61; refine (CP.out _).mono ?_; rintro e w' ⟨rfl, hb⟩))
    go_ret
    exact ⟨ret_str (by rw [HD.out]), hb⟩
theorem ref02_Of (a : Int) (w : World) (h : I64 a) : Calls Tryd.prog 41 #[.int .i64 a] w fun e w' => e = .returned (.string (txt (decI a))) ∧ Below w.heap.size w w' := by
  have cP := fun w => ref02_Text a w h
  have CP := Lib.hid cP
  unfold I64 at h
  obtain ⟨h1, h2⟩ := h
  clear cP
  go_enter Tryd.func41, Tryd.ntmps41
  go_wp2_with (first | (go_at_call 51; refine (CP.out _).mono ?_; rintro e w' ⟨rfl, hb⟩))
  go_ret
  exact ⟨rfl, hb⟩
end Go.Proofs.YtgfhgopfhcakhaaDoor

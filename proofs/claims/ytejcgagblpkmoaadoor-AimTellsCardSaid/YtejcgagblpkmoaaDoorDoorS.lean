/-
  The library's counts of a word: trailing zeros (with its table), leading zeros, ones. Condition of the first: the table lies as it was laid. The program's sets, by the library's counts: bits.Next, Prev, Count, And. Condition of Next: the library's table lies as laid. The program's sets, by the library's counts: bits.Prev, Count, And. No conditions beyond the kinds. bits.Shift: a set, greater by any number. Condition: the number fits.
-/
import Derived.Test.YtejcgagblpkmoaaDoorSetW2
import Derived.Test.YtejcgagblpkmoaaDoorPop
import Derived.Test.YtejcgagblpkmoaaDoorSeq
import Derived.Test.YtejcgagblpkmoaaDoorShelf
import Derived.Shelf.Spec.TrailingZeros
set_option linter.unusedVariables false
set_option linter.unusedSimpArgs false
namespace Go.Proofs.YtejcgagblpkmoaaDoor
open Go.Joins Go.ChangeShapes Go.WideShapes Go.ChangeAt Go.RowKit Go.Deep

/-- The table of trailing zeros lies in its variable. -/
structure Tab (w : World) : Prop where
  tab : TabAt 0 Lib.deBruijn64tab w
  pos : 0 < w.heap.size
theorem Tab.below {w w' : World} (h : Tab w) (hb : Below w.heap.size w w') : Tab w' :=
  ⟨fun j hj => by rw [← h.tab j hj]; exact hb.cell (p := ⟨0, j, none⟩) h.pos, by have := hb.size; have := h.pos; omega⟩
theorem Tab.out {w : World} (h : Tab w) (g : Grow w) : Tab g.world := h.below (Grow.below g)

set_option maxRecDepth 20000 in
set_option maxHeartbeats 1000000 in
theorem tz_core (x k idx : Nat) (w : World) (hx0 : ((x : Int) == 0) = false)
    (key : IntKind.u64.wrap (bits BinOp.and IntKind.u64 (x : Int) (IntKind.u64.wrap (-(x : Int))) * 285870213051353865) / 288230376151711744 = (idx : Int))
    (hi : idx < 64) (hk : k < 64) (hcell : w.cell? ⟨0, idx, none⟩ = some (.int .u8 k)) :
    Calls Tryd.prog 56 #[.int .u64 x] w fun e w' => e = .returned (.int .i64 k) ∧ w = w' := by
  go_enter Tryd.func56, Tryd.ntmps56
  go_wp2_with (simp only [key])
  go_ret
  exact ⟨rfl, rfl⟩
set_option maxRecDepth 20000 in
theorem tz_zero (w : World) : Calls Tryd.prog 56 #[.int .u64 0] w fun e w' => e = .returned (.int .i64 64) ∧ w = w' := by
  go_enter Tryd.func56, Tryd.ntmps56
  go_wp2
  go_ret
  exact ⟨rfl, rfl⟩
theorem bits_TZ (x : Nat) (w : World) (hx : Wd x) (hT : Tab w) : Calls Tryd.prog 56 #[.int .u64 x] w fun e w' => e = .returned (.int .i64 (Lib.ctz 64 x : Nat)) ∧ w = w' := by
  by_cases hx0 : x = 0
  · subst hx0
    exact tz_zero w
  · obtain ⟨hlow, hk⟩ := Lib.lowest_bit 64 x hx0 hx
    obtain ⟨hi, htab⟩ := Lib.deBruijn64_at _ hk
    have hcell := hT.tab _ hi
    rw [htab] at hcell
    exact tz_core x _ _ w (by simp; omega) (tz64_key x _ hx hx0 hlow) hi hk hcell
theorem bits_LZ (x : Nat) (w : World) (hx : Wd x) : Calls Tryd.prog 54 #[.int .u64 x] w fun e w' => e = .returned (.int .i64 (64 - (Lib.bitLen x : Int))) ∧ w = w' := by
  have h := Tryd.bits_LeadingZeros64 (x : Int) w (by omega) (by unfold Wd at hx; omega)
  rw [Int.toNat_natCast] at h
  exact h.mono fun e w' ⟨a, b⟩ => ⟨a, b.symm⟩
theorem msk85 : msk 85 8 = 6148914691236517205 := by decide +kernel
theorem msk51 : msk 51 8 = 3689348814741910323 := by decide +kernel
theorem msk15 : msk 15 8 = 1085102592571150095 := by decide +kernel
set_option maxRecDepth 20000 in
set_option maxHeartbeats 4000000 in
theorem ones_core (x a1 a2 a b1 b2 b s c d e f r : Int) (w : World)
    (e1 : bits .and .u64 (x / 2) 6148914691236517205 = a1) (e2 : bits .and .u64 x 6148914691236517205 = a2) (e3 : IntKind.u64.wrap (a1 + a2) = a)
    (e4 : bits .and .u64 (a / 4) 3689348814741910323 = b1) (e5 : bits .and .u64 a 3689348814741910323 = b2) (e6 : IntKind.u64.wrap (b1 + b2) = b)
    (e7 : IntKind.u64.wrap (b / 16 + b) = s) (e8 : bits .and .u64 s 1085102592571150095 = c)
    (e9 : IntKind.u64.wrap (c + c / 256) = d) (e10 : IntKind.u64.wrap (d + d / 65536) = e) (e11 : IntKind.u64.wrap (e + e / 4294967296) = f)
    (e12 : bits .and .i64 (wrap64 f) 127 = r) :
    Calls Tryd.prog 50 #[.int .u64 x] w fun e w' => e = .returned (.int .i64 r) ∧ w = w' := by
  go_enter Tryd.func50, Tryd.ntmps50
  go_wp2
  go_ret
  exact ⟨rfl, rfl⟩
theorem i64_and127 (n : Nat) (h2 : n < 9223372036854775808) : bits .and .i64 (n : Int) 127 = ((n % 128 : Nat) : Int) := by
  have h1 : (BitVec.ofInt 64 (n : Int)).toNat = n := by
    rw [BitVec.ofInt_natCast, BitVec.toNat_ofNat]; exact Nat.mod_eq_of_lt (by omega)
  have hb : (BitVec.ofInt 64 127).toNat = 127 := by decide +kernel
  show IntKind.i64.wrap ((BitVec.ofInt 64 (n : Int) &&& BitVec.ofInt 64 127).toNat : Int) = _
  rw [BitVec.toNat_and, h1, hb, show 127 = 2 ^ 7 - 1 from rfl, Nat.and_two_pow_sub_one_eq_mod, IntWalk.i64_in _ (by omega)]
theorem bits_Ones (x : Nat) (w : World) (hx : Wd x) : Calls Tryd.prog 50 #[.int .u64 x] w fun e w' => e = .returned (.int .i64 (popN x 64 : Nat)) ∧ w = w' := by
  obtain ⟨a, ha⟩ : ∃ a, a = one1 8 x := ⟨_, rfl⟩
  obtain ⟨b, hb⟩ : ∃ b, b = two2 8 a := ⟨_, rfl⟩
  obtain ⟨c, hc⟩ : ∃ c, c = thr3 8 b := ⟨_, rfl⟩
  obtain ⟨d, hd⟩ : ∃ d, d = c + c / 256 := ⟨_, rfl⟩
  obtain ⟨e, he⟩ : ∃ e, e = d + d / 65536 := ⟨_, rfl⟩
  obtain ⟨f, hf⟩ : ∃ f, f = e + e / 4294967296 := ⟨_, rfl⟩
  obtain ⟨h1, h2, h3, h4, h5, h6, h7⟩ := pop64 x a b c d e f hx ha hb hc hd he hf
  unfold one1 at ha
  unfold two2 at hb
  unfold thr3 at hc
  rw [msk85] at ha
  rw [msk51] at hb
  rw [msk15] at hc
  have wn : ∀ (z m : Nat), Wd z → Wd m → bits .and .u64 (z : Int) (m : Int) = ((z &&& m : Nat) : Int) := fun z m => and_word z m
  unfold Wd at hx
  have r := ones_core (x : Int) ((x / 2 &&& 6148914691236517205 : Nat) : Int) ((x &&& 6148914691236517205 : Nat) : Int) a ((a / 4 &&& 3689348814741910323 : Nat) : Int) ((a &&& 3689348814741910323 : Nat) : Int) b ((b / 16 + b : Nat) : Int) c d e f ((f % 128 : Nat) : Int) w
    (wn (x / 2) 6148914691236517205 (by show x / 2 < _; omega) (by show _ < _; omega)) (wn x 6148914691236517205 hx (by show _ < _; omega)) (by rw [IntWalk.u64_in _ (by omega)]; omega)
    (wn (a / 4) 3689348814741910323 (by show a / 4 < _; omega) (by show _ < _; omega)) (wn a 3689348814741910323 h2 (by show _ < _; omega)) (by rw [IntWalk.u64_in _ (by omega)]; omega)
    (by rw [IntWalk.u64_in _ (by omega)]; omega) (by rw [hc]; exact wn (b / 16 + b) 1085102592571150095 h4 (by show _ < _; omega))
    (by rw [IntWalk.u64_in _ (by omega)]; omega) (by rw [IntWalk.u64_in _ (by omega)]; omega) (by rw [IntWalk.u64_in _ (by omega)]; omega)
    (by rw [IntWalk.wrap64_in _ (by omega)]; exact i64_and127 f h7)
  rw [h1] at r
  exact r
end Go.Proofs.YtejcgagblpkmoaaDoor
set_option linter.unusedVariables false
set_option linter.unusedSimpArgs false
namespace Go.Proofs.YtejcgagblpkmoaaDoor
open Go.Joins Go.ChangeShapes Go.WideShapes Go.ChangeAt Go.RowKit Go.Deep

def nextI (x y : Nat) : Int := if x ≠ 0 then (Lib.ctz 64 x : Nat) else if y ≠ 0 then 64 + (Lib.ctz 64 y : Nat) else 0
def nextB (x y : Nat) : Bool := decide (x ≠ 0) || decide (y ≠ 0)
def prevI (x y : Nat) : Int := if y ≠ 0 then 63 + (Lib.bitLen y : Int) else if x ≠ 0 then (Lib.bitLen x : Int) - 1 else 0
theorem ctz_le (x : Nat) (hx : Wd x) (h0 : x ≠ 0) : Lib.ctz 64 x < 64 := (Lib.lowest_bit 64 x h0 hx).2
theorem ne_word {x : Nat} (h : x ≠ 0) : ((x : Int) != 0) = true := by simp; omega
theorem eq_word {x : Nat} (h : x = 0) : ((x : Int) != 0) = false := by simp; omega
set_option maxRecDepth 20000 in
set_option maxHeartbeats 4000000 in
theorem bits_Next (x y : Nat) (n : Int) (w : World) (hx : Wd x) (hy : Wd y) (hn : I64 n) (hT : Tab w) :
    Calls Tryd.prog 45 #[sv x y, .int .i64 n] w fun e w' => e = .returned (.tuple #[.int .i64 (nextI (fromX x n) (fromY y n)), .bool (nextB (fromX x n) (fromY y n))]) ∧ Below w.heap.size w w' := by
  have cF := fun w => bits_From x y n w hx hy hn
  have hf := wd_from n hx hy
  generalize fromX x n = a at *
  generalize fromY y n = b at *
  have cX := fun w hT => bits_TZ a w hf.1 hT
  have cY := fun w hT => bits_TZ b w hf.2 hT
  unfold sv at *
  have HT := Lib.hid hT
  have CF := Lib.hid cF
  have CX := Lib.hid cX
  have CY := Lib.hid cY
  by_cases ha : a ≠ 0
  · have e1 : nextI a b = (Lib.ctz 64 a : Nat) := by unfold nextI; rw [if_pos ha]
    have e2 : nextB a b = true := by unfold nextB; simp [ha]
    have q1 := ne_word ha
    rw [e1, e2]
    clear hT cF cX cY hf hx hy e1 e2 ha CY
    generalize ((Lib.ctz 64 a : Nat) : Int) = r at *
    go_enter Tryd.func45, Tryd.ntmps45
    go_wp2_with (first | ((with_reducible refine hold_list ?_ ?_); (· exact Eq.refl true)) | ((with_reducible refine hold_region ?_ ?_); (· exact Eq.refl true)) | (with_reducible refine hold_loop ?_))
    have k0 : Blk (w.alloc (.cells #[.int .u64 (x : Int), .int .u64 (y : Int)] 38)) (w.heap.size) 38 #[.int .u64 (x : Int), .int .u64 (y : Int)] := (blk_at (by simp))
    have hB : Below w.heap.size w (w.alloc (.cells #[.int .u64 (x : Int), .int .u64 (y : Int)] 38)) := (bel_at (Below.refl _ _) (.cells #[.int .u64 (x : Int), .int .u64 (y : Int)] 38))
    generalize (w.alloc (.cells #[.int .u64 (x : Int), .int .u64 (y : Int)] 38)) = w1 at *
    (try clear k0c k0f k0z); have k0c := fun i => Blk.cell k0 i; have k0f := fun i => Blk.free k0 i; have k0z := Blk.lt k0
    unfold Hold
    go_wp2_with (first | (first | ((with_reducible refine wpList_here ?_ ?_); (· exact Eq.refl true); first | ((with_reducible refine wpList_grow 3 ?_ ?_); (· exact Eq.refl true))) | ((with_reducible refine wp_region_any_here ?_ ?_); (· exact Eq.refl true); first | ((with_reducible refine wp_region_drawn 3 ?_ ?_ ?_ ?_); (· exact Eq.refl true); (· kernel_rfl); (· kernel_rfl)) | refine wp_region_grow (by kernel_rfl) (by kernel_rfl) ?_)); (try simp only [List.take_succ_cons, List.take_zero, List.drop_succ_cons, List.drop_zero]); (repeat (go_big_quiet_step ((first | (go_at_call 55; with_reducible exact grow_of (CF.out _)))))); (first | (refine wpQuiet_nil ?_; intro w' hb; replace hB := Below.trans hB (Below.mono hb (Below.size hB)); replace k0 := Blk.below k0 hb (Blk.lt k0); (try clear k0c k0f k0z); have k0c := fun i => Blk.cell k0 i; have k0f := fun i => Blk.free k0 i; have k0z := Blk.lt k0) | skip) | (with_reducible refine hold_slot 11 ?_))
    all_goals (try (go_wp2_with (with_reducible refine hold_slot 11 ?_)))
    have k9 : Blk (w'.alloc (.cells #[.int .u64 (a : Int), .int .u64 (b : Int)] 38)) w'.heap.size 38 #[.int .u64 (a : Int), .int .u64 (b : Int)] := Blk.new _ _ _
    replace k0 := Blk.alloc k0 (.cells #[.int .u64 (a : Int), .int .u64 (b : Int)] 38)
    replace hB := bel_at hB (.cells #[.int .u64 (a : Int), .int .u64 (b : Int)] 38)
    generalize w'.alloc (.cells #[.int .u64 (a : Int), .int .u64 (b : Int)] 38) = w3 at *
    (try clear k0c k0f k0z); have k0c := fun i => Blk.cell k0 i; have k0f := fun i => Blk.free k0 i; have k0z := Blk.lt k0; (try clear k9c k9f k9z); have k9c := fun i => Blk.cell k9 i; have k9f := fun i => Blk.free k9 i; have k9z := Blk.lt k9
    unfold Hold
    go_wp2_with (first | ((with_reducible refine wpList_here ?_ ?_); (· exact Eq.refl true); first | ((with_reducible refine wpList_grow 3 ?_ ?_); (· exact Eq.refl true))) | ((with_reducible refine wp_region_any_here ?_ ?_); (· exact Eq.refl true); first | ((with_reducible refine wp_region_drawn 3 ?_ ?_ ?_ ?_); (· exact Eq.refl true); (· kernel_rfl); (· kernel_rfl)) | refine wp_region_grow (by kernel_rfl) (by kernel_rfl) ?_)); (try simp only [List.take_succ_cons, List.take_zero, List.drop_succ_cons, List.drop_zero]); (repeat (go_big_quiet_step ((first | (go_at_call 56; with_reducible exact grow_same (CX.out _ ((HT.out.below hB).below (Grow.below _)))))))); (first | (refine wpQuiet_nil ?_; intro w' hb; replace hB := Below.trans hB (Below.mono hb (Below.size hB)); replace k0 := Blk.below k0 hb (Blk.lt k0); replace k9 := Blk.below k9 hb (Blk.lt k9); (try clear k0c k0f k0z); have k0c := fun i => Blk.cell k0 i; have k0f := fun i => Blk.free k0 i; have k0z := Blk.lt k0; (try clear k9c k9f k9z); have k9c := fun i => Blk.cell k9 i; have k9f := fun i => Blk.free k9 i; have k9z := Blk.lt k9) | skip)
    all_goals (try (go_wp2_with (first | ((with_reducible refine wpList_here ?_ ?_); (· exact Eq.refl true); first | ((with_reducible refine wpList_grow 3 ?_ ?_); (· exact Eq.refl true))) | ((with_reducible refine wp_region_any_here ?_ ?_); (· exact Eq.refl true); first | ((with_reducible refine wp_region_drawn 3 ?_ ?_ ?_ ?_); (· exact Eq.refl true); (· kernel_rfl); (· kernel_rfl)) | refine wp_region_grow (by kernel_rfl) (by kernel_rfl) ?_)); (try simp only [List.take_succ_cons, List.take_zero, List.drop_succ_cons, List.drop_zero]); (repeat (go_big_quiet_step ((first | (go_at_call 56; with_reducible exact grow_same (CX.out _ ((HT.out.below hB).below (Grow.below _)))))))); (first | (refine wpQuiet_nil ?_; intro w' hb; replace hB := Below.trans hB (Below.mono hb (Below.size hB)); replace k0 := Blk.below k0 hb (Blk.lt k0); replace k9 := Blk.below k9 hb (Blk.lt k9); (try clear k0c k0f k0z); have k0c := fun i => Blk.cell k0 i; have k0f := fun i => Blk.free k0 i; have k0z := Blk.lt k0; (try clear k9c k9f k9z); have k9c := fun i => Blk.cell k9 i; have k9f := fun i => Blk.free k9 i; have k9z := Blk.lt k9) | skip)))
    all_goals (try (go_wp2_with (first | ((with_reducible refine wpList_here ?_ ?_); (· exact Eq.refl true); first | ((with_reducible refine wpList_grow 3 ?_ ?_); (· exact Eq.refl true))) | ((with_reducible refine wp_region_any_here ?_ ?_); (· exact Eq.refl true); first | ((with_reducible refine wp_region_drawn 3 ?_ ?_ ?_ ?_); (· exact Eq.refl true); (· kernel_rfl); (· kernel_rfl)) | refine wp_region_grow (by kernel_rfl) (by kernel_rfl) ?_)); (try simp only [List.take_succ_cons, List.take_zero, List.drop_succ_cons, List.drop_zero]); (repeat (go_big_quiet_step ((first | (go_at_call 56; with_reducible exact grow_same (CX.out _ ((HT.out.below hB).below (Grow.below _)))))))); (first | (refine wpQuiet_nil ?_; intro w' hb; replace hB := Below.trans hB (Below.mono hb (Below.size hB)); replace k0 := Blk.below k0 hb (Blk.lt k0); replace k9 := Blk.below k9 hb (Blk.lt k9); (try clear k0c k0f k0z); have k0c := fun i => Blk.cell k0 i; have k0f := fun i => Blk.free k0 i; have k0z := Blk.lt k0; (try clear k9c k9f k9z); have k9c := fun i => Blk.cell k9 i; have k9f := fun i => Blk.free k9 i; have k9z := Blk.lt k9) | skip)))
    go_ret2
    exact ⟨rfl, hB⟩
  · have ha0 : a = 0 := by omega
    subst ha0
    clear ha CX cX
    by_cases hb0 : b ≠ 0
    · have hct := ctz_le b hf.2 hb0
      have e1 : nextI 0 b = 64 + (Lib.ctz 64 b : Nat) := by unfold nextI; rw [if_neg (by simp), if_pos hb0]
      have e2 : nextB 0 b = true := by unfold nextB; simp [hb0]
      have q1 := ne_word hb0
      have e3 : IntKind.i64.wrap (64 + ((Lib.ctz 64 b : Nat) : Int)) = 64 + ((Lib.ctz 64 b : Nat) : Int) := IntWalk.i64_in _ (by omega)
      rw [e1, e2]
      clear hT cF cY hf hx hy e1 e2 hb0 hct
      generalize ((Lib.ctz 64 b : Nat) : Int) = r at *
      go_enter Tryd.func45, Tryd.ntmps45
      go_wp2_with (first | ((with_reducible refine hold_list ?_ ?_); (· exact Eq.refl true)) | ((with_reducible refine hold_region ?_ ?_); (· exact Eq.refl true)) | (with_reducible refine hold_loop ?_))
      have k0 : Blk (w.alloc (.cells #[.int .u64 (x : Int), .int .u64 (y : Int)] 38)) (w.heap.size) 38 #[.int .u64 (x : Int), .int .u64 (y : Int)] := (blk_at (by simp))
      have hB : Below w.heap.size w (w.alloc (.cells #[.int .u64 (x : Int), .int .u64 (y : Int)] 38)) := (bel_at (Below.refl _ _) (.cells #[.int .u64 (x : Int), .int .u64 (y : Int)] 38))
      generalize (w.alloc (.cells #[.int .u64 (x : Int), .int .u64 (y : Int)] 38)) = w1 at *
      (try clear k0c k0f k0z); have k0c := fun i => Blk.cell k0 i; have k0f := fun i => Blk.free k0 i; have k0z := Blk.lt k0
      unfold Hold
      go_wp2_with (first | (first | ((with_reducible refine wpList_here ?_ ?_); (· exact Eq.refl true); first | ((with_reducible refine wpList_grow 3 ?_ ?_); (· exact Eq.refl true))) | ((with_reducible refine wp_region_any_here ?_ ?_); (· exact Eq.refl true); first | ((with_reducible refine wp_region_drawn 3 ?_ ?_ ?_ ?_); (· exact Eq.refl true); (· kernel_rfl); (· kernel_rfl)) | refine wp_region_grow (by kernel_rfl) (by kernel_rfl) ?_)); (try simp only [List.take_succ_cons, List.take_zero, List.drop_succ_cons, List.drop_zero]); (repeat (go_big_quiet_step ((first | (go_at_call 55; with_reducible exact grow_of (CF.out _)))))); (first | (refine wpQuiet_nil ?_; intro w' hb; replace hB := Below.trans hB (Below.mono hb (Below.size hB)); replace k0 := Blk.below k0 hb (Blk.lt k0); (try clear k0c k0f k0z); have k0c := fun i => Blk.cell k0 i; have k0f := fun i => Blk.free k0 i; have k0z := Blk.lt k0) | skip) | (with_reducible refine hold_slot 11 ?_))
      all_goals (try (go_wp2_with (with_reducible refine hold_slot 11 ?_)))
      have k9 : Blk (w'.alloc (.cells #[.int .u64 0, .int .u64 (b : Int)] 38)) w'.heap.size 38 #[.int .u64 0, .int .u64 (b : Int)] := Blk.new _ _ _
      replace k0 := Blk.alloc k0 (.cells #[.int .u64 0, .int .u64 (b : Int)] 38)
      replace hB := bel_at hB (.cells #[.int .u64 0, .int .u64 (b : Int)] 38)
      generalize w'.alloc (.cells #[.int .u64 0, .int .u64 (b : Int)] 38) = w3 at *
      (try clear k0c k0f k0z); have k0c := fun i => Blk.cell k0 i; have k0f := fun i => Blk.free k0 i; have k0z := Blk.lt k0; (try clear k9c k9f k9z); have k9c := fun i => Blk.cell k9 i; have k9f := fun i => Blk.free k9 i; have k9z := Blk.lt k9
      unfold Hold
      go_wp2_with (first | ((with_reducible refine wpList_here ?_ ?_); (· exact Eq.refl true); first | ((with_reducible refine wpList_grow 3 ?_ ?_); (· exact Eq.refl true))) | ((with_reducible refine wp_region_any_here ?_ ?_); (· exact Eq.refl true); first | ((with_reducible refine wp_region_drawn 3 ?_ ?_ ?_ ?_); (· exact Eq.refl true); (· kernel_rfl); (· kernel_rfl)) | refine wp_region_grow (by kernel_rfl) (by kernel_rfl) ?_)); (try simp only [List.take_succ_cons, List.take_zero, List.drop_succ_cons, List.drop_zero]); (repeat (go_big_quiet_step ((first | (go_at_call 56; with_reducible exact grow_same (CY.out _ ((HT.out.below hB).below (Grow.below _)))))))); (first | (refine wpQuiet_nil ?_; intro w' hb; replace hB := Below.trans hB (Below.mono hb (Below.size hB)); replace k0 := Blk.below k0 hb (Blk.lt k0); replace k9 := Blk.below k9 hb (Blk.lt k9); (try clear k0c k0f k0z); have k0c := fun i => Blk.cell k0 i; have k0f := fun i => Blk.free k0 i; have k0z := Blk.lt k0; (try clear k9c k9f k9z); have k9c := fun i => Blk.cell k9 i; have k9f := fun i => Blk.free k9 i; have k9z := Blk.lt k9) | skip)
      all_goals (try (go_wp2_with (first | ((with_reducible refine wpList_here ?_ ?_); (· exact Eq.refl true); first | ((with_reducible refine wpList_grow 3 ?_ ?_); (· exact Eq.refl true))) | ((with_reducible refine wp_region_any_here ?_ ?_); (· exact Eq.refl true); first | ((with_reducible refine wp_region_drawn 3 ?_ ?_ ?_ ?_); (· exact Eq.refl true); (· kernel_rfl); (· kernel_rfl)) | refine wp_region_grow (by kernel_rfl) (by kernel_rfl) ?_)); (try simp only [List.take_succ_cons, List.take_zero, List.drop_succ_cons, List.drop_zero]); (repeat (go_big_quiet_step ((first | (go_at_call 56; with_reducible exact grow_same (CY.out _ ((HT.out.below hB).below (Grow.below _)))))))); (first | (refine wpQuiet_nil ?_; intro w' hb; replace hB := Below.trans hB (Below.mono hb (Below.size hB)); replace k0 := Blk.below k0 hb (Blk.lt k0); replace k9 := Blk.below k9 hb (Blk.lt k9); (try clear k0c k0f k0z); have k0c := fun i => Blk.cell k0 i; have k0f := fun i => Blk.free k0 i; have k0z := Blk.lt k0; (try clear k9c k9f k9z); have k9c := fun i => Blk.cell k9 i; have k9f := fun i => Blk.free k9 i; have k9z := Blk.lt k9) | skip)))
      all_goals (try (go_wp2_with (first | ((with_reducible refine wpList_here ?_ ?_); (· exact Eq.refl true); first | ((with_reducible refine wpList_grow 3 ?_ ?_); (· exact Eq.refl true))) | ((with_reducible refine wp_region_any_here ?_ ?_); (· exact Eq.refl true); first | ((with_reducible refine wp_region_drawn 3 ?_ ?_ ?_ ?_); (· exact Eq.refl true); (· kernel_rfl); (· kernel_rfl)) | refine wp_region_grow (by kernel_rfl) (by kernel_rfl) ?_)); (try simp only [List.take_succ_cons, List.take_zero, List.drop_succ_cons, List.drop_zero]); (repeat (go_big_quiet_step ((first | (go_at_call 56; with_reducible exact grow_same (CY.out _ ((HT.out.below hB).below (Grow.below _)))))))); (first | (refine wpQuiet_nil ?_; intro w' hb; replace hB := Below.trans hB (Below.mono hb (Below.size hB)); replace k0 := Blk.below k0 hb (Blk.lt k0); replace k9 := Blk.below k9 hb (Blk.lt k9); (try clear k0c k0f k0z); have k0c := fun i => Blk.cell k0 i; have k0f := fun i => Blk.free k0 i; have k0z := Blk.lt k0; (try clear k9c k9f k9z); have k9c := fun i => Blk.cell k9 i; have k9f := fun i => Blk.free k9 i; have k9z := Blk.lt k9) | skip)))
      go_ret2
      exact ⟨rfl, hB⟩
    · have hb : b = 0 := by omega
      subst hb
      have e1 : nextI 0 0 = 0 := by unfold nextI; simp
      have e2 : nextB 0 0 = false := by unfold nextB; simp
      rw [e1, e2]
      clear hT cF cY hf hx hy e1 e2 hb0
      go_enter Tryd.func45, Tryd.ntmps45
      go_wp2_with (first | ((with_reducible refine hold_list ?_ ?_); (· exact Eq.refl true)) | ((with_reducible refine hold_region ?_ ?_); (· exact Eq.refl true)) | (with_reducible refine hold_loop ?_))
      have k0 : Blk (w.alloc (.cells #[.int .u64 (x : Int), .int .u64 (y : Int)] 38)) (w.heap.size) 38 #[.int .u64 (x : Int), .int .u64 (y : Int)] := (blk_at (by simp))
      have hB : Below w.heap.size w (w.alloc (.cells #[.int .u64 (x : Int), .int .u64 (y : Int)] 38)) := (bel_at (Below.refl _ _) (.cells #[.int .u64 (x : Int), .int .u64 (y : Int)] 38))
      generalize (w.alloc (.cells #[.int .u64 (x : Int), .int .u64 (y : Int)] 38)) = w1 at *
      (try clear k0c k0f k0z); have k0c := fun i => Blk.cell k0 i; have k0f := fun i => Blk.free k0 i; have k0z := Blk.lt k0
      unfold Hold
      go_wp2_with (first | (first | ((with_reducible refine wpList_here ?_ ?_); (· exact Eq.refl true); first | ((with_reducible refine wpList_grow 3 ?_ ?_); (· exact Eq.refl true))) | ((with_reducible refine wp_region_any_here ?_ ?_); (· exact Eq.refl true); first | ((with_reducible refine wp_region_drawn 3 ?_ ?_ ?_ ?_); (· exact Eq.refl true); (· kernel_rfl); (· kernel_rfl)) | refine wp_region_grow (by kernel_rfl) (by kernel_rfl) ?_)); (try simp only [List.take_succ_cons, List.take_zero, List.drop_succ_cons, List.drop_zero]); (repeat (go_big_quiet_step ((first | (go_at_call 55; with_reducible exact grow_of (CF.out _)))))); (first | (refine wpQuiet_nil ?_; intro w' hb; replace hB := Below.trans hB (Below.mono hb (Below.size hB)); replace k0 := Blk.below k0 hb (Blk.lt k0); (try clear k0c k0f k0z); have k0c := fun i => Blk.cell k0 i; have k0f := fun i => Blk.free k0 i; have k0z := Blk.lt k0) | skip) | (with_reducible refine hold_slot 11 ?_))
      all_goals (try (go_wp2_with (with_reducible refine hold_slot 11 ?_)))
      have k9 : Blk (w'.alloc (.cells #[.int .u64 0, .int .u64 0] 38)) w'.heap.size 38 #[.int .u64 0, .int .u64 0] := Blk.new _ _ _
      replace k0 := Blk.alloc k0 (.cells #[.int .u64 0, .int .u64 0] 38)
      replace hB := bel_at hB (.cells #[.int .u64 0, .int .u64 0] 38)
      generalize w'.alloc (.cells #[.int .u64 0, .int .u64 0] 38) = w3 at *
      (try clear k0c k0f k0z); have k0c := fun i => Blk.cell k0 i; have k0f := fun i => Blk.free k0 i; have k0z := Blk.lt k0; (try clear k9c k9f k9z); have k9c := fun i => Blk.cell k9 i; have k9f := fun i => Blk.free k9 i; have k9z := Blk.lt k9
      unfold Hold
      go_wp2
      go_ret2
      exact ⟨rfl, hB⟩
end Go.Proofs.YtejcgagblpkmoaaDoor
set_option linter.unusedVariables false
set_option linter.unusedSimpArgs false
namespace Go.Proofs.YtejcgagblpkmoaaDoor
open Go.Joins Go.ChangeShapes Go.WideShapes Go.ChangeAt Go.RowKit Go.Deep

/-- Where the words below a number end. -/
def upto (n : Int) : Int := min n 128 + 1
def prevX (x : Nat) (n : Int) : Nat := belX x (upto n)
def prevY (y : Nat) (n : Int) : Nat := belY y (upto n)
theorem bl_aux (f x : Nat) : Lib.bitLenAux f x ≤ f := by
  induction f generalizing x with
  | zero => simp [Lib.bitLenAux]
  | succ f ih =>
    have := ih (x / 2)
    rw [Lib.bitLenAux]
    split <;> omega
theorem bl_le (x : Nat) (hx : Wd x) : Lib.bitLen x ≤ 64 := bl_aux 64 x
theorem bl_aux2 (f x : Nat) (h : x < 2 ^ f) (h0 : x ≠ 0) : ∃ k, Lib.bitLenAux f x = k + 1 ∧ 2 ^ k ≤ x ∧ x < 2 ^ (k + 1) := by
  induction f generalizing x with
  | zero => simp at h; omega
  | succ f ih =>
    rw [Lib.bitLenAux, if_neg h0]
    rw [Nat.pow_succ] at h
    by_cases h2 : x / 2 = 0
    · have h1 : x = 1 := by omega
      subst h1
      refine ⟨0, ?_, by simp, by simp⟩
      cases f <;> simp [Lib.bitLenAux]
    · obtain ⟨k, e, l, u⟩ := ih (x / 2) (by omega) h2
      rw [Nat.pow_succ] at u
      refine ⟨k + 1, by omega, by rw [Nat.pow_succ]; omega, by rw [Nat.pow_succ, Nat.pow_succ]; omega⟩
/-- The greatest bit of a word that isn't 0. -/
theorem bl_spec {x : Nat} (hx : Wd x) (h0 : x ≠ 0) : ∃ k, Lib.bitLen x = k + 1 ∧ 2 ^ k ≤ x ∧ x < 2 ^ (k + 1) := bl_aux2 64 x hx h0
set_option maxRecDepth 20000 in
set_option maxHeartbeats 1000000 in
theorem bits_Prev_neg (x y : Nat) (n : Int) (w : World) (hn : n < 0) :
    Calls Tryd.prog 44 #[sv x y, .int .i64 n] w fun e w' => e = .returned (.tuple #[.int .i64 0, .bool false]) ∧ Below w.heap.size w w' := by
  have q0 : decide (n < 0) = true := decide_eq_true hn
  unfold sv
  go_enter Tryd.func44, Tryd.ntmps44
  go_wp2
  go_ret2
  exact ⟨rfl, below_alloc1 _ _⟩
set_option maxRecDepth 20000 in
set_option maxHeartbeats 4000000 in
theorem bits_Prev_pos (x y : Nat) (n : Int) (w : World) (hx : Wd x) (hy : Wd y) (hn : 0 ≤ n ∧ n ≤ 9223372036854775807) :
    Calls Tryd.prog 44 #[sv x y, .int .i64 n] w fun e w' => e = .returned (.tuple #[.int .i64 (prevI (prevX x n) (prevY y n)), .bool (nextB (prevX x n) (prevY y n))]) ∧ Below w.heap.size w w' := by
  have q0 : decide (n < 0) = false := decide_eq_false (by omega)
  have hu : 0 ≤ upto n ∧ upto n ≤ 129 := by unfold upto; omega
  have m1 : IntKind.i64.wrap (upto n) = upto n := IntWalk.i64_in _ (by omega)
  have m2 : min n 128 + 1 = upto n := rfl
  have cF := fun w => bits_Below x y (upto n) w hx hy (by unfold I64; omega)
  have hf1 := wd_belX (upto n) hx
  have hf2 := wd_belY (upto n) hy
  unfold prevX prevY
  generalize belX x (upto n) = a at *
  generalize belY y (upto n) = b at *
  have cX := fun w => bits_LZ a w hf1
  have cY := fun w => bits_LZ b w hf2
  have l1 := bl_le a hf1
  have l2 := bl_le b hf2
  unfold sv at *
  have CF := Lib.hid cF
  have CX := Lib.hid cX
  have CY := Lib.hid cY
  have e1 : prevI a b = if b ≠ 0 then 63 + (Lib.bitLen b : Int) else if a ≠ 0 then (Lib.bitLen a : Int) - 1 else 0 := rfl
  have e2 : nextB a b = (decide (a ≠ 0) || decide (b ≠ 0)) := rfl
  clear cF cX cY hf1 hf2 hx hy hn hu
  by_cases hb : b ≠ 0
  · rw [if_pos hb] at e1
    have e3 : nextB a b = true := by rw [e2]; simp [hb]
    rw [e1, e3]
    have q1 := ne_word hb
    have e4 : IntKind.i64.wrap (127 - (64 - (Lib.bitLen b : Int))) = 63 + (Lib.bitLen b : Int) := by rw [IntWalk.i64_in _ (by omega)]; omega
    clear e1 e2 e3 hb l1 l2 CX
    generalize (Lib.bitLen b : Int) = r at *
    go_enter Tryd.func44, Tryd.ntmps44
    go_wp2_with (first | ((with_reducible refine hold_list ?_ ?_); (· exact Eq.refl true)) | ((with_reducible refine hold_region ?_ ?_); (· exact Eq.refl true)) | (with_reducible refine hold_loop ?_))
    have k0 : Blk (w.alloc (.cells #[.int .u64 (x : Int), .int .u64 (y : Int)] 38)) (w.heap.size) 38 #[.int .u64 (x : Int), .int .u64 (y : Int)] := (blk_at (by simp))
    have hB : Below w.heap.size w (w.alloc (.cells #[.int .u64 (x : Int), .int .u64 (y : Int)] 38)) := (bel_at (Below.refl _ _) (.cells #[.int .u64 (x : Int), .int .u64 (y : Int)] 38))
    generalize (w.alloc (.cells #[.int .u64 (x : Int), .int .u64 (y : Int)] 38)) = w1 at *
    (try clear k0c k0f k0z); have k0c := fun i => Blk.cell k0 i; have k0f := fun i => Blk.free k0 i; have k0z := Blk.lt k0
    unfold Hold
    go_wp2_with (first | (first | ((with_reducible refine wpList_here ?_ ?_); (· exact Eq.refl true); first | ((with_reducible refine wpList_grow 5 ?_ ?_); (· exact Eq.refl true))) | ((with_reducible refine wp_region_any_here ?_ ?_); (· exact Eq.refl true); first | ((with_reducible refine wp_region_drawn 5 ?_ ?_ ?_ ?_); (· exact Eq.refl true); (· kernel_rfl); (· kernel_rfl)) | refine wp_region_grow (by kernel_rfl) (by kernel_rfl) ?_)); (try simp only [List.take_succ_cons, List.take_zero, List.drop_succ_cons, List.drop_zero]); (repeat (go_big_quiet_step ((first | (go_at_call 53; with_reducible exact grow_of (CF.out _)))))); (first | (refine wpQuiet_nil ?_; intro w' hb; replace hB := Below.trans hB (Below.mono hb (Below.size hB)); replace k0 := Blk.below k0 hb (Blk.lt k0); (try clear k0c k0f k0z); have k0c := fun i => Blk.cell k0 i; have k0f := fun i => Blk.free k0 i; have k0z := Blk.lt k0) | skip) | (with_reducible refine hold_slot 15 ?_))
    all_goals (try (go_wp2_with (with_reducible refine hold_slot 15 ?_)))
    have k9 : Blk (w'.alloc (.cells #[.int .u64 (a : Int), .int .u64 (b : Int)] 38)) w'.heap.size 38 #[.int .u64 (a : Int), .int .u64 (b : Int)] := Blk.new _ _ _
    replace k0 := Blk.alloc k0 (.cells #[.int .u64 (a : Int), .int .u64 (b : Int)] 38)
    replace hB := bel_at hB (.cells #[.int .u64 (a : Int), .int .u64 (b : Int)] 38)
    generalize w'.alloc (.cells #[.int .u64 (a : Int), .int .u64 (b : Int)] 38) = w3 at *
    (try clear k0c k0f k0z); have k0c := fun i => Blk.cell k0 i; have k0f := fun i => Blk.free k0 i; have k0z := Blk.lt k0; (try clear k9c k9f k9z); have k9c := fun i => Blk.cell k9 i; have k9f := fun i => Blk.free k9 i; have k9z := Blk.lt k9
    unfold Hold
    go_wp2_with (first | ((with_reducible refine wpList_here ?_ ?_); (· exact Eq.refl true); first | ((with_reducible refine wpList_grow 3 ?_ ?_); (· exact Eq.refl true))) | ((with_reducible refine wp_region_any_here ?_ ?_); (· exact Eq.refl true); first | ((with_reducible refine wp_region_drawn 3 ?_ ?_ ?_ ?_); (· exact Eq.refl true); (· kernel_rfl); (· kernel_rfl)) | refine wp_region_grow (by kernel_rfl) (by kernel_rfl) ?_)); (try simp only [List.take_succ_cons, List.take_zero, List.drop_succ_cons, List.drop_zero]); (repeat (go_big_quiet_step ((first | (go_at_call 54; with_reducible exact grow_same (CY.out _)))))); (first | (refine wpQuiet_nil ?_; intro w' hb; replace hB := Below.trans hB (Below.mono hb (Below.size hB)); replace k0 := Blk.below k0 hb (Blk.lt k0); replace k9 := Blk.below k9 hb (Blk.lt k9); (try clear k0c k0f k0z); have k0c := fun i => Blk.cell k0 i; have k0f := fun i => Blk.free k0 i; have k0z := Blk.lt k0; (try clear k9c k9f k9z); have k9c := fun i => Blk.cell k9 i; have k9f := fun i => Blk.free k9 i; have k9z := Blk.lt k9) | skip)
    all_goals (try (go_wp2_with (first | ((with_reducible refine wpList_here ?_ ?_); (· exact Eq.refl true); first | ((with_reducible refine wpList_grow 3 ?_ ?_); (· exact Eq.refl true))) | ((with_reducible refine wp_region_any_here ?_ ?_); (· exact Eq.refl true); first | ((with_reducible refine wp_region_drawn 3 ?_ ?_ ?_ ?_); (· exact Eq.refl true); (· kernel_rfl); (· kernel_rfl)) | refine wp_region_grow (by kernel_rfl) (by kernel_rfl) ?_)); (try simp only [List.take_succ_cons, List.take_zero, List.drop_succ_cons, List.drop_zero]); (repeat (go_big_quiet_step ((first | (go_at_call 54; with_reducible exact grow_same (CY.out _)))))); (first | (refine wpQuiet_nil ?_; intro w' hb; replace hB := Below.trans hB (Below.mono hb (Below.size hB)); replace k0 := Blk.below k0 hb (Blk.lt k0); replace k9 := Blk.below k9 hb (Blk.lt k9); (try clear k0c k0f k0z); have k0c := fun i => Blk.cell k0 i; have k0f := fun i => Blk.free k0 i; have k0z := Blk.lt k0; (try clear k9c k9f k9z); have k9c := fun i => Blk.cell k9 i; have k9f := fun i => Blk.free k9 i; have k9z := Blk.lt k9) | skip)))
    all_goals (try (go_wp2_with (first | ((with_reducible refine wpList_here ?_ ?_); (· exact Eq.refl true); first | ((with_reducible refine wpList_grow 3 ?_ ?_); (· exact Eq.refl true))) | ((with_reducible refine wp_region_any_here ?_ ?_); (· exact Eq.refl true); first | ((with_reducible refine wp_region_drawn 3 ?_ ?_ ?_ ?_); (· exact Eq.refl true); (· kernel_rfl); (· kernel_rfl)) | refine wp_region_grow (by kernel_rfl) (by kernel_rfl) ?_)); (try simp only [List.take_succ_cons, List.take_zero, List.drop_succ_cons, List.drop_zero]); (repeat (go_big_quiet_step ((first | (go_at_call 54; with_reducible exact grow_same (CY.out _)))))); (first | (refine wpQuiet_nil ?_; intro w' hb; replace hB := Below.trans hB (Below.mono hb (Below.size hB)); replace k0 := Blk.below k0 hb (Blk.lt k0); replace k9 := Blk.below k9 hb (Blk.lt k9); (try clear k0c k0f k0z); have k0c := fun i => Blk.cell k0 i; have k0f := fun i => Blk.free k0 i; have k0z := Blk.lt k0; (try clear k9c k9f k9z); have k9c := fun i => Blk.cell k9 i; have k9f := fun i => Blk.free k9 i; have k9z := Blk.lt k9) | skip)))
    go_ret2
    exact ⟨rfl, hB⟩

  · have hb0 : b = 0 := by omega
    subst hb0
    rw [if_neg (by simp)] at e1
    clear CY hb l2
    by_cases ha : a ≠ 0
    · rw [if_pos ha] at e1
      have e3 : nextB a 0 = true := by rw [e2]; simp [ha]
      rw [e1, e3]
      have q1 := ne_word ha
      have e4 : IntKind.i64.wrap (63 - (64 - (Lib.bitLen a : Int))) = (Lib.bitLen a : Int) - 1 := by rw [IntWalk.i64_in _ (by omega)]; omega
      clear e1 e2 e3 ha l1
      generalize (Lib.bitLen a : Int) = r at *
      go_enter Tryd.func44, Tryd.ntmps44
      go_wp2_with (first | ((with_reducible refine hold_list ?_ ?_); (· exact Eq.refl true)) | ((with_reducible refine hold_region ?_ ?_); (· exact Eq.refl true)) | (with_reducible refine hold_loop ?_))
      have k0 : Blk (w.alloc (.cells #[.int .u64 (x : Int), .int .u64 (y : Int)] 38)) (w.heap.size) 38 #[.int .u64 (x : Int), .int .u64 (y : Int)] := (blk_at (by simp))
      have hB : Below w.heap.size w (w.alloc (.cells #[.int .u64 (x : Int), .int .u64 (y : Int)] 38)) := (bel_at (Below.refl _ _) (.cells #[.int .u64 (x : Int), .int .u64 (y : Int)] 38))
      generalize (w.alloc (.cells #[.int .u64 (x : Int), .int .u64 (y : Int)] 38)) = w1 at *
      (try clear k0c k0f k0z); have k0c := fun i => Blk.cell k0 i; have k0f := fun i => Blk.free k0 i; have k0z := Blk.lt k0
      unfold Hold
      go_wp2_with (first | (first | ((with_reducible refine wpList_here ?_ ?_); (· exact Eq.refl true); first | ((with_reducible refine wpList_grow 5 ?_ ?_); (· exact Eq.refl true))) | ((with_reducible refine wp_region_any_here ?_ ?_); (· exact Eq.refl true); first | ((with_reducible refine wp_region_drawn 5 ?_ ?_ ?_ ?_); (· exact Eq.refl true); (· kernel_rfl); (· kernel_rfl)) | refine wp_region_grow (by kernel_rfl) (by kernel_rfl) ?_)); (try simp only [List.take_succ_cons, List.take_zero, List.drop_succ_cons, List.drop_zero]); (repeat (go_big_quiet_step ((first | (go_at_call 53; with_reducible exact grow_of (CF.out _)))))); (first | (refine wpQuiet_nil ?_; intro w' hb; replace hB := Below.trans hB (Below.mono hb (Below.size hB)); replace k0 := Blk.below k0 hb (Blk.lt k0); (try clear k0c k0f k0z); have k0c := fun i => Blk.cell k0 i; have k0f := fun i => Blk.free k0 i; have k0z := Blk.lt k0) | skip) | (with_reducible refine hold_slot 15 ?_))
      all_goals (try (go_wp2_with (with_reducible refine hold_slot 15 ?_)))
      have k9 : Blk (w'.alloc (.cells #[.int .u64 (a : Int), .int .u64 0] 38)) w'.heap.size 38 #[.int .u64 (a : Int), .int .u64 0] := Blk.new _ _ _
      replace k0 := Blk.alloc k0 (.cells #[.int .u64 (a : Int), .int .u64 0] 38)
      replace hB := bel_at hB (.cells #[.int .u64 (a : Int), .int .u64 0] 38)
      generalize w'.alloc (.cells #[.int .u64 (a : Int), .int .u64 0] 38) = w3 at *
      (try clear k0c k0f k0z); have k0c := fun i => Blk.cell k0 i; have k0f := fun i => Blk.free k0 i; have k0z := Blk.lt k0; (try clear k9c k9f k9z); have k9c := fun i => Blk.cell k9 i; have k9f := fun i => Blk.free k9 i; have k9z := Blk.lt k9
      unfold Hold
      go_wp2_with (first | ((with_reducible refine wpList_here ?_ ?_); (· exact Eq.refl true); first | ((with_reducible refine wpList_grow 3 ?_ ?_); (· exact Eq.refl true))) | ((with_reducible refine wp_region_any_here ?_ ?_); (· exact Eq.refl true); first | ((with_reducible refine wp_region_drawn 3 ?_ ?_ ?_ ?_); (· exact Eq.refl true); (· kernel_rfl); (· kernel_rfl)) | refine wp_region_grow (by kernel_rfl) (by kernel_rfl) ?_)); (try simp only [List.take_succ_cons, List.take_zero, List.drop_succ_cons, List.drop_zero]); (repeat (go_big_quiet_step ((first | (go_at_call 54; with_reducible exact grow_same (CX.out _)))))); (first | (refine wpQuiet_nil ?_; intro w' hb; replace hB := Below.trans hB (Below.mono hb (Below.size hB)); replace k0 := Blk.below k0 hb (Blk.lt k0); replace k9 := Blk.below k9 hb (Blk.lt k9); (try clear k0c k0f k0z); have k0c := fun i => Blk.cell k0 i; have k0f := fun i => Blk.free k0 i; have k0z := Blk.lt k0; (try clear k9c k9f k9z); have k9c := fun i => Blk.cell k9 i; have k9f := fun i => Blk.free k9 i; have k9z := Blk.lt k9) | skip)
      all_goals (try (go_wp2_with (first | ((with_reducible refine wpList_here ?_ ?_); (· exact Eq.refl true); first | ((with_reducible refine wpList_grow 3 ?_ ?_); (· exact Eq.refl true))) | ((with_reducible refine wp_region_any_here ?_ ?_); (· exact Eq.refl true); first | ((with_reducible refine wp_region_drawn 3 ?_ ?_ ?_ ?_); (· exact Eq.refl true); (· kernel_rfl); (· kernel_rfl)) | refine wp_region_grow (by kernel_rfl) (by kernel_rfl) ?_)); (try simp only [List.take_succ_cons, List.take_zero, List.drop_succ_cons, List.drop_zero]); (repeat (go_big_quiet_step ((first | (go_at_call 54; with_reducible exact grow_same (CX.out _)))))); (first | (refine wpQuiet_nil ?_; intro w' hb; replace hB := Below.trans hB (Below.mono hb (Below.size hB)); replace k0 := Blk.below k0 hb (Blk.lt k0); replace k9 := Blk.below k9 hb (Blk.lt k9); (try clear k0c k0f k0z); have k0c := fun i => Blk.cell k0 i; have k0f := fun i => Blk.free k0 i; have k0z := Blk.lt k0; (try clear k9c k9f k9z); have k9c := fun i => Blk.cell k9 i; have k9f := fun i => Blk.free k9 i; have k9z := Blk.lt k9) | skip)))
      all_goals (try (go_wp2_with (first | ((with_reducible refine wpList_here ?_ ?_); (· exact Eq.refl true); first | ((with_reducible refine wpList_grow 3 ?_ ?_); (· exact Eq.refl true))) | ((with_reducible refine wp_region_any_here ?_ ?_); (· exact Eq.refl true); first | ((with_reducible refine wp_region_drawn 3 ?_ ?_ ?_ ?_); (· exact Eq.refl true); (· kernel_rfl); (· kernel_rfl)) | refine wp_region_grow (by kernel_rfl) (by kernel_rfl) ?_)); (try simp only [List.take_succ_cons, List.take_zero, List.drop_succ_cons, List.drop_zero]); (repeat (go_big_quiet_step ((first | (go_at_call 54; with_reducible exact grow_same (CX.out _)))))); (first | (refine wpQuiet_nil ?_; intro w' hb; replace hB := Below.trans hB (Below.mono hb (Below.size hB)); replace k0 := Blk.below k0 hb (Blk.lt k0); replace k9 := Blk.below k9 hb (Blk.lt k9); (try clear k0c k0f k0z); have k0c := fun i => Blk.cell k0 i; have k0f := fun i => Blk.free k0 i; have k0z := Blk.lt k0; (try clear k9c k9f k9z); have k9c := fun i => Blk.cell k9 i; have k9f := fun i => Blk.free k9 i; have k9z := Blk.lt k9) | skip)))
      go_ret2
      exact ⟨rfl, hB⟩

    · have ha0 : a = 0 := by omega
      subst ha0
      rw [if_neg (by simp)] at e1
      have e3 : nextB 0 0 = false := by rw [e2]; simp
      rw [e1, e3]
      clear e1 e2 e3 ha l1
      go_enter Tryd.func44, Tryd.ntmps44
      go_wp2_with (first | ((with_reducible refine hold_list ?_ ?_); (· exact Eq.refl true)) | ((with_reducible refine hold_region ?_ ?_); (· exact Eq.refl true)) | (with_reducible refine hold_loop ?_))
      have k0 : Blk (w.alloc (.cells #[.int .u64 (x : Int), .int .u64 (y : Int)] 38)) (w.heap.size) 38 #[.int .u64 (x : Int), .int .u64 (y : Int)] := (blk_at (by simp))
      have hB : Below w.heap.size w (w.alloc (.cells #[.int .u64 (x : Int), .int .u64 (y : Int)] 38)) := (bel_at (Below.refl _ _) (.cells #[.int .u64 (x : Int), .int .u64 (y : Int)] 38))
      generalize (w.alloc (.cells #[.int .u64 (x : Int), .int .u64 (y : Int)] 38)) = w1 at *
      (try clear k0c k0f k0z); have k0c := fun i => Blk.cell k0 i; have k0f := fun i => Blk.free k0 i; have k0z := Blk.lt k0
      unfold Hold
      go_wp2_with (first | (first | ((with_reducible refine wpList_here ?_ ?_); (· exact Eq.refl true); first | ((with_reducible refine wpList_grow 5 ?_ ?_); (· exact Eq.refl true))) | ((with_reducible refine wp_region_any_here ?_ ?_); (· exact Eq.refl true); first | ((with_reducible refine wp_region_drawn 5 ?_ ?_ ?_ ?_); (· exact Eq.refl true); (· kernel_rfl); (· kernel_rfl)) | refine wp_region_grow (by kernel_rfl) (by kernel_rfl) ?_)); (try simp only [List.take_succ_cons, List.take_zero, List.drop_succ_cons, List.drop_zero]); (repeat (go_big_quiet_step ((first | (go_at_call 53; with_reducible exact grow_of (CF.out _)))))); (first | (refine wpQuiet_nil ?_; intro w' hb; replace hB := Below.trans hB (Below.mono hb (Below.size hB)); replace k0 := Blk.below k0 hb (Blk.lt k0); (try clear k0c k0f k0z); have k0c := fun i => Blk.cell k0 i; have k0f := fun i => Blk.free k0 i; have k0z := Blk.lt k0) | skip) | (with_reducible refine hold_slot 15 ?_))
      all_goals (try (go_wp2_with (with_reducible refine hold_slot 15 ?_)))
      have k9 : Blk (w'.alloc (.cells #[.int .u64 0, .int .u64 0] 38)) w'.heap.size 38 #[.int .u64 0, .int .u64 0] := Blk.new _ _ _
      replace k0 := Blk.alloc k0 (.cells #[.int .u64 0, .int .u64 0] 38)
      replace hB := bel_at hB (.cells #[.int .u64 0, .int .u64 0] 38)
      generalize w'.alloc (.cells #[.int .u64 0, .int .u64 0] 38) = w3 at *
      (try clear k0c k0f k0z); have k0c := fun i => Blk.cell k0 i; have k0f := fun i => Blk.free k0 i; have k0z := Blk.lt k0; (try clear k9c k9f k9z); have k9c := fun i => Blk.cell k9 i; have k9f := fun i => Blk.free k9 i; have k9z := Blk.lt k9
      unfold Hold
      go_wp2
      go_ret2
      exact ⟨rfl, hB⟩

set_option maxRecDepth 20000 in
set_option maxHeartbeats 1000000 in
theorem bits_Count (x y : Nat) (w : World) (hx : Wd x) (hy : Wd y) :
    Calls Tryd.prog 32 #[sv x y] w fun e w' => e = .returned (.int .i64 ((popN x 64 : Nat) + (popN y 64 : Nat))) ∧ Below w.heap.size w w' := by
  have cX := fun w => bits_Ones x w hx
  have cY := fun w => bits_Ones y w hy
  have l1 := popN_le x 64
  have l2 := popN_le y 64
  have e1 : IntKind.i64.wrap (((popN x 64 : Nat) : Int) + ((popN y 64 : Nat) : Int)) = ((popN x 64 : Nat) : Int) + ((popN y 64 : Nat) : Int) := IntWalk.i64_in _ (by omega)
  unfold sv
  have CX := Lib.hid cX
  have CY := Lib.hid cY
  clear cX cY hx hy l1 l2
  generalize ((popN x 64 : Nat) : Int) = p at *
  generalize ((popN y 64 : Nat) : Int) = q at *
  go_enter Tryd.func32, Tryd.ntmps32
  go_wp2_with (first | ((with_reducible refine hold_list ?_ ?_); (· exact Eq.refl true)) | ((with_reducible refine hold_region ?_ ?_); (· exact Eq.refl true)) | (with_reducible refine hold_loop ?_))
  have k0 : Blk (w.alloc (.cells #[.int .u64 (x : Int), .int .u64 (y : Int)] 38)) (w.heap.size) 38 #[.int .u64 (x : Int), .int .u64 (y : Int)] := (blk_at (by simp))
  have hB : Below w.heap.size w (w.alloc (.cells #[.int .u64 (x : Int), .int .u64 (y : Int)] 38)) := (bel_at (Below.refl _ _) (.cells #[.int .u64 (x : Int), .int .u64 (y : Int)] 38))
  generalize (w.alloc (.cells #[.int .u64 (x : Int), .int .u64 (y : Int)] 38)) = w1 at *
  (try clear k0c k0f k0z); have k0c := fun i => Blk.cell k0 i; have k0f := fun i => Blk.free k0 i; have k0z := Blk.lt k0
  unfold Hold
  go_wp2_with (first | ((with_reducible refine wpList_here ?_ ?_); (· exact Eq.refl true); first | ((with_reducible refine wpList_grow 6 ?_ ?_); (· exact Eq.refl true)) | ((with_reducible refine wpList_grow 99 ?_ ?_); (· exact Eq.refl true))) | ((with_reducible refine wp_region_any_here ?_ ?_); (· exact Eq.refl true); first | ((with_reducible refine wp_region_drawn 6 ?_ ?_ ?_ ?_); (· exact Eq.refl true); (· kernel_rfl); (· kernel_rfl)) | ((with_reducible refine wp_region_drawn 99 ?_ ?_ ?_ ?_); (· exact Eq.refl true); (· kernel_rfl); (· kernel_rfl)) | refine wp_region_grow (by kernel_rfl) (by kernel_rfl) ?_)); (try simp only [List.take_succ_cons, List.take_zero, List.drop_succ_cons, List.drop_zero]); (repeat (go_big_quiet_step ((first | (go_at_call 50; with_reducible exact grow_same (CX.out _)) | (go_at_call 50; with_reducible exact grow_same (CY.out _)))))); (first | (refine wpQuiet_nil ?_; intro w' hb; replace hB := Below.trans hB (Below.mono hb (Below.size hB)); replace k0 := Blk.below k0 hb (Blk.lt k0); (try clear k0c k0f k0z); have k0c := fun i => Blk.cell k0 i; have k0f := fun i => Blk.free k0 i; have k0z := Blk.lt k0) | skip)
  all_goals (try (go_wp2_with (first | ((with_reducible refine wpList_here ?_ ?_); (· exact Eq.refl true); first | ((with_reducible refine wpList_grow 6 ?_ ?_); (· exact Eq.refl true)) | ((with_reducible refine wpList_grow 99 ?_ ?_); (· exact Eq.refl true))) | ((with_reducible refine wp_region_any_here ?_ ?_); (· exact Eq.refl true); first | ((with_reducible refine wp_region_drawn 6 ?_ ?_ ?_ ?_); (· exact Eq.refl true); (· kernel_rfl); (· kernel_rfl)) | ((with_reducible refine wp_region_drawn 99 ?_ ?_ ?_ ?_); (· exact Eq.refl true); (· kernel_rfl); (· kernel_rfl)) | refine wp_region_grow (by kernel_rfl) (by kernel_rfl) ?_)); (try simp only [List.take_succ_cons, List.take_zero, List.drop_succ_cons, List.drop_zero]); (repeat (go_big_quiet_step ((first | (go_at_call 50; with_reducible exact grow_same (CX.out _)) | (go_at_call 50; with_reducible exact grow_same (CY.out _)))))); (first | (refine wpQuiet_nil ?_; intro w' hb; replace hB := Below.trans hB (Below.mono hb (Below.size hB)); replace k0 := Blk.below k0 hb (Blk.lt k0); (try clear k0c k0f k0z); have k0c := fun i => Blk.cell k0 i; have k0f := fun i => Blk.free k0 i; have k0z := Blk.lt k0) | skip)))
  all_goals (try (go_wp2_with (first | ((with_reducible refine wpList_here ?_ ?_); (· exact Eq.refl true); first | ((with_reducible refine wpList_grow 6 ?_ ?_); (· exact Eq.refl true)) | ((with_reducible refine wpList_grow 99 ?_ ?_); (· exact Eq.refl true))) | ((with_reducible refine wp_region_any_here ?_ ?_); (· exact Eq.refl true); first | ((with_reducible refine wp_region_drawn 6 ?_ ?_ ?_ ?_); (· exact Eq.refl true); (· kernel_rfl); (· kernel_rfl)) | ((with_reducible refine wp_region_drawn 99 ?_ ?_ ?_ ?_); (· exact Eq.refl true); (· kernel_rfl); (· kernel_rfl)) | refine wp_region_grow (by kernel_rfl) (by kernel_rfl) ?_)); (try simp only [List.take_succ_cons, List.take_zero, List.drop_succ_cons, List.drop_zero]); (repeat (go_big_quiet_step ((first | (go_at_call 50; with_reducible exact grow_same (CX.out _)) | (go_at_call 50; with_reducible exact grow_same (CY.out _)))))); (first | (refine wpQuiet_nil ?_; intro w' hb; replace hB := Below.trans hB (Below.mono hb (Below.size hB)); replace k0 := Blk.below k0 hb (Blk.lt k0); (try clear k0c k0f k0z); have k0c := fun i => Blk.cell k0 i; have k0f := fun i => Blk.free k0 i; have k0z := Blk.lt k0) | skip)))
  go_ret
  exact ⟨rfl, hB⟩
set_option maxRecDepth 20000 in
set_option maxHeartbeats 1000000 in
theorem bits_And (x y x' y' : Nat) (w : World) (hx : Wd x) (hy : Wd y) (hx' : Wd x') (hy' : Wd y') : Calls Tryd.prog 46 #[sv x y, sv x' y'] w fun e w' => e = .returned (sv (x &&& x') (y &&& y')) ∧ Below w.heap.size w w' := by
  unfold sv
  have a1 := and_word x x' hx hx'
  have a2 := and_word y y' hy hy'
  generalize ((x &&& x' : Nat) : Int) = r1 at *
  generalize ((y &&& y' : Nat) : Int) = r2 at *
  clear hx hy hx' hy'
  go_enter Tryd.func46, Tryd.ntmps46
  go_wp2
  refine bodyPost_ret (v := .agg #[.int .u64 r1, .int .u64 r2]) (by simp [results, Tryd.results46, go_sem]) rfl ?_
  exact ⟨rfl, bel3 _ _ _ _⟩
end Go.Proofs.YtejcgagblpkmoaaDoor
set_option linter.unusedVariables false
set_option linter.unusedSimpArgs false
namespace Go.Proofs.YtejcgagblpkmoaaDoor
open Go.Joins Go.ChangeShapes Go.WideShapes Go.ChangeAt Go.RowKit Go.Deep

def shlW (x m : Nat) : Nat := x * 2 ^ m % 18446744073709551616
theorem wd_shl (x m : Nat) : Wd (shlW x m) := Nat.mod_lt _ (by omega)
theorem wd_shr {x : Nat} (m : Nat) (h : Wd x) : Wd (x / 2 ^ m) := Nat.lt_of_le_of_lt (Nat.div_le_self _ _) h
theorem shl_bit (x m j : Nat) (hj : j < 64) : (shlW x m).testBit j = (decide (m ≤ j) && x.testBit (j - m)) := by
  unfold shlW
  rw [show 18446744073709551616 = 2 ^ 64 from rfl, Nat.testBit_mod_two_pow, Nat.testBit_mul_two_pow]
  simp [hj]
theorem shr_bit (x m j : Nat) : (x / 2 ^ m).testBit j = x.testBit (j + m) := by
  rw [Nat.testBit_div_two_pow]
theorem shl_int (x m : Nat) : IntKind.u64.wrap ((x : Int) * 2 ^ m) = (shlW x m : Nat) := by
  have e : (x : Int) * 2 ^ m = ((x * 2 ^ m : Nat) : Int) := by push_cast; rfl
  unfold shlW
  rw [e, IntKind.wrap_u64]
  omega
theorem shr_int (x m : Nat) : (x : Int) / 2 ^ m = ((x / 2 ^ m : Nat) : Int) := by push_cast; rfl
def shX (x y : Nat) (k : Int) : Nat := if 128 ≤ k ∨ k ≤ -128 then 0 else if 64 ≤ k then 0 else if 0 ≤ k then shlW x k.toNat else if -64 < k then (x / 2 ^ (-k).toNat) ||| shlW y (64 + k).toNat else y / 2 ^ (-k - 64).toNat
def shY (x y : Nat) (k : Int) : Nat := if 128 ≤ k ∨ k ≤ -128 then 0 else if 64 ≤ k then shlW x (k - 64).toNat else if 0 ≤ k then shlW y k.toNat ||| (x / 2 ^ (64 - k).toNat) else if -64 < k then y / 2 ^ (-k).toNat else 0
theorem wd_sh {x y : Nat} (k : Int) (hx : Wd x) (hy : Wd y) : Wd (shX x y k) ∧ Wd (shY x y k) := by
  have z : Wd 0 := by show 0 < _; omega
  constructor
  · unfold shX
    repeat' split
    all_goals first | exact z | exact wd_shl _ _ | exact wd_or (wd_shr _ hx) (wd_shl _ _) | exact wd_shr _ hy
  · unfold shY
    repeat' split
    all_goals first | exact z | exact wd_shl _ _ | exact wd_or (wd_shl _ _) (wd_shr _ hx) | exact wd_shr _ hy
theorem mem_nat (x y n : Nat) : memB x y (n : Int) = if n < 64 then x.testBit n else if n < 128 then y.testBit (n - 64) else false := by
  unfold memB
  by_cases h : n < 64
  · rw [if_pos (by omega), if_pos h]; simp
  · rw [if_neg (by omega), if_neg h]
    by_cases h2 : n < 128
    · rw [if_pos (by omega), if_pos h2, show ((n : Int) - 64).toNat = n - 64 by omega]
    · rw [if_neg (by omega), if_neg h2]
/-- What a shifted set has. -/
theorem mem_sh {x y : Nat} (k : Int) (hx : Wd x) (hy : Wd y) (n : Int) (h0 : 0 ≤ n) (h1 : n < 128) : memB (shX x y k) (shY x y k) n = memB x y (n - k) := by
  obtain ⟨m, rfl⟩ := Int.eq_ofNat_of_zero_le h0
  unfold shX shY
  by_cases a1 : 128 ≤ k ∨ k ≤ -128
  · rw [if_pos a1, if_pos a1, mem_zero, mem_out (by omega)]
  · rw [if_neg a1, if_neg a1]
    by_cases a2 : 64 ≤ k
    · rw [if_pos a2, if_pos a2]
      obtain ⟨j, hj⟩ := Int.eq_ofNat_of_zero_le (show 0 ≤ k - 64 by omega)
      rw [hj, Int.toNat_natCast, mem_nat]
      by_cases b : m < 64
      · rw [if_pos b, mem_out (by omega), Nat.zero_testBit]
      · rw [if_neg b, if_pos (by omega), shl_bit _ _ _ (by omega)]
        by_cases c : j ≤ m - 64
        · rw [show (m : Int) - k = ((m - 64 - j : Nat) : Int) by omega, mem_nat, if_pos (by omega)]; simp [c]
        · rw [mem_out (by omega)]; simp [c]
    · rw [if_neg a2, if_neg a2]
      by_cases a3 : 0 ≤ k
      · rw [if_pos a3, if_pos a3]
        obtain ⟨j, rfl⟩ := Int.eq_ofNat_of_zero_le a3
        rw [show (64 - (j : Int)).toNat = 64 - j by omega, Int.toNat_natCast, mem_nat]
        by_cases b : m < 64
        · rw [if_pos b, shl_bit _ _ _ b]
          by_cases c : j ≤ m
          · rw [show (m : Int) - (j : Int) = ((m - j : Nat) : Int) by omega, mem_nat, if_pos (by omega)]; simp [c]
          · rw [mem_out (by omega)]; simp [c]
        · rw [if_neg b, if_pos (by omega), Nat.testBit_or, shl_bit _ _ _ (by omega), shr_bit, show (m : Int) - (j : Int) = ((m - j : Nat) : Int) by omega, mem_nat]
          by_cases c : j ≤ m - 64
          · rw [if_neg (by omega), if_pos (by omega), show m - j - 64 = m - 64 - j by omega]
            rw [bit_high hx (m := m - 64 + (64 - j)) (by omega)]
            simp [c]
          · rw [if_pos (by omega), show m - 64 + (64 - j) = m - j by omega]
            simp [c]
      · rw [if_neg a3, if_neg a3]
        by_cases a4 : -64 < k
        · rw [if_pos a4, if_pos a4]
          obtain ⟨j, hj⟩ := Int.eq_ofNat_of_zero_le (show 0 ≤ -k by omega)
          rw [hj, show (64 + k).toNat = 64 - j by omega, Int.toNat_natCast, mem_nat, show (m : Int) - k = ((m + j : Nat) : Int) by omega, mem_nat]
          by_cases b : m < 64
          · rw [if_pos b, Nat.testBit_or, shr_bit, shl_bit _ _ _ b]
            by_cases c : m + j < 64
            · rw [if_pos c]
              have : ¬ 64 - j ≤ m := by omega
              simp [this]
            · rw [if_neg c, if_pos (by omega), bit_high hx (m := m + j) (by omega), show m - (64 - j) = m + j - 64 by omega]
              have : 64 - j ≤ m := by omega
              simp [this]
          · rw [if_neg b, if_pos (by omega), shr_bit, if_neg (by omega)]
            by_cases c : m + j < 128
            · rw [if_pos c, show m - 64 + j = m + j - 64 by omega]
            · rw [if_neg c, bit_high hy (by omega)]
        · rw [if_neg a4, if_neg a4]
          obtain ⟨j, hj⟩ := Int.eq_ofNat_of_zero_le (show 0 ≤ -k - 64 by omega)
          rw [hj, Int.toNat_natCast, mem_nat, show (m : Int) - k = ((m + (j + 64) : Nat) : Int) by omega, mem_nat, if_neg (show ¬ m + (j + 64) < 64 by omega)]
          by_cases b : m < 64
          · rw [if_pos b, shr_bit]
            by_cases c : m + (j + 64) < 128
            · rw [if_pos c, show m + j = m + (j + 64) - 64 by omega]
            · rw [if_neg c, bit_high hy (by omega)]
          · rw [if_neg b, if_pos (by omega), if_neg (by omega), Nat.zero_testBit]
end Go.Proofs.YtejcgagblpkmoaaDoor

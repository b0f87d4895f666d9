
/-
  The library's counts of a word: trailing zeros (with its table), leading zeros, ones. Condition of the first: the table lies as it was laid.
-/
import Derived.Test.YtlcnhpjmmjmkcaaDoorSetW2
import Derived.Test.YtlcnhpjmmjmkcaaDoorPop
import Derived.Test.YtlcnhpjmmjmkcaaDoorSeq
import Derived.Test.YtlcnhpjmmjmkcaaDoorShelf
import Derived.Shelf.Spec.TrailingZeros
set_option linter.unusedVariables false
set_option linter.unusedSimpArgs false
namespace Go.Proofs.YtlcnhpjmmjmkcaaDoor
open Go.Joins Go.ChangeShapes Go.WideShapes Go.ChangeAt Go.RowKit Go.Deep

/-- The table of trailing zeros lies in its variable. -/
structure Tab (w : World) : Prop where
  tab : TabAt 0 Lib.deBruijn64tab w
  pos : 0 < w.heap.size
theorem Tab.below {w w' : World} (h : Tab w) (hb : Below w.heap.size w w') : Tab w' :=
  ⟨fun j hj => by rw [← h.tab j hj]; exact hb.cell (p := ⟨0, j, none⟩) h.pos, by have := hb.size; have := h.pos; omega⟩
theorem Tab.out {w : World} (h : Tab w) (g : Grow w) : Tab g.world := h.below (Grow.below g)

set_option maxRecDepth 20000 in
set_option maxHeartbeats 1000000 in
theorem tz_core (x k idx : Nat) (w : World) (hx0 : ((x : Int) == 0) = false)
    (key : IntKind.u64.wrap (bits BinOp.and IntKind.u64 (x : Int) (IntKind.u64.wrap (-(x : Int))) * 285870213051353865) / 288230376151711744 = (idx : Int))
    (hi : idx < 64) (hk : k < 64) (hcell : w.cell? ⟨0, idx, none⟩ = some (.int .u8 k)) :
    Calls Tryd.prog 52 #[.int .u64 x] w fun e w' => e = .returned (.int .i64 k) ∧ w = w' := by
  go_enter Tryd.func52, Tryd.ntmps52
  go_wp2_with (simp only [key])
  go_ret
  exact ⟨rfl, rfl⟩
set_option maxRecDepth 20000 in
theorem tz_zero (w : World) : Calls Tryd.prog 52 #[.int .u64 0] w fun e w' => e = .returned (.int .i64 64) ∧ w = w' := by
  go_enter Tryd.func52, Tryd.ntmps52
  go_wp2
  go_ret
  exact ⟨rfl, rfl⟩
theorem bits_TZ (x : Nat) (w : World) (hx : Wd x) (hT : Tab w) : Calls Tryd.prog 52 #[.int .u64 x] w fun e w' => e = .returned (.int .i64 (Lib.ctz 64 x : Nat)) ∧ w = w' := by
  by_cases hx0 : x = 0
  · subst hx0
    exact tz_zero w
  · obtain ⟨hlow, hk⟩ := Lib.lowest_bit 64 x hx0 hx
    obtain ⟨hi, htab⟩ := Lib.deBruijn64_at _ hk
    have hcell := hT.tab _ hi
    rw [htab] at hcell
    exact tz_core x _ _ w (by simp; omega) (tz64_key x _ hx hx0 hlow) hi hk hcell
theorem bits_LZ (x : Nat) (w : World) (hx : Wd x) : Calls Tryd.prog 53 #[.int .u64 x] w fun e w' => e = .returned (.int .i64 (64 - (Lib.bitLen x : Int))) ∧ w = w' := by
  have h := Tryd.bits_LeadingZeros64 (x : Int) w (by omega) (by unfold Wd at hx; omega)
  rw [Int.toNat_natCast] at h
  exact h.mono fun e w' ⟨a, b⟩ => ⟨a, b.symm⟩
theorem msk85 : msk 85 8 = 6148914691236517205 := by decide +kernel
theorem msk51 : msk 51 8 = 3689348814741910323 := by decide +kernel
theorem msk15 : msk 15 8 = 1085102592571150095 := by decide +kernel
set_option maxRecDepth 20000 in
set_option maxHeartbeats 4000000 in
theorem ones_core (x a1 a2 a b1 b2 b s c d e f r : Int) (w : World)
    (e1 : bits .and .u64 (x / 2) 6148914691236517205 = a1) (e2 : bits .and .u64 x 6148914691236517205 = a2) (e3 : IntKind.u64.wrap (a1 + a2) = a)
    (e4 : bits .and .u64 (a / 4) 3689348814741910323 = b1) (e5 : bits .and .u64 a 3689348814741910323 = b2) (e6 : IntKind.u64.wrap (b1 + b2) = b)
    (e7 : IntKind.u64.wrap (b / 16 + b) = s) (e8 : bits .and .u64 s 1085102592571150095 = c)
    (e9 : IntKind.u64.wrap (c + c / 256) = d) (e10 : IntKind.u64.wrap (d + d / 65536) = e) (e11 : IntKind.u64.wrap (e + e / 4294967296) = f)
    (e12 : bits .and .i64 (wrap64 f) 127 = r) :
    Calls Tryd.prog 51 #[.int .u64 x] w fun e w' => e = .returned (.int .i64 r) ∧ w = w' := by
  go_enter Tryd.func51, Tryd.ntmps51
  go_wp2
  go_ret
  exact ⟨rfl, rfl⟩
theorem i64_and127 (n : Nat) (h2 : n < 9223372036854775808) : bits .and .i64 (n : Int) 127 = ((n % 128 : Nat) : Int) := by
  have h1 : (BitVec.ofInt 64 (n : Int)).toNat = n := by
    rw [BitVec.ofInt_natCast, BitVec.toNat_ofNat]; exact Nat.mod_eq_of_lt (by omega)
  have hb : (BitVec.ofInt 64 127).toNat = 127 := by decide +kernel
  show IntKind.i64.wrap ((BitVec.ofInt 64 (n : Int) &&& BitVec.ofInt 64 127).toNat : Int) = _
  rw [BitVec.toNat_and, h1, hb, show 127 = 2 ^ 7 - 1 from rfl, Nat.and_two_pow_sub_one_eq_mod, IntWalk.i64_in _ (by omega)]
theorem bits_Ones (x : Nat) (w : World) (hx : Wd x) : Calls Tryd.prog 51 #[.int .u64 x] w fun e w' => e = .returned (.int .i64 (popN x 64 : Nat)) ∧ w = w' := by
  obtain ⟨a, ha⟩ : ∃ a, a = one1 8 x := ⟨_, rfl⟩
  obtain ⟨b, hb⟩ : ∃ b, b = two2 8 a := ⟨_, rfl⟩
  obtain ⟨c, hc⟩ : ∃ c, c = thr3 8 b := ⟨_, rfl⟩
  obtain ⟨d, hd⟩ : ∃ d, d = c + c / 256 := ⟨_, rfl⟩
  obtain ⟨e, he⟩ : ∃ e, e = d + d / 65536 := ⟨_, rfl⟩
  obtain ⟨f, hf⟩ : ∃ f, f = e + e / 4294967296 := ⟨_, rfl⟩
  obtain ⟨h1, h2, h3, h4, h5, h6, h7⟩ := pop64 x a b c d e f hx ha hb hc hd he hf
  unfold one1 at ha
  unfold two2 at hb
  unfold thr3 at hc
  rw [msk85] at ha
  rw [msk51] at hb
  rw [msk15] at hc
  have wn : ∀ (z m : Nat), Wd z → Wd m → bits .and .u64 (z : Int) (m : Int) = ((z &&& m : Nat) : Int) := fun z m => and_word z m
  unfold Wd at hx
  have r := ones_core (x : Int) ((x / 2 &&& 6148914691236517205 : Nat) : Int) ((x &&& 6148914691236517205 : Nat) : Int) a ((a / 4 &&& 3689348814741910323 : Nat) : Int) ((a &&& 3689348814741910323 : Nat) : Int) b ((b / 16 + b : Nat) : Int) c d e f ((f % 128 : Nat) : Int) w
    (wn (x / 2) 6148914691236517205 (by show x / 2 < _; omega) (by show _ < _; omega)) (wn x 6148914691236517205 hx (by show _ < _; omega)) (by rw [IntWalk.u64_in _ (by omega)]; omega)
    (wn (a / 4) 3689348814741910323 (by show a / 4 < _; omega) (by show _ < _; omega)) (wn a 3689348814741910323 h2 (by show _ < _; omega)) (by rw [IntWalk.u64_in _ (by omega)]; omega)
    (by rw [IntWalk.u64_in _ (by omega)]; omega) (by rw [hc]; exact wn (b / 16 + b) 1085102592571150095 h4 (by show _ < _; omega))
    (by rw [IntWalk.u64_in _ (by omega)]; omega) (by rw [IntWalk.u64_in _ (by omega)]; omega) (by rw [IntWalk.u64_in _ (by omega)]; omega)
    (by rw [IntWalk.wrap64_in _ (by omega)]; exact i64_and127 f h7)
  rw [h1] at r
  exact r
end Go.Proofs.YtlcnhpjmmjmkcaaDoor


/-
  hoistwayref20.Check: what it says of a scenario that may be. No conditions.
-/
import Derived.Test.YtnegolclofgboaaDataC
set_option linter.unusedVariables false
set_option linter.unusedSimpArgs false
namespace Go.Proofs.Ytnegolclofgboaa
open Go.Joins Go.ChangeShapes Go.WideShapes Go.ChangeAt Go.RowKit Go.Deep

def nm13 : List ByteArray := [⟨#[102, 108, 111, 111, 114, 115]⟩, ⟨#[103, 97, 112]⟩, ⟨#[99, 97, 114, 115]⟩, ⟨#[99, 97, 112, 97, 99, 105, 116, 121]⟩, ⟨#[111, 112, 101, 110]⟩, ⟨#[100, 119, 101, 108, 108]⟩, ⟨#[99, 108, 111, 115, 101]⟩, ⟨#[116, 114, 97, 110, 115, 102, 101, 114]⟩, ⟨#[116, 105, 99, 107, 115]⟩, ⟨#[104, 111, 114, 105, 122, 111, 110]⟩, ⟨#[114, 97, 116, 101]⟩, ⟨#[98, 105, 110, 115]⟩, ⟨#[119, 105, 100, 116, 104]⟩]
def lo13 : List Int := [2, 1, 1, 1, 1, 1, 1, 1, 1, 1, 0, 1, 1]
def hi13 : List Int := [128, 16, 16, 64, 64, 64, 64, 64, 1048576, 1048576, 4000, 64, 4096]
def nmAt (k : Nat) : ByteArray := nm13.getD k ByteArray.empty
def loAt (k : Nat) : Int := lo13.getD k 0
def hiAt (k : Nat) : Int := hi13.getD k 0
theorem nm_ne : ∀ k, k < 13 → ∀ j, j < 13 → k ≠ j → ((nmAt k).toList == (nmAt j).toList) = false := by decide +kernel

theorem bounds_at (j : Nat) (hj : j < 13) (w : World) : Calls Try.prog 43 #[.string (nmAt j)] w fun e w' => e = .returned (.tuple #[.int .i64 (loAt j), .int .i64 (hiAt j), .bool true]) ∧ Below w.heap.size w w' := by
  obtain ⟨nm, hnm⟩ : ∃ nm, nm = nmAt j := ⟨_, rfl⟩
  rw [← hnm]
  have HN := Lib.hid hnm
  clear hnm
  go_enter Try.func43, Try.ntmps43
  go_wp2
  have hbel : Below w.heap.size w (((w.alloc (.cells (nm13.map Value.string).toArray 103)).alloc (.cells (lo13.map (Value.int .i64)).toArray 104)).alloc (.cells (hi13.map (Value.int .i64)).toArray 104)) := below_alloc3 _ _ _ _
  have k0 := ((Blk.new w 103 (nm13.map Value.string).toArray).alloc (.cells (lo13.map (Value.int .i64)).toArray 104)).alloc (.cells (hi13.map (Value.int .i64)).toArray 104)
  have k1 := (Blk.new (w.alloc (.cells (nm13.map Value.string).toArray 103)) 104 (lo13.map (Value.int .i64)).toArray).alloc (.cells (hi13.map (Value.int .i64)).toArray 104)
  have k2 := Blk.new ((w.alloc (.cells (nm13.map Value.string).toArray 103)).alloc (.cells (lo13.map (Value.int .i64)).toArray 104)) 104 (hi13.map (Value.int .i64)).toArray
  simp only [alloc_size] at k1 k2
  change Code.wp _ _ _ _ (((w.alloc (.cells (nm13.map Value.string).toArray 103)).alloc (.cells (lo13.map (Value.int .i64)).toArray 104)).alloc (.cells (hi13.map (Value.int .i64)).toArray 104))
  generalize (((w.alloc (.cells (nm13.map Value.string).toArray 103)).alloc (.cells (lo13.map (Value.int .i64)).toArray 104)).alloc (.cells (hi13.map (Value.int .i64)).toArray 104)) = W at *
  go_loop [8] (fun i => ∃ k : Nat, k ≤ j ∧ i = .int .i64 k) (fun i => 13 - (intOf i).toNat)
  case atStart => exact ⟨0, by omega, rfl⟩
  case round =>
    obtain ⟨k, hk, rfl⟩ := hrel
    have c0 : W.cell? ⟨w.heap.size, k, none⟩ = some (.string (nmAt k)) := (k0.cell k).trans (getD_map _ _ _ _ (by show k < 13; omega))
    have c1 : W.cell? ⟨w.heap.size + 1, k, none⟩ = some (.int .i64 (loAt k)) := (k1.cell k).trans (getD_map _ _ _ _ (by show k < 13; omega))
    have c2 : W.cell? ⟨w.heap.size + 1 + 1, k, none⟩ = some (.int .i64 (hiAt k)) := (k2.cell k).trans (getD_map _ _ _ _ (by show k < 13; omega))
    by_cases hkj : k = j
    · have heq : ((nmAt k).toList == nm.toList) = true := by rw [HN.out, hkj]; simp
      subst hkj
      go_wp2
      go_quiet (fail)
      go_wp2
      go_ret3
      exact ⟨rfl, below_drewN hbel _⟩
    · have hne := nm_ne k (by omega) j hj hkj
      rw [← HN.out] at hne
      go_wp2
      go_round
      case rel => exact ⟨k + 1, by omega, by go_num⟩
      case measure => simp [intOf]; omega

def inB (j : Nat) (n : Int) : Bool := decide (loAt j ≤ n ∧ n ≤ hiAt j)
theorem in_at (j : Nat) (hj : j < 13) (n : Int) (w : World) : Calls Try.prog 26 #[.string (nmAt j), .int .i64 n] w fun e w' => e = .returned (.bool (inB j n)) ∧ Below w.heap.size w w' := by
  unfold inB
  obtain ⟨lo, hlo⟩ : ∃ x, x = loAt j := ⟨_, rfl⟩
  obtain ⟨hi, hhi⟩ : ∃ x, x = hiAt j := ⟨_, rfl⟩
  have hc := bounds_at j hj w
  rw [← hlo, ← hhi] at *
  have HC := Lib.hid hc
  clear hc hlo hhi
  by_cases h1 : lo ≤ n <;> by_cases h2 : n ≤ hi
  all_goals
    go_enter Try.func26, Try.ntmps26
    go_wp2_with (go_at_call 43; refine (HC.out).mono ?_; rintro e w' ⟨rfl, hb⟩)
    go_ret
    exact ⟨ret_bool (by simp [h1, h2]), hb⟩

def ix11 : List Nat := [0, 1, 2, 3, 4, 5, 6, 7, 9, 11, 12]
def ixAt (k : Nat) : Nat := ix11.getD k 0
def nm11 : List ByteArray := ix11.map nmAt
def Scen.vals (s : Scen) : List Int := [s.floors, s.gap, s.cars, s.capacity, s.open_, s.dwell, s.close, s.transfer, s.horizon, s.bins, s.width]
def Scen.at_ (s : Scen) (k : Nat) : Int := s.vals.getD k 0
theorem ixAt_lt : ∀ k, k < 11 → ixAt k < 13 := by decide

/-- What Check makes sure of. -/
def Scen.fine (s : Scen) : Prop := (2 ≤ s.floors ∧ s.floors ≤ 128) ∧ (1 ≤ s.gap ∧ s.gap ≤ 16) ∧ (1 ≤ s.cars ∧ s.cars ≤ 16) ∧ (1 ≤ s.capacity ∧ s.capacity ≤ 64) ∧ (1 ≤ s.open_ ∧ s.open_ ≤ 64) ∧ (1 ≤ s.dwell ∧ s.dwell ≤ 64) ∧ (1 ≤ s.close ∧ s.close ≤ 64) ∧ (1 ≤ s.transfer ∧ s.transfer ≤ 64) ∧
  (1 ≤ s.horizon ∧ s.horizon ≤ 1048576) ∧ (1 ≤ s.bins ∧ s.bins ≤ 64) ∧ (1 ≤ s.width ∧ s.width ≤ 4096)
theorem fine_of (s : Scen) (h : ∀ k, k < 11 → inB (ixAt k) (s.at_ k) = true) : s.fine := by
  have g : ∀ k, k < 11 → loAt (ixAt k) ≤ s.at_ k ∧ s.at_ k ≤ hiAt (ixAt k) := fun k hk => by simpa [inB] using h k hk
  exact ⟨g 0 (by omega), g 1 (by omega), g 2 (by omega), g 3 (by omega), g 4 (by omega), g 5 (by omega), g 6 (by omega), g 7 (by omega), g 8 (by omega), g 9 (by omega), g 10 (by omega)⟩

end Go.Proofs.Ytnegolclofgboaa


/-
  Where a car is behind a tick: track.find, track.At. Condition: the legs are within bounds, their ticks rise.
-/
import Derived.Test.YtnegolclofgboaaDataL
import Derived.Test.YtnegolclofgboaaSlice
set_option linter.unusedVariables false
set_option linter.unusedSimpArgs false
namespace Go.Proofs.Ytnegolclofgboaa
open Go.Joins Go.ChangeShapes Go.WideShapes Go.ChangeAt Go.RowKit Go.Deep

abbrev Legs (w : World) (A : Option Addr) (ls : List Leg) : Prop := Elems 4 Leg.cells w A ls
/-- A leg within bounds. -/
def fineL (g : Leg) : Prop := (-1 ≤ g.dir ∧ g.dir ≤ 1) ∧ (-1073741824 ≤ g.pos ∧ g.pos ≤ 1073741824) ∧ (-1073741824 ≤ g.tick ∧ g.tick ≤ 1073741824)
def legAt (ls : List Leg) (i : Nat) : Leg := ls.getD i ⟨0, 0, 0, false⟩
theorem legAt_of {ls : List Leg} {k : Nat} {g : Leg} (h : ls[k]? = some g) : legAt ls k = g := by simp [legAt, List.getD, h]
/-- At most 60 legs within bounds, whose ticks rise. -/
def fineLs (ls : List Leg) : Prop := ls.length ≤ 60 ∧ (∀ i, i < ls.length → fineL (legAt ls i)) ∧ ∀ i, i + 1 < ls.length → (legAt ls i).tick < (legAt ls (i + 1)).tick
theorem legs_rise {ls : List Leg} (h : fineLs ls) {i j : Nat} (hij : i ≤ j) (hj : j < ls.length) : (legAt ls i).tick ≤ (legAt ls j).tick := by
  induction j with
  | zero => obtain rfl : i = 0 := by omega
            exact Int.le_refl _
  | succ j ih =>
    by_cases e : i = j + 1
    · subst e; exact Int.le_refl _
    · have h1 := ih (by omega) (by omega)
      have h2 := h.2.2 j hj
      omega
/-- How many legs begin by a tick, the first ones. -/
def legK (ls : List Leg) (t : Int) : Nat → Nat
  | 0 => 0
  | k + 1 => if legK ls t k = k ∧ (legAt ls k).tick ≤ t then k + 1 else legK ls t k
theorem legK_le (ls : List Leg) (t : Int) (k : Nat) : legK ls t k ≤ k := by
  induction k with
  | zero => simp [legK]
  | succ k ih => simp only [legK]; split <;> omega
theorem legK_pre {ls : List Leg} {t : Int} {k : Nat} (h : ∀ i, i < k → (legAt ls i).tick ≤ t) : legK ls t k = k := by
  induction k with
  | zero => rfl
  | succ k ih => simp only [legK]; rw [if_pos ⟨ih (fun i hi => h i (by omega)), h k (by omega)⟩]
theorem legK_stop {ls : List Leg} {t : Int} {k n : Nat} (h : ∀ i, i < k → (legAt ls i).tick ≤ t) (hs : k < n → t < (legAt ls k).tick) (hkn : k ≤ n) : legK ls t n = k := by
  induction n with
  | zero => obtain rfl : k = 0 := by omega
            rfl
  | succ n ih =>
    by_cases e : k = n + 1
    · subst e; exact legK_pre h
    · have h1 := ih (fun hh => hs (by omega)) (by omega)
      simp only [legK, h1]
      by_cases e2 : k = n
      · subst e2
        have := hs (by omega)
        rw [if_neg (by omega)]
      · rw [if_neg (by omega)]
/-- What a car's way says of a tick. -/
def wayB (ls : List Leg) (t : Int) : Bool := decide (0 < legK ls t ls.length)
def wayG (ls : List Leg) (t : Int) : Leg := legAt ls (legK ls t ls.length - 1)
def wayP (ls : List Leg) (t : Int) : Int := if 0 < legK ls t ls.length then (wayG ls t).pos + (wayG ls t).dir * (t - (wayG ls t).tick) else 0
def wayD (ls : List Leg) (t : Int) : Bool := if 0 < legK ls t ls.length then (wayG ls t).door else false
theorem dir_mul {d x : Int} (h : -1 ≤ d ∧ d ≤ 1) (hx : -4294967296 ≤ x ∧ x ≤ 4294967296) : -4294967296 ≤ d * x ∧ d * x ≤ 4294967296 := by
  have : d = -1 ∨ d = 0 ∨ d = 1 := by omega
  rcases this with rfl | rfl | rfl <;> omega

set_option maxHeartbeats 1000000 in
theorem track_find (A : Option Addr) (C : Nat) (ls : List Leg) (t : Int) (w : World) (hx : Legs w A ls) (hf : fineLs ls) :
    Calls Try.prog 49 #[.slice A ls.length C, .int .i64 t] w fun e w' => e = .returned (.int .i64 ((legK ls t ls.length : Int) - 1)) ∧ w = w' := by
  have HX := Lib.hid hx
  have HF := Lib.hid hf
  have hl := hf.1
  clear hx hf
  go_enter Try.func49, Try.ntmps49
  go_wp2
  go_loop [5, 6] (fun x y => ∃ lo hi : Nat, lo ≤ hi ∧ hi ≤ ls.length ∧ x = .int .i64 lo ∧ y = .int .i64 hi ∧ Hid (∀ i, i < lo → (legAt ls i).tick ≤ t) ∧ Hid (∀ i, hi ≤ i → i < ls.length → t < (legAt ls i).tick)) (fun x y => (intOf y - intOf x).toNat)
  case atStart => exact ⟨0, ls.length, by omega, by omega, rfl, rfl, fun i hi => by omega, fun i h1 h2 => by omega⟩
  case round =>
    obtain ⟨lo, hi, hlh, hhl, rfl, rfl, hp, hq⟩ := hrel
    by_cases hlt : lo < hi
    · have hm1 : (lo + hi) / 2 < hi := by omega
      have hm2 : lo ≤ (lo + hi) / 2 := by omega
      obtain ⟨b, off, rfl, hbl, hce⟩ := HX.out (by omega)
      obtain ⟨g, hg⟩ := at_some (xs := ls) (k := (lo + hi) / 2) (by omega)
      have z0 := hce _ g hg 0 _ rfl
      simp only [Nat.add_zero] at z0
      have hga := legAt_of hg
      have hdiv : ((lo : Int) + (hi : Int)) / 2 = (((lo + hi) / 2 : Nat) : Int) := by omega
      have hrl := fun i (h : i ≤ (lo + hi) / 2) => legs_rise HF.out h (by omega)
      have hrh := fun i (h : (lo + hi) / 2 ≤ i) (h2 : i < ls.length) => legs_rise HF.out h h2
      rw [hga] at hrl hrh
      generalize hmid : (lo + hi) / 2 = mid at *
      have HD := Lib.hid hdiv
      have HM := Lib.hid hmid
      have hdiv2 := HD.out
      rcases Int.lt_or_le t g.tick with hc | hc
      · have hq2 : Hid (∀ i, mid ≤ i → i < ls.length → t < (legAt ls i).tick) := fun i h1 h2 => by have := hrh i h1 h2; omega
        clear hrl hrh hga hg hce hdiv hmid
        go_wp2
        go_round
        case rel => exact ⟨lo, mid, by omega, by omega, rfl, rfl, hp, hq2⟩
        case measure => simp [intOf]; omega
      · have hp2 : Hid (∀ i, i < mid + 1 → (legAt ls i).tick ≤ t) := fun i h1 => by have := hrl i (by omega); omega
        clear hrl hrh hga hg hce hdiv hmid
        go_wp2
        go_round
        case rel => exact ⟨mid + 1, hi, by omega, by omega, by go_num, rfl, hp2, hq⟩
        case measure => simp [intOf]; omega
    · obtain rfl : lo = hi := by omega
      have hK : legK ls t ls.length = lo := legK_stop hp.out (fun h => hq.out lo (by omega) h) hhl
      have HK := Lib.hid hK
      clear hK
      go_wp2
      go_ret
      exact ⟨ret_int (by rw [HK.out]), rfl⟩
theorem ret_way {a b : Int} {c d e f : Bool} (h : a = b) (h' : c = d) (h2 : e = f) : Ending.returned (.tuple #[.int .i64 a, .bool c, .bool e]) = .returned (.tuple #[.int .i64 b, .bool d, .bool f]) := by rw [h, h', h2]
set_option maxHeartbeats 1000000 in
theorem track_At (A : Option Addr) (C : Nat) (ls : List Leg) (t : Int) (w : World) (hx : Legs w A ls) (hf : fineLs ls) (ht : -2147483648 ≤ t ∧ t ≤ 2147483648) :
    Calls Try.prog 39 #[.slice A ls.length C, .int .i64 t] w fun e w' => e = .returned (.tuple #[.int .i64 (wayP ls t), .bool (wayD ls t), .bool (wayB ls t)]) ∧ ∃ n, w' = w.drewN n := by
  have cF := fun w hx => track_find A C ls t w hx hf
  have hK := legK_le ls t ls.length
  have hl := hf.1
  have HX := Lib.hid hx
  rcases Nat.eq_zero_or_pos (legK ls t ls.length) with h0 | h0
  · have e1 : wayP ls t = 0 := by unfold wayP; rw [if_neg (by omega)]
    have e2 : wayD ls t = false := by unfold wayD; rw [if_neg (by omega)]
    have e3 : wayB ls t = false := by unfold wayB; exact decide_eq_false (by omega)
    rw [e1, e2, e3]
    rw [h0] at cF
    have CF := Lib.hid cF
    clear cF e1 e2 e3 hx hf
    go_enter Try.func39, Try.ntmps39
    go_wp2_with fail
    refine (CF.out _ HX.out).mono ?_
    rintro e w' ⟨rfl, rfl⟩
    go_wp2
    go_ret3
    exact ⟨rfl, 0, rfl⟩
  · have e1 : wayP ls t = (wayG ls t).pos + (wayG ls t).dir * (t - (wayG ls t).tick) := by unfold wayP; rw [if_pos h0]
    have e2 : wayD ls t = (wayG ls t).door := by unfold wayD; rw [if_pos h0]
    have e3 : wayB ls t = true := by unfold wayB; exact decide_eq_true h0
    rw [e1, e2, e3]
    obtain ⟨b, off, rfl, hbl, hce⟩ := hx (by omega)
    obtain ⟨g, hg⟩ := at_some (xs := ls) (k := legK ls t ls.length - 1) (by omega)
    have hgg : wayG ls t = g := legAt_of hg
    have hfl := hf.2.1 (legK ls t ls.length - 1) (by omega)
    rw [show legAt ls (legK ls t ls.length - 1) = wayG ls t from rfl, hgg] at hfl
    rw [hgg]
    have z0 := hce _ g hg 0 _ rfl
    have z1 := hce _ g hg 1 _ rfl
    have z2 := hce _ g hg 2 _ rfl
    have z3 := hce _ g hg 3 _ rfl
    simp only [Nat.add_zero] at z0
    obtain ⟨f1, ⟨f2, f3⟩, f4, f5⟩ := hfl
    obtain ⟨m0, m1⟩ := dir_mul f1 (x := t - g.tick) (by omega)
    have hcast : ((legK ls t ls.length : Int) - 1) = ((legK ls t ls.length - 1 : Nat) : Int) := by omega
    rw [hcast] at cF
    generalize hk : legK ls t ls.length - 1 = k at *
    have hkl : k < ls.length := by omega
    have CF := Lib.hid cF
    have k1 : IntKind.i64.wrap (t - g.tick) = t - g.tick := IntWalk.i64_in _ (by omega)
    have k2 : IntKind.i64.wrap (g.dir * (t - g.tick)) = g.dir * (t - g.tick) := IntWalk.i64_in _ (by omega)
    have k3 : IntKind.i64.wrap (g.pos + g.dir * (t - g.tick)) = g.pos + g.dir * (t - g.tick) := IntWalk.i64_in _ (by omega)
    have K1 := Lib.hid k1
    have K2 := Lib.hid k2
    have K3 := Lib.hid k3
    clear cF e1 e2 e3 hf hce hg hgg hcast hk h0 hK k1 k2 k3
    have i0 : (0 : Int) ≤ (k : Int) := by omega
    have i1 : (k : Int) < (ls.length : Int) := by omega
    go_enter Try.func39, Try.ntmps39
    go_wp2_with fail
    refine (CF.out _ HX.out).mono ?_
    rintro e w' ⟨rfl, rfl⟩
    go_wp2_with fail
    have k1 := K1.out
    have k2 := K2.out
    have k3 := K3.out
    go_quiet (fail)
    clear k1 k2 k3
    go_wp2
    go_ret3
    exact ⟨rfl, _, rfl⟩
end Go.Proofs.Ytnegolclofgboaa

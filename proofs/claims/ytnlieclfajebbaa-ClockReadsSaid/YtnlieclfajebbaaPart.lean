
/-
  clock.part: the number of two digits at a place of a text. Conditions: the place is at most 6, the bound at most 100.
-/
import Derived.Test.YtnlieclfajebbaaRead1
set_option linter.unusedVariables false
set_option linter.unusedSimpArgs false
namespace Go.Proofs.Ytnlieclfajebbaa
open Go.Joins Go.ChangeShapes Go.WideShapes Go.ChangeAt Go.RowKit Go.Deep

def twoN (a b : UInt8) (lim : Int) : Int := if isD a = true ∧ isD b = true ∧ ((a.toNat : Int) - 48) * 10 + ((b.toNat : Int) - 48) < lim then ((a.toNat : Int) - 48) * 10 + ((b.toNat : Int) - 48) else -1
def partV (q : List UInt8) (k : Nat) (lim : Int) : Int := match q[k]?, q[k + 1]? with
  | some a, some b => twoN a b lim
  | _, _ => -1
theorem twoN_bd (a b : UInt8) (lim : Int) (h : 0 ≤ lim) : -1 ≤ twoN a b lim ∧ twoN a b lim ≤ lim := by
  unfold twoN
  split
  · rename_i h
    have h1 := (isD_iff a).1 h.1
    have h2 := (isD_iff b).1 h.2.1
    omega
  · omega
theorem partV_bd (q : List UInt8) (k : Nat) (lim : Int) (h : 0 ≤ lim) : -1 ≤ partV q k lim ∧ partV q k lim ≤ lim := by
  unfold partV
  split
  · exact twoN_bd _ _ _ h
  · omega
theorem part_short {q : List UInt8} {k : Nat} {lim : Int} (h : q.length < k + 2) : partV q k lim = -1 := by
  unfold partV
  split
  · rename_i h1 h2
    have := (List.getElem?_eq_some_iff.1 h2).1
    omega
  · rfl
set_option maxRecDepth 20000 in
set_option maxHeartbeats 1000000 in
theorem clock_part (q : List UInt8) (k : Nat) (lim : Int) (w : World) (hk : k ≤ 6) (hl : q.length ≤ 1000) (h0 : 0 ≤ lim) (h1 : lim ≤ 100) : Calls Try.prog 90 #[.string (txt q), .int .i64 (k : Int), .int .i64 lim] w fun e w' => e = .returned (.int .i64 (partV q k lim)) ∧ ∃ n, w' = w.drewN n := by
  have hsz : (txt q).size = q.length := txt_size q
  rcases Nat.lt_or_ge q.length (k + 2) with h | h
  · rw [part_short h]
    have q0 : decide ((q.length : Int) < (k : Int) + 2) = true := decide_eq_true (by omega)
    generalize txt q = s at *
    go_enter Try.func90, Try.ntmps90
    go_wp2
    go_ret
    exact ⟨rfl, ⟨0, rfl⟩⟩
  · obtain ⟨a, ha⟩ : ∃ a, q[k]? = some a := ⟨_, List.getElem?_eq_getElem (by omega)⟩
    obtain ⟨b, hb⟩ : ∃ b, q[k + 1]? = some b := ⟨_, List.getElem?_eq_getElem (by omega)⟩
    have hpv : partV q k lim = twoN a b lim := by unfold partV; rw [ha, hb]
    rw [hpv]
    have i0 := fun w => ix_txt q k k a rfl ha .i64 w
    have i1 := fun w => ix_txt q ((k : Int) + 1) (k + 1) b (by omega) hb .i64 w
    have q0 : decide ((q.length : Int) < (k : Int) + 2) = false := decide_eq_false (by omega)
    have ua := u8_lt a
    have ub := u8_lt b
    clear hpv ha hb
    cases hA : isD a
    · have e : twoN a b lim = -1 := by unfold twoN; rw [if_neg (by rw [hA]; simp)]
      rw [e]
      have hor := (isD_not a).1 hA
      clear e hA
      generalize txt q = s at *
      rcases hor with hor | hor
      · have q1 : decide ((a.toNat : Int) < 48) = true := decide_eq_true (by omega)
        go_enter Try.func90, Try.ntmps90
        go_wp2
        go_ret
        exact ⟨rfl, ⟨0, rfl⟩⟩
      · have q1 : decide ((a.toNat : Int) < 48) = false := decide_eq_false (by omega)
        have q2 : decide (57 < (a.toNat : Int)) = true := decide_eq_true (by omega)
        go_enter Try.func90, Try.ntmps90
        go_wp2
        go_ret
        exact ⟨rfl, ⟨0, rfl⟩⟩
    · have dA := (isD_iff a).1 hA
      have q1 : decide ((a.toNat : Int) < 48) = false := decide_eq_false (by omega)
      have q2 : decide (57 < (a.toNat : Int)) = false := decide_eq_false (by omega)
      cases hB : isD b
      · have e : twoN a b lim = -1 := by unfold twoN; rw [if_neg (by rw [hB]; simp)]
        rw [e]
        have hor := (isD_not b).1 hB
        clear e hA hB
        generalize txt q = s at *
        rcases hor with hor | hor
        · have q3 : decide ((b.toNat : Int) < 48) = true := decide_eq_true (by omega)
          go_enter Try.func90, Try.ntmps90
          go_wp2
          go_ret
          exact ⟨rfl, ⟨0, rfl⟩⟩
        · have q3 : decide ((b.toNat : Int) < 48) = false := decide_eq_false (by omega)
          have q4 : decide (57 < (b.toNat : Int)) = true := decide_eq_true (by omega)
          go_enter Try.func90, Try.ntmps90
          go_wp2
          go_ret
          exact ⟨rfl, ⟨0, rfl⟩⟩
      · have dB := (isD_iff b).1 hB
        have q3 : decide ((b.toNat : Int) < 48) = false := decide_eq_false (by omega)
        have q4 : decide (57 < (b.toNat : Int)) = false := decide_eq_false (by omega)
        have ew1 : IntKind.u8.wrap ((a.toNat : Int) - 48) = (a.toNat : Int) - 48 := IntWalk.u8_in _ (by omega)
        have ew2 : IntKind.u8.wrap ((b.toNat : Int) - 48) = (b.toNat : Int) - 48 := IntWalk.u8_in _ (by omega)
        have ew3 : IntKind.i64.wrap ((a.toNat : Int) - 48) = (a.toNat : Int) - 48 := IntWalk.i64_in _ (by omega)
        have ew4 : IntKind.i64.wrap ((b.toNat : Int) - 48) = (b.toNat : Int) - 48 := IntWalk.i64_in _ (by omega)
        have ew5 : IntKind.i64.wrap (((a.toNat : Int) - 48) * 10) = ((a.toNat : Int) - 48) * 10 := IntWalk.i64_in _ (by omega)
        have ew6 : IntKind.i64.wrap (((a.toNat : Int) - 48) * 10 + ((b.toNat : Int) - 48)) = ((a.toNat : Int) - 48) * 10 + ((b.toNat : Int) - 48) := IntWalk.i64_in _ (by omega)
        have ew7 : IntKind.i64.wrap ((k : Int) + 1) = (k : Int) + 1 := IntWalk.i64_in _ (by omega)
        rcases Int.lt_or_le (((a.toNat : Int) - 48) * 10 + ((b.toNat : Int) - 48)) lim with hlt | hge
        · have e : twoN a b lim = ((a.toNat : Int) - 48) * 10 + ((b.toNat : Int) - 48) := by unfold twoN; rw [if_pos ⟨hA, hB, hlt⟩]
          rw [e]
          clear e hA hB
          generalize txt q = s at *
          go_enter Try.func90, Try.ntmps90
          go_wp2
          go_quiet (fail)
          go_wp2
          go_ret
          exact ⟨rfl, ⟨_, rfl⟩⟩
        · have e : twoN a b lim = -1 := by unfold twoN; rw [if_neg (by omega)]
          rw [e]
          clear e hA hB
          generalize txt q = s at *
          go_enter Try.func90, Try.ntmps90
          go_wp2
          go_quiet (fail)
          go_wp2
          go_ret
          exact ⟨rfl, ⟨_, rfl⟩⟩
end Go.Proofs.Ytnlieclfajebbaa

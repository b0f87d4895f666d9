
/-
  How far a car goes, tick by tick: hoistwayref25.Far. Condition: the legs are within bounds.
-/
import Derived.Test.YtnegolclofgboaaFar
import Derived.Test.YtnegolclofgboaaAll25
set_option linter.unusedVariables false
set_option linter.unusedSimpArgs false
namespace Go.Proofs.Ytnegolclofgboaa
open Go.Joins Go.ChangeShapes Go.WideShapes Go.ChangeAt Go.RowKit Go.Deep

theorem wayP_wide {ls : List Leg} (hf : fineLs ls) {t : Int} (ht : -2147483648 ≤ t ∧ t ≤ 2147483648) : -8589934592 ≤ wayP ls t ∧ wayP ls t ≤ 8589934592 := by
  unfold wayP
  split
  · rename_i h0
    have hk := legK_le ls t ls.length
    have hfl := hf.2.1 (legK ls t ls.length - 1) (by omega)
    rw [show legAt ls (legK ls t ls.length - 1) = wayG ls t from rfl] at hfl
    obtain ⟨⟨f1, f1'⟩, ⟨f2, f3⟩, f4, f5⟩ := hfl
    have : (wayG ls t).dir = -1 ∨ (wayG ls t).dir = 0 ∨ (wayG ls t).dir = 1 := by omega
    rcases this with e | e | e <;> rw [e] <;> omega
  · omega
theorem farN_bd {P : Int → Int} {t0 : Int} (n : Nat) (h : ∀ k : Nat, k < n → -8589934592 ≤ P (t0 + k) ∧ P (t0 + k) ≤ 8589934592) : ∀ k, k ≤ n → 0 ≤ farN P t0 k ∧ farN P t0 k ≤ (k : Int) * 17179869184 := by
  intro k
  induction k with
  | zero => intro _; simp [farN]
  | succ k ih =>
    intro hk
    have h1 := ih (by omega)
    have h2 := h k (by omega)
    simp only [farN]
    split
    · rename_i h0
      have h3 := h (k - 1) (by omega)
      rw [show t0 + ((k - 1 : Nat) : Int) = t0 + k - 1 by omega] at h3
      omega
    · omega
set_option maxRecDepth 20000 in
set_option maxHeartbeats 8000000 in
theorem ref25_Far (A : Option Addr) (C : Nat) (ls : List Leg) (h : Int) (w : World) (hx : Legs w A ls) (hf : fineRow h ls) (hh : -1 ≤ h ∧ h ≤ 1073741824) :
    Calls Try.prog 18 #[.slice A ls.length C, .int .i64 h] w fun e w' => e = .returned (.int .i64 (farOf ls h)) ∧ Below w.heap.size w w' := by
  have cA := ref25_All A C ls h w hx hf hh
  obtain ⟨n, hn⟩ : ∃ n, n = (if ls.length = 0 then 0 else (h - (legAt ls 0).tick).toNat) := ⟨_, rfl⟩
  have hn3 : n ≤ 300 := by rw [hn]; split; omega; have := hf.2.2 (by omega); omega
  have hn0 : 0 < n → 0 < ls.length := fun hp => by
    rcases Nat.eq_zero_or_pos ls.length with e | e
    · rw [hn, if_pos e] at hp; omega
    · exact e
  have hall : allT ls h = ticksL ls (legAt ls 0).tick n := by unfold allT; rw [← hn]
  have hfo : farOf ls h = farN (wayP ls) (legAt ls 0).tick n := by unfold farOf; rw [← hn]
  have hat : ∀ k, k < n → (ticksL ls (legAt ls 0).tick n)[k]? = some ⟨wayP ls ((legAt ls 0).tick + (k : Int)), wayD ls ((legAt ls 0).tick + (k : Int))⟩ := fun k hk => ticksL_at _ _ hk
  have hlen := ticksL_len ls (legAt ls 0).tick n
  have hpb : ∀ k : Nat, k < n → -8589934592 ≤ wayP ls ((legAt ls 0).tick + (k : Int)) ∧ wayP ls ((legAt ls 0).tick + (k : Int)) ≤ 8589934592 := fun k hk => by
    have := (hf.2.1.2.1 0 (hn0 (by omega))).2.2
    exact wayP_wide hf.2.1 (by omega)
  have hfb := farN_bd n hpb
  have hst : ∀ k : Nat, farN (wayP ls) (legAt ls 0).tick (k + 1 + 1) = farN (wayP ls) (legAt ls 0).tick (k + 1) + max (wayP ls ((legAt ls 0).tick + ((k + 1 : Nat) : Int)) - wayP ls ((legAt ls 0).tick + (k : Int))) (wayP ls ((legAt ls 0).tick + (k : Int)) - wayP ls ((legAt ls 0).tick + ((k + 1 : Nat) : Int))) := fun k => by
    rw [show farN (wayP ls) (legAt ls 0).tick (k + 1 + 1) = if 0 < k + 1 then farN (wayP ls) (legAt ls 0).tick (k + 1) + max (wayP ls ((legAt ls 0).tick + ((k + 1 : Nat) : Int)) - wayP ls ((legAt ls 0).tick + ((k + 1 : Nat) : Int) - 1)) (wayP ls ((legAt ls 0).tick + ((k + 1 : Nat) : Int) - 1) - wayP ls ((legAt ls 0).tick + ((k + 1 : Nat) : Int))) else farN (wayP ls) (legAt ls 0).tick (k + 1) from rfl, if_pos (by omega)]
    rw [show (legAt ls 0).tick + ((k + 1 : Nat) : Int) - 1 = (legAt ls 0).tick + (k : Int) by omega]
  have hz1 : farN (wayP ls) (legAt ls 0).tick 1 = 0 := rfl
  have hz0 : farN (wayP ls) (legAt ls 0).tick 0 = 0 := rfl
  rw [hfo]
  rw [hall] at cA
  generalize farN (wayP ls) (legAt ls 0).tick = G at *
  generalize ticksL ls (legAt ls 0).tick n = L at *
  generalize (legAt ls 0).tick = t0 at *
  have CA := Lib.hid cA
  have HAT := Lib.hid hat
  have HLEN := Lib.hid hlen
  have HPB := Lib.hid hpb
  have HFB := Lib.hid hfb
  have HST := Lib.hid hst
  have HZ1 := Lib.hid hz1
  have HZ0 := Lib.hid hz0
  clear cA hn0 hat hlen hpb hfb hst hz1 hz0 hn hall hfo hx hf
  go_enter Try.func18, Try.ntmps18
  go_wp2_with (go_at_call 28; refine CA.out.mono ?_)
  rintro e w2 ⟨A2, C2, rfl, hel, hb2⟩
  have HE := Lib.hid hel
  have HB2 := Lib.hid hb2
  clear hel hb2 CA
  rw [HLEN.out]
  go_wp2_with (with_reducible refine hold_loop ?_)
  unfold Hold
  go_loopw [7, 6] (fun i v wr => ∃ k : Nat, ∃ q : Nat, (k + 1 ≤ n ∨ k = 0) ∧ i = .int .i64 ((k : Int) + 1) ∧ v = .int .i64 (G (k + 1)) ∧ wr = w2.drewN q) (fun i _ _ => n - (intOf i).toNat)
  case atStart => exact ⟨0, 0, .inr rfl, val_int (by omega), val_int HZ1.out.symm, rfl⟩
  case round =>
    obtain ⟨k, q, hk, rfl, rfl, rfl⟩ := hrel
    by_cases hkl : k + 1 < n
    rotate_left
    · have hres : G (k + 1) = G n := by
        rcases hk with hk | hk
        · rw [show k + 1 = n by omega]
        · subst hk
          have h01 : n = 0 ∨ n = 1 := by omega
          rcases h01 with e | e
          · rw [e, HZ0.out]; exact HZ1.out
          · rw [e]
      have HR := Lib.hid hres
      have hge : ¬ ((k : Int) + 1 < (n : Int)) := by omega
      have hkb : k ≤ 300 := by omega
      clear hres
      go_wp2
      go_ret
      exact ⟨ret_int HR.out, below_drewN HB2.out _⟩
    · obtain ⟨b2, off2, rfl, hbl2, hce2⟩ := HE.out (by rw [HLEN.out]; omega)
      have z0 := hce2 (k + 1) _ (HAT.out (k + 1) (by omega)) 0 _ rfl
      have y0 := hce2 k _ (HAT.out k (by omega)) 0 _ rfl
      simp only [Nat.add_zero] at z0 y0
      have b1 := HPB.out (k + 1) (by omega)
      have b2' := HPB.out k (by omega)
      have b3 := HFB.out (k + 1) (by omega)
      have b4 := HFB.out (k + 1 + 1) (by omega)
      have hst := HST.out k
      generalize wayP ls (t0 + ((k + 1 : Nat) : Int)) = p1 at *
      generalize wayP ls (t0 + (k : Int)) = p0 at *
      have i0 : (0 : Int) ≤ (k : Int) + 1 := by omega
      have i1 : (k : Int) + 1 < (n : Int) := by omega
      have i2 : (0 : Int) ≤ (k : Int) := by omega
      have i3 : (k : Int) < (n : Int) := by omega
      have i4 : ((k : Int) + 1).toNat = k + 1 := by omega
      have e1 : IntKind.i64.wrap ((k : Int) + 1 - 1) = (k : Int) := by rw [show (k : Int) + 1 - 1 = (k : Int) by omega]; exact wrap_in (by omega)
      have e2 : IntKind.i64.wrap (p1 - p0) = p1 - p0 := wrap_in (by omega)
      have gb : 0 ≤ G (k + 1) ∧ G (k + 1) ≤ 301 * 17179869184 := by omega
      have HS := Lib.hid hst
      have E3 : (k : Int) + 1 - 1 = (k : Int) := by omega
      clear hst hce2 b3 b4
      by_cases hneg : p1 - p0 < 0
      all_goals
        go_wp2_with fail
        go_quiet (fail)
        clear e1 e2 E3
        go_wp2
        go_roundw
        case rel => exact ⟨k + 1, _, by omega, val_int (by omega), val_int (by have := HS.out; omega), rfl⟩
        case measure => simp [intOf]; omega
end Go.Proofs.Ytnegolclofgboaa

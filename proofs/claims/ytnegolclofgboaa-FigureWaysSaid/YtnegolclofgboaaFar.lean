
/-
  How far a car goes, leg by leg: track.Far. Condition: the legs are within bounds.
-/
import Derived.Test.YtnegolclofgboaaDoorsQ
import Derived.Test.YtnegolclofgboaaGreat35
import Derived.Test.YtnegolclofgboaaSeq
set_option linter.unusedVariables false
set_option linter.unusedSimpArgs false
namespace Go.Proofs.Ytnegolclofgboaa
open Go.Joins Go.ChangeShapes Go.WideShapes Go.ChangeAt Go.RowKit Go.Deep

/-- How far it goes. -/
def farOf (ls : List Leg) (h : Int) : Int := farN (wayP ls) (legAt ls 0).tick (if ls.length = 0 then 0 else (h - (legAt ls 0).tick).toNat)
theorem farOf_fL {ls : List Leg} {h : Int} (hl : 0 < ls.length) : fL ls h ls.length = farOf ls h := by
  rw [fL_all]; unfold farOf; rw [if_neg (by omega)]
theorem wrap_in {a : Int} (h : -9223372036854775808 ≤ a ∧ a ≤ 9223372036854775807) : IntKind.i64.wrap a = a := IntWalk.i64_in _ h
theorem val_bool35 {a b : Bool} (h : a = b) : Value.bool a = .bool b := by rw [h]
set_option maxRecDepth 20000 in
set_option maxHeartbeats 8000000 in
theorem track_Far (A : Option Addr) (C : Nat) (ls : List Leg) (h : Int) (w : World) (hx : Legs w A ls) (hf : fineLs ls) (hh : -1 ≤ h ∧ h ≤ 1073741824) :
    Calls Try.prog 41 #[.slice A ls.length C, .int .i64 h] w fun e w' => (e = .returned (.int .i64 (farOf ls h)) ∧ 0 ≤ farOf ls h ∧ farOf ls h ≤ 549755813888) ∧ Below w.heap.size w w' := by
  rcases Nat.eq_zero_or_pos ls.length with h0 | h0
  · have e : farOf ls h = 0 := by unfold farOf; rw [if_pos h0]; rfl
    rw [e, h0]
    go_enter Try.func41, Try.ntmps41
    go_wp2
    go_loopw [13, 5] (fun i v wr => i = .int .i64 0 ∧ v = .int .i64 0 ∧ wr = w) (fun i _ _ => 0)
    case atStart => exact ⟨rfl, rfl, rfl⟩
    case round =>
      obtain ⟨rfl, rfl, rfl⟩ := hrel
      go_wp2
      go_ret
      exact ⟨⟨rfl, by omega, by omega⟩, Below.refl _ _⟩
  · rw [← farOf_fL h0]
    have hsk := fun i (hi : i < ls.length) he => far_tail hf (h := h) hi he (ls.length - i) (by omega)
    have hst := fun i (hi : i < ls.length) hlt lp hp => fL_step hf (h := h) hi hlt lp hp
    have hz := fL_zero (h := h) h0
    have hc0 : cntL ls h 0 = 0 := by unfold cntL; rw [if_pos h0]; omega
    have HX := Lib.hid hx
    have HF := Lib.hid hf
    have HSK := Lib.hid hsk
    have HST := Lib.hid hst
    have HZ := Lib.hid hz
    have HC0 := Lib.hid hc0
    have hl := hf.1
    clear hx hf hsk hst hz hc0
    generalize fL ls h = G at *
    generalize cntL ls h = N at *
    generalize hW : (fun n : Nat => wayP ls ((legAt ls 0).tick + (n : Int) - 1)) = W
    have HW : Hid (∀ n : Nat, wayP ls ((legAt ls 0).tick + (n : Int) - 1) = W n) := fun n => by rw [← hW]
    clear hW
    go_enter Try.func41, Try.ntmps41
    go_wp2
    go_loopw [13, 5, 6, 7] (fun i v l s wr => ∃ k : Nat, ∃ lp : Int, k ≤ ls.length ∧ i = .int .i64 k ∧ v = .int .i64 (G k) ∧ l = .int .i64 lp ∧ s = .bool (decide (0 < N k)) ∧ Hid (0 < N k → lp = W (N k)) ∧ (0 ≤ G k ∧ G k ≤ (k : Int) * 8589934592) ∧ (-4294967296 ≤ lp ∧ lp ≤ 4294967296) ∧ Below w.heap.size w wr) (fun i _ _ _ _ => ls.length - (intOf i).toNat)
    case atStart => exact ⟨0, 0, by omega, rfl, by rw [HZ.out], rfl, val_bool35 (by rw [HC0.out]; rfl), (fun hp => by rw [HC0.out] at hp; omega), by rw [HZ.out]; omega, by omega, Below.refl _ _⟩
    case round =>
      obtain ⟨k, lp, hk, rfl, rfl, rfl, rfl, hlp, ⟨g0, g1⟩, ⟨p0, p1⟩, hb⟩ := hrel
      by_cases hkl : k < ls.length
      rotate_left
      · obtain rfl : k = ls.length := by omega
        go_wp2
        go_ret
        exact ⟨⟨rfl, g0, by omega⟩, hb⟩
      · obtain ⟨b, off, rfl, hbl, hce⟩ := HX.out (by omega)
        obtain ⟨g, hg⟩ := at_some hkl
        have z := fun j u h => (hb.cell (p := ⟨b, off + k * 4 + j, none⟩) hbl).trans (hce k g hg j u h)
        have z0 := z 0 _ rfl
        have z1 := z 1 _ rfl
        have z2 := z 2 _ rfl
        simp only [Nat.add_zero] at z0
        have hga := legAt_of hg
        have hfl := HF.out.2.1 k hkl
        have hs1 := HSK.out k hkl
        have hs2 := fun hlt => HST.out k hkl hlt lp (fun hp => (hlp.out hp).trans (HW.out _).symm)
        rw [hga] at hfl hs1 hs2
        rw [show k + (ls.length - k) = ls.length by omega] at hs1
        have hlpp : lastP ls h k = (legAt ls k).pos + (endL ls h k - (legAt ls k).tick - 1) * (legAt ls k).dir := rfl
        rw [hga] at hlpp
        simp only [HW.out] at hs2
        obtain ⟨f1, ⟨f2, f3⟩, f4, f5⟩ := hfl
        obtain ⟨tick, pos, dir, door⟩ := g
        simp only at *
        have i0k : (0 : Int) ≤ (k : Int) := by omega
        have i1k : (k : Int) < (ls.length : Int) := by omega
        have hzb : b < wr.heap.size := by have := hb.size; omega
        have hkb : (k : Int) * 8589934592 ≤ 60 * 8589934592 := by omega
        have hcs : (ls.length = k + 1 ∧ endL ls h k = h) ∨ (k + 1 < ls.length ∧ h ≤ (legAt ls (k + 1)).tick ∧ endL ls h k = h) ∨ (k + 1 < ls.length ∧ (legAt ls (k + 1)).tick < h ∧ endL ls h k = (legAt ls (k + 1)).tick) := by
          unfold endL
          by_cases h1 : k + 1 < ls.length
          · rw [if_pos h1]; omega
          · rw [if_neg h1]; omega
        rcases hcs with ⟨hcl, hE⟩ | ⟨hcl, hcm, hE⟩ | ⟨hcl, hcm, hE⟩
        · rw [hE] at hs1 hs2 hlpp
          have hcl2 : ¬ k + 1 < ls.length := by omega
          have hcl3 : ¬ (k : Int) + 1 < (ls.length : Int) := by omega
          have HCL := Lib.hid hcl
          clear hcl hE
          rcases Int.lt_or_le tick h with hlt | hge
          rotate_left
          · have hst := hs1 hge
            have HS := Lib.hid hst
            clear hs1 hs2 hst hce hg hga z hlpp
            go_wp2
            go_ret
            exact ⟨⟨ret_int HS.out.symm, by rw [HS.out]; omega, by rw [HS.out]; omega⟩, hb⟩
          · obtain ⟨q1, q2, q3⟩ := hs2 hlt
            clear hs1 hs2 hce hg hga z
            rw [hlpp] at q3
            have hdm := dir_mul (d := dir) (x := h - tick - 1) f1 (by omega)
            rw [Int.mul_comm] at hdm
            have hst4 : -2147483648 ≤ (h - tick - 1) * dir ∧ (h - tick - 1) * dir ≤ 2147483648 := by
              have : dir = -1 ∨ dir = 0 ∨ dir = 1 := by omega
              rcases this with rfl | rfl | rfl <;> omega
            have e1 : IntKind.i64.wrap (h - tick) = h - tick := wrap_in (by omega)
            have e2 : IntKind.i64.wrap (h - tick - 1) = h - tick - 1 := wrap_in (by omega)
            have e3 : IntKind.i64.wrap ((h - tick - 1) * dir) = (h - tick - 1) * dir := wrap_in (by omega)
            have e4 : IntKind.i64.wrap (pos - lp) = pos - lp := wrap_in (by omega)
            have e5 : IntKind.i64.wrap (lp - pos) = lp - pos := wrap_in (by omega)
            obtain ⟨st, hst⟩ : ∃ st, (h - tick - 1) * dir = st := ⟨_, rfl⟩
            rw [hst] at hst4 q1 q3
            have hq2 := decide_eq_true q2
            have Q2 := Lib.hid hq2
            have Q3 : Hid (0 < N (k + 1) → pos + st = W (N (k + 1))) := fun _ => q3
            have HS := Lib.hid hst
            by_cases hn : 0 < N k
            · rw [if_pos hn] at q1
              have hd : decide (0 < N k) = true := decide_eq_true hn
              have e6 : IntKind.i64.wrap (G k + (pos - lp)) = G k + (pos - lp) := wrap_in (by omega)
              have e7 : IntKind.i64.wrap (G k + (lp - pos)) = G k + (lp - pos) := wrap_in (by omega)
              have e8 : IntKind.i64.wrap (G k + max (pos - lp) (lp - pos)) = G k + max (pos - lp) (lp - pos) := wrap_in (by omega)
              have Q1 := Lib.hid q1
              have gb : 0 ≤ G (k + 1) ∧ G (k + 1) ≤ ((k + 1 : Nat) : Int) * 8589934592 := by omega
              have GB := Lib.hid gb
              clear hn q1 q2 q3 hq2 hst hdm hlp gb hlpp
              rw [hd]
              by_cases hm1 : pos - lp < lp - pos <;> by_cases hm2 : st < -st
              all_goals
                have hmx := HS.out
                go_wp2_with fail
                go_quiet (fail)
                clear e4 e5 e6 e7 e8
                go_wp2_with fail
                go_quiet (fail)
                clear e1 e2 e3 hmx
                go_wp2
                go_roundw
                case rel => exact ⟨k + 1, pos + st, by omega, by go_num, val_int (by have := Q1.out; omega), rfl, val_bool35 Q2.out.symm, Q3, GB.out, by omega, below_drewN hb _⟩
                case measure => simp [intOf]; omega
            · rw [if_neg hn] at q1
              have hd : decide (0 < N k) = false := decide_eq_false hn
              have Q1 := Lib.hid q1
              have gb : 0 ≤ G (k + 1) ∧ G (k + 1) ≤ ((k + 1 : Nat) : Int) * 8589934592 := by omega
              have GB := Lib.hid gb
              clear hn q1 q2 q3 hq2 hst hdm hlp gb hlpp
              rw [hd]
              by_cases hm2 : st < -st
              all_goals
                have hmx := HS.out
                go_wp2_with fail
                go_quiet (fail)
                clear e1 e2 e3 hmx
                go_wp2
                go_roundw
                case rel => exact ⟨k + 1, pos + st, by omega, by go_num, val_int (by have := Q1.out; omega), rfl, val_bool35 Q2.out.symm, Q3, GB.out, by omega, below_drewN hb _⟩
                case measure => simp [intOf]; omega
        · rw [hE] at hs1 hs2 hlpp
          obtain ⟨g2, hg2⟩ := at_some hcl
          have y0 := (hb.cell (p := ⟨b, off + (k + 1) * 4 + 0, none⟩) hbl).trans (hce (k + 1) g2 hg2 0 _ rfl)
          simp only [Nat.add_zero] at y0
          have hga2 := legAt_of hg2
          have hfl2 := HF.out.2.1 (k + 1) hcl
          rw [hga2] at hcm hfl2
          try rw [hga2] at hs1 hs2 hlpp
          obtain ⟨_, _, f7, f8⟩ := hfl2
          obtain ⟨tick2, pos2, dir2, door2⟩ := g2
          simp only at *
          have hcl3 : (k : Int) + 1 < (ls.length : Int) := by omega
          have hcl4 : ((k : Int) + 1).toNat = k + 1 := by omega
          clear hE hg2 hga2
          rcases Int.lt_or_le tick h with hlt | hge
          rotate_left
          · have hst := hs1 hge
            have HS := Lib.hid hst
            clear hs1 hs2 hst hce hg hga z hlpp
            go_wp2
            go_ret
            exact ⟨⟨ret_int HS.out.symm, by rw [HS.out]; omega, by rw [HS.out]; omega⟩, hb⟩
          · obtain ⟨q1, q2, q3⟩ := hs2 hlt
            clear hs1 hs2 hce hg hga z
            rw [hlpp] at q3
            have hdm := dir_mul (d := dir) (x := h - tick - 1) f1 (by omega)
            rw [Int.mul_comm] at hdm
            have hst4 : -2147483648 ≤ (h - tick - 1) * dir ∧ (h - tick - 1) * dir ≤ 2147483648 := by
              have : dir = -1 ∨ dir = 0 ∨ dir = 1 := by omega
              rcases this with rfl | rfl | rfl <;> omega
            have e1 : IntKind.i64.wrap (h - tick) = h - tick := wrap_in (by omega)
            have e2 : IntKind.i64.wrap (h - tick - 1) = h - tick - 1 := wrap_in (by omega)
            have e3 : IntKind.i64.wrap ((h - tick - 1) * dir) = (h - tick - 1) * dir := wrap_in (by omega)
            have e4 : IntKind.i64.wrap (pos - lp) = pos - lp := wrap_in (by omega)
            have e5 : IntKind.i64.wrap (lp - pos) = lp - pos := wrap_in (by omega)
            obtain ⟨st, hst⟩ : ∃ st, (h - tick - 1) * dir = st := ⟨_, rfl⟩
            rw [hst] at hst4 q1 q3
            have hq2 := decide_eq_true q2
            have Q2 := Lib.hid hq2
            have Q3 : Hid (0 < N (k + 1) → pos + st = W (N (k + 1))) := fun _ => q3
            have HS := Lib.hid hst
            by_cases hn : 0 < N k
            · rw [if_pos hn] at q1
              have hd : decide (0 < N k) = true := decide_eq_true hn
              have e6 : IntKind.i64.wrap (G k + (pos - lp)) = G k + (pos - lp) := wrap_in (by omega)
              have e7 : IntKind.i64.wrap (G k + (lp - pos)) = G k + (lp - pos) := wrap_in (by omega)
              have e8 : IntKind.i64.wrap (G k + max (pos - lp) (lp - pos)) = G k + max (pos - lp) (lp - pos) := wrap_in (by omega)
              have Q1 := Lib.hid q1
              have gb : 0 ≤ G (k + 1) ∧ G (k + 1) ≤ ((k + 1 : Nat) : Int) * 8589934592 := by omega
              have GB := Lib.hid gb
              clear hn q1 q2 q3 hq2 hst hdm hlp gb hlpp
              rw [hd]
              by_cases hm1 : pos - lp < lp - pos <;> by_cases hm2 : st < -st
              all_goals
                have hmx := HS.out
                go_wp2_with fail
                go_quiet (fail)
                clear e4 e5 e6 e7 e8
                go_wp2_with fail
                go_quiet (fail)
                clear e1 e2 e3 hmx
                go_wp2
                go_roundw
                case rel => exact ⟨k + 1, pos + st, by omega, by go_num, val_int (by have := Q1.out; omega), rfl, val_bool35 Q2.out.symm, Q3, GB.out, by omega, below_drewN hb _⟩
                case measure => simp [intOf]; omega
            · rw [if_neg hn] at q1
              have hd : decide (0 < N k) = false := decide_eq_false hn
              have Q1 := Lib.hid q1
              have gb : 0 ≤ G (k + 1) ∧ G (k + 1) ≤ ((k + 1 : Nat) : Int) * 8589934592 := by omega
              have GB := Lib.hid gb
              clear hn q1 q2 q3 hq2 hst hdm hlp gb hlpp
              rw [hd]
              by_cases hm2 : st < -st
              all_goals
                have hmx := HS.out
                go_wp2_with fail
                go_quiet (fail)
                clear e1 e2 e3 hmx
                go_wp2
                go_roundw
                case rel => exact ⟨k + 1, pos + st, by omega, by go_num, val_int (by have := Q1.out; omega), rfl, val_bool35 Q2.out.symm, Q3, GB.out, by omega, below_drewN hb _⟩
                case measure => simp [intOf]; omega
        · rw [hE] at hs1 hs2 hlpp
          obtain ⟨g2, hg2⟩ := at_some hcl
          have y0 := (hb.cell (p := ⟨b, off + (k + 1) * 4 + 0, none⟩) hbl).trans (hce (k + 1) g2 hg2 0 _ rfl)
          simp only [Nat.add_zero] at y0
          have hga2 := legAt_of hg2
          have hfl2 := HF.out.2.1 (k + 1) hcl
          rw [hga2] at hcm hfl2
          try rw [hga2] at hs1 hs2 hlpp
          obtain ⟨_, _, f7, f8⟩ := hfl2
          obtain ⟨tick2, pos2, dir2, door2⟩ := g2
          simp only at *
          have hcl3 : (k : Int) + 1 < (ls.length : Int) := by omega
          have hcl4 : ((k : Int) + 1).toNat = k + 1 := by omega
          clear hE hg2 hga2
          rcases Int.lt_or_le tick tick2 with hlt | hge
          rotate_left
          · have hst := hs1 hge
            have HS := Lib.hid hst
            clear hs1 hs2 hst hce hg hga z hlpp
            go_wp2
            go_ret
            exact ⟨⟨ret_int HS.out.symm, by rw [HS.out]; omega, by rw [HS.out]; omega⟩, hb⟩
          · obtain ⟨q1, q2, q3⟩ := hs2 hlt
            clear hs1 hs2 hce hg hga z
            rw [hlpp] at q3
            have hdm := dir_mul (d := dir) (x := tick2 - tick - 1) f1 (by omega)
            rw [Int.mul_comm] at hdm
            have hst4 : -2147483648 ≤ (tick2 - tick - 1) * dir ∧ (tick2 - tick - 1) * dir ≤ 2147483648 := by
              have : dir = -1 ∨ dir = 0 ∨ dir = 1 := by omega
              rcases this with rfl | rfl | rfl <;> omega
            have e1 : IntKind.i64.wrap (tick2 - tick) = tick2 - tick := wrap_in (by omega)
            have e2 : IntKind.i64.wrap (tick2 - tick - 1) = tick2 - tick - 1 := wrap_in (by omega)
            have e3 : IntKind.i64.wrap ((tick2 - tick - 1) * dir) = (tick2 - tick - 1) * dir := wrap_in (by omega)
            have e4 : IntKind.i64.wrap (pos - lp) = pos - lp := wrap_in (by omega)
            have e5 : IntKind.i64.wrap (lp - pos) = lp - pos := wrap_in (by omega)
            obtain ⟨st, hst⟩ : ∃ st, (tick2 - tick - 1) * dir = st := ⟨_, rfl⟩
            rw [hst] at hst4 q1 q3
            have hq2 := decide_eq_true q2
            have Q2 := Lib.hid hq2
            have Q3 : Hid (0 < N (k + 1) → pos + st = W (N (k + 1))) := fun _ => q3
            have HS := Lib.hid hst
            by_cases hn : 0 < N k
            · rw [if_pos hn] at q1
              have hd : decide (0 < N k) = true := decide_eq_true hn
              have e6 : IntKind.i64.wrap (G k + (pos - lp)) = G k + (pos - lp) := wrap_in (by omega)
              have e7 : IntKind.i64.wrap (G k + (lp - pos)) = G k + (lp - pos) := wrap_in (by omega)
              have e8 : IntKind.i64.wrap (G k + max (pos - lp) (lp - pos)) = G k + max (pos - lp) (lp - pos) := wrap_in (by omega)
              have Q1 := Lib.hid q1
              have gb : 0 ≤ G (k + 1) ∧ G (k + 1) ≤ ((k + 1 : Nat) : Int) * 8589934592 := by omega
              have GB := Lib.hid gb
              clear hn q1 q2 q3 hq2 hst hdm hlp gb hlpp
              rw [hd]
              by_cases hm1 : pos - lp < lp - pos <;> by_cases hm2 : st < -st
              all_goals
                have hmx := HS.out
                go_wp2_with fail
                go_quiet (fail)
                clear e4 e5 e6 e7 e8
                go_wp2_with fail
                go_quiet (fail)
                clear e1 e2 e3 hmx
                go_wp2
                go_roundw
                case rel => exact ⟨k + 1, pos + st, by omega, by go_num, val_int (by have := Q1.out; omega), rfl, val_bool35 Q2.out.symm, Q3, GB.out, by omega, below_drewN hb _⟩
                case measure => simp [intOf]; omega
            · rw [if_neg hn] at q1
              have hd : decide (0 < N k) = false := decide_eq_false hn
              have Q1 := Lib.hid q1
              have gb : 0 ≤ G (k + 1) ∧ G (k + 1) ≤ ((k + 1 : Nat) : Int) * 8589934592 := by omega
              have GB := Lib.hid gb
              clear hn q1 q2 q3 hq2 hst hdm hlp gb hlpp
              rw [hd]
              by_cases hm2 : st < -st
              all_goals
                have hmx := HS.out
                go_wp2_with fail
                go_quiet (fail)
                clear e1 e2 e3 hmx
                go_wp2
                go_roundw
                case rel => exact ⟨k + 1, pos + st, by omega, by go_num, val_int (by have := Q1.out; omega), rfl, val_bool35 Q2.out.symm, Q3, GB.out, by omega, below_drewN hb _⟩
                case measure => simp [intOf]; omega
end Go.Proofs.Ytnegolclofgboaa

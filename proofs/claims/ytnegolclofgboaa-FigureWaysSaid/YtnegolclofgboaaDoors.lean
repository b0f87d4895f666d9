
/-
  When doors are open, leg by leg: track.Doors. Condition: the legs are within bounds.
-/
import Derived.Test.YtnegolclofgboaaDoorsQ
import Derived.Test.YtnegolclofgboaaGreat35
import Derived.Test.YtnegolclofgboaaOwnS
import Derived.Test.YtnegolclofgboaaSeq
set_option linter.unusedVariables false
set_option linter.unusedSimpArgs false
namespace Go.Proofs.Ytnegolclofgboaa
open Go.Joins Go.ChangeShapes Go.WideShapes Go.ChangeAt Go.RowKit Go.Deep

theorem info_spn : (Try.prog.info? 49).map (fun i => (i.zero, i.size, i.bytes)) = some (some (.agg #[.int .i64 0, .int .i64 0]), 2, 16) := by kernel_rfl
theorem flat_set (l : List Spn) (i : Nat) (s : Spn) (e : Int) (h : l[i]? = some s) : (l.set i ⟨s.lo, e⟩).flatMap Spn.cells = (l.flatMap Spn.cells).set (i * 2 + 1) (.int .i64 e) := by
  induction l generalizing i with
  | nil => simp at h
  | cons a l ih =>
    cases i with
    | zero => simp at h; subst h; simp [List.flatMap_cons]
    | succ i =>
      simp at h
      rw [List.set_cons_succ, List.flatMap_cons, List.flatMap_cons, ih i h, show (i + 1) * 2 + 1 = (i * 2 + 1) + 1 + 1 by omega]
      rfl
theorem flat_setHi (p : List Spn) (s : Spn) (e : Int) : (setHi (p ++ [s]) e).flatMap Spn.cells = ((p ++ [s]).flatMap Spn.cells).set (p.length * 2 + 1) (.int .i64 e) := by
  rw [setHi_snoc, ← flat_set (p ++ [s]) p.length s e (by simp)]
  simp
theorem flat_last (p : List Spn) (s : Spn) : ((p ++ [s]).flatMap Spn.cells)[p.length * 2 + 1]? = some (.int .i64 s.hi) := flat_get spn_len (i := p.length) (a := s) (by simp) (j := 1) rfl
theorem own_form {w : World} {base size n : Nat} {e : TypeId} {v : Value} {xs : List Value} (h : w.ownsRow base e size v n xs) : ∃ A C, v = .slice A n C := by
  rcases h.2 with ⟨rfl, hz⟩ | ⟨g, cap, cur, rfl, _⟩
  · exact ⟨none, 0, by rw [hz]⟩
  · exact ⟨_, _, rfl⟩
/-- When its door is open. -/
def doorsOf (ls : List Leg) (h : Int) : List Spn := doorsN (wayD ls) (legAt ls 0).tick (if ls.length = 0 then 0 else (h - (legAt ls 0).tick).toNat)
theorem doorsOf_dL {ls : List Leg} {h : Int} (hl : 0 < ls.length) : dL ls h ls.length = doorsOf ls h := by
  rw [dL_all]; unfold doorsOf; rw [if_neg (by omega)]
set_option maxRecDepth 20000 in
set_option maxHeartbeats 8000000 in
theorem track_Doors (A : Option Addr) (C : Nat) (ls : List Leg) (h : Int) (w : World) (hx : Legs w A ls) (hf : fineLs ls) (hh : -1 ≤ h ∧ h ≤ 1073741824) :
    Calls Try.prog 38 #[.slice A ls.length C, .int .i64 h] w (RetElems 2 Spn.cells (doorsOf ls h) w) := by
  rcases Nat.eq_zero_or_pos ls.length with h0 | h0
  · have e : doorsOf ls h = [] := by unfold doorsOf; rw [if_pos h0]; rfl
    rw [e, h0]
    go_enter Try.func38, Try.ntmps38
    go_wp2
    go_loopw [11, 5] (fun i v wr => i = .int .i64 0 ∧ v = .slice none 0 0 ∧ wr = w) (fun i _ _ => 0)
    case atStart => exact ⟨rfl, rfl, rfl⟩
    case round =>
      obtain ⟨rfl, rfl, rfl⟩ := hrel
      go_wp2
      go_ret
      exact ⟨none, 0, rfl, fun hp => by simp at hp, Below.refl _ _⟩
  · obtain ⟨i0, hi, hz0, hz1, hz2⟩ := info_parts info_spn
    rw [← doorsOf_dL h0]
    have hsk := fun i (hi : i < ls.length) he => dL_skip hf (h := h) hi he
    have hop := fun i (hi : i < ls.length) hd hlt => dL_open hf (h := h) hi hd hlt
    have hz := dL_zero (h := h) h0
    have hln : ∀ i, i ≤ ls.length → (dL ls h i).length ≤ 4294967296 := fun i hi => by
      have h1 := (doors_bd (D := wayD ls) (t0 := (legAt ls 0).tick) (cntL ls h i)).1
      have h2 : cntL ls h i ≤ 4294967296 := by
        obtain ⟨_, _, h3, h4⟩ := hf.2.1 0 h0
        unfold cntL
        split
        · rename_i hi2
          obtain ⟨_, _, h5, h6⟩ := hf.2.1 i hi2
          omega
        · omega
      unfold dL
      omega
    have HX := Lib.hid hx
    have HF := Lib.hid hf
    have HSK := Lib.hid hsk
    have HOP := Lib.hid hop
    have HZ := Lib.hid hz
    have HLN := Lib.hid hln
    have hl := hf.1
    clear hx hf hsk hop hz hln
    generalize dL ls h = G at *
    go_enter Try.func38, Try.ntmps38
    go_wp2
    go_loopw [11, 5] (fun i v wr => ∃ k : Nat, k ≤ ls.length ∧ i = .int .i64 k ∧ Hid (wr.ownsRow w.heap.size 49 2 v (G k).length ((G k).flatMap Spn.cells)) ∧ Below w.heap.size w wr) (fun i _ _ => ls.length - (intOf i).toNat)
    case atStart => exact ⟨0, by omega, rfl, by rw [HZ.out]; exact World.ownsRow_nil _ _ _ _, Below.refl _ _⟩
    case round =>
      obtain ⟨k, hk, rfl, hown, hb⟩ := hrel
      by_cases hkl : k < ls.length
      rotate_left
      · obtain rfl : k = ls.length := by omega
        obtain ⟨A', C', rfl, hel⟩ := owns_elems spn_len hown.out
        have HE := Lib.hid hel
        clear hown hel
        go_wp2
        go_ret
        exact ⟨A', C', rfl, HE.out, hb⟩
      · obtain ⟨b, off, rfl, hbl, hce⟩ := HX.out (by omega)
        obtain ⟨g, hg⟩ := at_some hkl
        have z := fun j u h => (hb.cell (p := ⟨b, off + k * 4 + j, none⟩) hbl).trans (hce k g hg j u h)
        have z0 := z 0 _ rfl
        have z3 := z 3 _ rfl
        simp only [Nat.add_zero] at z0
        have hga := legAt_of hg
        have hfl := HF.out.2.1 k hkl
        have hs1 := HSK.out k hkl
        have hs2 := HOP.out k hkl
        have hl1 := HLN.out k hk
        rw [hga] at hfl hs1 hs2
        obtain ⟨_, _, f4, f5⟩ := hfl
        obtain ⟨tick, pos, dir, door⟩ := g
        simp only at *
        have i0k : (0 : Int) ≤ (k : Int) := by omega
        have i1k : (k : Int) < (ls.length : Int) := by omega
        have hzb : b < wr.heap.size := by have := hb.size; omega
        have hcs : (ls.length = k + 1 ∧ endL ls h k = h) ∨ (k + 1 < ls.length ∧ h ≤ (legAt ls (k + 1)).tick ∧ endL ls h k = h) ∨ (k + 1 < ls.length ∧ (legAt ls (k + 1)).tick < h ∧ endL ls h k = (legAt ls (k + 1)).tick) := by
          unfold endL
          by_cases h1 : k + 1 < ls.length
          · rw [if_pos h1]; omega
          · rw [if_neg h1]; omega
        rcases hcs with ⟨hcl, hE⟩ | ⟨hcl, hcm, hE⟩ | ⟨hcl, hcm, hE⟩
        · rw [hE] at hs1 hs2
          have hcl2 : ¬ k + 1 < ls.length := by omega
          have hcl3 : ¬ (k : Int) + 1 < (ls.length : Int) := by omega
          have HCL := Lib.hid hcl
          clear hcl hE
          cases door
          · have hst := hs1 (.inl rfl)
            have HST := Lib.hid hst
            clear hs1 hs2 hst hce hg hga z
            go_wp2
            go_roundw
            case rel => exact ⟨k + 1, by omega, by go_num, by rw [HST.out]; exact hown, hb⟩
            case measure => simp [intOf]; omega
          · rcases Int.lt_or_le tick h with hlt | hge
            rotate_left
            · have hst := hs1 (.inr hge)
              have HST := Lib.hid hst
              have hnlt : ¬ tick < h := by omega
              clear hs1 hs2 hst hce hg hga z
              go_wp2
              go_roundw
              case rel => exact ⟨k + 1, by omega, by go_num, by rw [HST.out]; exact hown, hb⟩
              case measure => simp [intOf]; omega
            · obtain ⟨q1, q2⟩ := hs2 rfl hlt
              clear hs1 hs2 hce hg hga z
              obtain ⟨AA, cap, rfl⟩ := own_form hown.out
              by_cases hn : G k = []
              · have hst := q2 (fun s hs => by rw [hn] at hs; cases hs)
                rw [hn] at hown hst
                have HST := Lib.hid hst
                have HG := Lib.hid hn
                rw [hn]
                clear q1 q2 hst hn hl1
                go_wp2_with fail
                go_quiet (fail)
                go_wp2_with (at_builtin; refine wpList_append_own _ rfl _ _ 46 rfl w.heap.size 49 i0 _ 2 16 Try.underlying46 hi hz0 hz1 hz2 rfl (by decide) _ _ _ rfl ((ownsRow_below hown.out (below_drewN (Below.refl _ _) _)).alloc _) _ 1 1 [.int .i64 tick, .int .i64 h] rfl rfl ?c1 ?c2 ?c3 ?c4 ?c5 ?_)
                case c1 => exact cells_at (by simp) _ _
                case c2 => intro u hu; simp at hu; rcases hu with rfl | rfl <;> rfl
                case c3 => unfold maxLen; first | omega | (simp; done)
                case c4 => first | omega | (simp; done)
                case c5 => have := hb.size; simp; omega
                intro v' w4 hown' hgrow _
                have hb4 : Below w.heap.size w w4 := ((below_drewN hb nq).alloc (by have := hb.size; simp; omega) _).grown hgrow (by have := hb.size; simp; omega) (fun k hk => (hown.out.lt k hk).1)
                have ho4 : Hid (w4.ownsRow w.heap.size 49 2 v' (G (k + 1)).length ((G (k + 1)).flatMap Spn.cells)) := by
                  rw [HST.out, List.flatMap_append, List.length_append]
                  exact hown'
                clear hgrow hown'
                go_wp2
                go_roundw
                case rel => exact ⟨k + 1, by omega, by go_num, ho4, hb4⟩
                case measure => simp [intOf]; omega
              · obtain ⟨p, s, hp⟩ := snoc_of _ hn
                have hfl2 := flat_last p s
                have hfs := flat_setHi p s h
                have hsl := setHi_len (p ++ [s]) h
                have hlp : (p ++ [s]).length = p.length + 1 := by simp
                rw [hp] at q1 q2 hown hl1
                rw [hp]
                have q1 := q1 s (lastS_snoc _ _)
                have q2 := fun hne => q2 (fun s' hs' => by rw [lastS_snoc] at hs'; injection hs' with hs'; rw [← hs']; exact hne)
                clear hn hp
                generalize setHi (p ++ [s]) h = PS at *
                generalize p ++ [s] = L at *
                have hown1 := hown.out
                obtain ⟨gg, rfl⟩ : ∃ gg, AA = some ⟨gg, 0, none⟩ := by
                  rcases hown1.2 with ⟨hv, hz⟩ | ⟨g, cap', cur, hv, _⟩
                  · omega
                  · injection hv with hv; exact ⟨g, hv⟩
                obtain ⟨m, hm⟩ : ∃ m, p.length = m := ⟨_, rfl⟩
                rw [hm] at hlp hfl2 hfs
                have hcl1 := hown1.cellAt (m * 2 + 1) (by omega)
                have hfr := hown1.frozenAt (m * 2 + 1)
                rw [hfl2] at hcl1
                have hgl := (hown1.lt gg rfl).2
                have hgb := (hown1.lt gg rfl).1
                have hstd := fun (w' : World) (ho : w'.ownsRow w.heap.size 49 2 (.slice (some ⟨gg, 0, none⟩) L.length cap) L.length (L.flatMap Spn.cells)) => (ho.stored (m * 2 + 1) (.int .i64 h)).1
                rw [← hfs] at hstd
                have e0 : decide ((0 : Int) < (L.length : Int)) = true := decide_eq_true (by omega)
                have e1 : IntKind.i64.wrap ((L.length : Int) - 1) = (m : Int) := by rw [show (L.length : Int) - 1 = (m : Int) by omega]; exact IntWalk.i64_in _ (by omega)
                have e1b : (L.length : Int) - 1 = (m : Int) := by omega
                have e2 : (0 : Int) ≤ (m : Int) := by omega
                have e3 : (m : Int) < (L.length : Int) := by omega
                have e4 : 0 < L.length := by omega
                obtain ⟨slo, shi⟩ := s
                simp only at q1 q2 hcl1
                have HST := Lib.hid hstd
                have HLP := Lib.hid hlp
                have HSL := Lib.hid hsl
                clear hfl2 hfs hsl hlp hm hown1 hstd
                by_cases heq : shi = tick
                · have hst := q1 heq
                  have HS := Lib.hid hst
                  have e5 : (shi == tick) = true := by simpa using heq
                  have E1B := Lib.hid e1b
                  clear q1 q2 hst heq e1b
                  go_wp2_with fail
                  go_quiet (fail)
                  clear e5
                  go_wp2
                  go_roundw
                  case rel => exact ⟨k + 1, by omega, by go_num, by rw [HS.out, HSL.out]; exact HST.out _ (ownsRow_below hown.out (below_drewN (Below.refl _ _) _)), (below_drewN hb _).setCell hgb _⟩
                  case measure => simp [intOf]; omega
                · have hst := q2 heq
                  have HS := Lib.hid hst
                  have e5 : (shi == tick) = false := by simpa using heq
                  have E1B := Lib.hid e1b
                  clear q1 q2 hst heq e1b
                  go_wp2_with fail
                  go_quiet (fail)
                  clear e5 e1 hcl1
                  go_wp2_with (at_builtin; refine wpList_append_own _ rfl _ _ 46 rfl w.heap.size 49 i0 _ 2 16 Try.underlying46 hi hz0 hz1 hz2 rfl (by decide) _ _ _ rfl ((ownsRow_below hown.out (below_drewN (Below.refl _ _) _)).alloc _) _ 1 1 [.int .i64 tick, .int .i64 h] rfl rfl ?c1 ?c2 ?c3 ?c4 ?c5 ?_)
                  case c1 => exact cells_at (by simp) _ _
                  case c2 => intro u hu; simp at hu; rcases hu with rfl | rfl <;> rfl
                  case c3 => unfold maxLen; first | omega | (simp; done)
                  case c4 => first | omega | (simp; done)
                  case c5 => have := hb.size; simp; omega
                  intro v' w4 hown' hgrow _
                  have hb4 : Below w.heap.size w w4 := ((below_drewN hb nq).alloc (by have := hb.size; simp; omega) _).grown hgrow (by have := hb.size; simp; omega) (fun k hk => (hown.out.lt k hk).1)
                  have ho4 : Hid (w4.ownsRow w.heap.size 49 2 v' (G (k + 1)).length ((G (k + 1)).flatMap Spn.cells)) := by
                    rw [HS.out, List.flatMap_append, List.length_append]
                    exact hown'
                  clear hgrow hown'
                  go_wp2
                  go_roundw
                  case rel => exact ⟨k + 1, by omega, by go_num, ho4, hb4⟩
                  case measure => simp [intOf]; omega
        · rw [hE] at hs1 hs2
          obtain ⟨g2, hg2⟩ := at_some hcl
          have y0 := (hb.cell (p := ⟨b, off + (k + 1) * 4 + 0, none⟩) hbl).trans (hce (k + 1) g2 hg2 0 _ rfl)
          simp only [Nat.add_zero] at y0
          have hga2 := legAt_of hg2
          have hfl2 := HF.out.2.1 (k + 1) hcl
          rw [hga2] at hcm hfl2
          try rw [hga2] at hs1 hs2
          obtain ⟨_, _, f7, f8⟩ := hfl2
          obtain ⟨tick2, pos2, dir2, door2⟩ := g2
          simp only at *
          have hcl3 : (k : Int) + 1 < (ls.length : Int) := by omega
          have hcl4 : ((k : Int) + 1).toNat = k + 1 := by omega
          clear hE hg2 hga2
          cases door
          · have hst := hs1 (.inl rfl)
            have HST := Lib.hid hst
            clear hs1 hs2 hst hce hg hga z
            go_wp2
            go_roundw
            case rel => exact ⟨k + 1, by omega, by go_num, by rw [HST.out]; exact hown, hb⟩
            case measure => simp [intOf]; omega
          · rcases Int.lt_or_le tick h with hlt | hge
            rotate_left
            · have hst := hs1 (.inr hge)
              have HST := Lib.hid hst
              have hnlt : ¬ tick < h := by omega
              clear hs1 hs2 hst hce hg hga z
              go_wp2
              go_roundw
              case rel => exact ⟨k + 1, by omega, by go_num, by rw [HST.out]; exact hown, hb⟩
              case measure => simp [intOf]; omega
            · obtain ⟨q1, q2⟩ := hs2 rfl hlt
              clear hs1 hs2 hce hg hga z
              obtain ⟨AA, cap, rfl⟩ := own_form hown.out
              by_cases hn : G k = []
              · have hst := q2 (fun s hs => by rw [hn] at hs; cases hs)
                rw [hn] at hown hst
                have HST := Lib.hid hst
                have HG := Lib.hid hn
                rw [hn]
                clear q1 q2 hst hn hl1
                go_wp2_with fail
                go_quiet (fail)
                go_wp2_with (at_builtin; refine wpList_append_own _ rfl _ _ 46 rfl w.heap.size 49 i0 _ 2 16 Try.underlying46 hi hz0 hz1 hz2 rfl (by decide) _ _ _ rfl ((ownsRow_below hown.out (below_drewN (Below.refl _ _) _)).alloc _) _ 1 1 [.int .i64 tick, .int .i64 h] rfl rfl ?c1 ?c2 ?c3 ?c4 ?c5 ?_)
                case c1 => exact cells_at (by simp) _ _
                case c2 => intro u hu; simp at hu; rcases hu with rfl | rfl <;> rfl
                case c3 => unfold maxLen; first | omega | (simp; done)
                case c4 => first | omega | (simp; done)
                case c5 => have := hb.size; simp; omega
                intro v' w4 hown' hgrow _
                have hb4 : Below w.heap.size w w4 := ((below_drewN hb nq).alloc (by have := hb.size; simp; omega) _).grown hgrow (by have := hb.size; simp; omega) (fun k hk => (hown.out.lt k hk).1)
                have ho4 : Hid (w4.ownsRow w.heap.size 49 2 v' (G (k + 1)).length ((G (k + 1)).flatMap Spn.cells)) := by
                  rw [HST.out, List.flatMap_append, List.length_append]
                  exact hown'
                clear hgrow hown'
                go_wp2
                go_roundw
                case rel => exact ⟨k + 1, by omega, by go_num, ho4, hb4⟩
                case measure => simp [intOf]; omega
              · obtain ⟨p, s, hp⟩ := snoc_of _ hn
                have hfl2 := flat_last p s
                have hfs := flat_setHi p s h
                have hsl := setHi_len (p ++ [s]) h
                have hlp : (p ++ [s]).length = p.length + 1 := by simp
                rw [hp] at q1 q2 hown hl1
                rw [hp]
                have q1 := q1 s (lastS_snoc _ _)
                have q2 := fun hne => q2 (fun s' hs' => by rw [lastS_snoc] at hs'; injection hs' with hs'; rw [← hs']; exact hne)
                clear hn hp
                generalize setHi (p ++ [s]) h = PS at *
                generalize p ++ [s] = L at *
                have hown1 := hown.out
                obtain ⟨gg, rfl⟩ : ∃ gg, AA = some ⟨gg, 0, none⟩ := by
                  rcases hown1.2 with ⟨hv, hz⟩ | ⟨g, cap', cur, hv, _⟩
                  · omega
                  · injection hv with hv; exact ⟨g, hv⟩
                obtain ⟨m, hm⟩ : ∃ m, p.length = m := ⟨_, rfl⟩
                rw [hm] at hlp hfl2 hfs
                have hcl1 := hown1.cellAt (m * 2 + 1) (by omega)
                have hfr := hown1.frozenAt (m * 2 + 1)
                rw [hfl2] at hcl1
                have hgl := (hown1.lt gg rfl).2
                have hgb := (hown1.lt gg rfl).1
                have hstd := fun (w' : World) (ho : w'.ownsRow w.heap.size 49 2 (.slice (some ⟨gg, 0, none⟩) L.length cap) L.length (L.flatMap Spn.cells)) => (ho.stored (m * 2 + 1) (.int .i64 h)).1
                rw [← hfs] at hstd
                have e0 : decide ((0 : Int) < (L.length : Int)) = true := decide_eq_true (by omega)
                have e1 : IntKind.i64.wrap ((L.length : Int) - 1) = (m : Int) := by rw [show (L.length : Int) - 1 = (m : Int) by omega]; exact IntWalk.i64_in _ (by omega)
                have e1b : (L.length : Int) - 1 = (m : Int) := by omega
                have e2 : (0 : Int) ≤ (m : Int) := by omega
                have e3 : (m : Int) < (L.length : Int) := by omega
                have e4 : 0 < L.length := by omega
                obtain ⟨slo, shi⟩ := s
                simp only at q1 q2 hcl1
                have HST := Lib.hid hstd
                have HLP := Lib.hid hlp
                have HSL := Lib.hid hsl
                clear hfl2 hfs hsl hlp hm hown1 hstd
                by_cases heq : shi = tick
                · have hst := q1 heq
                  have HS := Lib.hid hst
                  have e5 : (shi == tick) = true := by simpa using heq
                  have E1B := Lib.hid e1b
                  clear q1 q2 hst heq e1b
                  go_wp2_with fail
                  go_quiet (fail)
                  clear e5
                  go_wp2
                  go_roundw
                  case rel => exact ⟨k + 1, by omega, by go_num, by rw [HS.out, HSL.out]; exact HST.out _ (ownsRow_below hown.out (below_drewN (Below.refl _ _) _)), (below_drewN hb _).setCell hgb _⟩
                  case measure => simp [intOf]; omega
                · have hst := q2 heq
                  have HS := Lib.hid hst
                  have e5 : (shi == tick) = false := by simpa using heq
                  have E1B := Lib.hid e1b
                  clear q1 q2 hst heq e1b
                  go_wp2_with fail
                  go_quiet (fail)
                  clear e5 e1 hcl1
                  go_wp2_with (at_builtin; refine wpList_append_own _ rfl _ _ 46 rfl w.heap.size 49 i0 _ 2 16 Try.underlying46 hi hz0 hz1 hz2 rfl (by decide) _ _ _ rfl ((ownsRow_below hown.out (below_drewN (Below.refl _ _) _)).alloc _) _ 1 1 [.int .i64 tick, .int .i64 h] rfl rfl ?c1 ?c2 ?c3 ?c4 ?c5 ?_)
                  case c1 => exact cells_at (by simp) _ _
                  case c2 => intro u hu; simp at hu; rcases hu with rfl | rfl <;> rfl
                  case c3 => unfold maxLen; first | omega | (simp; done)
                  case c4 => first | omega | (simp; done)
                  case c5 => have := hb.size; simp; omega
                  intro v' w4 hown' hgrow _
                  have hb4 : Below w.heap.size w w4 := ((below_drewN hb nq).alloc (by have := hb.size; simp; omega) _).grown hgrow (by have := hb.size; simp; omega) (fun k hk => (hown.out.lt k hk).1)
                  have ho4 : Hid (w4.ownsRow w.heap.size 49 2 v' (G (k + 1)).length ((G (k + 1)).flatMap Spn.cells)) := by
                    rw [HS.out, List.flatMap_append, List.length_append]
                    exact hown'
                  clear hgrow hown'
                  go_wp2
                  go_roundw
                  case rel => exact ⟨k + 1, by omega, by go_num, ho4, hb4⟩
                  case measure => simp [intOf]; omega
        · rw [hE] at hs1 hs2
          obtain ⟨g2, hg2⟩ := at_some hcl
          have y0 := (hb.cell (p := ⟨b, off + (k + 1) * 4 + 0, none⟩) hbl).trans (hce (k + 1) g2 hg2 0 _ rfl)
          simp only [Nat.add_zero] at y0
          have hga2 := legAt_of hg2
          have hfl2 := HF.out.2.1 (k + 1) hcl
          rw [hga2] at hcm hfl2
          try rw [hga2] at hs1 hs2
          obtain ⟨_, _, f7, f8⟩ := hfl2
          obtain ⟨tick2, pos2, dir2, door2⟩ := g2
          simp only at *
          have hcl3 : (k : Int) + 1 < (ls.length : Int) := by omega
          have hcl4 : ((k : Int) + 1).toNat = k + 1 := by omega
          clear hE hg2 hga2
          cases door
          · have hst := hs1 (.inl rfl)
            have HST := Lib.hid hst
            clear hs1 hs2 hst hce hg hga z
            go_wp2
            go_roundw
            case rel => exact ⟨k + 1, by omega, by go_num, by rw [HST.out]; exact hown, hb⟩
            case measure => simp [intOf]; omega
          · rcases Int.lt_or_le tick tick2 with hlt | hge
            rotate_left
            · have hst := hs1 (.inr hge)
              have HST := Lib.hid hst
              have hnlt : ¬ tick < tick2 := by omega
              clear hs1 hs2 hst hce hg hga z
              go_wp2
              go_roundw
              case rel => exact ⟨k + 1, by omega, by go_num, by rw [HST.out]; exact hown, hb⟩
              case measure => simp [intOf]; omega
            · obtain ⟨q1, q2⟩ := hs2 rfl hlt
              clear hs1 hs2 hce hg hga z
              obtain ⟨AA, cap, rfl⟩ := own_form hown.out
              by_cases hn : G k = []
              · have hst := q2 (fun s hs => by rw [hn] at hs; cases hs)
                rw [hn] at hown hst
                have HST := Lib.hid hst
                have HG := Lib.hid hn
                rw [hn]
                clear q1 q2 hst hn hl1
                go_wp2_with fail
                go_quiet (fail)
                go_wp2_with (at_builtin; refine wpList_append_own _ rfl _ _ 46 rfl w.heap.size 49 i0 _ 2 16 Try.underlying46 hi hz0 hz1 hz2 rfl (by decide) _ _ _ rfl ((ownsRow_below hown.out (below_drewN (Below.refl _ _) _)).alloc _) _ 1 1 [.int .i64 tick, .int .i64 tick2] rfl rfl ?c1 ?c2 ?c3 ?c4 ?c5 ?_)
                case c1 => exact cells_at (by simp) _ _
                case c2 => intro u hu; simp at hu; rcases hu with rfl | rfl <;> rfl
                case c3 => unfold maxLen; first | omega | (simp; done)
                case c4 => first | omega | (simp; done)
                case c5 => have := hb.size; simp; omega
                intro v' w4 hown' hgrow _
                have hb4 : Below w.heap.size w w4 := ((below_drewN hb nq).alloc (by have := hb.size; simp; omega) _).grown hgrow (by have := hb.size; simp; omega) (fun k hk => (hown.out.lt k hk).1)
                have ho4 : Hid (w4.ownsRow w.heap.size 49 2 v' (G (k + 1)).length ((G (k + 1)).flatMap Spn.cells)) := by
                  rw [HST.out, List.flatMap_append, List.length_append]
                  exact hown'
                clear hgrow hown'
                go_wp2
                go_roundw
                case rel => exact ⟨k + 1, by omega, by go_num, ho4, hb4⟩
                case measure => simp [intOf]; omega
              · obtain ⟨p, s, hp⟩ := snoc_of _ hn
                have hfl2 := flat_last p s
                have hfs := flat_setHi p s tick2
                have hsl := setHi_len (p ++ [s]) tick2
                have hlp : (p ++ [s]).length = p.length + 1 := by simp
                rw [hp] at q1 q2 hown hl1
                rw [hp]
                have q1 := q1 s (lastS_snoc _ _)
                have q2 := fun hne => q2 (fun s' hs' => by rw [lastS_snoc] at hs'; injection hs' with hs'; rw [← hs']; exact hne)
                clear hn hp
                generalize setHi (p ++ [s]) tick2 = PS at *
                generalize p ++ [s] = L at *
                have hown1 := hown.out
                obtain ⟨gg, rfl⟩ : ∃ gg, AA = some ⟨gg, 0, none⟩ := by
                  rcases hown1.2 with ⟨hv, hz⟩ | ⟨g, cap', cur, hv, _⟩
                  · omega
                  · injection hv with hv; exact ⟨g, hv⟩
                obtain ⟨m, hm⟩ : ∃ m, p.length = m := ⟨_, rfl⟩
                rw [hm] at hlp hfl2 hfs
                have hcl1 := hown1.cellAt (m * 2 + 1) (by omega)
                have hfr := hown1.frozenAt (m * 2 + 1)
                rw [hfl2] at hcl1
                have hgl := (hown1.lt gg rfl).2
                have hgb := (hown1.lt gg rfl).1
                have hstd := fun (w' : World) (ho : w'.ownsRow w.heap.size 49 2 (.slice (some ⟨gg, 0, none⟩) L.length cap) L.length (L.flatMap Spn.cells)) => (ho.stored (m * 2 + 1) (.int .i64 tick2)).1
                rw [← hfs] at hstd
                have e0 : decide ((0 : Int) < (L.length : Int)) = true := decide_eq_true (by omega)
                have e1 : IntKind.i64.wrap ((L.length : Int) - 1) = (m : Int) := by rw [show (L.length : Int) - 1 = (m : Int) by omega]; exact IntWalk.i64_in _ (by omega)
                have e1b : (L.length : Int) - 1 = (m : Int) := by omega
                have e2 : (0 : Int) ≤ (m : Int) := by omega
                have e3 : (m : Int) < (L.length : Int) := by omega
                have e4 : 0 < L.length := by omega
                obtain ⟨slo, shi⟩ := s
                simp only at q1 q2 hcl1
                have HST := Lib.hid hstd
                have HLP := Lib.hid hlp
                have HSL := Lib.hid hsl
                clear hfl2 hfs hsl hlp hm hown1 hstd
                by_cases heq : shi = tick
                · have hst := q1 heq
                  have HS := Lib.hid hst
                  have e5 : (shi == tick) = true := by simpa using heq
                  have E1B := Lib.hid e1b
                  clear q1 q2 hst heq e1b
                  go_wp2_with fail
                  go_quiet (fail)
                  clear e5
                  go_wp2
                  go_roundw
                  case rel => exact ⟨k + 1, by omega, by go_num, by rw [HS.out, HSL.out]; exact HST.out _ (ownsRow_below hown.out (below_drewN (Below.refl _ _) _)), (below_drewN hb _).setCell hgb _⟩
                  case measure => simp [intOf]; omega
                · have hst := q2 heq
                  have HS := Lib.hid hst
                  have e5 : (shi == tick) = false := by simpa using heq
                  have E1B := Lib.hid e1b
                  clear q1 q2 hst heq e1b
                  go_wp2_with fail
                  go_quiet (fail)
                  clear e5 e1 hcl1
                  go_wp2_with (at_builtin; refine wpList_append_own _ rfl _ _ 46 rfl w.heap.size 49 i0 _ 2 16 Try.underlying46 hi hz0 hz1 hz2 rfl (by decide) _ _ _ rfl ((ownsRow_below hown.out (below_drewN (Below.refl _ _) _)).alloc _) _ 1 1 [.int .i64 tick, .int .i64 tick2] rfl rfl ?c1 ?c2 ?c3 ?c4 ?c5 ?_)
                  case c1 => exact cells_at (by simp) _ _
                  case c2 => intro u hu; simp at hu; rcases hu with rfl | rfl <;> rfl
                  case c3 => unfold maxLen; first | omega | (simp; done)
                  case c4 => first | omega | (simp; done)
                  case c5 => have := hb.size; simp; omega
                  intro v' w4 hown' hgrow _
                  have hb4 : Below w.heap.size w w4 := ((below_drewN hb nq).alloc (by have := hb.size; simp; omega) _).grown hgrow (by have := hb.size; simp; omega) (fun k hk => (hown.out.lt k hk).1)
                  have ho4 : Hid (w4.ownsRow w.heap.size 49 2 v' (G (k + 1)).length ((G (k + 1)).flatMap Spn.cells)) := by
                    rw [HS.out, List.flatMap_append, List.length_append]
                    exact hown'
                  clear hgrow hown'
                  go_wp2
                  go_roundw
                  case rel => exact ⟨k + 1, by omega, by go_num, ho4, hb4⟩
                  case measure => simp [intOf]; omega
end Go.Proofs.Ytnegolclofgboaa


/-
  When doors are open, tick by tick: hoistwayref25.Doors. Condition: the legs are within bounds.
-/
import Derived.Test.YtnegolclofgboaaDoors
import Derived.Test.YtnegolclofgboaaAll25
set_option linter.unusedVariables false
set_option linter.unusedSimpArgs false
namespace Go.Proofs.Ytnegolclofgboaa
open Go.Joins Go.ChangeShapes Go.WideShapes Go.ChangeAt Go.RowKit Go.Deep

set_option maxRecDepth 20000 in
set_option maxHeartbeats 8000000 in
theorem ref25_Doors (A : Option Addr) (C : Nat) (ls : List Leg) (h : Int) (w : World) (hx : Legs w A ls) (hf : fineRow h ls) (hh : -1 ≤ h ∧ h ≤ 1073741824) :
    Calls Try.prog 19 #[.slice A ls.length C, .int .i64 h] w (RetElems 2 Spn.cells (doorsOf ls h) w) := by
  obtain ⟨i0, hi, hz0, hz1, hz2⟩ := info_parts info_spn
  have cA := ref25_All A C ls h w hx hf hh
  obtain ⟨n, hn⟩ : ∃ n, n = (if ls.length = 0 then 0 else (h - (legAt ls 0).tick).toNat) := ⟨_, rfl⟩
  have hn3 : n ≤ 300 := by rw [hn]; split; omega; have := hf.2.2 (by omega); omega
  have hn0 : 0 < n → 0 < ls.length := fun hp => by
    rcases Nat.eq_zero_or_pos ls.length with e | e
    · rw [hn, if_pos e] at hp; omega
    · exact e
  have hall : allT ls h = ticksL ls (legAt ls 0).tick n := by unfold allT; rw [← hn]
  have hdo : doorsOf ls h = doorsN (wayD ls) (legAt ls 0).tick n := by unfold doorsOf; rw [← hn]
  have htb : 0 < ls.length → -1073741824 ≤ (legAt ls 0).tick ∧ (legAt ls 0).tick ≤ 1073741824 := fun hp => (hf.2.1.2.1 0 hp).2.2
  have hat : ∀ k, k < n → (ticksL ls (legAt ls 0).tick n)[k]? = some ⟨wayP ls ((legAt ls 0).tick + (k : Int)), wayD ls ((legAt ls 0).tick + (k : Int))⟩ := fun k hk => ticksL_at _ _ hk
  have hlen := ticksL_len ls (legAt ls 0).tick n
  have hleg : ∀ {w' : World}, Below w.heap.size w w' → 0 < ls.length → ∃ b off, A = some ⟨b, off, none⟩ ∧ w'.cell? ⟨b, off, none⟩ = some (.int .i64 (legAt ls 0).tick) := fun hb hp => by
    obtain ⟨b, off, e, hbl, hce⟩ := hx hp
    obtain ⟨g, hg⟩ := at_some (xs := ls) (k := 0) hp
    have := (hb.cell (p := ⟨b, off + 0 * 4 + 0, none⟩) hbl).trans (hce 0 g hg 0 _ rfl)
    simp only [Nat.zero_mul, Nat.add_zero] at this
    exact ⟨b, off, e, by rw [legAt_of hg]; exact this⟩
  have hgt : ∀ k, doorsN (wayD ls) (legAt ls 0).tick (k + 1) = if wayD ls ((legAt ls 0).tick + (k : Int)) = true then (if 0 < k ∧ wayD ls ((legAt ls 0).tick + (k : Int) - 1) = true then setHi (doorsN (wayD ls) (legAt ls 0).tick k) ((legAt ls 0).tick + (k : Int) + 1) else doorsN (wayD ls) (legAt ls 0).tick k ++ [⟨(legAt ls 0).tick + (k : Int), (legAt ls 0).tick + (k : Int) + 1⟩]) else doorsN (wayD ls) (legAt ls 0).tick k := fun k => rfl
  have hop := fun k => doors_open (D := wayD ls) (t0 := (legAt ls 0).tick) (k := k)
  have hln := fun k => (doors_bd (D := wayD ls) (t0 := (legAt ls 0).tick) k).1
  have hz : doorsN (wayD ls) (legAt ls 0).tick 0 = [] := rfl
  rw [hdo]
  rw [hall] at cA
  generalize doorsN (wayD ls) (legAt ls 0).tick = G at *
  generalize ticksL ls (legAt ls 0).tick n = L at *
  generalize (legAt ls 0).tick = t0 at *
  have CA := Lib.hid cA
  have HN0 := Lib.hid hn0
  have HTB := Lib.hid htb
  have HAT := Lib.hid hat
  have HLEN := Lib.hid hlen
  have HLEG := Lib.hid (fun (w' : World) (hb : Below w.heap.size w w') hp => hleg hb hp)
  have HGT := Lib.hid hgt
  have HOP := Lib.hid hop
  have HLN := Lib.hid hln
  have HZ := Lib.hid hz
  clear cA hn0 htb hat hlen hleg hgt hop hln hz hn hall hdo hx hf
  go_enter Try.func19, Try.ntmps19
  go_wp2_with (go_at_call 28; refine CA.out.mono ?_)
  rintro e w2 ⟨A2, C2, rfl, hel, hb2⟩
  have HE := Lib.hid hel
  have HB2 := Lib.hid hb2
  clear hel hb2 CA
  go_wp2_with (with_reducible refine hold_loop ?_)
  unfold Hold
  rw [HLEN.out]
  go_loopw [7, 6] (fun i v wr => ∃ k : Nat, k ≤ n ∧ i = .int .i64 k ∧ Hid (wr.ownsRow w2.heap.size 49 2 v (G k).length ((G k).flatMap Spn.cells)) ∧ Below w2.heap.size w2 wr) (fun i _ _ => n - (intOf i).toNat)
  case atStart => exact ⟨0, by omega, rfl, by rw [HZ.out]; exact World.ownsRow_nil _ _ _ _, Below.refl _ _⟩
  case round =>
    obtain ⟨k, hk, rfl, hown, hb⟩ := hrel
    have hbw : Below w.heap.size w wr := HB2.out.trans (hb.mono HB2.out.size)
    by_cases hkl : k < n
    rotate_left
    · obtain rfl : k = n := by omega
      obtain ⟨A', C', rfl, hel⟩ := owns_elems spn_len hown.out
      have HE2 := Lib.hid hel
      clear hown hel
      go_wp2
      go_ret
      exact ⟨A', C', rfl, HE2.out, hbw⟩
    · obtain ⟨b2, off2, rfl, hbl2, hce2⟩ := (HE.out.below hb) (by rw [HLEN.out]; omega)
      have hlp := HN0.out (by omega)
      obtain ⟨b, off, rfl, y0⟩ := HLEG.out wr hbw hlp
      obtain ⟨tb1, tb2⟩ := HTB.out hlp
      have z1 := hce2 k _ (HAT.out k hkl) 1 _ rfl
      have hgt := HGT.out k
      have hlk := HLN.out k
      have i0k : (0 : Int) ≤ (k : Int) := by omega
      have i1k : (k : Int) < (n : Int) := by omega
      cases hd : wayD ls (t0 + (k : Int))
      · rw [hd] at hgt z1
        rw [if_neg (by decide)] at hgt
        have HG := Lib.hid hgt
        clear hgt hce2 hd
        go_wp2
        go_roundw
        case rel => exact ⟨k + 1, by omega, by go_num, by rw [HG.out]; exact hown, hb⟩
        case measure => simp [intOf]; omega
      · rw [hd] at hgt z1
        rw [if_pos rfl] at hgt
        by_cases hop : 0 < k ∧ wayD ls (t0 + (k : Int) - 1) = true
        · obtain ⟨h1, h2⟩ := hop
          rw [if_pos ⟨h1, h2⟩] at hgt
          obtain ⟨j, rfl⟩ : ∃ j, k = j + 1 := ⟨k - 1, by omega⟩
          rw [show t0 + ((j + 1 : Nat) : Int) - 1 = t0 + (j : Int) by omega] at h2
          have y1 := hce2 j _ (HAT.out j (by omega)) 1 _ rfl
          rw [h2] at y1
          obtain ⟨s, hs, hse⟩ := HOP.out (j + 1) (by omega) (by rw [show t0 + ((j + 1 : Nat) : Int) - 1 = t0 + (j : Int) by omega]; exact h2)
          obtain ⟨p, hp⟩ := lastS_form hs
          have hfs := flat_setHi p s (t0 + ((j + 1 : Nat) : Int) + 1)
          have hsl := setHi_len (p ++ [s]) (t0 + ((j + 1 : Nat) : Int) + 1)
          have hlp2 : (p ++ [s]).length = p.length + 1 := by simp
          rw [hp] at hgt hown hlk
          generalize setHi (p ++ [s]) (t0 + ((j + 1 : Nat) : Int) + 1) = PS at *
          obtain ⟨AA, cap, rfl⟩ := own_form hown.out
          generalize p ++ [s] = Q at *
          have hown1 := hown.out
          obtain ⟨gg, rfl⟩ : ∃ gg, AA = some ⟨gg, 0, none⟩ := by
            rcases hown1.2 with ⟨hv, hz⟩ | ⟨g, cap', cur, hv, _⟩
            · omega
            · injection hv with hv; exact ⟨g, hv⟩
          obtain ⟨m, hm⟩ : ∃ m, p.length = m := ⟨_, rfl⟩
          rw [hm] at hlp2 hfs
          have hfr := hown1.frozenAt (m * 2 + 1)
          have hcl1 := hown1.cellAt (m * 2 + 1) (by omega)
          have hcl2 : ∃ u, wr.cell? ⟨gg, m * 2 + 1, none⟩ = some u := by
            rw [hcl1]
            exact ⟨_, List.getElem?_eq_getElem (by rw [flat_len spn_len]; omega)⟩
          obtain ⟨u, hcl2⟩ := hcl2
          have hgl := (hown1.lt gg rfl).2
          have hgb := (hown1.lt gg rfl).1
          have hstd := (hown1.stored (m * 2 + 1) (.int .i64 (t0 + ((j + 1 : Nat) : Int) + 1))).1
          rw [← hfs] at hstd
          have e1b : (Q.length : Int) - 1 = (m : Int) := by omega
          have e2 : (0 : Int) ≤ (m : Int) := by omega
          have e3 : (m : Int) < (Q.length : Int) := by omega
          have e6 : ((j + 1 : Nat) : Int) - 1 = (j : Int) := by omega
          have i0j : (0 : Int) ≤ (j : Int) := by omega
          have i1j : (j : Int) < (n : Int) := by omega
          have hnx : ((j + 1 : Nat) : Int) = (j : Int) + 1 := by omega
          rw [hnx] at hstd
          have HSTD := Lib.hid hstd
          have HSL := Lib.hid hsl
          have HG := Lib.hid hgt
          clear hgt hfs hsl hlp2 hm hown1 hcl1 hstd hce2 hd h2 hs hse hp hnx
          go_wp2
          go_roundw
          case rel => exact ⟨j + 1 + 1, by omega, by go_num, by rw [HG.out, HSL.out]; exact HSTD.out, hb.setCell hgb _⟩
          case measure => simp [intOf]; omega
        · rw [if_neg hop] at hgt
          have HG := Lib.hid hgt
          rcases Nat.eq_zero_or_pos k with h0 | h0
          · subst h0
            obtain ⟨AA, cap, rfl⟩ := own_form hown.out
            have hG1 : G (0 + 1) = G 0 ++ [⟨t0, t0 + 1⟩] := by rw [hgt]; simp
            have HG := Lib.hid hG1
            clear hgt hce2 hop hG1 hd
            simp only [Nat.zero_mul, Nat.add_zero, Nat.zero_add] at z1
            go_wp2_with (at_builtin; refine wpList_append_own _ rfl _ _ 46 rfl w2.heap.size 49 i0 _ 2 16 Try.underlying46 hi hz0 hz1 hz2 rfl (by decide) _ _ _ rfl (hown.out.alloc _) _ 1 1 [.int .i64 t0, .int .i64 (t0 + 1)] rfl rfl ?c1 ?c2 ?c3 ?c4 ?c5 ?_)
            try (case c1 => exact cells_at (by simp) _ _)
            case c2 => first | (intro u hu; simp at hu; rcases hu with rfl | rfl <;> rfl) | exact ⟨rfl, rfl⟩
            case c3 => unfold maxLen; omega
            case c4 => omega
            case c5 => have := hb.size; simp; omega
            intro v' w4 hown' hgrow _
            have hb4 : Below w2.heap.size w2 w4 := (hb.alloc (by have := hb.size; simp; omega) _).grown hgrow (by have := hb.size; simp; omega) (fun k hk => (hown.out.lt k hk).1)
            have ho4 : Hid (w4.ownsRow w2.heap.size 49 2 v' (G (0 + 1)).length ((G (0 + 1)).flatMap Spn.cells)) := by
              rw [HG.out, List.flatMap_append, List.length_append]
              exact hown'
            clear hgrow hown'
            go_wp2
            go_roundw
            case rel => exact ⟨0 + 1, by omega, by go_num, ho4, hb4⟩
            case measure => simp [intOf]; omega
          · obtain ⟨j, rfl⟩ : ∃ j, k = j + 1 := ⟨k - 1, by omega⟩
            have h2 : wayD ls (t0 + (j : Int)) = false := by
              cases h : wayD ls (t0 + (j : Int))
              · rfl
              · exact absurd ⟨h0, by rw [show t0 + ((j + 1 : Nat) : Int) - 1 = t0 + (j : Int) by omega]; exact h⟩ hop
            have y1 := hce2 j _ (HAT.out j (by omega)) 1 _ rfl
            rw [h2] at y1
            have e6 : ((j + 1 : Nat) : Int) - 1 = (j : Int) := by omega
            have i0j : (0 : Int) ≤ (j : Int) := by omega
            have i1j : (j : Int) < (n : Int) := by omega
            have hG1 : G (j + 1 + 1) = G (j + 1) ++ [⟨t0 + ((j : Int) + 1), t0 + ((j : Int) + 1) + 1⟩] := by rw [hgt]; simp
            have HG := Lib.hid hG1
            obtain ⟨AA, cap, rfl⟩ := own_form hown.out
            clear hgt hce2 hop hG1 hd h2
            go_wp2_with (at_builtin; refine wpList_append_own _ rfl _ _ 46 rfl w2.heap.size 49 i0 _ 2 16 Try.underlying46 hi hz0 hz1 hz2 rfl (by decide) _ _ _ rfl (hown.out.alloc _) _ 1 1 [.int .i64 (t0 + ((j : Int) + 1)), .int .i64 (t0 + ((j : Int) + 1) + 1)] rfl rfl ?c1 ?c2 ?c3 ?c4 ?c5 ?_)
            try (case c1 => exact cells_at (by simp) _ _)
            case c2 => first | (intro u hu; simp at hu; rcases hu with rfl | rfl <;> rfl) | exact ⟨rfl, rfl⟩
            case c3 => unfold maxLen; omega
            case c4 => omega
            case c5 => have := hb.size; simp; omega
            intro v' w4 hown' hgrow _
            have hb4 : Below w2.heap.size w2 w4 := (hb.alloc (by have := hb.size; simp; omega) _).grown hgrow (by have := hb.size; simp; omega) (fun k hk => (hown.out.lt k hk).1)
            have ho4 : Hid (w4.ownsRow w2.heap.size 49 2 v' (G ((j + 1) + 1)).length ((G ((j + 1) + 1)).flatMap Spn.cells)) := by
              rw [HG.out, List.flatMap_append, List.length_append]
              exact hown'
            clear hgrow hown'
            go_wp2
            go_roundw
            case rel => exact ⟨(j + 1) + 1, by omega, by go_num, ho4, hb4⟩
            case measure => simp [intOf]; omega
end Go.Proofs.Ytnegolclofgboaa

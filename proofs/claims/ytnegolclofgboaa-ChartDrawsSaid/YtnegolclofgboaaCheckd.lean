
/-
  hoistwayref20.Check: what it says of a scenario that may be. No conditions.
-/
import Derived.Test.YtnegolclofgboaaCheckAd
set_option linter.unusedVariables false
set_option linter.unusedSimpArgs false
namespace Go.Proofs.Ytnegolclofgboaa
open Go.Joins Go.ChangeShapes Go.WideShapes Go.ChangeAt Go.RowKit Go.Deep

theorem in_more {s : Scen} {k : Nat} (h : ∀ j, j < k → inB (ixAt j) (s.at_ j) = true) (hk : inB (ixAt k) (s.at_ k) = true) : ∀ j, j < k + 1 → inB (ixAt j) (s.at_ j) = true := by
  intro j hj
  by_cases e : j < k
  · exact h j e
  · obtain rfl : j = k := by omega
    exact hk
def CheckPost (s : Scen) (w : World) (e : Ending) (w' : World) : Prop := ∃ n : Int, e = .returned (.int .i64 n) ∧ (n = 0 → s.fine) ∧ Below w.heap.size w w'

set_option maxRecDepth 100000 in
set_option maxHeartbeats 4000000 in
theorem check_any (s : Scen) (A : Option Addr) (C : Nat) (w : World) (hs : RSlice 3 RSeg w [.slice A s.segs.length C] s.segs) :
    Calls Try.prog 5 #[s.val A C] w (CheckPost s w) := by
  go_enter Try.func5, Try.ntmps5
  go_wp2
  have hbel : Below w.heap.size w (((w.alloc (.cells (s.cells A C).toArray 26)).alloc (.cells (nm11.map Value.string).toArray 57)).alloc (.cells (s.vals.map (Value.int .i64)).toArray 58)) := below_alloc3 _ _ _ _
  have k0 := ((Blk.new w 26 (s.cells A C).toArray).alloc (.cells (nm11.map Value.string).toArray 57)).alloc (.cells (s.vals.map (Value.int .i64)).toArray 58)
  have k1 := (Blk.new (w.alloc (.cells (s.cells A C).toArray 26)) 57 (nm11.map Value.string).toArray).alloc (.cells (s.vals.map (Value.int .i64)).toArray 58)
  have k2 := Blk.new ((w.alloc (.cells (s.cells A C).toArray 26)).alloc (.cells (nm11.map Value.string).toArray 57)) 58 (s.vals.map (Value.int .i64)).toArray
  have hsz : (((w.alloc (.cells (s.cells A C).toArray 26)).alloc (.cells (nm11.map Value.string).toArray 57)).alloc (.cells (s.vals.map (Value.int .i64)).toArray 58)).heap.size = w.heap.size + 1 + 1 + 1 := by simp only [alloc_size]
  simp only [alloc_size] at k1 k2
  change Code.wp _ _ _ _ (((w.alloc (.cells (s.cells A C).toArray 26)).alloc (.cells (nm11.map Value.string).toArray 57)).alloc (.cells (s.vals.map (Value.int .i64)).toArray 58))
  generalize (((w.alloc (.cells (s.cells A C).toArray 26)).alloc (.cells (nm11.map Value.string).toArray 57)).alloc (.cells (s.vals.map (Value.int .i64)).toArray 58)) = W at *
  have HZ := Lib.hid hsz
  clear hsz
  go_loopw [5] (fun i wr => ∃ k : Nat, k ≤ 11 ∧ i = .int .i64 k ∧ (∀ j, j < k → inB (ixAt j) (s.at_ j) = true) ∧ Below W.heap.size W wr) (fun i _ => 11 - (intOf i).toNat)
  case atStart => exact ⟨0, by omega, rfl, fun j hj => by omega, Below.refl _ _⟩
  case round =>
    obtain ⟨k, hk, rfl, hin, hbw⟩ := hrel
    have HI := Lib.hid hin
    clear hin
    have q0 := (k0.below hbw k0.lt).cell
    by_cases hk11 : k < 11
    · have c0 : wr.cell? ⟨w.heap.size + 1, k, none⟩ = some (.string (nmAt (ixAt k))) := ((k1.below hbw k1.lt).cell k).trans (by
        rw [getD_map _ _ ByteArray.empty _ (by show k < 11; omega)]
        congr 2
        show (ix11.map nmAt).getD k _ = _
        simp [ixAt, List.getD, List.getElem?_eq_getElem (show k < ix11.length from hk11)])
      have c1 : wr.cell? ⟨w.heap.size + 1 + 1, k, none⟩ = some (.int .i64 (s.at_ k)) := ((k2.below hbw k2.lt).cell k).trans (getD_map _ _ _ _ (by show k < 11; omega))
      have hix := ixAt_lt k hk11
      cases hb11 : inB (ixAt k) (s.at_ k)
      · go_wp2
        go_region_held3 (fun w' => w'.cell? ⟨w.heap.size + 1, k, none⟩ = some (.string (nmAt (ixAt k))) ∧ w'.cell? ⟨w.heap.size + 1 + 1, k, none⟩ = some (.int .i64 (s.at_ k))) (first | exact ⟨c0, c1⟩ | exact ⟨keepc hb c0, keepc hb c1⟩) (first | (go_at_call 26; refine (in_at _ hix _ _).mono ?_; rintro e w' ⟨rfl, hb⟩))
        have hfin : Below w.heap.size w w' := hbel.trans ((hbw.drew.trans (hb.mono hbw.size)).mono hbel.size)
        clear hb
        go_wp2
        go_ret
        exact ⟨264, rfl, by omega, hfin⟩
      · go_wp2
        go_region_held3 (fun w' => w'.cell? ⟨w.heap.size + 1, k, none⟩ = some (.string (nmAt (ixAt k))) ∧ w'.cell? ⟨w.heap.size + 1 + 1, k, none⟩ = some (.int .i64 (s.at_ k))) (first | exact ⟨c0, c1⟩ | exact ⟨keepc hb c0, keepc hb c1⟩) (first | (go_at_call 26; refine (in_at _ hix _ _).mono ?_; rintro e w' ⟨rfl, hb⟩))
        have hbw2 : Below W.heap.size W w' := hbw.drew.trans (hb.mono hbw.size)
        have HI2 : Hid (∀ j, j < k + 1 → inB (ixAt j) (s.at_ j) = true) := in_more HI.out hb11
        clear hb
        go_wp2
        go_roundw
        case rel => exact ⟨k + 1, by omega, by go_num, HI2.out, hbw2⟩
        case measure => simp [intOf]; omega
    · have hfine : s.fine := fine_of s (fun j hj => HI.out j (by omega))
      have HF := Lib.hid hfine
      clear hfine
      have s0 : wr.cell? ⟨w.heap.size, 8, none⟩ = some (.slice A s.segs.length C) := q0 8
      have s1 : wr.cell? ⟨w.heap.size, 9, none⟩ = some (.int .i64 s.disp) := q0 9
      have hfin : Below w.heap.size w wr := hbel.trans (hbw.mono hbel.size)
      by_cases d1 : s.disp < 1 ∨ 4 < s.disp
      · go_wp2
        all_goals go_ret
        all_goals exact ⟨_, rfl, fun h => absurd h (by decide), hfin⟩
      · by_cases d2 : s.segs.length = 0 ∨ 8 < s.segs.length
        · rcases d2 with d2 | d2
          · have d3 : ((s.segs.length : Int) == 0) = true := by simp [d2]
            have D2 := Lib.hid d2
            clear d2
            go_wp2
            all_goals go_ret
            all_goals exact ⟨_, rfl, fun h => absurd h (by decide), hfin⟩
          · have d3 : ((s.segs.length : Int) == 0) = false := beq_eq_false_iff_ne.2 (by omega)
            go_wp2
            all_goals go_ret
            all_goals exact ⟨_, rfl, fun h => absurd h (by decide), hfin⟩
        · have d3 : ((s.segs.length : Int) == 0) = false := beq_eq_false_iff_ne.2 (by omega)
          have d4 : 0 < s.segs.length ∧ s.segs.length ≤ 8 := by omega
          obtain ⟨d4, d5⟩ := d4
          have hrd := RSlice.stays RSeg.stays _ _ _ _ hs hfin
          obtain ⟨A', C', hAC, hl, hm, hrd⟩ := hrd
          injection hAC with hAC
          injection hAC with e1 e2 e3
          subst e1; subst e3
          obtain ⟨b, off, hA, hbl, hrd2⟩ := hrd d4
          subst hA
          have HR := Lib.hid hrd2
          clear hrd hrd2 hl hm hs
          have hwsz : w.heap.size < wr.heap.size := by have := k0.lt; have := hbw.size; omega
          clear d2
          obtain ⟨wo, rfl⟩ : ∃ wo : World, wo = wr := ⟨_, rfl⟩
          go_wp2
          go_loopw [6] (fun i wq => ∃ j : Nat, j ≤ s.segs.length ∧ i = .int .i64 j ∧ Below wo.heap.size wo wq) (fun i _ => s.segs.length - (intOf i).toNat)
          case atStart => exact ⟨0, by omega, rfl, Below.refl _ _⟩
          case round =>
            obtain ⟨j, hj, rfl, hbq⟩ := hrel
            have t0 : wr.cell? ⟨w.heap.size, 8, none⟩ = some (.slice (some ⟨b, off, none⟩) s.segs.length C) := keepc hbq s0
            have hfin2 : Below w.heap.size w wr := hfin.trans (hbq.mono hfin.size)
            have HB := Lib.hid hbq
            by_cases hjl : j < s.segs.length
            · obtain ⟨es, ⟨rfl, hok⟩, _, hce⟩ := HR.out j _ (List.getElem?_eq_getElem hjl)
              have x0 := keepc hbq (hce 0 _ rfl)
              have x1 := keepc hbq (hce 1 _ rfl)
              have x2 := keepc hbq (hce 2 _ rfl)
              clear hce hbq
              generalize s.segs[j] = g at *
              simp only [Nat.add_zero] at x0
              by_cases g1 : g.kind < 1 ∨ 4 < g.kind
              · go_wp2
                all_goals go_ret
                all_goals exact ⟨260, rfl, fun h => absurd h (by decide), hfin2.alloc hfin2.size _⟩
              · have hnew := Blk.new wr 62 g.cells.toArray
                have hal : Below wr.heap.size wr (wr.alloc (.cells g.cells.toArray 62)) := below_alloc1 _ _
                have HN := Lib.hid hnew
                have HA := Lib.hid hal
                clear hnew hal
                cases i8 : inB 8 g.ticks
                · go_wp2_with (go_at_call 26; refine (in_at 8 (by omega) _ _).mono ?_; rintro e w' ⟨rfl, hb⟩)
                  go_ret
                  exact ⟨264, rfl, fun h => absurd h (by decide), hfin2.trans ((HA.out.trans (hb.mono HA.out.size)).mono hfin2.size)⟩
                · cases i10 : inB 10 g.rate
                  · go_wp2_with fail
                    refine (in_at 8 (by omega) _ _).mono ?_; rintro e w' ⟨rfl, hb⟩
                    have y2 : w'.cell? ⟨wr.heap.size, 2, none⟩ = some (.int .i64 g.rate) := (HN.out.below hb HN.out.lt).cell 2
                    have HB2 := Lib.hid hb
                    clear hb
                    go_wp2_with (go_at_call 26; refine (in_at 10 (by omega) _ _).mono ?_; rintro e w2 ⟨rfl, hb⟩)
                    go_ret
                    exact ⟨264, rfl, fun h => absurd h (by decide), hfin2.trans (((HA.out.trans (HB2.out.mono HA.out.size)).trans (hb.mono (HA.out.trans (HB2.out.mono HA.out.size)).size)).mono hfin2.size)⟩
                  · go_wp2_with fail
                    refine (in_at 8 (by omega) _ _).mono ?_; rintro e w' ⟨rfl, hb⟩
                    have y2 : w'.cell? ⟨wr.heap.size, 2, none⟩ = some (.int .i64 g.rate) := (HN.out.below hb HN.out.lt).cell 2
                    have HB2 := Lib.hid hb
                    clear hb
                    go_wp2_with (go_at_call 26; refine (in_at 10 (by omega) _ _).mono ?_; rintro e w2 ⟨rfl, hb⟩)
                    have hnext : Below wo.heap.size wo w2 := HB.out.trans (((HA.out.trans (HB2.out.mono HA.out.size)).trans (hb.mono (HA.out.trans (HB2.out.mono HA.out.size)).size)).mono HB.out.size)
                    clear hb
                    go_wp2
                    go_roundw
                    case rel => exact ⟨j + 1, by omega, by go_num, hnext⟩
                    case measure => simp [intOf]; omega
            · have hje : ¬ (j : Int) < s.segs.length := by omega
              go_wp2
              go_ret
              exact ⟨0, rfl, fun _ => HF.out, hfin2⟩
end Go.Proofs.Ytnegolclofgboaa

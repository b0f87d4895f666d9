/-
  The law NearTells, walked: it returns true, and nothing that was there turns.
-/
import Derived.Test.YtfpmdldngnopjaaBest
set_option linter.unusedVariables false
set_option linter.unusedSimpArgs false
namespace Go.Proofs.Ytfpmdldngnopjaa
open Go.Joins Go.ChangeShapes Go.WideShapes Go.ChangeAt Go.RowKit Go.Deep

set_option maxRecDepth 100000 in
set_option maxHeartbeats 4000000 in
theorem near_law (s : Scen) (A : Option Addr) (C : Nat) (cars : List Car) (A2 : Option Addr) (C2 : Nat) (floor dir : Int) (W : World) (hs : RSlice 3 RSeg W [.slice A s.segs.length C] s.segs) (hc : RSlice 6 RCar W [.slice A2 cars.length C2] cars) :
    Calls Try.prog 9 #[s.val A C, .slice A2 cars.length C2, .agg #[.int .i64 floor, .int .i64 dir]] W fun e W' => e = .returned (.bool true) ∧ Below W.heap.size W W' := by
  go_enter Try.func9, Try.ntmps9
  go_wp2
  obtain ⟨hBw2, hcw1, hdw2, hzw2⟩ := box2 W 25 (s.cells A C).toArray 57 #[.int .i64 floor, .int .i64 dir]
  change Code.wp _ _ _ _ ((W.alloc (.cells (s.cells A C).toArray 25)).alloc (.cells #[.int .i64 floor, .int .i64 dir] 57))
  generalize ((W.alloc (.cells (s.cells A C).toArray 25)).alloc (.cells #[.int .i64 floor, .int .i64 dir] 57)) = w2 at *
  have hyw2 : W.heap.size < w2.heap.size := by omega
  have hs2 := RSlice.stays RSeg.stays _ _ _ _ hs hBw2
  have hc2 := RSlice.stays RCar.stays _ _ _ _ hc hBw2
  clear hs hc
  go_quiet (fail)
  go_wp2_with fail
  refine (within_any s A C cars A2 C2 _ (RSlice.stays RSeg.stays _ _ _ _ hs2 (below_draws _ _ _)) (RSlice.stays RCar.stays _ _ _ _ hc2 (below_draws _ _ _))).mono ?_
  rintro e w3 ⟨b, rfl, hin, hb⟩
  have hb3 : Below w2.heap.size w2 w3 := (below_draws _ _ nq).trans (hb.mono (by simp))
  have hq : ∀ i, w3.cell? ⟨W.heap.size, i, none⟩ = (s.cells A C).toArray[i]? := fun i => (hb3.cell (p := ⟨W.heap.size, i, none⟩) hyw2).trans (hcw1 i)
  have hlt : W.heap.size < w3.heap.size := Nat.lt_of_lt_of_le hyw2 hb3.size
  have hfin : Below W.heap.size W w3 := hBw2.trans (hb3.mono hBw2.size)
  have hc3 := RSlice.stays RCar.stays _ _ _ _ hc2 hb3
  clear hcw1 hdw2 hb hb3 hs2 hc2 hBw2
  cases b with
  | false =>
    clear hin hc3
    go_wp2
    go_ret
    exact ⟨rfl, hfin⟩
  | true =>
    obtain ⟨hfine, hall⟩ := hin rfl
    clear hin
    have hsm := small_of hfine
    obtain ⟨x1, x2, _⟩ := hfine
    have h16 := hall.1
    have HH := Lib.hid (high_bd hsm)
    have HS := Lib.hid hsm
    have HA := Lib.hid hall
    clear hsm hall
    by_cases hok : 0 ≤ floor ∧ floor < s.floors ∧ (dir = 1 ∨ dir = -1)
    · obtain ⟨f0, f1, hd⟩ := hok
      have d1 : ((dir != 1) = true ∧ (dir != -1) = false) ∨ (dir != 1) = false := by
        rcases hd with rfl | rfl
        · exact .inr rfl
        · exact .inl ⟨rfl, rfl⟩
      clear hd
      rcases d1 with ⟨d1, d2⟩ | d1
      all_goals
        go_wp2
        go_loopw [9] (fun i wr => ∃ j : Nat, j ≤ cars.length ∧ i = .int .i64 j ∧ Below w3.heap.size w3 wr) (fun i _ => cars.length - (intOf i).toNat)
        case atStart => exact ⟨0, by omega, rfl, Below.refl _ _⟩
        case round =>
          obtain ⟨j, hj, rfl, hbq⟩ := hrel
          have hq2 : ∀ i, wr.cell? ⟨W.heap.size, i, none⟩ = (s.cells A C).toArray[i]? := fun i => (hbq.cell (p := ⟨W.heap.size, i, none⟩) hlt).trans (hq i)
          have hlr : W.heap.size < wr.heap.size := Nat.lt_of_lt_of_le hlt hbq.size
          by_cases hjl : j < cars.length
          · obtain ⟨b, off, rfl, hbl, hce⟩ := slice_at hc3 (by omega)
            obtain ⟨c, hcj⟩ : ∃ c, cars[j]? = some c := ⟨_, List.getElem?_eq_getElem hjl⟩
            obtain ⟨es, ⟨A3, C3, rfl, hok, _⟩, _, hcc⟩ := hce j c hcj
            have z0 := (hbq.cell (p := ⟨b, off + j * 6 + 0, none⟩) hbl).trans (hcc 0 _ rfl)
            have z1 := (hbq.cell (p := ⟨b, off + j * 6 + 1, none⟩) hbl).trans (hcc 1 _ rfl)
            have z2 := (hbq.cell (p := ⟨b, off + j * 6 + 2, none⟩) hbl).trans (hcc 2 _ rfl)
            have z3 := (hbq.cell (p := ⟨b, off + j * 6 + 3, none⟩) hbl).trans (hcc 3 _ rfl)
            have z4 := (hbq.cell (p := ⟨b, off + j * 6 + 4, none⟩) hbl).trans (hcc 4 _ rfl)
            have z5 := (hbq.cell (p := ⟨b, off + j * 6 + 5, none⟩) hbl).trans (hcc 5 _ rfl)
            have hbr : b < wr.heap.size := Nat.lt_of_lt_of_le hbl hbq.size
            simp only [Nat.add_zero] at z0
            obtain ⟨⟨p0, p1⟩, ⟨y0, y1⟩, _⟩ := HA.out.2 j c hcj
            have hh := HH.out
            have hself : (costOf s c floor dir != costOf s c floor dir) = false := by simp
            have HB := Lib.hid hbq
            clear hce hcc hcj hq hbq hc3
            go_wp2
            refine wp_region_grow (by kernel_rfl) (by kernel_rfl) ?_
            repeat (go_big_quiet_step ((first | (go_at_call 42; with_reducible exact grow_of (near_Cost s A C c A3 C3 floor dir _ HS.out (by omega) (by omega) (by omega) (by omega))) | (go_at_call 43; with_reducible exact grow_of (ref_Cost s A C c A3 C3 floor dir _ HS.out (by omega) (by omega) (by omega) (by omega) (by omega))))))
            refine wpQuiet_nil ?_
            intro w4 hb4
            have hb5 : Below w3.heap.size w3 w4 := HB.out.trans (hb4.mono HB.out.size)
            clear hb4
            go_wp2
            go_roundw
            case rel => exact ⟨j + 1, by omega, by go_num, hb5⟩
            case measure => simp [intOf]; omega
          · have hcr := RSlice.stays RCar.stays _ _ _ _ hc3 hbq
            have hfin2 : Below W.heap.size W wr := hfin.trans (hbq.mono hfin.size)
            have hself : (leastN (costs s cars floor dir) cars.length == leastN (costs s cars floor dir) cars.length) = true := by simp
            clear hq hbq hc3
            go_wp2
            have hnb : ∀ g : Grow wr, Calls Try.prog 44 #[s.val A C, .slice A2 cars.length C2, .int .i64 floor, .int .i64 dir] g.world fun e w' => e = .returned (.int .i64 (leastN (costs s cars floor dir) cars.length)) ∧ Below g.world.heap.size g.world w' := fun g => near_Best s A C cars A2 C2 floor dir _ HS.out (RSlice.stays RCar.stays _ _ _ _ hcr (Grow.below g)) HA.out f0 (by omega)
            have hrb : ∀ g : Grow wr, Calls Try.prog 45 #[s.val A C, .slice A2 cars.length C2, .int .i64 floor, .int .i64 dir] g.world fun e w' => e = .returned (.int .i64 (leastN (costs s cars floor dir) cars.length)) ∧ Below g.world.heap.size g.world w' := fun g => ref_Best s A C cars A2 C2 floor dir _ HS.out (RSlice.stays RCar.stays _ _ _ _ hcr (Grow.below g)) HA.out f0 (by omega)
            have HNB := Lib.hid hnb
            have HRB := Lib.hid hrb
            clear hnb hrb
            refine wp_region_grow (by kernel_rfl) (by kernel_rfl) ?_
            repeat (go_big_quiet_step ((first | (go_at_call 44; with_reducible exact grow_of (HNB.out _)) | (go_at_call 45; with_reducible exact grow_of (HRB.out _)) | (go_at_call 40; with_reducible exact grow_of (alive32 _)))))
            refine wpQuiet_nil ?_
            intro w4 hb4
            go_wp2
            go_ret
            exact ⟨rfl, hfin2.trans (hb4.mono hfin2.size)⟩
    · by_cases hfl : floor < 0 ∨ s.floors ≤ floor
      · clear hok hc3
        go_wp2
        all_goals go_ret
        all_goals exact ⟨rfl, hfin⟩
      · have d1 : (dir != 1) = true := by simp; omega
        have d2 : (dir != -1) = true := by simp; omega
        clear hok hc3
        go_wp2
        all_goals go_ret
        all_goals exact ⟨rfl, hfin⟩

set_option maxRecDepth 100000 in
theorem read_int2 {H : Type} {enc : TypeId × Value → H} {w : World} {base : Nat} {spare : Nat → Bool} {held : Bool} {n : Nat} {cs : List Value} {x : DataW H × List MemPlace} (h : DataW.trod enc Try.prog w base spare held n 57 cs = some x) : ∃ a b : Int, cs = [.int .i64 a, .int .i64 b] := by
  obtain ⟨xs, m, _, _, hl, hxl, hf⟩ := DataW.trod_array Try.underlying57 h
  have hc : Try.prog.cellsOf 3 = 1 := by kernel_rfl
  have hl2 : cs.length = 2 := hl.trans (by kernel_rfl)
  match cs, hl2 with
  | [c0, c1], _ =>
    have h0 := hf 0 (by omega)
    have h1 := hf 1 (by omega)
    rw [hc] at h0 h1
    rw [List.getElem?_eq_getElem (by omega)] at h0 h1
    obtain ⟨a, e0, _⟩ := read_int (w := w) Try.underlying3 h0
    obtain ⟨b, e1, _⟩ := read_int (w := w) Try.underlying3 h1
    simp at e0 e1
    exact ⟨a, b, by rw [e0, e1]⟩

set_option maxRecDepth 100000 in
theorem walkNearTells {H : Type} (W : World) (base : Nat) (enc : TypeId × Value → H) {v0 : Value} {d0 : DataW H} {p0 : List MemPlace} {v1 : Value} {d1 : DataW H} {p1 : List MemPlace} {v2 : Value} {d2 : DataW H} {p2 : List MemPlace}
    (h0 : DataW.Trod enc Try.prog W 0 (fun _ => true) true 25 v0 d0 p0) (h1 : DataW.Trod enc Try.prog W 0 (fun _ => true) true 56 v1 d1 p1) (h2 : DataW.Trod enc Try.prog W 0 (fun _ => true) true 57 v2 d2 p2)
    (o0 : Value.okWide Try.prog W .any base 25 v0) (o1 : Value.okWide Try.prog W .any base 56 v1) (o2 : Value.okWide Try.prog W .any base 57 v2) :
    Calls Try.prog 9 #[v0, v1, v2] W fun e W' => e = .returned (.bool true) ∧ Below W.heap.size W W' := by
  obtain ⟨s, A, C, rfl, hok, hsl⟩ := scen_arg o0 h0
  obtain ⟨n, hn⟩ := arg_slice Try.underlying56 o1 h1
  obtain ⟨cars, hcars⟩ := read_slice (size := 6) Try.underlying56 (by kernel_rfl) (by decide) (fun _ _ _ h => read_Car h) hn
  obtain ⟨A2, C2, hv, _⟩ := id hcars
  injection hv with hv
  subst hv
  obtain ⟨cs, rfl, n2, hn2⟩ := arg_agg (.inr ⟨_, _, Try.underlying57⟩) o2 h2
  obtain ⟨floor, dir, rfl⟩ := read_int2 hn2
  exact near_law s A C cars A2 C2 floor dir W hsl hcars
end Go.Proofs.Ytfpmdldngnopjaa

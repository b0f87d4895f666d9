
/-
  hoistwaylaw32.Within: what it makes sure of.
-/
import Derived.Test.YtejcgagblpkmoaaDoorBoundd
set_option linter.unusedVariables false
set_option linter.unusedSimpArgs false
namespace Go.Proofs.YtejcgagblpkmoaaDoor
open Go.Joins Go.ChangeShapes Go.WideShapes Go.ChangeAt Go.RowKit Go.Deep

/-- A car that lies within a building. -/
def carIn (s : Scen) (c : Car) : Prop := (0 ≤ c.pos ∧ c.pos ≤ (s.floors - 1) * s.gap) ∧ (-1 ≤ c.dir ∧ c.dir ≤ 1) ∧ c.riders.length ≤ 64 ∧ (0 ≤ c.left ∧ c.left ≤ 64) ∧ (0 ≤ c.mode ∧ c.mode ≤ 4)
def allIn (s : Scen) (cars : List Car) : Prop := cars.length ≤ 16 ∧ ∀ (i : Nat) (c : Car), cars[i]? = some c → carIn s c
def WithinPost (s : Scen) (cars : List Car) (w : World) (e : Ending) (w' : World) : Prop := ∃ b : Bool, e = .returned (.bool b) ∧ (b = true → s.fine ∧ allIn s cars) ∧ Below w.heap.size w w'

/-- Where the elements of a slice of structs lie. -/
theorem slice_at {α : Type} {size : Nat} {R : Reader α} {w : World} {A : Option Addr} {C : Nat} {xs : List α} (h : RSlice size R w [.slice A xs.length C] xs) (hp : 0 < xs.length) :
    ∃ b off, A = some ⟨b, off, none⟩ ∧ b < w.heap.size ∧ ∀ i a, xs[i]? = some a → ∃ es, R w es a ∧ es.length = size ∧ ∀ j u, es[j]? = some u → w.cell? ⟨b, off + i * size + j, none⟩ = some u := by
  obtain ⟨A', C', hAC, _, _, hc⟩ := h
  injection hAC with hAC
  injection hAC with e1 e2 e3
  subst e1
  exact hc hp

set_option maxRecDepth 100000 in
set_option maxHeartbeats 4000000 in
theorem within_any (s : Scen) (A : Option Addr) (C : Nat) (cars : List Car) (A2 : Option Addr) (C2 : Nat) (w : World) (hs : RSlice 3 RSeg w [.slice A s.segs.length C] s.segs) (hc : RSlice 6 RCar w [.slice A2 cars.length C2] cars) :
    Calls Tryd.prog 6 #[s.val A C, .slice A2 cars.length C2] w (WithinPost s cars w) := by
  by_cases h8 : 8 < s.segs.length
  · go_enter Tryd.func6, Tryd.ntmps6
    go_wp2
    go_ret
    exact ⟨false, rfl, fun h => by simp at h, below_alloc1 _ _⟩
  · go_enter Tryd.func6, Tryd.ntmps6
    go_wp2_with fail
    obtain ⟨hBW1, hcW1, hzW1⟩ := box w 25 (s.cells A C).toArray
    change Calls _ _ _ (w.alloc (.cells (s.cells A C).toArray 25)) _
    generalize (w.alloc (.cells (s.cells A C).toArray 25)) = W1 at *
    refine (check_any s A C _ (RSlice.stays RSeg.stays _ _ _ _ hs hBW1)).mono ?_
    rintro e w2 ⟨n, rfl, hn, hb⟩
    have hq : ∀ i, w2.cell? ⟨w.heap.size, i, none⟩ = (s.cells A C).toArray[i]? := fun i => (hb.cell (p := ⟨w.heap.size, i, none⟩) (by show w.heap.size < W1.heap.size; omega)).trans (hcW1 i)
    have hfin : Below w.heap.size w w2 := hBW1.trans (hb.mono hBW1.size)
    have hlt : w.heap.size < w2.heap.size := by have := hb.size; omega
    have hc2 := RSlice.stays RCar.stays _ _ _ _ hc hfin
    clear hb hcW1 hzW1 hBW1 hs hc
    by_cases hn0 : n = 0
    · subst hn0
      have hfine := hn rfl
      have hs := small_of hfine
      obtain ⟨hh1, hh2⟩ := high_bd hs
      obtain ⟨x1, x2, _⟩ := id hfine
      have HF := Lib.hid hfine
      clear hn hfine hs
      by_cases h16 : 16 < cars.length
      · go_wp2
        go_ret
        exact ⟨false, rfl, fun h => by simp at h, hfin⟩
      · go_wp2
        go_loopw [5] (fun i wr => ∃ j : Nat, j ≤ cars.length ∧ i = .int .i64 j ∧ (∀ (i : Nat) (c : Car), i < j → cars[i]? = some c → carIn s c) ∧ Below w2.heap.size w2 wr) (fun i _ => cars.length - (intOf i).toNat)
        case atStart => exact ⟨0, by omega, rfl, fun i c h => by omega, Below.refl _ _⟩
        case round =>
          obtain ⟨j, hj, rfl, hin, hbq⟩ := hrel
          have HI := Lib.hid hin
          clear hin
          have q0 : wr.cell? ⟨w.heap.size, 0, none⟩ = some (.int .i64 s.floors) := (hbq.cell (p := ⟨w.heap.size, 0, none⟩) hlt).trans (hq 0)
          have q1 : wr.cell? ⟨w.heap.size, 1, none⟩ = some (.int .i64 s.gap) := (hbq.cell (p := ⟨w.heap.size, 1, none⟩) hlt).trans (hq 1)
          have hlr : w.heap.size < wr.heap.size := Nat.lt_of_lt_of_le hlt hbq.size
          have hfin2 : Below w.heap.size w wr := hfin.trans (hbq.mono hfin.size)
          by_cases hjl : j < cars.length
          · obtain ⟨b, off, rfl, hbl, hce⟩ := slice_at hc2 (by omega)
            obtain ⟨c, hcj⟩ : ∃ c, cars[j]? = some c := ⟨_, List.getElem?_eq_getElem hjl⟩
            obtain ⟨es, ⟨A3, C3, rfl, hok, _⟩, _, hcc⟩ := hce j c hcj
            have z0 := (hbq.cell (p := ⟨b, off + j * 6 + 0, none⟩) hbl).trans (hcc 0 _ rfl)
            have z1 := (hbq.cell (p := ⟨b, off + j * 6 + 1, none⟩) hbl).trans (hcc 1 _ rfl)
            have z2 := (hbq.cell (p := ⟨b, off + j * 6 + 2, none⟩) hbl).trans (hcc 2 _ rfl)
            have z3 := (hbq.cell (p := ⟨b, off + j * 6 + 3, none⟩) hbl).trans (hcc 3 _ rfl)
            have z4 := (hbq.cell (p := ⟨b, off + j * 6 + 4, none⟩) hbl).trans (hcc 4 _ rfl)
            have z5 := (hbq.cell (p := ⟨b, off + j * 6 + 5, none⟩) hbl).trans (hcc 5 _ rfl)
            simp only [Nat.add_zero] at z0
            have HJ := Lib.hid hcj
            have hnext : Below w2.heap.size w2 (wr.alloc (.cells (c.cells A3 C3).toArray 29)) := hbq.alloc hbq.size _
            have hfin3 : Below w.heap.size w (wr.alloc (.cells (c.cells A3 C3).toArray 29)) := hfin2.alloc hfin2.size _
            clear hcj hce hcc hc2 hq hbq
            by_cases hci : carIn s c
            · have HI2 : Hid (∀ (i : Nat) (c : Car), i < j + 1 → cars[i]? = some c → carIn s c) := fun i c' hi hci' => by
                by_cases e : i < j
                · exact HI.out i c' e hci'
                · obtain rfl : i = j := by omega
                  rw [HJ.out] at hci'
                  injection hci' with h
                  rwa [← h]
              obtain ⟨⟨y1, y2⟩, ⟨y3, y4⟩, y5, ⟨y6, y7⟩, y8, y9⟩ := hci
              go_wp2
              go_roundw
              case rel => exact ⟨j + 1, by omega, by go_num, HI2.out, hnext⟩
              case measure => simp [intOf]; omega
            · have hbad : c.pos < 0 ∨ (s.floors - 1) * s.gap < c.pos ∨ c.dir < -1 ∨ 1 < c.dir ∨ 64 < c.riders.length ∨ c.left < 0 ∨ 64 < c.left ∨ c.mode < 0 ∨ 4 < c.mode := by unfold carIn at hci; omega
              clear hci
              go_wp2
              all_goals go_ret
              all_goals exact ⟨false, rfl, fun h => by simp at h, hfin3⟩
          · have hall : allIn s cars := ⟨by omega, fun i c hi => HI.out i c (by have := (List.getElem?_eq_some_iff.1 hi).1; omega) hi⟩
            have HA := Lib.hid hall
            clear hall hc2 hq hbq
            go_wp2
            go_ret
            exact ⟨true, rfl, fun _ => ⟨HF.out, HA.out⟩, hfin2⟩
    · have hnb : (n != 0) = true := by simpa using hn0
      clear hn hn0
      go_wp2
      go_ret
      exact ⟨false, rfl, fun h => by simp at h, hfin⟩
end Go.Proofs.YtejcgagblpkmoaaDoor

/-
  near.Best and hoistwayref32.Best: the car of the least cost.
-/
import Derived.Test.YtfpmdldngnopjaaAlive32
import Derived.Test.YtfpmdldngnopjaaWithin
import Derived.Test.YtfpmdldngnopjaaOwn
import Derived.Deep.AppendLies
set_option linter.unusedVariables false
set_option linter.unusedSimpArgs false
namespace Go.Proofs.Ytfpmdldngnopjaa
open Go.Joins Go.ChangeShapes Go.WideShapes Go.ChangeAt Go.RowKit Go.Deep

def costs (s : Scen) (cars : List Car) (floor dir : Int) : List Int := cars.map fun c => costOf s c floor dir

theorem costs_len (s : Scen) (cars : List Car) (floor dir : Int) : (costs s cars floor dir).length = cars.length := by simp [costs]
theorem costs_at (s : Scen) (cars : List Car) (floor dir : Int) (j : Nat) (c : Car) (h : cars[j]? = some c) : at0 (costs s cars floor dir) j = costOf s c floor dir := by
  simp [at0, costs, List.getD, h]

theorem near_Best (s : Scen) (A : Option Addr) (C : Nat) (cars : List Car) (A2 : Option Addr) (C2 : Nat) (floor dir : Int) (w : World) (hs : s.small) (hc : RSlice 6 RCar w [.slice A2 cars.length C2] cars) (hin : allIn s cars) (f0 : 0 ≤ floor) (f1 : floor ≤ 128) :
    Calls Try.prog 44 #[s.val A C, .slice A2 cars.length C2, .int .i64 floor, .int .i64 dir] w fun e w' => e = .returned (.int .i64 (leastN (costs s cars floor dir) cars.length)) ∧ Below w.heap.size w w' := by
  obtain ⟨i0, hi, hz0, hz1, hz2⟩ := info_parts info_int
  have h16 := hin.1
  have hh := high_bd hs
  have HI := Lib.hid hin
  have HZ := Lib.hid hs
  clear hin hs
  go_enter Try.func44, Try.ntmps44
  go_wp2
  obtain ⟨hBw1, hcw1, hzw1⟩ := box w 25 (s.cells A C).toArray
  change Code.wp _ _ _ _ (w.alloc (.cells (s.cells A C).toArray 25))
  generalize (w.alloc (.cells (s.cells A C).toArray 25)) = w1 at *
  have hlt1 : w.heap.size < w1.heap.size := by omega
  clear hzw1
  go_loopw [9, 14] (fun v i wr => ∃ j : Nat, j ≤ cars.length ∧ i = .int .i64 j ∧ wr.ownsRow w1.heap.size 3 1 v j (taken (costs s cars floor dir) j) ∧ Below w1.heap.size w1 wr) (fun _ i _ => cars.length - (intOf i).toNat)
  case atStart => exact ⟨0, by omega, rfl, by rw [taken_zero]; exact World.ownsRow_nil _ _ _ _, Below.refl _ _⟩
  case round =>
    obtain ⟨j, hj, rfl, hown, hbq⟩ := hrel
    have hq : ∀ i, wr.cell? ⟨w.heap.size, i, none⟩ = (s.cells A C).toArray[i]? := fun i => (hbq.cell (p := ⟨w.heap.size, i, none⟩) (by show w.heap.size < w1.heap.size; omega)).trans (hcw1 i)
    have hlr : w.heap.size < wr.heap.size := by have := hbq.size; omega
    by_cases hjl : j < cars.length
    · obtain ⟨b, off, rfl, hbl, hce⟩ := slice_at hc (by omega)
      obtain ⟨c, hcj⟩ : ∃ c, cars[j]? = some c := ⟨_, List.getElem?_eq_getElem hjl⟩
      obtain ⟨es, ⟨A3, C3, rfl, hok, _⟩, _, hcc⟩ := hce j c hcj
      have hbs : ∀ p : Addr, p.block < w.heap.size → wr.cell? p = w.cell? p := fun p hp => (hbq.cell (by omega)).trans (hBw1.cell hp)
      have z0 := (hbs ⟨b, off + j * 6 + 0, none⟩ hbl).trans (hcc 0 _ rfl)
      have z1 := (hbs ⟨b, off + j * 6 + 1, none⟩ hbl).trans (hcc 1 _ rfl)
      have z2 := (hbs ⟨b, off + j * 6 + 2, none⟩ hbl).trans (hcc 2 _ rfl)
      have z3 := (hbs ⟨b, off + j * 6 + 3, none⟩ hbl).trans (hcc 3 _ rfl)
      have z4 := (hbs ⟨b, off + j * 6 + 4, none⟩ hbl).trans (hcc 4 _ rfl)
      have z5 := (hbs ⟨b, off + j * 6 + 5, none⟩ hbl).trans (hcc 5 _ rfl)
      simp only [Nat.add_zero] at z0
      have hci := HI.out.2 j c hcj
      obtain ⟨⟨p0, p1⟩, _⟩ := hci
      have htk : taken (costs s cars floor dir) (j + 1) = taken (costs s cars floor dir) j ++ [.int .i64 (costOf s c floor dir)] := by rw [taken_succ (by rw [costs_len]; omega), costs_at s cars floor dir j c hcj]
      have HT := Lib.hid htk
      have HB := Lib.hid hbq
      have hgs := hbq.size
      have HO := Lib.hid hown
      clear hbs hce hcc htk hbq hown hcj hcw1 hc
      go_wp2_with fail
      refine (near_Cost s A C c A3 C3 floor dir _ HZ.out f0 f1 (by omega) (by omega)).mono ?_
      rintro e w2 ⟨rfl, hb⟩
      have hg2 : Below wr.heap.size wr w2 := (below_alloc1 _ _).trans (hb.mono (by simp))
      have ho2 := ownsRow_below HO.out hg2
      have hb2 : Below w1.heap.size w1 w2 := HB.out.trans (hg2.mono HB.out.size)
      have hs2 : w1.heap.size ≤ w2.heap.size := hb2.size
      have HB2 := Lib.hid hb2
      clear hb hg2 hb2
      go_wp2_with (at_builtin; refine wpList_append_own _ rfl _ _ 53 rfl w1.heap.size 3 i0 (.int .i64 0) 1 8 Try.underlying53 hi hz0 hz1 hz2 rfl (by decide) _ _ _ rfl (ho2.alloc _) ⟨w2.heap.size, 0, none⟩ 1 1 [.int .i64 (costOf s c floor dir)] rfl rfl ?c1 ?c2 ?c3 ?c4 ?c5 ?_)
      case c1 => exact cell_one _ _ _
      case c2 => intro u hu; simp at hu; subst hu; rfl
      case c3 => unfold maxLen; omega
      case c4 => omega
      case c5 => simp; omega
      intro v' w4 hown' hgrow _
      rw [← HT.out] at hown'
      have hb4 : Below w1.heap.size w1 w4 := (HB2.out.alloc hs2 _).grown hgrow (by simp; omega) (fun k hk => (ho2.lt k hk).1)
      clear hgrow
      go_wp2
      go_roundw
      case rel => exact ⟨j + 1, by omega, by go_num, hown', hb4⟩
      case measure => simp [intOf]; omega
    · obtain rfl : j = cars.length := by omega
      obtain ⟨A', C', rfl, hints⟩ := owns_ints hown (costs_len s cars floor dir).symm
      have hl := near_Least A' C' (costs s cars floor dir) wr hints (by rw [costs_len]; omega)
      rw [costs_len] at hl
      have hv : Value.slice A' (costs s cars floor dir).length C' = .slice A' cars.length C' := by rw [costs_len]
      have HL := Lib.hid hl
      have hfin : Below w.heap.size w wr := hBw1.trans (hbq.mono hBw1.size)
      clear hl hints hown
      go_wp2_with (first | (go_at_call 39; refine (HL.out).mono ?_; rintro e w' ⟨rfl, rfl⟩))
      go_ret
      exact ⟨rfl, hfin⟩
theorem ref_Best (s : Scen) (A : Option Addr) (C : Nat) (cars : List Car) (A2 : Option Addr) (C2 : Nat) (floor dir : Int) (w : World) (hs : s.small) (hc : RSlice 6 RCar w [.slice A2 cars.length C2] cars) (hin : allIn s cars) (f0 : 0 ≤ floor) (f1 : floor ≤ 128) :
    Calls Try.prog 45 #[s.val A C, .slice A2 cars.length C2, .int .i64 floor, .int .i64 dir] w fun e w' => e = .returned (.int .i64 (leastN (costs s cars floor dir) cars.length)) ∧ Below w.heap.size w w' := by
  obtain ⟨i0, hi, hz0, hz1, hz2⟩ := info_parts info_int
  have h16 := hin.1
  have hh := high_bd hs
  have HI := Lib.hid hin
  have HZ := Lib.hid hs
  clear hin hs
  go_enter Try.func45, Try.ntmps45
  go_wp2
  obtain ⟨hBw1, hcw1, hzw1⟩ := box w 25 (s.cells A C).toArray
  change Code.wp _ _ _ _ (w.alloc (.cells (s.cells A C).toArray 25))
  generalize (w.alloc (.cells (s.cells A C).toArray 25)) = w1 at *
  have hlt1 : w.heap.size < w1.heap.size := by omega
  clear hzw1
  go_loopw [9, 10] (fun v i wr => ∃ j : Nat, j ≤ cars.length ∧ i = .int .i64 j ∧ wr.ownsRow w1.heap.size 3 1 v j (taken (costs s cars floor dir) j) ∧ Below w1.heap.size w1 wr) (fun _ i _ => cars.length - (intOf i).toNat)
  case atStart => exact ⟨0, by omega, rfl, by rw [taken_zero]; exact World.ownsRow_nil _ _ _ _, Below.refl _ _⟩
  case round =>
    obtain ⟨j, hj, rfl, hown, hbq⟩ := hrel
    have hlr : w.heap.size < wr.heap.size := by have := hbq.size; omega
    by_cases hjl : j < cars.length
    · obtain ⟨b, off, rfl, hbl, hce⟩ := slice_at hc (by omega)
      obtain ⟨c, hcj⟩ : ∃ c, cars[j]? = some c := ⟨_, List.getElem?_eq_getElem hjl⟩
      obtain ⟨es, ⟨A3, C3, rfl, hok, _⟩, _, hcc⟩ := hce j c hcj
      have hbs : ∀ p : Addr, p.block < w.heap.size → w1.cell? p = w.cell? p := fun p hp => hBw1.cell hp
      have hbl1 : b < w1.heap.size := by omega
      have z0 := (hbs ⟨b, off + j * 6 + 0, none⟩ hbl).trans (hcc 0 _ rfl)
      have z1 := (hbs ⟨b, off + j * 6 + 1, none⟩ hbl).trans (hcc 1 _ rfl)
      have z2 := (hbs ⟨b, off + j * 6 + 2, none⟩ hbl).trans (hcc 2 _ rfl)
      have z3 := (hbs ⟨b, off + j * 6 + 3, none⟩ hbl).trans (hcc 3 _ rfl)
      have z4 := (hbs ⟨b, off + j * 6 + 4, none⟩ hbl).trans (hcc 4 _ rfl)
      have z5 := (hbs ⟨b, off + j * 6 + 5, none⟩ hbl).trans (hcc 5 _ rfl)
      simp only [Nat.add_zero] at z0
      have hci := HI.out.2 j c hcj
      obtain ⟨⟨p0, p1⟩, _⟩ := hci
      have htk : taken (costs s cars floor dir) (j + 1) = taken (costs s cars floor dir) j ++ [.int .i64 (costOf s c floor dir)] := by rw [taken_succ (by rw [costs_len]; omega), costs_at s cars floor dir j c hcj]
      have HT := Lib.hid htk
      have HB := Lib.hid hbq
      have hgs := hbq.size
      have HO := Lib.hid hown
      clear hbs hce hcc htk hbq hown hcj hc
      have ho1 := HO.out
      go_wp2
      have hcells : ∀ b o, b < w1.heap.size → wr.drew.cell? ⟨b, o, none⟩ = w1.cell? ⟨b, o, none⟩ := fun b o h => HB.out.cell (p := ⟨b, o, none⟩) h
      have HC := Lib.hid hcells
      clear hcells
      go_region_held3 (fun w' => Below w1.heap.size w1 w' ∧ ∀ b o, b < w1.heap.size → w'.cell? ⟨b, o, none⟩ = w1.cell? ⟨b, o, none⟩) (first | exact ⟨HB.out.drew, HC.out⟩ | exact held_mk hb2 | exact held_mk (hb2.alloc hs2 _) | exact held_mk hb4) (first | (go_at_call 43; refine (ref_Cost s A C c A3 C3 floor dir _ HZ.out f0 f1 (by omega) (by omega) (by omega)).mono ?_; rintro e w2 ⟨rfl, hb⟩; have hb2 : Below w1.heap.size w1 w2 := HB.out.drew.trans (hb.mono hgs); have hs2 := hb2.size; have ho2 := ownsRow_below ho1.drew hb; clear hb) | (refine step_append_lies _ rfl _ _ 53 rfl w1.heap.size 3 i0 (.int .i64 0) 1 8 Try.underlying53 hi hz0 hz1 hz2 rfl (by decide) _ _ _ rfl (ho2.alloc _) ⟨w2.heap.size, 0, none⟩ 1 1 [.int .i64 (costOf s c floor dir)] rfl rfl (cell_one _ _ _) (one_cell _) (by decide) (by unfold maxLen; omega) (by omega) (by simp; omega) _ rfl ?_; intro g cap w4 hown' hgrow _ _; have hb4 : Below w1.heap.size w1 w4 := (hb2.alloc hs2 _).grown hgrow (by simp; omega) (fun k hk => (ho2.lt k hk).1); clear hgrow))
      rw [← HT.out] at hown'
      go_wp2
      go_roundw
      case rel => exact ⟨j + 1, by omega, by go_num, hown', hb4⟩
      case measure => simp [intOf]; omega
    · obtain rfl : j = cars.length := by omega
      obtain ⟨A', C', rfl, hints⟩ := owns_ints hown (costs_len s cars floor dir).symm
      have hl := ref_Least A' C' (costs s cars floor dir) wr hints (by rw [costs_len]; omega)
      rw [costs_len] at hl
      have hv : Value.slice A' (costs s cars floor dir).length C' = .slice A' cars.length C' := by rw [costs_len]
      have HL := Lib.hid hl
      have hfin : Below w.heap.size w wr := hBw1.trans (hbq.mono hBw1.size)
      clear hl hints hown
      go_wp2_with (first | (go_at_call 68; refine (HL.out).mono ?_; rintro e w' ⟨rfl, nq, rfl⟩))
      go_ret
      exact ⟨rfl, below_drewN hfin _⟩
end Go.Proofs.Ytfpmdldngnopjaa

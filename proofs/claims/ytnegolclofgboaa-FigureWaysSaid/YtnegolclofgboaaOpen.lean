
/-
  The ticks at which a door opens at a place: hoistwaylaw35.openings. Condition: the legs are within bounds.
-/
import Derived.Test.YtnegolclofgboaaDoors25
import Derived.Test.YtnegolclofgboaaFar25
set_option linter.unusedVariables false
set_option linter.unusedSimpArgs false
namespace Go.Proofs.Ytnegolclofgboaa
open Go.Joins Go.ChangeShapes Go.WideShapes Go.ChangeAt Go.RowKit Go.Deep

def spnAt (D : List Spn) (i : Nat) : Spn := D.getD i ⟨0, 0⟩
theorem spnAt_of {D : List Spn} {k : Nat} {s : Spn} (h : D[k]? = some s) : spnAt D k = s := by simp [spnAt, List.getD, h]
/-- The ticks of the first k spans that begin at a place. -/
def opensN (ls : List Leg) (pos : Int) (D : List Spn) : Nat → List Int
  | 0 => []
  | k + 1 => if wayP ls (spnAt D k).lo = pos then opensN ls pos D k ++ [(spnAt D k).lo] else opensN ls pos D k
def opensOf (ls : List Leg) (pos h : Int) : List Int := opensN ls pos (doorsOf ls h) (doorsOf ls h).length
theorem opensN_len (ls : List Leg) (pos : Int) (D : List Spn) (k : Nat) : (opensN ls pos D k).length ≤ k := by
  induction k with
  | zero => simp [opensN]
  | succ k ih => simp only [opensN]; split <;> (try simp) <;> omega
theorem opensN_mem (ls : List Leg) (pos : Int) (D : List Spn) (k : Nat) (hk : k ≤ D.length) : ∀ x ∈ opensN ls pos D k, ∃ s ∈ D, x = s.lo := by
  induction k with
  | zero => simp [opensN]
  | succ k ih =>
    intro x hx
    simp only [opensN] at hx
    split at hx
    · rw [List.mem_append] at hx
      rcases hx with hx | hx
      · exact ih (by omega) x hx
      · simp at hx
        obtain ⟨s, hs⟩ := at_some (show k < D.length by omega)
        exact ⟨s, List.mem_of_getElem? hs, by rw [hx, spnAt_of hs]⟩
    · exact ih (by omega) x hx
/-- The spans of a car's doors. -/
theorem doorsOf_bd {ls : List Leg} {h : Int} (hf : fineRow h ls) : (doorsOf ls h).length ≤ 300 ∧ ∀ s ∈ doorsOf ls h, 0 < ls.length ∧ (legAt ls 0).tick ≤ s.lo ∧ s.lo < (legAt ls 0).tick + 300 ∧ s.lo < s.hi ∧ s.hi ≤ (legAt ls 0).tick + 300 ∧ -1073741824 ≤ (legAt ls 0).tick ∧ (legAt ls 0).tick ≤ 1073741824 := by
  unfold doorsOf
  by_cases h0 : ls.length = 0
  · rw [if_pos h0]; simp [doorsN]
  · rw [if_neg h0]
    obtain ⟨b1, b2⟩ := doors_bd (D := wayD ls) (t0 := (legAt ls 0).tick) (h - (legAt ls 0).tick).toNat
    have h3 := hf.2.2 (by omega)
    have h4 := (hf.2.1.2.1 0 (by omega)).2.2
    refine ⟨by omega, fun s hs => ?_⟩
    have := b2 s hs
    omega
theorem wayB_in {ls : List Leg} {t : Int} (h0 : 0 < ls.length) (h : (legAt ls 0).tick ≤ t) : wayB ls t = true := by
  unfold wayB
  refine decide_eq_true ?_
  have : ∀ n, 0 < n → 0 < legK ls t n := fun n => by
    induction n with
    | zero => intro h; omega
    | succ n ih =>
      intro _
      simp only [legK]
      by_cases e : n = 0
      · subst e
        rw [if_pos ⟨rfl, h⟩]; omega
      · split
        · omega
        · exact ih (by omega)
  exact this _ h0
theorem ownsRow_base {w : World} {base base' size n : Nat} {e : TypeId} {v : Value} {xs : List Value} (h : w.ownsRow base e size v n xs) (hb : base' ≤ base) : w.ownsRow base' e size v n xs := by
  refine ⟨h.1, ?_⟩
  rcases h.2 with hn | ⟨g, cap, cur, hv, hg, rest⟩
  · exact .inl hn
  · exact .inr ⟨g, cap, cur, hv, Nat.le_trans hb hg, rest⟩
/-- A call that hands out numbers of its own. -/
def RetOwnI (ys : List Int) (w : World) (e : Ending) (w' : World) : Prop := ∃ v, e = .returned v ∧ w'.ownsRow w.heap.size 3 1 v ys.length (intV ys) ∧ Below w.heap.size w w'
set_option maxRecDepth 20000 in
set_option maxHeartbeats 8000000 in
theorem law35_openings (A : Option Addr) (C : Nat) (ls : List Leg) (pos h : Int) (w : World) (hx : Legs w A ls) (hf : fineRow h ls) (hh : -1 ≤ h ∧ h ≤ 1073741824) :
    Calls Try.prog 17 #[.slice A ls.length C, .int .i64 pos, .int .i64 h] w (RetOwnI (opensOf ls pos h) w) := by
  obtain ⟨i0, hi, hz0, hz1, hz2⟩ := info_parts info_int
  have cD := ref25_Doors A C ls h w hx hf hh
  have cA := fun (t : Int) (w' : World) (hb : Below w.heap.size w w') (ht : -2147483648 ≤ t ∧ t ≤ 2147483648) => ref25_At A C ls t w' (hx.below hb) hf.2.1 ht
  obtain ⟨d1, d2⟩ := doorsOf_bd hf
  unfold opensOf
  have hlen := fun k => opensN_len ls pos (doorsOf ls h) k
  have hst : ∀ k s, (doorsOf ls h)[k]? = some s → opensN ls pos (doorsOf ls h) (k + 1) = if wayP ls s.lo = pos then opensN ls pos (doorsOf ls h) k ++ [s.lo] else opensN ls pos (doorsOf ls h) k := fun k s hs => by
    simp only [opensN]
    rw [spnAt_of hs]
  have hz : opensN ls pos (doorsOf ls h) 0 = [] := rfl
  generalize opensN ls pos (doorsOf ls h) = G at *
  generalize doorsOf ls h = D at *
  have CD := Lib.hid cD
  have CA := Lib.hid cA
  have D2 := Lib.hid d2
  have HLEN := Lib.hid hlen
  have HST := Lib.hid hst
  have HZ := Lib.hid hz
  clear cD cA d2 hlen hst hz hx hf
  go_enter Try.func17, Try.ntmps17
  go_wp2_with (go_at_call 19; refine CD.out.mono ?_)
  rintro e w2 ⟨A2, C2, rfl, hel, hb2⟩
  have HE := Lib.hid hel
  have HB2 := Lib.hid hb2
  have hsz2 := hb2.size
  clear hel hb2 CD
  go_wp2_with (with_reducible refine hold_loop ?_)
  unfold Hold
  go_loopw [9, 7, 10, 11] (fun i v _ _ wr => ∃ k : Nat, k ≤ D.length ∧ i = .int .i64 k ∧ Hid (wr.ownsRow w2.heap.size 3 1 v (G k).length (intV (G k))) ∧ Below w2.heap.size w2 wr) (fun i _ _ _ _ => D.length - (intOf i).toNat)
  case atStart => exact ⟨0, by omega, rfl, by rw [HZ.out]; exact World.ownsRow_nil _ _ _ _, Below.refl _ _⟩
  case round =>
    obtain ⟨k, hk, rfl, hown, hb⟩ := hrel
    have hbw : Below w.heap.size w wr := HB2.out.trans (hb.mono HB2.out.size)
    by_cases hkl : k < D.length
    rotate_left
    · obtain rfl : k = D.length := by omega
      have HBW := Lib.hid hbw
      clear hbw hb
      go_wp2
      go_ret
      exact ⟨_, rfl, ownsRow_base hown.out HB2.out.size, HBW.out⟩
    · obtain ⟨b2, off2, rfl, hbl2, hce2⟩ := (HE.out.below hb) (by omega)
      obtain ⟨s, hs⟩ := at_some hkl
      have z0 := hce2 k s hs 0 _ rfl
      simp only [Nat.add_zero] at z0
      have hsb := D2.out s (List.mem_of_getElem? hs)
      have hst := HST.out k s hs
      have hlk := HLEN.out k
      obtain ⟨lo, hi'⟩ := s
      simp only at z0 hsb hst
      have cA := CA.out lo wr hbw (by omega)
      generalize wayP ls lo = p at *
      generalize wayD ls lo = d at *
      generalize wayB ls lo = bb at *
      have CA2 := Lib.hid cA
      have HB := Lib.hid hb
      have hszr := hb.size
      clear cA hce2 hs hb hbw
      by_cases hp : p = pos
      · rw [if_pos hp] at hst
        have e1 : (p == pos) = true := by simpa using hp
        have HS := Lib.hid hst
        clear hst hp
        go_wp2_with (first | (go_at_call 33; refine CA2.out.mono ?_; rintro e w3 ⟨rfl, hb3⟩; have ho3 := Lib.hid (ownsRow_below (ownsRow_below hown.out hb3) ((Below.refl _ _).alloc (Nat.le_refl _) (.cells #[.int .i64 p, .bool d] 69))); have hb4 := Lib.hid ((HB.out.trans (hb3.mono HB.out.size)).alloc (HB.out.trans (hb3.mono HB.out.size)).size (.cells #[.int .i64 p, .bool d] 69)); have hsz3 := hb3.size; have z3 := (hb3.cell (p := ⟨b2, off2 + k * 2, none⟩) hbl2).trans z0; have hbl3 : b2 < w3.heap.size := Nat.lt_of_lt_of_le hbl2 hsz3; clear hb3) | (at_builtin; refine wpList_append_own _ rfl _ _ 41 rfl w2.heap.size 3 i0 (.int .i64 0) 1 8 Try.underlying41 hi hz0 hz1 hz2 rfl (by decide) _ _ _ rfl (ho3.out.alloc _) _ 1 1 [.int .i64 lo] rfl rfl ?c1 ?c2 ?c3 ?c4 ?c5 ?_))
        try (case c1 => exact cell_at (by simp) _ _)
        case c2 => first | (intro u hu; simp at hu; subst hu; rfl) | rfl
        case c3 => unfold maxLen; omega
        case c4 => omega
        case c5 => simp; omega
        intro v' w4 hown' hgrow _
        have hb5 : Below w2.heap.size w2 w4 := (hb4.out.alloc (by simp; omega) _).grown hgrow (by simp; omega) (fun i hi => (ho3.out.lt i hi).1)
        have hown2 : Hid (w4.ownsRow w2.heap.size 3 1 v' (G (k + 1)).length (intV (G (k + 1)))) := by
          rw [HS.out, intV_snoc, List.length_append]
          exact hown'
        clear hgrow hown'
        go_wp2
        go_roundw
        case rel => exact ⟨k + 1, by omega, by go_num, hown2, hb5⟩
        case measure => simp [intOf]; omega
      · rw [if_neg hp] at hst
        have e1 : (p == pos) = false := by simpa using hp
        have HS := Lib.hid hst
        clear hst hp
        go_wp2_with (go_at_call 33; refine CA2.out.mono ?_; rintro e w3 ⟨rfl, hb3⟩)
        have ho3 := ownsRow_below (ownsRow_below hown.out hb3) ((Below.refl _ _).alloc (Nat.le_refl _) (.cells #[.int .i64 p, .bool d] 69))
        have hb4 := (HB.out.trans (hb3.mono HB.out.size)).alloc (HB.out.trans (hb3.mono HB.out.size)).size (.cells #[.int .i64 p, .bool d] 69)
        have HO3 := Lib.hid ho3
        clear hb3 ho3
        go_roundw
        case rel => exact ⟨k + 1, by omega, by go_num, by rw [HS.out]; exact HO3.out, hb4⟩
        case measure => simp [intOf]; omega
end Go.Proofs.Ytnegolclofgboaa

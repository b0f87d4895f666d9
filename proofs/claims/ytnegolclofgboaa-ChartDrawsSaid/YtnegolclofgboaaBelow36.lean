
/-
  Does some car come below the lowest floor: hoistwaylaw36.below. Conditions: the legs are within bounds.
-/
import Derived.Test.YtnegolclofgboaaAll25
import Derived.Test.YtnegolclofgboaaSeq
set_option linter.unusedVariables false
set_option linter.unusedSimpArgs false
namespace Go.Proofs.Ytnegolclofgboaa
open Go.Joins Go.ChangeShapes Go.WideShapes Go.ChangeAt Go.RowKit Go.Deep

/-- No car of them comes below. -/
def noneB (xss : List (List Leg)) (h : Int) : Prop := ∀ (i : Nat) (xs : List Leg), xss[i]? = some xs → ∀ (k : Nat) (u : TickR), (allT xs h)[k]? = some u → 0 ≤ u.pos
def Below36Post (xss : List (List Leg)) (h : Int) (w : World) (e : Ending) (w' : World) : Prop := ∃ b : Bool, e = .returned (.bool b) ∧ (b = false → noneB xss h) ∧ Below w.heap.size w w'
theorem noneB_at {xss : List (List Leg)} {h : Int} (hn : noneB xss h) {i : Nat} {xs : List Leg} (hi : xss[i]? = some xs) {t : Int} (h1 : t < h) (hw : wayB xs t = true) (hf : fineLs xs) : 0 ≤ wayP xs t := by
  have h0 : 0 < legK xs t xs.length := by unfold wayB at hw; exact of_decide_eq_true hw
  have hk := legK_le xs t xs.length
  have ht0 : (legAt xs 0).tick ≤ t := by
    have : ∀ n, 0 < legK xs t n → (legAt xs 0).tick ≤ t := fun n => by
      induction n with
      | zero => intro h; simp [legK] at h
      | succ n ih =>
        intro h
        simp only [legK] at h
        by_cases e : legK xs t n = n ∧ (legAt xs n).tick ≤ t
        · rw [if_pos e] at h
          by_cases e0 : n = 0
          · rw [← e0]; exact e.2
          · exact ih (by omega)
        · rw [if_neg e] at h
          exact ih h
    exact this _ h0
  have hlen : ¬ xs.length = 0 := by omega
  have := hn i xs hi (t - (legAt xs 0).tick).toNat (tickAt xs t) (by
    unfold allT
    rw [if_neg hlen, ticksL_at _ _ (by omega)]
    rw [show (legAt xs 0).tick + (((t - (legAt xs 0).tick).toNat : Nat) : Int) = t by omega])
  exact this
set_option maxRecDepth 20000 in
set_option maxHeartbeats 4000000 in
theorem law36_below (lA : Option Addr) (lC : Nat) (xss : List (List Leg)) (h : Int) (w : World) (hx : LegRows w lA xss) (hf : fine35 xss h) :
    Calls Try.prog 7 #[.slice lA xss.length lC, .int .i64 h] w (Below36Post xss h w) := by
  obtain ⟨hl, hh, hr⟩ := hf
  have HX := Lib.hid hx
  have HR := Lib.hid hr
  clear hx hr
  go_enter Try.func7, Try.ntmps7
  go_wp2
  go_loopw [5] (fun i wr => ∃ k : Nat, k ≤ xss.length ∧ i = .int .i64 k ∧ Hid (∀ (i : Nat) (xs : List Leg), i < k → xss[i]? = some xs → ∀ (j : Nat) (u : TickR), (allT xs h)[j]? = some u → 0 ≤ u.pos) ∧ Below w.heap.size w wr) (fun i _ => xss.length - (intOf i).toNat)
  case atStart => exact ⟨0, by omega, rfl, fun i xs hi => by omega, Below.refl _ _⟩
  case round =>
    obtain ⟨k, hk, rfl, hpre, hb⟩ := hrel
    by_cases hkl : k < xss.length
    · obtain ⟨b, off, rfl, hbl, hce⟩ := HX.out (by omega)
      obtain ⟨xs, hgx⟩ := at_some hkl
      obtain ⟨A', C', z, hel⟩ := hce k xs hgx
      replace z := (hb.cell (p := ⟨b, off + k, none⟩) hbl).trans z
      have cA := ref25_All A' C' xs h wr (hel.below hb) (HR.out k xs hgx) hh
      have hnext : (∀ (j : Nat) (u : TickR), (allT xs h)[j]? = some u → 0 ≤ u.pos) → Hid (∀ (i : Nat) (xs : List Leg), i < k + 1 → xss[i]? = some xs → ∀ (j : Nat) (u : TickR), (allT xs h)[j]? = some u → 0 ≤ u.pos) := fun hn i xs' hi hi2 => by
        by_cases e : i < k
        · exact hpre.out i xs' e hi2
        · obtain rfl : i = k := by omega
          rw [hgx] at hi2
          injection hi2 with hi2
          subst hi2
          exact hn
      have hln : (allT xs h).length ≤ 300 := by
        unfold allT
        rw [ticksL_len]
        split
        · omega
        · have := (HR.out k xs hgx).2.2 (by omega); omega
      clear hce hel hgx
      generalize allT xs h = L at *
      have CA := Lib.hid cA
      have HN := Lib.hid hnext
      have HB := Lib.hid hb
      clear cA hnext hb
      go_wp2_with (go_at_call 28; refine CA.out.mono ?_)
      rintro e w2 ⟨A2, C2, rfl, hel2, hb2⟩
      have hb3 := HB.out.trans (hb2.mono HB.out.size)
      have HB3 := Lib.hid hb3
      have HE := Lib.hid hel2
      clear hb2 hb3 hel2 CA
      go_wp2_with (with_reducible refine hold_loop ?_)
      unfold Hold
      go_loopw [7] (fun i wr => wr = w2 ∧ ∃ j : Nat, j ≤ L.length ∧ i = .int .i64 j ∧ Hid (∀ (i : Nat) (u : TickR), i < j → L[i]? = some u → 0 ≤ u.pos)) (fun i _ => L.length - (intOf i).toNat)
      case atStart => exact ⟨rfl, 0, by omega, rfl, fun i u hi => by omega⟩
      case round =>
        obtain ⟨rfl, j, hj, rfl, hq⟩ := hrel
        by_cases hjl : j < L.length
        · obtain ⟨b3, off3, rfl, hbl3, hce3⟩ := HE.out (by omega)
          obtain ⟨u, hu⟩ := at_some hjl
          have y0 := hce3 j u hu 0 _ rfl
          simp only [Nat.add_zero] at y0
          obtain ⟨p, d⟩ := u
          simp only at y0
          by_cases hneg : p < 0
          · clear hce3 hu
            go_wp2
            go_ret
            exact ⟨true, rfl, (fun h => by cases h), HB3.out⟩
          · have hq2 : Hid (∀ (i : Nat) (u : TickR), i < j + 1 → L[i]? = some u → 0 ≤ u.pos) := fun i u' hi hi2 => by
              by_cases e : i < j
              · exact hq.out i u' e hi2
              · obtain rfl : i = j := by omega
                rw [hu] at hi2
                injection hi2 with hi2
                subst hi2
                show 0 ≤ p
                omega
            clear hce3 hu
            go_wp2
            go_roundw
            case rel => exact ⟨trivial, j + 1, by omega, by go_num, hq2⟩
            case measure => simp [intOf]; omega
        · obtain rfl : j = L.length := by omega
          have hnx := HN.out (fun i u hi => hq.out i u (List.getElem?_eq_some_iff.1 hi).1 hi)
          go_wp2
          go_roundw
          case rel => exact ⟨k + 1, by omega, by go_num, hnx, HB3.out⟩
          case measure => simp [intOf]; omega
    · have hn : noneB xss h := fun i xs hi => hpre.out i xs (by have := (List.getElem?_eq_some_iff.1 hi).1; omega) hi
      obtain rfl : k = xss.length := by omega
      have HN := Lib.hid hn
      clear hn
      go_wp2
      go_ret
      exact ⟨false, rfl, fun _ => HN.out, hb⟩
end Go.Proofs.Ytnegolclofgboaa

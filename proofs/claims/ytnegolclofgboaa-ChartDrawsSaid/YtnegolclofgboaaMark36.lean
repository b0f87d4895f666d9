
/-
  What stands for the cars at a floor, by the statement: hoistwaylaw36.mark, hoistwaylaw36.below. Conditions: the legs are within bounds.
-/
import Derived.Test.YtnegolclofgboaaChartP
import Derived.Test.YtnegolclofgboaaAll25
import Derived.Test.YtnegolclofgboaaSeq
import Derived.Laws.DeepStrings4
set_option linter.unusedVariables false
set_option linter.unusedSimpArgs false
namespace Go.Proofs.Ytnegolclofgboaa
open Go.Joins Go.ChangeShapes Go.WideShapes Go.ChangeAt Go.RowKit Go.Deep

theorem cut_at (n : Nat) (h : n < 10) (w : World) : (Instr.slice 9 (.string ⟨#[48, 49, 50, 51, 52, 53, 54, 55, 56, 57, 97, 98, 99, 100, 101, 102, 103, 104, 105, 106]⟩) (some (.int .i64 (n : Int))) (some (.int .i64 ((n : Int) + 1))) none).run Try.prog w = .ok (.string (txt [markC 1 n])) w := by
  rw [run_slice_string_if _ _ _ _ _ _ _ Try.underlying9, if_pos ⟨by omega, by show ((n : Int) + 1) ≤ (20 : Int); omega⟩, if_pos (by omega)]
  have : n = 0 ∨ n = 1 ∨ n = 2 ∨ n = 3 ∨ n = 4 ∨ n = 5 ∨ n = 6 ∨ n = 7 ∨ n = 8 ∨ n = 9 := by omega
  rcases this with rfl | rfl | rfl | rfl | rfl | rfl | rfl | rfl | rfl | rfl <;> rfl
set_option maxRecDepth 20000 in
set_option maxHeartbeats 8000000 in
theorem law36_mark (lA : Option Addr) (lC : Nat) (xss : List (List Leg)) (f gap t : Int) (w : World) (hx : LegRows w lA xss) (hl : xss.length ≤ 10) (hr : ∀ (i : Nat) (xs : List Leg), xss[i]? = some xs → fineLs xs) (hf : 0 ≤ f ∧ f ≤ 20) (hg : 1 ≤ gap ∧ gap ≤ 16) (ht : 0 ≤ t ∧ t ≤ 300) :
    Calls Try.prog 11 #[.slice lA xss.length lC, .int .i64 f, .int .i64 gap, .int .i64 t] w fun e w' => e = .returned (.string (txt [markAt xss gap f t])) ∧ Below w.heap.size w w' := by
  obtain ⟨i0, hi, hz0, hz1, hz2⟩ := info_parts info_int
  have hp := fun i xs (hi : xss[i]? = some xs) => (hitR_eq (xss := xss) (gap := gap) (t := t) (f := f) (i := i) hg.1 hf.1).symm.trans (show hitR xss gap t f i = (wayB xs t && decide (f * gap ≤ wayP xs t) && decide (wayP xs t < f * gap + gap)) by unfold hitR; rw [rowD_of hi])
  unfold markAt
  generalize hitB xss gap t f = p at *
  have m0 : 0 ≤ f * gap := Int.mul_nonneg (by omega) (by omega)
  have m1 : f * gap ≤ 20 * 16 := Int.mul_le_mul (by omega) (by omega) (by omega) (by omega)
  have hlen := fun k => hitsN_len p k
  have hsc : ∀ k, hitsN p (k + 1) = if p k = true then hitsN p k ++ [(k : Int)] else hitsN p k := fun k => rfl
  have hfst := hitsN_first p xss.length
  have hflt := firstN_lt (p := p) (k := xss.length)
  have hml := fun k => manyN_le p k
  have hln0 := hlen xss.length
  have hml0 := hml xss.length
  generalize manyN p xss.length = m at hln0 hfst hflt hml0 ⊢
  generalize firstN p xss.length = f0 at hfst hflt ⊢
  have HLN0 := Lib.hid hln0
  have HX := Lib.hid hx
  have HR := Lib.hid hr
  have HP := Lib.hid hp
  have HLN := Lib.hid hlen
  have HSC := Lib.hid hsc
  have HFST := Lib.hid hfst
  have HFLT := Lib.hid hflt
  have HML := Lib.hid hml
  have HZ : Hid (hitsN p 0 = []) := rfl
  clear hx hr hp hlen hsc hfst hflt hml hln0
  generalize hitsN p = H at *
  go_enter Try.func11, Try.ntmps11
  go_wp2
  go_loopw [10, 9] (fun i v wr => ∃ k : Nat, k ≤ xss.length ∧ i = .int .i64 k ∧ Hid (wr.ownsRow w.heap.size 3 1 v (H k).length (intV (H k))) ∧ Below w.heap.size w wr) (fun i _ _ => xss.length - (intOf i).toNat)
  case atStart => exact ⟨0, by omega, rfl, by rw [HZ.out]; exact World.ownsRow_nil _ _ _ _, Below.refl _ _⟩
  case round =>
    obtain ⟨k, hk, rfl, hown, hb⟩ := hrel
    by_cases hkl : k < xss.length
    · obtain ⟨b, off, rfl, hbl, hce⟩ := HX.out (by omega)
      obtain ⟨xs, hgx⟩ := at_some hkl
      obtain ⟨A', C', z, hel⟩ := hce k xs hgx
      replace z := (hb.cell (p := ⟨b, off + k, none⟩) hbl).trans z
      have hfn := HR.out k xs hgx
      have hbd := wayP_bd hfn ht
      have cA := ref25_At A' C' xs t wr (hel.below hb) hfn (by omega)
      have hpk := HP.out k xs hgx
      have hsk := HSC.out k
      have hlk : (H k).length ≤ 10 := by rw [HLN.out k]; have := HML.out k; omega
      rw [hpk] at hsk
      clear hce hel hgx hfn hpk
      generalize wayP xs t = v at *
      generalize wayD xs t = d at *
      have hz := hb.size
      have HB := Lib.hid hb
      cases hwb : wayB xs t
      · rw [hwb, Bool.false_and, Bool.false_and, if_neg (by decide)] at hsk
        rw [hwb] at cA
        have CA := Lib.hid cA
        have HSK := Lib.hid hsk
        clear cA hsk hwb hb
        go_wp2_with (go_at_call 33; refine CA.out.mono ?_; rintro e w2 ⟨rfl, hb2⟩)
        have hb3 := HB.out.trans (hb2.mono HB.out.size)
        have ho3 := ownsRow_below (ownsRow_below hown.out hb2) ((Below.refl _ _).alloc (Nat.le_refl _) (.cells #[.int .i64 v, .bool d] 69))
        have hb4 := hb3.alloc hb3.size (.cells #[.int .i64 v, .bool d] 69)
        have HO3 := Lib.hid ho3
        clear hb2 hb3 ho3
        go_roundw
        case rel => exact ⟨k + 1, by omega, by go_num, by rw [HSK.out]; exact HO3.out, hb4⟩
        case measure => simp [intOf]; omega
      · rw [hwb, Bool.true_and] at hsk
        rw [hwb] at cA
        have CA := Lib.hid cA
        clear cA hwb hb
        by_cases h1 : f * gap ≤ v
        · by_cases h2 : v < f * gap + gap
          · rw [decide_eq_true h1, decide_eq_true h2, Bool.true_and, if_pos rfl] at hsk
            have HSK := Lib.hid hsk
            clear hsk
            go_wp2_with (first | (go_at_call 33; refine CA.out.mono ?_; rintro e w2 ⟨rfl, hb2⟩; have ho3 := Lib.hid (ownsRow_below (ownsRow_below hown.out hb2) ((Below.refl _ _).alloc (Nat.le_refl _) (.cells #[.int .i64 v, .bool d] 69))); have hb4 := Lib.hid ((HB.out.trans (hb2.mono HB.out.size)).alloc (HB.out.trans (hb2.mono HB.out.size)).size (.cells #[.int .i64 v, .bool d] 69)); have hsz2 := hb2.size; clear hb2) | (at_builtin; refine wpList_append_own _ rfl _ _ 41 rfl w.heap.size 3 i0 (.int .i64 0) 1 8 Try.underlying41 hi hz0 hz1 hz2 rfl (by decide) _ _ _ rfl (ho3.out.alloc _) _ 1 1 [.int .i64 (k : Int)] rfl rfl ?c1 ?c2 ?c3 ?c4 ?c5 ?_))
            case c1 => exact cell_at (by simp) _ _
            case c2 => intro u hu; simp at hu; subst hu; rfl
            case c3 => unfold maxLen; omega
            case c4 => omega
            case c5 => simp; omega
            intro v' w4 hown' hgrow _
            have hb5 : Below w.heap.size w w4 := (hb4.out.alloc (by simp; omega) _).grown hgrow (by simp; omega) (fun k hk => (ho3.out.lt k hk).1)
            have hown2 : Hid (w4.ownsRow w.heap.size 3 1 v' (H (k + 1)).length (intV (H (k + 1)))) := by
              rw [HSK.out, intV_snoc, List.length_append]
              exact hown'
            clear hgrow hown'
            go_wp2
            go_roundw
            case rel => exact ⟨k + 1, by omega, by go_num, hown2, hb5⟩
            case measure => simp [intOf]; omega
          · have HV := Lib.hid hsk
            rw [decide_eq_false h2, Bool.and_false, if_neg (by decide)] at hsk
            have HSK := Lib.hid hsk
            clear hsk HV
            go_wp2_with (go_at_call 33; refine CA.out.mono ?_; rintro e w2 ⟨rfl, hb2⟩)
            have hb3 := HB.out.trans (hb2.mono HB.out.size)
            have ho3 := ownsRow_below (ownsRow_below hown.out hb2) ((Below.refl _ _).alloc (Nat.le_refl _) (.cells #[.int .i64 v, .bool d] 69))
            have hb4 := hb3.alloc hb3.size (.cells #[.int .i64 v, .bool d] 69)
            have HO3 := Lib.hid ho3
            clear hb2 hb3 ho3
            go_roundw
            case rel => exact ⟨k + 1, by omega, by go_num, by rw [HSK.out]; exact HO3.out, hb4⟩
            case measure => simp [intOf]; omega
        · rw [decide_eq_false h1, Bool.false_and, if_neg (by decide)] at hsk
          have HSK := Lib.hid hsk
          clear hsk
          go_wp2_with (go_at_call 33; refine CA.out.mono ?_; rintro e w2 ⟨rfl, hb2⟩)
          have hb3 := HB.out.trans (hb2.mono HB.out.size)
          have ho3 := ownsRow_below (ownsRow_below hown.out hb2) ((Below.refl _ _).alloc (Nat.le_refl _) (.cells #[.int .i64 v, .bool d] 69))
          have hb4 := hb3.alloc hb3.size (.cells #[.int .i64 v, .bool d] 69)
          have HO3 := Lib.hid ho3
          clear hb2 hb3 ho3
          go_roundw
          case rel => exact ⟨k + 1, by omega, by go_num, by rw [HSK.out]; exact HO3.out, hb4⟩
          case measure => simp [intOf]; omega
    · obtain rfl : k = xss.length := by omega
      obtain ⟨A', C', rfl, hints⟩ := owns_ints hown.out
      have hln := HLN0.out
      have hfst := HFST.out
      have hflt := HFLT.out
      generalize H xss.length = L at *
      have HI := Lib.hid hints
      have HB := Lib.hid hb
      have hcs : m = 0 ∨ 1 < m ∨ m = 1 := by omega
      clear hown hints hb
      rcases hcs with rfl | h1 | rfl
      · have hln2 : L = [] := List.length_eq_zero_iff.1 hln
        subst hln2
        clear hln hfst hflt
        go_wp2
        go_ret
        exact ⟨rfl, HB.out⟩
      · have e0 : ((L.length : Int) == 0) = false := beq_eq_false_iff_ne.2 (by omega)
        have e1 : decide ((1 : Int) < (L.length : Int)) = true := decide_eq_true (by omega)
        have e2 : 1 < L.length := by omega
        have hm : markC m f0 = 42 := by unfold markC; rw [if_neg (by omega), if_pos h1]
        have HM := Lib.hid hm
        clear hm hln hfst hflt h1
        go_wp2
        go_ret
        exact ⟨by rw [HM.out]; rfl, HB.out⟩
      · have e0 : ((L.length : Int) == 0) = false := beq_eq_false_iff_ne.2 (by omega)
        have e1 : ¬ 1 < L.length := by omega
        have e2 : 0 < L.length := by omega
        obtain ⟨b, off, rfl, hbl, hce⟩ := HI.out (by omega)
        have hc0 := hce 0 (by omega)
        have hf0 := hfst (by omega)
        have hat : at0 L 0 = (f0 : Int) := by unfold at0; simp [List.getD, hf0]
        rw [hat] at hc0
        simp only [Nat.add_zero] at hc0
        have hlt := hflt (by omega)
        have hcut := fun w => cut_at f0 (by omega) w
        have e3 : IntKind.i64.wrap ((f0 : Int) + 1) = (f0 : Int) + 1 := IntWalk.i64_in _ (by omega)
        have e4 : (0 : Int) < (L.length : Int) := by omega
        clear hln hfst hflt hce hat hf0
        go_wp2_with fail
        go_quiet (fail)
        clear hcut e3
        go_wp2
        go_ret
        exact ⟨rfl, below_drewN HB.out _⟩
end Go.Proofs.Ytnegolclofgboaa


/-
  How long a bar is: bars.Long and hoistwayref55.Long. Condition: the numbers fit their kind.
-/
import Derived.Test.YtnlieclfajebbaaMulDiv
import Derived.Test.YtnlieclfajebbaaNumsMul2
set_option linter.unusedVariables false
set_option linter.unusedSimpArgs false
namespace Go.Proofs.Ytnlieclfajebbaa
open Go.Joins Go.ChangeShapes Go.WideShapes Go.ChangeAt Go.RowKit Go.Deep

def barBad (n g l : Int) : Prop := n < 0 ∨ g < n ∨ l < 1 ∨ 200 < l
instance (n g l : Int) : Decidable (barBad n g l) := by unfold barBad; infer_instance
def barV (n g l : Int) : Int := if barBad n g l then 0 else if n = 0 then 0 else l - (g - n) * l / g
def barE (n g l : Int) : Int := if barBad n g l then 22 else 0
theorem bar_bd (n g l : Int) : 0 ≤ barV n g l ∧ (barBad n g l → barV n g l = 0 ∧ barE n g l = 22) ∧ (¬ barBad n g l → barE n g l = 0 ∧ barV n g l ≤ l ∧ (0 < barV n g l ↔ 0 < n) ∧ n * l ≤ barV n g l * g ∧ ∀ j : Int, 0 ≤ j → j < barV n g l → j * g < n * l) := by
  by_cases hb : barBad n g l
  · have h1 : barV n g l = 0 := by unfold barV; rw [if_pos hb]
    have h2 : barE n g l = 22 := by unfold barE; rw [if_pos hb]
    exact ⟨by omega, fun _ => ⟨h1, h2⟩, fun h => absurd hb h⟩
  · have h2 : barE n g l = 0 := by unfold barE; rw [if_neg hb]
    by_cases h0 : n = 0
    · have h1 : barV n g l = 0 := by unfold barV; rw [if_neg hb, if_pos h0]
      unfold barBad at hb
      refine ⟨by omega, fun h => absurd h hb, fun _ => ⟨h2, by omega, by omega, by rw [h1, h0]; omega, fun j j0 j1 => by omega⟩⟩
    · have h1 : barV n g l = l - (g - n) * l / g := by unfold barV; rw [if_neg hb, if_neg h0]
      rw [h1, h2]
      have hb2 := hb
      unfold barBad at hb2
      have hn : 0 < n := by omega
      have hg : 0 < g := by omega
      have hl : 0 < l := by omega
      have p1 := Int.ediv_mul_le ((g - n) * l) (show g ≠ 0 by omega)
      have p2 := Int.lt_ediv_add_one_mul_self ((g - n) * l) hg
      have p0 : 0 ≤ (g - n) * l := Int.mul_nonneg (by omega) (by omega)
      have q0 : 0 ≤ (g - n) * l / g := Int.ediv_nonneg p0 (by omega)
      have p3 : (g - n) * l = g * l - n * l := Int.sub_mul g n l
      have p4 : 0 < n * l := Int.mul_pos hn hl
      have q1 : (g - n) * l / g < l := by
        rw [Int.ediv_lt_iff_lt_mul hg, p3, Int.mul_comm l g]; omega
      generalize (g - n) * l / g = q at *
      have p5 : (l - q) * g = g * l - q * g := by rw [Int.sub_mul, Int.mul_comm l g]
      have p6 : (q + 1) * g = q * g + g := by rw [Int.add_mul, Int.one_mul]
      refine ⟨by omega, fun h => absurd h hb, fun _ => ⟨rfl, by omega, by omega, by omega, fun j j0 j1 => ?_⟩⟩
      have p7 : (j + 1) * g ≤ (l - q) * g := Int.mul_le_mul_of_nonneg_right (by omega) (by omega)
      have p8 : (j + 1) * g = j * g + g := by rw [Int.add_mul, Int.one_mul]
      omega
theorem ret_bar {a b c d : Int} (h : a = b) (h' : c = d) : Ending.returned (.tuple #[.int .i64 a, .int .i64 c]) = .returned (.tuple #[.int .i64 b, .int .i64 d]) := by rw [h, h']
set_option maxHeartbeats 2000000 in
theorem bars_Long (n g l : Int) (w : World) (hn : I64 n) (hg : I64 g) (hl : I64 l) :
    Calls Try.prog 35 #[.int .i64 n, .int .i64 g, .int .i64 l] w fun e w' => e = .returned (.tuple #[.int .i64 (barV n g l), .int .i64 (barE n g l)]) ∧ ∃ k, w' = w.drewN k := by
  unfold I64 at hn hg hl
  by_cases hb : barBad n g l
  · obtain ⟨_, h1, _⟩ := bar_bd n g l
    obtain ⟨h1, h2⟩ := h1 hb
    rw [h1, h2]
    have hb2 : n < 0 ∨ (0 ≤ n ∧ g < n) ∨ (0 ≤ n ∧ n ≤ g ∧ l < 1) ∨ (0 ≤ n ∧ n ≤ g ∧ 1 ≤ l ∧ 200 < l) := by unfold barBad at hb; omega
    clear hb h1 h2
    rcases hb2 with h | ⟨h, h'⟩ | ⟨h, h', h3⟩ | ⟨h, h', h3, h4⟩
    all_goals
      go_enter Try.func35, Try.ntmps35
      go_wp2
      go_ret2
      exact ⟨rfl, 0, rfl⟩
  · have h2 : barE n g l = 0 := by unfold barE; rw [if_neg hb]
    by_cases h0 : n = 0
    · have h1 : barV n g l = 0 := by unfold barV; rw [if_neg hb, if_pos h0]
      rw [h1, h2]
      unfold barBad at hb
      subst h0
      have l1 : 1 ≤ l := by omega
      have l2 : l ≤ 200 := by omega
      have g1 : 0 ≤ g := by omega
      clear hb h1 h2
      go_enter Try.func35, Try.ntmps35
      go_wp2
      go_ret2
      exact ⟨rfl, 0, rfl⟩
    · have h1 : barV n g l = l - (g - n) * l / g := by unfold barV; rw [if_neg hb, if_neg h0]
      obtain ⟨b0, _, b1⟩ := bar_bd n g l
      obtain ⟨_, b1, b2, _, _⟩ := b1 hb
      rw [h1] at b0 b1 b2
      rw [h1, h2]
      unfold barBad at hb
      have n1 : 1 ≤ n := by omega
      have g1 : n ≤ g := by omega
      have l1 : 1 ≤ l := by omega
      have l2 : l ≤ 200 := by omega
      have q0 : 0 ≤ (g - n) * l / g := Int.ediv_nonneg (Int.mul_nonneg (by omega) (by omega)) (by omega)
      have hm := md_ok (a := g - n) (b := l) (c := g) ⟨by omega, by omega, by omega⟩ (by omega)
      have cM := fun w => nums_MulDiv (g - n) l g w ⟨by omega, by omega⟩ ⟨by omega, by omega⟩ ⟨by omega, by omega⟩
      unfold MdPost at cM
      rw [hm.1, hm.2] at cM
      generalize (g - n) * l / g = q at *
      have CM := Lib.hid cM
      have hz : (n == 0) = false := beq_eq_false_iff_ne.2 h0
      clear cM hm h1 h2 hb b2 h0
      go_enter Try.func35, Try.ntmps35
      go_wp2_with fail
      refine (CM.out _).mono ?_
      rintro e w' ⟨rfl, k, rfl⟩
      go_wp2
      go_ret2
      exact ⟨rfl, k, rfl⟩
theorem lex_ge {a b x y u v : Int} (h1 : a = 18446744073709551616 * x + y) (h2 : b = 18446744073709551616 * u + v) (y0 : 0 ≤ y) (y1 : y < 18446744073709551616) (v0 : 0 ≤ v) (v1 : v < 18446744073709551616) (h : b ≤ a) : u < x ∨ (x = u ∧ v ≤ y) := by omega
theorem lex_lt {a b x y u v : Int} (h1 : a = 18446744073709551616 * x + y) (h2 : b = 18446744073709551616 * u + v) (y0 : 0 ≤ y) (y1 : y < 18446744073709551616) (v0 : 0 ≤ v) (v1 : v < 18446744073709551616) (h : a < b) : x < u ∨ (x = u ∧ y < v) := by omega
set_option maxRecDepth 20000 in
set_option maxHeartbeats 4000000 in
theorem ref55_Long (n g l : Int) (w : World) (hn : I64 n) (hg : I64 g) (hl : I64 l) :
    Calls Try.prog 36 #[.int .i64 n, .int .i64 g, .int .i64 l] w fun e w' => e = .returned (.tuple #[.int .i64 (barV n g l), .int .i64 (barE n g l)]) ∧ w' = w := by
  unfold I64 at hn hg hl
  by_cases hb : barBad n g l
  · obtain ⟨_, h1, _⟩ := bar_bd n g l
    obtain ⟨h1, h2⟩ := h1 hb
    rw [h1, h2]
    have hb2 : n < 0 ∨ (0 ≤ n ∧ g < n) ∨ (0 ≤ n ∧ n ≤ g ∧ l < 1) ∨ (0 ≤ n ∧ n ≤ g ∧ 1 ≤ l ∧ 200 < l) := by unfold barBad at hb; omega
    clear hb h1 h2
    rcases hb2 with h | ⟨h, h'⟩ | ⟨h, h', h3⟩ | ⟨h, h', h3, h4⟩
    all_goals
      go_enter Try.func36, Try.ntmps36
      go_wp2
      go_ret2
      exact ⟨rfl, rfl⟩
  · obtain ⟨b0, _, b1⟩ := bar_bd n g l
    obtain ⟨e0, b1, _, b3, b4⟩ := b1 hb
    rw [e0]
    unfold barBad at hb
    have n0 : 0 ≤ n := by omega
    have g1 : n ≤ g := by omega
    have l1 : 1 ≤ l := by omega
    have l2 : l ≤ 200 := by omega
    have cN := fun w => ref_Times n l w n0 (by omega) (by omega) (by omega)
    have cT := fun k w h0 h1 => ref_Times k g w h0 h1 (by omega) (by omega)
    have nl0 : 0 ≤ n * l := Int.mul_nonneg n0 (by omega)
    have nl1 : n * l ≤ 9223372036854775807 * 200 := Int.mul_le_mul (by omega) l2 (by omega) (by omega)
    have d1 := Int.mul_ediv_add_emod (n * l) 18446744073709551616
    have d2 := Int.emod_nonneg (n * l) (show (18446744073709551616 : Int) ≠ 0 by omega)
    have d3 := Int.emod_lt_of_pos (n * l) (show (0 : Int) < 18446744073709551616 by omega)
    have d4 : 0 ≤ n * l / 18446744073709551616 ∧ n * l / 18446744073709551616 ≤ 1000 := by omega
    generalize n * l / 18446744073709551616 = u at *
    generalize n * l % 18446744073709551616 = v at *
    generalize barV n g l = m at *
    have CN := Lib.hid cN
    have CT := Lib.hid cT
    have B3 := Lib.hid b3
    have B4 := Lib.hid b4
    have D1 := Lib.hid d1
    have NL := Lib.hid (And.intro nl0 nl1)
    clear cN cT b3 b4 d1 nl0 nl1 hb
    generalize n * l = nl at *
    go_enter Try.func36, Try.ntmps36
    go_wp2_with fail
    refine (CN.out _).mono ?_
    rintro e w' ⟨rfl, rfl⟩
    go_wp2
    go_loopw [10, 11, 12] (fun i x y wr => ∃ k : Nat, (k : Int) ≤ m ∧ i = .int .i64 (k : Int) ∧ wr = w) (fun i x y _ => (l - intOf i).toNat)
    case atStart => exact ⟨0, by omega, rfl, rfl⟩
    case round =>
      obtain ⟨k, hk, rfl, rfl⟩ := hrel
      by_cases hkl : (k : Int) < l
      · have cK := fun w => CT.out k w (by omega) (by omega)
        have k1 := Int.mul_ediv_add_emod ((k : Int) * g) 18446744073709551616
        have k2 := Int.emod_nonneg ((k : Int) * g) (show (18446744073709551616 : Int) ≠ 0 by omega)
        have k3 := Int.emod_lt_of_pos ((k : Int) * g) (show (0 : Int) < 18446744073709551616 by omega)
        have kg0 : 0 ≤ (k : Int) * g := Int.mul_nonneg (by omega) (by omega)
        have kg1 : (k : Int) * g ≤ 200 * 9223372036854775807 := Int.mul_le_mul (by omega) (by omega) (by omega) (by omega)
        have k4 : 0 ≤ (k : Int) * g / 18446744073709551616 ∧ (k : Int) * g / 18446744073709551616 ≤ 1000 := by omega
        by_cases hkm : (k : Int) = m
        · have hge : nl ≤ (k : Int) * g := by rw [hkm]; exact B3.out
          have hx := lex_ge k1.symm D1.out.symm k2 k3 d2 d3 hge
          generalize (k : Int) * g / 18446744073709551616 = x at *
          generalize (k : Int) * g % 18446744073709551616 = y at *
          have CK := Lib.hid cK
          have HK := Lib.hid hkm
          clear cK k1 kg0 kg1 hge hkm
          rcases hx with hx | ⟨rfl, hy⟩
          all_goals
            go_wp2_with fail
            refine (CK.out _).mono ?_
            rintro e w' ⟨rfl, rfl⟩
            go_wp2
            go_ret2
            exact ⟨ret_bar (by have := HK.out; omega) rfl, rfl⟩
        · have hlt : (k : Int) * g < nl := B4.out k (by omega) (by omega)
          have hx := lex_lt k1.symm D1.out.symm k2 k3 d2 d3 hlt
          have hk2 : (k : Int) + 1 ≤ m := by omega
          generalize (k : Int) * g / 18446744073709551616 = x at *
          generalize (k : Int) * g % 18446744073709551616 = y at *
          have CK := Lib.hid cK
          clear cK k1 kg0 kg1 hlt hkm
          rcases hx with hx | ⟨rfl, hy⟩
          all_goals
            go_wp2_with fail
            refine (CK.out _).mono ?_
            rintro e w' ⟨rfl, rfl⟩
            go_wp2
            go_roundw
            case rel => exact ⟨k + 1, by omega, val_int (by omega), trivial⟩
            case measure => simp [intOf]; omega
      · have hml : m = l := by omega
        go_wp2
        go_ret2
        exact ⟨ret_bar (by omega) rfl, rfl⟩
set_option maxRecDepth 20000 in
theorem alive55 (w : World) : Calls Try.prog 37 #[] w fun e w' => e = .returned (.bool true) ∧ ∃ k, w' = w.drewN k := by
  have cL := fun w => bars_Long 1 3 10 w ⟨by omega, by omega⟩ ⟨by omega, by omega⟩ ⟨by omega, by omega⟩
  rw [show barV 1 3 10 = 4 by decide, show barE 1 3 10 = 0 by decide] at cL
  have CL := Lib.hid cL
  clear cL
  go_enter Try.func37, Try.ntmps37
  go_wp2_with fail
  refine (CL.out _).mono ?_
  rintro e w' ⟨rfl, k, rfl⟩
  go_wp2
  go_ret
  exact ⟨rfl, k, rfl⟩
end Go.Proofs.Ytnlieclfajebbaa


/-
  math/bits.Div64: the quotient of a number of two words. Conditions: the upper word is below the divisor; all fit 64 bits.
-/
import Derived.Test.YtnlieclfajebbaaDivP
import Derived.Test.YtnlieclfajebbaaShelf
import Derived.Test.YtnlieclfajebbaaNumsMul2
import Derived.Lib.ItoaNum
import Derived.Deep.CutBlock
set_option linter.unusedVariables false
set_option linter.unusedSimpArgs false
namespace Go.Proofs.Ytnlieclfajebbaa
open Go.Joins Go.ChangeShapes Go.WideShapes Go.ChangeAt Go.RowKit Go.Deep

def DivPost (q : Int) (w : World) (e : Ending) (w' : World) : Prop := (∃ r : Int, e = .returned (.tuple #[.int .u64 q, .int .u64 r])) ∧ ∃ n, w' = w.drewN n
set_option maxRecDepth 20000 in
set_option maxHeartbeats 1000000 in
theorem div64_low (lo y : Int) (w : World) (hy : 0 < y) (hy2 : y ≤ 18446744073709551615) (h0 : 0 ≤ lo) (h1 : lo ≤ 18446744073709551615) :
    Calls Try.prog 103 #[.int .u64 0, .int .u64 lo, .int .u64 y] w (DivPost (lo / y) w) := by
  have hzb : (y == 0) = false := beq_eq_false_iff_ne.2 (by omega)
  have q1 : 0 ≤ lo / y := Int.ediv_nonneg h0 (by omega)
  have q2 : lo / y ≤ lo := Int.ediv_le_self _ h0
  have q3 : 1 ≤ y := by omega
  go_enter Try.func103, Try.ntmps103
  go_wp2
  go_quiet (fail)
  go_wp2
  go_ret2
  exact ⟨⟨_, rfl⟩, _, rfl⟩
/-- The divisor's place: shifted so far, its first bit is set. -/
theorem bitLen_place {y : Nat} (h0 : 0 < y) (h : y < 18446744073709551616) : ∃ s : Nat, s ≤ 63 ∧ (64 - (Lib.bitLen y : Int)) = s ∧ 9223372036854775808 ≤ y * 2 ^ s ∧ y * 2 ^ s < 18446744073709551616 := by
  obtain ⟨h1, h2, h3⟩ := Lib.bitLenAux_bounds 64 y h (by omega)
  have h4 := Lib.bitLen_le y 64 (by omega) h
  change 1 ≤ Lib.bitLen y at h1
  change 2 ^ (Lib.bitLen y - 1) ≤ y at h2
  change y < 2 ^ Lib.bitLen y at h3
  generalize Lib.bitLen y = k at *
  refine ⟨64 - k, by omega, by omega, ?_, ?_⟩
  · have := Nat.mul_le_mul_right (2 ^ (64 - k)) h2
    rw [← Nat.pow_add, show k - 1 + (64 - k) = 63 by omega] at this
    omega
  · have := (Nat.mul_lt_mul_right (Nat.two_pow_pos (64 - k))).2 h3
    rw [← Nat.pow_add, show k + (64 - k) = 64 by omega] at this
    omega
/-- The number, shifted: its two words. -/
theorem shifted (hi lo s : Nat) (hs : s ≤ 63) (hl : lo < 18446744073709551616) (hh : hi * 2 ^ s < 18446744073709551616) :
    bits .or .u64 ((hi * 2 ^ s : Nat) : Int) ((lo / 2 ^ (64 - s) : Nat) : Int) = (((hi * 18446744073709551616 + lo) * 2 ^ s / 18446744073709551616 : Nat) : Int) ∧
    lo * 2 ^ s % 18446744073709551616 = (hi * 18446744073709551616 + lo) * 2 ^ s % 18446744073709551616 := by
  have h64 : 18446744073709551616 = 2 ^ (64 - s) * 2 ^ s := by rw [← Nat.pow_add, show 64 - s + s = 64 by omega]
  have e : (hi * 18446744073709551616 + lo) * 2 ^ s = hi * 2 ^ s * 18446744073709551616 + lo * 2 ^ s := by rw [Nat.add_mul, Nat.mul_right_comm]
  have ed : lo * 2 ^ s / 18446744073709551616 = lo / 2 ^ (64 - s) := by
    rw [h64]; exact Nat.mul_div_mul_right _ _ (Nat.two_pow_pos s)
  have hlt : lo / 2 ^ (64 - s) < 2 ^ s := by
    rw [Nat.div_lt_iff_lt_mul (Nat.two_pow_pos _), Nat.mul_comm, ← h64]; exact hl
  have hp : 2 ^ s ≤ 2 ^ 63 := Nat.pow_le_pow_right (by omega) hs
  rw [e]
  constructor
  · rw [bits_or_u64_nat _ _ hh (by omega), ← Nat.shiftLeft_eq, ← Nat.shiftLeft_add_eq_or_of_lt hlt, Nat.shiftLeft_eq]
    generalize lo * 2 ^ s = z at *
    generalize hi * 2 ^ s = x at *
    omega
  · generalize lo * 2 ^ s = z at *
    generalize hi * 2 ^ s = x at *
    omega
/-- What is left of the upper word and a half: no wrap is felt. -/
theorem word_left {y1 y0 a b v : Int} (h1 : 2147483648 ≤ y1) (h3 : 0 ≤ y0) (ha : 0 ≤ a) (hv : a < y1 * 4294967296 + y0) (hb : 0 ≤ b) (e : v = y1 * 4294967296 + y0) (hv2 : v ≤ 18446744073709551615) :
    IntKind.u64.wrap (IntKind.u64.wrap (IntKind.u64.wrap (a * 4294967296) + b) - IntKind.u64.wrap ((a * 4294967296 + b) / (y1 * 4294967296 + y0) * v)) = a * 4294967296 + b - (a * 4294967296 + b) / (y1 * 4294967296 + y0) * v ∧
    0 ≤ a * 4294967296 + b - (a * 4294967296 + b) / (y1 * 4294967296 + y0) * v ∧ a * 4294967296 + b - (a * 4294967296 + b) / (y1 * 4294967296 + y0) * v < v := by
  rw [← e]
  have hm : (a * 4294967296 + b) % v = a * 4294967296 + b - (a * 4294967296 + b) / v * v := by
    have := Int.mul_ediv_add_emod (a * 4294967296 + b) v
    rw [Int.mul_comm] at this
    omega
  have h0 := Int.emod_nonneg (a * 4294967296 + b) (show v ≠ 0 by omega)
  have h4 := Int.emod_lt_of_pos (a * 4294967296 + b) (show 0 < v by omega)
  rw [hm] at h0 h4
  refine ⟨?_, h0, h4⟩
  generalize (a * 4294967296 + b) / v * v = z at *
  simp only [IntKind.wrap_u64]
  omega
set_option maxRecDepth 20000 in
set_option maxHeartbeats 1000000 in
theorem div64_high (hi lo y : Nat) (w : World) (hy : hi < y) (hh : 0 < hi) (hy2 : y < 18446744073709551616) (h1 : lo < 18446744073709551616) :
    Calls Try.prog 103 #[.int .u64 hi, .int .u64 lo, .int .u64 y] w (DivPost ((((hi * 18446744073709551616 + lo) / y : Nat) : Int)) w) := by
  have hzb : ((y : Int) == 0) = false := beq_eq_false_iff_ne.2 (by omega)
  have hzc : ((hi : Int) == 0) = false := beq_eq_false_iff_ne.2 (by omega)
  have q3 : 1 ≤ (y : Int) := by omega
  obtain ⟨s, hs, hsb, hY1, hY2⟩ := bitLen_place (y := y) (by omega) hy2
  have cL := fun w => Try.bits_LeadingZeros64 y w (by omega) (by omega)
  rw [Int.toNat_natCast, hsb] at cL
  have CL := Lib.hid cL
  have hhs : hi * 2 ^ s < 18446744073709551616 := Nat.lt_of_lt_of_le ((Nat.mul_lt_mul_right (Nat.two_pow_pos s)).2 hy) (Nat.le_of_lt hY2)
  obtain ⟨hor, hmod⟩ := shifted hi lo s hs h1 hhs
  have e1 : min s 64 = s := by omega
  have e2 : min (64 - (s : Int)).toNat 64 = 64 - s := by omega
  -- the numbers, shifted
  have cY : ((y : Int) * 2 ^ s) = ((y * 2 ^ s : Nat) : Int) := by rw [Int.natCast_mul, Int.natCast_pow]; rfl
  have cH : IntKind.u64.wrap ((hi : Int) * 2 ^ s) = ((hi * 2 ^ s : Nat) : Int) := by
    rw [show ((hi : Int) * 2 ^ s) = ((hi * 2 ^ s : Nat) : Int) from by rw [Int.natCast_mul, Int.natCast_pow]; rfl]
    exact IntWalk.u64_in _ (by omega)
  have cLo : ((lo : Int) / 2 ^ (64 - s)) = ((lo / 2 ^ (64 - s) : Nat) : Int) := by rw [Int.natCast_ediv, Int.natCast_pow]; rfl
  have cZ : IntKind.u64.wrap ((lo : Int) * 2 ^ s) = ((lo * 2 ^ s % 18446744073709551616 : Nat) : Int) := by
    rw [show ((lo : Int) * 2 ^ s) = ((lo * 2 ^ s : Nat) : Int) from by rw [Int.natCast_mul, Int.natCast_pow]; rfl, IntKind.wrap_u64]
    omega
  have cW : IntKind.u64.wrap ((y : Int) * 2 ^ s) = ((y * 2 ^ s : Nat) : Int) := by rw [cY]; exact IntWalk.u64_in _ (by omega)
  have hq : (((hi * 18446744073709551616 + lo) / y : Nat) : Int) = ((((hi * 18446744073709551616 + lo) * 2 ^ s / 18446744073709551616 : Nat) : Int) * 18446744073709551616 + ((lo * 2 ^ s % 18446744073709551616 : Nat) : Int)) / ((y * 2 ^ s : Nat) : Int) := by
    rw [hmod]
    have : (hi * 18446744073709551616 + lo) / y = (hi * 18446744073709551616 + lo) * 2 ^ s / (y * 2 ^ s) := (Nat.mul_div_mul_right _ _ (Nat.two_pow_pos s)).symm
    rw [this, Int.natCast_ediv]
    congr 1
    generalize (hi * 18446744073709551616 + lo) * 2 ^ s = z
    omega
  have hUlt : (hi * 18446744073709551616 + lo) * 2 ^ s / 18446744073709551616 < y * 2 ^ s := by
    rw [Nat.div_lt_iff_lt_mul (by omega), Nat.mul_right_comm]
    exact (Nat.mul_lt_mul_right (Nat.two_pow_pos s)).2 (by omega)
  have hor2 := hor
  rw [hq]
  have aY := maskN (y * 2 ^ s) hY2
  have aL := maskN (lo * 2 ^ s % 18446744073709551616) (by omega)
  have hL64 : lo * 2 ^ s % 18446744073709551616 < 18446744073709551616 := Nat.mod_lt _ (by omega)
  generalize hU : (hi * 18446744073709551616 + lo) * 2 ^ s / 18446744073709551616 = U at *
  generalize hL : lo * 2 ^ s % 18446744073709551616 = L at *
  generalize hY : y * 2 ^ s = Y at *
  have CY := Lib.hid cY
  have CW := Lib.hid cW
  have CH := Lib.hid cH
  have CLo := Lib.hid cLo
  have CZ := Lib.hid cZ
  have HOR := Lib.hid hor
  have AY := Lib.hid aY
  have AL := Lib.hid aL
  clear cL hsb cH cLo cZ cY cW hor hor2 aY aL hq hU hL hY hmod hhs
  go_enter Try.func103, Try.ntmps103
  go_wp2_with fail
  refine (CL.out _).mono ?_
  rintro e w' ⟨rfl, rfl⟩
  go_upto_region 15 with (fail)
  rw [CW.out, CH.out, CLo.out, HOR.out, CZ.out, AY.out, AL.out]
  rw [show ((Y % 4294967296 : Nat) : Int) = (Y : Int) % 4294967296 from by omega, show ((L % 4294967296 : Nat) : Int) = (L : Int) % 4294967296 from by omega]
  have gY1 : (9223372036854775808 : Int) ≤ (Y : Int) := by omega
  have gY2 : (Y : Int) ≤ 18446744073709551615 := by omega
  have gU0 : (0 : Int) ≤ (U : Int) := by omega
  have gU : (U : Int) < (Y : Int) := by omega
  have gL : (0 : Int) ≤ (L : Int) ∧ (L : Int) < 18446744073709551616 := by omega
  clear CW CH CLo HOR CZ AY AL CY hY1 hY2 hUlt
  generalize (Y : Int) = v at *
  generalize (U : Int) = a at *
  generalize (L : Int) = l at *
  have hv : v = v / 4294967296 * 4294967296 + v % 4294967296 := by omega
  have hl : l = l / 4294967296 * 4294967296 + l % 4294967296 := by omega
  have v1 : 2147483648 ≤ v / 4294967296 := by omega
  have v2 : v / 4294967296 ≤ 4294967295 := by omega
  have v3 : 0 ≤ v % 4294967296 := by omega
  have v4 : v % 4294967296 < 4294967296 := by omega
  have l1 : 0 ≤ l / 4294967296 := by omega
  have l2 : l / 4294967296 < 4294967296 := by omega
  have l3 : 0 ≤ l % 4294967296 := by omega
  have l4 : l % 4294967296 < 4294967296 := by omega
  generalize v / 4294967296 = y1 at *
  generalize v % 4294967296 = y0 at *
  generalize l / 4294967296 = b1 at *
  generalize l % 4294967296 = b0 at *
  have hzd : (y1 == 0) = false := beq_eq_false_iff_ne.2 (by omega)
  have hst := trial_start (a := a) (b := b1) v1 v3 gU0 (by omega) l1 l2
  have HV := Lib.hid hv
  have HL := Lib.hid hl
  have HST := Lib.hid hst
  have d1 := hst.sum
  have d2 := hst.r0
  have d3 := hst.q1
  have d4 := trial_nonneg hst v1 v3 gU0 l1
  have d5 : a % y1 < y1 := Int.emod_lt_of_pos _ (by omega)
  have f1 : 0 ≤ a / y1 * y1 := Int.mul_nonneg d4 (by omega)
  have f2 : a / y1 * y1 ≤ a := by omega
  have D1 := Lib.hid d1
  have hvl : a < y1 * 4294967296 + y0 := by omega
  have HVL := Lib.hid hvl
  clear hv hl hst d1 hvl
  go_upto_block 0 with (fail)
  go_cut [15] (fun x wc => x = .int .u64 ((a * 4294967296 + b1) / (y1 * 4294967296 + y0)) ∧ wc = w')
  case first =>
    go_wp2_with fail
    go_loop [15, 16] (fun x z => ∃ q r : Int, x = .int .u64 q ∧ z = .int .u64 r ∧ Hid (Trial y1 y0 a b1 q r) ∧ r < 4294967296) (fun x _ => (intOf x).toNat)
    case atStart => exact ⟨a / y1, a % y1, rfl, val_int (by have := D1.out; omega), HST, by omega⟩
    case round =>
      obtain ⟨q, r, rfl, rfl, ht, hr⟩ := hrel
      have t1 := ht.out.r0
      have t2 := ht.out.q1
      have t3 := trial_nonneg ht.out v1 v3 gU0 l1
      have hc : 4294967296 ≤ q ∨ (q < 4294967296 ∧ 4294967296 * r + b1 < q * y0) ∨ (q < 4294967296 ∧ q * y0 ≤ 4294967296 * r + b1) := by omega
      rcases hc with hc | ⟨hc, hd⟩ | ⟨hc, hd⟩
      · have hn := trial_step ht.out v1 v3 l2 HVL.out (.inl hc)
        rcases Int.lt_or_le (r + y1) 4294967296 with ho | ho
        · have HN := Lib.hid hn
          clear hn ht
          go_wp2
          first
          | (go_round
             case rel => exact ⟨q - 1, r + y1, rfl, rfl, HN, ho⟩
             case measure => simp [intOf]; omega)
          | (simp [intOf]; omega)
        · have HE := Lib.hid (trial_over hn v1 v3 v4 l1 gU0 HVL.out ho)
          clear hn ht
          go_wp2
          go_meet
          exact ⟨val_int HE.out, rfl⟩
      · have hn := trial_step ht.out v1 v3 l2 HVL.out (.inr hd)
        have m0 : 0 ≤ q * y0 := Int.mul_nonneg t3 v3
        have m1 : q * y0 ≤ 4294967295 * 4294967295 := Int.mul_le_mul (by omega) (by omega) v3 (by omega)
        have t4 : 1 ≤ q := by
          rcases Int.lt_or_le 0 q with hh | hh
          · exact hh
          · obtain rfl : q = 0 := by omega
            omega
        rcases Int.lt_or_le (r + y1) 4294967296 with ho | ho
        · have HN := Lib.hid hn
          clear hn ht
          go_wp2
          first
          | (go_round
             case rel => exact ⟨q - 1, r + y1, rfl, rfl, HN, ho⟩
             case measure => simp [intOf]; omega)
          | (simp [intOf]; omega)
        · have HE := Lib.hid (trial_over hn v1 v3 v4 l1 gU0 HVL.out ho)
          clear hn ht
          go_wp2
          go_meet
          exact ⟨val_int HE.out, rfl⟩
      · have HE := Lib.hid (trial_end ht.out v1 v3 hd)
        have m0 : 0 ≤ q * y0 := Int.mul_nonneg t3 v3
        have m1 : q * y0 ≤ 4294967295 * 4294967295 := Int.mul_le_mul (by omega) (by omega) v3 (by omega)
        clear ht
        go_wp2
        go_meet
        exact ⟨val_int HE.out, rfl⟩
  case rest =>
    obtain ⟨rfl, rfl⟩ := hcut
    go_upto_region 22 with (fail)
    have hw := word_left v1 v3 gU0 HVL.out l1 HV.out gY2
    have hfin := two_halves (v := v) (a := a) (b := b1) (c := b0) (by omega) rfl rfl l3
    obtain ⟨W, hW⟩ : ∃ W, W = a * 4294967296 + b1 - (a * 4294967296 + b1) / (y1 * 4294967296 + y0) * v := ⟨_, rfl⟩
    have hQ0 := trial_quot0 (a := a) (b := b1) v1 v3 gU0 l1
    have hQ1 := trial_lt (a := a) (b := b1) v1 v3 l2 HVL.out
    rw [← HV.out] at hw hW hQ0 hQ1 ⊢
    obtain ⟨hw1, gW0, gW1⟩ := hw
    rw [← hW] at hw1 gW0 gW1 hfin
    rw [hw1]
    generalize (a * 4294967296 + b1) / v = Q at *
    have hpost : (a * 18446744073709551616 + l) = (a * 4294967296 + b1) * 4294967296 + b0 := by have := HL.out; omega
    have hwl : W < y1 * 4294967296 + y0 := by have := HV.out; omega
    have HWL := Lib.hid hwl
    have hst := trial_start (a := W) (b := b0) v1 v3 gW0 (by omega) l3 l4
    have HST2 := Lib.hid hst
    have c1 := hst.sum
    have c2 := hst.r0
    have c3 := hst.q1
    have c4 := trial_nonneg hst v1 v3 gW0 l3
    have c5 : W % y1 < y1 := Int.emod_lt_of_pos _ (by omega)
    have c6 : 0 ≤ W / y1 * y1 := Int.mul_nonneg c4 (by omega)
    have c7 : W / y1 * y1 ≤ W := by omega
    have C1 := Lib.hid c1
    have HPO := Lib.hid hpost
    have HFI := Lib.hid hfin
    clear hst c1 hpost hfin hw1 hW hwl HST D1 d2 d3 d4 d5 f1 f2
    go_upto_block 2 with (fail)
    go_cut [18] (fun x wd => x = .int .u64 ((W * 4294967296 + b0) / (y1 * 4294967296 + y0)) ∧ wd = wc)
    case first =>
      go_wp2_with fail
      go_loop [18, 16] (fun x z => ∃ q r : Int, x = .int .u64 q ∧ z = .int .u64 r ∧ Hid (Trial y1 y0 W b0 q r) ∧ r < 4294967296) (fun x _ => (intOf x).toNat)
      case atStart => exact ⟨W / y1, W % y1, rfl, val_int (by have := C1.out; omega), HST2, by omega⟩
      case round =>
        obtain ⟨q, r, rfl, rfl, ht, hr⟩ := hrel
        have t1 := ht.out.r0
        have t2 := ht.out.q1
        have t3 := trial_nonneg ht.out v1 v3 gW0 l3
        have hc : 4294967296 ≤ q ∨ (q < 4294967296 ∧ 4294967296 * r + b0 < q * y0) ∨ (q < 4294967296 ∧ q * y0 ≤ 4294967296 * r + b0) := by omega
        rcases hc with hc | ⟨hc, hd⟩ | ⟨hc, hd⟩
        · have hn := trial_step ht.out v1 v3 l4 HWL.out (.inl hc)
          rcases Int.lt_or_le (r + y1) 4294967296 with ho | ho
          · have HN := Lib.hid hn
            clear hn ht
            go_wp2
            first
            | (go_round
               case rel => exact ⟨q - 1, r + y1, rfl, rfl, HN, ho⟩
               case measure => simp [intOf]; omega)
            | (simp [intOf]; omega)
          · have HE := Lib.hid (trial_over hn v1 v3 v4 l3 gW0 HWL.out ho)
            clear hn ht
            go_wp2
            go_meet
            exact ⟨val_int HE.out, rfl⟩
        · have hn := trial_step ht.out v1 v3 l4 HWL.out (.inr hd)
          have m0 : 0 ≤ q * y0 := Int.mul_nonneg t3 v3
          have m1 : q * y0 ≤ 4294967295 * 4294967295 := Int.mul_le_mul (by omega) (by omega) v3 (by omega)
          have t4 : 1 ≤ q := by
            rcases Int.lt_or_le 0 q with hh | hh
            · exact hh
            · obtain rfl : q = 0 := by omega
              omega
          rcases Int.lt_or_le (r + y1) 4294967296 with ho | ho
          · have HN := Lib.hid hn
            clear hn ht
            go_wp2
            first
            | (go_round
               case rel => exact ⟨q - 1, r + y1, rfl, rfl, HN, ho⟩
               case measure => simp [intOf]; omega)
            | (simp [intOf]; omega)
          · have HE := Lib.hid (trial_over hn v1 v3 v4 l3 gW0 HWL.out ho)
            clear hn ht
            go_wp2
            go_meet
            exact ⟨val_int HE.out, rfl⟩
        · have HE := Lib.hid (trial_end ht.out v1 v3 hd)
          have m0 : 0 ≤ q * y0 := Int.mul_nonneg t3 v3
          have m1 : q * y0 ≤ 4294967295 * 4294967295 := Int.mul_le_mul (by omega) (by omega) v3 (by omega)
          clear ht
          go_wp2
          go_meet
          exact ⟨val_int HE.out, rfl⟩
    case rest =>
      obtain ⟨rfl, rfl⟩ := hcut
      have k0 := trial_quot0 (a := W) (b := b0) v1 v3 gW0 l3
      have k1 := trial_lt (a := W) (b := b0) v1 v3 l4 HWL.out
      rw [← HV.out] at k0 k1 ⊢
      have hq := HFI.out
      generalize (W * 4294967296 + b0) / v = Q2 at *
      have HQ := Lib.hid hq
      clear hq HFI
      go_wp2
      go_ret2
      exact ⟨⟨_, ret_two (by rw [HPO.out, ← HQ.out]) rfl⟩, 0, rfl⟩
end Go.Proofs.Ytnlieclfajebbaa

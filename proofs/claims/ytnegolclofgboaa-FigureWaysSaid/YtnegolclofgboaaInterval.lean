
/-
  How long lies between two openings at the lowest floor: figure.Interval. Condition: the legs are within bounds.
-/
import Derived.Test.YtnegolclofgboaaOpens
import Derived.Test.YtnegolclofgboaaFracO
import Derived.Lib.Slices
set_option linter.unusedVariables false
set_option linter.unusedSimpArgs false
namespace Go.Proofs.Ytnegolclofgboaa
open Go.Joins Go.ChangeShapes Go.WideShapes Go.ChangeAt Go.RowKit Go.Deep

theorem min_snoc (zs : List Int) (z : Int) : Lib.minOf (zs ++ [z]) = if zs.length = 0 then z else min (Lib.minOf zs) z := by
  cases zs with
  | nil => simp [Lib.minOf]
  | cons a zs => simp [Lib.minOf]
theorem max_snoc (zs : List Int) (z : Int) : Lib.maxOf (zs ++ [z]) = if zs.length = 0 then z else max (Lib.maxOf zs) z := by
  cases zs with
  | nil => simp [Lib.maxOf]
  | cons a zs => simp [Lib.maxOf]
theorem set3i {w w' : World} {u1 u2 u3 : Value} (h : Below w.heap.size w w') : Below w.heap.size w (((w'.setCell ⟨w.heap.size, 0, none⟩ u1).setCell ⟨w.heap.size, 1, none⟩ u2).setCell ⟨w.heap.size, 2, none⟩ u3) :=
  ((h.setCell (Nat.le_refl _) _).setCell (Nat.le_refl _) _).setCell (Nat.le_refl _) _
/-- All of the first k rows. -/
def flatK (yss : List (List Int)) (k : Nat) : List Int := (yss.take k).flatten
theorem flatK_succ {yss : List (List Int)} {k : Nat} {ys : List Int} (h : yss[k]? = some ys) : flatK yss (k + 1) = flatK yss k ++ ys := by
  unfold flatK
  rw [List.take_add_one, h]
  simp
theorem flatK_all (yss : List (List Int)) : flatK yss yss.length = yss.flatten := by simp [flatK]
/-- Numbers within bounds, and how many they are. -/
def sane (zs : List Int) (n : Nat) : Prop := zs.length ≤ n ∧ (-2147483648 ≤ Lib.minOf zs ∧ Lib.minOf zs ≤ 2147483648) ∧ (-2147483648 ≤ Lib.maxOf zs ∧ Lib.maxOf zs ≤ 2147483648) ∧ Lib.minOf zs ≤ Lib.maxOf zs
theorem sane_mono {zs : List Int} {n m : Nat} (h : sane zs n) (hm : n ≤ m) : sane zs m := ⟨Nat.le_trans h.1 hm, h.2⟩
theorem sane_nil (n : Nat) : sane [] n := ⟨by simp, by simp [Lib.minOf], by simp [Lib.maxOf], by simp [Lib.minOf, Lib.maxOf]⟩
theorem sane_snoc {zs : List Int} {n : Nat} {z : Int} (h : sane zs n) (hz : -2147483648 ≤ z ∧ z ≤ 2147483648) : sane (zs ++ [z]) (n + 1) := by
  obtain ⟨h1, h2, h3, h4⟩ := h
  unfold sane
  rw [min_snoc, max_snoc]
  refine ⟨by simp; omega, ?_, ?_, ?_⟩ <;> split <;> omega
/-- What is told of all openings. -/
def ivF (zs : List Int) : Frac := if zs.length < 2 then ⟨0, 0, 0⟩ else ofF (Lib.maxOf zs - Lib.minOf zs) ((zs.length : Int) - 1)
def ivB (zs : List Int) : Bool := decide (2 ≤ zs.length)
set_option maxRecDepth 20000 in
set_option maxHeartbeats 16000000 in
theorem fig_Interval (lA : Option Addr) (lC : Nat) (xss : List (List Leg)) (h : Int) (w : World) (hx : LegRows w lA xss) (hf : fine35 xss h) :
    Calls Try.prog 20 #[.slice lA xss.length lC, .int .i64 h] w fun e w' => e = .returned (.tuple #[(ivF (opensAll xss 0 h).flatten).val, .bool (ivB (opensAll xss 0 h).flatten)]) ∧ Below w.heap.size w w' := by
  have cO := fun w' (hb : Below w.heap.size w w') => fig_Openings lA lC xss 0 h w' (hx.below hb) hf
  have hrl : (opensAll xss 0 h).length ≤ 10 := by simp [opensAll]; exact hf.1
  have hrb : ∀ (i : Nat) (ys : List Int), (opensAll xss 0 h)[i]? = some ys → ys.length ≤ 300 ∧ ∀ x ∈ ys, -2147483648 ≤ x ∧ x ≤ 2147483648 := fun i ys hi => by
    have hil : i < xss.length := by have := (List.getElem?_eq_some_iff.1 hi).1; simp [opensAll] at this; exact this
    obtain ⟨xs, hxs⟩ := at_some hil
    have hys : ys = opensOf xs 0 h := by simp [opensAll, hxs] at hi; exact hi.symm
    obtain ⟨d1, d2⟩ := doorsOf_bd (hf.2.2 i xs hxs)
    rw [hys]
    refine ⟨Nat.le_trans (opensN_len _ _ _ _) d1, fun x hx => ?_⟩
    obtain ⟨s, hs, rfl⟩ := opensN_mem xs 0 (doorsOf xs h) (doorsOf xs h).length (Nat.le_refl _) x hx
    have := d2 s hs
    omega
  generalize opensAll xss 0 h = Y at *
  have CO := Lib.hid cO
  have HRB := Lib.hid hrb
  clear cO hrb hx hf
  have hz1 : Lib.minOf [] = 0 := rfl
  have hz2 : Lib.maxOf [] = 0 := rfl
  go_enter Try.func20, Try.ntmps20
  go_wp2_with fail
  have k0 : Blk (w.alloc (.cells #[.int .i64 0, .int .i64 0, .int .i64 0] 51)) (w.heap.size) 51 #[.int .i64 0, .int .i64 0, .int .i64 0] := (blk_at (by simp))
  have hB : Below w.heap.size w (w.alloc (.cells #[.int .i64 0, .int .i64 0, .int .i64 0] 51)) := (bel_at (Below.refl _ _) (.cells #[.int .i64 0, .int .i64 0, .int .i64 0] 51))
  generalize (w.alloc (.cells #[.int .i64 0, .int .i64 0, .int .i64 0] 51)) = w1 at *
  (try clear k0c k0f k0z); have k0c := fun i => Blk.cell k0 i; have k0f := fun i => Blk.free k0 i; have k0z := Blk.lt k0
  refine (CO.out _ hB).mono ?_
  rintro e w2 ⟨A2, C2, rfl, hir, hb2⟩
  have hB2 := hB.trans (hb2.mono hB.size)
  have k2 := Blk.below k0 hb2 k0.lt
  have K2 := Lib.hid k2
  have HI := Lib.hid hir
  have HB2 := Lib.hid hB2
  clear k0 k0c k0f k0z k2 hir hb2 hB hB2
  go_wp2_with (with_reducible refine hold_loop ?_)
  unfold Hold
  go_loopw [19, 6, 7, 8] (fun i f l n wr => ∃ k : Nat, k ≤ Y.length ∧ i = .int .i64 k ∧ f = .int .i64 (Lib.minOf (flatK Y k)) ∧ l = .int .i64 (Lib.maxOf (flatK Y k)) ∧ n = .int .i64 ((flatK Y k).length : Int) ∧ Hid (sane (flatK Y k) (k * 300)) ∧ wr = w2) (fun i _ _ _ _ => Y.length - (intOf i).toNat)
  case atStart => exact ⟨0, by omega, rfl, rfl, rfl, rfl, sane_nil _, rfl⟩
  case round =>
    obtain ⟨k, hk, rfl, rfl, rfl, rfl, hsn, rfl⟩ := hrel
    by_cases hkl : k < Y.length
    · obtain ⟨b, off, rfl, hbl, hce⟩ := HI.out (by omega)
      obtain ⟨ys, hy⟩ := at_some hkl
      obtain ⟨A3, C3, z, hin⟩ := hce k ys hy
      obtain ⟨r1, r2⟩ := HRB.out k ys hy
      have hfs := flatK_succ hy
      have R2 := Lib.hid r2
      have HIN := Lib.hid hin
      have HFS := Lib.hid hfs
      clear hce hy hin r2 hfs
      generalize flatK Y k = Z at *
      go_wp2_with (with_reducible refine hold_loop ?_)
      unfold Hold
      go_loopw [25, 6, 7, 8] (fun i f l n wr' => ∃ j : Nat, j ≤ ys.length ∧ i = .int .i64 j ∧ f = .int .i64 (Lib.minOf (Z ++ ys.take j)) ∧ l = .int .i64 (Lib.maxOf (Z ++ ys.take j)) ∧ n = .int .i64 ((Z ++ ys.take j).length : Int) ∧ Hid (sane (Z ++ ys.take j) (k * 300 + j)) ∧ wr' = wr) (fun i _ _ _ _ => ys.length - (intOf i).toNat)
      case atStart => exact ⟨0, by omega, rfl, by simp, by simp, by simp, by simpa using hsn, rfl⟩
      case round =>
        obtain ⟨j, hj, rfl, rfl, rfl, rfl, hsn2, rfl⟩ := hrel
        by_cases hjl : j < ys.length
        · obtain ⟨b2, off2, rfl, hbl2, hce2⟩ := HIN.out (by omega)
          have y0 := hce2 j hjl
          have htk : Z ++ ys.take (j + 1) = (Z ++ ys.take j) ++ [at0 ys j] := by
            rw [List.take_succ_eq_append_getElem hjl, ← List.append_assoc]
            simp [at0, List.getD, List.getElem?_eq_getElem hjl]
          have hzb := R2.out (at0 ys j) (by simp [at0, List.getD, List.getElem?_eq_getElem hjl])
          have hsn3 := sane_snoc hsn2.out hzb
          obtain ⟨s1, s2, s3, s4⟩ := hsn2.out
          have hmn := min_snoc (Z ++ ys.take j) (at0 ys j)
          have hmx := max_snoc (Z ++ ys.take j) (at0 ys j)
          have hll : (Z ++ ys.take j ++ [at0 ys j]).length = (Z ++ ys.take j).length + 1 := by simp; omega
          rw [← htk] at hsn3 hmn hmx hll
          have hkb : k * 300 ≤ 3000 := by omega
          generalize at0 ys j = t at *
          have HSN := Lib.hid hsn3
          generalize Z ++ ys.take j = Q at *
          clear htk hsn3 hce2 hsn2
          by_cases h0 : Q.length = 0
          · rw [if_pos h0] at hmn hmx
            have e1 : ((Q.length : Int) == 0) = true := by simpa using h0
            have HMN := Lib.hid hmn
            have HMX := Lib.hid hmx
            have HLL := Lib.hid hll
            have H0 := Lib.hid h0
            clear hmn hmx hll h0
            go_wp2
            go_roundw
            case rel => exact ⟨j + 1, by omega, by go_num, val_int HMN.out.symm, val_int HMX.out.symm, val_int (by have := HLL.out; omega), HSN, trivial⟩
            case measure => simp [intOf]; omega
          · rw [if_neg h0] at hmn hmx
            have e1 : ((Q.length : Int) == 0) = false := beq_eq_false_iff_ne.2 (by omega)
            have HMN := Lib.hid hmn
            have HMX := Lib.hid hmx
            have HLL := Lib.hid hll
            have H0 := Lib.hid h0
            clear hmn hmx hll h0
            generalize Lib.minOf Q = mn at *
            generalize Lib.maxOf Q = mx at *
            by_cases hlo : t < mn <;> by_cases hhi : mx < t
            · exfalso; omega
            all_goals
              go_wp2
              go_roundw
              case rel => exact ⟨j + 1, by omega, by go_num, val_int (by have := HMN.out; omega), val_int (by have := HMX.out; omega), val_int (by have := HLL.out; omega), HSN, trivial⟩
              case measure => simp [intOf]; omega
        · obtain rfl : j = ys.length := by omega
          rw [List.take_length, ← HFS.out] at *
          have HS2 : Hid (sane (flatK Y (k + 1)) ((k + 1) * 300)) := sane_mono hsn2.out (by omega)
          go_wp2
          go_roundw
          case rel => exact ⟨k + 1, by omega, by go_num, rfl, rfl, rfl, HS2, trivial⟩
          case measure => simp [intOf]; omega
    · obtain rfl : k = Y.length := by omega
      rw [flatK_all] at *
      obtain ⟨s1, s2, s3, s4⟩ := hsn.out
      generalize hZ : Y.flatten = Z at *
      have HZZ := Lib.hid hZ
      clear hZ
      have hk3 : Y.length * 300 ≤ 3000 := by omega
      have hB2 := HB2.out
      have k2 := K2.out
      (try clear k2c k2f k2z); have k2c := fun i => Blk.cell k2 i; have k2f := fun i => Blk.free k2 i; have k2z := Blk.lt k2
      by_cases h2 : Z.length < 2
      · have h1 : ivF Z = ⟨0, 0, 0⟩ := by unfold ivF; rw [if_pos h2]
        have h3 : ivB Z = false := by unfold ivB; exact decide_eq_false (by omega)
        have H1 := Lib.hid h1
        have H3 := Lib.hid h3
        clear h1 h3
        go_wp2
        refine bodyPost_ret (v := .tuple #[.agg #[.int .i64 0, .int .i64 0, .int .i64 0], .bool false]) (by simp [results, Try.results20, go_sem, k2c, k2f, k2z]) rfl ?_
        exact ⟨by rw [HZZ.out, H1.out, H3.out], set3i hB2⟩
      · have h1 : ivF Z = ofF (Lib.maxOf Z - Lib.minOf Z) ((Z.length : Int) - 1) := by unfold ivF; rw [if_neg h2]
        have h3 : ivB Z = true := by unfold ivB; exact decide_eq_true (by omega)
        have cF := fun w => frac_Of (Lib.maxOf Z - Lib.minOf Z) ((Z.length : Int) - 1) w ⟨by omega, by omega⟩ ⟨by omega, by omega⟩
        rcases hof : ofF (Lib.maxOf Z - Lib.minOf Z) ((Z.length : Int) - 1) with ⟨x, y, z⟩
        rw [hof] at cF h1
        have CF := Lib.hid cF
        have H1 := Lib.hid h1
        have H3 := Lib.hid h3
        clear h1 h3 cF hof
        generalize ofE (Lib.maxOf Z - Lib.minOf Z) ((Z.length : Int) - 1) = er at *
        go_wp2_with (go_at_call 40; refine (CF.out _).mono ?_)
        rintro e w3 ⟨rfl, hb3⟩
        have hfin := hB2.trans (hb3.mono hB2.size)
        have k3 := Blk.below k2 hb3 k2.lt
        clear k2 k2c k2f k2z hb3 hB2
        (try clear k3c k3f k3z); have k3c := fun i => Blk.cell k3 i; have k3f := fun i => Blk.free k3 i; have k3z := Blk.lt k3
        go_wp2
        refine bodyPost_ret (v := .tuple #[.agg #[.int .i64 x, .int .i64 y, .int .i64 z], .bool true]) (by simp [results, Try.results20, go_sem, k3c, k3f, k3z]) rfl ?_
        exact ⟨by rw [HZZ.out, H1.out, H3.out], below_of_alloc (set3i hfin) _⟩
end Go.Proofs.Ytnegolclofgboaa

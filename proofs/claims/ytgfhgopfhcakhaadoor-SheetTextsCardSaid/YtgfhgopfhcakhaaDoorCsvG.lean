
/-
  Rows of texts within bounds: hoistwaylaw53.great; the chapter's example. No conditions.
-/
import Derived.Test.YtgfhgopfhcakhaaDoorCsvS
set_option linter.unusedVariables false
set_option linter.unusedSimpArgs false
namespace Go.Proofs.YtgfhgopfhcakhaaDoor
open Go Go.Joins Go.ChangeShapes Go.WideShapes Go.ChangeAt Go.RowKit Go.Deep

def fineR (xs : List Byt) : Prop := xs.length ≤ 20 ∧ ∀ (j : Nat) (x : Byt), xs[j]? = some x → x.length ≤ 60
def fineRs (xss : List (List Byt)) : Prop := xss.length ≤ 30 ∧ ∀ (i : Nat) (xs : List Byt), xss[i]? = some xs → fineR xs
def Great53 (xss : List (List Byt)) (w : World) (e : Ending) (w' : World) : Prop := ∃ b : Bool, e = .returned (.bool b) ∧ (b = false → fineRs xss) ∧ Below w.heap.size w w'
set_option maxRecDepth 20000 in
set_option maxHeartbeats 8000000 in
theorem great53 (A : Option Addr) (C : Nat) (xss : List (List Byt)) (w : World) (hx : TxtRows w A xss) : Calls Tryd.prog 7 #[.slice A xss.length C] w (Great53 xss w) := by
  have HX := Lib.hid hx
  clear hx
  by_cases h30 : 30 < xss.length
  · go_enter Tryd.func7, Tryd.ntmps7
    go_wp2
    go_ret
    exact ⟨true, rfl, (fun h => by cases h), Below.refl _ _⟩
  · go_enter Tryd.func7, Tryd.ntmps7
    go_wp2
    go_loopw [3] (fun i wr => ∃ n : Nat, n ≤ xss.length ∧ i = .int .i64 n ∧ Hid (∀ (i : Nat) (xs : List Byt), i < n → xss[i]? = some xs → fineR xs) ∧ Below w.heap.size w wr) (fun i _ => xss.length - (intOf i).toNat)
    case atStart => exact ⟨0, by omega, rfl, fun i xs hi => by omega, Below.refl _ _⟩
    case round =>
      obtain ⟨n, hn, rfl, hpre, hb⟩ := hrel
      by_cases hkx : n < xss.length
      · obtain ⟨xs, hgx⟩ := at_some hkx
        obtain ⟨b, off, rfl, hbl, hce⟩ := HX.out (by omega)
        obtain ⟨A', C', z, hel⟩ := hce n xs hgx
        have HZ := Lib.hid z
        have HE := Lib.hid hel
        have HB := Lib.hid hb
        have z1 := (hb.cell (p := ⟨b, off + n, none⟩) hbl).trans z
        have hbz := Nat.lt_of_lt_of_le hbl hb.size
        have HN := Lib.hid (show fineR xs → ∀ (i : Nat) (xs : List Byt), i < n + 1 → xss[i]? = some xs → fineR xs from fun hf i xs' hi hi2 => by
          by_cases e : i < n
          · exact hpre.out i xs' e hi2
          · obtain rfl : i = n := by omega
            rw [hgx] at hi2
            injection hi2 with hi2
            subst hi2
            exact hf)
        by_cases h20 : 20 < xs.length
        · clear hce hgx z hel hb
          go_wp2
          go_ret
          exact ⟨true, rfl, (fun h => by cases h), HB.out⟩
        · clear hce hgx z hel hb
          go_wp2
          clear z1 hbz
          go_loopw [4] (fun i wr => ∃ k : Nat, k ≤ xs.length ∧ i = .int .i64 k ∧ Hid (∀ (j : Nat) (x : Byt), j < k → xs[j]? = some x → x.length ≤ 60) ∧ Below w.heap.size w wr) (fun i _ => xs.length - (intOf i).toNat)
          case atStart => exact ⟨0, by omega, rfl, fun j x hj => by omega, HB.out⟩
          case round =>
            obtain ⟨k, hk, rfl, hpk, hb⟩ := hrel
            have z1 := (hb.cell (p := ⟨b, off + n, none⟩) hbl).trans HZ.out
            have hbz := Nat.lt_of_lt_of_le hbl hb.size
            by_cases hlk : k < xs.length
            · obtain ⟨x, hg⟩ := at_some hlk
              obtain ⟨b3, off3, rfl, hbl3, hce3⟩ := HE.out (by omega)
              have z2 := (hb.cell (p := ⟨b3, off3 + k * 1 + 0, none⟩) hbl3).trans (hce3 k x hg 0 _ rfl)
              simp only [Nat.mul_one, Nat.add_zero] at z2
              have hbz3 := Nat.lt_of_lt_of_le hbl3 hb.size
              have hsz := txt_size x
              have HB2 := Lib.hid hb
              by_cases h60 : 60 < x.length
              · clear hg hce3 hb
                go_wp2
                go_ret
                exact ⟨true, rfl, (fun h => by cases h), HB2.out⟩
              · have HP := Lib.hid (show ∀ (j : Nat) (x : Byt), j < k + 1 → xs[j]? = some x → x.length ≤ 60 from fun j x' hj hj2 => by
                  by_cases e : j < k
                  · exact hpk.out j x' e hj2
                  · obtain rfl : j = k := by omega
                    rw [hg] at hj2
                    injection hj2 with hj2
                    subst hj2
                    omega)
                clear hg hce3 hb
                go_wp2
                go_roundw
                case rel => exact ⟨k + 1, by omega, by go_num, HP, HB2.out⟩
                case measure => simp [intOf]; omega
            · obtain rfl : k = xs.length := by omega
              have HP := Lib.hid (HN.out ⟨by omega, fun j x hj => hpk.out j x (List.getElem?_eq_some_iff.1 hj).1 hj⟩)
              go_wp2
              go_roundw
              case rel => exact ⟨n + 1, by omega, by go_num, HP, hb⟩
              case measure => simp [intOf]; omega
      · obtain rfl : n = xss.length := by omega
        have HP := Lib.hid (show fineRs xss from ⟨by omega, fun i xs hi => hpre.out i xs (List.getElem?_eq_some_iff.1 hi).1 hi⟩)
        go_wp2
        go_ret
        exact ⟨false, rfl, (fun _ => HP.out), hb⟩
set_option maxRecDepth 20000 in
set_option maxHeartbeats 4000000 in
theorem alive53 (m : Int) (w : World) (hm : Mx m w) : Calls Tryd.prog 13 #[] w fun e w' => e = .returned (.bool true) ∧ Below w.heap.size w w' := by
  go_enter Tryd.func13, Tryd.ntmps13
  go_wp2_with fail
  have k0 : Blk (w.alloc (.cells #[.string ⟨#[97]⟩, .string ⟨#[120, 44, 121]⟩] 9)) (w.heap.size) 9 #[.string ⟨#[97]⟩, .string ⟨#[120, 44, 121]⟩] := (blk_at (by simp))
  have hB : Below w.heap.size w (w.alloc (.cells #[.string ⟨#[97]⟩, .string ⟨#[120, 44, 121]⟩] 9)) := (bel_at (Below.refl _ _) (.cells #[.string ⟨#[97]⟩, .string ⟨#[120, 44, 121]⟩] 9))
  generalize (w.alloc (.cells #[.string ⟨#[97]⟩, .string ⟨#[120, 44, 121]⟩] 9)) = w1 at *
  (try clear k0c k0f k0z); have k0c := fun i => Blk.cell k0 i; have k0f := fun i => Blk.free k0 i; have k0z := Blk.lt k0
  have hx : Txts w1 (some ⟨w.heap.size, 0, none⟩) [[97], [120, 44, 121]] := fun _ => ⟨w.heap.size, 0, rfl, k0z, fun i a hi j u hj => by
    match i, j, hi, hj with
    | 0, 0, hi, hj =>
      simp at hi hj; subst hi; subst hj
      have := k0c 0
      simpa [txt] using this
    | 1, 0, hi, hj =>
      simp at hi hj; subst hi; subst hj
      have := k0c 1
      simpa [txt] using this⟩
  have cR := csv_Row m (some ⟨w.heap.size, 0, none⟩) 2 [[97], [120, 44, 121]] w1 (hm.below hB hm.pos) hx (fun i x hi => by
    match i, hi with
    | 0, hi => simp at hi; subst hi; decide
    | 1, hi => simp at hi; subst hi; decide) (by decide) (by decide)
  have hv : rowT [[97], [120, 44, 121]] = [97, 44, 34, 120, 44, 121, 34, 10] := by decide
  rw [hv] at cR
  have CR := Lib.hid cR
  have HB := Lib.hid hB
  clear cR hv hx k0 k0c k0f hB
  refine CR.out.mono ?_
  rintro e w2 ⟨rfl, hb2⟩
  have q0 : ((txt [97, 44, 34, 120, 44, 121, 34, 10]).toList == [97, 44, 34, 120, 44, 121, 34, 10]) = true := by rw [txt_toList]; rfl
  go_wp2
  go_ret
  exact ⟨rfl, HB.out.trans (hb2.mono (by omega))⟩
end Go.Proofs.YtgfhgopfhcakhaaDoor

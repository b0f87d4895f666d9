
/-
  The document's rows of texts, written: Text. Condition: the texts are not too long.
-/
import Derived.Test.YtgfhgopfhcakhaaDoorCsvT
set_option linter.unusedVariables false
set_option linter.unusedSimpArgs false
namespace Go.Proofs.YtgfhgopfhcakhaaDoor
open Go Go.Joins Go.ChangeShapes Go.WideShapes Go.ChangeAt Go.RowKit Go.Deep

set_option maxRecDepth 20000 in
set_option maxHeartbeats 8000000 in
theorem ref53_Text (A : Option Addr) (C : Nat) (xss : List (List Byt)) (w : World) (hx : TxtRows w A xss) (ok : RowsOk xss) :
    Calls Tryd.prog 8 #[.slice A xss.length C] w fun e w' => e = .returned (.string (txt (rowsT xss))) ∧ Below w.heap.size w w' := by
  have HX := Lib.hid hx
  have HBT := Lib.hid (rows_take xss)
  have HBA := Lib.hid (fun k x => @rows_at xss k x)
  have HR := Lib.hid ok.rows
  have hlen := ok.len
  have hlb := ok.all
  clear hx ok
  go_enter Tryd.func8, Tryd.ntmps8
  go_wp2
  go_loopw [3, 4] (fun t i wr => ∃ n : Nat, n ≤ xss.length ∧ t = .string (txt (rowsT (xss.take n))) ∧ i = .int .i64 (n : Int) ∧ Below w.heap.size w wr) (fun _ i _ => xss.length - (intOf i).toNat)
  case atStart => exact ⟨0, by omega, rfl, rfl, Below.refl _ _⟩
  case round =>
    obtain ⟨n, hn, rfl, rfl, hb⟩ := hrel
    by_cases hlt : n < xss.length
    · obtain ⟨xs, hg⟩ := at_some hlt
      obtain ⟨b, off, rfl, hbk, hce⟩ := HX.out (by omega)
      obtain ⟨A', C', z, hel⟩ := hce n xs hg
      have HE := Lib.hid hel
      have HZ := Lib.hid z
      obtain ⟨r1, r2, r3⟩ := HR.out n xs hg
      have e1 := HBA.out n xs hg
      have l1 := HBT.out n
      have E1 := Lib.hid e1
      have H3 := Lib.hid r3
      have HB1 := Lib.hid hb
      have HBB := Lib.hid (fun k x => @body_at xs k x)
      have HBM := Lib.hid (body_take xs)
      have hr2 : (bodyT xs).length < 100000 := by unfold rowT at r2; simp at r2; omega
      clear hce hg e1 hb hel r3 z r2
      generalize rowsT (xss.take n) = T at *
      have hT0 : txt T = txt (T ++ bodyT (xs.take 0)) := by simp [bodyT]
      have HT0 := Lib.hid hT0
      clear hT0
      go_wp2
      go_loopw [3, 5] (fun t i wr2 => ∃ k : Nat, k ≤ xs.length ∧ t = .string (txt (T ++ bodyT (xs.take k))) ∧ i = .int .i64 (k : Int) ∧ Below w.heap.size w wr2) (fun _ i _ => xs.length - (intOf i).toNat)
      case atStart => exact ⟨0, by omega, by rw [HT0.out], rfl, HB1.out⟩
      case round =>
        obtain ⟨k, hk, rfl, rfl, hb⟩ := hrel
        have z := (hb.cell (p := ⟨b, off + n, none⟩) hbk).trans HZ.out
        have hbz := Nat.lt_of_lt_of_le hbk hb.size
        by_cases hlk : k < xs.length
        · obtain ⟨x, hg⟩ := at_some hlk
          obtain ⟨b2, off2, rfl, hbk2, hce2⟩ := HE.out (by omega)
          have z2 := (hb.cell (p := ⟨b2, off2 + k * 1 + 0, none⟩) hbk2).trans (hce2 k x hg 0 _ rfl)
          simp only [Nat.mul_one, Nat.add_zero] at z2
          have hbz2 := Nat.lt_of_lt_of_le hbk2 hb.size
          have m1 := HBM.out k
          have m3 := cell_len x
          have hxl := H3.out k x hg
          have cX := fun w => ref53_Cell x w (by omega)
          have CX := Lib.hid cX
          have e2 := HBB.out k x hg
          have hs3 : (txt (cellT x)).size ≤ 4002 := by rw [txt_size]; omega
          have hs1 : (txt (T ++ bodyT (xs.take k))).size ≤ 200000 := by rw [txt_size, List.length_append]; omega
          rcases Nat.eq_zero_or_pos k with h0 | h0
          · rw [if_pos h0] at e2
            have hnt : txt (T ++ bodyT (xs.take k)) ++ txt (cellT x) = txt (T ++ bodyT (xs.take (k + 1))) := by
              rw [e2, h0, txt_append]; simp [bodyT]
            have HN := Lib.hid hnt
            have HB2 := Lib.hid hb
            have hd1 : decide ((0 : Int) < (k : Int)) = false := decide_eq_false (by omega)
            have hd2 : decide (0 < k) = false := decide_eq_false (by omega)
            clear hnt e2 cX hce2 hg hb h0 m1 m3 hxl
            generalize txt (T ++ bodyT (xs.take k)) = t at *
            generalize txt (cellT x) = u at *
            go_wp2_with (go_at_call 11; refine (CX.out _).mono ?_; rintro e w' ⟨rfl, rfl⟩)
            go_roundw
            case rel => exact ⟨k + 1, by omega, by rw [← HN.out], by go_num, HB2.out⟩
            case measure => simp [intOf]; omega
          · rw [if_neg (by omega)] at e2
            have hnt : (txt (T ++ bodyT (xs.take k)) ++ (⟨#[44]⟩ : ByteArray)) ++ txt (cellT x) = txt (T ++ bodyT (xs.take (k + 1))) := by
              rw [e2, show (⟨#[44]⟩ : ByteArray) = txt [44] from rfl, txt_append, txt_append]; simp
            have HN := Lib.hid hnt
            have HB2 := Lib.hid hb
            have hs2 : (txt (T ++ bodyT (xs.take k)) ++ (⟨#[44]⟩ : ByteArray)).size ≤ 200001 := by rw [ByteArray.size_append]; have : (⟨#[44]⟩ : ByteArray).size = 1 := rfl; omega
            clear hnt e2 cX hce2 hg hb m1 m3 hxl
            generalize txt (T ++ bodyT (xs.take k)) = t at *
            generalize txt (cellT x) = u at *
            go_wp2_with (go_at_call 11; refine (CX.out _).mono ?_; rintro e w' ⟨rfl, rfl⟩)
            go_roundw
            case rel => exact ⟨k + 1, by omega, by rw [← HN.out], by go_num, HB2.out⟩
            case measure => simp [intOf]; omega
        · obtain rfl : k = xs.length := by omega
          have hnt : txt (T ++ bodyT xs) ++ (⟨#[10]⟩ : ByteArray) = txt (T ++ rowT xs) := by
            rw [show (⟨#[10]⟩ : ByteArray) = txt [10] from rfl, txt_append]; simp [rowT]
          have HN := Lib.hid hnt
          have hs1 : (txt (T ++ bodyT xs)).size ≤ 200000 := by rw [txt_size, List.length_append]; omega
          have HB2 := Lib.hid hb
          rw [List.take_length]
          clear hnt hb
          generalize txt (T ++ bodyT xs) = t at *
          go_wp2
          go_roundw
          case rel => exact ⟨n + 1, by omega, by rw [E1.out, ← HN.out], by go_num, HB2.out⟩
          case measure => simp [intOf]; omega
    · obtain rfl : n = xss.length := by omega
      rw [List.take_length]
      go_wp2
      go_ret
      exact ⟨rfl, hb⟩
end Go.Proofs.YtgfhgopfhcakhaaDoor

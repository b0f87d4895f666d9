
/-
  The digits of a number with its sign: digits.Text, digits.Of. Condition: the numbers fit their kinds.
-/
import Derived.Test.YtgfhgopfhcakhaaDoorDec
set_option linter.unusedVariables false
set_option linter.unusedSimpArgs false
namespace Go.Proofs.YtgfhgopfhcakhaaDoor
open Go.Joins Go.ChangeShapes Go.WideShapes Go.ChangeAt Go.RowKit Go.Deep

/-- A number's digits, its sign ahead. -/
def decI (a : Int) : List UInt8 := if a < 0 then 45 :: dec (absI a).toNat else dec a.toNat
theorem decI_len (a : Int) : (decI a).length ≤ 21 := by
  unfold decI
  split
  · have := dec_len (absI a).toNat
    simp
    omega
  · have := dec_len a.toNat
    omega
theorem txt_cons (c : UInt8) (l : List UInt8) : (⟨#[c]⟩ : ByteArray) ++ txt l = txt (c :: l) := txt_append [c] l
set_option maxRecDepth 20000 in
theorem digits_Text (a : Int) (w : World) (h : I64 a) : Calls Tryd.prog 48 #[.int .i64 a] w fun e w' => e = .returned (.string (txt (decI a))) ∧ Below w.heap.size w w' := by
  obtain ⟨b0, b1⟩ := absI_bd h
  have cS := fun w => nums_Size a w h
  rcases Int.lt_or_le a 0 with h0 | h0
  · have hd : decI a = 45 :: dec (absI a).toNat := by unfold decI; rw [if_pos h0]
    have hl : (txt (dec (absI a).toNat)).size ≤ 20 := by rw [txt_size]; exact dec_len (absI a).toNat
    have cP := fun w => digits_plain (absI a).toNat w (by omega)
    rw [Int.toNat_of_nonneg b0] at cP
    have HD := Lib.hid hd
    have CS := Lib.hid cS
    have CP := Lib.hid cP
    clear hd cS cP
    unfold I64 at h
    obtain ⟨h1, h2⟩ := h
    generalize absI a = x at *
    go_enter Tryd.func48, Tryd.ntmps48
    go_wp2_with (first | (go_at_call 58; refine (CS.out _).mono ?_; rintro e w' ⟨rfl, rfl⟩) | (go_at_call 57; refine (CP.out _).mono ?_; rintro e w' ⟨rfl, hb⟩))
    go_ret
    exact ⟨ret_str (by rw [HD.out]; exact txt_cons 45 _), hb⟩
  · have hd : decI a = dec a.toNat := by unfold decI; rw [if_neg (by omega)]
    unfold I64 at h
    obtain ⟨h1, h2⟩ := h
    have cP := fun w => digits_plain a.toNat w (by omega)
    rw [Int.toNat_of_nonneg h0] at cP
    have HD := Lib.hid hd
    have CP := Lib.hid cP
    clear hd cS cP b0 b1
    go_enter Tryd.func48, Tryd.ntmps48
    go_wp2_with (first | (go_at_call 57; refine (CP.out _).mono ?_; rintro e w' ⟨rfl, hb⟩))
    go_ret
    exact ⟨ret_str (by rw [HD.out]), hb⟩
theorem digits_Of (a : Int) (w : World) (h : I64 a) : Calls Tryd.prog 39 #[.int .i64 a] w fun e w' => e = .returned (.string (txt (decI a))) ∧ Below w.heap.size w w' := by
  have cP := fun w => digits_Text a w h
  have CP := Lib.hid cP
  unfold I64 at h
  obtain ⟨h1, h2⟩ := h
  clear cP
  go_enter Tryd.func39, Tryd.ntmps39
  go_wp2_with (first | (go_at_call 48; refine (CP.out _).mono ?_; rintro e w' ⟨rfl, hb⟩))
  go_ret
  exact ⟨rfl, hb⟩
end Go.Proofs.YtgfhgopfhcakhaaDoor

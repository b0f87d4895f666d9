
/-
  Ticks as a time of day: clock.two, Text, and the document's. Condition: the numbers fit their kinds.
-/
import Derived.Test.YtnlieclfajebbaaDecR
set_option linter.unusedVariables false
set_option linter.unusedSimpArgs false
namespace Go.Proofs.Ytnlieclfajebbaa
open Go.Joins Go.ChangeShapes Go.WideShapes Go.ChangeAt Go.RowKit Go.Deep

/-- A number below 100 in two digits. -/
def twoL (n : Nat) : List UInt8 := [dg (n / 10), dg n]
theorem twoL_lo {n : Nat} (h : n < 10) : twoL n = 48 :: dec n := by
  rw [dec_small h]
  have : n / 10 = 0 := by omega
  unfold twoL
  rw [this]
  rfl
theorem twoL_hi {n : Nat} (h : 10 ≤ n) (h2 : n < 100) : twoL n = dec n := by
  rw [dec_step h (by omega), dec_small (by omega)]
  rfl
theorem decI_nat (n : Nat) : decI (n : Int) = dec n := by unfold decI; rw [if_neg (by omega)]; rfl
set_option maxRecDepth 20000 in
theorem clock_two (n : Nat) (w : World) (h : n < 100) : Calls Try.prog 66 #[.int .i64 (n : Int)] w fun e w' => e = .returned (.string (txt (twoL n))) ∧ Below w.heap.size w w' := by
  have cO := fun w => digits_Of (n : Int) w ⟨by omega, by omega⟩
  rw [decI_nat] at cO
  have hl : (txt (dec n)).size ≤ 20 := by rw [txt_size]; exact dec_len n
  by_cases hn : n < 10
  · have hd : twoL n = 48 :: dec n := twoL_lo hn
    have h1 : (n : Int) < 10 := by omega
    have HD := Lib.hid hd
    have CO := Lib.hid cO
    clear hd cO h hn
    go_enter Try.func66, Try.ntmps66
    go_wp2_with (first | (go_at_call 33; refine (CO.out _).mono ?_; rintro e w' ⟨rfl, hb⟩))
    go_ret
    exact ⟨ret_str (by rw [HD.out]; exact txt_cons 48 _), hb⟩
  · have hd : twoL n = dec n := twoL_hi (by omega) h
    have h1 : 10 ≤ (n : Int) := by omega
    have HD := Lib.hid hd
    have CO := Lib.hid cO
    clear hd cO h hn
    go_enter Try.func66, Try.ntmps66
    go_wp2_with (first | (go_at_call 33; refine (CO.out _).mono ?_; rintro e w' ⟨rfl, hb⟩))
    go_ret
    exact ⟨ret_str (by rw [HD.out]), hb⟩
theorem conv2 (g : Nat) (c : Nat) (a b : UInt8) (x y : Int) (w : World) (hx : x = (a.toNat : Int)) (hy : y = (b.toNat : Int)) (h : w.cell? ⟨g, 0, none⟩ = some (.int .u8 x)) (h1 : w.cell? ⟨g, 1, none⟩ = some (.int .u8 y)) :
    (convert 120 9 (.slice (some ⟨g, 0, none⟩) 2 c)).run Try.prog w = .ok (.string (txt [a, b])) w := by
  subst hx hy
  refine run_convert_bytes_back w _ _ _ _ c [a, b] Try.underlying120 Try.underlying5 Try.underlying9 fun j hj => ?_
  have : j = 0 ∨ j = 1 := by simp at hj; omega
  rcases this with rfl | rfl
  · exact h
  · exact h1
set_option maxRecDepth 20000 in
theorem ref52_two (n : Nat) (w : World) (h : n < 100) : Calls Try.prog 67 #[.int .u64 (n : Int)] w fun e w' => e = .returned (.string (txt (twoL n))) ∧ Below w.heap.size w w' := by
  have hx : (48 : Int) + (n : Int) / 10 % 10 = ((dg (n / 10)).toNat : Int) := by rw [dg_toNat]; omega
  have hy : (48 : Int) + (n : Int) % 10 = ((dg n).toNat : Int) := by rw [dg_toNat]; omega
  have hc := conv2 w.heap.size 2 (dg (n / 10)) (dg n) _ _ (w.alloc (.cells #[.int .u8 (48 + (n : Int) / 10 % 10), .int .u8 (48 + (n : Int) % 10)] 5)) hx hy ((Blk.new w 5 #[.int .u8 (48 + (n : Int) / 10 % 10), .int .u8 (48 + (n : Int) % 10)]).cell 0) ((Blk.new w 5 #[.int .u8 (48 + (n : Int) / 10 % 10), .int .u8 (48 + (n : Int) % 10)]).cell 1)
  have h1 : (n : Int) < 100 := by omega
  have r0 : (0 : Int) ≤ (n : Int) / 10 % 10 := by omega
  have r1 : (n : Int) / 10 % 10 ≤ 9 := by omega
  have r2 : (0 : Int) ≤ (n : Int) % 10 := by omega
  have r3 : (n : Int) % 10 ≤ 9 := by omega
  have r4 : (0 : Int) ≤ (n : Int) / 10 := by omega
  clear hx hy h
  go_enter Try.func67, Try.ntmps67
  go_wp2
  go_ret
  exact ⟨rfl, Joins.below_alloc1 _ _⟩
end Go.Proofs.Ytnlieclfajebbaa


/-
  Layer 2: the chapter's example. No conditions.
-/
import Derived.Test.YtnlieclfajebbaaRead2
set_option linter.unusedVariables false
set_option linter.unusedSimpArgs false
namespace Go.Proofs.Ytnlieclfajebbaa
open Go.Joins Go.ChangeShapes Go.WideShapes Go.ChangeAt Go.RowKit Go.Deep

theorem fixed_ex (w : World) : Calls Try.prog 77 #[.int .i64 (-5), .int .i64 2] w fun e w' => e = .returned (.string ⟨#[45, 48, 46, 48, 53]⟩) ∧ Below w.heap.size w w' := by
  have cS : ∀ w, Calls Try.prog 76 #[.int .i64 (-5)] w fun e w' => e = .returned (.int .u64 5) ∧ w = w' := fun w => nums_Size (-5) w ⟨by omega, by omega⟩
  have cP : ∀ w, Calls Try.prog 75 #[.int .u64 5] w fun e w' => e = .returned (.string (txt [53])) ∧ Below w.heap.size w w' := fun w => digits_plain 5 w (by omega)
  have z1 : (txt [53]).size = 1 := rfl
  have z2 : (txt [48, 53]).size = 2 := rfl
  have z3 : (txt [48, 48, 53]).size = 3 := rfl
  have z4 : (txt [48]).size = 1 := rfl
  have z5 : (txt [48, 46]).size = 2 := rfl
  have j1 : (⟨#[48]⟩ : ByteArray) ++ txt [53] = txt [48, 53] := txt_append [48] [53]
  have j2 : (⟨#[48]⟩ : ByteArray) ++ txt [48, 53] = txt [48, 48, 53] := txt_append [48] [48, 53]
  have j3 : txt [48] ++ (⟨#[46]⟩ : ByteArray) = txt [48, 46] := txt_append [48] [46]
  have j4 : txt [48, 46] ++ txt [48, 53] = txt [48, 46, 48, 53] := txt_append [48, 46] [48, 53]
  have z6 : (txt [48, 46, 48, 53]).size = 4 := rfl
  have j5 : (⟨#[45]⟩ : ByteArray) ++ txt [48, 46, 48, 53] = ⟨#[45, 48, 46, 48, 53]⟩ := txt_append [45] [48, 46, 48, 53]
  have s1 := fun w => upto_txt [48, 48, 53] 1 1 rfl (by simp) w
  have s2 := fun w => from_txt [48, 48, 53] 1 1 rfl (by simp) w
  rw [show List.take 1 [48, 48, 53] = [(48 : UInt8)] from rfl] at s1
  rw [show List.drop 1 [48, 48, 53] = [(48 : UInt8), 53] from rfl] at s2
  generalize txt [53] = a1 at *
  generalize txt [48, 53] = a2 at *
  generalize txt [48, 48, 53] = a3 at *
  generalize txt [48] = a4 at *
  generalize txt [48, 46, 48, 53] = a6 at *
  generalize txt [48, 46] = a5 at *
  go_enter Try.func77, Try.ntmps77
  go_wp2_with (first | (go_at_call 76; refine (cS _).mono ?_; rintro e w' ⟨rfl, rfl⟩) | (go_at_call 75; refine (cP _).mono ?_; rintro e w1 ⟨rfl, hb1⟩))
  go_loopw [5] (fun v wr => (v = .string a1 ∨ v = .string a2 ∨ v = .string a3) ∧ wr = w1) (fun v _ => match v with | .string s => 3 - s.size | _ => 0)
  case atStart => exact ⟨.inl rfl, rfl⟩
  case round =>
    obtain ⟨hv, rfl⟩ := hrel
    rcases hv with rfl | rfl | rfl
    · go_wp2
      go_round
      case rel => exact ⟨.inr (.inl rfl), trivial⟩
      case measure => simp [z1, z2, j1]
    · go_wp2
      go_round
      case rel => exact ⟨.inr (.inr rfl), trivial⟩
      case measure => simp [z2, z3, j2]
    · go_wp2
      go_quiet (fail)
      go_wp2
      go_ret
      exact ⟨rfl, below_drewN hb1 _⟩
theorem alive02 (w : World) : Calls Try.prog 31 #[] w fun e w' => e = .returned (.bool true) ∧ Below w.heap.size w w' := by
  have cR : ∀ w, Calls Try.prog 28 #[.string ⟨#[45, 49, 50]⟩] w fun e w' => e = .returned (.tuple #[.int .i64 (-12), .int .i64 0]) ∧ w = w' := fun w => digits_Read [45, 49, 50] w (by simp)
  have cT : ∀ w, Calls Try.prog 30 #[.int .i64 (-120)] w fun e w' => e = .returned (.string ⟨#[45, 49, 50, 48]⟩) ∧ Below w.heap.size w w' := fun w => digits_Text (-120) w ⟨by omega, by omega⟩
  have CR := Lib.hid cR
  have CT := Lib.hid cT
  clear cR cT
  go_enter Try.func31, Try.ntmps31
  go_wp2_with (first | (go_at_call 28; refine (CR.out _).mono ?_; rintro e w' ⟨rfl, rfl⟩) | (go_at_call 77; refine (fixed_ex _).mono ?_; rintro e w1 ⟨rfl, hb1⟩) | (go_at_call 30; refine (CT.out _).mono ?_; rintro e w2 ⟨rfl, hb2⟩))
  go_ret
  exact ⟨rfl, hb1.trans (hb2.mono hb1.size)⟩
end Go.Proofs.Ytnlieclfajebbaa

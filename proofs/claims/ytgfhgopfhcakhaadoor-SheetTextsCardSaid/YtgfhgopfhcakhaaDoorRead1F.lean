
/-
  digits.Read: the number of any text, or why it is none. Condition: at most 2900 bytes.
-/
import Derived.Test.YtgfhgopfhcakhaaDoorReadPF
import Derived.Test.YtgfhgopfhcakhaaDoorTxt
set_option linter.unusedVariables false
set_option linter.unusedSimpArgs false
namespace Go.Proofs.YtgfhgopfhcakhaaDoor
open Go.Joins Go.ChangeShapes Go.WideShapes Go.ChangeAt Go.RowKit Go.Deep

theorem u8_lt (c : UInt8) : (c.toNat : Int) ≤ 255 := by have := c.toNat_lt; omega
theorem u8_ne {c : UInt8} {n : Nat} (h : c ≠ UInt8.ofNat n) (hn : n < 256) : c.toNat ≠ n := by
  intro e; apply h; rw [← e]; simp
theorem vk_fit {d : List UInt8} (k : Nat) : (0 : Int) ≤ (vk d k : Nat) := by omega
set_option maxRecDepth 20000 in
set_option maxHeartbeats 2000000 in
theorem read_none (w : World)  : Calls Tryd.prog 40 #[.string (txt [])] w fun e w' => e = .returned (.tuple #[.int .i64 (readV []), .int .i64 (readE [])]) ∧ w = w' := by
  have e1 : (txt []).size = 0 := rfl
  have e2 : ((txt []).toList == []) = true := by rw [txt_toList]; rfl
  obtain ⟨h1, h2⟩ := read_no (l := []) rfl
  rw [h1, h2]
  generalize txt [] = s at *
  go_enter Tryd.func40, Tryd.ntmps40
  go_wp2
  go_ret2
  exact ⟨rfl, rfl⟩
set_option maxRecDepth 20000 in
set_option maxHeartbeats 2000000 in
theorem read_stroke (w : World)  : Calls Tryd.prog 40 #[.string (txt [45])] w fun e w' => e = .returned (.tuple #[.int .i64 (readV [45]), .int .i64 (readE [45])]) ∧ w = w' := by
  have e1 : (txt [45]).size = 1 := rfl
  have i0 := fun w => ix_txt [45] 0 0 45 rfl rfl .i64 w
  have s1 := fun w => from_txt [45] 1 1 rfl (by simp) w
  have e2 : ((txt []).toList == []) = true := by rw [txt_toList]; rfl
  simp only [List.drop] at s1
  obtain ⟨h1, h2⟩ := read_no (l := [45]) rfl
  rw [h1, h2]
  generalize txt [45] = s at *
  generalize txt [] = s2 at *
  go_enter Tryd.func40, Tryd.ntmps40
  go_wp2
  go_ret2
  exact ⟨rfl, rfl⟩
set_option maxRecDepth 20000 in
set_option maxHeartbeats 2000000 in
theorem read_below0 (w : World) (m : List UInt8) (hl : m.length ≤ 3000) : Calls Tryd.prog 40 #[.string (txt (45 :: 48 :: m))] w fun e w' => e = .returned (.tuple #[.int .i64 (readV (45 :: 48 :: m)), .int .i64 (readE (45 :: 48 :: m))]) ∧ w = w' := by
  have e1 : (txt (45 :: 48 :: m)).size = m.length + 2 := by rw [txt_size]; rfl
  have i0 := fun w => ix_txt (45 :: 48 :: m) 0 0 45 rfl rfl .i64 w
  have s1 := fun w => from_txt (45 :: 48 :: m) 1 1 rfl (by simp) w
  have i1 := fun w => ix_txt (48 :: m) 0 0 48 rfl rfl .i64 w
  have e2 : ((txt (48 :: m)).toList == []) = false := by rw [txt_toList]; rfl
  simp only [List.drop] at s1
  obtain ⟨h1, h2⟩ := read_no (l := 45 :: 48 :: m) (by simp [formB, bodyR, belowR])
  rw [h1, h2]
  generalize txt (45 :: 48 :: m) = s at *
  generalize txt (48 :: m) = s2 at *
  go_enter Tryd.func40, Tryd.ntmps40
  go_wp2
  go_ret2
  exact ⟨rfl, rfl⟩
set_option maxRecDepth 20000 in
set_option maxHeartbeats 2000000 in
theorem read_above0 (w : World) (x : UInt8) (m : List UInt8) (hl : m.length ≤ 3000) : Calls Tryd.prog 40 #[.string (txt (48 :: x :: m))] w fun e w' => e = .returned (.tuple #[.int .i64 (readV (48 :: x :: m)), .int .i64 (readE (48 :: x :: m))]) ∧ w = w' := by
  have e1 : (txt (48 :: x :: m)).size = m.length + 2 := by rw [txt_size]; rfl
  have i0 := fun w => ix_txt (48 :: x :: m) 0 0 48 rfl rfl .i64 w
  have e2 : ((txt (48 :: x :: m)).toList == []) = false := by rw [txt_toList]; rfl
  obtain ⟨h1, h2⟩ := read_no (l := 48 :: x :: m) (by simp [formB, bodyR, belowR])
  rw [h1, h2]
  generalize txt (48 :: x :: m) = s at *
  go_enter Tryd.func40, Tryd.ntmps40
  go_wp2
  go_ret2
  exact ⟨rfl, rfl⟩
set_option maxRecDepth 20000 in
set_option maxHeartbeats 2000000 in
theorem read_below (w : World) (d : List UInt8) (x : UInt8) (hx : d[0]? = some x) (h48 : x ≠ 48) (hl : d.length ≤ 3000) : Calls Tryd.prog 40 #[.string (txt (45 :: d))] w fun e w' => e = .returned (.tuple #[.int .i64 (readV (45 :: d)), .int .i64 (readE (45 :: d))]) ∧ w = w' := by
  have HNE : (d == []) = false := by cases d <;> simp_all
  have HBO : bodyR (45 :: d) = d := by simp [bodyR, belowR]
  have HVA : valI (45 :: d) = -(valL d 0 : Int) := by unfold valI; rw [HBO]; simp [sgR, belowR]
  have HFO : d.all isD = true → formB (45 :: d) = true := fun h => by
    unfold formB; rw [HBO, h]
    cases d with
    | nil => simp at hx
    | cons a m => simp at hx; subst hx; simp [h48]
  have hno : d.all isD = false → readV (45 :: d) = 0 ∧ readE (45 :: d) = 20 := fun h => read_no (form_all (by rw [HBO]; exact h))
  have hyes : d.all isD = true → readV (45 :: d) = fit2V (-(valL d 0 : Int)) ∧ readE (45 :: d) = fit2E (-(valL d 0 : Int)) := fun h => by
    rw [← HVA]; exact read_yes (HFO h)
  have hsz : (txt d).size = d.length := txt_size d
  have he : ((txt d).toList == []) = false := by rw [txt_toList]; exact HNE
  have hix : ∀ (k : Nat) (c : UInt8), d[k]? = some c → ∀ w, (Instr.index 9 (.string (txt d)) (.int .i64 (k : Int))).run Tryd.prog w = .ok (.int .u8 (c.toNat : Int)) w := fun k c h w => ix_txt d k k c rfl h .i64 w
  have NO := Lib.hid hno
  have YES := Lib.hid hyes
  have IX := Lib.hid hix
  have t1 : (txt (45 :: d)).size = d.length + 1 := by rw [txt_size]; rfl
  have i0 := fun w => ix_txt (45 :: d) 0 0 45 rfl rfl .i64 w
  have s1 := fun w => from_txt (45 :: d) 1 1 rfl (by simp) w
  have i1 := fun w => ix_txt d 0 0 x rfl hx .i64 w
  have b1 : ((x.toNat : Int) == 48) = false := by have := u8_ne (n := 48) h48 (by omega); simp; omega
  simp only [List.drop] at s1
  have hxb := u8_lt x
  clear h48
  clear hno hyes hix HBO HVA HFO HNE
  generalize readV (45 :: d) = rv at *
  generalize readE (45 :: d) = re at *
  generalize txt d = s at *
  generalize txt (45 :: d) = s0 at *
  go_enter Tryd.func40, Tryd.ntmps40
  go_wp2
  go_loop [37, 5, 6] (fun i u v => ∃ k : Nat, k ≤ d.length ∧ i = .int .i64 k ∧ Hid ((d.take k).all isD = true) ∧ u = .int .i64 (fit2V (-(vk d k : Int))) ∧ v = .int .i64 (fit2E (-(vk d k : Int)))) (fun i _ _ => d.length - (intOf i).toNat)
  case atStart => exact ⟨0, by omega, rfl, rfl, by rw [vk_zero]; rfl, by rw [vk_zero]; rfl⟩
  case round =>
    obtain ⟨k, hk, rfl, hall, rfl, rfl⟩ := hrel
    by_cases hlt : k < d.length
    · obtain ⟨c, hc⟩ : ∃ c, d[k]? = some c := ⟨_, List.getElem?_eq_getElem hlt⟩
      have hix := fun w => IX.out k c hc w
      have hcb := u8_lt c
      cases hD : isD c
      · have hno := NO.out (all_no hc hD)
        have hor := (isD_not c).1 hD
        have HR := Lib.hid hno
        clear hno hD
        rcases hor with hor | hor
        · have q1 : decide ((c.toNat : Int) < 48) = true := decide_eq_true (by omega)
          go_wp2
          go_ret2
          exact ⟨ret_two HR.out.1.symm HR.out.2.symm, rfl⟩
        · have q1 : decide ((c.toNat : Int) < 48) = false := decide_eq_false (by omega)
          have q2 : decide (57 < (c.toNat : Int)) = true := decide_eq_true (by omega)
          go_wp2
          go_ret2
          exact ⟨ret_two HR.out.1.symm HR.out.2.symm, rfl⟩
      · obtain ⟨d1, d2⟩ := (isD_iff c).1 hD
        have hall2 := all_take_step hc hall.out hD
        have hvs : -(vk d (k + 1) : Int) = -(vk d k : Int) * 10 + -1 * ((c.toNat : Int) - 48) := by have := vk_step hc; omega
        have HA := Lib.hid hall2
        have hst := fit_step (V := -(vk d k : Int)) (dd := (c.toNat : Int) - 48) (-1) (by omega) (by omega) (by omega)
        rw [← hvs] at hst
        have ew1 : IntKind.u8.wrap ((c.toNat : Int) - 48) = (c.toNat : Int) - 48 := IntWalk.u8_in _ (by omega)
        have q1 : decide ((c.toNat : Int) < 48) = false := decide_eq_false (by omega)
        have q2 : decide (57 < (c.toNat : Int)) = false := decide_eq_false (by omega)
        have cM := fun w (h : I64 (-(vk d k : Int))) => nums_Mul (-(vk d k : Int)) 10 w h ⟨by omega, by omega⟩
        have cA := fun w (h1 : I64 (-(vk d k : Int) * 10)) (h2 : I64 (-1 * ((c.toNat : Int) - 48))) => nums_Add (-(vk d k : Int) * 10) (-1 * ((c.toNat : Int) - 48)) w h1 h2
        rw [← hvs] at cA
        rw [show -1 * ((c.toNat : Int) - 48) = -((c.toNat : Int) - 48) by omega] at cA hst
        clear hvs hall2 hD
        generalize -(vk d k : Int) = V at *
        obtain ⟨V2, hV2⟩ : ∃ V2, V2 = -(vk d (k + 1) : Int) := ⟨_, rfl⟩
        rw [← hV2] at hst cA
        have HV2 := Lib.hid hV2
        clear hV2
        rcases hst with ⟨s1, s2, s3, s4⟩ | ⟨s1, s2, s3, s4, s5, s6, s7⟩ | ⟨s1, s2, s3, s4, s5, s6, s7⟩
        · rw [s1, s2]
          have S3 := Lib.hid s3
          have S4 := Lib.hid s4
          clear cM cA s1 s2 s3 s4
          go_wp2
          go_round
          case rel => exact ⟨k + 1, by omega, by go_num, HA, by rw [← HV2.out, S4.out], by rw [← HV2.out, S3.out]⟩
          case measure => simp [intOf]; omega
        · have cM := fun w => cM w s3
          rw [s1, s2]
          rw [s4, s5] at cM
          have CM := Lib.hid cM
          have S3 := Lib.hid s6
          have S4 := Lib.hid s7
          clear cM cA s1 s2 s3 s4 s5 s6 s7
          go_wp2_with (first | (go_at_call 49; refine (CM.out _).mono ?_; rintro e w' ⟨rfl, rfl⟩))
          go_round
          case rel => exact ⟨k + 1, by omega, by go_num, HA, by rw [← HV2.out, S4.out], by rw [← HV2.out, S3.out]⟩
          case measure => simp [intOf]; omega
        · have cM := fun w => cM w s3
          have cA := fun w => cA w s6 s7
          rw [s1, s2]
          rw [s4, s5] at cM
          have CM := Lib.hid cM
          have CA := Lib.hid cA
          clear cM cA s1 s2 s3 s4 s5 s6 s7
          generalize V * 10 = V1 at *
          go_wp2_with (first | (go_at_call 49; refine (CM.out _).mono ?_; rintro e w' ⟨rfl, rfl⟩) | (go_at_call 50; refine (CA.out _).mono ?_; rintro e w' ⟨rfl, rfl⟩))
          go_round
          case rel => exact ⟨k + 1, by omega, by go_num, HA, by rw [← HV2.out], by rw [← HV2.out]⟩
          case measure => simp [intOf]; omega
    · obtain rfl : k = d.length := by omega
      have hyes := YES.out (by have := hall.out; rwa [List.take_length] at this)
      rw [← vk_all] at hyes
      generalize -(vk d d.length : Int) = V at *
      have HR := Lib.hid hyes
      rcases fit_cases V with ⟨f1, f2⟩ | ⟨f1, f2, f3⟩
      · rw [f1, f2] at hyes
        rw [f1, f2]
        have HR := Lib.hid hyes
        clear hyes f1 f2
        go_wp2
        go_ret2
        exact ⟨ret_two HR.out.1.symm HR.out.2.symm, rfl⟩
      · rw [f1, f2] at hyes
        rw [f1, f2]
        have HR := Lib.hid hyes
        clear hyes f1 f2
        go_wp2
        go_ret2
        exact ⟨ret_two HR.out.1.symm HR.out.2.symm, rfl⟩
set_option maxRecDepth 20000 in
set_option maxHeartbeats 2000000 in
theorem read_above (w : World) (d : List UInt8) (x : UInt8) (hx : d[0]? = some x) (h45 : x ≠ 45) (h48 : x ≠ 48) (hl : d.length ≤ 3000) : Calls Tryd.prog 40 #[.string (txt d)] w fun e w' => e = .returned (.tuple #[.int .i64 (readV d), .int .i64 (readE d)]) ∧ w = w' := by
  have HNE : (d == []) = false := by cases d <;> simp_all
  have hbe : belowR d = false := by unfold belowR; cases d <;> simp_all
  have HBO : bodyR d = d := by simp [bodyR, hbe]
  have HVA : valI d = (valL d 0 : Int) := by unfold valI; rw [HBO]; simp [sgR, hbe]
  have HFO : d.all isD = true → formB d = true := fun h => by
    unfold formB; rw [HBO, h]
    cases d with
    | nil => simp at hx
    | cons a m => simp at hx; subst hx; simp_all
  have hno : d.all isD = false → readV d = 0 ∧ readE d = 20 := fun h => read_no (form_all (by rw [HBO]; exact h))
  have hyes : d.all isD = true → readV d = fit2V ((valL d 0 : Int)) ∧ readE d = fit2E ((valL d 0 : Int)) := fun h => by
    rw [← HVA]; exact read_yes (HFO h)
  have hsz : (txt d).size = d.length := txt_size d
  have he : ((txt d).toList == []) = false := by rw [txt_toList]; exact HNE
  have hix : ∀ (k : Nat) (c : UInt8), d[k]? = some c → ∀ w, (Instr.index 9 (.string (txt d)) (.int .i64 (k : Int))).run Tryd.prog w = .ok (.int .u8 (c.toNat : Int)) w := fun k c h w => ix_txt d k k c rfl h .i64 w
  have NO := Lib.hid hno
  have YES := Lib.hid hyes
  have IX := Lib.hid hix
  have i1 := fun w => ix_txt d 0 0 x rfl hx .i64 w
  have b0 : ((x.toNat : Int) == 45) = false := by have := u8_ne (n := 45) h45 (by omega); simp; omega
  have b1 : ((x.toNat : Int) == 48) = false := by have := u8_ne (n := 48) h48 (by omega); simp; omega
  have hxb := u8_lt x
  have hd1 : 1 ≤ d.length := by cases d <;> simp_all
  clear hbe
  clear hno hyes hix HBO HVA HFO HNE
  generalize readV d = rv at *
  generalize readE d = re at *
  generalize txt d = s at *
  go_enter Tryd.func40, Tryd.ntmps40
  go_wp2
  go_loop [37, 5, 6] (fun i u v => ∃ k : Nat, k ≤ d.length ∧ i = .int .i64 k ∧ Hid ((d.take k).all isD = true) ∧ u = .int .i64 (fit2V ((vk d k : Int))) ∧ v = .int .i64 (fit2E ((vk d k : Int)))) (fun i _ _ => d.length - (intOf i).toNat)
  case atStart => exact ⟨0, by omega, rfl, rfl, by rw [vk_zero]; rfl, by rw [vk_zero]; rfl⟩
  case round =>
    obtain ⟨k, hk, rfl, hall, rfl, rfl⟩ := hrel
    by_cases hlt : k < d.length
    · obtain ⟨c, hc⟩ : ∃ c, d[k]? = some c := ⟨_, List.getElem?_eq_getElem hlt⟩
      have hix := fun w => IX.out k c hc w
      have hcb := u8_lt c
      cases hD : isD c
      · have hno := NO.out (all_no hc hD)
        have hor := (isD_not c).1 hD
        have HR := Lib.hid hno
        clear hno hD
        rcases hor with hor | hor
        · have q1 : decide ((c.toNat : Int) < 48) = true := decide_eq_true (by omega)
          go_wp2
          go_ret2
          exact ⟨ret_two HR.out.1.symm HR.out.2.symm, rfl⟩
        · have q1 : decide ((c.toNat : Int) < 48) = false := decide_eq_false (by omega)
          have q2 : decide (57 < (c.toNat : Int)) = true := decide_eq_true (by omega)
          go_wp2
          go_ret2
          exact ⟨ret_two HR.out.1.symm HR.out.2.symm, rfl⟩
      · obtain ⟨d1, d2⟩ := (isD_iff c).1 hD
        have hall2 := all_take_step hc hall.out hD
        have hvs : (vk d (k + 1) : Int) = (vk d k : Int) * 10 + 1 * ((c.toNat : Int) - 48) := by have := vk_step hc; omega
        have HA := Lib.hid hall2
        have hst := fit_step (V := (vk d k : Int)) (dd := (c.toNat : Int) - 48) (1) (by omega) (by omega) (by omega)
        rw [← hvs] at hst
        have ew1 : IntKind.u8.wrap ((c.toNat : Int) - 48) = (c.toNat : Int) - 48 := IntWalk.u8_in _ (by omega)
        have q1 : decide ((c.toNat : Int) < 48) = false := decide_eq_false (by omega)
        have q2 : decide (57 < (c.toNat : Int)) = false := decide_eq_false (by omega)
        have cM := fun w (h : I64 ((vk d k : Int))) => nums_Mul ((vk d k : Int)) 10 w h ⟨by omega, by omega⟩
        have cA := fun w (h1 : I64 ((vk d k : Int) * 10)) (h2 : I64 (1 * ((c.toNat : Int) - 48))) => nums_Add ((vk d k : Int) * 10) (1 * ((c.toNat : Int) - 48)) w h1 h2
        rw [← hvs] at cA
        rw [show 1 * ((c.toNat : Int) - 48) = ((c.toNat : Int) - 48) by omega] at cA hst
        clear hvs hall2 hD
        generalize (vk d k : Int) = V at *
        obtain ⟨V2, hV2⟩ : ∃ V2, V2 = (vk d (k + 1) : Int) := ⟨_, rfl⟩
        rw [← hV2] at hst cA
        have HV2 := Lib.hid hV2
        clear hV2
        rcases hst with ⟨s1, s2, s3, s4⟩ | ⟨s1, s2, s3, s4, s5, s6, s7⟩ | ⟨s1, s2, s3, s4, s5, s6, s7⟩
        · rw [s1, s2]
          have S3 := Lib.hid s3
          have S4 := Lib.hid s4
          clear cM cA s1 s2 s3 s4
          go_wp2
          go_round
          case rel => exact ⟨k + 1, by omega, by go_num, HA, by rw [← HV2.out, S4.out], by rw [← HV2.out, S3.out]⟩
          case measure => simp [intOf]; omega
        · have cM := fun w => cM w s3
          rw [s1, s2]
          rw [s4, s5] at cM
          have CM := Lib.hid cM
          have S3 := Lib.hid s6
          have S4 := Lib.hid s7
          clear cM cA s1 s2 s3 s4 s5 s6 s7
          go_wp2_with (first | (go_at_call 49; refine (CM.out _).mono ?_; rintro e w' ⟨rfl, rfl⟩))
          go_round
          case rel => exact ⟨k + 1, by omega, by go_num, HA, by rw [← HV2.out, S4.out], by rw [← HV2.out, S3.out]⟩
          case measure => simp [intOf]; omega
        · have cM := fun w => cM w s3
          have cA := fun w => cA w s6 s7
          rw [s1, s2]
          rw [s4, s5] at cM
          have CM := Lib.hid cM
          have CA := Lib.hid cA
          clear cM cA s1 s2 s3 s4 s5 s6 s7
          generalize V * 10 = V1 at *
          go_wp2_with (first | (go_at_call 49; refine (CM.out _).mono ?_; rintro e w' ⟨rfl, rfl⟩) | (go_at_call 50; refine (CA.out _).mono ?_; rintro e w' ⟨rfl, rfl⟩))
          go_round
          case rel => exact ⟨k + 1, by omega, by go_num, HA, by rw [← HV2.out], by rw [← HV2.out]⟩
          case measure => simp [intOf]; omega
    · obtain rfl : k = d.length := by omega
      have hyes := YES.out (by have := hall.out; rwa [List.take_length] at this)
      rw [← vk_all] at hyes
      generalize (vk d d.length : Int) = V at *
      have HR := Lib.hid hyes
      rcases fit_cases V with ⟨f1, f2⟩ | ⟨f1, f2, f3⟩
      · rw [f1, f2] at hyes
        rw [f1, f2]
        have HR := Lib.hid hyes
        clear hyes f1 f2
        go_wp2
        go_ret2
        exact ⟨ret_two HR.out.1.symm HR.out.2.symm, rfl⟩
      · rw [f1, f2] at hyes
        rw [f1, f2]
        have HR := Lib.hid hyes
        clear hyes f1 f2
        go_wp2
        go_ret2
        exact ⟨ret_two HR.out.1.symm HR.out.2.symm, rfl⟩
theorem read_nought (w : World) : Calls Tryd.prog 40 #[.string (txt [48])] w fun e w' => e = .returned (.tuple #[.int .i64 (readV [48]), .int .i64 (readE [48])]) ∧ w = w' := by
  have e1 : (txt [48]).size = 1 := rfl
  have i0 := fun w => ix_txt [48] 0 0 48 rfl rfl .i64 w
  have e2 : ((txt [48]).toList == []) = false := by rw [txt_toList]; rfl
  have cM := fun w => nums_Mul 0 10 w ⟨by omega, by omega⟩ ⟨by omega, by omega⟩
  have cA := fun w => nums_Add 0 0 w ⟨by omega, by omega⟩ ⟨by omega, by omega⟩
  rw [show fit2V (0 * 10) = 0 from rfl, show fit2E (0 * 10) = 0 from rfl] at cM
  rw [show fit2V (0 + 0) = 0 from rfl, show fit2E (0 + 0) = 0 from rfl] at cA
  rw [show readV [48] = 0 from rfl, show readE [48] = 0 from rfl]
  have CM := Lib.hid cM
  have CA := Lib.hid cA
  have I0 := Lib.hid i0
  clear cM cA
  generalize txt [48] = s at *
  go_enter Tryd.func40, Tryd.ntmps40
  go_wp2
  go_loop [37, 5, 6] (fun i u v => (i = .int .i64 0 ∨ i = .int .i64 1) ∧ u = .int .i64 0 ∧ v = .int .i64 0) (fun i _ _ => 1 - (intOf i).toNat)
  case atStart => exact ⟨.inl rfl, rfl, rfl⟩
  case round =>
    obtain ⟨hi, rfl, rfl⟩ := hrel
    rcases hi with rfl | rfl
    · go_wp2_with (first | (go_at_call 49; refine (CM.out _).mono ?_; rintro e w' ⟨rfl, rfl⟩) | (go_at_call 50; refine (CA.out _).mono ?_; rintro e w' ⟨rfl, rfl⟩))
      go_round
      case rel => exact ⟨.inr rfl, rfl, rfl⟩
      case measure => simp [intOf]
    · go_wp2
      go_ret2
      exact ⟨rfl, rfl⟩
/-- Any text. -/
theorem digits_Read (l : List UInt8) (w : World) (hl : l.length ≤ 3000) : Calls Tryd.prog 40 #[.string (txt l)] w fun e w' => e = .returned (.tuple #[.int .i64 (readV l), .int .i64 (readE l)]) ∧ w = w' := by
  cases l with
  | nil => exact read_none w
  | cons x m =>
    simp at hl
    by_cases h45 : x = 45
    · subst h45
      cases m with
      | nil => exact read_stroke w
      | cons y m =>
        simp at hl
        by_cases h48 : y = 48
        · subst h48; exact read_below0 w m (by omega)
        · exact read_below w (y :: m) y rfl h48 (by simp; omega)
    · by_cases h48 : x = 48
      · subst h48
        cases m with
        | nil => exact read_nought w
        | cons y m => simp at hl; exact read_above0 w y m (by omega)
      · exact read_above w (x :: m) x rfl h45 h48 (by simp; omega)
end Go.Proofs.YtgfhgopfhcakhaaDoor

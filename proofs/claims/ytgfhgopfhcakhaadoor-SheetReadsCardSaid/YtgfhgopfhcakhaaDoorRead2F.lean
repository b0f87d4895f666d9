
/-
  hoistwayref02.form and Read: has a text the form of a number, and which is it? Condition: at most 2900 bytes.
-/
import Derived.Test.YtgfhgopfhcakhaaDoorRead1F
import Derived.Test.YtgfhgopfhcakhaaDoorCmpPF
set_option linter.unusedVariables false
set_option linter.unusedSimpArgs false
namespace Go.Proofs.YtgfhgopfhcakhaaDoor
open Go.Joins Go.ChangeShapes Go.WideShapes Go.ChangeAt Go.RowKit Go.Deep

theorem form_nil (w : World) : Calls Tryd.prog 42 #[.string (txt [])] w fun e w' => e = .returned (.bool (formB [])) ∧ w = w' := by
  have e1 : (txt []).size = 0 := rfl
  have e2 : ((txt []).toList == [48]) = false := by rw [txt_toList]; rfl
  rw [show formB [] = false from rfl]
  generalize txt [] = s at *
  go_enter Tryd.func42, Tryd.ntmps42
  go_wp2
  go_loop [3] (fun i => i = .int .i64 0) (fun _ => 0)
  case atStart => rfl
  case round =>
    subst hrel
    go_wp2
    go_ret
    exact ⟨rfl, rfl⟩
theorem form_nought (w : World) : Calls Tryd.prog 42 #[.string (txt [48])] w fun e w' => e = .returned (.bool (formB [48])) ∧ w = w' := by
  have e1 : (txt [48]).size = 1 := rfl
  have e2 : ((txt [48]).toList == [48]) = true := by rw [txt_toList]; rfl
  rw [show formB [48] = true from rfl]
  generalize txt [48] = s at *
  go_enter Tryd.func42, Tryd.ntmps42
  go_wp2
  go_ret
  exact ⟨rfl, rfl⟩
theorem form_stroke (w : World) : Calls Tryd.prog 42 #[.string (txt [45])] w fun e w' => e = .returned (.bool (formB [45])) ∧ w = w' := by
  have e1 : (txt [45]).size = 1 := rfl
  have e3 : (txt []).size = 0 := rfl
  have e2 : ((txt [45]).toList == [48]) = false := by rw [txt_toList]; rfl
  have i0 := fun w => ix_txt [45] 0 0 45 rfl rfl .i64 w
  have s1 := fun w => from_txt [45] 1 1 rfl (by simp) w
  simp only [List.drop] at s1
  rw [show formB [45] = false from rfl]
  generalize txt [45] = s at *
  generalize txt [] = s2 at *
  go_enter Tryd.func42, Tryd.ntmps42
  go_wp2
  go_loop [3] (fun i => i = .int .i64 0) (fun _ => 0)
  case atStart => rfl
  case round =>
    subst hrel
    go_wp2
    go_ret
    exact ⟨rfl, rfl⟩
set_option maxRecDepth 20000 in
set_option maxHeartbeats 2000000 in
theorem form_below (w : World) (d : List UInt8) (x : UInt8) (hx : d[0]? = some x) (hl : d.length ≤ 3000) : Calls Tryd.prog 42 #[.string (txt (45 :: d))] w fun e w' => e = .returned (.bool (formB (45 :: d))) ∧ w = w' := by
  have HBO : bodyR (45 :: d) = d := by simp [bodyR, belowR]
  have H48 : ((45 :: d : List UInt8) == [48]) = false := by simp
  have t1 : (txt (45 :: d)).size = d.length + 1 := by rw [txt_size]; rfl
  have i0 := fun w => ix_txt (45 :: d) 0 0 45 rfl rfl .i64 w
  have s1 := fun w => from_txt (45 :: d) 1 1 rfl (by simp) w
  have e2 : ((txt (45 :: d)).toList == [48]) = false := by rw [txt_toList]; simp
  simp only [List.drop] at s1
  have hd1 : 1 ≤ d.length := by cases d <;> simp_all
  have hno : d.all isD = false → formB (45 :: d) = false := fun h => form_all (by rw [HBO]; exact h)
  have hyes : d.all isD = true → formB (45 :: d) = !(x == 48) := fun h => by
    unfold formB; rw [HBO, h, H48]
    cases d with
    | nil => simp at hx
    | cons a m => simp at hx; subst hx; simp
  have hix : ∀ (k : Nat) (c : UInt8), d[k]? = some c → ∀ w, (Instr.index 9 (.string (txt d)) (.int .i64 (k : Int))).run Tryd.prog w = .ok (.int .u8 (c.toNat : Int)) w := fun k c h w => ix_txt d k k c rfl h .i64 w
  have i1 := fun w => ix_txt d 0 0 x rfl hx .i64 w
  have hsz : (txt d).size = d.length := txt_size d
  have hb1 : (x == 48) = true ∧ ((x.toNat : Int) == 48) = true ∧ ((x.toNat : Int) != 48) = false ∨ (x == 48) = false ∧ ((x.toNat : Int) == 48) = false ∧ ((x.toNat : Int) != 48) = true := by
    by_cases e : x = 48
    · subst e; exact .inl ⟨rfl, rfl, rfl⟩
    · have := u8_ne (n := 48) e (by omega)
      have e2 : ((x.toNat : Int) == 48) = false := by simp; omega
      exact .inr ⟨by simpa using e, e2, by simp only [bne, e2]; rfl⟩
  have NO := Lib.hid hno
  have YES := Lib.hid hyes
  have IX := Lib.hid hix
  have HB := Lib.hid hb1
  have hxb := u8_lt x
  clear hno hyes hix hb1 HBO H48
  try clear h48
  generalize formB (45 :: d) = rv at *
  generalize txt d = s at *
  generalize txt (45 :: d) = s0 at *
  go_enter Tryd.func42, Tryd.ntmps42
  go_wp2
  go_loop [3] (fun i => ∃ k : Nat, k ≤ d.length ∧ i = .int .i64 k ∧ Hid ((d.take k).all isD = true)) (fun i => d.length - (intOf i).toNat)
  case atStart => exact ⟨0, by omega, rfl, rfl⟩
  case round =>
    obtain ⟨k, hk, rfl, hall⟩ := hrel
    by_cases hlt : k < d.length
    · obtain ⟨c, hc⟩ : ∃ c, d[k]? = some c := ⟨_, List.getElem?_eq_getElem hlt⟩
      have hix := fun w => IX.out k c hc w
      have hcb := u8_lt c
      cases hD : isD c
      · have hno := NO.out (all_no hc hD)
        have hor := (isD_not c).1 hD
        have HR := Lib.hid hno
        clear hno hD
        rcases hor with hor | hor
        · have q1 : decide ((c.toNat : Int) < 48) = true := decide_eq_true (by omega)
          go_wp2
          go_ret
          exact ⟨by rw [HR.out]; rfl, rfl⟩
        · have q1 : decide ((c.toNat : Int) < 48) = false := decide_eq_false (by omega)
          have q2 : decide (57 < (c.toNat : Int)) = true := decide_eq_true (by omega)
          go_wp2
          go_ret
          exact ⟨by rw [HR.out]; rfl, rfl⟩
      · obtain ⟨d1, d2⟩ := (isD_iff c).1 hD
        have hall2 := all_take_step hc hall.out hD
        have HA := Lib.hid hall2
        have q1 : decide ((c.toNat : Int) < 48) = false := decide_eq_false (by omega)
        have q2 : decide (57 < (c.toNat : Int)) = false := decide_eq_false (by omega)
        clear hall2 hD
        go_wp2
        go_round
        case rel => exact ⟨k + 1, by omega, by go_num, HA⟩
        case measure => simp [intOf]; omega
    · obtain rfl : k = d.length := by omega
      have hyes := YES.out (by have := hall.out; rwa [List.take_length] at this)
      have hb := HB.out
      rcases hb with ⟨b0, b1, b2⟩ | ⟨b0, b1, b2⟩
      all_goals
        rw [b0] at hyes
        have HR := Lib.hid hyes
        clear hyes b0 HB
        go_wp2
        go_ret
        exact ⟨by rw [HR.out]; rfl, rfl⟩
set_option maxRecDepth 20000 in
set_option maxHeartbeats 2000000 in
theorem form_above (w : World) (d : List UInt8) (x : UInt8) (hx : d[0]? = some x) (h45 : x ≠ 45) (h48 : d ≠ [48]) (hl : d.length ≤ 3000) : Calls Tryd.prog 42 #[.string (txt d)] w fun e w' => e = .returned (.bool (formB d)) ∧ w = w' := by
  have hbe : belowR d = false := by unfold belowR; cases d <;> simp_all
  have HBO : bodyR d = d := by simp [bodyR, hbe]
  have H48 : (d == [48]) = false := by simpa using h48
  have e2 : ((txt d).toList == [48]) = false := by rw [txt_toList]; exact H48
  have b0 : ((x.toNat : Int) == 45) = false := by have := u8_ne (n := 45) h45 (by omega); simp; omega
  clear hbe
  have hd1 : 1 ≤ d.length := by cases d <;> simp_all
  have hno : d.all isD = false → formB d = false := fun h => form_all (by rw [HBO]; exact h)
  have hyes : d.all isD = true → formB d = !(x == 48) := fun h => by
    unfold formB; rw [HBO, h, H48]
    cases d with
    | nil => simp at hx
    | cons a m => simp at hx; subst hx; simp
  have hix : ∀ (k : Nat) (c : UInt8), d[k]? = some c → ∀ w, (Instr.index 9 (.string (txt d)) (.int .i64 (k : Int))).run Tryd.prog w = .ok (.int .u8 (c.toNat : Int)) w := fun k c h w => ix_txt d k k c rfl h .i64 w
  have i1 := fun w => ix_txt d 0 0 x rfl hx .i64 w
  have hsz : (txt d).size = d.length := txt_size d
  have hb1 : (x == 48) = true ∧ ((x.toNat : Int) == 48) = true ∧ ((x.toNat : Int) != 48) = false ∨ (x == 48) = false ∧ ((x.toNat : Int) == 48) = false ∧ ((x.toNat : Int) != 48) = true := by
    by_cases e : x = 48
    · subst e; exact .inl ⟨rfl, rfl, rfl⟩
    · have := u8_ne (n := 48) e (by omega)
      have e2 : ((x.toNat : Int) == 48) = false := by simp; omega
      exact .inr ⟨by simpa using e, e2, by simp only [bne, e2]; rfl⟩
  have NO := Lib.hid hno
  have YES := Lib.hid hyes
  have IX := Lib.hid hix
  have HB := Lib.hid hb1
  have hxb := u8_lt x
  clear hno hyes hix hb1 HBO H48
  try clear h48
  generalize formB d = rv at *
  generalize txt d = s at *
  go_enter Tryd.func42, Tryd.ntmps42
  go_wp2
  go_loop [3] (fun i => ∃ k : Nat, k ≤ d.length ∧ i = .int .i64 k ∧ Hid ((d.take k).all isD = true)) (fun i => d.length - (intOf i).toNat)
  case atStart => exact ⟨0, by omega, rfl, rfl⟩
  case round =>
    obtain ⟨k, hk, rfl, hall⟩ := hrel
    by_cases hlt : k < d.length
    · obtain ⟨c, hc⟩ : ∃ c, d[k]? = some c := ⟨_, List.getElem?_eq_getElem hlt⟩
      have hix := fun w => IX.out k c hc w
      have hcb := u8_lt c
      cases hD : isD c
      · have hno := NO.out (all_no hc hD)
        have hor := (isD_not c).1 hD
        have HR := Lib.hid hno
        clear hno hD
        rcases hor with hor | hor
        · have q1 : decide ((c.toNat : Int) < 48) = true := decide_eq_true (by omega)
          go_wp2
          go_ret
          exact ⟨by rw [HR.out]; rfl, rfl⟩
        · have q1 : decide ((c.toNat : Int) < 48) = false := decide_eq_false (by omega)
          have q2 : decide (57 < (c.toNat : Int)) = true := decide_eq_true (by omega)
          go_wp2
          go_ret
          exact ⟨by rw [HR.out]; rfl, rfl⟩
      · obtain ⟨d1, d2⟩ := (isD_iff c).1 hD
        have hall2 := all_take_step hc hall.out hD
        have HA := Lib.hid hall2
        have q1 : decide ((c.toNat : Int) < 48) = false := decide_eq_false (by omega)
        have q2 : decide (57 < (c.toNat : Int)) = false := decide_eq_false (by omega)
        clear hall2 hD
        go_wp2
        go_round
        case rel => exact ⟨k + 1, by omega, by go_num, HA⟩
        case measure => simp [intOf]; omega
    · obtain rfl : k = d.length := by omega
      have hyes := YES.out (by have := hall.out; rwa [List.take_length] at this)
      have hb := HB.out
      rcases hb with ⟨b0, b1, b2⟩ | ⟨b0, b1, b2⟩
      all_goals
        rw [b0] at hyes
        have HR := Lib.hid hyes
        clear hyes b0 HB
        go_wp2
        go_ret
        exact ⟨by rw [HR.out]; rfl, rfl⟩
theorem ref02_form (l : List UInt8) (w : World) (hl : l.length ≤ 3000) : Calls Tryd.prog 42 #[.string (txt l)] w fun e w' => e = .returned (.bool (formB l)) ∧ w = w' := by
  cases l with
  | nil => exact form_nil w
  | cons x m =>
    simp at hl
    by_cases h45 : x = 45
    · subst h45
      cases m with
      | nil => exact form_stroke w
      | cons y m => exact form_below w (y :: m) y rfl (by omega)
    · by_cases h48 : x :: m = [48]
      · rw [h48]; exact form_nought w
      · exact form_above w (x :: m) x rfl h45 h48 (by simp; omega)
theorem neg_u64 {V : Nat} (h : 1 ≤ V) (h2 : V ≤ 9223372036854775808) : IntKind.u64.wrap (-(V : Int)) = 18446744073709551616 - (V : Int) ∧ IntKind.i64.wrap (18446744073709551616 - (V : Int)) = -(V : Int) := by
  constructor
  · simp [IntKind.wrap, IntKind.bits, IntKind.signed]; omega
  · rw [IntKind.wrap_i64]; omega
theorem vk_mono (d : List UInt8) (k : Nat) (hk : k ≤ d.length) : vk d k ≤ valL d 0 := by
  unfold vk
  conv => rhs; rw [← List.take_append_drop k d, valL_append, valL_lin]
  have := Nat.le_mul_of_pos_right (valL (d.take k) 0) (Nat.pow_pos (n := (d.drop k).length) (show 0 < 10 by omega))
  omega
theorem val_pos (d : List UInt8) (x : UInt8) (hx : d[0]? = some x) (h48 : x ≠ 48) (h : 48 ≤ x.toNat) : 1 ≤ valL d 0 := by
  cases d with
  | nil => simp at hx
  | cons a m =>
    simp at hx; subst hx
    have x2 : a.toNat ≠ 48 := by intro e; apply h48; apply UInt8.toNat.inj; rw [e]; rfl
    have hlow := valL_low (l := m) (c := a) (by omega)
    have hp := Nat.pow_pos (n := m.length) (show 0 < 10 by omega)
    omega
theorem ref_read_no (l : List UInt8) (w : World) (hl : l.length ≤ 3000) (hf : formB l = false) : Calls Tryd.prog 34 #[.string (txt l)] w fun e w' => e = .returned (.tuple #[.int .i64 (readV l), .int .i64 (readE l)]) ∧ w = w' := by
  have cF := fun w => ref02_form l w hl
  rw [hf] at cF
  obtain ⟨r1, r2⟩ := read_no hf
  rw [r1, r2]
  generalize txt l = s at *
  clear r1 r2 hf
  go_enter Tryd.func34, Tryd.ntmps34
  go_wp2_with (first | (go_at_call 42; refine (cF _).mono ?_; rintro e w' ⟨rfl, rfl⟩))
  go_ret2
  exact ⟨rfl, rfl⟩
set_option maxRecDepth 20000 in
set_option maxHeartbeats 2000000 in
theorem ref_read_below (w : World) (d : List UInt8) (x : UInt8) (hx : d[0]? = some x) (h48 : x ≠ 48) (hl : d.length ≤ 2900) (hf : formB (45 :: d) = true) : Calls Tryd.prog 34 #[.string (txt (45 :: d))] w fun e w' => e = .returned (.tuple #[.int .i64 (readV (45 :: d)), .int .i64 (readE (45 :: d))]) ∧ w = w' := by
  have HBO : bodyR (45 :: d) = d := by simp [bodyR, belowR]
  have HBE : belowR (45 :: d) = true := rfl
  have t1 : (txt (45 :: d)).size = d.length + 1 := by rw [txt_size]; rfl
  have i0 := fun w => ix_txt (45 :: d) 0 0 45 rfl rfl .i64 w
  have s1 := fun w => from_txt (45 :: d) 1 1 rfl (by simp) w
  simp only [List.drop] at s1
  have cF := fun w => ref02_form (45 :: d) w (by simp; omega)
  rw [hf] at cF
  obtain ⟨p1, p2, p3⟩ := form_parts hf
  obtain ⟨o1, o2⟩ := fit_over hf
  have ol := over_len hf
  have os := over_less hf
  have om := over_most hf
  rw [HBO, HBE] at om
  rw [HBO] at o1 o2 ol os p1
  have htop : topR (45 :: d) = 9223372036854775808 := by unfold topR; rw [HBE]; rfl
  have hval : valI (45 :: d) = -(valL d 0 : Int) := by unfold valI sgR; rw [HBO, HBE]; simp
  rw [htop] at o1 o2 ol os om
  rw [hval] at o2
  have hix : ∀ (k : Nat) (c : UInt8), d[k]? = some c → ∀ w, (Instr.index 9 (.string (txt d)) (.int .i64 (k : Int))).run Tryd.prog w = .ok (.int .u8 (c.toNat : Int)) w := fun k c h w => ix_txt d k k c rfl h .i64 w
  have hsz : (txt d).size = d.length := txt_size d
  have hgt : (Go.Op.bytesLess (txt d).toList (most true) || (txt d).toList == (most true)) = (Go.Op.bytesLess d (most true) || d == most true) := by rw [txt_toList]
  rw [show most true = [57, 50, 50, 51, 51, 55, 50, 48, 51, 54, 56, 53, 52, 55, 55, 53, 56, 48, 56] from rfl] at hgt om
  have hmon : ∀ k, k ≤ d.length → vk d k ≤ valL d 0 := vk_mono d
  have hva := vk_all d
  have hdig : ∀ (k : Nat) (c : UInt8), d[k]? = some c → 48 ≤ c.toNat ∧ c.toNat ≤ 57 := fun k c h => (isD_iff c).1 (List.all_eq_true.1 p1 c (List.mem_of_getElem? h))
  have hp1 : 1 ≤ valL d 0 := val_pos d x hx h48 (hdig 0 x hx).1
  have IX := Lib.hid hix
  have MON := Lib.hid hmon
  have DIG := Lib.hid hdig
  have CF := Lib.hid cF
  clear hix hmon hdig cF p2 p3 hf htop hval HBO HBE p1
  try clear h48
  generalize readV (45 :: d) = rv at *
  generalize readE (45 :: d) = re at *
  generalize txt d = s at *
  generalize txt (45 :: d) = s0 at *
  rcases Nat.lt_trichotomy d.length 19 with hlen | hlen | hlen
  · have hle : valL d 0 ≤ 9223372036854775808 := by have := os hlen; omega
    have q1 : decide ((19 : Int) < (d.length : Int)) = false := decide_eq_false (by omega)
    have q2 : ((d.length : Int) == 19) = false := by simp; omega
    skip
    obtain ⟨r1, r2⟩ := o2 hle
    subst r1 r2
    have MON2 := Lib.hid (fun k hk => Nat.le_trans (MON.out k hk) hle)
    have HVI := Lib.hid (show (vk d d.length : Int) = (valL d 0 : Int) by rw [hva])
    have hn := neg_u64 hp1 hle
    have HN := Lib.hid hn
    have hV1 : 1 ≤ (valL d 0 : Int) := by omega
    have hV0 : 0 ≤ (valL d 0 : Int) := by omega
    have hV2 : (valL d 0 : Int) ≤ 9223372036854775808 := by omega
    clear o1 o2 ol os om hgt hn hva MON hle
    clear hp1
    generalize (valL d 0 : Int) = V at *
    go_enter Tryd.func34, Tryd.ntmps34
    go_wp2_with (first | (go_at_call 42; refine (CF.out _).mono ?_; rintro e w' ⟨rfl, rfl⟩))
    go_loop [8, 7] (fun i u => ∃ k : Nat, k ≤ d.length ∧ i = .int .i64 k ∧ u = .int .u64 (vk d k : Nat)) (fun i _ => d.length - (intOf i).toNat)
    case atStart => exact ⟨0, by omega, rfl, by rw [vk_zero]; rfl⟩
    case round =>
      obtain ⟨k, hk, rfl, rfl⟩ := hrel
      by_cases hlt : k < d.length
      · obtain ⟨c, hc⟩ : ∃ c, d[k]? = some c := ⟨_, List.getElem?_eq_getElem hlt⟩
        have hix := fun w => IX.out k c hc w
        obtain ⟨d1, d2⟩ := DIG.out k c hc
        have ew1 : IntKind.u8.wrap ((c.toNat : Int) - 48) = (c.toNat : Int) - 48 := IntWalk.u8_in _ (by omega)
        have hv := vk_step hc
        have hv2 : (vk d (k + 1) : Int) = 10 * (vk d k : Int) + ((c.toNat : Int) - 48) := by omega
        have hm := MON2.out (k + 1) (by omega)
        clear hv
        have HV := Lib.hid hv2
        have b1 : (vk d k : Int) ≤ 922337203685477580 := by omega
        have b0 : 0 ≤ (vk d k : Int) := by omega
        clear hv2 hm
        generalize (vk d k : Int) = V9 at *
        go_wp2
        go_round
        case rel => exact ⟨k + 1, by omega, by go_num, by rw [HV.out]⟩
        case measure => simp [intOf]; omega
      · obtain rfl : k = d.length := by omega
        rw [HVI.out]
        obtain ⟨n1, n2⟩ := HN.out
        clear MON2 DIG IX HVI HN
        go_wp2
        go_ret2
        exact ⟨rfl, rfl⟩
  · have om := om hlen
    rw [← hgt] at om
    clear hgt os ol
    have q1 : decide ((19 : Int) < (d.length : Int)) = false := decide_eq_false (by omega)
    have q2 : ((d.length : Int) == 19) = true := by simp; omega
    rcases Nat.lt_or_ge 9223372036854775808 (valL d 0) with hgt | hle
    · have q3 := om.trans (decide_eq_false (by omega))
      have HR := Lib.hid (o1 hgt)
      skip
      clear o1 o2 om hgt MON DIG IX hva
      go_enter Tryd.func34, Tryd.ntmps34
      go_wp2_with (first | (go_at_call 42; refine (CF.out _).mono ?_; rintro e w' ⟨rfl, rfl⟩))
      go_ret2
      exact ⟨ret_two HR.out.1.symm HR.out.2.symm, rfl⟩
    · have q3 := om.trans (decide_eq_true (by omega))
      skip
      obtain ⟨r1, r2⟩ := o2 hle
      subst r1 r2
      have MON2 := Lib.hid (fun k hk => Nat.le_trans (MON.out k hk) hle)
      have HVI := Lib.hid (show (vk d d.length : Int) = (valL d 0 : Int) by rw [hva])
      have hn := neg_u64 hp1 hle
      have HN := Lib.hid hn
      have hV1 : 1 ≤ (valL d 0 : Int) := by omega
      have hV0 : 0 ≤ (valL d 0 : Int) := by omega
      have hV2 : (valL d 0 : Int) ≤ 9223372036854775808 := by omega
      clear o1 o2 om hn hva MON hle
      clear hp1
      generalize (valL d 0 : Int) = V at *
      go_enter Tryd.func34, Tryd.ntmps34
      go_wp2_with (first | (go_at_call 42; refine (CF.out _).mono ?_; rintro e w' ⟨rfl, rfl⟩))
      go_loop [8, 7] (fun i u => ∃ k : Nat, k ≤ d.length ∧ i = .int .i64 k ∧ u = .int .u64 (vk d k : Nat)) (fun i _ => d.length - (intOf i).toNat)
      case atStart => exact ⟨0, by omega, rfl, by rw [vk_zero]; rfl⟩
      case round =>
        obtain ⟨k, hk, rfl, rfl⟩ := hrel
        by_cases hlt : k < d.length
        · obtain ⟨c, hc⟩ : ∃ c, d[k]? = some c := ⟨_, List.getElem?_eq_getElem hlt⟩
          have hix := fun w => IX.out k c hc w
          obtain ⟨d1, d2⟩ := DIG.out k c hc
          have ew1 : IntKind.u8.wrap ((c.toNat : Int) - 48) = (c.toNat : Int) - 48 := IntWalk.u8_in _ (by omega)
          have hv := vk_step hc
          have hv2 : (vk d (k + 1) : Int) = 10 * (vk d k : Int) + ((c.toNat : Int) - 48) := by omega
          have hm := MON2.out (k + 1) (by omega)
          clear hv
          have HV := Lib.hid hv2
          have b1 : (vk d k : Int) ≤ 922337203685477580 := by omega
          have b0 : 0 ≤ (vk d k : Int) := by omega
          clear hv2 hm
          generalize (vk d k : Int) = V9 at *
          go_wp2
          go_round
          case rel => exact ⟨k + 1, by omega, by go_num, by rw [HV.out]⟩
          case measure => simp [intOf]; omega
        · obtain rfl : k = d.length := by omega
          rw [HVI.out]
          obtain ⟨n1, n2⟩ := HN.out
          clear MON2 DIG IX HVI HN
          go_wp2
          go_ret2
          exact ⟨rfl, rfl⟩
  · have HR := Lib.hid (o1 (ol hlen))
    have q1 : decide ((19 : Int) < (d.length : Int)) = true := decide_eq_true (by omega)
    skip
    clear o1 o2 ol os om hgt MON DIG IX hva
    go_enter Tryd.func34, Tryd.ntmps34
    go_wp2_with (first | (go_at_call 42; refine (CF.out _).mono ?_; rintro e w' ⟨rfl, rfl⟩))
    go_ret2
    exact ⟨ret_two HR.out.1.symm HR.out.2.symm, rfl⟩
set_option maxRecDepth 20000 in
set_option maxHeartbeats 2000000 in
theorem ref_read_above (w : World) (d : List UInt8) (x : UInt8) (hx : d[0]? = some x) (h45 : x ≠ 45) (hl : d.length ≤ 2900) (hf : formB d = true) : Calls Tryd.prog 34 #[.string (txt d)] w fun e w' => e = .returned (.tuple #[.int .i64 (readV d), .int .i64 (readE d)]) ∧ w = w' := by
  have HBE : belowR d = false := by unfold belowR; cases d <;> simp_all
  have HBO : bodyR d = d := by simp [bodyR, HBE]
  have i0 := fun w => ix_txt d 0 0 x rfl hx .i64 w
  have b0 : ((x.toNat : Int) == 45) = false := by have := u8_ne (n := 45) h45 (by omega); simp; omega
  have cF := fun w => ref02_form d w (by omega)
  rw [hf] at cF
  obtain ⟨p1, p2, p3⟩ := form_parts hf
  obtain ⟨o1, o2⟩ := fit_over hf
  have ol := over_len hf
  have os := over_less hf
  have om := over_most hf
  rw [HBO, HBE] at om
  rw [HBO] at o1 o2 ol os p1
  have htop : topR d = 9223372036854775807 := by unfold topR; rw [HBE]; rfl
  have hval : valI d = (valL d 0 : Int) := by unfold valI sgR; rw [HBO, HBE]; simp
  rw [htop] at o1 o2 ol os om
  rw [hval] at o2
  have hix : ∀ (k : Nat) (c : UInt8), d[k]? = some c → ∀ w, (Instr.index 9 (.string (txt d)) (.int .i64 (k : Int))).run Tryd.prog w = .ok (.int .u8 (c.toNat : Int)) w := fun k c h w => ix_txt d k k c rfl h .i64 w
  have hsz : (txt d).size = d.length := txt_size d
  have hgt : (Go.Op.bytesLess (txt d).toList (most false) || (txt d).toList == (most false)) = (Go.Op.bytesLess d (most false) || d == most false) := by rw [txt_toList]
  rw [show most false = [57, 50, 50, 51, 51, 55, 50, 48, 51, 54, 56, 53, 52, 55, 55, 53, 56, 48, 55] from rfl] at hgt om
  have hmon : ∀ k, k ≤ d.length → vk d k ≤ valL d 0 := vk_mono d
  have hva := vk_all d
  have hdig : ∀ (k : Nat) (c : UInt8), d[k]? = some c → 48 ≤ c.toNat ∧ c.toNat ≤ 57 := fun k c h => (isD_iff c).1 (List.all_eq_true.1 p1 c (List.mem_of_getElem? h))

  have IX := Lib.hid hix
  have MON := Lib.hid hmon
  have DIG := Lib.hid hdig
  have CF := Lib.hid cF
  clear hix hmon hdig cF p2 p3 hf htop hval HBO HBE p1
  try clear h48
  generalize readV d = rv at *
  generalize readE d = re at *
  generalize txt d = s at *
  rcases Nat.lt_trichotomy d.length 19 with hlen | hlen | hlen
  · have hle : valL d 0 ≤ 9223372036854775807 := by have := os hlen; omega
    have q1 : decide ((19 : Int) < (d.length : Int)) = false := decide_eq_false (by omega)
    have q2 : ((d.length : Int) == 19) = false := by simp; omega
    skip
    obtain ⟨r1, r2⟩ := o2 hle
    subst r1 r2
    have MON2 := Lib.hid (fun k hk => Nat.le_trans (MON.out k hk) hle)
    have HVI := Lib.hid (show (vk d d.length : Int) = (valL d 0 : Int) by rw [hva])
    have hn : IntKind.i64.wrap (valL d 0 : Int) = (valL d 0 : Int) := IntWalk.i64_in _ (by omega)
    have HN := Lib.hid hn
    skip
    have hV0 : 0 ≤ (valL d 0 : Int) := by omega
    have hV2 : (valL d 0 : Int) ≤ 9223372036854775808 := by omega
    clear o1 o2 ol os om hgt hn hva MON hle
    skip
    generalize (valL d 0 : Int) = V at *
    go_enter Tryd.func34, Tryd.ntmps34
    go_wp2_with (first | (go_at_call 42; refine (CF.out _).mono ?_; rintro e w' ⟨rfl, rfl⟩))
    go_loop [8, 7] (fun i u => ∃ k : Nat, k ≤ d.length ∧ i = .int .i64 k ∧ u = .int .u64 (vk d k : Nat)) (fun i _ => d.length - (intOf i).toNat)
    case atStart => exact ⟨0, by omega, rfl, by rw [vk_zero]; rfl⟩
    case round =>
      obtain ⟨k, hk, rfl, rfl⟩ := hrel
      by_cases hlt : k < d.length
      · obtain ⟨c, hc⟩ : ∃ c, d[k]? = some c := ⟨_, List.getElem?_eq_getElem hlt⟩
        have hix := fun w => IX.out k c hc w
        obtain ⟨d1, d2⟩ := DIG.out k c hc
        have ew1 : IntKind.u8.wrap ((c.toNat : Int) - 48) = (c.toNat : Int) - 48 := IntWalk.u8_in _ (by omega)
        have hv := vk_step hc
        have hv2 : (vk d (k + 1) : Int) = 10 * (vk d k : Int) + ((c.toNat : Int) - 48) := by omega
        have hm := MON2.out (k + 1) (by omega)
        clear hv
        have HV := Lib.hid hv2
        have b1 : (vk d k : Int) ≤ 922337203685477580 := by omega
        have b0 : 0 ≤ (vk d k : Int) := by omega
        clear hv2 hm
        generalize (vk d k : Int) = V9 at *
        go_wp2
        go_round
        case rel => exact ⟨k + 1, by omega, by go_num, by rw [HV.out]⟩
        case measure => simp [intOf]; omega
      · obtain rfl : k = d.length := by omega
        rw [HVI.out]
        have n1 := HN.out
        clear MON2 DIG IX HVI HN
        go_wp2
        go_ret2
        exact ⟨rfl, rfl⟩
  · have om := om hlen
    rw [← hgt] at om
    clear hgt os ol
    have q1 : decide ((19 : Int) < (d.length : Int)) = false := decide_eq_false (by omega)
    have q2 : ((d.length : Int) == 19) = true := by simp; omega
    rcases Nat.lt_or_ge 9223372036854775807 (valL d 0) with hgt | hle
    · have q3 := om.trans (decide_eq_false (by omega))
      have HR := Lib.hid (o1 hgt)
      skip
      clear o1 o2 om hgt MON DIG IX hva
      go_enter Tryd.func34, Tryd.ntmps34
      go_wp2_with (first | (go_at_call 42; refine (CF.out _).mono ?_; rintro e w' ⟨rfl, rfl⟩))
      go_ret2
      exact ⟨ret_two HR.out.1.symm HR.out.2.symm, rfl⟩
    · have q3 := om.trans (decide_eq_true (by omega))
      skip
      obtain ⟨r1, r2⟩ := o2 hle
      subst r1 r2
      have MON2 := Lib.hid (fun k hk => Nat.le_trans (MON.out k hk) hle)
      have HVI := Lib.hid (show (vk d d.length : Int) = (valL d 0 : Int) by rw [hva])
      have hn : IntKind.i64.wrap (valL d 0 : Int) = (valL d 0 : Int) := IntWalk.i64_in _ (by omega)
      have HN := Lib.hid hn
      skip
      have hV0 : 0 ≤ (valL d 0 : Int) := by omega
      have hV2 : (valL d 0 : Int) ≤ 9223372036854775808 := by omega
      clear o1 o2 om hn hva MON hle
      skip
      generalize (valL d 0 : Int) = V at *
      go_enter Tryd.func34, Tryd.ntmps34
      go_wp2_with (first | (go_at_call 42; refine (CF.out _).mono ?_; rintro e w' ⟨rfl, rfl⟩))
      go_loop [8, 7] (fun i u => ∃ k : Nat, k ≤ d.length ∧ i = .int .i64 k ∧ u = .int .u64 (vk d k : Nat)) (fun i _ => d.length - (intOf i).toNat)
      case atStart => exact ⟨0, by omega, rfl, by rw [vk_zero]; rfl⟩
      case round =>
        obtain ⟨k, hk, rfl, rfl⟩ := hrel
        by_cases hlt : k < d.length
        · obtain ⟨c, hc⟩ : ∃ c, d[k]? = some c := ⟨_, List.getElem?_eq_getElem hlt⟩
          have hix := fun w => IX.out k c hc w
          obtain ⟨d1, d2⟩ := DIG.out k c hc
          have ew1 : IntKind.u8.wrap ((c.toNat : Int) - 48) = (c.toNat : Int) - 48 := IntWalk.u8_in _ (by omega)
          have hv := vk_step hc
          have hv2 : (vk d (k + 1) : Int) = 10 * (vk d k : Int) + ((c.toNat : Int) - 48) := by omega
          have hm := MON2.out (k + 1) (by omega)
          clear hv
          have HV := Lib.hid hv2
          have b1 : (vk d k : Int) ≤ 922337203685477580 := by omega
          have b0 : 0 ≤ (vk d k : Int) := by omega
          clear hv2 hm
          generalize (vk d k : Int) = V9 at *
          go_wp2
          go_round
          case rel => exact ⟨k + 1, by omega, by go_num, by rw [HV.out]⟩
          case measure => simp [intOf]; omega
        · obtain rfl : k = d.length := by omega
          rw [HVI.out]
          have n1 := HN.out
          clear MON2 DIG IX HVI HN
          go_wp2
          go_ret2
          exact ⟨rfl, rfl⟩
  · have HR := Lib.hid (o1 (ol hlen))
    have q1 : decide ((19 : Int) < (d.length : Int)) = true := decide_eq_true (by omega)
    skip
    clear o1 o2 ol os om hgt MON DIG IX hva
    go_enter Tryd.func34, Tryd.ntmps34
    go_wp2_with (first | (go_at_call 42; refine (CF.out _).mono ?_; rintro e w' ⟨rfl, rfl⟩))
    go_ret2
    exact ⟨ret_two HR.out.1.symm HR.out.2.symm, rfl⟩
/-- Any text. -/
theorem ref02_Read (l : List UInt8) (w : World) (hl : l.length ≤ 2900) : Calls Tryd.prog 34 #[.string (txt l)] w fun e w' => e = .returned (.tuple #[.int .i64 (readV l), .int .i64 (readE l)]) ∧ w = w' := by
  cases hf : formB l with
  | false => exact ref_read_no l w (by omega) hf
  | true =>
    obtain ⟨p1, p2, p3⟩ := form_parts hf
    cases l with
    | nil => exact absurd hf (by decide)
    | cons x m =>
      simp at hl
      by_cases h45 : x = 45
      · subst h45
        cases m with
        | nil => exact absurd hf (by decide)
        | cons y m =>
          refine ref_read_below w (y :: m) y rfl ?_ (by simp at hl ⊢; omega) hf
          rintro rfl
          simp [bodyR, belowR] at p3
      · exact ref_read_above w (x :: m) x rfl h45 (by simp; omega) hf
end Go.Proofs.YtgfhgopfhcakhaaDoor

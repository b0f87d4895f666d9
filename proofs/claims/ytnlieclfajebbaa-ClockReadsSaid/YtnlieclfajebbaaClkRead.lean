
/-
  clock.Read: the ticks of any text, or why it is none. Condition: at most 200 bytes.
-/
import Derived.Test.YtnlieclfajebbaaClkP
set_option linter.unusedVariables false
set_option linter.unusedSimpArgs false
namespace Go.Proofs.Ytnlieclfajebbaa
open Go.Joins Go.ChangeShapes Go.WideShapes Go.ChangeAt Go.RowKit Go.Deep

theorem clock_partB (q : List UInt8) (k : Nat) (lim : Int) (hk : k ≤ 6) (hl : q.length ≤ 1000) (h0 : 0 ≤ lim) (h1 : lim ≤ 100) (w : World) : Calls Try.prog 90 #[.string (txt q), .int .i64 (k : Int), .int .i64 lim] w fun e w' => e = .returned (.int .i64 (partV q k lim)) ∧ Below w.heap.size w w' :=
  (clock_part q k lim w hk hl h0 h1).mono fun _ _ h => ⟨h.1, by obtain ⟨n, hn⟩ := h.2; rw [hn]; exact below_drewN (Below.refl _ _) n⟩
/-- The ways of a time of day. -/
theorem day_ways (q : List UInt8) :
    (¬ dayOK q ∧ ((q.length : Int) == 8) = false ∧ ((q.length : Int) != 8) = true) ∨
    (q.length = 8 ∧ ∃ c2 c5, q[2]? = some c2 ∧ q[5]? = some c5 ∧ (
      (¬ dayOK q ∧ ((c2.toNat : Int) == 58) = false ∧ ((c2.toNat : Int) != 58) = true) ∨
      (((c2.toNat : Int) == 58) = true ∧ ((c2.toNat : Int) != 58) = false ∧ (
        (¬ dayOK q ∧ ((c5.toNat : Int) == 58) = false ∧ ((c5.toNat : Int) != 58) = true) ∨
        (((c5.toNat : Int) == 58) = true ∧ ((c5.toNat : Int) != 58) = false ∧ (
          (¬ dayOK q ∧ decide (partV q 0 24 < 0) = true) ∨
          (decide (partV q 0 24 < 0) = false ∧ (
            (¬ dayOK q ∧ decide (partV q 3 60 < 0) = true) ∨
            (decide (partV q 3 60 < 0) = false ∧ (
              (¬ dayOK q ∧ decide (partV q 6 60 < 0) = true) ∨
              (dayOK q ∧ decide (partV q 6 60 < 0) = false))))))))))) := by
  by_cases h8 : q.length = 8
  · refine .inr ⟨h8, ?_⟩
    obtain ⟨c2, h2⟩ : ∃ a, q[2]? = some a := ⟨_, List.getElem?_eq_getElem (by omega)⟩
    obtain ⟨c5, h5⟩ : ∃ a, q[5]? = some a := ⟨_, List.getElem?_eq_getElem (by omega)⟩
    refine ⟨c2, c5, h2, h5, ?_⟩
    have key : ∀ c : UInt8, (c = 58 ∧ ((c.toNat : Int) == 58) = true ∧ ((c.toNat : Int) != 58) = false) ∨ (c ≠ 58 ∧ ((c.toNat : Int) == 58) = false ∧ ((c.toNat : Int) != 58) = true) := by
      intro c
      by_cases e : c = 58
      · subst e; exact .inl ⟨rfl, rfl, rfl⟩
      · have := u8_ne (n := 58) e (by omega)
        have e2 : ((c.toNat : Int) == 58) = false := by simp; omega
        exact .inr ⟨e, e2, by simp only [bne, e2]; rfl⟩
    rcases key c2 with ⟨e, a1, a2⟩ | ⟨e, a1, a2⟩
    · refine .inr ⟨a1, a2, ?_⟩
      rcases key c5 with ⟨e5, b1, b2⟩ | ⟨e5, b1, b2⟩
      · refine .inr ⟨b1, b2, ?_⟩
        rcases Int.lt_or_le (partV q 0 24) 0 with h | h
        · exact .inl ⟨fun hd => by have := hd.2.2.2.1; omega, decide_eq_true h⟩
        · refine .inr ⟨decide_eq_false (by omega), ?_⟩
          rcases Int.lt_or_le (partV q 3 60) 0 with h' | h'
          · exact .inl ⟨fun hd => by have := hd.2.2.2.2.1; omega, decide_eq_true h'⟩
          · refine .inr ⟨decide_eq_false (by omega), ?_⟩
            rcases Int.lt_or_le (partV q 6 60) 0 with h'' | h''
            · exact .inl ⟨fun hd => by have := hd.2.2.2.2.2; omega, decide_eq_true h''⟩
            · exact .inr ⟨⟨h8, by rw [h2, e], by rw [h5, e5], h, h', h''⟩, decide_eq_false (by omega)⟩
      · exact .inl ⟨fun hd => e5 (by have := hd.2.2.1; rw [h5] at this; injection this), b1, b2⟩
    · exact .inl ⟨fun hd => e (by have := hd.2.1; rw [h2] at this; injection this), a1, a2⟩
  · have e2 : ((q.length : Int) == 8) = false := by simp; omega
    exact .inl ⟨fun hd => h8 hd.1, e2, by simp only [bne, e2]; rfl⟩
theorem ix_c (q : List UInt8) (k : Nat) (i : Int) (hi : i = k) (c : UInt8) (h : q[k]? = some c) (w : World) : (Instr.index 9 (.string (txt q)) (.int .i64 i)).run Try.prog w = .ok (.int .u8 (c.toNat : Int)) w := ix_txt q i k c hi h .i64 w
theorem cut_chars {l p q : List UInt8} (h : l = p ++ 100 :: q) (hp : ∀ c ∈ p, c ≠ 100) : (∀ (k : Nat) (c : UInt8), k < p.length → l[k]? = some c → ((c.toNat : Int) == 100) = false ∧ ((c.toNat : Int) != 100) = true) ∧ l[p.length]? = some 100 := by
  subst h
  constructor
  · intro k c hk hc
    rw [List.getElem?_append_left hk] at hc
    have := hp c (List.mem_of_getElem? hc)
    have h2 := u8_ne (n := 100) this (by omega)
    have e2 : ((c.toNat : Int) == 100) = false := by simp; omega
    exact ⟨e2, by simp only [bne, e2]; rfl⟩
  · rw [List.getElem?_append_right (by omega)]; simp
set_option maxRecDepth 20000 in
set_option maxHeartbeats 4000000 in
theorem clock_read_none (l : List UInt8) (w : World) (hl : l.length ≤ 200) (hc : cutD l = none) : Calls Try.prog 47 #[.string (txt l)] w fun e w' => e = .returned (.tuple #[.int .i64 (clkRV l), .int .i64 (clkRE l)]) ∧ Below w.heap.size w w' := by
  have hV : clkRV l = tailV 0 l := by unfold clkRV; rw [hc]
  have hE : clkRE l = tailE 0 l := by unfold clkRE; rw [hc]
  rw [hV, hE]
  have hch : ∀ (k : Nat) (c : UInt8), l[k]? = some c → ((c.toNat : Int) == 100) = false ∧ ((c.toNat : Int) != 100) = true := by
    intro k c hk
    have h2 := u8_ne (n := 100) (cutD_none hc c (List.mem_of_getElem? hk)) (by omega)
    have e2 : ((c.toNat : Int) == 100) = false := by simp; omega
    exact ⟨e2, by simp only [bne, e2]; rfl⟩
  have hix : ∀ (k : Nat) (c : UInt8), l[k]? = some c → ∀ w, (Instr.index 9 (.string (txt l)) (.int .i64 (k : Int))).run Try.prog w = .ok (.int .u8 (c.toNat : Int)) w := fun k c h w => ix_txt l k k c rfl h .i64 w
  have cP0 : ∀ w, Calls Try.prog 90 #[.string (txt l), .int .i64 0, .int .i64 24] w fun e w' => e = .returned (.int .i64 (partV l 0 24)) ∧ Below w.heap.size w w' := fun w => clock_partB l 0 24 (by omega) (by omega) (by omega) (by omega) w
  have cP3 : ∀ w, Calls Try.prog 90 #[.string (txt l), .int .i64 3, .int .i64 60] w fun e w' => e = .returned (.int .i64 (partV l 3 60)) ∧ Below w.heap.size w w' := fun w => clock_partB l 3 60 (by omega) (by omega) (by omega) (by omega) w
  have cP6 : ∀ w, Calls Try.prog 90 #[.string (txt l), .int .i64 6, .int .i64 60] w fun e w' => e = .returned (.int .i64 (partV l 6 60)) ∧ Below w.heap.size w w' := fun w => clock_partB l 6 60 (by omega) (by omega) (by omega) (by omega) w
  have pb0 := partV_bd l 0 24 (by omega)
  have pb3 := partV_bd l 3 60 (by omega)
  have pb6 := partV_bd l 6 60 (by omega)
  have hsq : (txt l).size = l.length := txt_size l
  have hi2 := ix_c l 2 2 rfl
  have hi5 := ix_c l 5 5 rfl
  have hways := day_ways l
  have hrd : restD l = partV l 0 24 * 3600 + partV l 3 60 * 60 + partV l 6 60 := rfl
  have hrb := fun h => rest_bd (q := l) h
  have nok : ¬ dayOK l → tailV 0 l = 0 ∧ tailE 0 l = 20 := fun h => by unfold tailV tailE; rw [if_neg h, if_neg h]; exact ⟨rfl, rfl⟩
  have yok : dayOK l → tailV 0 l = partV l 0 24 * 3600 + partV l 3 60 * 60 + partV l 6 60 ∧ tailE 0 l = 0 := fun h => by
    have := hrb h
    unfold tailV tailE
    rw [if_pos h, if_pos h, if_neg (by omega), if_neg (by omega), if_neg (by omega), if_neg (by omega), hrd]
    exact ⟨by omega, rfl⟩
  have hle := fun h => hrb h
  rw [hrd] at hle
  generalize tailV 0 l = rv at *
  generalize tailE 0 l = re at *
  generalize partV l 0 24 = H at *
  generalize partV l 3 60 = M at *
  generalize partV l 6 60 = X at *
  generalize txt l = s at *
  have NOK := Lib.hid nok
  have YOK := Lib.hid yok
  have HLE := Lib.hid hle
  have CP0 := Lib.hid cP0
  have CP3 := Lib.hid cP3
  have CP6 := Lib.hid cP6
  have IX := Lib.hid hix
  have CH := Lib.hid hch
  have HW := Lib.hid hways
  have HI2 := Lib.hid hi2
  have HI5 := Lib.hid hi5
  clear hV hE hc hch hix cP0 cP3 cP6 hways hrd hrb nok yok hle hi2 hi5
  go_enter Try.func47, Try.ntmps47
  go_wp2
  go_loop [14, 0, 4] (fun i u v => ∃ k : Nat, k ≤ l.length ∧ i = .int .i64 k ∧ u = .string s ∧ v = .int .i64 0) (fun i _ _ => l.length - (intOf i).toNat)
  case atStart => exact ⟨0, by omega, rfl, rfl, rfl⟩
  case round =>
    obtain ⟨k, hk, rfl, rfl, rfl⟩ := hrel
    by_cases hlt : k < l.length
    · obtain ⟨c, hc⟩ : ∃ c, l[k]? = some c := ⟨_, List.getElem?_eq_getElem hlt⟩
      have hix := IX.out k c hc
      obtain ⟨c1, c2⟩ := CH.out k c hc
      have hcb := u8_lt c
      clear hc
      go_wp2
      go_round
      case rel => exact ⟨k + 1, by omega, by go_num, rfl, rfl⟩
      case measure => simp [intOf]; omega
    · obtain rfl : k = l.length := by omega
      have hways := HW.out
      have hi2 := HI2.out
      have hi5 := HI5.out
      clear HI2 HI5 HW IX CH
      rcases hways with ⟨hno, n1, n2⟩ | ⟨h8, c2, c5, h2, h5, hways⟩
      · obtain ⟨r1, r2⟩ := NOK.out hno
        subst r1 r2
        clear hno
        clear hi2 hi5
        go_wp2_with (first | (go_at_call 90; with_reducible refine (CP0.out _).mono ?_; rintro e wp0 ⟨rfl, hb0⟩) | (go_at_call 90; with_reducible refine (CP3.out _).mono ?_; rintro e wp3 ⟨rfl, hb3⟩) | (go_at_call 90; with_reducible refine (CP6.out _).mono ?_; rintro e wp6 ⟨rfl, hb6⟩))
        go_ret2
        exact ⟨rfl, (hb0.trans (hb3.mono hb0.size)).trans (hb6.mono (by have := hb0.size; have := hb3.size; omega))⟩
      · have i2 := hi2 c2 h2
        have i5 := hi5 c5 h5
        have hs8 : s.size = 8 := by omega
        clear hi2 hi5 h2 h5 hsq
        try clear h8
        rcases hways with ⟨hno, a1, a2⟩ | ⟨a1, a2, hways⟩
        · obtain ⟨r1, r2⟩ := NOK.out hno
          subst r1 r2
          clear hno
          go_wp2_with (first | (go_at_call 90; with_reducible refine (CP0.out _).mono ?_; rintro e wp0 ⟨rfl, hb0⟩) | (go_at_call 90; with_reducible refine (CP3.out _).mono ?_; rintro e wp3 ⟨rfl, hb3⟩) | (go_at_call 90; with_reducible refine (CP6.out _).mono ?_; rintro e wp6 ⟨rfl, hb6⟩))
          go_ret2
          exact ⟨rfl, (hb0.trans (hb3.mono hb0.size)).trans (hb6.mono (by have := hb0.size; have := hb3.size; omega))⟩
        · skip
          rcases hways with ⟨hno, b1, b2⟩ | ⟨b1, b2, hways⟩
          · obtain ⟨r1, r2⟩ := NOK.out hno
            subst r1 r2
            clear hno
            go_wp2_with (first | (go_at_call 90; with_reducible refine (CP0.out _).mono ?_; rintro e wp0 ⟨rfl, hb0⟩) | (go_at_call 90; with_reducible refine (CP3.out _).mono ?_; rintro e wp3 ⟨rfl, hb3⟩) | (go_at_call 90; with_reducible refine (CP6.out _).mono ?_; rintro e wp6 ⟨rfl, hb6⟩))
            go_ret2
            exact ⟨rfl, (hb0.trans (hb3.mono hb0.size)).trans (hb6.mono (by have := hb0.size; have := hb3.size; omega))⟩
          · skip
            rcases hways with ⟨hno, d1⟩ | ⟨d1, hways⟩
            · obtain ⟨r1, r2⟩ := NOK.out hno
              subst r1 r2
              clear hno
              go_wp2_with (first | (go_at_call 90; with_reducible refine (CP0.out _).mono ?_; rintro e wp0 ⟨rfl, hb0⟩) | (go_at_call 90; with_reducible refine (CP3.out _).mono ?_; rintro e wp3 ⟨rfl, hb3⟩) | (go_at_call 90; with_reducible refine (CP6.out _).mono ?_; rintro e wp6 ⟨rfl, hb6⟩))
              go_ret2
              exact ⟨rfl, (hb0.trans (hb3.mono hb0.size)).trans (hb6.mono (by have := hb0.size; have := hb3.size; omega))⟩
            · skip
              rcases hways with ⟨hno, d2⟩ | ⟨d2, hways⟩
              · obtain ⟨r1, r2⟩ := NOK.out hno
                subst r1 r2
                clear hno
                go_wp2_with (first | (go_at_call 90; with_reducible refine (CP0.out _).mono ?_; rintro e wp0 ⟨rfl, hb0⟩) | (go_at_call 90; with_reducible refine (CP3.out _).mono ?_; rintro e wp3 ⟨rfl, hb3⟩) | (go_at_call 90; with_reducible refine (CP6.out _).mono ?_; rintro e wp6 ⟨rfl, hb6⟩))
                go_ret2
                exact ⟨rfl, (hb0.trans (hb3.mono hb0.size)).trans (hb6.mono (by have := hb0.size; have := hb3.size; omega))⟩
              · skip
                rcases hways with ⟨hno, d3⟩ | ⟨hok, d3⟩
                · obtain ⟨r1, r2⟩ := NOK.out hno
                  subst r1 r2
                  clear hno
                  go_wp2_with (first | (go_at_call 90; with_reducible refine (CP0.out _).mono ?_; rintro e wp0 ⟨rfl, hb0⟩) | (go_at_call 90; with_reducible refine (CP3.out _).mono ?_; rintro e wp3 ⟨rfl, hb3⟩) | (go_at_call 90; with_reducible refine (CP6.out _).mono ?_; rintro e wp6 ⟨rfl, hb6⟩))
                  go_ret2
                  exact ⟨rfl, (hb0.trans (hb3.mono hb0.size)).trans (hb6.mono (by have := hb0.size; have := hb3.size; omega))⟩
                · have hh := HLE.out hok
                  obtain ⟨r1, r2⟩ := YOK.out hok
                  subst r1 r2
                  clear hok HLE YOK NOK
                  have H0 : 0 ≤ H := by have := of_decide_eq_false d1; omega
                  have M0 : 0 ≤ M := by have := of_decide_eq_false d2; omega
                  have X0 : 0 ≤ X := by have := of_decide_eq_false d3; omega
                  have q9 : decide (1099511627776 < H * 3600 + M * 60 + X) = false := decide_eq_false (by omega)
                  go_wp2_with (first | (go_at_call 90; with_reducible refine (CP0.out _).mono ?_; rintro e wp0 ⟨rfl, hb0⟩) | (go_at_call 90; with_reducible refine (CP3.out _).mono ?_; rintro e wp3 ⟨rfl, hb3⟩) | (go_at_call 90; with_reducible refine (CP6.out _).mono ?_; rintro e wp6 ⟨rfl, hb6⟩))
                  go_ret2
                  exact ⟨rfl, (hb0.trans (hb3.mono hb0.size)).trans (hb6.mono (by have := hb0.size; have := hb3.size; omega))⟩
set_option maxRecDepth 20000 in
set_option maxHeartbeats 4000000 in
theorem clock_read_bad (l p q : List UInt8) (w : World) (hl : l.length ≤ 200) (hc : cutD l = some (p, q)) (hbad : badD p) : Calls Try.prog 47 #[.string (txt l)] w fun e w' => e = .returned (.tuple #[.int .i64 (clkRV l), .int .i64 (clkRE l)]) ∧ Below w.heap.size w w' := by
  have hV : clkRV l = 0 := by unfold clkRV; rw [hc]; dsimp only; rw [if_pos hbad]
  have hE : clkRE l = 20 := by unfold clkRE; rw [hc]; dsimp only; rw [if_pos hbad]
  rw [hV, hE]
  obtain ⟨hl2, hp⟩ := cutD_some hc
  obtain ⟨hch, hc0⟩ := cut_chars hl2 hp
  have hlen : l.length = p.length + 1 + q.length := by rw [hl2]; simp; omega
  have hix : ∀ (k : Nat) (c : UInt8), l[k]? = some c → ∀ w, (Instr.index 9 (.string (txt l)) (.int .i64 (k : Int))).run Try.prog w = .ok (.int .u8 (c.toNat : Int)) w := fun k c h w => ix_txt l k k c rfl h .i64 w
  have hix0 := hix p.length 100 hc0
  have hfirst : ∀ x, l[0]? = some x → ∀ w, (Instr.index 9 (.string (txt l)) (.int .i64 0)).run Try.prog w = .ok (.int .u8 (x.toNat : Int)) w := fun x h w => ix_txt l 0 0 x rfl h .i64 w
  have hupto := upto_txt l (p.length : Int) p.length rfl (by omega)
  have htk : l.take p.length = p := by rw [hl2]; simp
  have hdr : l.drop (p.length + 1) = q := by rw [hl2]; simp
  have hfrom := from_txt l ((p.length : Int) + 1) (p.length + 1) (by omega) (by omega)
  rw [htk] at hupto
  rw [hdr] at hfrom
  have hsl : (txt l).size = l.length := txt_size l
  have cR := fun w => digits_Read p w (by omega)
  have hz : p.head? = some 45 → ∀ w, (Instr.index 9 (.string (txt l)) (.int .i64 0)).run Try.prog w = .ok (.int .u8 45) w := by
    intro h
    refine hfirst 45 ?_
    rw [hl2]
    cases p with
    | nil => cases h
    | cons a m => exact h
  have hz2 : readE p ≠ 20 → p.head? ≠ some 45 → ∃ x : UInt8, ((x.toNat : Int) == 45) = false ∧ ∀ w, (Instr.index 9 (.string (txt l)) (.int .i64 0)).run Try.prog w = .ok (.int .u8 (x.toNat : Int)) w := by
    intro h1 h2
    cases p with
    | nil => exact absurd rfl h1
    | cons a m =>
      refine ⟨a, ?_, hfirst a (by rw [hl2]; rfl)⟩
      have := u8_ne (n := 45) (c := a) (by intro e; apply h2; rw [e]; rfl) (by omega)
      simp; omega
  unfold badD at hbad
  clear hc hV hE hl2 hp hfirst htk hdr hc0
  have IX := Lib.hid hix
  have CH := Lib.hid hch
  have HZ := Lib.hid hz
  have HZ2 := Lib.hid hz2
  have CR := Lib.hid cR
  clear hix hch hz hz2 cR
  generalize txt l = s at *
  generalize txt p = sp at *
  generalize txt q = sq at *
  generalize readV p = V at *
  generalize readE p = E at *
  go_enter Try.func47, Try.ntmps47
  go_wp2
  go_loop [14, 0, 4] (fun i u v => ∃ k : Nat, k ≤ p.length ∧ i = .int .i64 k ∧ u = .string s ∧ v = .int .i64 0) (fun i _ _ => p.length - (intOf i).toNat)
  case atStart => exact ⟨0, by omega, rfl, rfl, rfl⟩
  case round =>
    obtain ⟨k, hk, rfl, rfl, rfl⟩ := hrel
    by_cases hlt : k < p.length
    · obtain ⟨c, hc⟩ : ∃ c, l[k]? = some c := ⟨_, List.getElem?_eq_getElem (by omega)⟩
      have hixk := IX.out k c hc
      obtain ⟨c1, c2⟩ := CH.out k c hlt hc
      have hcb := u8_lt c
      clear hc hix0
      go_wp2
      go_round
      case rel => exact ⟨k + 1, by omega, by go_num, rfl, rfl⟩
      case measure => simp [intOf]; omega
    · obtain rfl : k = p.length := by omega
      clear IX CH
      by_cases hE : E = 20
      · subst hE
        go_wp2_with (first | (go_at_call 28; refine (CR.out _).mono ?_; rintro e w' ⟨rfl, rfl⟩))
        go_ret2
        exact ⟨rfl, Below.refl _ _⟩
      · have e1 : (E == 20) = false := by simpa using hE
        by_cases h45 : p.head? = some 45
        · have hz := HZ.out h45
          go_wp2_with (first | (go_at_call 28; refine (CR.out _).mono ?_; rintro e w' ⟨rfl, rfl⟩))
          go_ret2
          exact ⟨rfl, Below.refl _ _⟩
        · obtain ⟨x, x1, x2⟩ := HZ2.out hE h45
          obtain ⟨rfl, rfl⟩ : E = 0 ∧ V = 0 := by
            rcases hbad with h | h | h
            · exact absurd h hE
            · exact absurd h h45
            · exact h
          go_wp2_with (first | (go_at_call 28; refine (CR.out _).mono ?_; rintro e w' ⟨rfl, rfl⟩))
          go_ret2
          exact ⟨rfl, Below.refl _ _⟩
theorem below_parts {w w1 w2 w3 : World} {n : Nat} (h1 : Below (w.drewN n).heap.size (w.drewN n) w1) (h2 : Below w1.heap.size w1 w2) (h3 : Below w2.heap.size w2 w3) : Below w.heap.size w w3 := by
  have h0 := below_drewN (Below.refl w.heap.size w) n
  have a0 := h0.size
  have a1 := h1.size
  have a2 := h2.size
  exact ((h0.trans (h1.mono a0)).trans (h2.mono (by omega))).trans (h3.mono (by omega))
set_option maxRecDepth 20000 in
set_option maxHeartbeats 4000000 in
theorem clock_read_big1 (l p q : List UInt8) (w : World) (hl : l.length ≤ 200) (hc : cutD l = some (p, q)) (hbad : ¬ badD p) (hbig : readE p ≠ 0) : Calls Try.prog 47 #[.string (txt l)] w fun e w' => e = .returned (.tuple #[.int .i64 (clkRV l), .int .i64 (clkRE l)]) ∧ Below w.heap.size w w' := by
  have hD : dayN p = 1099511627776 := by unfold dayN; rw [if_pos (.inl hbig)]
  have hV : clkRV l = tailV 1099511627776 q := by unfold clkRV; rw [hc]; dsimp only; rw [if_neg hbad, hD]
  have hE : clkRE l = tailE 1099511627776 q := by unfold clkRE; rw [hc]; dsimp only; rw [if_neg hbad, hD]
  rw [hV, hE]
  obtain ⟨hl2, hp⟩ := cutD_some hc
  obtain ⟨hch, hc0⟩ := cut_chars hl2 hp
  have hlen : l.length = p.length + 1 + q.length := by rw [hl2]; simp; omega
  have hix : ∀ (k : Nat) (c : UInt8), l[k]? = some c → ∀ w, (Instr.index 9 (.string (txt l)) (.int .i64 (k : Int))).run Try.prog w = .ok (.int .u8 (c.toNat : Int)) w := fun k c h w => ix_txt l k k c rfl h .i64 w
  have hix0 := hix p.length 100 hc0
  have hfirst : ∀ x, l[0]? = some x → ∀ w, (Instr.index 9 (.string (txt l)) (.int .i64 0)).run Try.prog w = .ok (.int .u8 (x.toNat : Int)) w := fun x h w => ix_txt l 0 0 x rfl h .i64 w
  have hupto := upto_txt l (p.length : Int) p.length rfl (by omega)
  have htk : l.take p.length = p := by rw [hl2]; simp
  have hdr : l.drop (p.length + 1) = q := by rw [hl2]; simp
  have hfrom := from_txt l ((p.length : Int) + 1) (p.length + 1) (by omega) (by omega)
  rw [htk] at hupto
  rw [hdr] at hfrom
  have hsl : (txt l).size = l.length := txt_size l
  have cR := fun w => digits_Read p w (by omega)
  obtain ⟨x, hx45, hx0⟩ : ∃ x : UInt8, ((x.toNat : Int) == 45) = false ∧ ∀ w, (Instr.index 9 (.string (txt l)) (.int .i64 0)).run Try.prog w = .ok (.int .u8 (x.toNat : Int)) w := by
    cases p with
    | nil => exact absurd (.inl rfl) hbad
    | cons a m =>
      refine ⟨a, ?_, hfirst a (by rw [hl2]; rfl)⟩
      have := u8_ne (n := 45) (c := a) (by intro e; apply hbad; right; left; rw [e]; rfl) (by omega)
      simp; omega
  have he20 : readE p ≠ 20 := fun h => hbad (.inl h)
  have e1 : (readE p == 20) = false := by simpa using he20
  have f1 : (readE p == 0) = false := by simpa using hbig
  have f2 : (readE p != 0) = true := by simpa using hbig
  have cP0 : ∀ w, Calls Try.prog 90 #[.string (txt q), .int .i64 0, .int .i64 24] w fun e w' => e = .returned (.int .i64 (partV q 0 24)) ∧ Below w.heap.size w w' := fun w => clock_partB q 0 24 (by omega) (by omega) (by omega) (by omega) w
  have cP3 : ∀ w, Calls Try.prog 90 #[.string (txt q), .int .i64 3, .int .i64 60] w fun e w' => e = .returned (.int .i64 (partV q 3 60)) ∧ Below w.heap.size w w' := fun w => clock_partB q 3 60 (by omega) (by omega) (by omega) (by omega) w
  have cP6 : ∀ w, Calls Try.prog 90 #[.string (txt q), .int .i64 6, .int .i64 60] w fun e w' => e = .returned (.int .i64 (partV q 6 60)) ∧ Below w.heap.size w w' := fun w => clock_partB q 6 60 (by omega) (by omega) (by omega) (by omega) w
  have pb0 := partV_bd q 0 24 (by omega)
  have pb3 := partV_bd q 3 60 (by omega)
  have pb6 := partV_bd q 6 60 (by omega)
  have hsq : (txt q).size = q.length := txt_size q
  have hi2 := ix_c q 2 2 rfl
  have hi5 := ix_c q 5 5 rfl
  have hways := day_ways q
  have hrd : restD q = partV q 0 24 * 3600 + partV q 3 60 * 60 + partV q 6 60 := rfl
  have hrb := fun h => rest_bd (q := q) h
  have nok : ¬ dayOK q → tailV 1099511627776 q = 0 ∧ tailE 1099511627776 q = 20 := fun h => by unfold tailV tailE; rw [if_neg h, if_neg h]; exact ⟨rfl, rfl⟩
  have yok : dayOK q → tailV 1099511627776 q = 0 ∧ tailE 1099511627776 q = 10 := fun h => by unfold tailV tailE; rw [if_pos h, if_pos h, if_pos rfl, if_pos rfl]; exact ⟨rfl, rfl⟩
  have NOK := Lib.hid nok
  have YOK := Lib.hid yok
  have CP0 := Lib.hid cP0
  have CP3 := Lib.hid cP3
  have CP6 := Lib.hid cP6
  have IX := Lib.hid hix
  have CH := Lib.hid hch
  have HW := Lib.hid hways
  have HI2 := Lib.hid hi2
  have HI5 := Lib.hid hi5
  have CR := Lib.hid cR
  clear hV hE hD hc hch hix cP0 cP3 cP6 hways nok yok hi2 hi5 cR hl2 hp hfirst htk hdr hc0 hbad he20 hrd hrb hbig
  generalize tailV 1099511627776 q = rv at *
  generalize tailE 1099511627776 q = re at *
  generalize partV q 0 24 = H at *
  generalize partV q 3 60 = M at *
  generalize partV q 6 60 = X at *
  generalize txt l = sl at *
  generalize txt p = sp at *
  generalize txt q = s at *
  generalize readV p = V at *
  generalize readE p = E at *
  go_enter Try.func47, Try.ntmps47
  go_wp2
  go_loop [14, 0, 4] (fun i u v => ∃ k : Nat, k ≤ p.length ∧ i = .int .i64 k ∧ u = .string sl ∧ v = .int .i64 0) (fun i _ _ => p.length - (intOf i).toNat)
  case atStart => exact ⟨0, by omega, rfl, rfl, rfl⟩
  case round =>
    obtain ⟨k, hk, rfl, rfl, rfl⟩ := hrel
    by_cases hlt : k < p.length
    · obtain ⟨c, hc⟩ : ∃ c, l[k]? = some c := ⟨_, List.getElem?_eq_getElem (by omega)⟩
      have hixk := IX.out k c hc
      obtain ⟨c1, c2⟩ := CH.out k c hlt hc
      have hcb := u8_lt c
      clear hc hix0
      go_wp2
      go_round
      case rel => exact ⟨k + 1, by omega, by go_num, rfl, rfl⟩
      case measure => simp [intOf]; omega
    · obtain rfl : k = p.length := by omega
      clear IX CH
      have hways := HW.out
      have hi2 := HI2.out
      have hi5 := HI5.out
      clear HI2 HI5 HW
      rcases hways with ⟨hno, n1, n2⟩ | ⟨h8, c2, c5, h2, h5, hways⟩
      · obtain ⟨r1, r2⟩ := NOK.out hno
        subst r1 r2
        clear hno
        clear hi2 hi5
        go_wp2_with (first | (go_at_call 28; refine (CR.out _).mono ?_; rintro e w' ⟨rfl, rfl⟩))
        go_quiet (fail)
        go_wp2_with (first | (go_at_call 90; with_reducible refine (CP0.out _).mono ?_; rintro e wp0 ⟨rfl, hb0⟩) | (go_at_call 90; with_reducible refine (CP3.out _).mono ?_; rintro e wp3 ⟨rfl, hb3⟩) | (go_at_call 90; with_reducible refine (CP6.out _).mono ?_; rintro e wp6 ⟨rfl, hb6⟩))
        go_ret2
        exact ⟨rfl, below_parts hb0 hb3 hb6⟩
      · have i2 := hi2 c2 h2
        have i5 := hi5 c5 h5
        have hs8 : s.size = 8 := by omega
        clear hi2 hi5 h2 h5 hsq
        try clear h8
        rcases hways with ⟨hno, a1, a2⟩ | ⟨a1, a2, hways⟩
        · obtain ⟨r1, r2⟩ := NOK.out hno
          subst r1 r2
          clear hno
          go_wp2_with (first | (go_at_call 28; refine (CR.out _).mono ?_; rintro e w' ⟨rfl, rfl⟩))
          go_quiet (fail)
          go_wp2_with (first | (go_at_call 90; with_reducible refine (CP0.out _).mono ?_; rintro e wp0 ⟨rfl, hb0⟩) | (go_at_call 90; with_reducible refine (CP3.out _).mono ?_; rintro e wp3 ⟨rfl, hb3⟩) | (go_at_call 90; with_reducible refine (CP6.out _).mono ?_; rintro e wp6 ⟨rfl, hb6⟩))
          go_ret2
          exact ⟨rfl, below_parts hb0 hb3 hb6⟩
        · skip
          rcases hways with ⟨hno, b1, b2⟩ | ⟨b1, b2, hways⟩
          · obtain ⟨r1, r2⟩ := NOK.out hno
            subst r1 r2
            clear hno
            go_wp2_with (first | (go_at_call 28; refine (CR.out _).mono ?_; rintro e w' ⟨rfl, rfl⟩))
            go_quiet (fail)
            go_wp2_with (first | (go_at_call 90; with_reducible refine (CP0.out _).mono ?_; rintro e wp0 ⟨rfl, hb0⟩) | (go_at_call 90; with_reducible refine (CP3.out _).mono ?_; rintro e wp3 ⟨rfl, hb3⟩) | (go_at_call 90; with_reducible refine (CP6.out _).mono ?_; rintro e wp6 ⟨rfl, hb6⟩))
            go_ret2
            exact ⟨rfl, below_parts hb0 hb3 hb6⟩
          · skip
            rcases hways with ⟨hno, d1⟩ | ⟨d1, hways⟩
            · obtain ⟨r1, r2⟩ := NOK.out hno
              subst r1 r2
              clear hno
              go_wp2_with (first | (go_at_call 28; refine (CR.out _).mono ?_; rintro e w' ⟨rfl, rfl⟩))
              go_quiet (fail)
              go_wp2_with (first | (go_at_call 90; with_reducible refine (CP0.out _).mono ?_; rintro e wp0 ⟨rfl, hb0⟩) | (go_at_call 90; with_reducible refine (CP3.out _).mono ?_; rintro e wp3 ⟨rfl, hb3⟩) | (go_at_call 90; with_reducible refine (CP6.out _).mono ?_; rintro e wp6 ⟨rfl, hb6⟩))
              go_ret2
              exact ⟨rfl, below_parts hb0 hb3 hb6⟩
            · skip
              rcases hways with ⟨hno, d2⟩ | ⟨d2, hways⟩
              · obtain ⟨r1, r2⟩ := NOK.out hno
                subst r1 r2
                clear hno
                go_wp2_with (first | (go_at_call 28; refine (CR.out _).mono ?_; rintro e w' ⟨rfl, rfl⟩))
                go_quiet (fail)
                go_wp2_with (first | (go_at_call 90; with_reducible refine (CP0.out _).mono ?_; rintro e wp0 ⟨rfl, hb0⟩) | (go_at_call 90; with_reducible refine (CP3.out _).mono ?_; rintro e wp3 ⟨rfl, hb3⟩) | (go_at_call 90; with_reducible refine (CP6.out _).mono ?_; rintro e wp6 ⟨rfl, hb6⟩))
                go_ret2
                exact ⟨rfl, below_parts hb0 hb3 hb6⟩
              · skip
                rcases hways with ⟨hno, d3⟩ | ⟨hok, d3⟩
                · obtain ⟨r1, r2⟩ := NOK.out hno
                  subst r1 r2
                  clear hno
                  go_wp2_with (first | (go_at_call 28; refine (CR.out _).mono ?_; rintro e w' ⟨rfl, rfl⟩))
                  go_quiet (fail)
                  go_wp2_with (first | (go_at_call 90; with_reducible refine (CP0.out _).mono ?_; rintro e wp0 ⟨rfl, hb0⟩) | (go_at_call 90; with_reducible refine (CP3.out _).mono ?_; rintro e wp3 ⟨rfl, hb3⟩) | (go_at_call 90; with_reducible refine (CP6.out _).mono ?_; rintro e wp6 ⟨rfl, hb6⟩))
                  go_ret2
                  exact ⟨rfl, below_parts hb0 hb3 hb6⟩
                · obtain ⟨r1, r2⟩ := YOK.out hok
                  subst r1 r2
                  clear hok
                  go_wp2_with (first | (go_at_call 28; refine (CR.out _).mono ?_; rintro e w' ⟨rfl, rfl⟩))
                  go_quiet (fail)
                  go_wp2_with (first | (go_at_call 90; with_reducible refine (CP0.out _).mono ?_; rintro e wp0 ⟨rfl, hb0⟩) | (go_at_call 90; with_reducible refine (CP3.out _).mono ?_; rintro e wp3 ⟨rfl, hb3⟩) | (go_at_call 90; with_reducible refine (CP6.out _).mono ?_; rintro e wp6 ⟨rfl, hb6⟩))
                  go_ret2
                  exact ⟨rfl, below_parts hb0 hb3 hb6⟩
set_option maxRecDepth 20000 in
set_option maxHeartbeats 4000000 in
theorem clock_read_big2 (l p q : List UInt8) (w : World) (hl : l.length ≤ 200) (hc : cutD l = some (p, q)) (hbad : ¬ badD p) (h0 : readE p = 0) (hbig : 12725829 < readV p) : Calls Try.prog 47 #[.string (txt l)] w fun e w' => e = .returned (.tuple #[.int .i64 (clkRV l), .int .i64 (clkRE l)]) ∧ Below w.heap.size w w' := by
  have hD : dayN p = 1099511627776 := by unfold dayN; rw [if_pos (.inr hbig)]
  have hV : clkRV l = tailV 1099511627776 q := by unfold clkRV; rw [hc]; dsimp only; rw [if_neg hbad, hD]
  have hE : clkRE l = tailE 1099511627776 q := by unfold clkRE; rw [hc]; dsimp only; rw [if_neg hbad, hD]
  rw [hV, hE]
  obtain ⟨hl2, hp⟩ := cutD_some hc
  obtain ⟨hch, hc0⟩ := cut_chars hl2 hp
  have hlen : l.length = p.length + 1 + q.length := by rw [hl2]; simp; omega
  have hix : ∀ (k : Nat) (c : UInt8), l[k]? = some c → ∀ w, (Instr.index 9 (.string (txt l)) (.int .i64 (k : Int))).run Try.prog w = .ok (.int .u8 (c.toNat : Int)) w := fun k c h w => ix_txt l k k c rfl h .i64 w
  have hix0 := hix p.length 100 hc0
  have hfirst : ∀ x, l[0]? = some x → ∀ w, (Instr.index 9 (.string (txt l)) (.int .i64 0)).run Try.prog w = .ok (.int .u8 (x.toNat : Int)) w := fun x h w => ix_txt l 0 0 x rfl h .i64 w
  have hupto := upto_txt l (p.length : Int) p.length rfl (by omega)
  have htk : l.take p.length = p := by rw [hl2]; simp
  have hdr : l.drop (p.length + 1) = q := by rw [hl2]; simp
  have hfrom := from_txt l ((p.length : Int) + 1) (p.length + 1) (by omega) (by omega)
  rw [htk] at hupto
  rw [hdr] at hfrom
  have hsl : (txt l).size = l.length := txt_size l
  have cR := fun w => digits_Read p w (by omega)
  obtain ⟨x, hx45, hx0⟩ : ∃ x : UInt8, ((x.toNat : Int) == 45) = false ∧ ∀ w, (Instr.index 9 (.string (txt l)) (.int .i64 0)).run Try.prog w = .ok (.int .u8 (x.toNat : Int)) w := by
    cases p with
    | nil => exact absurd (.inl rfl) hbad
    | cons a m =>
      refine ⟨a, ?_, hfirst a (by rw [hl2]; rfl)⟩
      have := u8_ne (n := 45) (c := a) (by intro e; apply hbad; right; left; rw [e]; rfl) (by omega)
      simp; omega
  have he20 : readE p ≠ 20 := fun h => hbad (.inl h)
  have e1 : (readE p == 20) = false := by simpa using he20
  have f0 : (readV p == 0) = false := by simp; omega
  have f1 : decide (12725829 < readV p) = true := decide_eq_true hbig
  rw [h0] at cR
  have cP0 : ∀ w, Calls Try.prog 90 #[.string (txt q), .int .i64 0, .int .i64 24] w fun e w' => e = .returned (.int .i64 (partV q 0 24)) ∧ Below w.heap.size w w' := fun w => clock_partB q 0 24 (by omega) (by omega) (by omega) (by omega) w
  have cP3 : ∀ w, Calls Try.prog 90 #[.string (txt q), .int .i64 3, .int .i64 60] w fun e w' => e = .returned (.int .i64 (partV q 3 60)) ∧ Below w.heap.size w w' := fun w => clock_partB q 3 60 (by omega) (by omega) (by omega) (by omega) w
  have cP6 : ∀ w, Calls Try.prog 90 #[.string (txt q), .int .i64 6, .int .i64 60] w fun e w' => e = .returned (.int .i64 (partV q 6 60)) ∧ Below w.heap.size w w' := fun w => clock_partB q 6 60 (by omega) (by omega) (by omega) (by omega) w
  have pb0 := partV_bd q 0 24 (by omega)
  have pb3 := partV_bd q 3 60 (by omega)
  have pb6 := partV_bd q 6 60 (by omega)
  have hsq : (txt q).size = q.length := txt_size q
  have hi2 := ix_c q 2 2 rfl
  have hi5 := ix_c q 5 5 rfl
  have hways := day_ways q
  have hrd : restD q = partV q 0 24 * 3600 + partV q 3 60 * 60 + partV q 6 60 := rfl
  have hrb := fun h => rest_bd (q := q) h
  have nok : ¬ dayOK q → tailV 1099511627776 q = 0 ∧ tailE 1099511627776 q = 20 := fun h => by unfold tailV tailE; rw [if_neg h, if_neg h]; exact ⟨rfl, rfl⟩
  have yok : dayOK q → tailV 1099511627776 q = 0 ∧ tailE 1099511627776 q = 10 := fun h => by unfold tailV tailE; rw [if_pos h, if_pos h, if_pos rfl, if_pos rfl]; exact ⟨rfl, rfl⟩
  have NOK := Lib.hid nok
  have YOK := Lib.hid yok
  have CP0 := Lib.hid cP0
  have CP3 := Lib.hid cP3
  have CP6 := Lib.hid cP6
  have IX := Lib.hid hix
  have CH := Lib.hid hch
  have HW := Lib.hid hways
  have HI2 := Lib.hid hi2
  have HI5 := Lib.hid hi5
  have CR := Lib.hid cR
  clear hV hE hD hc hch hix cP0 cP3 cP6 hways nok yok hi2 hi5 cR hl2 hp hfirst htk hdr hc0 hbad he20 hrd hrb e1 h0
  generalize tailV 1099511627776 q = rv at *
  generalize tailE 1099511627776 q = re at *
  generalize partV q 0 24 = H at *
  generalize partV q 3 60 = M at *
  generalize partV q 6 60 = X at *
  generalize txt l = sl at *
  generalize txt p = sp at *
  generalize txt q = s at *
  generalize readV p = V at *
  go_enter Try.func47, Try.ntmps47
  go_wp2
  go_loop [14, 0, 4] (fun i u v => ∃ k : Nat, k ≤ p.length ∧ i = .int .i64 k ∧ u = .string sl ∧ v = .int .i64 0) (fun i _ _ => p.length - (intOf i).toNat)
  case atStart => exact ⟨0, by omega, rfl, rfl, rfl⟩
  case round =>
    obtain ⟨k, hk, rfl, rfl, rfl⟩ := hrel
    by_cases hlt : k < p.length
    · obtain ⟨c, hc⟩ : ∃ c, l[k]? = some c := ⟨_, List.getElem?_eq_getElem (by omega)⟩
      have hixk := IX.out k c hc
      obtain ⟨c1, c2⟩ := CH.out k c hlt hc
      have hcb := u8_lt c
      clear hc hix0
      go_wp2
      go_round
      case rel => exact ⟨k + 1, by omega, by go_num, rfl, rfl⟩
      case measure => simp [intOf]; omega
    · obtain rfl : k = p.length := by omega
      clear IX CH
      have hways := HW.out
      have hi2 := HI2.out
      have hi5 := HI5.out
      clear HI2 HI5 HW
      rcases hways with ⟨hno, n1, n2⟩ | ⟨h8, c2, c5, h2, h5, hways⟩
      · obtain ⟨r1, r2⟩ := NOK.out hno
        subst r1 r2
        clear hno
        clear hi2 hi5
        go_wp2_with (first | (go_at_call 28; refine (CR.out _).mono ?_; rintro e w' ⟨rfl, rfl⟩))
        go_quiet (fail)
        go_wp2_with (first | (go_at_call 90; with_reducible refine (CP0.out _).mono ?_; rintro e wp0 ⟨rfl, hb0⟩) | (go_at_call 90; with_reducible refine (CP3.out _).mono ?_; rintro e wp3 ⟨rfl, hb3⟩) | (go_at_call 90; with_reducible refine (CP6.out _).mono ?_; rintro e wp6 ⟨rfl, hb6⟩))
        go_ret2
        exact ⟨rfl, below_parts hb0 hb3 hb6⟩
      · have i2 := hi2 c2 h2
        have i5 := hi5 c5 h5
        have hs8 : s.size = 8 := by omega
        clear hi2 hi5 h2 h5 hsq
        try clear h8
        rcases hways with ⟨hno, a1, a2⟩ | ⟨a1, a2, hways⟩
        · obtain ⟨r1, r2⟩ := NOK.out hno
          subst r1 r2
          clear hno
          go_wp2_with (first | (go_at_call 28; refine (CR.out _).mono ?_; rintro e w' ⟨rfl, rfl⟩))
          go_quiet (fail)
          go_wp2_with (first | (go_at_call 90; with_reducible refine (CP0.out _).mono ?_; rintro e wp0 ⟨rfl, hb0⟩) | (go_at_call 90; with_reducible refine (CP3.out _).mono ?_; rintro e wp3 ⟨rfl, hb3⟩) | (go_at_call 90; with_reducible refine (CP6.out _).mono ?_; rintro e wp6 ⟨rfl, hb6⟩))
          go_ret2
          exact ⟨rfl, below_parts hb0 hb3 hb6⟩
        · skip
          rcases hways with ⟨hno, b1, b2⟩ | ⟨b1, b2, hways⟩
          · obtain ⟨r1, r2⟩ := NOK.out hno
            subst r1 r2
            clear hno
            go_wp2_with (first | (go_at_call 28; refine (CR.out _).mono ?_; rintro e w' ⟨rfl, rfl⟩))
            go_quiet (fail)
            go_wp2_with (first | (go_at_call 90; with_reducible refine (CP0.out _).mono ?_; rintro e wp0 ⟨rfl, hb0⟩) | (go_at_call 90; with_reducible refine (CP3.out _).mono ?_; rintro e wp3 ⟨rfl, hb3⟩) | (go_at_call 90; with_reducible refine (CP6.out _).mono ?_; rintro e wp6 ⟨rfl, hb6⟩))
            go_ret2
            exact ⟨rfl, below_parts hb0 hb3 hb6⟩
          · skip
            rcases hways with ⟨hno, d1⟩ | ⟨d1, hways⟩
            · obtain ⟨r1, r2⟩ := NOK.out hno
              subst r1 r2
              clear hno
              go_wp2_with (first | (go_at_call 28; refine (CR.out _).mono ?_; rintro e w' ⟨rfl, rfl⟩))
              go_quiet (fail)
              go_wp2_with (first | (go_at_call 90; with_reducible refine (CP0.out _).mono ?_; rintro e wp0 ⟨rfl, hb0⟩) | (go_at_call 90; with_reducible refine (CP3.out _).mono ?_; rintro e wp3 ⟨rfl, hb3⟩) | (go_at_call 90; with_reducible refine (CP6.out _).mono ?_; rintro e wp6 ⟨rfl, hb6⟩))
              go_ret2
              exact ⟨rfl, below_parts hb0 hb3 hb6⟩
            · skip
              rcases hways with ⟨hno, d2⟩ | ⟨d2, hways⟩
              · obtain ⟨r1, r2⟩ := NOK.out hno
                subst r1 r2
                clear hno
                go_wp2_with (first | (go_at_call 28; refine (CR.out _).mono ?_; rintro e w' ⟨rfl, rfl⟩))
                go_quiet (fail)
                go_wp2_with (first | (go_at_call 90; with_reducible refine (CP0.out _).mono ?_; rintro e wp0 ⟨rfl, hb0⟩) | (go_at_call 90; with_reducible refine (CP3.out _).mono ?_; rintro e wp3 ⟨rfl, hb3⟩) | (go_at_call 90; with_reducible refine (CP6.out _).mono ?_; rintro e wp6 ⟨rfl, hb6⟩))
                go_ret2
                exact ⟨rfl, below_parts hb0 hb3 hb6⟩
              · skip
                rcases hways with ⟨hno, d3⟩ | ⟨hok, d3⟩
                · obtain ⟨r1, r2⟩ := NOK.out hno
                  subst r1 r2
                  clear hno
                  go_wp2_with (first | (go_at_call 28; refine (CR.out _).mono ?_; rintro e w' ⟨rfl, rfl⟩))
                  go_quiet (fail)
                  go_wp2_with (first | (go_at_call 90; with_reducible refine (CP0.out _).mono ?_; rintro e wp0 ⟨rfl, hb0⟩) | (go_at_call 90; with_reducible refine (CP3.out _).mono ?_; rintro e wp3 ⟨rfl, hb3⟩) | (go_at_call 90; with_reducible refine (CP6.out _).mono ?_; rintro e wp6 ⟨rfl, hb6⟩))
                  go_ret2
                  exact ⟨rfl, below_parts hb0 hb3 hb6⟩
                · obtain ⟨r1, r2⟩ := YOK.out hok
                  subst r1 r2
                  clear hok
                  go_wp2_with (first | (go_at_call 28; refine (CR.out _).mono ?_; rintro e w' ⟨rfl, rfl⟩))
                  go_quiet (fail)
                  go_wp2_with (first | (go_at_call 90; with_reducible refine (CP0.out _).mono ?_; rintro e wp0 ⟨rfl, hb0⟩) | (go_at_call 90; with_reducible refine (CP3.out _).mono ?_; rintro e wp3 ⟨rfl, hb3⟩) | (go_at_call 90; with_reducible refine (CP6.out _).mono ?_; rintro e wp6 ⟨rfl, hb6⟩))
                  go_ret2
                  exact ⟨rfl, below_parts hb0 hb3 hb6⟩
set_option maxRecDepth 20000 in
set_option maxHeartbeats 4000000 in
theorem clock_read_norm (l p q : List UInt8) (w : World) (hl : l.length ≤ 200) (hc : cutD l = some (p, q)) (hbad : ¬ badD p) (h0 : readE p = 0) (hpos : 1 ≤ readV p) (hnb : readV p ≤ 12725829) : Calls Try.prog 47 #[.string (txt l)] w fun e w' => e = .returned (.tuple #[.int .i64 (clkRV l), .int .i64 (clkRE l)]) ∧ Below w.heap.size w w' := by
  have hD : dayN p = readV p := by unfold dayN; rw [if_neg (by omega)]
  have hV : clkRV l = tailV (readV p) q := by unfold clkRV; rw [hc]; dsimp only; rw [if_neg hbad, hD]
  have hE : clkRE l = tailE (readV p) q := by unfold clkRE; rw [hc]; dsimp only; rw [if_neg hbad, hD]
  rw [hV, hE]
  obtain ⟨hl2, hp⟩ := cutD_some hc
  obtain ⟨hch, hc0⟩ := cut_chars hl2 hp
  have hlen : l.length = p.length + 1 + q.length := by rw [hl2]; simp; omega
  have hix : ∀ (k : Nat) (c : UInt8), l[k]? = some c → ∀ w, (Instr.index 9 (.string (txt l)) (.int .i64 (k : Int))).run Try.prog w = .ok (.int .u8 (c.toNat : Int)) w := fun k c h w => ix_txt l k k c rfl h .i64 w
  have hix0 := hix p.length 100 hc0
  have hfirst : ∀ x, l[0]? = some x → ∀ w, (Instr.index 9 (.string (txt l)) (.int .i64 0)).run Try.prog w = .ok (.int .u8 (x.toNat : Int)) w := fun x h w => ix_txt l 0 0 x rfl h .i64 w
  have hupto := upto_txt l (p.length : Int) p.length rfl (by omega)
  have htk : l.take p.length = p := by rw [hl2]; simp
  have hdr : l.drop (p.length + 1) = q := by rw [hl2]; simp
  have hfrom := from_txt l ((p.length : Int) + 1) (p.length + 1) (by omega) (by omega)
  rw [htk] at hupto
  rw [hdr] at hfrom
  have hsl : (txt l).size = l.length := txt_size l
  have cR := fun w => digits_Read p w (by omega)
  obtain ⟨x, hx45, hx0⟩ : ∃ x : UInt8, ((x.toNat : Int) == 45) = false ∧ ∀ w, (Instr.index 9 (.string (txt l)) (.int .i64 0)).run Try.prog w = .ok (.int .u8 (x.toNat : Int)) w := by
    cases p with
    | nil => exact absurd (.inl rfl) hbad
    | cons a m =>
      refine ⟨a, ?_, hfirst a (by rw [hl2]; rfl)⟩
      have := u8_ne (n := 45) (c := a) (by intro e; apply hbad; right; left; rw [e]; rfl) (by omega)
      simp; omega
  have he20 : readE p ≠ 20 := fun h => hbad (.inl h)
  have e1 : (readE p == 20) = false := by simpa using he20
  have f0 : (readV p == 0) = false := by simp; omega
  have f1 : decide (12725829 < readV p) = false := decide_eq_false (by omega)
  have f2 : (readV p == 1099511627776) = false := by simp; omega
  rw [h0] at cR
  have cP0 : ∀ w, Calls Try.prog 90 #[.string (txt q), .int .i64 0, .int .i64 24] w fun e w' => e = .returned (.int .i64 (partV q 0 24)) ∧ Below w.heap.size w w' := fun w => clock_partB q 0 24 (by omega) (by omega) (by omega) (by omega) w
  have cP3 : ∀ w, Calls Try.prog 90 #[.string (txt q), .int .i64 3, .int .i64 60] w fun e w' => e = .returned (.int .i64 (partV q 3 60)) ∧ Below w.heap.size w w' := fun w => clock_partB q 3 60 (by omega) (by omega) (by omega) (by omega) w
  have cP6 : ∀ w, Calls Try.prog 90 #[.string (txt q), .int .i64 6, .int .i64 60] w fun e w' => e = .returned (.int .i64 (partV q 6 60)) ∧ Below w.heap.size w w' := fun w => clock_partB q 6 60 (by omega) (by omega) (by omega) (by omega) w
  have pb0 := partV_bd q 0 24 (by omega)
  have pb3 := partV_bd q 3 60 (by omega)
  have pb6 := partV_bd q 6 60 (by omega)
  have hsq : (txt q).size = q.length := txt_size q
  have hi2 := ix_c q 2 2 rfl
  have hi5 := ix_c q 5 5 rfl
  have hways := day_ways q
  have hrd : restD q = partV q 0 24 * 3600 + partV q 3 60 * 60 + partV q 6 60 := rfl
  have hrb := fun h => rest_bd (q := q) h
  have nok : ¬ dayOK q → tailV (readV p) q = 0 ∧ tailE (readV p) q = 20 := fun h => by unfold tailV tailE; rw [if_neg h, if_neg h]; exact ⟨rfl, rfl⟩
  have yok : dayOK q → (0 ≤ partV q 0 24 * 3600 + partV q 3 60 * 60 + partV q 6 60 ∧ partV q 0 24 * 3600 + partV q 3 60 * 60 + partV q 6 60 < 86400) ∧ ((1099511627776 < readV p * 86400 + (partV q 0 24 * 3600 + partV q 3 60 * 60 + partV q 6 60) ∧ tailV (readV p) q = 0 ∧ tailE (readV p) q = 10) ∨ (readV p * 86400 + (partV q 0 24 * 3600 + partV q 3 60 * 60 + partV q 6 60) ≤ 1099511627776 ∧ tailV (readV p) q = readV p * 86400 + (partV q 0 24 * 3600 + partV q 3 60 * 60 + partV q 6 60) ∧ tailE (readV p) q = 0)) := fun h => by
    have := hrb h
    rw [hrd] at this
    refine ⟨this, ?_⟩
    unfold tailV tailE
    have hne : ¬ readV p = 1099511627776 := by omega
    rw [if_pos h, if_pos h, if_neg hne, if_neg hne, hrd]
    rcases Int.lt_or_le 1099511627776 (readV p * 86400 + (partV q 0 24 * 3600 + partV q 3 60 * 60 + partV q 6 60)) with hh | hh
    · exact .inl ⟨hh, if_pos hh, if_pos hh⟩
    · exact .inr ⟨hh, if_neg (by omega), if_neg (by omega)⟩
  have NOK := Lib.hid nok
  have YOK := Lib.hid yok
  have CP0 := Lib.hid cP0
  have CP3 := Lib.hid cP3
  have CP6 := Lib.hid cP6
  have IX := Lib.hid hix
  have CH := Lib.hid hch
  have HW := Lib.hid hways
  have HI2 := Lib.hid hi2
  have HI5 := Lib.hid hi5
  have CR := Lib.hid cR
  clear hV hE hD hc hch hix cP0 cP3 cP6 hways nok yok hi2 hi5 cR hl2 hp hfirst htk hdr hc0 hbad he20 hrd hrb e1 h0
  generalize tailV (readV p) q = rv at *
  generalize tailE (readV p) q = re at *
  generalize partV q 0 24 = H at *
  generalize partV q 3 60 = M at *
  generalize partV q 6 60 = X at *
  generalize txt l = sl at *
  generalize txt p = sp at *
  generalize txt q = s at *
  generalize readV p = V at *
  go_enter Try.func47, Try.ntmps47
  go_wp2
  go_loop [14, 0, 4] (fun i u v => ∃ k : Nat, k ≤ p.length ∧ i = .int .i64 k ∧ u = .string sl ∧ v = .int .i64 0) (fun i _ _ => p.length - (intOf i).toNat)
  case atStart => exact ⟨0, by omega, rfl, rfl, rfl⟩
  case round =>
    obtain ⟨k, hk, rfl, rfl, rfl⟩ := hrel
    by_cases hlt : k < p.length
    · obtain ⟨c, hc⟩ : ∃ c, l[k]? = some c := ⟨_, List.getElem?_eq_getElem (by omega)⟩
      have hixk := IX.out k c hc
      obtain ⟨c1, c2⟩ := CH.out k c hlt hc
      have hcb := u8_lt c
      clear hc hix0
      go_wp2
      go_round
      case rel => exact ⟨k + 1, by omega, by go_num, rfl, rfl⟩
      case measure => simp [intOf]; omega
    · obtain rfl : k = p.length := by omega
      clear IX CH
      have hways := HW.out
      have hi2 := HI2.out
      have hi5 := HI5.out
      clear HI2 HI5 HW
      rcases hways with ⟨hno, n1, n2⟩ | ⟨h8, c2, c5, h2, h5, hways⟩
      · obtain ⟨r1, r2⟩ := NOK.out hno
        subst r1 r2
        clear hno
        clear hi2 hi5
        go_wp2_with (first | (go_at_call 28; refine (CR.out _).mono ?_; rintro e w' ⟨rfl, rfl⟩))
        go_quiet (fail)
        go_wp2_with (first | (go_at_call 90; with_reducible refine (CP0.out _).mono ?_; rintro e wp0 ⟨rfl, hb0⟩) | (go_at_call 90; with_reducible refine (CP3.out _).mono ?_; rintro e wp3 ⟨rfl, hb3⟩) | (go_at_call 90; with_reducible refine (CP6.out _).mono ?_; rintro e wp6 ⟨rfl, hb6⟩))
        go_ret2
        exact ⟨rfl, below_parts hb0 hb3 hb6⟩
      · have i2 := hi2 c2 h2
        have i5 := hi5 c5 h5
        have hs8 : s.size = 8 := by omega
        clear hi2 hi5 h2 h5 hsq
        try clear h8
        rcases hways with ⟨hno, a1, a2⟩ | ⟨a1, a2, hways⟩
        · obtain ⟨r1, r2⟩ := NOK.out hno
          subst r1 r2
          clear hno
          go_wp2_with (first | (go_at_call 28; refine (CR.out _).mono ?_; rintro e w' ⟨rfl, rfl⟩))
          go_quiet (fail)
          go_wp2_with (first | (go_at_call 90; with_reducible refine (CP0.out _).mono ?_; rintro e wp0 ⟨rfl, hb0⟩) | (go_at_call 90; with_reducible refine (CP3.out _).mono ?_; rintro e wp3 ⟨rfl, hb3⟩) | (go_at_call 90; with_reducible refine (CP6.out _).mono ?_; rintro e wp6 ⟨rfl, hb6⟩))
          go_ret2
          exact ⟨rfl, below_parts hb0 hb3 hb6⟩
        · skip
          rcases hways with ⟨hno, b1, b2⟩ | ⟨b1, b2, hways⟩
          · obtain ⟨r1, r2⟩ := NOK.out hno
            subst r1 r2
            clear hno
            go_wp2_with (first | (go_at_call 28; refine (CR.out _).mono ?_; rintro e w' ⟨rfl, rfl⟩))
            go_quiet (fail)
            go_wp2_with (first | (go_at_call 90; with_reducible refine (CP0.out _).mono ?_; rintro e wp0 ⟨rfl, hb0⟩) | (go_at_call 90; with_reducible refine (CP3.out _).mono ?_; rintro e wp3 ⟨rfl, hb3⟩) | (go_at_call 90; with_reducible refine (CP6.out _).mono ?_; rintro e wp6 ⟨rfl, hb6⟩))
            go_ret2
            exact ⟨rfl, below_parts hb0 hb3 hb6⟩
          · skip
            rcases hways with ⟨hno, d1⟩ | ⟨d1, hways⟩
            · obtain ⟨r1, r2⟩ := NOK.out hno
              subst r1 r2
              clear hno
              go_wp2_with (first | (go_at_call 28; refine (CR.out _).mono ?_; rintro e w' ⟨rfl, rfl⟩))
              go_quiet (fail)
              go_wp2_with (first | (go_at_call 90; with_reducible refine (CP0.out _).mono ?_; rintro e wp0 ⟨rfl, hb0⟩) | (go_at_call 90; with_reducible refine (CP3.out _).mono ?_; rintro e wp3 ⟨rfl, hb3⟩) | (go_at_call 90; with_reducible refine (CP6.out _).mono ?_; rintro e wp6 ⟨rfl, hb6⟩))
              go_ret2
              exact ⟨rfl, below_parts hb0 hb3 hb6⟩
            · skip
              rcases hways with ⟨hno, d2⟩ | ⟨d2, hways⟩
              · obtain ⟨r1, r2⟩ := NOK.out hno
                subst r1 r2
                clear hno
                go_wp2_with (first | (go_at_call 28; refine (CR.out _).mono ?_; rintro e w' ⟨rfl, rfl⟩))
                go_quiet (fail)
                go_wp2_with (first | (go_at_call 90; with_reducible refine (CP0.out _).mono ?_; rintro e wp0 ⟨rfl, hb0⟩) | (go_at_call 90; with_reducible refine (CP3.out _).mono ?_; rintro e wp3 ⟨rfl, hb3⟩) | (go_at_call 90; with_reducible refine (CP6.out _).mono ?_; rintro e wp6 ⟨rfl, hb6⟩))
                go_ret2
                exact ⟨rfl, below_parts hb0 hb3 hb6⟩
              · skip
                rcases hways with ⟨hno, d3⟩ | ⟨hok, d3⟩
                · obtain ⟨r1, r2⟩ := NOK.out hno
                  subst r1 r2
                  clear hno
                  go_wp2_with (first | (go_at_call 28; refine (CR.out _).mono ?_; rintro e w' ⟨rfl, rfl⟩))
                  go_quiet (fail)
                  go_wp2_with (first | (go_at_call 90; with_reducible refine (CP0.out _).mono ?_; rintro e wp0 ⟨rfl, hb0⟩) | (go_at_call 90; with_reducible refine (CP3.out _).mono ?_; rintro e wp3 ⟨rfl, hb3⟩) | (go_at_call 90; with_reducible refine (CP6.out _).mono ?_; rintro e wp6 ⟨rfl, hb6⟩))
                  go_ret2
                  exact ⟨rfl, below_parts hb0 hb3 hb6⟩
                · have hh := YOK.out hok
                  clear hok YOK NOK
                  have H0 : 0 ≤ H := by have := of_decide_eq_false d1; omega
                  have M0 : 0 ≤ M := by have := of_decide_eq_false d2; omega
                  have X0 : 0 ≤ X := by have := of_decide_eq_false d3; omega
                  rcases hh with ⟨hh, ⟨h9, rfl, rfl⟩ | ⟨h9, rfl, rfl⟩⟩
                  · have q9 : decide (1099511627776 < V * 86400 + H * 3600 + M * 60 + X) = true := decide_eq_true (by omega)
                    go_wp2_with (first | (go_at_call 28; refine (CR.out _).mono ?_; rintro e w' ⟨rfl, rfl⟩))
                    go_quiet (fail)
                    go_wp2_with (first | (go_at_call 90; with_reducible refine (CP0.out _).mono ?_; rintro e wp0 ⟨rfl, hb0⟩) | (go_at_call 90; with_reducible refine (CP3.out _).mono ?_; rintro e wp3 ⟨rfl, hb3⟩) | (go_at_call 90; with_reducible refine (CP6.out _).mono ?_; rintro e wp6 ⟨rfl, hb6⟩))
                    go_ret2
                    exact ⟨rfl, below_parts hb0 hb3 hb6⟩
                  · have q9 : decide (1099511627776 < V * 86400 + H * 3600 + M * 60 + X) = false := decide_eq_false (by omega)
                    go_wp2_with (first | (go_at_call 28; refine (CR.out _).mono ?_; rintro e w' ⟨rfl, rfl⟩))
                    go_quiet (fail)
                    go_wp2_with (first | (go_at_call 90; with_reducible refine (CP0.out _).mono ?_; rintro e wp0 ⟨rfl, hb0⟩) | (go_at_call 90; with_reducible refine (CP3.out _).mono ?_; rintro e wp3 ⟨rfl, hb3⟩) | (go_at_call 90; with_reducible refine (CP6.out _).mono ?_; rintro e wp6 ⟨rfl, hb6⟩))
                    go_ret2
                    exact ⟨ret_two (by omega) rfl, below_parts hb0 hb3 hb6⟩
theorem form_neg {p : List UInt8} (h : readE p = 0) (hv : readV p < 0) : p.head? = some 45 := by
  have hf : formB p = true := by
    cases hf : formB p with
    | true => rfl
    | false => rw [(read_no hf).2] at h; omega
  obtain ⟨o1, o2⟩ := fit_over hf
  cases hb : belowR p with
  | true => simpa [belowR] using hb
  | false =>
    exfalso
    rcases Nat.lt_or_ge (topR p) (valL (bodyR p) 0) with hh | hh
    · rw [(o1 hh).2] at h; omega
    · rw [(o2 hh).1] at hv
      unfold valI sgR at hv
      rw [hb] at hv
      simp at hv
      omega
/-- Any text. -/
theorem clock_Read (l : List UInt8) (w : World) (hl : l.length ≤ 200) : Calls Try.prog 47 #[.string (txt l)] w fun e w' => e = .returned (.tuple #[.int .i64 (clkRV l), .int .i64 (clkRE l)]) ∧ Below w.heap.size w w' := by
  rcases hc : cutD l with _ | ⟨p, q⟩
  · exact clock_read_none l w hl hc
  · by_cases hbad : badD p
    · exact clock_read_bad l p q w hl hc hbad
    · by_cases h0 : readE p = 0
      · rcases Int.lt_or_le 12725829 (readV p) with h | h
        · exact clock_read_big2 l p q w hl hc hbad h0 h
        · refine clock_read_norm l p q w hl hc hbad h0 ?_ h
          rcases Int.lt_trichotomy (readV p) 0 with hh | hh | hh
          · exact absurd (.inr (.inl (form_neg h0 hh))) hbad
          · exact absurd (.inr (.inr ⟨h0, hh⟩)) hbad
          · omega
      · exact clock_read_big1 l p q w hl hc hbad h0
end Go.Proofs.Ytnlieclfajebbaa

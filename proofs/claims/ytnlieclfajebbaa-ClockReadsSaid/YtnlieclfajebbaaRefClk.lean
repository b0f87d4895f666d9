
/-
  hoistwayref52.Read: the ticks of any text by the document. Condition: at most 200 bytes.
-/
import Derived.Test.YtnlieclfajebbaaClkRead
import Derived.Test.YtnlieclfajebbaaClockR
import Derived.Test.YtnlieclfajebbaaRead2
set_option linter.unusedVariables false
set_option linter.unusedSimpArgs false
namespace Go.Proofs.Ytnlieclfajebbaa
open Go.Joins Go.ChangeShapes Go.WideShapes Go.ChangeAt Go.RowKit Go.Deep

theorem nk_big (q : List UInt8) (k : Nat) (hk : k ≤ 8) : -3000000000 ≤ nk q k ∧ nk q k ≤ 3000000000 := by
  have h := nk_bd q k
  have hp : (10 : Int) ^ k ≤ 100000000 := by
    have h1 : 10 ^ k ≤ 10 ^ 8 := Nat.pow_le_pow_right (by omega) hk
    have h2 : ((10 ^ k : Nat) : Int) = 10 ^ k := by push_cast; rfl
    omega
  omega
theorem nk_skip (q : List UInt8) (k : Nat) (h : k % 3 = 2) : nk q (k + 1) = nk q k := by rw [nk, if_pos h]
theorem nk_take (q : List UInt8) (k : Nat) (h : k % 3 ≠ 2) (c : UInt8) (hc : q[k]? = some c) : nk q (k + 1) = 10 * nk q k + (c.toNat : Int) - 48 := by rw [nk, if_neg h, hc]; rfl
theorem readE_ways (p : List UInt8) : readE p = 20 ∨ readE p = 10 ∨ readE p = 0 := by
  unfold readE
  split
  · unfold fit2E; split <;> simp
  · simp
theorem neg_head {p : List UInt8} (h : p.head? = some 45) : readV p ≤ 0 := by
  have hb : belowR p = true := by simpa [belowR] using h
  unfold readV
  split
  · unfold fit2V
    split
    · unfold valI sgR; rw [if_pos hb]; omega
    · omega
  · omega
/-- The rest of a day that the document reckons: its words. -/
theorem rest_words (N : Int) (h : -3000000000 ≤ N ∧ N ≤ 3000000000) : ∃ T1 T2 T3 T4 : Int, Int.tdiv N 10000 = T1 ∧ Int.tdiv N 100 = T2 ∧ Int.tmod T2 100 = T3 ∧ Int.tmod N 100 = T4 ∧ restI N = T1 * 3600 + T3 * 60 + T4 ∧ -30000000000 ≤ T1 ∧ T1 ≤ 30000000000 ∧ -30000000000 ≤ T2 ∧ T2 ≤ 30000000000 ∧ -100 < T3 ∧ T3 < 100 ∧ -100 < T4 ∧ T4 < 100 := by
  have h1 := tdiv_abs N (b := 10000) (by omega) (by omega)
  have h2 := tdiv_abs N (b := 100) (by omega) (by omega)
  have h3 := tmod_abs (Int.tdiv N 100)
  have h4 := tmod_abs N
  exact ⟨_, _, _, _, rfl, rfl, rfl, rfl, rfl, h1.1, h1.2, h2.1, h2.2, h3.1, h3.2, h4.1, h4.2⟩
theorem rem3 (k : Nat) : IntKind.i64.wrap ((k : Int).tmod 3) = ((k % 3 : Nat) : Int) ∧ (k : Int).tmod 3 = ((k % 3 : Nat) : Int) := by
  have h : (k : Int).tmod 3 = ((k % 3 : Nat) : Int) := by rw [Int.tmod_eq_emod_of_nonneg (by omega)]; omega
  rw [h]
  exact ⟨IntWalk.i64_in _ (by omega), rfl⟩
/-- The ways of a day's form, as the document goes. -/
theorem ref_day_ways (q : List UInt8) :
    (¬ dayOK q ∧ ((q.length : Int) == 8) = false ∧ ((q.length : Int) != 8) = true) ∨
    (q.length = 8 ∧ (
      (¬ dayOK q ∧ decide (restI (nk q 8) < 0) = true) ∨
      (¬ dayOK q ∧ decide (restI (nk q 8) < 0) = false ∧ decide (86400 ≤ restI (nk q 8)) = true) ∨
      (0 ≤ restI (nk q 8) ∧ restI (nk q 8) < 86400 ∧ decide (restI (nk q 8) < 0) = false ∧ decide (86400 ≤ restI (nk q 8)) = false ∧ clkI (restI (nk q 8)) = hmsL (restI (nk q 8)).toNat ∧ (
        (¬ dayOK q ∧ hmsL (restI (nk q 8)).toNat ≠ q) ∨
        (dayOK q ∧ hmsL (restI (nk q 8)).toNat = q ∧ restI (nk q 8) = restD q))))) := by
  by_cases h8 : q.length = 8
  · refine .inr ⟨h8, ?_⟩
    have hi := day_iff h8
    rcases Int.lt_or_le (restI (nk q 8)) 0 with h | h
    · exact .inl ⟨fun hd => by have := (hi.1 hd).1; omega, decide_eq_true h⟩
    · rcases Int.lt_or_le (restI (nk q 8)) 86400 with h' | h'
      · have hc : clkI (restI (nk q 8)) = hmsL (restI (nk q 8)).toNat := by
          unfold clkI clkN
          rw [if_neg (by omega), if_neg (by omega)]
        refine .inr (.inr ⟨h, h', decide_eq_false (by omega), decide_eq_false (by omega), hc, ?_⟩)
        by_cases he : hmsL (restI (nk q 8)).toNat = q
        · have hd := hi.2 ⟨h, h', he⟩
          exact .inr ⟨hd, he, day_rest hd⟩
        · exact .inl ⟨fun hd => he (hi.1 hd).2.2, he⟩
      · exact .inr (.inl ⟨fun hd => by have := (hi.1 hd).2.1; omega, decide_eq_false (by omega), decide_eq_true h'⟩)
  · have e2 : ((q.length : Int) == 8) = false := by simp; omega
    exact .inl ⟨fun hd => h8 hd.1, e2, by simp only [bne, e2]; rfl⟩
theorem c100 (c : UInt8) : ((c.toNat : Int) == 100) = true ∨ ((c.toNat : Int) == 100) = false := by cases ((c.toNat : Int) == 100) <;> simp
set_option maxRecDepth 20000 in
set_option maxHeartbeats 4000000 in
theorem ref_clk_none (q : List UInt8) (w : World) (hl : q.length ≤ 200) (hc : cutD q = none) : Calls Try.prog 48 #[.string (txt q)] w fun e w' => e = .returned (.tuple #[.int .i64 (clkRV q), .int .i64 (clkRE q)]) ∧ Below w.heap.size w w' := by
  have hV : clkRV q = tailV 0 q := by unfold clkRV; rw [hc]
  have hE : clkRE q = tailE 0 q := by unfold clkRE; rw [hc]
  rw [hV, hE]
  have hch : ∀ (k : Nat) (c : UInt8), q[k]? = some c → ((c.toNat : Int) == 100) = false ∧ ((c.toNat : Int) != 100) = true := by
    intro k c hk
    have h2 := u8_ne (n := 100) (cutD_none hc c (List.mem_of_getElem? hk)) (by omega)
    have e2 : ((c.toNat : Int) == 100) = false := by simp; omega
    exact ⟨e2, by simp only [bne, e2]; rfl⟩
  have hfrom := from_txt q 0 0 rfl (by omega)
  rw [List.drop_zero] at hfrom
  have hix := 0
  have hsq : (txt q).size = q.length := txt_size q
  have hixq : ∀ (k : Nat) (c : UInt8), q[k]? = some c → ∀ w, (Instr.index 9 (.string (txt q)) (.int .i64 (k : Int))).run Try.prog w = .ok (.int .u8 (c.toNat : Int)) w := fun k c h w => ix_txt q k k c rfl h .i64 w
  have cT := fun w (h1 : 0 ≤ restI (nk q 8)) (h2 : restI (nk q 8) < 86400) => ref52_Text (restI (nk q 8)) w ⟨by omega, by omega⟩
  have hways := ref_day_ways q
  have hneq : hmsL (restI (nk q 8)).toNat ≠ q → ((txt (hmsL (restI (nk q 8)).toNat)).toList == (txt q).toList) = false := fun h => by rw [eq_txt]; simpa using h
  have hyeq : hmsL (restI (nk q 8)).toNat = q → ((txt (hmsL (restI (nk q 8)).toNat)).toList == (txt q).toList) = true := fun h => by rw [eq_txt]; simpa using h
  have hnb := nk_big q 8 (by omega)
  have hrb := fun h => rest_bd (q := q) h
  have nok : ¬ dayOK q → tailV 0 q = 0 ∧ tailE 0 q = 20 := fun h => by unfold tailV tailE; rw [if_neg h, if_neg h]; exact ⟨rfl, rfl⟩
  have yok : dayOK q → tailV 0 q = restD q ∧ tailE 0 q = 0 := fun h => by
    have := hrb h
    unfold tailV tailE
    rw [if_pos h, if_pos h, if_neg (by omega), if_neg (by omega), if_neg (by omega), if_neg (by omega)]
    exact ⟨by omega, rfl⟩
  generalize tailV 0 q = rv at *
  generalize tailE 0 q = re at *
  generalize txt q = s at *
  have NOK := Lib.hid nok
  have YOK := Lib.hid yok
  have CT := Lib.hid cT
  have CH := Lib.hid hch
  have NEQ := Lib.hid hneq
  have YEQ := Lib.hid hyeq
  have NB := Lib.hid hnb
  have IXQ := Lib.hid hixq
  clear hV hE hc hch hix cT nok yok hneq hyeq hnb hixq hrb
  rcases hways with ⟨hno, n1, n2⟩ | ⟨h8, hways⟩
  · go_enter Try.func48, Try.ntmps48
    go_wp2
    go_loop [5, 4] (fun i u => ∃ k : Nat, k ≤ q.length ∧ i = .int .i64 k ∧ u = .int .i64 (-1)) (fun i _ => q.length - (intOf i).toNat)
    case atStart => exact ⟨0, by omega, rfl, rfl⟩
    case round =>
      obtain ⟨k, hk, rfl, rfl⟩ := hrel
      by_cases hlt : k < q.length
      · obtain ⟨c, hc⟩ : ∃ c, q[k]? = some c := ⟨_, List.getElem?_eq_getElem hlt⟩
        have hixk := IXQ.out k c hc
        obtain ⟨c1, c2⟩ := CH.out k c hc
        have hcb := u8_lt c
        clear hc
        go_wp2
        go_round
        case rel => exact ⟨k + 1, by omega, by go_num, rfl⟩
        case measure => simp [intOf]; omega
      · obtain rfl : k = q.length := by omega
        clear CH
        obtain ⟨r1, r2⟩ := NOK.out hno
        subst r1 r2
        go_wp2
        go_ret2
        exact ⟨rfl, Below.refl _ _⟩
  · have HW := Lib.hid hways
    have hs8 : s.size = 8 := by omega
    clear hways
    go_enter Try.func48, Try.ntmps48
    go_wp2
    go_loop [5, 4] (fun i u => ∃ k : Nat, k ≤ q.length ∧ i = .int .i64 k ∧ u = .int .i64 (-1)) (fun i _ => q.length - (intOf i).toNat)
    case atStart => exact ⟨0, by omega, rfl, rfl⟩
    case round =>
      obtain ⟨k, hk, rfl, rfl⟩ := hrel
      by_cases hlt : k < q.length
      · obtain ⟨c, hc⟩ : ∃ c, q[k]? = some c := ⟨_, List.getElem?_eq_getElem hlt⟩
        have hixk := IXQ.out k c hc
        obtain ⟨c1, c2⟩ := CH.out k c hc
        have hcb := u8_lt c
        clear hc
        go_wp2
        go_round
        case rel => exact ⟨k + 1, by omega, by go_num, rfl⟩
        case measure => simp [intOf]; omega
      · obtain rfl : k = q.length := by omega
        clear CH
        have n1 : ((q.length : Int) == 8) = true := by simp; omega
        go_wp2
        go_loop [8, 7] (fun i u => ∃ k : Nat, k ≤ 8 ∧ i = .int .i64 k ∧ u = .int .i64 (nk q k)) (fun i _ => 8 - (intOf i).toNat)
        case atStart => exact ⟨0, by omega, rfl, rfl⟩
        case round =>
          obtain ⟨k, hk, rfl, rfl⟩ := hrel
          by_cases hlt : k < 8
          · obtain ⟨c, hc⟩ : ∃ c, q[k]? = some c := ⟨_, List.getElem?_eq_getElem (by omega)⟩
            have hixq := IXQ.out k c hc
            have hcb := u8_lt c
            obtain ⟨r1, r2⟩ := rem3 k
            obtain ⟨b1, b2⟩ := nk_big q k hk
            have qk : decide ((k : Int) < 8) = true := decide_eq_true (by omega)
            by_cases hm : k % 3 = 2
            · have e1 := nk_skip q k hm
              have q3 : (((k % 3 : Nat) : Int) == 2) = true := by rw [hm]; rfl
              have E1 := Lib.hid e1
              clear e1 hc hm
              generalize hnk : nk q k = V at *
              generalize ((k % 3 : Nat) : Int) = r3 at *
              go_wp2
              go_round
              case rel => exact ⟨k + 1, by omega, by go_num, by rw [E1.out]⟩
              case measure => simp [intOf]; omega
            · have e1 := nk_take q k hm c hc
              have q3 : (((k % 3 : Nat) : Int) == 2) = false := by simp; omega
              have E1 := Lib.hid e1
              clear e1 hc hm
              generalize hnk : nk q k = V at *
              generalize ((k % 3 : Nat) : Int) = r3 at *
              have w1 : IntKind.i64.wrap (10 * V) = 10 * V := IntWalk.i64_in _ (by omega)
              have w2 : IntKind.i64.wrap (10 * V + (c.toNat : Int)) = 10 * V + (c.toNat : Int) := IntWalk.i64_in _ (by omega)
              have w3 : IntKind.i64.wrap (10 * V + (c.toNat : Int) - 48) = 10 * V + (c.toNat : Int) - 48 := IntWalk.i64_in _ (by omega)
              go_wp2
              go_round
              case rel => exact ⟨k + 1, by omega, by go_num, by rw [E1.out]⟩
              case measure => simp [intOf]; omega
          · obtain rfl : k = 8 := by omega
            clear IXQ
            generalize nk q 8 = N at *
            obtain ⟨T1, T2, T3, T4, e1, e2, e3, e4, e5, b⟩ := rest_words N (NB.out)
            have w1 : wrap64 T1 = T1 := IntWalk.wrap64_in _ (by omega)
            have w2 : wrap64 (T1 * 3600) = T1 * 3600 := IntWalk.wrap64_in _ (by omega)
            have w3 : wrap64 T2 = T2 := IntWalk.wrap64_in _ (by omega)
            have w5 : wrap64 (T3 * 60) = T3 * 60 := IntWalk.wrap64_in _ (by omega)
            have w6 : wrap64 (T1 * 3600 + T3 * 60) = T1 * 3600 + T3 * 60 := IntWalk.wrap64_in _ (by omega)
            have w8 : wrap64 (T1 * 3600 + T3 * 60 + T4) = restI N := by rw [e5]; exact IntWalk.wrap64_in _ (by omega)
            have q8 : decide ((8 : Int) < 8) = false := rfl
            have HB := Lib.hid b
            clear e5 b NB
            generalize restI N = R at *
            rcases HW.out with ⟨hno, d1⟩ | ⟨hno, d1, d2⟩ | ⟨r0, r9, d1, d2, hcl, hways⟩
            · obtain ⟨z1, z2⟩ := NOK.out hno
              subst z1 z2
              clear HW CT
              go_wp2
              go_ret2
              exact ⟨rfl, Below.refl _ _⟩
            · obtain ⟨z1, z2⟩ := NOK.out hno
              subst z1 z2
              clear HW CT
              go_wp2
              go_ret2
              exact ⟨rfl, Below.refl _ _⟩
            · have cT := fun w => CT.out w r0 r9
              rw [hcl] at cT
              clear CT
              rcases hways with ⟨hno, hne⟩ | ⟨hok, heq, hrr⟩
              · obtain ⟨z1, z2⟩ := NOK.out hno
                subst z1 z2
                have q7 : ((txt (hmsL R.toNat)).toList == s.toList) = false := NEQ.out hne
                have CT := Lib.hid cT
                clear HW cT hcl hne
                generalize txt (hmsL R.toNat) = st at *
                go_wp2_with (first | (go_at_call 16; refine (CT.out _).mono ?_; rintro e wt ⟨rfl, hbt⟩))
                go_ret2
                exact ⟨rfl, hbt⟩
              · have q7 : ((txt (hmsL R.toNat)).toList == s.toList) = true := YEQ.out heq
                have CT := Lib.hid cT
                have hy := YOK.out hok
                rw [← hrr] at hy
                clear HW cT hcl heq hrr YOK NOK YEQ NEQ
                generalize txt (hmsL R.toNat) = st at *
                obtain ⟨z1, z2⟩ := hy
                subst z1 z2
                go_wp2_with (first | (go_at_call 16; refine (CT.out _).mono ?_; rintro e wt ⟨rfl, hbt⟩))
                go_ret2
                exact ⟨rfl, hbt⟩
end Go.Proofs.Ytnlieclfajebbaa

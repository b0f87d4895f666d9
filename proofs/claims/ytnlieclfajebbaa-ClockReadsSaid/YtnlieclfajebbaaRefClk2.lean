
/-
  hoistwayref52.Read at a text with days, and at any text. Condition: at most 200 bytes.
-/
import Derived.Test.YtnlieclfajebbaaRefClk
set_option linter.unusedVariables false
set_option linter.unusedSimpArgs false
namespace Go.Proofs.Ytnlieclfajebbaa
open Go.Joins Go.ChangeShapes Go.WideShapes Go.ChangeAt Go.RowKit Go.Deep

set_option maxRecDepth 20000 in
set_option maxHeartbeats 8000000 in
theorem ref_clk_some (l p q : List UInt8) (w : World) (hl : l.length ≤ 200) (hc : cutD l = some (p, q)) : Calls Try.prog 48 #[.string (txt l)] w fun e w' => e = .returned (.tuple #[.int .i64 (clkRV l), .int .i64 (clkRE l)]) ∧ Below w.heap.size w w' := by
  have hV : clkRV l = if badD p then 0 else tailV (dayN p) q := by unfold clkRV; rw [hc]
  have hE : clkRE l = if badD p then 20 else tailE (dayN p) q := by unfold clkRE; rw [hc]
  obtain ⟨hl2, hp⟩ := cutD_some hc
  obtain ⟨hch, hc0⟩ := cut_chars hl2 hp
  have hlen : l.length = p.length + 1 + q.length := by rw [hl2]; simp; omega
  have hix : ∀ (k : Nat) (c : UInt8), l[k]? = some c → ∀ w, (Instr.index 9 (.string (txt l)) (.int .i64 (k : Int))).run Try.prog w = .ok (.int .u8 (c.toNat : Int)) w := fun k c h w => ix_txt l k k c rfl h .i64 w
  have hix0 := hix p.length 100 hc0
  have hfirst : ∀ x, l[0]? = some x → ∀ w, (Instr.index 9 (.string (txt l)) (.int .i64 0)).run Try.prog w = .ok (.int .u8 (x.toNat : Int)) w := fun x h w => ix_txt l 0 0 x rfl h .i64 w
  have hupto := upto_txt l (p.length : Int) p.length rfl (by omega)
  have htk : l.take p.length = p := by rw [hl2]; simp
  have hdr : l.drop (p.length + 1) = q := by rw [hl2]; simp
  have hfrom := from_txt l ((p.length : Int) + 1) (p.length + 1) (by omega) (by omega)
  rw [htk] at hupto
  rw [hdr] at hfrom
  have hsl : (txt l).size = l.length := txt_size l
  have cR := fun w => ref02_Read p w (by omega)
  have hz : p.head? = some 45 → ∀ w, (Instr.index 9 (.string (txt l)) (.int .i64 0)).run Try.prog w = .ok (.int .u8 45) w := by
    intro h
    refine hfirst 45 ?_
    rw [hl2]
    cases p with
    | nil => cases h
    | cons a m => exact h
  have hz2 : readE p ≠ 20 → p.head? ≠ some 45 → ∃ x : UInt8, ((x.toNat : Int) == 45) = false ∧ ∀ w, (Instr.index 9 (.string (txt l)) (.int .i64 0)).run Try.prog w = .ok (.int .u8 (x.toNat : Int)) w := by
    intro h1 h2
    cases p with
    | nil => exact absurd rfl h1
    | cons a m =>
      refine ⟨a, ?_, hfirst a (by rw [hl2]; rfl)⟩
      have := u8_ne (n := 45) (c := a) (by intro e; apply h2; rw [e]; rfl) (by omega)
      simp; omega
  have hsq : (txt q).size = q.length := txt_size q
  have hixq : ∀ (k : Nat) (c : UInt8), q[k]? = some c → ∀ w, (Instr.index 9 (.string (txt q)) (.int .i64 (k : Int))).run Try.prog w = .ok (.int .u8 (c.toNat : Int)) w := fun k c h w => ix_txt q k k c rfl h .i64 w
  have cT := fun w (h1 : 0 ≤ restI (nk q 8)) (h2 : restI (nk q 8) < 86400) => ref52_Text (restI (nk q 8)) w ⟨by omega, by omega⟩
  have hways := ref_day_ways q
  have hneq : hmsL (restI (nk q 8)).toNat ≠ q → ((txt (hmsL (restI (nk q 8)).toNat)).toList == (txt q).toList) = false := fun h => by rw [eq_txt]; simpa using h
  have hyeq : hmsL (restI (nk q 8)).toNat = q → ((txt (hmsL (restI (nk q 8)).toNat)).toList == (txt q).toList) = true := fun h => by rw [eq_txt]; simpa using h
  have hnb := nk_big q 8 (by omega)
  have hrb := fun h => rest_bd (q := q) h
  have nok : ¬ dayOK q → clkRV l = 0 ∧ clkRE l = 20 := fun h => by
    rw [hV, hE]
    unfold tailV tailE
    rw [if_neg h, if_neg h]
    by_cases hb : badD p
    · rw [if_pos hb, if_pos hb]; exact ⟨rfl, rfl⟩
    · rw [if_neg hb, if_neg hb]; exact ⟨rfl, rfl⟩
  have yok : dayOK q → (clkRV l = if badD p then 0 else if dayN p = 1099511627776 then 0 else if 1099511627776 < dayN p * 86400 + restD q then 0 else dayN p * 86400 + restD q) ∧ (clkRE l = if badD p then 20 else if dayN p = 1099511627776 then 10 else if 1099511627776 < dayN p * 86400 + restD q then 10 else 0) := fun h => by
    rw [hV, hE]
    unfold tailV tailE
    rw [if_pos h, if_pos h]
    exact ⟨rfl, rfl⟩
  have hew := readE_ways p
  have hfn := fun h1 h2 => form_neg (p := p) h1 h2
  have hnh := fun h => neg_head (p := p) h
  clear hV hE
  generalize clkRV l = rv at *
  generalize clkRE l = re at *
  generalize txt q = s at *
  generalize txt l = sl at *
  generalize txt p = sp at *
  have NOK := Lib.hid nok
  have YOK := Lib.hid yok
  have CT := Lib.hid cT
  have IX := Lib.hid hix
  have CH := Lib.hid hch
  have NEQ := Lib.hid hneq
  have YEQ := Lib.hid hyeq
  have NB := Lib.hid hnb
  have IXQ := Lib.hid hixq
  have CR := Lib.hid cR
  have HZ := Lib.hid hz
  have HZ2 := Lib.hid hz2
  have HEW := Lib.hid hew
  have HFN := Lib.hid hfn
  have HNH := Lib.hid hnh
  clear hc hch hix cT nok yok hneq hyeq hnb hixq hrb cR hz hz2 hl2 hp hfirst htk hdr hc0 hew hfn hnh
  rcases hways with ⟨hno, n1, n2⟩ | ⟨h8, hways⟩
  · go_enter Try.func48, Try.ntmps48
    go_wp2
    go_loop [5, 4] (fun i u => ∃ k : Nat, k ≤ l.length ∧ i = .int .i64 k ∧ u = .int .i64 (if k ≤ p.length then -1 else (p.length : Int))) (fun i _ => l.length - (intOf i).toNat)
    case atStart => exact ⟨0, by omega, rfl, by rw [if_pos (by omega)]⟩
    case round =>
      obtain ⟨k, hk, rfl, rfl⟩ := hrel
      rcases Nat.lt_trichotomy k p.length with hlt | rfl | hgt
      · obtain ⟨c, hc⟩ : ∃ c, l[k]? = some c := ⟨_, List.getElem?_eq_getElem (by omega)⟩
        have hixk := IX.out k c hc
        obtain ⟨c1, c2⟩ := CH.out k c hlt hc
        have hcb := u8_lt c
        have qk : decide ((k : Int) < (l.length : Int)) = true := decide_eq_true (by omega)
        clear hc hix0
        rw [if_pos (by omega)]
        go_wp2
        go_round
        case rel => exact ⟨k + 1, by omega, by go_num, by rw [if_pos (by omega)]⟩
        case measure => simp [intOf]; omega
      · rw [if_pos (by omega)]
        have qk : decide ((p.length : Int) < (l.length : Int)) = true := decide_eq_true (by omega)
        go_wp2
        go_round
        case rel => exact ⟨p.length + 1, by omega, by go_num, by rw [if_neg (by omega)]⟩
        case measure => simp [intOf]; omega
      · rw [if_neg (by omega)]
        by_cases hlt : k < l.length
        · obtain ⟨c, hc⟩ : ∃ c, l[k]? = some c := ⟨_, List.getElem?_eq_getElem (by omega)⟩
          have hixk := IX.out k c hc
          have hcb := u8_lt c
          have qk : decide ((k : Int) < (l.length : Int)) = true := decide_eq_true (by omega)
          have qp : decide ((p.length : Int) < 0) = false := decide_eq_false (by omega)
          clear hc hix0
          rcases c100 c with c1 | c1
          · go_wp2
            go_round
            case rel => exact ⟨k + 1, by omega, by go_num, by rw [if_neg (by omega)]⟩
            case measure => simp [intOf]; omega
          · go_wp2
            go_round
            case rel => exact ⟨k + 1, by omega, by go_num, by rw [if_neg (by omega)]⟩
            case measure => simp [intOf]; omega
        · obtain rfl : k = l.length := by omega
          clear CH IX hix0
          obtain ⟨r1, r2⟩ := NOK.out hno
          subst r1 r2
          go_wp2
          go_ret2
          exact ⟨rfl, Below.refl _ _⟩
  · have HW := Lib.hid hways
    have hs8 : s.size = 8 := by omega
    clear hways
    go_enter Try.func48, Try.ntmps48
    go_wp2
    go_loop [5, 4] (fun i u => ∃ k : Nat, k ≤ l.length ∧ i = .int .i64 k ∧ u = .int .i64 (if k ≤ p.length then -1 else (p.length : Int))) (fun i _ => l.length - (intOf i).toNat)
    case atStart => exact ⟨0, by omega, rfl, by rw [if_pos (by omega)]⟩
    case round =>
      obtain ⟨k, hk, rfl, rfl⟩ := hrel
      rcases Nat.lt_trichotomy k p.length with hlt | rfl | hgt
      · obtain ⟨c, hc⟩ : ∃ c, l[k]? = some c := ⟨_, List.getElem?_eq_getElem (by omega)⟩
        have hixk := IX.out k c hc
        obtain ⟨c1, c2⟩ := CH.out k c hlt hc
        have hcb := u8_lt c
        have qk : decide ((k : Int) < (l.length : Int)) = true := decide_eq_true (by omega)
        clear hc hix0
        rw [if_pos (by omega)]
        go_wp2
        go_round
        case rel => exact ⟨k + 1, by omega, by go_num, by rw [if_pos (by omega)]⟩
        case measure => simp [intOf]; omega
      · rw [if_pos (by omega)]
        have qk : decide ((p.length : Int) < (l.length : Int)) = true := decide_eq_true (by omega)
        go_wp2
        go_round
        case rel => exact ⟨p.length + 1, by omega, by go_num, by rw [if_neg (by omega)]⟩
        case measure => simp [intOf]; omega
      · rw [if_neg (by omega)]
        by_cases hlt : k < l.length
        · obtain ⟨c, hc⟩ : ∃ c, l[k]? = some c := ⟨_, List.getElem?_eq_getElem (by omega)⟩
          have hixk := IX.out k c hc
          have hcb := u8_lt c
          have qk : decide ((k : Int) < (l.length : Int)) = true := decide_eq_true (by omega)
          have qp : decide ((p.length : Int) < 0) = false := decide_eq_false (by omega)
          clear hc hix0
          rcases c100 c with c1 | c1
          · go_wp2
            go_round
            case rel => exact ⟨k + 1, by omega, by go_num, by rw [if_neg (by omega)]⟩
            case measure => simp [intOf]; omega
          · go_wp2
            go_round
            case rel => exact ⟨k + 1, by omega, by go_num, by rw [if_neg (by omega)]⟩
            case measure => simp [intOf]; omega
        · obtain rfl : k = l.length := by omega
          clear CH IX hix0
          have n1 : ((q.length : Int) == 8) = true := by simp; omega
          go_wp2
          go_loop [8, 7] (fun i u => ∃ k : Nat, k ≤ 8 ∧ i = .int .i64 k ∧ u = .int .i64 (nk q k)) (fun i _ => 8 - (intOf i).toNat)
          case atStart => exact ⟨0, by omega, rfl, rfl⟩
          case round =>
            obtain ⟨k, hk, rfl, rfl⟩ := hrel
            by_cases hlt : k < 8
            · obtain ⟨c, hc⟩ : ∃ c, q[k]? = some c := ⟨_, List.getElem?_eq_getElem (by omega)⟩
              have hixq := IXQ.out k c hc
              have hcb := u8_lt c
              obtain ⟨r1, r2⟩ := rem3 k
              obtain ⟨b1, b2⟩ := nk_big q k hk
              have qk : decide ((k : Int) < 8) = true := decide_eq_true (by omega)
              by_cases hm : k % 3 = 2
              · have e1 := nk_skip q k hm
                have q3 : (((k % 3 : Nat) : Int) == 2) = true := by rw [hm]; rfl
                have E1 := Lib.hid e1
                clear e1 hc hm
                generalize hnk : nk q k = V at *
                generalize ((k % 3 : Nat) : Int) = r3 at *
                go_wp2
                go_round
                case rel => exact ⟨k + 1, by omega, by go_num, by rw [E1.out]⟩
                case measure => simp [intOf]; omega
              · have e1 := nk_take q k hm c hc
                have q3 : (((k % 3 : Nat) : Int) == 2) = false := by simp; omega
                have E1 := Lib.hid e1
                clear e1 hc hm
                generalize hnk : nk q k = V at *
                generalize ((k % 3 : Nat) : Int) = r3 at *
                have w1 : IntKind.i64.wrap (10 * V) = 10 * V := IntWalk.i64_in _ (by omega)
                have w2 : IntKind.i64.wrap (10 * V + (c.toNat : Int)) = 10 * V + (c.toNat : Int) := IntWalk.i64_in _ (by omega)
                have w3 : IntKind.i64.wrap (10 * V + (c.toNat : Int) - 48) = 10 * V + (c.toNat : Int) - 48 := IntWalk.i64_in _ (by omega)
                go_wp2
                go_round
                case rel => exact ⟨k + 1, by omega, by go_num, by rw [E1.out]⟩
                case measure => simp [intOf]; omega
            · obtain rfl : k = 8 := by omega
              clear IXQ
              generalize nk q 8 = N at *
              obtain ⟨T1, T2, T3, T4, e1, e2, e3, e4, e5, b⟩ := rest_words N (NB.out)
              have w1 : wrap64 T1 = T1 := IntWalk.wrap64_in _ (by omega)
              have w2 : wrap64 (T1 * 3600) = T1 * 3600 := IntWalk.wrap64_in _ (by omega)
              have w3 : wrap64 T2 = T2 := IntWalk.wrap64_in _ (by omega)
              have w5 : wrap64 (T3 * 60) = T3 * 60 := IntWalk.wrap64_in _ (by omega)
              have w6 : wrap64 (T1 * 3600 + T3 * 60) = T1 * 3600 + T3 * 60 := IntWalk.wrap64_in _ (by omega)
              have w8 : wrap64 (T1 * 3600 + T3 * 60 + T4) = restI N := by rw [e5]; exact IntWalk.wrap64_in _ (by omega)
              have q8 : decide ((8 : Int) < 8) = false := rfl
              have HB := Lib.hid b
              clear e5 b NB
              generalize restI N = R at *
              rcases HW.out with ⟨hno, d1⟩ | ⟨hno, d1, d2⟩ | ⟨r0, r9, d1, d2, hcl, hways⟩
              · obtain ⟨z1, z2⟩ := NOK.out hno
                subst z1 z2
                clear HW CT
                go_wp2
                go_ret2
                exact ⟨rfl, Below.refl _ _⟩
              · obtain ⟨z1, z2⟩ := NOK.out hno
                subst z1 z2
                clear HW CT
                go_wp2
                go_ret2
                exact ⟨rfl, Below.refl _ _⟩
              · have cT := fun w => CT.out w r0 r9
                rw [hcl] at cT
                clear CT
                rcases hways with ⟨hno, hne⟩ | ⟨hok, heq, hrr⟩
                · obtain ⟨z1, z2⟩ := NOK.out hno
                  subst z1 z2
                  have q7 : ((txt (hmsL R.toNat)).toList == s.toList) = false := NEQ.out hne
                  have CT := Lib.hid cT
                  clear HW cT hcl hne
                  generalize txt (hmsL R.toNat) = st at *
                  go_wp2_with (first | (go_at_call 16; refine (CT.out _).mono ?_; rintro e wt ⟨rfl, hbt⟩))
                  go_ret2
                  exact ⟨rfl, hbt⟩
                · have q7 : ((txt (hmsL R.toNat)).toList == s.toList) = true := YEQ.out heq
                  have CT := Lib.hid cT
                  have hy := YOK.out hok
                  rw [← hrr] at hy
                  clear HW cT hcl heq hrr YOK NOK YEQ NEQ
                  generalize txt (hmsL R.toNat) = st at *
                  have he := HEW.out
                  have hnh := HNH.out
                  have hfn := HFN.out
                  have hz := HZ.out
                  have hz2 := HZ2.out
                  clear HEW HNH HFN HZ HZ2
                  obtain ⟨y1, y2⟩ := hy
                  have qp : decide ((p.length : Int) < 0) = false := decide_eq_false (by omega)
                  by_cases h45 : p.head? = some 45
                  · have hb : badD p := .inr (.inl h45)
                    rw [if_pos hb] at y1 y2
                    subst y1 y2
                    have hz := hz h45
                    have hv := hnh h45
                    clear hz2 hnh hfn hb
                    generalize readV p = V at *
                    generalize readE p = E at *
                    rcases he with rfl | rfl | rfl
                    · go_wp2_with (first | (go_at_call 16; refine (CT.out _).mono ?_; rintro e wt ⟨rfl, hbt⟩) | (go_at_call 29; refine (CR.out _).mono ?_; rintro e w' ⟨rfl, rfl⟩))
                      go_ret2
                      exact ⟨rfl, hbt⟩
                    · go_wp2_with (first | (go_at_call 16; refine (CT.out _).mono ?_; rintro e wt ⟨rfl, hbt⟩) | (go_at_call 29; refine (CR.out _).mono ?_; rintro e w' ⟨rfl, rfl⟩))
                      go_ret2
                      exact ⟨rfl, hbt⟩
                    · have q1 : decide (V < 1) = true := decide_eq_true (by omega)
                      go_wp2_with (first | (go_at_call 16; refine (CT.out _).mono ?_; rintro e wt ⟨rfl, hbt⟩) | (go_at_call 29; refine (CR.out _).mono ?_; rintro e w' ⟨rfl, rfl⟩))
                      go_ret2
                      exact ⟨rfl, hbt⟩
                  · rcases he with he | he | he
                    · have hb : badD p := .inl he
                      rw [if_pos hb] at y1 y2
                      subst y1 y2
                      rw [he] at CR
                      clear hz hz2 hnh hfn hb
                      generalize readV p = V at *
                      go_wp2_with (first | (go_at_call 16; refine (CT.out _).mono ?_; rintro e wt ⟨rfl, hbt⟩) | (go_at_call 29; refine (CR.out _).mono ?_; rintro e w' ⟨rfl, rfl⟩))
                      go_ret2
                      exact ⟨rfl, hbt⟩
                    · have hb : ¬ badD p := by
                        rintro (h | h | h)
                        · omega
                        · exact h45 h
                        · omega
                      have hd : dayN p = 1099511627776 := by unfold dayN; rw [if_pos (.inl (by omega))]
                      rw [if_neg hb, hd, if_pos rfl] at y1 y2
                      subst y1 y2
                      obtain ⟨x, x1, x2⟩ := hz2 (by omega) h45
                      rw [he] at CR
                      clear hz hz2 hnh hfn hb hd
                      generalize readV p = V at *
                      go_wp2_with (first | (go_at_call 16; refine (CT.out _).mono ?_; rintro e wt ⟨rfl, hbt⟩) | (go_at_call 29; refine (CR.out _).mono ?_; rintro e w' ⟨rfl, rfl⟩))
                      go_ret2
                      exact ⟨rfl, hbt⟩
                    · obtain ⟨x, x1, x2⟩ := hz2 (by omega) h45
                      rcases Int.lt_or_le (readV p) 1 with hv | hv
                      · have hb : badD p := by
                          rcases Int.lt_or_le (readV p) 0 with h | h
                          · exact .inr (.inl (hfn he h))
                          · exact .inr (.inr ⟨he, by omega⟩)
                        rw [if_pos hb] at y1 y2
                        subst y1 y2
                        rw [he] at CR
                        have q1 : decide (readV p < 1) = true := decide_eq_true (by omega)
                        clear hz hz2 hnh hfn hb
                        generalize readV p = V at *
                        go_wp2_with (first | (go_at_call 16; refine (CT.out _).mono ?_; rintro e wt ⟨rfl, hbt⟩) | (go_at_call 29; refine (CR.out _).mono ?_; rintro e w' ⟨rfl, rfl⟩))
                        go_ret2
                        exact ⟨rfl, hbt⟩
                      · have hb : ¬ badD p := by
                          rintro (h | h | h)
                          · omega
                          · exact h45 h
                          · omega
                        have q1 : decide (readV p < 1) = false := decide_eq_false (by omega)
                        rw [if_neg hb] at y1 y2
                        rw [he] at CR
                        rcases Int.lt_or_le 12725829 (readV p) with hv2 | hv2
                        · have hd : dayN p = 1099511627776 := by unfold dayN; rw [if_pos (.inr hv2)]
                          rw [hd, if_pos rfl] at y1 y2
                          subst y1 y2
                          have q2 : decide (12725829 < readV p) = true := decide_eq_true hv2
                          clear hz hz2 hnh hfn hb hd
                          generalize readV p = V at *
                          go_wp2_with (first | (go_at_call 16; refine (CT.out _).mono ?_; rintro e wt ⟨rfl, hbt⟩) | (go_at_call 29; refine (CR.out _).mono ?_; rintro e w' ⟨rfl, rfl⟩))
                          go_ret2
                          exact ⟨rfl, hbt⟩
                        · have hd : dayN p = readV p := by unfold dayN; rw [if_neg (by omega)]
                          have q2 : decide (12725829 < readV p) = false := decide_eq_false (by omega)
                          have hne : ¬ readV p = 1099511627776 := by omega
                          rw [hd, if_neg hne] at y1 y2
                          clear hz hz2 hnh hfn hb hd he hne
                          generalize readV p = V at *
                          have v1 : IntKind.i64.wrap (V * 86400) = V * 86400 := IntWalk.i64_in _ (by omega)
                          have v2 : IntKind.i64.wrap (V * 86400 + R) = V * 86400 + R := IntWalk.i64_in _ (by omega)
                          rcases Int.lt_or_le 1099511627776 (V * 86400 + R) with hs | hs
                          · rw [if_pos hs] at y1 y2
                            subst y1 y2
                            have q3 : decide (1099511627776 < V * 86400 + R) = true := decide_eq_true hs
                            go_wp2_with (first | (go_at_call 16; refine (CT.out _).mono ?_; rintro e wt ⟨rfl, hbt⟩) | (go_at_call 29; refine (CR.out _).mono ?_; rintro e w' ⟨rfl, rfl⟩))
                            go_ret2
                            exact ⟨rfl, hbt⟩
                          · have hs2 : ¬ 1099511627776 < V * 86400 + R := by omega
                            rw [if_neg hs2] at y1 y2
                            subst y1 y2
                            have q3 : decide (1099511627776 < V * 86400 + R) = false := decide_eq_false hs2
                            go_wp2_with (first | (go_at_call 16; refine (CT.out _).mono ?_; rintro e wt ⟨rfl, hbt⟩) | (go_at_call 29; refine (CR.out _).mono ?_; rintro e w' ⟨rfl, rfl⟩))
                            go_ret2
                            exact ⟨rfl, hbt⟩
/-- Any text. -/
theorem ref52_Read (l : List UInt8) (w : World) (hl : l.length ≤ 200) : Calls Try.prog 48 #[.string (txt l)] w fun e w' => e = .returned (.tuple #[.int .i64 (clkRV l), .int .i64 (clkRE l)]) ∧ Below w.heap.size w w' := by
  rcases hc : cutD l with _ | ⟨p, q⟩
  · exact ref_clk_none l w hl hc
  · exact ref_clk_some l p q w hl hc
end Go.Proofs.Ytnlieclfajebbaa


/-
  BarsTexts walked: any names and numbers as bars, or why not. Conditions: none beyond the arguments' kinds.
-/
import Derived.Test.YtnlieclfajebbaaBarsR
import Derived.Test.YtnlieclfajebbaaArgI
set_option linter.unusedVariables false
set_option linter.unusedSimpArgs false
namespace Go.Proofs.Ytnlieclfajebbaa
open Go.Joins Go.ChangeShapes Go.WideShapes Go.ChangeAt Go.RowKit Go.Deep

theorem nm_le {nm : List (List UInt8)} (h : ∀ i, i < nm.length → (nm0 nm i).length ≤ 60) (i : Nat) : (nm0 nm i).length ≤ 60 := by
  by_cases hi : i < nm.length
  · exact h i hi
  · simp [nm0, List.getD, List.getElem?_eq_none (Nat.le_of_not_lt hi)]
set_option maxRecDepth 20000 in
set_option maxHeartbeats 4000000 in
theorem bars_1 (A : Option Addr) (C : Nat) (nm : List (List UInt8)) (B : Option Addr) (D : Nat) (xs : List Int) (long : Int) (w : World) (hn : Strs w A nm) (hx : Ints w B xs)
    (hnl : nm.length < 9223372036854775808) (hxl : xs.length < 9223372036854775808) (hz : ∀ i, (nm0 nm i).length < 9223372036854775808) (hbd : ∀ i, I64 (at0 xs i)) (hlong : I64 long) :
    Calls Try.prog 14 #[.slice A nm.length C, .slice B xs.length D, .int .i64 long] w fun e w' => e = .returned (.bool true) ∧ Below w.heap.size w w' := by
  rcases Nat.lt_or_ge 30 nm.length with h1 | h1
  · have q1 : decide ((30 : Int) < (nm.length : Int)) = true := decide_eq_true (by omega)
    clear hz
    go_enter Try.func14, Try.ntmps14
    go_wp2
    go_ret
    exact ⟨rfl, Below.refl _ _⟩
  · have q1 : decide ((30 : Int) < (nm.length : Int)) = false := decide_eq_false (by omega)
    rcases Nat.lt_or_ge 40 xs.length with h2 | h2
    · have q2 : decide ((40 : Int) < (xs.length : Int)) = true := decide_eq_true (by omega)
      clear hz
      go_enter Try.func14, Try.ntmps14
      go_wp2
      go_ret
      exact ⟨rfl, Below.refl _ _⟩
    · have q2 : decide ((40 : Int) < (xs.length : Int)) = false := decide_eq_false (by omega)
      have HN := Lib.hid hn
      have HX := Lib.hid hx
      have HZ := Lib.hid hz
      have HBD := Lib.hid hbd
      have HLO := Lib.hid hlong
      clear hn hx hz hbd hlong
      go_enter Try.func14, Try.ntmps14
      go_wp2
      go_loopw [7] (fun i wr => ∃ k : Nat, k ≤ nm.length ∧ i = .int .i64 k ∧ Hid (∀ i, i < k → (nm0 nm i).length ≤ 60) ∧ wr = w) (fun i _ => nm.length - (intOf i).toNat)
      case atStart => exact ⟨0, by omega, rfl, fun i hi => by omega, rfl⟩
      case round =>
        obtain ⟨k, hk, rfl, hpre, rfl⟩ := hrel
        by_cases hlt : k < nm.length
        · obtain ⟨b, off, rfl, hbl, hce⟩ := HN.out (by omega)
          have hcn := hce k hlt
          have hsz : (txt (nm0 nm k)).size = (nm0 nm k).length := txt_size _
          have hz := HZ.out k
          clear hce
          rcases Nat.lt_or_ge 60 (nm0 nm k).length with h3 | h3
          · have q3 : decide ((60 : Int) < ((nm0 nm k).length : Int)) = true := decide_eq_true (by omega)
            generalize txt (nm0 nm k) = s at *
            go_wp2
            go_ret
            exact ⟨rfl, Below.refl _ _⟩
          · have q3 : decide ((60 : Int) < ((nm0 nm k).length : Int)) = false := decide_eq_false (by omega)
            have hpre2 : ∀ i, i < k + 1 → (nm0 nm i).length ≤ 60 := fun i hi => by
              by_cases e : i < k
              · exact hpre.out i e
              · obtain rfl : i = k := by omega
                exact h3
            have HP := Lib.hid hpre2
            clear hpre hpre2
            generalize txt (nm0 nm k) = s at *
            go_wp2
            go_roundw
            case rel => exact ⟨k + 1, by omega, by go_num, HP, trivial⟩
            case measure => simp [intOf]; omega
        · obtain rfl : k = nm.length := by omega
          have hz60 := nm_le hpre.out
          have cT := fun w hn hx => bars_Text A C nm B D xs long w hn hx h2 (by omega) hz60 HBD.out HLO.out
          have cR := fun w hn hx => ref55_Text A C nm B D xs long w hn hx h2 (by omega) hz60 HBD.out HLO.out
          have CT := Lib.hid cT
          have CR := Lib.hid cR
          have e2 : (barsE nm xs long == barsE nm xs long) = true := by simp
          clear cT cR hz60
          generalize txt (barsT nm xs long) = s at *
          generalize barsE nm xs long = E at *
          have e1 : (s.toList == s.toList) = true := by simp
          go_wp2_with fail
          refine (CT.out _ HN.out HX.out).mono ?_
          rintro e w2 ⟨rfl, hb2⟩
          go_wp2_with fail
          refine (CR.out _ (HN.out.below hb2) (HX.out.below hb2)).mono ?_
          rintro e w3 ⟨rfl, hb3⟩
          go_wp2_with (first | (go_at_call 37; refine (alive55 _).mono ?_; rintro e w4 ⟨rfl, m, rfl⟩))
          go_ret
          exact ⟨rfl, below_drewN (hb2.trans (hb3.mono hb2.size)) m⟩

set_option maxRecDepth 100000 in
theorem walkBarsTexts {H : Type} (W : World) (base : Nat) (enc : TypeId × Value → H) {v0 : Value} {d0 : DataW H} {p0 : List MemPlace} {v1 : Value} {d1 : DataW H} {p1 : List MemPlace} {v2 : Value} {d2 : DataW H} {p2 : List MemPlace}
    (h0 : DataW.Trod enc Try.prog W 0 (fun _ => true) true 88 v0 d0 p0) (h1 : DataW.Trod enc Try.prog W 0 (fun _ => true) true 28 v1 d1 p1) (h2 : DataW.Trod enc Try.prog W 0 (fun _ => true) true 3 v2 d2 p2)
    (o0 : Value.okWide Try.prog W .any base 88 v0) (o1 : Value.okWide Try.prog W .any base 28 v1) (o2 : Value.okWide Try.prog W .any base 3 v2) :
    Calls Try.prog 14 #[v0, v1, v2] W fun e W' => e = .returned (.bool true) ∧ Below W.heap.size W W' := by
  obtain ⟨n, hn⟩ := arg_slice Try.underlying88 o0 h0
  obtain ⟨ss, hss⟩ := read_slice (size := 1) Try.underlying88 (by kernel_rfl) (by decide) (fun _ _ _ h => read_str Try.underlying9 h) hn
  obtain ⟨A, C, hv, hrest⟩ := id hss
  injection hv with hv
  subst hv
  obtain ⟨n2, hn2⟩ := arg_slice Try.underlying28 o1 h1
  obtain ⟨xs, hxs⟩ := read_slice (size := 1) Try.underlying28 (by kernel_rfl) (by decide) (fun _ _ _ h => read_int Try.underlying3 h) hn2
  obtain ⟨B, D, hv, hrest2⟩ := id hxs
  injection hv with hv
  subst hv
  obtain ⟨long, rfl, l0, l1⟩ := arg_int o2 h2
  obtain ⟨z1, z2⟩ := strs_bd hss
  have hl : (ss.map (·.data.toList)).length = ss.length := List.length_map _
  have hres := bars_1 A C (ss.map (·.data.toList)) B D xs long W (strs_of hss) (ints_of hxs) (by rw [hl]; exact z1) (by have := hrest2.1; have := hrest2.2.1; unfold maxLen at *; omega) z2 (ints_bd hxs) ⟨l0, l1⟩
  rw [hl] at hres
  exact hres
end Go.Proofs.Ytnlieclfajebbaa

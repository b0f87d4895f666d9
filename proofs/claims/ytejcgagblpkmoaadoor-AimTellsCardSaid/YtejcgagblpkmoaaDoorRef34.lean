
/-
  The document's rows of places: hoistwayref34.between, ahead. Conditions: the numbers fit.
-/
import Derived.Test.YtejcgagblpkmoaaDoorEtaT
set_option linter.unusedVariables false
set_option linter.unusedSimpArgs false
namespace Go.Proofs.YtejcgagblpkmoaaDoor
open Go.Joins Go.ChangeShapes Go.WideShapes Go.ChangeAt Go.RowKit Go.Deep

theorem cntB_tk (a b : Int) (l : List Int) (i : Nat) (hi : i < l.length) : cntB a b (l.take (i + 1)) = cntB a b (l.take i) + (if btw a b (at0 l i) then 1 else 0) := by
  have : at0 l i = l[i] := by unfold at0; simp [List.getD, List.getElem?_eq_getElem hi]
  rw [List.take_succ_eq_append_getElem hi, cntB_snoc, this]
set_option maxRecDepth 20000 in
set_option maxHeartbeats 8000000 in
theorem ref34_between (M : List Int) (A : Option Addr) (C : Nat) (a b : Int) (w : World) (hI : Ints w A M) (hlen : M.length ≤ 128) :
    Calls Tryd.prog 36 #[.slice A M.length C, .int .i64 a, .int .i64 b] w fun e w' => e = .returned (.int .i64 (cntB a b M : Nat)) ∧ w = w' := by
  have htk := cntB_tk a b M
  have hle := fun i => cntB_le a b (M.take i)
  have hal : cntB a b (M.take M.length) = cntB a b M := by rw [List.take_length]
  have hz : cntB a b (M.take 0) = 0 := rfl
  have hbw : ∀ v, btw a b v = (decide (a < v) && decide (v < b) || (decide (b < v) && decide (v < a))) := fun v => (btw_or a b v).symm
  generalize btw a b = Q at *
  generalize cntB a b M = r at *
  have hG : ∃ G : Nat → Nat, ∀ i, cntB a b (M.take i) = G i := ⟨fun i => cntB a b (M.take i), fun _ => rfl⟩
  obtain ⟨G, hG⟩ := hG
  simp only [hG] at htk hle hal hz
  have HTK := Lib.hid htk
  have HLE := Lib.hid hle
  have HAL := Lib.hid hal
  have HZ := Lib.hid hz
  have HBW := Lib.hid hbw
  have HL := Lib.hid hlen
  have HI := Lib.hid hI
  clear htk hle hal hz hbw hlen hG hI
  go_enter Tryd.func36, Tryd.ntmps36
  go_wp2_with (with_reducible refine hold_loop ?_)
  unfold Hold
  go_loopw [7, 8] (fun v i wr => wr = w ∧ ∃ j : Nat, j ≤ M.length ∧ i = .int .i64 (j : Int) ∧ v = .int .i64 (G j : Nat)) (fun _ i _ => M.length - (intOf i).toNat)
  case atStart => exact ⟨rfl, 0, Nat.zero_le _, rfl, by rw [HZ.out]; rfl⟩
  case round =>
    obtain ⟨rfl, j, hj, rfl, rfl⟩ := hrel
    by_cases hlt : j < M.length
    · have htk := HTK.out j hlt
      obtain ⟨b0, off, rfl, hbl, hce⟩ := HI.out (by omega)
      have hcx := hce j hlt
      have e0 : IntKind.i64.wrap ((j : Int) + 1) = (j : Int) + 1 := IntWalk.i64_in _ (by have := HL.out; omega)
      have hgl := HLE.out j
      have hgl2 := List.length_take_le j M
      have e1 : IntKind.i64.wrap ((G j : Int) + 1) = (G j : Int) + 1 := IntWalk.i64_in _ (by have := HL.out; omega)
      generalize at0 M j = z at *
      have hbw := HBW.out z
      clear hgl hgl2 hce
      cases q1 : decide (a < z) <;> cases q2 : decide (z < b) <;> cases q3 : decide (b < z) <;> cases q4 : decide (z < a) <;> (
        rw [q1, q2, q3, q4] at hbw
        simp only [Bool.and_true, Bool.and_false, Bool.or_true, Bool.or_false, Bool.true_and, Bool.false_and] at hbw
        rw [hbw] at htk
        have HK := Lib.hid htk
        clear htk hbw
        go_wp2
        go_roundw
        case rel => exact ⟨trivial, j + 1, by omega, by go_num, by rw [HK.out]; first | rfl | (simp; done) | go_num⟩
        case measure => simp [intOf]; omega)
    · obtain rfl : j = M.length := by omega
      rw [HAL.out]
      go_wp2
      go_ret
      exact ⟨rfl, rfl⟩
def ahK (M : List Int) (pos d : Int) (k : Nat) : List Int := (M.take k).filter (onW pos d)
theorem ahK_yes {M : List Int} {pos d v : Int} {k : Nat} (h : M[k]? = some v) (hp : 0 < (v - pos) * d) : ahK M pos d (k + 1) = ahK M pos d k ++ [v] := by
  unfold ahK
  rw [List.take_add_one, h, List.filter_append]
  simp [onW, hp]
theorem ahK_no {M : List Int} {pos d v : Int} {k : Nat} (h : M[k]? = some v) (hp : ¬ 0 < (v - pos) * d) : ahK M pos d (k + 1) = ahK M pos d k := by
  unfold ahK
  rw [List.take_add_one, h, List.filter_append]
  have hp' : (v - pos) * d ≤ 0 := by omega
  simp [onW, hp']
theorem ahK_len (M : List Int) (pos d : Int) (k : Nat) : (ahK M pos d k).length ≤ k := by
  unfold ahK
  have := List.length_filter_le (onW pos d) (M.take k)
  have h2 := List.length_take_le k M
  omega
set_option maxRecDepth 20000 in
set_option maxHeartbeats 8000000 in
theorem ref34_ahead (M : List Int) (A : Option Addr) (C : Nat) (pos d : Int) (w : World) (hI : Ints w A M) (hlen : M.length ≤ 128) (hb : ∀ i, 0 ≤ at0 M i ∧ at0 M i ≤ 4096) (hp : 0 ≤ pos ∧ pos ≤ 4096) (hd : -1 ≤ d ∧ d ≤ 1) :
    Calls Tryd.prog 34 #[.slice A M.length C, .int .i64 pos, .int .i64 d] w (RetOwn (aheadL M pos d) w) := by
  obtain ⟨i0, hi, hz0, hz1, hz2⟩ := info_parts info_int
  have hall : ahK M pos d M.length = aheadL M pos d := by unfold ahK aheadL; rw [List.take_length]
  have hkl := ahK_len M pos d
  have hyes := fun k v => ahK_yes (M := M) (pos := pos) (d := d) (k := k) (v := v)
  have hno := fun k v => ahK_no (M := M) (pos := pos) (d := d) (k := k) (v := v)
  have hat : ∀ k, k < M.length → M[k]? = some (at0 M k) := fun k hk => by unfold at0; simp [List.getD, List.getElem?_eq_getElem hk]
  have h0 : ahK M pos d 0 = [] := by unfold ahK; simp
  generalize aheadL M pos d = out at *
  generalize ahK M pos d = outK at *
  subst hall
  have HAT := Lib.hid hat
  have HYES := Lib.hid hyes
  have HNO := Lib.hid hno
  have HBD := Lib.hid hb
  have H0 := Lib.hid h0
  have HX := Lib.hid hI
  clear hat hyes hno hb h0 hI
  go_enter Tryd.func34, Tryd.ntmps34
  go_wp2_with (with_reducible refine hold_loop ?_)
  unfold Hold
  go_loopw [7, 8] (fun v i wr => ∃ k : Nat, k ≤ M.length ∧ i = .int .i64 k ∧ wr.ownsRow w.heap.size 3 1 v (outK k).length (intV (outK k)) ∧ Below w.heap.size w wr) (fun _ i _ => M.length - (intOf i).toNat)
  case atStart => exact ⟨0, by omega, rfl, by rw [H0.out]; exact World.ownsRow_nil _ _ _ _, Below.refl _ _⟩
  case round =>
    obtain ⟨k, hk, rfl, hown, hbq⟩ := hrel
    have hgs := hbq.size
    have HO := Lib.hid hown
    have HQ := Lib.hid hbq
    by_cases hlt : k < M.length
    · obtain ⟨b, off, rfl, hbl, hce⟩ := (HX.out.below hbq) (by omega)
      have hc1 := hce k hlt
      have hv := HAT.out k hlt
      have hb1 := HBD.out k
      have hkk := hkl k
      have ho := HO.out
      clear hce hown hbq hkl
      generalize at0 M k = a1 at *
      have ej1 : IntKind.i64.wrap (a1 - pos) = a1 - pos := IntWalk.i64_in _ (by omega)
      have hm : -4096 ≤ (a1 - pos) * d ∧ (a1 - pos) * d ≤ 4096 := by
        rcases (show d = 1 ∨ d = 0 ∨ d = -1 by omega) with h' | h' | h' <;> rw [h'] <;> omega
      have ej2 : IntKind.i64.wrap ((a1 - pos) * d) = (a1 - pos) * d := IntWalk.i64_in _ (by omega)
      clear hm
      by_cases hp' : 0 < (a1 - pos) * d
      · have q3 : decide (0 < (a1 - pos) * d) = true := decide_eq_true hp'
        have hs := HYES.out k a1 hv hp'
        have hs1 : intV (outK (k + 1)) = intV (outK k) ++ [.int .i64 a1] := by rw [hs, intV_snoc]
        have hs2 : (outK (k + 1)).length = (outK k).length + 1 := by rw [hs]; simp
        have HP := Lib.hid hs1
        have HP2 := Lib.hid hs2
        clear hs hs1 hs2 hv hp'
        go_wp2_with (at_builtin; refine wpList_append_own _ rfl _ _ 50 rfl w.heap.size 3 i0 (.int .i64 0) 1 8 Tryd.underlying50 hi hz0 hz1 hz2 rfl (by decide) _ _ _ rfl (ho.alloc _) ⟨wr.heap.size, 0, none⟩ 1 1 [.int .i64 a1] rfl rfl (cell_one _ _ _) (one_cell _) (by unfold maxLen; omega) (by omega) (by simp; omega) ?_)
        intro v' w4 hown' hgrow _
        rw [← HP.out] at hown'
        have hb4 : Below w.heap.size w w4 := (HQ.out.alloc hgs _).grown hgrow (by simp; omega) (fun k hk => (ho.lt k hk).1)
        have hown2 : w4.ownsRow w.heap.size 3 1 v' (outK (k + 1)).length (intV (outK (k + 1))) := by rw [HP2.out]; exact hown'
        clear hgrow ho hown'
        go_wp2
        go_roundw
        case rel => exact ⟨k + 1, by omega, by go_num, hown2, hb4⟩
        case measure => simp [intOf]; try omega
      · have q3 : decide (0 < (a1 - pos) * d) = false := decide_eq_false hp'
        have hs := HNO.out k a1 hv (by omega)
        have HP := Lib.hid hs
        clear hs hv hp'
        go_wp2
        go_roundw
        case rel => exact ⟨k + 1, by omega, by go_num, by rw [HP.out]; exact HO.out, HQ.out⟩
        case measure => simp [intOf]; try omega
    · obtain rfl : k = M.length := by omega
      go_wp2
      go_ret
      exact ⟨_, rfl, HO.out, HQ.out⟩
end Go.Proofs.YtejcgagblpkmoaaDoor

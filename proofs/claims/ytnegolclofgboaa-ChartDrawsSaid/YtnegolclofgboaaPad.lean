
/-
  digits.Pad and hoistwayref02.Pad: a text with blanks ahead. Condition: text and width are at most 1000.
-/
import Derived.Test.YtnegolclofgboaaDec
import Derived.Test.YtnegolclofgboaaTxt
import Derived.Lib.AppendStr
set_option linter.unusedVariables false
set_option linter.unusedSimpArgs false
namespace Go.Proofs.Ytnegolclofgboaa
open Go.Joins Go.ChangeShapes Go.WideShapes Go.ChangeAt Go.RowKit Go.Deep

def padL (l : List UInt8) (n : Nat) : List UInt8 := List.replicate (n - l.length) 32 ++ l
theorem pad_len (l : List UInt8) (n : Nat) : (padL l n).length = max n l.length := by unfold padL; simp; omega
theorem pad_more {l : List UInt8} {n k : Nat} (h : l.length < n) : padL l n = padL (32 :: l) n := by
  unfold padL
  simp only [List.length_cons]
  rw [show n - l.length = (n - (l.length + 1)) + 1 by omega, List.replicate_succ']
  simp
theorem pad_none {l : List UInt8} {n : Nat} (h : n ≤ l.length) : padL l n = l := by unfold padL; rw [show n - l.length = 0 by omega]; rfl
theorem strCells_txt (l : List UInt8) : Lib.strCells (txt l) = l.map byteV := rfl
theorem rep_snoc (k : Nat) : (List.replicate k (32 : UInt8)).map byteV ++ [.int .u8 32] = (List.replicate (k + 1) (32 : UInt8)).map byteV := by
  rw [List.replicate_succ', List.map_append]; rfl
set_option maxRecDepth 20000 in
set_option maxHeartbeats 1000000 in
theorem ref02_Pad (l : List UInt8) (n : Nat) (w : World) (hl : l.length ≤ 1000) (hn : n ≤ 1000) : Calls Try.prog 13 #[.string (txt l), .int .i64 (n : Int)] w fun e w' => e = .returned (.string (txt (padL l n))) ∧ w = w' := by
  have q1 : decide ((65536 : Int) < (n : Int)) = false := decide_eq_false (by omega)
  have h0 : txt l = txt l := rfl
  generalize hs : txt l = s at h0 ⊢
  have HS := Lib.hid hs
  clear h0 hs
  go_enter Try.func13, Try.ntmps13
  go_wp2
  go_loop [0] (fun v => ∃ m : List UInt8, v = .string (txt m) ∧ m.length ≤ 1000 ∧ Hid (padL m n = padL l n)) (fun v => match v with | .string x => 2000 - x.size | _ => 0)
  case atStart => exact ⟨l, by rw [HS.out], hl, rfl⟩
  case round =>
    obtain ⟨m, rfl, hm, hp⟩ := hrel
    have hsz : (txt m).size = m.length := txt_size m
    rcases Nat.lt_or_ge m.length n with h | h
    · have q2 : decide ((m.length : Int) < (n : Int)) = true := decide_eq_true (by omega)
      have hp2 := (pad_more (k := 0) h).symm.trans hp.out
      have HP := Lib.hid hp2
      have hj : (⟨#[32]⟩ : ByteArray) ++ txt m = txt (32 :: m) := txt_append [32] m
      have HJ := Lib.hid hj
      have hz2 : (txt (32 :: m)).size = m.length + 1 := by rw [txt_size]; rfl
      clear hj hp2
      go_wp2
      go_round
      case rel => exact ⟨32 :: m, by rw [HJ.out], by simp; omega, HP⟩
      case measure => rw [HJ.out]; show 2000 - (txt (32 :: m)).size < 2000 - (txt m).size; omega
    · have q2 : decide ((m.length : Int) < (n : Int)) = false := decide_eq_false (by omega)
      have hp2 := (pad_none h).symm.trans hp.out
      have HP := Lib.hid hp2
      clear hp2
      go_wp2
      go_ret
      exact ⟨by rw [← HP.out]; rfl, rfl⟩
set_option maxRecDepth 20000 in
set_option maxHeartbeats 1000000 in
theorem digits_Pad (l : List UInt8) (n : Nat) (w : World) (hl : l.length ≤ 1000) (hn : n ≤ 1000) : Calls Try.prog 30 #[.string (txt l), .int .i64 (n : Int)] w fun e w' => e = .returned (.string (txt (padL l n))) ∧ Below w.heap.size w w' := by
  obtain ⟨i0, hi, hz0, hz1, hz2⟩ := info_parts info_u8
  have hsz : (txt l).size = l.length := txt_size l
  have hst := strCells_txt l
  have HST := Lib.hid hst
  clear hst
  generalize hs : txt l = s at *
  clear hs
  have n0 : (0 : Int) ≤ (n : Int) := by omega
  have n1 : (n : Int) ≤ 65536 := by omega
  go_enter Try.func30, Try.ntmps30
  go_wp2_with (refine wpList_make_own _ rfl _ _ 71 rfl w.heap.size 5 i0 (.int .u8 0) 1 Try.underlying71 hi hz0 hz1 .i64 .i64 _ l.length rfl rfl ?m1 ?m2 ?m3 ?m4 ?_)
  case m1 => simp
  case m2 => rw [hz2]; omega
  case m3 => unfold maxLen; omega
  case m4 => omega
  intro w1 hown1 hgrow1
  have hb1 : Below w.heap.size w w1 := (Below.refl _ _).grown hgrow1 (by omega) (fun k hk => by cases hk)
  clear hgrow1
  go_wp2
  go_loopw [16, 5] (fun i v wr => ∃ k : Nat, (k : Int) ≤ max ((n : Int) - l.length) 0 ∧ i = .int .i64 k ∧ wr.ownsRow w.heap.size 5 1 v k ((List.replicate k (32 : UInt8)).map byteV) ∧ (∃ g c, v = .slice (some ⟨g, 0, none⟩) k c) ∧ Below w.heap.size w wr) (fun i _ _ => (max ((n : Int) - l.length) 0 - intOf i).toNat)
  case atStart => exact ⟨0, by omega, rfl, hown1, ⟨_, _, rfl⟩, hb1⟩
  case round =>
    obtain ⟨k, hk, rfl, hown, ⟨g, c, rfl⟩, hb⟩ := hrel
    have hbs := hb.size
    by_cases hlt : (k : Int) < (n : Int) - l.length
    · have q2 : decide ((k : Int) < (n : Int) - (l.length : Int)) = true := decide_eq_true hlt
      have HO := Lib.hid hown
      clear hown
      go_wp2_with (at_builtin; refine wpList_append_own _ rfl _ _ 71 rfl w.heap.size 5 i0 (.int .u8 0) 1 1 Try.underlying71 hi hz0 hz1 hz2 rfl (by decide) _ _ _ rfl (HO.out.alloc _) ⟨wr.heap.size, 0, none⟩ 1 1 [.int .u8 32] rfl rfl ?c1 ?c2 ?c3 ?c4 ?c5 ?_)
      case c1 =>
        intro j u hj
        match j, hj with
        | 0, hj => simp at hj; subst hj; simp [Addr.add]
      case c2 => intro u hu; simp at hu; subst hu; rfl
      case c3 => unfold maxLen; omega
      case c4 => omega
      case c5 => simp; omega
      intro v' w4 hown' hgrow _
      have hb4 : Below w.heap.size w w4 := (hb.alloc hbs _).grown hgrow (by simp; omega) (fun k hk => (HO.out.lt k hk).1)
      have hown' : w4.ownsRow w.heap.size 5 1 v' (k + 1) ((List.replicate (k + 1) (32 : UInt8)).map byteV) := by rw [← rep_snoc, List.map_replicate]; exact hown'
      obtain ⟨g2, c2, hv2, -, -⟩ := hown'.form (by simp)
      subst hv2
      have HO2 := Lib.hid hown'
      clear hown' hgrow
      go_wp2
      go_roundw
      case rel => exact ⟨k + 1, by omega, by go_num, HO2.out, ⟨_, _, rfl⟩, hb4⟩
      case measure => simp [intOf]; omega
    · have q2 : decide ((k : Int) < (n : Int) - (l.length : Int)) = false := decide_eq_false hlt
      have hkk : k = n - l.length := by omega
      have HO := Lib.hid hown
      clear hown
      go_wp2_with (at_builtin; refine Lib.wpList_append_own_string _ rfl _ _ 71 9 rfl w.heap.size 5 i0 Try.underlying71 Try.underlying9 hi hz0 hz1 hz2 _ _ _ rfl HO.out s rfl ?c3 ?c4 ?c5 ?_)
      case c3 => unfold maxLen; omega
      case c4 => omega
      intro v' w4 hown' hgrow hiff
      have hb4 : Below w.heap.size w w4 := hb.grown hgrow (by omega) (fun k hk => (HO.out.lt k hk).1)
      subst hkk
      rw [HST.out] at hown'
      have hlen : n - l.length + l.length = (padL l n).length := by unfold padL; simp
      have hown2 : w4.ownsRow w.heap.size 5 1 v' (padL l n).length ((padL l n).map byteV) := by
        rw [← hlen, show padL l n = List.replicate (n - l.length) 32 ++ l from rfl, List.map_append, List.map_replicate]
        exact hown'
      obtain ⟨g2, c2, hv2⟩ : ∃ g2 c2, v' = .slice (some ⟨g2, 0, none⟩) (padL l n).length c2 := by
        rcases hown2.2 with ⟨hn, _⟩ | ⟨g2, cap, cur, hv, _⟩
        · exact absurd hn (by simpa using hiff)
        · exact ⟨g2, cap, hv⟩
      subst hv2
      have hconv := own_str hown2 Try.underlying71 Try.underlying5 Try.underlying9
      clear hown' hown2 hgrow hiff
      go_wp2
      go_ret
      exact ⟨rfl, hb4⟩
end Go.Proofs.Ytnegolclofgboaa

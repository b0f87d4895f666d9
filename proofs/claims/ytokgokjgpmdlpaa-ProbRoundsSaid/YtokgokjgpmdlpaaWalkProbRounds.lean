/-
  The statement ProbRounds, walked.
-/
import Derived.Test.YtokgokjgpmdlpaaRound2
import Derived.Test.YtokgokjgpmdlpaaArgA
set_option linter.unusedVariables false
set_option linter.unusedSimpArgs false
namespace Go.Proofs.Ytokgokjgpmdlpaa
open Go.Joins Go.ChangeShapes Go.WideShapes Go.ChangeAt Go.RowKit Go.Deep

/-- Whether a round can be told, and how long it takes. -/
def rndB (s : Scen) (p : Int) : Bool := rightB (wrap64 (s.floors - 1)) p && roundB s
theorem round_both (s : Scen) (A : Option Addr) (C : Nat) (p : Int) (hf : -9223372036854775808 ≤ s.floors ∧ s.floors ≤ 9223372036854775807) :
    (∃ v : Int, (∀ w, Calls Try.prog 49 #[s.val A C, .int .i64 p] w fun e w' => e = .returned (.tuple #[.int .i64 v, .int .i64 0]) ∧ Below w.heap.size w w') ∧
      ∀ w, Calls Try.prog 50 #[s.val A C, .int .i64 p] w fun e w' => e = .returned (.tuple #[.int .i64 v, .bool true]) ∧ Below w.heap.size w w') ∨
    ((∀ w, Calls Try.prog 49 #[s.val A C, .int .i64 p] w fun e w' => e = .returned (.tuple #[.int .i64 0, .int .i64 22]) ∧ Below w.heap.size w w') ∧
      ∀ w, Calls Try.prog 50 #[s.val A C, .int .i64 p] w fun e w' => e = .returned (.tuple #[.int .i64 0, .bool false]) ∧ Below w.heap.size w w') := by
  cases h : rightB (wrap64 (s.floors - 1)) p
  · exact .inr ⟨fun w => prob_Round_not s A C p w _ rfl h, fun w => ref56_Round_not s A C p w _ rfl h⟩
  · have hw : wrap64 (s.floors - 1) = s.floors - 1 := by
      have := (right_iff.1 h).1
      have h2 := (right_iff.1 h).2.1
      unfold wrap64 at *
      omega
    rw [hw] at h
    cases hb : roundB s
    · exact .inr ⟨fun w => prob_Round_bad s A C p w h hb, fun w => ref56_Round_bad s A C p w h hb⟩
    · exact .inl ⟨_, fun w => prob_Round_ok s A C p w h hb, fun w => ref56_Round_ok s A C p w h hb⟩

set_option maxRecDepth 20000 in
set_option maxHeartbeats 1000000 in
theorem rounds_1 (s : Scen) (A : Option Addr) (C : Nat) (f p : Int) (w : World) (hf : -9223372036854775808 ≤ s.floors ∧ s.floors ≤ 9223372036854775807) :
    Calls Try.prog 11 #[s.val A C, .int .i64 f, .int .i64 p] w fun e w' => e = .returned (.bool true) ∧ Below w.heap.size w w' := by
  have hb := round_both s A C p hf
  have hR := fun w => ref56_Right f p w
  cases hr : rightB f p
  · have cS := fun w => prob_Stops_not f p w hr
    have cH := fun w => prob_High_not f p w hr
    rw [hr] at hR
    have CS := Lib.hid cS
    have CH := Lib.hid cH
    have CR := Lib.hid hR
    clear cS cH hR hr
    rcases hb with ⟨v, hp, hq⟩ | ⟨hp, hq⟩
    all_goals
      have HP := Lib.hid hp
      have HQ := Lib.hid hq
      clear hp hq
      go_enter Try.func11, Try.ntmps11
      go_wp2_with fail
      obtain ⟨hBw1, hcw1, hzw1⟩ := box w 57 (s.cells A C).toArray
      change Calls _ _ _ (w.alloc (.cells (s.cells A C).toArray 57)) _
      generalize (w.alloc (.cells (s.cells A C).toArray 57)) = w1 at *
      refine (CS.out _).mono ?_
      rintro e w' ⟨rfl, rfl⟩
      go_wp2_with (first | (go_at_call 46; refine (CH.out _).mono ?_; rintro e w' ⟨rfl, rfl⟩))
      refine (HP.out _).mono ?_
      rintro e w2 ⟨rfl, hb2⟩
      have hq2 : ∀ i, w2.cell? ⟨w.heap.size, i, none⟩ = (s.cells A C).toArray[i]? := fun i => (hb2.cell (p := ⟨w.heap.size, i, none⟩) (by show w.heap.size < w1.heap.size; omega)).trans (hcw1 i)
      have hfin2 : Below w.heap.size w w2 := hBw1.trans (hb2.mono hBw1.size)
      clear hcw1 hb2
      go_wp2_with fail
      refine (HQ.out _).mono ?_
      rintro e w3 ⟨rfl, hb3⟩
      have hfin3 : Below w.heap.size w w3 := hfin2.trans (hb3.mono hfin2.size)
      clear hq2 hb3
      go_wp2_with (first | (go_at_call 44; refine (CR.out _).mono ?_; rintro e w' ⟨rfl, rfl⟩) | (go_at_call 29; refine (alive56 _).mono ?_; rintro e w' ⟨rfl, rfl⟩))
      go_ret
      exact ⟨rfl, hfin3⟩
  · have cS := fun w => prob_Stops f p w hr
    have cH := fun w => prob_High f p w hr
    rw [hr] at hR
    have qS := fun w => ref56_Stops f p w hr
    have qH := fun w => ref56_High f p w hr
    have QS := Lib.hid qS
    have QH := Lib.hid qH
    clear qS qH
    have e1 : (stopsV f p == stopsV f p) = true := by simp
    have e2 : (highV f p == highV f p) = true := by simp
    have CS := Lib.hid cS
    have CH := Lib.hid cH
    have CR := Lib.hid hR
    clear cS cH hR hr
    rcases hb with ⟨v, hp, hq⟩ | ⟨hp, hq⟩
    all_goals
      have HP := Lib.hid hp
      have HQ := Lib.hid hq
      clear hp hq
      go_enter Try.func11, Try.ntmps11
      go_wp2_with fail
      obtain ⟨hBw1, hcw1, hzw1⟩ := box w 57 (s.cells A C).toArray
      change Calls _ _ _ (w.alloc (.cells (s.cells A C).toArray 57)) _
      generalize (w.alloc (.cells (s.cells A C).toArray 57)) = w1 at *
      refine (CS.out _).mono ?_
      rintro e w' ⟨rfl, rfl⟩
      go_wp2_with (first | (go_at_call 46; refine (CH.out _).mono ?_; rintro e w' ⟨rfl, rfl⟩))
      refine (HP.out _).mono ?_
      rintro e w2 ⟨rfl, hb2⟩
      have hq2 : ∀ i, w2.cell? ⟨w.heap.size, i, none⟩ = (s.cells A C).toArray[i]? := fun i => (hb2.cell (p := ⟨w.heap.size, i, none⟩) (by show w.heap.size < w1.heap.size; omega)).trans (hcw1 i)
      have hfin2 : Below w.heap.size w w2 := hBw1.trans (hb2.mono hBw1.size)
      clear hcw1 hb2
      go_wp2_with fail
      refine (HQ.out _).mono ?_
      rintro e w3 ⟨rfl, hb3⟩
      have hfin3 : Below w.heap.size w w3 := hfin2.trans (hb3.mono hfin2.size)
      clear hq2 hb3
      go_wp2_with (first | (go_at_call 44; refine (CR.out _).mono ?_; rintro e w' ⟨rfl, rfl⟩) | (go_at_call 51; refine (QS.out _).mono ?_; rintro e w' ⟨rfl, rfl⟩) | (go_at_call 52; refine (QH.out _).mono ?_; rintro e w' ⟨rfl, rfl⟩) | (go_at_call 29; refine (alive56 _).mono ?_; rintro e w' ⟨rfl, rfl⟩))
      go_ret
      exact ⟨rfl, hfin3⟩

set_option maxRecDepth 100000 in
theorem walkProbRounds {H : Type} (W : World) (base : Nat) (enc : TypeId × Value → H) {v0 : Value} {d0 : DataW H} {p0 : List MemPlace} {v1 : Value} {d1 : DataW H} {p1 : List MemPlace} {v2 : Value} {d2 : DataW H} {p2 : List MemPlace}
    (h0 : DataW.Trod enc Try.prog W 0 (fun _ => true) true 57 v0 d0 p0) (h1 : DataW.Trod enc Try.prog W 0 (fun _ => true) true 3 v1 d1 p1) (h2 : DataW.Trod enc Try.prog W 0 (fun _ => true) true 3 v2 d2 p2)
    (o0 : Value.okWide Try.prog W .any base 57 v0) (o1 : Value.okWide Try.prog W .any base 3 v1) (o2 : Value.okWide Try.prog W .any base 3 v2) :
    Calls Try.prog 11 #[v0, v1, v2] W fun e W' => e = .returned (.bool true) ∧ Below W.heap.size W W' := by
  obtain ⟨cs, rfl, n, hn⟩ := arg_agg (.inl ⟨_, Try.underlying57⟩) o0 h0
  obtain ⟨s, A, C, rfl, hok, hsl⟩ := read_Scen hn
  obtain ⟨f, rfl, a0, a1⟩ := arg_int o1 h1
  obtain ⟨p, rfl, b0, b1⟩ := arg_int o2 h2
  exact rounds_1 s A C f p W hok.1
end Go.Proofs.Ytokgokjgpmdlpaa

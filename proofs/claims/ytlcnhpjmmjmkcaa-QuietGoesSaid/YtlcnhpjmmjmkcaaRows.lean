/-
  No cell of these rows narrows 'for every input' (looked for: loops, veiled, ifaces, maps, wideKeys, modest, calm, conditions, laid).
  DERIVED. THE GIVEN ROWS OF THIS SEAT. 5 by the template 'for every input the law returns true; each argument reads behind the call as it read before'; 0 by the template 'total and deterministic' (their statements: YtlcnhpjmmjmkcaaTotals.lean).
  GIVEN WITH THE SEED: the statements are not yours to turn. If you find one false, say at which input.
  Laid BY PROGRAM, IN A SANDBOX (cutbox-rows.mjs): the forced cells as the released guide's own fill.sh prints them over the translation f7cf365750c82062… (all of the seat's roots in one cut). By AI agents, Wed Nov 11 2026. No macro, syntax, notation, axiom, sorry.
-/
import Derived.Test.YtlcnhpjmmjmkcaaChecked
import GoSem.Claim
import GoSem.ClaimJoined
import GoSem.ClaimMapViews
import Derived.JoinedTies
import Derived.KernelRfl
namespace Go.Proofs.Ytlcnhpjmmjmkcaa
/- THE CELL 'sum', in the pinned program and in every row, IS THE sha256 OF THE DUMP (.gsa) THAT YtlcnhpjmmjmkcaaProg.lean LOADS. Nothing in Lean hashes anything: it is a label: what it is worth is what the hold of that sum in a sandbox is worth. -/
noncomputable def Try.pinned : Pinned := { name := "ytlcnhpjmmjmkcaa", sum := "f7cf365750c820626fc37df123080b34b92e4b7b1ddd7bc5b30140f8e7eca5c9", checked := Try.checked }
namespace Rows
def none {H : Type} : Left H := { results := [], args := [] }

/-- 'hoistwaylaw31.FaceLeads': WHATEVER THE INPUT: true; the input reads as it did. -/
def faceLeadsSpec : ChangeSpec := { name := "faceLeads", fn := fun _ => fun
  | [d1, d2, d3] => { results := [.lit (.bool true)], args := [d1, d2, d3] }
  | _ => none }
def faceLeadsRow : OpenClaim := { program := "ytlcnhpjmmjmkcaa", sum := "f7cf365750c820626fc37df123080b34b92e4b7b1ddd7bc5b30140f8e7eca5c9", func := "hoistway/hoistwaylaw31.FaceLeads", spec := "faceLeads", apart := false }
def FaceLeadsSaid : Prop := faceLeadsRow.holds Try.pinned (OpenSpec.ofChange faceLeadsSpec)

/-- ITS FALSE NEIGHBOUR: 'it returns false'. Refute it at one input. -/
def faceLeadsWrong : ChangeSpec := { name := "faceLeads", fn := fun _ => fun
  | [d1, d2, d3] => { results := [.lit (.bool false)], args := [d1, d2, d3] }
  | _ => none }
def FaceLeadsWrongFalsely : Prop := faceLeadsRow.holds Try.pinned (OpenSpec.ofChange faceLeadsWrong)

/-- 'hoistwaylaw40.MoveSteps': WHATEVER THE INPUT: true; the input reads as it did. -/
def moveStepsSpec : ChangeSpec := { name := "moveSteps", fn := fun _ => fun
  | [d1, d2, d3] => { results := [.lit (.bool true)], args := [d1, d2, d3] }
  | _ => none }
def moveStepsRow : OpenClaim := { program := "ytlcnhpjmmjmkcaa", sum := "f7cf365750c820626fc37df123080b34b92e4b7b1ddd7bc5b30140f8e7eca5c9", func := "hoistway/hoistwaylaw40.MoveSteps", spec := "moveSteps", apart := false }
def MoveStepsSaid : Prop := moveStepsRow.holds Try.pinned (OpenSpec.ofChange moveStepsSpec)

/-- ITS FALSE NEIGHBOUR: 'it returns false'. Refute it at one input. -/
def moveStepsWrong : ChangeSpec := { name := "moveSteps", fn := fun _ => fun
  | [d1, d2, d3] => { results := [.lit (.bool false)], args := [d1, d2, d3] }
  | _ => none }
def MoveStepsWrongFalsely : Prop := moveStepsRow.holds Try.pinned (OpenSpec.ofChange moveStepsWrong)

/-- 'hoistwaylaw40.MoveAhead': WHATEVER THE INPUT: true; the input reads as it did. -/
def moveAheadSpec : ChangeSpec := { name := "moveAhead", fn := fun _ => fun
  | [d1, d2, d3] => { results := [.lit (.bool true)], args := [d1, d2, d3] }
  | _ => none }
def moveAheadRow : OpenClaim := { program := "ytlcnhpjmmjmkcaa", sum := "f7cf365750c820626fc37df123080b34b92e4b7b1ddd7bc5b30140f8e7eca5c9", func := "hoistway/hoistwaylaw40.MoveAhead", spec := "moveAhead", apart := false }
def MoveAheadSaid : Prop := moveAheadRow.holds Try.pinned (OpenSpec.ofChange moveAheadSpec)

/-- ITS FALSE NEIGHBOUR: 'it returns false'. Refute it at one input. -/
def moveAheadWrong : ChangeSpec := { name := "moveAhead", fn := fun _ => fun
  | [d1, d2, d3] => { results := [.lit (.bool false)], args := [d1, d2, d3] }
  | _ => none }
def MoveAheadWrongFalsely : Prop := moveAheadRow.holds Try.pinned (OpenSpec.ofChange moveAheadWrong)

/-- 'hoistwaylaw44.QuietNext': WHATEVER THE INPUT: true; the input reads as it did. -/
def quietNextSpec : ChangeSpec := { name := "quietNext", fn := fun _ => fun
  | [d1, d2, d3] => { results := [.lit (.bool true)], args := [d1, d2, d3] }
  | _ => none }
def quietNextRow : OpenClaim := { program := "ytlcnhpjmmjmkcaa", sum := "f7cf365750c820626fc37df123080b34b92e4b7b1ddd7bc5b30140f8e7eca5c9", func := "hoistway/hoistwaylaw44.QuietNext", spec := "quietNext", apart := false }
def QuietNextSaid : Prop := quietNextRow.holds Try.pinned (OpenSpec.ofChange quietNextSpec)

/-- ITS FALSE NEIGHBOUR: 'it returns false'. Refute it at one input. -/
def quietNextWrong : ChangeSpec := { name := "quietNext", fn := fun _ => fun
  | [d1, d2, d3] => { results := [.lit (.bool false)], args := [d1, d2, d3] }
  | _ => none }
def QuietNextWrongFalsely : Prop := quietNextRow.holds Try.pinned (OpenSpec.ofChange quietNextWrong)

/-- 'hoistwaylaw44.QuietGoes': WHATEVER THE INPUT: true; the input reads as it did. -/
def quietGoesSpec : ChangeSpec := { name := "quietGoes", fn := fun _ => fun
  | [d1, d2, d3] => { results := [.lit (.bool true)], args := [d1, d2, d3] }
  | _ => none }
def quietGoesRow : OpenClaim := { program := "ytlcnhpjmmjmkcaa", sum := "f7cf365750c820626fc37df123080b34b92e4b7b1ddd7bc5b30140f8e7eca5c9", func := "hoistway/hoistwaylaw44.QuietGoes", spec := "quietGoes", apart := false }
def QuietGoesSaid : Prop := quietGoesRow.holds Try.pinned (OpenSpec.ofChange quietGoesSpec)

/-- ITS FALSE NEIGHBOUR: 'it returns false'. Refute it at one input. -/
def quietGoesWrong : ChangeSpec := { name := "quietGoes", fn := fun _ => fun
  | [d1, d2, d3] => { results := [.lit (.bool false)], args := [d1, d2, d3] }
  | _ => none }
def QuietGoesWrongFalsely : Prop := quietGoesRow.holds Try.pinned (OpenSpec.ofChange quietGoesWrong)

/- THE SECOND FORM. 'bulk': how many values and letters a reading holds, each counted each time it is reached (what is shared counts as often as it is met; a slice's spare places count too). A statement '..UptoSaid' is the law's where the arguments, and the package variables that the reading takes, are together of bulk at most 1048576: NARROWER than '..Said'. Prove '..Said' where nothing that the law and all that it calls make is longer than what came in: it says more and counts as full. Else prove '..UptoSaid'. A law counts once. -/
mutual
def uptoBulk {H : Type} : DataW H → Nat
  | .lit (.string bytes) => bytes.length + 1
  | .lit _ => 1
  | .nil => 1
  | .ptr d => uptoBulk d + 1
  | .slice elems spare => uptoBulkAll elems + uptoBulkAll spare + 1
  | .agg parts => uptoBulkAll parts + 1
  | .iface _ d => uptoBulk d + 1
  | .map entries => uptoBulkEntries entries + 1
  | .held _ => 1
def uptoBulkAll {H : Type} : List (DataW H) → Nat
  | [] => 0
  | d :: r => uptoBulk d + uptoBulkAll r
def uptoBulkEntries {H : Type} : List (Lit × DataW H) → Nat
  | [] => 0
  | x :: r => uptoBulkEntry x + uptoBulkEntries r
def uptoBulkEntry {H : Type} : Lit × DataW H → Nat
  | (.string bytes, d) => bytes.length + uptoBulk d + 1
  | (_, d) => uptoBulk d + 1
 end
def uptoSmall : (H : Type) → List (DataW H) → Bool := fun _ ds => decide (uptoBulkAll ds ≤ 1048576)
def OpenSpec.upto (s : _root_.Go.ChangeSpec) : _root_.Go.OpenSpec := { _root_.Go.OpenSpec.ofChange s with cond := some uptoSmall }

/-- 'hoistwaylaw31.FaceLeads', WHERE WHAT IT READS IS OF BULK AT MOST 1048576: true; the input reads as it did. -/
def faceLeadsUptoRow : OpenClaim := { program := "ytlcnhpjmmjmkcaa", sum := "f7cf365750c820626fc37df123080b34b92e4b7b1ddd7bc5b30140f8e7eca5c9", func := "hoistway/hoistwaylaw31.FaceLeads", spec := "faceLeads", apart := false, narrowed := true }
def FaceLeadsUptoSaid : Prop := faceLeadsUptoRow.holds Try.pinned (OpenSpec.upto faceLeadsSpec)

/-- 'hoistwaylaw40.MoveSteps', WHERE WHAT IT READS IS OF BULK AT MOST 1048576: true; the input reads as it did. -/
def moveStepsUptoRow : OpenClaim := { program := "ytlcnhpjmmjmkcaa", sum := "f7cf365750c820626fc37df123080b34b92e4b7b1ddd7bc5b30140f8e7eca5c9", func := "hoistway/hoistwaylaw40.MoveSteps", spec := "moveSteps", apart := false, narrowed := true }
def MoveStepsUptoSaid : Prop := moveStepsUptoRow.holds Try.pinned (OpenSpec.upto moveStepsSpec)

/-- 'hoistwaylaw40.MoveAhead', WHERE WHAT IT READS IS OF BULK AT MOST 1048576: true; the input reads as it did. -/
def moveAheadUptoRow : OpenClaim := { program := "ytlcnhpjmmjmkcaa", sum := "f7cf365750c820626fc37df123080b34b92e4b7b1ddd7bc5b30140f8e7eca5c9", func := "hoistway/hoistwaylaw40.MoveAhead", spec := "moveAhead", apart := false, narrowed := true }
def MoveAheadUptoSaid : Prop := moveAheadUptoRow.holds Try.pinned (OpenSpec.upto moveAheadSpec)

/-- 'hoistwaylaw44.QuietNext', WHERE WHAT IT READS IS OF BULK AT MOST 1048576: true; the input reads as it did. -/
def quietNextUptoRow : OpenClaim := { program := "ytlcnhpjmmjmkcaa", sum := "f7cf365750c820626fc37df123080b34b92e4b7b1ddd7bc5b30140f8e7eca5c9", func := "hoistway/hoistwaylaw44.QuietNext", spec := "quietNext", apart := false, narrowed := true }
def QuietNextUptoSaid : Prop := quietNextUptoRow.holds Try.pinned (OpenSpec.upto quietNextSpec)

/-- 'hoistwaylaw44.QuietGoes', WHERE WHAT IT READS IS OF BULK AT MOST 1048576: true; the input reads as it did. -/
def quietGoesUptoRow : OpenClaim := { program := "ytlcnhpjmmjmkcaa", sum := "f7cf365750c820626fc37df123080b34b92e4b7b1ddd7bc5b30140f8e7eca5c9", func := "hoistway/hoistwaylaw44.QuietGoes", spec := "quietGoes", apart := false, narrowed := true }
def QuietGoesUptoSaid : Prop := quietGoesUptoRow.holds Try.pinned (OpenSpec.upto quietGoesSpec)

end Rows
end Go.Proofs.Ytlcnhpjmmjmkcaa

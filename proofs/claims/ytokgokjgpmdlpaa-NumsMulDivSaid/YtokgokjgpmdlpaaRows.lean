/-
  No cell of these rows narrows 'for every input' (looked for: loops, veiled, ifaces, maps, wideKeys, modest, calm, conditions, laid).
  DERIVED. THE GIVEN ROWS OF THIS SEAT. 12 by the template 'for every input the law returns true; each argument reads behind the call as it read before'; 0 by the template 'total and deterministic' (their statements: YtokgokjgpmdlpaaTotals.lean).
  GIVEN WITH THE SEED: the statements are not yours to turn. If you find one false, say at which input.
  Laid BY PROGRAM, IN A SANDBOX (cutbox-rows.mjs): the forced cells as the released guide's own fill.sh prints them over the translation e130606bc28d944e… (all of the seat's roots in one cut). By AI agents, Wed Nov 11 2026. No macro, syntax, notation, axiom, sorry.
-/
import Derived.Test.YtokgokjgpmdlpaaChecked
import GoSem.Claim
import GoSem.ClaimJoined
import GoSem.ClaimMapViews
import Derived.JoinedTies
import Derived.KernelRfl
namespace Go.Proofs.Ytokgokjgpmdlpaa
/- THE CELL 'sum', in the pinned program and in every row, IS THE sha256 OF THE DUMP (.gsa) THAT YtokgokjgpmdlpaaProg.lean LOADS. Nothing in Lean hashes anything: it is a label: what it is worth is what the hold of that sum in a sandbox is worth. -/
noncomputable def Try.pinned : Pinned := { name := "ytokgokjgpmdlpaa", sum := "e130606bc28d944e25b8e0486a78e948a326ecee77660a55661d6465e9b14a92", checked := Try.checked }
namespace Rows
def none {H : Type} : Left H := { results := [], args := [] }

/-- 'hoistwaylaw01.NumsOver': WHATEVER THE INPUT: true; the input reads as it did. -/
def numsOverSpec : ChangeSpec := { name := "numsOver", fn := fun _ => fun
  | [d1, d2] => { results := [.lit (.bool true)], args := [d1, d2] }
  | _ => none }
def numsOverRow : OpenClaim := { program := "ytokgokjgpmdlpaa", sum := "e130606bc28d944e25b8e0486a78e948a326ecee77660a55661d6465e9b14a92", func := "hoistway/hoistwaylaw01.NumsOver", spec := "numsOver", apart := false }
def NumsOverSaid : Prop := numsOverRow.holds Try.pinned (OpenSpec.ofChange numsOverSpec)

/-- ITS FALSE NEIGHBOUR: 'it returns false'. Refute it at one input. -/
def numsOverWrong : ChangeSpec := { name := "numsOver", fn := fun _ => fun
  | [d1, d2] => { results := [.lit (.bool false)], args := [d1, d2] }
  | _ => none }
def NumsOverWrongFalsely : Prop := numsOverRow.holds Try.pinned (OpenSpec.ofChange numsOverWrong)

/-- 'hoistwaylaw56.ProbParts': WHATEVER THE INPUT: true; the input reads as it did. -/
def probPartsSpec : ChangeSpec := { name := "probParts", fn := fun _ => fun
  | [d1, d2, d3] => { results := [.lit (.bool true)], args := [d1, d2, d3] }
  | _ => none }
def probPartsRow : OpenClaim := { program := "ytokgokjgpmdlpaa", sum := "e130606bc28d944e25b8e0486a78e948a326ecee77660a55661d6465e9b14a92", func := "hoistway/hoistwaylaw56.ProbParts", spec := "probParts", apart := false }
def ProbPartsSaid : Prop := probPartsRow.holds Try.pinned (OpenSpec.ofChange probPartsSpec)

/-- ITS FALSE NEIGHBOUR: 'it returns false'. Refute it at one input. -/
def probPartsWrong : ChangeSpec := { name := "probParts", fn := fun _ => fun
  | [d1, d2, d3] => { results := [.lit (.bool false)], args := [d1, d2, d3] }
  | _ => none }
def ProbPartsWrongFalsely : Prop := probPartsRow.holds Try.pinned (OpenSpec.ofChange probPartsWrong)

/-- 'hoistwaylaw08.FracTells': WHATEVER THE INPUT: true; the input reads as it did. -/
def fracTellsSpec : ChangeSpec := { name := "fracTells", fn := fun _ => fun
  | [d1, d2, d3] => { results := [.lit (.bool true)], args := [d1, d2, d3] }
  | _ => none }
def fracTellsRow : OpenClaim := { program := "ytokgokjgpmdlpaa", sum := "e130606bc28d944e25b8e0486a78e948a326ecee77660a55661d6465e9b14a92", func := "hoistway/hoistwaylaw08.FracTells", spec := "fracTells", apart := false }
def FracTellsSaid : Prop := fracTellsRow.holds Try.pinned (OpenSpec.ofChange fracTellsSpec)

/-- ITS FALSE NEIGHBOUR: 'it returns false'. Refute it at one input. -/
def fracTellsWrong : ChangeSpec := { name := "fracTells", fn := fun _ => fun
  | [d1, d2, d3] => { results := [.lit (.bool false)], args := [d1, d2, d3] }
  | _ => none }
def FracTellsWrongFalsely : Prop := fracTellsRow.holds Try.pinned (OpenSpec.ofChange fracTellsWrong)

/-- 'hoistwaylaw01.NumsSums': WHATEVER THE INPUT: true; the input reads as it did. -/
def numsSumsSpec : ChangeSpec := { name := "numsSums", fn := fun _ => fun
  | [d1, d2] => { results := [.lit (.bool true)], args := [d1, d2] }
  | _ => none }
def numsSumsRow : OpenClaim := { program := "ytokgokjgpmdlpaa", sum := "e130606bc28d944e25b8e0486a78e948a326ecee77660a55661d6465e9b14a92", func := "hoistway/hoistwaylaw01.NumsSums", spec := "numsSums", apart := false }
def NumsSumsSaid : Prop := numsSumsRow.holds Try.pinned (OpenSpec.ofChange numsSumsSpec)

/-- ITS FALSE NEIGHBOUR: 'it returns false'. Refute it at one input. -/
def numsSumsWrong : ChangeSpec := { name := "numsSums", fn := fun _ => fun
  | [d1, d2] => { results := [.lit (.bool false)], args := [d1, d2] }
  | _ => none }
def NumsSumsWrongFalsely : Prop := numsSumsRow.holds Try.pinned (OpenSpec.ofChange numsSumsWrong)

/-- 'hoistwaylaw08.FracMean': WHATEVER THE INPUT: true; the input reads as it did. -/
def fracMeanSpec : ChangeSpec := { name := "fracMean", fn := fun _ => fun
  | [d] => { results := [.lit (.bool true)], args := [d] }
  | _ => none }
def fracMeanRow : OpenClaim := { program := "ytokgokjgpmdlpaa", sum := "e130606bc28d944e25b8e0486a78e948a326ecee77660a55661d6465e9b14a92", func := "hoistway/hoistwaylaw08.FracMean", spec := "fracMean", apart := false }
def FracMeanSaid : Prop := fracMeanRow.holds Try.pinned (OpenSpec.ofChange fracMeanSpec)

/-- ITS FALSE NEIGHBOUR: 'it returns false'. Refute it at one input. -/
def fracMeanWrong : ChangeSpec := { name := "fracMean", fn := fun _ => fun
  | [d] => { results := [.lit (.bool false)], args := [d] }
  | _ => none }
def FracMeanWrongFalsely : Prop := fracMeanRow.holds Try.pinned (OpenSpec.ofChange fracMeanWrong)

/-- 'hoistwaylaw56.ProbBounds': WHATEVER THE INPUT: true; the input reads as it did. -/
def probBoundsSpec : ChangeSpec := { name := "probBounds", fn := fun _ => fun
  | [d1, d2] => { results := [.lit (.bool true)], args := [d1, d2] }
  | _ => none }
def probBoundsRow : OpenClaim := { program := "ytokgokjgpmdlpaa", sum := "e130606bc28d944e25b8e0486a78e948a326ecee77660a55661d6465e9b14a92", func := "hoistway/hoistwaylaw56.ProbBounds", spec := "probBounds", apart := false }
def ProbBoundsSaid : Prop := probBoundsRow.holds Try.pinned (OpenSpec.ofChange probBoundsSpec)

/-- ITS FALSE NEIGHBOUR: 'it returns false'. Refute it at one input. -/
def probBoundsWrong : ChangeSpec := { name := "probBounds", fn := fun _ => fun
  | [d1, d2] => { results := [.lit (.bool false)], args := [d1, d2] }
  | _ => none }
def ProbBoundsWrongFalsely : Prop := probBoundsRow.holds Try.pinned (OpenSpec.ofChange probBoundsWrong)

/-- 'hoistwaylaw01.NumsTimes': WHATEVER THE INPUT: true; the input reads as it did. -/
def numsTimesSpec : ChangeSpec := { name := "numsTimes", fn := fun _ => fun
  | [d1, d2] => { results := [.lit (.bool true)], args := [d1, d2] }
  | _ => none }
def numsTimesRow : OpenClaim := { program := "ytokgokjgpmdlpaa", sum := "e130606bc28d944e25b8e0486a78e948a326ecee77660a55661d6465e9b14a92", func := "hoistway/hoistwaylaw01.NumsTimes", spec := "numsTimes", apart := false }
def NumsTimesSaid : Prop := numsTimesRow.holds Try.pinned (OpenSpec.ofChange numsTimesSpec)

/-- ITS FALSE NEIGHBOUR: 'it returns false'. Refute it at one input. -/
def numsTimesWrong : ChangeSpec := { name := "numsTimes", fn := fun _ => fun
  | [d1, d2] => { results := [.lit (.bool false)], args := [d1, d2] }
  | _ => none }
def NumsTimesWrongFalsely : Prop := numsTimesRow.holds Try.pinned (OpenSpec.ofChange numsTimesWrong)

/-- 'hoistwaylaw01.NumsSplits': WHATEVER THE INPUT: true; the input reads as it did. -/
def numsSplitsSpec : ChangeSpec := { name := "numsSplits", fn := fun _ => fun
  | [d1, d2] => { results := [.lit (.bool true)], args := [d1, d2] }
  | _ => none }
def numsSplitsRow : OpenClaim := { program := "ytokgokjgpmdlpaa", sum := "e130606bc28d944e25b8e0486a78e948a326ecee77660a55661d6465e9b14a92", func := "hoistway/hoistwaylaw01.NumsSplits", spec := "numsSplits", apart := false }
def NumsSplitsSaid : Prop := numsSplitsRow.holds Try.pinned (OpenSpec.ofChange numsSplitsSpec)

/-- ITS FALSE NEIGHBOUR: 'it returns false'. Refute it at one input. -/
def numsSplitsWrong : ChangeSpec := { name := "numsSplits", fn := fun _ => fun
  | [d1, d2] => { results := [.lit (.bool false)], args := [d1, d2] }
  | _ => none }
def NumsSplitsWrongFalsely : Prop := numsSplitsRow.holds Try.pinned (OpenSpec.ofChange numsSplitsWrong)

/-- 'hoistwaylaw56.ProbRounds': WHATEVER THE INPUT: true; the input reads as it did. -/
def probRoundsSpec : ChangeSpec := { name := "probRounds", fn := fun _ => fun
  | [d1, d2, d3] => { results := [.lit (.bool true)], args := [d1, d2, d3] }
  | _ => none }
def probRoundsRow : OpenClaim := { program := "ytokgokjgpmdlpaa", sum := "e130606bc28d944e25b8e0486a78e948a326ecee77660a55661d6465e9b14a92", func := "hoistway/hoistwaylaw56.ProbRounds", spec := "probRounds", unfollowed := true, recurses := true, apart := false }
def ProbRoundsSaid : Prop := probRoundsRow.holds Try.pinned (OpenSpec.ofChange probRoundsSpec)

/-- ITS FALSE NEIGHBOUR: 'it returns false'. Refute it at one input. -/
def probRoundsWrong : ChangeSpec := { name := "probRounds", fn := fun _ => fun
  | [d1, d2, d3] => { results := [.lit (.bool false)], args := [d1, d2, d3] }
  | _ => none }
def ProbRoundsWrongFalsely : Prop := probRoundsRow.holds Try.pinned (OpenSpec.ofChange probRoundsWrong)

/-- 'hoistwaylaw08.FracOrder': WHATEVER THE INPUT: true; the input reads as it did. -/
def fracOrderSpec : ChangeSpec := { name := "fracOrder", fn := fun _ => fun
  | [d1, d2] => { results := [.lit (.bool true)], args := [d1, d2] }
  | _ => none }
def fracOrderRow : OpenClaim := { program := "ytokgokjgpmdlpaa", sum := "e130606bc28d944e25b8e0486a78e948a326ecee77660a55661d6465e9b14a92", func := "hoistway/hoistwaylaw08.FracOrder", spec := "fracOrder", apart := false }
def FracOrderSaid : Prop := fracOrderRow.holds Try.pinned (OpenSpec.ofChange fracOrderSpec)

/-- ITS FALSE NEIGHBOUR: 'it returns false'. Refute it at one input. -/
def fracOrderWrong : ChangeSpec := { name := "fracOrder", fn := fun _ => fun
  | [d1, d2] => { results := [.lit (.bool false)], args := [d1, d2] }
  | _ => none }
def FracOrderWrongFalsely : Prop := fracOrderRow.holds Try.pinned (OpenSpec.ofChange fracOrderWrong)

/-- 'hoistwaylaw01.NumsPow': WHATEVER THE INPUT: true; the input reads as it did. -/
def numsPowSpec : ChangeSpec := { name := "numsPow", fn := fun _ => fun
  | [d1, d2, d3] => { results := [.lit (.bool true)], args := [d1, d2, d3] }
  | _ => none }
def numsPowRow : OpenClaim := { program := "ytokgokjgpmdlpaa", sum := "e130606bc28d944e25b8e0486a78e948a326ecee77660a55661d6465e9b14a92", func := "hoistway/hoistwaylaw01.NumsPow", spec := "numsPow", apart := false }
def NumsPowSaid : Prop := numsPowRow.holds Try.pinned (OpenSpec.ofChange numsPowSpec)

/-- ITS FALSE NEIGHBOUR: 'it returns false'. Refute it at one input. -/
def numsPowWrong : ChangeSpec := { name := "numsPow", fn := fun _ => fun
  | [d1, d2, d3] => { results := [.lit (.bool false)], args := [d1, d2, d3] }
  | _ => none }
def NumsPowWrongFalsely : Prop := numsPowRow.holds Try.pinned (OpenSpec.ofChange numsPowWrong)

/-- 'hoistwaylaw01.NumsMulDiv': WHATEVER THE INPUT: true; the input reads as it did. -/
def numsMulDivSpec : ChangeSpec := { name := "numsMulDiv", fn := fun _ => fun
  | [d1, d2, d3] => { results := [.lit (.bool true)], args := [d1, d2, d3] }
  | _ => none }
def numsMulDivRow : OpenClaim := { program := "ytokgokjgpmdlpaa", sum := "e130606bc28d944e25b8e0486a78e948a326ecee77660a55661d6465e9b14a92", func := "hoistway/hoistwaylaw01.NumsMulDiv", spec := "numsMulDiv", named := ["math/bits.divideError", "math/bits.overflowError"], apart := false }
def NumsMulDivSaid : Prop := numsMulDivRow.holds Try.pinned (OpenSpec.ofChange numsMulDivSpec)

/-- ITS FALSE NEIGHBOUR: 'it returns false'. Refute it at one input. -/
def numsMulDivWrong : ChangeSpec := { name := "numsMulDiv", fn := fun _ => fun
  | [d1, d2, d3] => { results := [.lit (.bool false)], args := [d1, d2, d3] }
  | _ => none }
def NumsMulDivWrongFalsely : Prop := numsMulDivRow.holds Try.pinned (OpenSpec.ofChange numsMulDivWrong)

/- THE SECOND FORM. 'bulk': how many values and letters a reading holds, each counted each time it is reached (what is shared counts as often as it is met; a slice's spare places count too). A statement '..UptoSaid' is the law's where the arguments, and the package variables that the reading takes, are together of bulk at most 1048576: NARROWER than '..Said'. Prove '..Said' where nothing that the law and all that it calls make is longer than what came in: it says more and counts as full. Else prove '..UptoSaid'. A law counts once. -/
mutual
def uptoBulk {H : Type} : DataW H → Nat
  | .lit (.string bytes) => bytes.length + 1
  | .lit _ => 1
  | .nil => 1
  | .ptr d => uptoBulk d + 1
  | .slice elems spare => uptoBulkAll elems + uptoBulkAll spare + 1
  | .agg parts => uptoBulkAll parts + 1
  | .iface _ d => uptoBulk d + 1
  | .map entries => uptoBulkEntries entries + 1
  | .held _ => 1
def uptoBulkAll {H : Type} : List (DataW H) → Nat
  | [] => 0
  | d :: r => uptoBulk d + uptoBulkAll r
def uptoBulkEntries {H : Type} : List (Lit × DataW H) → Nat
  | [] => 0
  | x :: r => uptoBulkEntry x + uptoBulkEntries r
def uptoBulkEntry {H : Type} : Lit × DataW H → Nat
  | (.string bytes, d) => bytes.length + uptoBulk d + 1
  | (_, d) => uptoBulk d + 1
 end
def uptoSmall : (H : Type) → List (DataW H) → Bool := fun _ ds => decide (uptoBulkAll ds ≤ 1048576)
def OpenSpec.upto (s : _root_.Go.ChangeSpec) : _root_.Go.OpenSpec := { _root_.Go.OpenSpec.ofChange s with cond := some uptoSmall }

/-- 'hoistwaylaw01.NumsOver', WHERE WHAT IT READS IS OF BULK AT MOST 1048576: true; the input reads as it did. -/
def numsOverUptoRow : OpenClaim := { program := "ytokgokjgpmdlpaa", sum := "e130606bc28d944e25b8e0486a78e948a326ecee77660a55661d6465e9b14a92", func := "hoistway/hoistwaylaw01.NumsOver", spec := "numsOver", apart := false, narrowed := true }
def NumsOverUptoSaid : Prop := numsOverUptoRow.holds Try.pinned (OpenSpec.upto numsOverSpec)

/-- 'hoistwaylaw56.ProbParts', WHERE WHAT IT READS IS OF BULK AT MOST 1048576: true; the input reads as it did. -/
def probPartsUptoRow : OpenClaim := { program := "ytokgokjgpmdlpaa", sum := "e130606bc28d944e25b8e0486a78e948a326ecee77660a55661d6465e9b14a92", func := "hoistway/hoistwaylaw56.ProbParts", spec := "probParts", apart := false, narrowed := true }
def ProbPartsUptoSaid : Prop := probPartsUptoRow.holds Try.pinned (OpenSpec.upto probPartsSpec)

/-- 'hoistwaylaw08.FracTells', WHERE WHAT IT READS IS OF BULK AT MOST 1048576: true; the input reads as it did. -/
def fracTellsUptoRow : OpenClaim := { program := "ytokgokjgpmdlpaa", sum := "e130606bc28d944e25b8e0486a78e948a326ecee77660a55661d6465e9b14a92", func := "hoistway/hoistwaylaw08.FracTells", spec := "fracTells", apart := false, narrowed := true }
def FracTellsUptoSaid : Prop := fracTellsUptoRow.holds Try.pinned (OpenSpec.upto fracTellsSpec)

/-- 'hoistwaylaw01.NumsSums', WHERE WHAT IT READS IS OF BULK AT MOST 1048576: true; the input reads as it did. -/
def numsSumsUptoRow : OpenClaim := { program := "ytokgokjgpmdlpaa", sum := "e130606bc28d944e25b8e0486a78e948a326ecee77660a55661d6465e9b14a92", func := "hoistway/hoistwaylaw01.NumsSums", spec := "numsSums", apart := false, narrowed := true }
def NumsSumsUptoSaid : Prop := numsSumsUptoRow.holds Try.pinned (OpenSpec.upto numsSumsSpec)

/-- 'hoistwaylaw08.FracMean', WHERE WHAT IT READS IS OF BULK AT MOST 1048576: true; the input reads as it did. -/
def fracMeanUptoRow : OpenClaim := { program := "ytokgokjgpmdlpaa", sum := "e130606bc28d944e25b8e0486a78e948a326ecee77660a55661d6465e9b14a92", func := "hoistway/hoistwaylaw08.FracMean", spec := "fracMean", apart := false, narrowed := true }
def FracMeanUptoSaid : Prop := fracMeanUptoRow.holds Try.pinned (OpenSpec.upto fracMeanSpec)

/-- 'hoistwaylaw56.ProbBounds', WHERE WHAT IT READS IS OF BULK AT MOST 1048576: true; the input reads as it did. -/
def probBoundsUptoRow : OpenClaim := { program := "ytokgokjgpmdlpaa", sum := "e130606bc28d944e25b8e0486a78e948a326ecee77660a55661d6465e9b14a92", func := "hoistway/hoistwaylaw56.ProbBounds", spec := "probBounds", apart := false, narrowed := true }
def ProbBoundsUptoSaid : Prop := probBoundsUptoRow.holds Try.pinned (OpenSpec.upto probBoundsSpec)

/-- 'hoistwaylaw01.NumsTimes', WHERE WHAT IT READS IS OF BULK AT MOST 1048576: true; the input reads as it did. -/
def numsTimesUptoRow : OpenClaim := { program := "ytokgokjgpmdlpaa", sum := "e130606bc28d944e25b8e0486a78e948a326ecee77660a55661d6465e9b14a92", func := "hoistway/hoistwaylaw01.NumsTimes", spec := "numsTimes", apart := false, narrowed := true }
def NumsTimesUptoSaid : Prop := numsTimesUptoRow.holds Try.pinned (OpenSpec.upto numsTimesSpec)

/-- 'hoistwaylaw01.NumsSplits', WHERE WHAT IT READS IS OF BULK AT MOST 1048576: true; the input reads as it did. -/
def numsSplitsUptoRow : OpenClaim := { program := "ytokgokjgpmdlpaa", sum := "e130606bc28d944e25b8e0486a78e948a326ecee77660a55661d6465e9b14a92", func := "hoistway/hoistwaylaw01.NumsSplits", spec := "numsSplits", apart := false, narrowed := true }
def NumsSplitsUptoSaid : Prop := numsSplitsUptoRow.holds Try.pinned (OpenSpec.upto numsSplitsSpec)

/-- 'hoistwaylaw56.ProbRounds', WHERE WHAT IT READS IS OF BULK AT MOST 1048576: true; the input reads as it did. -/
def probRoundsUptoRow : OpenClaim := { program := "ytokgokjgpmdlpaa", sum := "e130606bc28d944e25b8e0486a78e948a326ecee77660a55661d6465e9b14a92", func := "hoistway/hoistwaylaw56.ProbRounds", spec := "probRounds", unfollowed := true, recurses := true, apart := false, narrowed := true }
def ProbRoundsUptoSaid : Prop := probRoundsUptoRow.holds Try.pinned (OpenSpec.upto probRoundsSpec)

/-- 'hoistwaylaw08.FracOrder', WHERE WHAT IT READS IS OF BULK AT MOST 1048576: true; the input reads as it did. -/
def fracOrderUptoRow : OpenClaim := { program := "ytokgokjgpmdlpaa", sum := "e130606bc28d944e25b8e0486a78e948a326ecee77660a55661d6465e9b14a92", func := "hoistway/hoistwaylaw08.FracOrder", spec := "fracOrder", apart := false, narrowed := true }
def FracOrderUptoSaid : Prop := fracOrderUptoRow.holds Try.pinned (OpenSpec.upto fracOrderSpec)

/-- 'hoistwaylaw01.NumsPow', WHERE WHAT IT READS IS OF BULK AT MOST 1048576: true; the input reads as it did. -/
def numsPowUptoRow : OpenClaim := { program := "ytokgokjgpmdlpaa", sum := "e130606bc28d944e25b8e0486a78e948a326ecee77660a55661d6465e9b14a92", func := "hoistway/hoistwaylaw01.NumsPow", spec := "numsPow", apart := false, narrowed := true }
def NumsPowUptoSaid : Prop := numsPowUptoRow.holds Try.pinned (OpenSpec.upto numsPowSpec)

/-- 'hoistwaylaw01.NumsMulDiv', WHERE WHAT IT READS IS OF BULK AT MOST 1048576: true; the input reads as it did. -/
def numsMulDivUptoRow : OpenClaim := { program := "ytokgokjgpmdlpaa", sum := "e130606bc28d944e25b8e0486a78e948a326ecee77660a55661d6465e9b14a92", func := "hoistway/hoistwaylaw01.NumsMulDiv", spec := "numsMulDiv", named := ["math/bits.divideError", "math/bits.overflowError"], apart := false, narrowed := true }
def NumsMulDivUptoSaid : Prop := numsMulDivUptoRow.holds Try.pinned (OpenSpec.upto numsMulDivSpec)

end Rows
end Go.Proofs.Ytokgokjgpmdlpaa

/-
  No cell of these rows narrows 'for every input' (looked for: loops, veiled, ifaces, maps, wideKeys, modest, calm, conditions, laid).
  DERIVED. THE GIVEN ROWS OF THIS SEAT. 2 by the template 'for every input the law returns true; each argument reads behind the call as it read before'; 0 by the template 'total and deterministic' (their statements: YtemakmnoncmpbaaTotals.lean).
  GIVEN WITH THE SEED: the statements are not yours to turn. If you find one false, say at which input.
  Laid BY PROGRAM, IN A SANDBOX (cutbox-rows.mjs): the forced cells as the released guide's own fill.sh prints them over the translation 8d4bce2a46d1d1b1… (all of the seat's roots in one cut). By AI agents, Wed Nov 11 2026. No macro, syntax, notation, axiom, sorry.
-/
import Derived.Test.YtemakmnoncmpbaaChecked
import GoSem.Claim
import GoSem.ClaimJoined
import GoSem.ClaimMapViews
import Derived.JoinedTies
import Derived.KernelRfl
namespace Go.Proofs.Ytemakmnoncmpbaa
/- THE CELL 'sum', in the pinned program and in every row, IS THE sha256 OF THE DUMP (.gsa) THAT YtemakmnoncmpbaaProg.lean LOADS. Nothing in Lean hashes anything: it is a label: what it is worth is what the hold of that sum in a sandbox is worth. -/
noncomputable def Try.pinned : Pinned := { name := "ytemakmnoncmpbaa", sum := "8d4bce2a46d1d1b1387ef081221801b5d107b04cce953714e876f542a1da92fe", checked := Try.checked }
namespace Rows
def none {H : Type} : Left H := { results := [], args := [] }

/-- 'hoistwaylaw38.DiffLogs': WHATEVER THE INPUT: true; the input reads as it did. -/
def diffLogsSpec : ChangeSpec := { name := "diffLogs", fn := fun _ => fun
  | [d1, d2] => { results := [.lit (.bool true)], args := [d1, d2] }
  | _ => none }
def diffLogsRow : OpenClaim := { program := "ytemakmnoncmpbaa", sum := "8d4bce2a46d1d1b1387ef081221801b5d107b04cce953714e876f542a1da92fe", func := "hoistway/hoistwaylaw38.DiffLogs", spec := "diffLogs", apart := false }
def DiffLogsSaid : Prop := diffLogsRow.holds Try.pinned (OpenSpec.ofChange diffLogsSpec)

/-- ITS FALSE NEIGHBOUR: 'it returns false'. Refute it at one input. -/
def diffLogsWrong : ChangeSpec := { name := "diffLogs", fn := fun _ => fun
  | [d1, d2] => { results := [.lit (.bool false)], args := [d1, d2] }
  | _ => none }
def DiffLogsWrongFalsely : Prop := diffLogsRow.holds Try.pinned (OpenSpec.ofChange diffLogsWrong)

/-- 'hoistwaylaw38.DiffChanged': WHATEVER THE INPUT: true; the input reads as it did. -/
def diffChangedSpec : ChangeSpec := { name := "diffChanged", fn := fun _ => fun
  | [d1, d2] => { results := [.lit (.bool true)], args := [d1, d2] }
  | _ => none }
def diffChangedRow : OpenClaim := { program := "ytemakmnoncmpbaa", sum := "8d4bce2a46d1d1b1387ef081221801b5d107b04cce953714e876f542a1da92fe", func := "hoistway/hoistwaylaw38.DiffChanged", spec := "diffChanged", apart := false }
def DiffChangedSaid : Prop := diffChangedRow.holds Try.pinned (OpenSpec.ofChange diffChangedSpec)

/-- ITS FALSE NEIGHBOUR: 'it returns false'. Refute it at one input. -/
def diffChangedWrong : ChangeSpec := { name := "diffChanged", fn := fun _ => fun
  | [d1, d2] => { results := [.lit (.bool false)], args := [d1, d2] }
  | _ => none }
def DiffChangedWrongFalsely : Prop := diffChangedRow.holds Try.pinned (OpenSpec.ofChange diffChangedWrong)

/- THE SECOND FORM. 'bulk': how many values and letters a reading holds, each counted each time it is reached (what is shared counts as often as it is met; a slice's spare places count too). A statement '..UptoSaid' is the law's where the arguments, and the package variables that the reading takes, are together of bulk at most 1048576: NARROWER than '..Said'. Prove '..Said' where nothing that the law and all that it calls make is longer than what came in: it says more and counts as full. Else prove '..UptoSaid'. A law counts once. -/
mutual
def uptoBulk {H : Type} : DataW H → Nat
  | .lit (.string bytes) => bytes.length + 1
  | .lit _ => 1
  | .nil => 1
  | .ptr d => uptoBulk d + 1
  | .slice elems spare => uptoBulkAll elems + uptoBulkAll spare + 1
  | .agg parts => uptoBulkAll parts + 1
  | .iface _ d => uptoBulk d + 1
  | .map entries => uptoBulkEntries entries + 1
  | .held _ => 1
def uptoBulkAll {H : Type} : List (DataW H) → Nat
  | [] => 0
  | d :: r => uptoBulk d + uptoBulkAll r
def uptoBulkEntries {H : Type} : List (Lit × DataW H) → Nat
  | [] => 0
  | x :: r => uptoBulkEntry x + uptoBulkEntries r
def uptoBulkEntry {H : Type} : Lit × DataW H → Nat
  | (.string bytes, d) => bytes.length + uptoBulk d + 1
  | (_, d) => uptoBulk d + 1
 end
def uptoSmall : (H : Type) → List (DataW H) → Bool := fun _ ds => decide (uptoBulkAll ds ≤ 1048576)
def OpenSpec.upto (s : _root_.Go.ChangeSpec) : _root_.Go.OpenSpec := { _root_.Go.OpenSpec.ofChange s with cond := some uptoSmall }

/-- 'hoistwaylaw38.DiffLogs', WHERE WHAT IT READS IS OF BULK AT MOST 1048576: true; the input reads as it did. -/
def diffLogsUptoRow : OpenClaim := { program := "ytemakmnoncmpbaa", sum := "8d4bce2a46d1d1b1387ef081221801b5d107b04cce953714e876f542a1da92fe", func := "hoistway/hoistwaylaw38.DiffLogs", spec := "diffLogs", apart := false, narrowed := true }
def DiffLogsUptoSaid : Prop := diffLogsUptoRow.holds Try.pinned (OpenSpec.upto diffLogsSpec)

/-- 'hoistwaylaw38.DiffChanged', WHERE WHAT IT READS IS OF BULK AT MOST 1048576: true; the input reads as it did. -/
def diffChangedUptoRow : OpenClaim := { program := "ytemakmnoncmpbaa", sum := "8d4bce2a46d1d1b1387ef081221801b5d107b04cce953714e876f542a1da92fe", func := "hoistway/hoistwaylaw38.DiffChanged", spec := "diffChanged", apart := false, narrowed := true }
def DiffChangedUptoSaid : Prop := diffChangedUptoRow.holds Try.pinned (OpenSpec.upto diffChangedSpec)

end Rows
end Go.Proofs.Ytemakmnoncmpbaa

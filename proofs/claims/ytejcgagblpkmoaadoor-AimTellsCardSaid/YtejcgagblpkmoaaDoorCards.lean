/-
  DERIVED. GIVEN WITH THE SEED: THE CARDS: each row of YtejcgagblpkmoaaDoorRows.lean that lists a variable, with what it lists TIED to the program's text (the seventh form; the later family's looks); each row that meets fmt, with fmt's text TOLD by the authors' own Lean function (tested against real Go, not proved from fmt's source: count such statements apart). THE CARD IS WHAT COUNTS. Prove the row's statement (the work); the ties are given (YtejcgagblpkmoaaDoorTie.lean); close each card by the builder's one call (the guide's Derived/Test/ToyasCard.lean, 'card_holds'). Laid BY PROGRAM, IN A SANDBOX (cutbox-door.mjs). By AI agents, Wed Nov 11 2026. No macro, syntax, notation, axiom, sorry.
-/
import Derived.Test.YtejcgagblpkmoaaDoorRows
import GoSem.ClaimSeven
namespace Go.Proofs.YtejcgagblpkmoaaDoor
namespace Rows

/-- THE TIED CARD OF 'hoistwaylaw34.EtaLeast'. -/
def etaLeastCard : Claim7 := { stood := { row := etaLeastRow, standIns := [], harness := (true, "706f09171592e8d5a1f2901400f97b83231cdc4b4b1c2299ed7be9150e62b402"), looks := false }, kinds := [], alts := [], laidByText := true, laidKinds := [.data], laidTests := true, laidLooks := .later }
def EtaLeastCardSaid : Prop := Claim7.holds Tryd.pinned (.plain (OpenSpec.ofChange etaLeastSpec)) etaLeastCard

/-- THE TIED CARD OF 'hoistwaylaw34.EtaTells'. -/
def etaTellsCard : Claim7 := { stood := { row := etaTellsRow, standIns := [], harness := (true, "706f09171592e8d5a1f2901400f97b83231cdc4b4b1c2299ed7be9150e62b402"), looks := false }, kinds := [], alts := [], laidByText := true, laidKinds := [.data], laidTests := true, laidLooks := .later }
def EtaTellsCardSaid : Prop := Claim7.holds Tryd.pinned (.plain (OpenSpec.ofChange etaTellsSpec)) etaTellsCard

/-- THE TIED CARD OF 'hoistwaylaw41.AimTells'. -/
def aimTellsCard : Claim7 := { stood := { row := aimTellsRow, standIns := [], harness := (true, "706f09171592e8d5a1f2901400f97b83231cdc4b4b1c2299ed7be9150e62b402"), looks := false }, kinds := [], alts := [], laidByText := true, laidKinds := [.data], laidTests := true, laidLooks := .later }
def AimTellsCardSaid : Prop := Claim7.holds Tryd.pinned (.plain (OpenSpec.ofChange aimTellsSpec)) aimTellsCard

/-- THE SECOND FORM's CARD OF 'hoistwaylaw34.EtaLeast'. -/
def etaLeastUptoCard : Claim7 := { stood := { row := etaLeastUptoRow, standIns := [], harness := (true, "706f09171592e8d5a1f2901400f97b83231cdc4b4b1c2299ed7be9150e62b402"), looks := false }, kinds := [], alts := [], laidByText := true, laidKinds := [.data], laidTests := true, laidLooks := .later }
def EtaLeastUptoCardSaid : Prop := Claim7.holds Tryd.pinned (.plain (OpenSpec.upto etaLeastSpec)) etaLeastUptoCard

/-- THE SECOND FORM's CARD OF 'hoistwaylaw34.EtaTells'. -/
def etaTellsUptoCard : Claim7 := { stood := { row := etaTellsUptoRow, standIns := [], harness := (true, "706f09171592e8d5a1f2901400f97b83231cdc4b4b1c2299ed7be9150e62b402"), looks := false }, kinds := [], alts := [], laidByText := true, laidKinds := [.data], laidTests := true, laidLooks := .later }
def EtaTellsUptoCardSaid : Prop := Claim7.holds Tryd.pinned (.plain (OpenSpec.upto etaTellsSpec)) etaTellsUptoCard

/-- THE SECOND FORM's CARD OF 'hoistwaylaw41.AimTells'. -/
def aimTellsUptoCard : Claim7 := { stood := { row := aimTellsUptoRow, standIns := [], harness := (true, "706f09171592e8d5a1f2901400f97b83231cdc4b4b1c2299ed7be9150e62b402"), looks := false }, kinds := [], alts := [], laidByText := true, laidKinds := [.data], laidTests := true, laidLooks := .later }
def AimTellsUptoCardSaid : Prop := Claim7.holds Tryd.pinned (.plain (OpenSpec.upto aimTellsSpec)) aimTellsUptoCard
end Rows
end Go.Proofs.YtejcgagblpkmoaaDoor

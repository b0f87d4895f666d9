/-
  DERIVED. GIVEN WITH THE SEED: THE CARDS: each row of YtlcnhpjmmjmkcaaDoorRows.lean that lists a variable, with what it lists TIED to the program's text (the seventh form; the later family's looks); each row that meets fmt, with fmt's text TOLD by the authors' own Lean function (tested against real Go, not proved from fmt's source: count such statements apart). THE CARD IS WHAT COUNTS. Prove the row's statement (the work); the ties are given (YtlcnhpjmmjmkcaaDoorTie.lean); close each card by the builder's one call (the guide's Derived/Test/ToyasCard.lean, 'card_holds'). Laid BY PROGRAM, IN A SANDBOX (cutbox-door.mjs). By AI agents, Wed Nov 11 2026. No macro, syntax, notation, axiom, sorry.
-/
import Derived.Test.YtlcnhpjmmjmkcaaDoorRows
import GoSem.ClaimSeven
namespace Go.Proofs.YtlcnhpjmmjmkcaaDoor
namespace Rows

/-- THE TIED CARD OF 'hoistwaylaw30.WantBeyond'. -/
def wantBeyondCard : Claim7 := { stood := { row := wantBeyondRow, standIns := [], harness := (true, "a3b3fb79f5e8cdb1b890d9389d632a69c0abd1ec7b0d602818bfa6fc50bcd19d"), looks := false }, kinds := [], alts := [], laidByText := true, laidKinds := [.data], laidTests := true, laidLooks := .later }
def WantBeyondCardSaid : Prop := Claim7.holds Tryd.pinned (.plain (OpenSpec.ofChange wantBeyondSpec)) wantBeyondCard

/-- THE TIED CARD OF 'hoistwaylaw03.BitsShift'. -/
def bitsShiftCard : Claim7 := { stood := { row := bitsShiftRow, standIns := [], harness := (true, "a3b3fb79f5e8cdb1b890d9389d632a69c0abd1ec7b0d602818bfa6fc50bcd19d"), looks := false }, kinds := [], alts := [], laidByText := true, laidKinds := [.data], laidTests := true, laidLooks := .later }
def BitsShiftCardSaid : Prop := Claim7.holds Tryd.pinned (.plain (OpenSpec.ofChange bitsShiftSpec)) bitsShiftCard

/-- THE TIED CARD OF 'hoistwaylaw03.BitsSets'. -/
def bitsSetsCard : Claim7 := { stood := { row := bitsSetsRow, standIns := [], harness := (true, "a3b3fb79f5e8cdb1b890d9389d632a69c0abd1ec7b0d602818bfa6fc50bcd19d"), looks := false }, kinds := [], alts := [], laidByText := true, laidKinds := [.data], laidTests := true, laidLooks := .later }
def BitsSetsCardSaid : Prop := Claim7.holds Tryd.pinned (.plain (OpenSpec.ofChange bitsSetsSpec)) bitsSetsCard

/-- THE TIED CARD OF 'hoistwaylaw03.BitsTell'. -/
def bitsTellCard : Claim7 := { stood := { row := bitsTellRow, standIns := [], harness := (true, "a3b3fb79f5e8cdb1b890d9389d632a69c0abd1ec7b0d602818bfa6fc50bcd19d"), looks := false }, kinds := [], alts := [], laidByText := true, laidKinds := [.data], laidTests := true, laidLooks := .later }
def BitsTellCardSaid : Prop := Claim7.holds Tryd.pinned (.plain (OpenSpec.ofChange bitsTellSpec)) bitsTellCard

/-- THE TIED CARD OF 'hoistwaylaw30.WantTells'. -/
def wantTellsCard : Claim7 := { stood := { row := wantTellsRow, standIns := [], harness := (true, "a3b3fb79f5e8cdb1b890d9389d632a69c0abd1ec7b0d602818bfa6fc50bcd19d"), looks := false }, kinds := [], alts := [], laidByText := true, laidKinds := [.data], laidTests := true, laidLooks := .later }
def WantTellsCardSaid : Prop := Claim7.holds Tryd.pinned (.plain (OpenSpec.ofChange wantTellsSpec)) wantTellsCard

/-- THE TIED CARD OF 'hoistwaylaw03.BitsOrder'. -/
def bitsOrderCard : Claim7 := { stood := { row := bitsOrderRow, standIns := [], harness := (true, "a3b3fb79f5e8cdb1b890d9389d632a69c0abd1ec7b0d602818bfa6fc50bcd19d"), looks := false }, kinds := [], alts := [], laidByText := true, laidKinds := [.data], laidTests := true, laidLooks := .later }
def BitsOrderCardSaid : Prop := Claim7.holds Tryd.pinned (.plain (OpenSpec.ofChange bitsOrderSpec)) bitsOrderCard

/-- THE SECOND FORM's CARD OF 'hoistwaylaw30.WantBeyond'. -/
def wantBeyondUptoCard : Claim7 := { stood := { row := wantBeyondUptoRow, standIns := [], harness := (true, "a3b3fb79f5e8cdb1b890d9389d632a69c0abd1ec7b0d602818bfa6fc50bcd19d"), looks := false }, kinds := [], alts := [], laidByText := true, laidKinds := [.data], laidTests := true, laidLooks := .later }
def WantBeyondUptoCardSaid : Prop := Claim7.holds Tryd.pinned (.plain (OpenSpec.upto wantBeyondSpec)) wantBeyondUptoCard

/-- THE SECOND FORM's CARD OF 'hoistwaylaw03.BitsShift'. -/
def bitsShiftUptoCard : Claim7 := { stood := { row := bitsShiftUptoRow, standIns := [], harness := (true, "a3b3fb79f5e8cdb1b890d9389d632a69c0abd1ec7b0d602818bfa6fc50bcd19d"), looks := false }, kinds := [], alts := [], laidByText := true, laidKinds := [.data], laidTests := true, laidLooks := .later }
def BitsShiftUptoCardSaid : Prop := Claim7.holds Tryd.pinned (.plain (OpenSpec.upto bitsShiftSpec)) bitsShiftUptoCard

/-- THE SECOND FORM's CARD OF 'hoistwaylaw03.BitsSets'. -/
def bitsSetsUptoCard : Claim7 := { stood := { row := bitsSetsUptoRow, standIns := [], harness := (true, "a3b3fb79f5e8cdb1b890d9389d632a69c0abd1ec7b0d602818bfa6fc50bcd19d"), looks := false }, kinds := [], alts := [], laidByText := true, laidKinds := [.data], laidTests := true, laidLooks := .later }
def BitsSetsUptoCardSaid : Prop := Claim7.holds Tryd.pinned (.plain (OpenSpec.upto bitsSetsSpec)) bitsSetsUptoCard

/-- THE SECOND FORM's CARD OF 'hoistwaylaw03.BitsTell'. -/
def bitsTellUptoCard : Claim7 := { stood := { row := bitsTellUptoRow, standIns := [], harness := (true, "a3b3fb79f5e8cdb1b890d9389d632a69c0abd1ec7b0d602818bfa6fc50bcd19d"), looks := false }, kinds := [], alts := [], laidByText := true, laidKinds := [.data], laidTests := true, laidLooks := .later }
def BitsTellUptoCardSaid : Prop := Claim7.holds Tryd.pinned (.plain (OpenSpec.upto bitsTellSpec)) bitsTellUptoCard

/-- THE SECOND FORM's CARD OF 'hoistwaylaw30.WantTells'. -/
def wantTellsUptoCard : Claim7 := { stood := { row := wantTellsUptoRow, standIns := [], harness := (true, "a3b3fb79f5e8cdb1b890d9389d632a69c0abd1ec7b0d602818bfa6fc50bcd19d"), looks := false }, kinds := [], alts := [], laidByText := true, laidKinds := [.data], laidTests := true, laidLooks := .later }
def WantTellsUptoCardSaid : Prop := Claim7.holds Tryd.pinned (.plain (OpenSpec.upto wantTellsSpec)) wantTellsUptoCard

/-- THE SECOND FORM's CARD OF 'hoistwaylaw03.BitsOrder'. -/
def bitsOrderUptoCard : Claim7 := { stood := { row := bitsOrderUptoRow, standIns := [], harness := (true, "a3b3fb79f5e8cdb1b890d9389d632a69c0abd1ec7b0d602818bfa6fc50bcd19d"), looks := false }, kinds := [], alts := [], laidByText := true, laidKinds := [.data], laidTests := true, laidLooks := .later }
def BitsOrderUptoCardSaid : Prop := Claim7.holds Tryd.pinned (.plain (OpenSpec.upto bitsOrderSpec)) bitsOrderUptoCard
end Rows
end Go.Proofs.YtlcnhpjmmjmkcaaDoor

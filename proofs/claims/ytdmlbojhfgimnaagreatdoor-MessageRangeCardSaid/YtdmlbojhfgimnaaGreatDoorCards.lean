/-
  DERIVED. GIVEN WITH THE SEED: THE CARDS: each row of YtdmlbojhfgimnaaGreatDoorRows.lean that lists a variable, with what it lists TIED to the program's text (the seventh form; the later family's looks); each row that meets fmt, with fmt's text TOLD by the authors' own Lean function (tested against real Go, not proved from fmt's source: count such statements apart). THE CARD IS WHAT COUNTS. Prove the row's statement (the work); the ties are given (YtdmlbojhfgimnaaGreatDoorTie.lean); close each card by the builder's one call (the guide's Derived/Test/ToyasCard.lean, 'card_holds'). Laid BY PROGRAM, IN A SANDBOX (cutbox-door.mjs). By AI agents, Wed Nov 11 2026. No macro, syntax, notation, axiom, sorry.
-/
import Derived.Test.YtdmlbojhfgimnaaGreatDoorRows
import GoSem.ClaimSeven
namespace Go.Proofs.YtdmlbojhfgimnaaGreatDoor
namespace Rows

/-- THE TIED CARD OF 'rillbedlaw09.MessagePuts'. -/
def messagePutsCard : Claim7 := { stood := { row := messagePutsRow, standIns := [], harness := (true, "fb1ac394135317b1e6ea998e536a799e657614700ddb8ac50fe58add7dc3eb8f"), looks := false }, kinds := [], alts := [], laidByText := true, laidKinds := [.data, .pinned], laidTests := true, laidLooks := .later }
def MessagePutsCardSaid : Prop := Claim7.holds Tryz.pinned (.plain (OpenSpec.ofChange messagePutsSpec)) messagePutsCard

/-- THE TIED CARD OF 'rillbedlaw09.MessageTakes'. -/
def messageTakesCard : Claim7 := { stood := { row := messageTakesRow, standIns := [], harness := (true, "fb1ac394135317b1e6ea998e536a799e657614700ddb8ac50fe58add7dc3eb8f"), looks := false }, kinds := [], alts := [], laidByText := true, laidKinds := [.data, .pinned], laidTests := true, laidLooks := .later }
def MessageTakesCardSaid : Prop := Claim7.holds Tryz.pinned (.plain (OpenSpec.ofChange messageTakesSpec)) messageTakesCard

/-- THE TIED CARD OF 'rillbedlaw09.MessageDoes'. -/
def messageDoesCard : Claim7 := { stood := { row := messageDoesRow, standIns := [], harness := (true, "fb1ac394135317b1e6ea998e536a799e657614700ddb8ac50fe58add7dc3eb8f"), looks := false }, kinds := [], alts := [], laidByText := true, laidKinds := [.data, .pinned], laidTests := true, laidLooks := .later }
def MessageDoesCardSaid : Prop := Claim7.holds Tryz.pinned (.plain (OpenSpec.ofChange messageDoesSpec)) messageDoesCard

/-- THE TIED CARD OF 'rillbedlaw09.MessageParts'. -/
def messagePartsCard : Claim7 := { stood := { row := messagePartsRow, standIns := [], harness := (true, "fb1ac394135317b1e6ea998e536a799e657614700ddb8ac50fe58add7dc3eb8f"), looks := false }, kinds := [], alts := [], laidByText := true, laidKinds := [.data, .pinned], laidTests := true, laidLooks := .later }
def MessagePartsCardSaid : Prop := Claim7.holds Tryz.pinned (.plain (OpenSpec.ofChange messagePartsSpec)) messagePartsCard

/-- THE TIED CARD OF 'rillbedlaw09.MessageRange'. -/
def messageRangeCard : Claim7 := { stood := { row := messageRangeRow, standIns := [], harness := (true, "fb1ac394135317b1e6ea998e536a799e657614700ddb8ac50fe58add7dc3eb8f"), looks := false }, kinds := [], alts := [], laidByText := true, laidKinds := [.data, .pinned], laidTests := true, laidLooks := .later }
def MessageRangeCardSaid : Prop := Claim7.holds Tryz.pinned (.plain (OpenSpec.ofChange messageRangeSpec)) messageRangeCard

/-- THE TIED CARD OF 'rillbedlaw09.MessageKnown'. -/
def messageKnownCard : Claim7 := { stood := { row := messageKnownRow, standIns := [], harness := (true, "fb1ac394135317b1e6ea998e536a799e657614700ddb8ac50fe58add7dc3eb8f"), looks := false }, kinds := [], alts := [], laidByText := true, laidKinds := [.data, .pinned], laidTests := true, laidLooks := .later }
def MessageKnownCardSaid : Prop := Claim7.holds Tryz.pinned (.plain (OpenSpec.ofChange messageKnownSpec)) messageKnownCard

/-- THE SECOND FORM's CARD OF 'rillbedlaw09.MessagePuts'. -/
def messagePutsUptoCard : Claim7 := { stood := { row := messagePutsUptoRow, standIns := [], harness := (true, "fb1ac394135317b1e6ea998e536a799e657614700ddb8ac50fe58add7dc3eb8f"), looks := false }, kinds := [], alts := [], laidByText := true, laidKinds := [.data, .pinned], laidTests := true, laidLooks := .later }
def MessagePutsUptoCardSaid : Prop := Claim7.holds Tryz.pinned (.plain (OpenSpec.upto messagePutsSpec)) messagePutsUptoCard

/-- THE SECOND FORM's CARD OF 'rillbedlaw09.MessageTakes'. -/
def messageTakesUptoCard : Claim7 := { stood := { row := messageTakesUptoRow, standIns := [], harness := (true, "fb1ac394135317b1e6ea998e536a799e657614700ddb8ac50fe58add7dc3eb8f"), looks := false }, kinds := [], alts := [], laidByText := true, laidKinds := [.data, .pinned], laidTests := true, laidLooks := .later }
def MessageTakesUptoCardSaid : Prop := Claim7.holds Tryz.pinned (.plain (OpenSpec.upto messageTakesSpec)) messageTakesUptoCard

/-- THE SECOND FORM's CARD OF 'rillbedlaw09.MessageDoes'. -/
def messageDoesUptoCard : Claim7 := { stood := { row := messageDoesUptoRow, standIns := [], harness := (true, "fb1ac394135317b1e6ea998e536a799e657614700ddb8ac50fe58add7dc3eb8f"), looks := false }, kinds := [], alts := [], laidByText := true, laidKinds := [.data, .pinned], laidTests := true, laidLooks := .later }
def MessageDoesUptoCardSaid : Prop := Claim7.holds Tryz.pinned (.plain (OpenSpec.upto messageDoesSpec)) messageDoesUptoCard

/-- THE SECOND FORM's CARD OF 'rillbedlaw09.MessageParts'. -/
def messagePartsUptoCard : Claim7 := { stood := { row := messagePartsUptoRow, standIns := [], harness := (true, "fb1ac394135317b1e6ea998e536a799e657614700ddb8ac50fe58add7dc3eb8f"), looks := false }, kinds := [], alts := [], laidByText := true, laidKinds := [.data, .pinned], laidTests := true, laidLooks := .later }
def MessagePartsUptoCardSaid : Prop := Claim7.holds Tryz.pinned (.plain (OpenSpec.upto messagePartsSpec)) messagePartsUptoCard

/-- THE SECOND FORM's CARD OF 'rillbedlaw09.MessageRange'. -/
def messageRangeUptoCard : Claim7 := { stood := { row := messageRangeUptoRow, standIns := [], harness := (true, "fb1ac394135317b1e6ea998e536a799e657614700ddb8ac50fe58add7dc3eb8f"), looks := false }, kinds := [], alts := [], laidByText := true, laidKinds := [.data, .pinned], laidTests := true, laidLooks := .later }
def MessageRangeUptoCardSaid : Prop := Claim7.holds Tryz.pinned (.plain (OpenSpec.upto messageRangeSpec)) messageRangeUptoCard

/-- THE SECOND FORM's CARD OF 'rillbedlaw09.MessageKnown'. -/
def messageKnownUptoCard : Claim7 := { stood := { row := messageKnownUptoRow, standIns := [], harness := (true, "fb1ac394135317b1e6ea998e536a799e657614700ddb8ac50fe58add7dc3eb8f"), looks := false }, kinds := [], alts := [], laidByText := true, laidKinds := [.data, .pinned], laidTests := true, laidLooks := .later }
def MessageKnownUptoCardSaid : Prop := Claim7.holds Tryz.pinned (.plain (OpenSpec.upto messageKnownSpec)) messageKnownUptoCard
end Rows
end Go.Proofs.YtdmlbojhfgimnaaGreatDoor

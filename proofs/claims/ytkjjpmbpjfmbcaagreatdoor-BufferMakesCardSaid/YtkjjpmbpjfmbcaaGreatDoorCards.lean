/-
  DERIVED. GIVEN WITH THE SEED: THE CARDS: each row of YtkjjpmbpjfmbcaaGreatDoorRows.lean that lists a variable, with what it lists TIED to the program's text (the seventh form; the later family's looks); each row that meets fmt, with fmt's text TOLD by the authors' own Lean function (tested against real Go, not proved from fmt's source: count such statements apart). THE CARD IS WHAT COUNTS. Prove the row's statement (the work); the ties are given (YtkjjpmbpjfmbcaaGreatDoorTie.lean); close each card by the builder's one call (the guide's Derived/Test/ToyasCard.lean, 'card_holds'). Laid BY PROGRAM, IN A SANDBOX (cutbox-door.mjs). By AI agents, Wed Nov 11 2026. No macro, syntax, notation, axiom, sorry.
-/
import Derived.Test.YtkjjpmbpjfmbcaaGreatDoorRows
import GoSem.ClaimSeven
namespace Go.Proofs.YtkjjpmbpjfmbcaaGreatDoor
namespace Rows

/-- THE TIED CARD OF 'rillbedlaw17.BufferParts'. -/
def bufferPartsCard : Claim7 := { stood := { row := bufferPartsRow, standIns := [], harness := (true, "47c9bd654a8b5e4b2f7bcf25fe2509a0199957cd830e3eed3af689e90e4a2216"), looks := false }, kinds := [], alts := [], laidByText := true, laidKinds := [.data, .pinned], laidTests := true, laidLooks := .later }
def BufferPartsCardSaid : Prop := Claim7.holds Tryz.pinned (.plain (OpenSpec.ofChange bufferPartsSpec)) bufferPartsCard

/-- THE TIED CARD OF 'rillbedlaw17.BufferTakes'. -/
def bufferTakesCard : Claim7 := { stood := { row := bufferTakesRow, standIns := [], harness := (true, "47c9bd654a8b5e4b2f7bcf25fe2509a0199957cd830e3eed3af689e90e4a2216"), looks := false }, kinds := [], alts := [], laidByText := true, laidKinds := [.data, .pinned], laidTests := true, laidLooks := .later }
def BufferTakesCardSaid : Prop := Claim7.holds Tryz.pinned (.plain (OpenSpec.ofChange bufferTakesSpec)) bufferTakesCard

/-- THE TIED CARD OF 'rillbedlaw17.BufferDoes'. -/
def bufferDoesCard : Claim7 := { stood := { row := bufferDoesRow, standIns := [], harness := (true, "47c9bd654a8b5e4b2f7bcf25fe2509a0199957cd830e3eed3af689e90e4a2216"), looks := false }, kinds := [], alts := [], laidByText := true, laidKinds := [.data, .pinned], laidTests := true, laidLooks := .later }
def BufferDoesCardSaid : Prop := Claim7.holds Tryz.pinned (.plain (OpenSpec.ofChange bufferDoesSpec)) bufferDoesCard

/-- THE TIED CARD OF 'rillbedlaw17.BufferMakes'. -/
def bufferMakesCard : Claim7 := { stood := { row := bufferMakesRow, standIns := [], harness := (true, "47c9bd654a8b5e4b2f7bcf25fe2509a0199957cd830e3eed3af689e90e4a2216"), looks := false }, kinds := [], alts := [], laidByText := true, laidKinds := [.data, .pinned], laidTests := true, laidLooks := .later }
def BufferMakesCardSaid : Prop := Claim7.holds Tryz.pinned (.plain (OpenSpec.ofChange bufferMakesSpec)) bufferMakesCard

/-- THE TIED CARD OF 'rillbedlaw16.RunApplies'. -/
def runAppliesCard : Claim7 := { stood := { row := runAppliesRow, standIns := [], harness := (true, "47c9bd654a8b5e4b2f7bcf25fe2509a0199957cd830e3eed3af689e90e4a2216"), looks := false }, kinds := [], alts := [], laidByText := true, laidKinds := [.data, .listed, .data, .pinned], laidTests := true, laidLooks := .later }
def RunAppliesCardSaid : Prop := Claim7.holds Tryz.pinned (.plain (OpenSpec.ofChange runAppliesSpec)) runAppliesCard

/-- THE TIED CARD OF 'rillbedlaw16.RunEach'. -/
def runEachCard : Claim7 := { stood := { row := runEachRow, standIns := [], harness := (true, "47c9bd654a8b5e4b2f7bcf25fe2509a0199957cd830e3eed3af689e90e4a2216"), looks := false }, kinds := [], alts := [], laidByText := true, laidKinds := [.data, .listed, .data, .pinned], laidTests := true, laidLooks := .later }
def RunEachCardSaid : Prop := Claim7.holds Tryz.pinned (.plain (OpenSpec.ofChange runEachSpec)) runEachCard

/-- THE TIED CARD OF 'rillbedlaw17.BufferKnown'. -/
def bufferKnownCard : Claim7 := { stood := { row := bufferKnownRow, standIns := [], harness := (true, "47c9bd654a8b5e4b2f7bcf25fe2509a0199957cd830e3eed3af689e90e4a2216"), looks := false }, kinds := [], alts := [], laidByText := true, laidKinds := [.data, .pinned], laidTests := true, laidLooks := .later }
def BufferKnownCardSaid : Prop := Claim7.holds Tryz.pinned (.plain (OpenSpec.ofChange bufferKnownSpec)) bufferKnownCard

/-- THE TIED CARD OF 'rillbedlaw16.RunHalves'. -/
def runHalvesCard : Claim7 := { stood := { row := runHalvesRow, standIns := [], harness := (true, "47c9bd654a8b5e4b2f7bcf25fe2509a0199957cd830e3eed3af689e90e4a2216"), looks := false }, kinds := [], alts := [], laidByText := true, laidKinds := [.data, .listed, .data, .pinned], laidTests := true, laidLooks := .later }
def RunHalvesCardSaid : Prop := Claim7.holds Tryz.pinned (.plain (OpenSpec.ofChange runHalvesSpec)) runHalvesCard

/-- THE TIED CARD OF 'rillbedlaw16.RunParts'. -/
def runPartsCard : Claim7 := { stood := { row := runPartsRow, standIns := [], harness := (true, "47c9bd654a8b5e4b2f7bcf25fe2509a0199957cd830e3eed3af689e90e4a2216"), looks := false }, kinds := [], alts := [], laidByText := true, laidKinds := [.data, .listed, .data, .pinned], laidTests := true, laidLooks := .later }
def RunPartsCardSaid : Prop := Claim7.holds Tryz.pinned (.plain (OpenSpec.ofChange runPartsSpec)) runPartsCard

/-- THE TIED CARD OF 'rillbedlaw16.RunTells'. -/
def runTellsCard : Claim7 := { stood := { row := runTellsRow, standIns := [], harness := (true, "47c9bd654a8b5e4b2f7bcf25fe2509a0199957cd830e3eed3af689e90e4a2216"), looks := false }, kinds := [], alts := [], laidByText := true, laidKinds := [.data, .listed, .data, .pinned], laidTests := true, laidLooks := .later }
def RunTellsCardSaid : Prop := Claim7.holds Tryz.pinned (.plain (OpenSpec.ofChange runTellsSpec)) runTellsCard

/-- THE TIED CARD OF 'rillbedlaw16.RunKnown'. -/
def runKnownCard : Claim7 := { stood := { row := runKnownRow, standIns := [], harness := (true, "47c9bd654a8b5e4b2f7bcf25fe2509a0199957cd830e3eed3af689e90e4a2216"), looks := false }, kinds := [], alts := [], laidByText := true, laidKinds := [.data, .listed, .data, .pinned], laidTests := true, laidLooks := .later }
def RunKnownCardSaid : Prop := Claim7.holds Tryz.pinned (.plain (OpenSpec.ofChange runKnownSpec)) runKnownCard

/-- THE SECOND FORM's CARD OF 'rillbedlaw17.BufferParts'. -/
def bufferPartsUptoCard : Claim7 := { stood := { row := bufferPartsUptoRow, standIns := [], harness := (true, "47c9bd654a8b5e4b2f7bcf25fe2509a0199957cd830e3eed3af689e90e4a2216"), looks := false }, kinds := [], alts := [], laidByText := true, laidKinds := [.data, .pinned], laidTests := true, laidLooks := .later }
def BufferPartsUptoCardSaid : Prop := Claim7.holds Tryz.pinned (.plain (OpenSpec.upto bufferPartsSpec)) bufferPartsUptoCard

/-- THE SECOND FORM's CARD OF 'rillbedlaw17.BufferTakes'. -/
def bufferTakesUptoCard : Claim7 := { stood := { row := bufferTakesUptoRow, standIns := [], harness := (true, "47c9bd654a8b5e4b2f7bcf25fe2509a0199957cd830e3eed3af689e90e4a2216"), looks := false }, kinds := [], alts := [], laidByText := true, laidKinds := [.data, .pinned], laidTests := true, laidLooks := .later }
def BufferTakesUptoCardSaid : Prop := Claim7.holds Tryz.pinned (.plain (OpenSpec.upto bufferTakesSpec)) bufferTakesUptoCard

/-- THE SECOND FORM's CARD OF 'rillbedlaw17.BufferDoes'. -/
def bufferDoesUptoCard : Claim7 := { stood := { row := bufferDoesUptoRow, standIns := [], harness := (true, "47c9bd654a8b5e4b2f7bcf25fe2509a0199957cd830e3eed3af689e90e4a2216"), looks := false }, kinds := [], alts := [], laidByText := true, laidKinds := [.data, .pinned], laidTests := true, laidLooks := .later }
def BufferDoesUptoCardSaid : Prop := Claim7.holds Tryz.pinned (.plain (OpenSpec.upto bufferDoesSpec)) bufferDoesUptoCard

/-- THE SECOND FORM's CARD OF 'rillbedlaw17.BufferMakes'. -/
def bufferMakesUptoCard : Claim7 := { stood := { row := bufferMakesUptoRow, standIns := [], harness := (true, "47c9bd654a8b5e4b2f7bcf25fe2509a0199957cd830e3eed3af689e90e4a2216"), looks := false }, kinds := [], alts := [], laidByText := true, laidKinds := [.data, .pinned], laidTests := true, laidLooks := .later }
def BufferMakesUptoCardSaid : Prop := Claim7.holds Tryz.pinned (.plain (OpenSpec.upto bufferMakesSpec)) bufferMakesUptoCard

/-- THE SECOND FORM's CARD OF 'rillbedlaw16.RunApplies'. -/
def runAppliesUptoCard : Claim7 := { stood := { row := runAppliesUptoRow, standIns := [], harness := (true, "47c9bd654a8b5e4b2f7bcf25fe2509a0199957cd830e3eed3af689e90e4a2216"), looks := false }, kinds := [], alts := [], laidByText := true, laidKinds := [.data, .listed, .data, .pinned], laidTests := true, laidLooks := .later }
def RunAppliesUptoCardSaid : Prop := Claim7.holds Tryz.pinned (.plain (OpenSpec.upto runAppliesSpec)) runAppliesUptoCard

/-- THE SECOND FORM's CARD OF 'rillbedlaw16.RunEach'. -/
def runEachUptoCard : Claim7 := { stood := { row := runEachUptoRow, standIns := [], harness := (true, "47c9bd654a8b5e4b2f7bcf25fe2509a0199957cd830e3eed3af689e90e4a2216"), looks := false }, kinds := [], alts := [], laidByText := true, laidKinds := [.data, .listed, .data, .pinned], laidTests := true, laidLooks := .later }
def RunEachUptoCardSaid : Prop := Claim7.holds Tryz.pinned (.plain (OpenSpec.upto runEachSpec)) runEachUptoCard

/-- THE SECOND FORM's CARD OF 'rillbedlaw17.BufferKnown'. -/
def bufferKnownUptoCard : Claim7 := { stood := { row := bufferKnownUptoRow, standIns := [], harness := (true, "47c9bd654a8b5e4b2f7bcf25fe2509a0199957cd830e3eed3af689e90e4a2216"), looks := false }, kinds := [], alts := [], laidByText := true, laidKinds := [.data, .pinned], laidTests := true, laidLooks := .later }
def BufferKnownUptoCardSaid : Prop := Claim7.holds Tryz.pinned (.plain (OpenSpec.upto bufferKnownSpec)) bufferKnownUptoCard

/-- THE SECOND FORM's CARD OF 'rillbedlaw16.RunHalves'. -/
def runHalvesUptoCard : Claim7 := { stood := { row := runHalvesUptoRow, standIns := [], harness := (true, "47c9bd654a8b5e4b2f7bcf25fe2509a0199957cd830e3eed3af689e90e4a2216"), looks := false }, kinds := [], alts := [], laidByText := true, laidKinds := [.data, .listed, .data, .pinned], laidTests := true, laidLooks := .later }
def RunHalvesUptoCardSaid : Prop := Claim7.holds Tryz.pinned (.plain (OpenSpec.upto runHalvesSpec)) runHalvesUptoCard

/-- THE SECOND FORM's CARD OF 'rillbedlaw16.RunParts'. -/
def runPartsUptoCard : Claim7 := { stood := { row := runPartsUptoRow, standIns := [], harness := (true, "47c9bd654a8b5e4b2f7bcf25fe2509a0199957cd830e3eed3af689e90e4a2216"), looks := false }, kinds := [], alts := [], laidByText := true, laidKinds := [.data, .listed, .data, .pinned], laidTests := true, laidLooks := .later }
def RunPartsUptoCardSaid : Prop := Claim7.holds Tryz.pinned (.plain (OpenSpec.upto runPartsSpec)) runPartsUptoCard

/-- THE SECOND FORM's CARD OF 'rillbedlaw16.RunTells'. -/
def runTellsUptoCard : Claim7 := { stood := { row := runTellsUptoRow, standIns := [], harness := (true, "47c9bd654a8b5e4b2f7bcf25fe2509a0199957cd830e3eed3af689e90e4a2216"), looks := false }, kinds := [], alts := [], laidByText := true, laidKinds := [.data, .listed, .data, .pinned], laidTests := true, laidLooks := .later }
def RunTellsUptoCardSaid : Prop := Claim7.holds Tryz.pinned (.plain (OpenSpec.upto runTellsSpec)) runTellsUptoCard

/-- THE SECOND FORM's CARD OF 'rillbedlaw16.RunKnown'. -/
def runKnownUptoCard : Claim7 := { stood := { row := runKnownUptoRow, standIns := [], harness := (true, "47c9bd654a8b5e4b2f7bcf25fe2509a0199957cd830e3eed3af689e90e4a2216"), looks := false }, kinds := [], alts := [], laidByText := true, laidKinds := [.data, .listed, .data, .pinned], laidTests := true, laidLooks := .later }
def RunKnownUptoCardSaid : Prop := Claim7.holds Tryz.pinned (.plain (OpenSpec.upto runKnownSpec)) runKnownUptoCard
end Rows
end Go.Proofs.YtkjjpmbpjfmbcaaGreatDoor

/-
  DERIVED. GIVEN WITH THE SEED: THE CARDS: each row of YtodgkbcgdbhpeaaGreatDoorRows.lean that lists a variable, with what it lists TIED to the program's text (the seventh form; the later family's looks); each row that meets fmt, with fmt's text TOLD by the authors' own Lean function (tested against real Go, not proved from fmt's source: count such statements apart). THE CARD IS WHAT COUNTS. Prove the row's statement (the work); the ties are given (YtodgkbcgdbhpeaaGreatDoorTie.lean); close each card by the builder's one call (the guide's Derived/Test/ToyasCard.lean, 'card_holds'). Laid BY PROGRAM, IN A SANDBOX (cutbox-door.mjs). By AI agents, Wed Nov 11 2026. No macro, syntax, notation, axiom, sorry.
-/
import Derived.Test.YtodgkbcgdbhpeaaGreatDoorRows
import GoSem.ClaimSeven
namespace Go.Proofs.YtodgkbcgdbhpeaaGreatDoor
namespace Rows

/-- THE TIED CARD OF 'bloomerykeep.AsmPlaces'. -/
def asmPlacesCard : Claim7 := { stood := { row := asmPlacesRow, standIns := [], harness := (true, "209bee2d4753532dab148583054165df6b25c9235a3e2b918ebb5d57d4073cb1"), looks := true }, kinds := [], alts := [], laidByText := true, laidKinds := [.data, .data, .data, .data, .data, .sentinel, .sentinel, .widerDeep, .pinned], laidTests := true, laidLooks := .later }
def AsmPlacesCardSaid : Prop := Claim7.holds Tryz.pinned (.plain (OpenSpec.ofChange asmPlacesSpec)) asmPlacesCard

/-- THE TIED CARD OF 'bloomerykeep.AsmBack'. -/
def asmBackCard : Claim7 := { stood := { row := asmBackRow, standIns := [], harness := (true, "209bee2d4753532dab148583054165df6b25c9235a3e2b918ebb5d57d4073cb1"), looks := true }, kinds := [], alts := [], laidByText := true, laidKinds := [.data, .data, .data, .data, .data, .sentinel, .sentinel, .widerDeep, .pinned], laidTests := true, laidLooks := .later }
def AsmBackCardSaid : Prop := Claim7.holds Tryz.pinned (.plain (OpenSpec.ofChange asmBackSpec)) asmBackCard

/-- THE TIED CARD OF 'bloomerylaw.AsmReads'. -/
def asmReadsCard : Claim7 := { stood := { row := asmReadsRow, standIns := [], harness := (true, "209bee2d4753532dab148583054165df6b25c9235a3e2b918ebb5d57d4073cb1"), looks := true }, kinds := [], alts := [], laidByText := true, laidKinds := [.data, .data, .data, .data, .handle, .data, .sentinel, .sentinel, .widerDeep, .data, .pinned], laidTests := true, laidLooks := .later }
def AsmReadsCardSaid : Prop := Claim7.holds Tryz.pinned (.plain (OpenSpec.ofChange asmReadsSpec)) asmReadsCard

/-- THE SECOND FORM's CARD OF 'bloomerykeep.AsmPlaces'. -/
def asmPlacesUptoCard : Claim7 := { stood := { row := asmPlacesUptoRow, standIns := [], harness := (true, "209bee2d4753532dab148583054165df6b25c9235a3e2b918ebb5d57d4073cb1"), looks := true }, kinds := [], alts := [], laidByText := true, laidKinds := [.data, .data, .data, .data, .data, .sentinel, .sentinel, .widerDeep, .pinned], laidTests := true, laidLooks := .later }
def AsmPlacesUptoCardSaid : Prop := Claim7.holds Tryz.pinned (.plain (OpenSpec.upto asmPlacesSpec)) asmPlacesUptoCard

/-- THE SECOND FORM's CARD OF 'bloomerykeep.AsmBack'. -/
def asmBackUptoCard : Claim7 := { stood := { row := asmBackUptoRow, standIns := [], harness := (true, "209bee2d4753532dab148583054165df6b25c9235a3e2b918ebb5d57d4073cb1"), looks := true }, kinds := [], alts := [], laidByText := true, laidKinds := [.data, .data, .data, .data, .data, .sentinel, .sentinel, .widerDeep, .pinned], laidTests := true, laidLooks := .later }
def AsmBackUptoCardSaid : Prop := Claim7.holds Tryz.pinned (.plain (OpenSpec.upto asmBackSpec)) asmBackUptoCard

/-- THE SECOND FORM's CARD OF 'bloomerylaw.AsmReads'. -/
def asmReadsUptoCard : Claim7 := { stood := { row := asmReadsUptoRow, standIns := [], harness := (true, "209bee2d4753532dab148583054165df6b25c9235a3e2b918ebb5d57d4073cb1"), looks := true }, kinds := [], alts := [], laidByText := true, laidKinds := [.data, .data, .data, .data, .handle, .data, .sentinel, .sentinel, .widerDeep, .data, .pinned], laidTests := true, laidLooks := .later }
def AsmReadsUptoCardSaid : Prop := Claim7.holds Tryz.pinned (.plain (OpenSpec.upto asmReadsSpec)) asmReadsUptoCard
end Rows
end Go.Proofs.YtodgkbcgdbhpeaaGreatDoor

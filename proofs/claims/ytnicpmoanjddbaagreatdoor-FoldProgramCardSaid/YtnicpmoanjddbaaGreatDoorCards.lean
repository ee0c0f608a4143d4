/-
  DERIVED. GIVEN WITH THE SEED: THE CARDS: each row of YtnicpmoanjddbaaGreatDoorRows.lean that lists a variable, with what it lists TIED to the program's text (the seventh form; the later family's looks); each row that meets fmt, with fmt's text TOLD by the authors' own Lean function (tested against real Go, not proved from fmt's source: count such statements apart). THE CARD IS WHAT COUNTS. Prove the row's statement (the work); the ties are given (YtnicpmoanjddbaaGreatDoorTie.lean); close each card by the builder's one call (the guide's Derived/Test/ToyasCard.lean, 'card_holds'). Laid BY PROGRAM, IN A SANDBOX (cutbox-door.mjs). By AI agents, Wed Nov 11 2026. No macro, syntax, notation, axiom, sorry.
-/
import Derived.Test.YtnicpmoanjddbaaGreatDoorRows
import GoSem.ClaimSeven
namespace Go.Proofs.YtnicpmoanjddbaaGreatDoor
namespace Rows

/-- THE TIED CARD OF 'bloomerykeep.MidFuel'. -/
def midFuelCard : Claim7 := { stood := { row := midFuelRow, standIns := [], harness := (true, "21dc633191040ed592078085f09a2bebd18823b41098bf2ebe6165cb7fdd9395"), looks := true }, kinds := [], alts := [], laidByText := true, laidKinds := [.data, .data, .data, .widerDeep, .data, .sentinel, .sentinel, .data, .widerDeep], laidTests := true, laidLooks := .later }
def MidFuelCardSaid : Prop := Claim7.holds Tryz.pinned (.plain (OpenSpec.ofChange midFuelSpec)) midFuelCard

/-- THE TIED CARD OF 'bloomerykeep.MidSame'. -/
def midSameCard : Claim7 := { stood := { row := midSameRow, standIns := [], harness := (true, "21dc633191040ed592078085f09a2bebd18823b41098bf2ebe6165cb7fdd9395"), looks := true }, kinds := [], alts := [], laidByText := true, laidKinds := [.data, .data, .data, .handle, .widerDeep, .data, .sentinel, .sentinel, .data, .widerDeep], laidTests := true, laidLooks := .later }
def MidSameCardSaid : Prop := Claim7.holds Tryz.pinned (.plain (OpenSpec.ofChange midSameSpec)) midSameCard

/-- THE TIED CARD OF 'bloomerykeep.FoldProgram'. -/
def foldProgramCard : Claim7 := { stood := { row := foldProgramRow, standIns := [], harness := (true, "21dc633191040ed592078085f09a2bebd18823b41098bf2ebe6165cb7fdd9395"), looks := true }, kinds := [], alts := [], laidByText := true, laidKinds := [.data, .data, .data, .widerDeep, .data, .sentinel, .sentinel, .data, .widerDeep], laidTests := true, laidLooks := .later }
def FoldProgramCardSaid : Prop := Claim7.holds Tryz.pinned (.plain (OpenSpec.ofChange foldProgramSpec)) foldProgramCard

/-- THE SECOND FORM's CARD OF 'bloomerykeep.MidFuel'. -/
def midFuelUptoCard : Claim7 := { stood := { row := midFuelUptoRow, standIns := [], harness := (true, "21dc633191040ed592078085f09a2bebd18823b41098bf2ebe6165cb7fdd9395"), looks := true }, kinds := [], alts := [], laidByText := true, laidKinds := [.data, .data, .data, .widerDeep, .data, .sentinel, .sentinel, .data, .widerDeep], laidTests := true, laidLooks := .later }
def MidFuelUptoCardSaid : Prop := Claim7.holds Tryz.pinned (.plain (OpenSpec.upto midFuelSpec)) midFuelUptoCard

/-- THE SECOND FORM's CARD OF 'bloomerykeep.MidSame'. -/
def midSameUptoCard : Claim7 := { stood := { row := midSameUptoRow, standIns := [], harness := (true, "21dc633191040ed592078085f09a2bebd18823b41098bf2ebe6165cb7fdd9395"), looks := true }, kinds := [], alts := [], laidByText := true, laidKinds := [.data, .data, .data, .handle, .widerDeep, .data, .sentinel, .sentinel, .data, .widerDeep], laidTests := true, laidLooks := .later }
def MidSameUptoCardSaid : Prop := Claim7.holds Tryz.pinned (.plain (OpenSpec.upto midSameSpec)) midSameUptoCard

/-- THE SECOND FORM's CARD OF 'bloomerykeep.FoldProgram'. -/
def foldProgramUptoCard : Claim7 := { stood := { row := foldProgramUptoRow, standIns := [], harness := (true, "21dc633191040ed592078085f09a2bebd18823b41098bf2ebe6165cb7fdd9395"), looks := true }, kinds := [], alts := [], laidByText := true, laidKinds := [.data, .data, .data, .widerDeep, .data, .sentinel, .sentinel, .data, .widerDeep], laidTests := true, laidLooks := .later }
def FoldProgramUptoCardSaid : Prop := Claim7.holds Tryz.pinned (.plain (OpenSpec.upto foldProgramSpec)) foldProgramUptoCard
end Rows
end Go.Proofs.YtnicpmoanjddbaaGreatDoor

/-
  DERIVED. GIVEN WITH THE SEED: THE CARDS: each row of YtdgedlhefjmcpaaGreatDoorRows.lean that lists a variable, with what it lists TIED to the program's text (the seventh form; the later family's looks); each row that meets fmt, with fmt's text TOLD by the authors' own Lean function (tested against real Go, not proved from fmt's source: count such statements apart). THE CARD IS WHAT COUNTS. Prove the row's statement (the work); the ties are given (YtdgedlhefjmcpaaGreatDoorTie.lean); close each card by the builder's one call (the guide's Derived/Test/ToyasCard.lean, 'card_holds'). Laid BY PROGRAM, IN A SANDBOX (cutbox-door.mjs). By AI agents, Wed Nov 11 2026. No macro, syntax, notation, axiom, sorry.
-/
import Derived.Test.YtdgedlhefjmcpaaGreatDoorRows
import GoSem.ClaimSeven
namespace Go.Proofs.YtdgedlhefjmcpaaGreatDoor
namespace Rows

/-- THE TIED CARD OF 'bloomerykeep.CheckTurns'. -/
def checkTurnsCard : Claim7 := { stood := { row := checkTurnsRow, standIns := [], harness := (true, "7fabab29ab24710295d765414ee2729c72a24691011c6ff54f2b927a4864d3c1"), looks := true }, kinds := [], alts := [], laidByText := true, laidKinds := [.data, .data, .data, .handle, .sentinel, .sentinel, .data, .widerDeep], laidTests := true, laidLooks := .later }
def CheckTurnsCardSaid : Prop := Claim7.holds Tryz.pinned (.plain (OpenSpec.ofChange checkTurnsSpec)) checkTurnsCard

/-- THE TIED CARD OF 'bloomerylaw.TreeLimits'. -/
def treeLimitsCard : Claim7 := { stood := { row := treeLimitsRow, standIns := [], harness := (true, "7fabab29ab24710295d765414ee2729c72a24691011c6ff54f2b927a4864d3c1"), looks := true }, kinds := [], alts := [], laidByText := true, laidKinds := [.data, .data, .data, .data, .handle, .sentinel, .sentinel, .data, .data, .widerDeep, .pinned], laidTests := true, laidLooks := .later }
def TreeLimitsCardSaid : Prop := Claim7.holds Tryz.pinned (.plain (OpenSpec.ofChange treeLimitsSpec)) treeLimitsCard

/-- THE TIED CARD OF 'bloomerykeep.RunTurns'. -/
def runTurnsCard : Claim7 := { stood := { row := runTurnsRow, standIns := [], harness := (true, "7fabab29ab24710295d765414ee2729c72a24691011c6ff54f2b927a4864d3c1"), looks := true }, kinds := [], alts := [], laidByText := true, laidKinds := [.data, .data, .data, .sentinel, .sentinel, .data, .widerDeep], laidTests := true, laidLooks := .later }
def RunTurnsCardSaid : Prop := Claim7.holds Tryz.pinned (.plain (OpenSpec.ofChange runTurnsSpec)) runTurnsCard

/-- THE TIED CARD OF 'bloomerykeep.RunPrinted'. -/
def runPrintedCard : Claim7 := { stood := { row := runPrintedRow, standIns := [], harness := (true, "7fabab29ab24710295d765414ee2729c72a24691011c6ff54f2b927a4864d3c1"), looks := true }, kinds := [], alts := [], laidByText := true, laidKinds := [.data, .data, .data, .sentinel, .sentinel, .data, .widerDeep], laidTests := true, laidLooks := .later }
def RunPrintedCardSaid : Prop := Claim7.holds Tryz.pinned (.plain (OpenSpec.ofChange runPrintedSpec)) runPrintedCard

/-- THE TIED CARD OF 'bloomerylaw.CheckFinds'. -/
def checkFindsCard : Claim7 := { stood := { row := checkFindsRow, standIns := [], harness := (true, "7fabab29ab24710295d765414ee2729c72a24691011c6ff54f2b927a4864d3c1"), looks := true }, kinds := [], alts := [], laidByText := true, laidKinds := [.data, .data, .data, .data, .handle, .sentinel, .sentinel, .data, .data, .widerDeep, .pinned], laidTests := true, laidLooks := .later }
def CheckFindsCardSaid : Prop := Claim7.holds Tryz.pinned (.plain (OpenSpec.ofChange checkFindsSpec)) checkFindsCard

/-- THE TIED CARD OF 'bloomerylaw.TreeReads'. -/
def treeReadsCard : Claim7 := { stood := { row := treeReadsRow, standIns := [], harness := (true, "7fabab29ab24710295d765414ee2729c72a24691011c6ff54f2b927a4864d3c1"), looks := true }, kinds := [], alts := [], laidByText := true, laidKinds := [.data, .data, .data, .data, .handle, .sentinel, .sentinel, .data, .data, .widerDeep, .pinned], laidTests := true, laidLooks := .later }
def TreeReadsCardSaid : Prop := Claim7.holds Tryz.pinned (.plain (OpenSpec.ofChange treeReadsSpec)) treeReadsCard

/-- THE TIED CARD OF 'bloomerylaw.RunEnds'. -/
def runEndsCard : Claim7 := { stood := { row := runEndsRow, standIns := [], harness := (true, "7fabab29ab24710295d765414ee2729c72a24691011c6ff54f2b927a4864d3c1"), looks := true }, kinds := [], alts := [], laidByText := true, laidKinds := [.data, .data, .data, .data, .handle, .sentinel, .sentinel, .data, .data, .widerDeep, .pinned], laidTests := true, laidLooks := .later }
def RunEndsCardSaid : Prop := Claim7.holds Tryz.pinned (.plain (OpenSpec.ofChange runEndsSpec)) runEndsCard

/-- THE SECOND FORM's CARD OF 'bloomerykeep.CheckTurns'. -/
def checkTurnsUptoCard : Claim7 := { stood := { row := checkTurnsUptoRow, standIns := [], harness := (true, "7fabab29ab24710295d765414ee2729c72a24691011c6ff54f2b927a4864d3c1"), looks := true }, kinds := [], alts := [], laidByText := true, laidKinds := [.data, .data, .data, .handle, .sentinel, .sentinel, .data, .widerDeep], laidTests := true, laidLooks := .later }
def CheckTurnsUptoCardSaid : Prop := Claim7.holds Tryz.pinned (.plain (OpenSpec.upto checkTurnsSpec)) checkTurnsUptoCard

/-- THE SECOND FORM's CARD OF 'bloomerylaw.TreeLimits'. -/
def treeLimitsUptoCard : Claim7 := { stood := { row := treeLimitsUptoRow, standIns := [], harness := (true, "7fabab29ab24710295d765414ee2729c72a24691011c6ff54f2b927a4864d3c1"), looks := true }, kinds := [], alts := [], laidByText := true, laidKinds := [.data, .data, .data, .data, .handle, .sentinel, .sentinel, .data, .data, .widerDeep, .pinned], laidTests := true, laidLooks := .later }
def TreeLimitsUptoCardSaid : Prop := Claim7.holds Tryz.pinned (.plain (OpenSpec.upto treeLimitsSpec)) treeLimitsUptoCard

/-- THE SECOND FORM's CARD OF 'bloomerykeep.RunTurns'. -/
def runTurnsUptoCard : Claim7 := { stood := { row := runTurnsUptoRow, standIns := [], harness := (true, "7fabab29ab24710295d765414ee2729c72a24691011c6ff54f2b927a4864d3c1"), looks := true }, kinds := [], alts := [], laidByText := true, laidKinds := [.data, .data, .data, .sentinel, .sentinel, .data, .widerDeep], laidTests := true, laidLooks := .later }
def RunTurnsUptoCardSaid : Prop := Claim7.holds Tryz.pinned (.plain (OpenSpec.upto runTurnsSpec)) runTurnsUptoCard

/-- THE SECOND FORM's CARD OF 'bloomerykeep.RunPrinted'. -/
def runPrintedUptoCard : Claim7 := { stood := { row := runPrintedUptoRow, standIns := [], harness := (true, "7fabab29ab24710295d765414ee2729c72a24691011c6ff54f2b927a4864d3c1"), looks := true }, kinds := [], alts := [], laidByText := true, laidKinds := [.data, .data, .data, .sentinel, .sentinel, .data, .widerDeep], laidTests := true, laidLooks := .later }
def RunPrintedUptoCardSaid : Prop := Claim7.holds Tryz.pinned (.plain (OpenSpec.upto runPrintedSpec)) runPrintedUptoCard

/-- THE SECOND FORM's CARD OF 'bloomerylaw.CheckFinds'. -/
def checkFindsUptoCard : Claim7 := { stood := { row := checkFindsUptoRow, standIns := [], harness := (true, "7fabab29ab24710295d765414ee2729c72a24691011c6ff54f2b927a4864d3c1"), looks := true }, kinds := [], alts := [], laidByText := true, laidKinds := [.data, .data, .data, .data, .handle, .sentinel, .sentinel, .data, .data, .widerDeep, .pinned], laidTests := true, laidLooks := .later }
def CheckFindsUptoCardSaid : Prop := Claim7.holds Tryz.pinned (.plain (OpenSpec.upto checkFindsSpec)) checkFindsUptoCard

/-- THE SECOND FORM's CARD OF 'bloomerylaw.TreeReads'. -/
def treeReadsUptoCard : Claim7 := { stood := { row := treeReadsUptoRow, standIns := [], harness := (true, "7fabab29ab24710295d765414ee2729c72a24691011c6ff54f2b927a4864d3c1"), looks := true }, kinds := [], alts := [], laidByText := true, laidKinds := [.data, .data, .data, .data, .handle, .sentinel, .sentinel, .data, .data, .widerDeep, .pinned], laidTests := true, laidLooks := .later }
def TreeReadsUptoCardSaid : Prop := Claim7.holds Tryz.pinned (.plain (OpenSpec.upto treeReadsSpec)) treeReadsUptoCard

/-- THE SECOND FORM's CARD OF 'bloomerylaw.RunEnds'. -/
def runEndsUptoCard : Claim7 := { stood := { row := runEndsUptoRow, standIns := [], harness := (true, "7fabab29ab24710295d765414ee2729c72a24691011c6ff54f2b927a4864d3c1"), looks := true }, kinds := [], alts := [], laidByText := true, laidKinds := [.data, .data, .data, .data, .handle, .sentinel, .sentinel, .data, .data, .widerDeep, .pinned], laidTests := true, laidLooks := .later }
def RunEndsUptoCardSaid : Prop := Claim7.holds Tryz.pinned (.plain (OpenSpec.upto runEndsSpec)) runEndsUptoCard
end Rows
end Go.Proofs.YtdgedlhefjmcpaaGreatDoor

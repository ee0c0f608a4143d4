/-
  DERIVED. GIVEN WITH THE SEED: THE CARDS: each row of YtgeajgdddjjjnaaDoorRows.lean that lists a variable, with what it lists TIED to the program's text (the seventh form; the later family's looks); each row that meets fmt, with fmt's text TOLD by the authors' own Lean function (tested against real Go, not proved from fmt's source: count such statements apart). THE CARD IS WHAT COUNTS. Prove the row's statement (the work); the ties are given (YtgeajgdddjjjnaaDoorTie.lean); close each card by the builder's one call (the guide's Derived/Test/ToyasCard.lean, 'card_holds'). Laid BY PROGRAM, IN A SANDBOX (cutbox-door.mjs). By AI agents, Wed Nov 11 2026. No macro, syntax, notation, axiom, sorry.
-/
import Derived.Test.YtgeajgdddjjjnaaDoorRows
import GoSem.ClaimSeven
namespace Go.Proofs.YtgeajgdddjjjnaaDoor
namespace Rows

/-- THE TIED CARD OF 'bloomerykeep.WordBack'. -/
def wordBackCard : Claim7 := { stood := { row := wordBackRow, standIns := [], harness := (true, "16b23bfcbc91188f8ae89e15362d2a2bde54692caea053a7aae17fdc1fb9cf2f"), looks := true }, kinds := [], alts := [], laidByText := true, laidKinds := [.data], laidTests := true, laidLooks := .later }
def WordBackCardSaid : Prop := Claim7.holds Tryd.pinned (.plain (OpenSpec.ofChange wordBackSpec)) wordBackCard

/-- THE TIED CARD OF 'bloomerykeep.WordParts'. -/
def wordPartsCard : Claim7 := { stood := { row := wordPartsRow, standIns := [], harness := (true, "16b23bfcbc91188f8ae89e15362d2a2bde54692caea053a7aae17fdc1fb9cf2f"), looks := true }, kinds := [], alts := [], laidByText := true, laidKinds := [.data], laidTests := true, laidLooks := .later }
def WordPartsCardSaid : Prop := Claim7.holds Tryd.pinned (.plain (OpenSpec.ofChange wordPartsSpec)) wordPartsCard

/-- THE TIED CARD OF 'bloomerykeep.MachineKeeps'. -/
def machineKeepsCard : Claim7 := { stood := { row := machineKeepsRow, standIns := [], harness := (true, "16b23bfcbc91188f8ae89e15362d2a2bde54692caea053a7aae17fdc1fb9cf2f"), looks := true }, kinds := [], alts := [], laidByText := true, laidKinds := [.data], laidTests := true, laidLooks := .later }
def MachineKeepsCardSaid : Prop := Claim7.holds Tryd.pinned (.plain (OpenSpec.ofChange machineKeepsSpec)) machineKeepsCard

/-- THE TIED CARD OF 'bloomerykeep.MachinePieces'. -/
def machinePiecesCard : Claim7 := { stood := { row := machinePiecesRow, standIns := [], harness := (true, "16b23bfcbc91188f8ae89e15362d2a2bde54692caea053a7aae17fdc1fb9cf2f"), looks := true }, kinds := [], alts := [], laidByText := true, laidKinds := [.data], laidTests := true, laidLooks := .later }
def MachinePiecesCardSaid : Prop := Claim7.holds Tryd.pinned (.plain (OpenSpec.ofChange machinePiecesSpec)) machinePiecesCard

/-- THE TIED CARD OF 'bloomerylaw.WordForms'. -/
def wordFormsCard : Claim7 := { stood := { row := wordFormsRow, standIns := [], harness := (true, "16b23bfcbc91188f8ae89e15362d2a2bde54692caea053a7aae17fdc1fb9cf2f"), looks := true }, kinds := [], alts := [], laidByText := true, laidKinds := [.handle, .data], laidTests := true, laidLooks := .later }
def WordFormsCardSaid : Prop := Claim7.holds Tryd.pinned (.plain (OpenSpec.ofChange wordFormsSpec)) wordFormsCard

/-- THE TIED CARD OF 'bloomerylaw.MachineDoes'. -/
def machineDoesCard : Claim7 := { stood := { row := machineDoesRow, standIns := [], harness := (true, "16b23bfcbc91188f8ae89e15362d2a2bde54692caea053a7aae17fdc1fb9cf2f"), looks := true }, kinds := [], alts := [], laidByText := true, laidKinds := [.handle, .data], laidTests := true, laidLooks := .later }
def MachineDoesCardSaid : Prop := Claim7.holds Tryd.pinned (.plain (OpenSpec.ofChange machineDoesSpec)) machineDoesCard

/-- THE SECOND FORM's CARD OF 'bloomerykeep.WordBack'. -/
def wordBackUptoCard : Claim7 := { stood := { row := wordBackUptoRow, standIns := [], harness := (true, "16b23bfcbc91188f8ae89e15362d2a2bde54692caea053a7aae17fdc1fb9cf2f"), looks := true }, kinds := [], alts := [], laidByText := true, laidKinds := [.data], laidTests := true, laidLooks := .later }
def WordBackUptoCardSaid : Prop := Claim7.holds Tryd.pinned (.plain (OpenSpec.upto wordBackSpec)) wordBackUptoCard

/-- THE SECOND FORM's CARD OF 'bloomerykeep.WordParts'. -/
def wordPartsUptoCard : Claim7 := { stood := { row := wordPartsUptoRow, standIns := [], harness := (true, "16b23bfcbc91188f8ae89e15362d2a2bde54692caea053a7aae17fdc1fb9cf2f"), looks := true }, kinds := [], alts := [], laidByText := true, laidKinds := [.data], laidTests := true, laidLooks := .later }
def WordPartsUptoCardSaid : Prop := Claim7.holds Tryd.pinned (.plain (OpenSpec.upto wordPartsSpec)) wordPartsUptoCard

/-- THE SECOND FORM's CARD OF 'bloomerykeep.MachineKeeps'. -/
def machineKeepsUptoCard : Claim7 := { stood := { row := machineKeepsUptoRow, standIns := [], harness := (true, "16b23bfcbc91188f8ae89e15362d2a2bde54692caea053a7aae17fdc1fb9cf2f"), looks := true }, kinds := [], alts := [], laidByText := true, laidKinds := [.data], laidTests := true, laidLooks := .later }
def MachineKeepsUptoCardSaid : Prop := Claim7.holds Tryd.pinned (.plain (OpenSpec.upto machineKeepsSpec)) machineKeepsUptoCard

/-- THE SECOND FORM's CARD OF 'bloomerykeep.MachinePieces'. -/
def machinePiecesUptoCard : Claim7 := { stood := { row := machinePiecesUptoRow, standIns := [], harness := (true, "16b23bfcbc91188f8ae89e15362d2a2bde54692caea053a7aae17fdc1fb9cf2f"), looks := true }, kinds := [], alts := [], laidByText := true, laidKinds := [.data], laidTests := true, laidLooks := .later }
def MachinePiecesUptoCardSaid : Prop := Claim7.holds Tryd.pinned (.plain (OpenSpec.upto machinePiecesSpec)) machinePiecesUptoCard

/-- THE SECOND FORM's CARD OF 'bloomerylaw.WordForms'. -/
def wordFormsUptoCard : Claim7 := { stood := { row := wordFormsUptoRow, standIns := [], harness := (true, "16b23bfcbc91188f8ae89e15362d2a2bde54692caea053a7aae17fdc1fb9cf2f"), looks := true }, kinds := [], alts := [], laidByText := true, laidKinds := [.handle, .data], laidTests := true, laidLooks := .later }
def WordFormsUptoCardSaid : Prop := Claim7.holds Tryd.pinned (.plain (OpenSpec.upto wordFormsSpec)) wordFormsUptoCard

/-- THE SECOND FORM's CARD OF 'bloomerylaw.MachineDoes'. -/
def machineDoesUptoCard : Claim7 := { stood := { row := machineDoesUptoRow, standIns := [], harness := (true, "16b23bfcbc91188f8ae89e15362d2a2bde54692caea053a7aae17fdc1fb9cf2f"), looks := true }, kinds := [], alts := [], laidByText := true, laidKinds := [.handle, .data], laidTests := true, laidLooks := .later }
def MachineDoesUptoCardSaid : Prop := Claim7.holds Tryd.pinned (.plain (OpenSpec.upto machineDoesSpec)) machineDoesUptoCard
end Rows
end Go.Proofs.YtgeajgdddjjjnaaDoor

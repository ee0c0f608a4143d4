/-
  NARROWER THAN 'FOR EVERY INPUT', by the rows' own cells (each row's printed sentence says how): WordBack: laid · WordParts: laid · MachineKeeps: laid · MachinePieces: laid · WordForms: laid · MachineDoes: laid.
  DERIVED. THE GIVEN ROWS OF THIS SEAT. 6 by the template 'for every input the law returns true; each argument reads behind the call as it read before'; 0 by the template 'total and deterministic' (their statements: YtgeajgdddjjjnaaDoorTotals.lean).
  GIVEN WITH THE SEED: the statements are not yours to turn. If you find one false, say at which input.
  Laid BY PROGRAM, IN A SANDBOX (cutbox-rows.mjs): the forced cells as the released guide's own fill.sh prints them over the translation c00d4b87294c8427… (all of the seat's roots in one cut). By AI agents, Wed Nov 11 2026. No macro, syntax, notation, axiom, sorry.
-/
import Derived.Test.YtgeajgdddjjjnaaDoorChecked
import GoSem.Claim
import GoSem.ClaimJoined
import GoSem.ClaimMapViews
import Derived.JoinedTies
import Derived.KernelRfl
namespace Go.Proofs.YtgeajgdddjjjnaaDoor
/- THE CELL 'sum', in the pinned program and in every row, IS THE sha256 OF THE DUMP (.gsa) THAT YtgeajgdddjjjnaaDoorProg.lean LOADS. Nothing in Lean hashes anything: it is a label: what it is worth is what the hold of that sum in a sandbox is worth. -/
noncomputable def Tryd.pinned : Pinned := { name := "ytgeajgdddjjjnaadoor", sum := "c00d4b87294c84277867b0e099f855469579699bec5b28faf14215bc3ecff3bf", checked := Tryd.checked }
namespace Rows
def none {H : Type} : Left H := { results := [], args := [] }

/- WHAT THE LISTED PACKAGE-LEVEL VARIABLES READ AS WHEN THE CALL BEGINS. Each datum BY PROGRAM (the guide's laid-datum.mjs) off the statement by which the dump's own 'gosem.cut.vars' lays the variable. In a bare row this is a premise. The card (YtgeajgdddjjjnaaDoorCards.lean) ties it to the program's text. -/
def laid_bloomery_word_forms {H : Type} : DataW H := .agg [.agg [.lit (.int .u8 0), .lit (.int .u32 0), .lit (.int .u32 0), .lit (.int .u32 0)], .agg [.lit (.int .u8 82), .lit (.int .u32 51), .lit (.int .u32 0), .lit (.int .u32 0)], .agg [.lit (.int .u8 82), .lit (.int .u32 51), .lit (.int .u32 0), .lit (.int .u32 32)], .agg [.lit (.int .u8 82), .lit (.int .u32 51), .lit (.int .u32 0), .lit (.int .u32 1)], .agg [.lit (.int .u8 82), .lit (.int .u32 51), .lit (.int .u32 4), .lit (.int .u32 1)], .agg [.lit (.int .u8 82), .lit (.int .u32 51), .lit (.int .u32 6), .lit (.int .u32 1)], .agg [.lit (.int .u8 82), .lit (.int .u32 51), .lit (.int .u32 7), .lit (.int .u32 0)], .agg [.lit (.int .u8 82), .lit (.int .u32 51), .lit (.int .u32 6), .lit (.int .u32 0)], .agg [.lit (.int .u8 82), .lit (.int .u32 51), .lit (.int .u32 4), .lit (.int .u32 0)], .agg [.lit (.int .u8 82), .lit (.int .u32 51), .lit (.int .u32 2), .lit (.int .u32 0)], .agg [.lit (.int .u8 82), .lit (.int .u32 51), .lit (.int .u32 3), .lit (.int .u32 0)], .agg [.lit (.int .u8 82), .lit (.int .u32 51), .lit (.int .u32 1), .lit (.int .u32 0)], .agg [.lit (.int .u8 82), .lit (.int .u32 51), .lit (.int .u32 5), .lit (.int .u32 0)], .agg [.lit (.int .u8 82), .lit (.int .u32 51), .lit (.int .u32 5), .lit (.int .u32 32)], .agg [.lit (.int .u8 73), .lit (.int .u32 19), .lit (.int .u32 0), .lit (.int .u32 0)], .agg [.lit (.int .u8 73), .lit (.int .u32 19), .lit (.int .u32 7), .lit (.int .u32 0)], .agg [.lit (.int .u8 73), .lit (.int .u32 19), .lit (.int .u32 6), .lit (.int .u32 0)], .agg [.lit (.int .u8 73), .lit (.int .u32 19), .lit (.int .u32 4), .lit (.int .u32 0)], .agg [.lit (.int .u8 73), .lit (.int .u32 19), .lit (.int .u32 2), .lit (.int .u32 0)], .agg [.lit (.int .u8 72), .lit (.int .u32 19), .lit (.int .u32 1), .lit (.int .u32 0)], .agg [.lit (.int .u8 72), .lit (.int .u32 19), .lit (.int .u32 5), .lit (.int .u32 0)], .agg [.lit (.int .u8 72), .lit (.int .u32 19), .lit (.int .u32 5), .lit (.int .u32 32)], .agg [.lit (.int .u8 73), .lit (.int .u32 3), .lit (.int .u32 3), .lit (.int .u32 0)], .agg [.lit (.int .u8 73), .lit (.int .u32 103), .lit (.int .u32 0), .lit (.int .u32 0)], .agg [.lit (.int .u8 83), .lit (.int .u32 35), .lit (.int .u32 3), .lit (.int .u32 0)], .agg [.lit (.int .u8 66), .lit (.int .u32 99), .lit (.int .u32 0), .lit (.int .u32 0)], .agg [.lit (.int .u8 66), .lit (.int .u32 99), .lit (.int .u32 1), .lit (.int .u32 0)], .agg [.lit (.int .u8 66), .lit (.int .u32 99), .lit (.int .u32 4), .lit (.int .u32 0)], .agg [.lit (.int .u8 66), .lit (.int .u32 99), .lit (.int .u32 5), .lit (.int .u32 0)], .agg [.lit (.int .u8 85), .lit (.int .u32 55), .lit (.int .u32 0), .lit (.int .u32 0)], .agg [.lit (.int .u8 74), .lit (.int .u32 111), .lit (.int .u32 0), .lit (.int .u32 0)], .agg [.lit (.int .u8 69), .lit (.int .u32 115), .lit (.int .u32 0), .lit (.int .u32 0)]]
def laid_errors_errorType {H : Type} : DataW H := .iface "internal/reflectlite.rtype" (.agg [.ptr (.lit (.string [101, 114, 114, 111, 114]))])

/-- 'bloomerykeep.WordBack': WHATEVER THE INPUT: true; the input reads as it did. -/
def wordBackSpec : ChangeSpec := { name := "wordBack", fn := fun _ => fun
  | [d1, d2, d3] => { results := [.lit (.bool true)], args := [d1, d2, d3] }
  | _ => none }
def wordBackRow : OpenClaim := { program := "ytgeajgdddjjjnaadoor", sum := "c00d4b87294c84277867b0e099f855469579699bec5b28faf14215bc3ecff3bf", func := "bloomery/bloomerykeep.WordBack", spec := "wordBack", named := ["bloomery/word.forms"], apart := false, laid := [("bloomery/word.forms", laid_bloomery_word_forms)] }
def WordBackSaid : Prop := wordBackRow.holds Tryd.pinned (OpenSpec.ofChange wordBackSpec)

/-- ITS FALSE NEIGHBOUR: 'it returns false'. Refute it at one input. -/
def wordBackWrong : ChangeSpec := { name := "wordBack", fn := fun _ => fun
  | [d1, d2, d3] => { results := [.lit (.bool false)], args := [d1, d2, d3] }
  | _ => none }
def WordBackWrongFalsely : Prop := wordBackRow.holds Tryd.pinned (OpenSpec.ofChange wordBackWrong)

/-- 'bloomerykeep.WordParts': WHATEVER THE INPUT: true; the input reads as it did. -/
def wordPartsSpec : ChangeSpec := { name := "wordParts", fn := fun _ => fun
  | [d1, d2] => { results := [.lit (.bool true)], args := [d1, d2] }
  | _ => none }
def wordPartsRow : OpenClaim := { program := "ytgeajgdddjjjnaadoor", sum := "c00d4b87294c84277867b0e099f855469579699bec5b28faf14215bc3ecff3bf", func := "bloomery/bloomerykeep.WordParts", spec := "wordParts", named := ["bloomery/word.forms"], apart := false, laid := [("bloomery/word.forms", laid_bloomery_word_forms)] }
def WordPartsSaid : Prop := wordPartsRow.holds Tryd.pinned (OpenSpec.ofChange wordPartsSpec)

/-- ITS FALSE NEIGHBOUR: 'it returns false'. Refute it at one input. -/
def wordPartsWrong : ChangeSpec := { name := "wordParts", fn := fun _ => fun
  | [d1, d2] => { results := [.lit (.bool false)], args := [d1, d2] }
  | _ => none }
def WordPartsWrongFalsely : Prop := wordPartsRow.holds Tryd.pinned (OpenSpec.ofChange wordPartsWrong)

/-- 'bloomerykeep.MachineKeeps': WHATEVER THE INPUT: true; the input reads as it did. -/
def machineKeepsSpec : ChangeSpec := { name := "machineKeeps", fn := fun _ => fun
  | [d1, d2, d3] => { results := [.lit (.bool true)], args := [d1, d2, d3] }
  | _ => none }
def machineKeepsRow : OpenClaim := { program := "ytgeajgdddjjjnaadoor", sum := "c00d4b87294c84277867b0e099f855469579699bec5b28faf14215bc3ecff3bf", func := "bloomery/bloomerykeep.MachineKeeps", spec := "machineKeeps", unfollowed := true, recurses := true, named := ["bloomery/word.forms"], apart := false, laid := [("bloomery/word.forms", laid_bloomery_word_forms)] }
def MachineKeepsSaid : Prop := machineKeepsRow.holds Tryd.pinned (OpenSpec.ofChange machineKeepsSpec)

/-- ITS FALSE NEIGHBOUR: 'it returns false'. Refute it at one input. -/
def machineKeepsWrong : ChangeSpec := { name := "machineKeeps", fn := fun _ => fun
  | [d1, d2, d3] => { results := [.lit (.bool false)], args := [d1, d2, d3] }
  | _ => none }
def MachineKeepsWrongFalsely : Prop := machineKeepsRow.holds Tryd.pinned (OpenSpec.ofChange machineKeepsWrong)

/-- 'bloomerykeep.MachinePieces': WHATEVER THE INPUT: true; the input reads as it did. -/
def machinePiecesSpec : ChangeSpec := { name := "machinePieces", fn := fun _ => fun
  | [d1, d2, d3, d4] => { results := [.lit (.bool true)], args := [d1, d2, d3, d4] }
  | _ => none }
def machinePiecesRow : OpenClaim := { program := "ytgeajgdddjjjnaadoor", sum := "c00d4b87294c84277867b0e099f855469579699bec5b28faf14215bc3ecff3bf", func := "bloomery/bloomerykeep.MachinePieces", spec := "machinePieces", unfollowed := true, recurses := true, named := ["bloomery/word.forms"], apart := false, laid := [("bloomery/word.forms", laid_bloomery_word_forms)] }
def MachinePiecesSaid : Prop := machinePiecesRow.holds Tryd.pinned (OpenSpec.ofChange machinePiecesSpec)

/-- ITS FALSE NEIGHBOUR: 'it returns false'. Refute it at one input. -/
def machinePiecesWrong : ChangeSpec := { name := "machinePieces", fn := fun _ => fun
  | [d1, d2, d3, d4] => { results := [.lit (.bool false)], args := [d1, d2, d3, d4] }
  | _ => none }
def MachinePiecesWrongFalsely : Prop := machinePiecesRow.holds Tryd.pinned (OpenSpec.ofChange machinePiecesWrong)

/-- 'bloomerylaw.WordForms': WHATEVER THE INPUT: true; the input reads as it did. -/
def wordFormsSpec : ChangeSpec := { name := "wordForms", fn := fun _ => fun
  | [d1, d2] => { results := [.lit (.bool true)], args := [d1, d2] }
  | _ => none }
def wordFormsRow : OpenClaim := { program := "ytgeajgdddjjjnaadoor", sum := "c00d4b87294c84277867b0e099f855469579699bec5b28faf14215bc3ecff3bf", func := "bloomery/bloomerylaw.WordForms", spec := "wordForms", inPlace := ["internal/bytealg.IndexByteString", "internal/bytealg.IndexString", "internal/reflectlite.ValueOf", "(internal/reflectlite.Value).Type", "(internal/reflectlite.Value).IsNil", "internal/reflectlite.TypeOf", "(internal/reflectlite.Value).Elem", "(internal/reflectlite.Value).Set"], unfollowed := true, recurses := true, named := ["internal/bytealg.MaxLen", "bloomery/word.forms", "errors.errorType"], apart := false, laid := [("errors.errorType", laid_errors_errorType), ("bloomery/word.forms", laid_bloomery_word_forms)] }
def WordFormsSaid : Prop := wordFormsRow.holds Tryd.pinned (OpenSpec.ofChange wordFormsSpec)

/-- ITS FALSE NEIGHBOUR: 'it returns false'. Refute it at one input. -/
def wordFormsWrong : ChangeSpec := { name := "wordForms", fn := fun _ => fun
  | [d1, d2] => { results := [.lit (.bool false)], args := [d1, d2] }
  | _ => none }
def WordFormsWrongFalsely : Prop := wordFormsRow.holds Tryd.pinned (OpenSpec.ofChange wordFormsWrong)

/-- 'bloomerylaw.MachineDoes': WHATEVER THE INPUT: true; the input reads as it did. -/
def machineDoesSpec : ChangeSpec := { name := "machineDoes", fn := fun _ => fun
  | [d1, d2, d3, d4, d5] => { results := [.lit (.bool true)], args := [d1, d2, d3, d4, d5] }
  | _ => none }
def machineDoesRow : OpenClaim := { program := "ytgeajgdddjjjnaadoor", sum := "c00d4b87294c84277867b0e099f855469579699bec5b28faf14215bc3ecff3bf", func := "bloomery/bloomerylaw.MachineDoes", spec := "machineDoes", inPlace := ["internal/reflectlite.ValueOf", "(internal/reflectlite.Value).Type", "(internal/reflectlite.Value).IsNil", "internal/reflectlite.TypeOf", "(internal/reflectlite.Value).Elem", "(internal/reflectlite.Value).Set", "internal/bytealg.IndexByteString", "internal/bytealg.IndexString"], unfollowed := true, recurses := true, named := ["errors.errorType", "bloomery/word.forms", "internal/bytealg.MaxLen"], apart := false, laid := [("errors.errorType", laid_errors_errorType), ("bloomery/word.forms", laid_bloomery_word_forms)] }
def MachineDoesSaid : Prop := machineDoesRow.holds Tryd.pinned (OpenSpec.ofChange machineDoesSpec)

/-- ITS FALSE NEIGHBOUR: 'it returns false'. Refute it at one input. -/
def machineDoesWrong : ChangeSpec := { name := "machineDoes", fn := fun _ => fun
  | [d1, d2, d3, d4, d5] => { results := [.lit (.bool false)], args := [d1, d2, d3, d4, d5] }
  | _ => none }
def MachineDoesWrongFalsely : Prop := machineDoesRow.holds Tryd.pinned (OpenSpec.ofChange machineDoesWrong)

/- THE SECOND FORM. 'bulk': how many values and letters a reading holds, each counted each time it is reached (what is shared counts as often as it is met; a slice's spare places count too). A statement '..UptoSaid' is the law's where the arguments, and the package variables that the reading takes, are together of bulk at most 1048576: NARROWER than '..Said'. Prove '..Said' where nothing that the law and all that it calls make is longer than what came in: it says more and counts as full. Else prove '..UptoSaid'. A law counts once. -/
mutual
def uptoBulk {H : Type} : DataW H → Nat
  | .lit (.string bytes) => bytes.length + 1
  | .lit _ => 1
  | .nil => 1
  | .ptr d => uptoBulk d + 1
  | .slice elems spare => uptoBulkAll elems + uptoBulkAll spare + 1
  | .agg parts => uptoBulkAll parts + 1
  | .iface _ d => uptoBulk d + 1
  | .map entries => uptoBulkEntries entries + 1
  | .held _ => 1
def uptoBulkAll {H : Type} : List (DataW H) → Nat
  | [] => 0
  | d :: r => uptoBulk d + uptoBulkAll r
def uptoBulkEntries {H : Type} : List (Lit × DataW H) → Nat
  | [] => 0
  | x :: r => uptoBulkEntry x + uptoBulkEntries r
def uptoBulkEntry {H : Type} : Lit × DataW H → Nat
  | (.string bytes, d) => bytes.length + uptoBulk d + 1
  | (_, d) => uptoBulk d + 1
 end
def uptoSmall : (H : Type) → List (DataW H) → Bool := fun _ ds => decide (uptoBulkAll ds ≤ 1048576)
def OpenSpec.upto (s : _root_.Go.ChangeSpec) : _root_.Go.OpenSpec := { _root_.Go.OpenSpec.ofChange s with cond := some uptoSmall }

/-- 'bloomerykeep.WordBack', WHERE WHAT IT READS IS OF BULK AT MOST 1048576: true; the input reads as it did. -/
def wordBackUptoRow : OpenClaim := { program := "ytgeajgdddjjjnaadoor", sum := "c00d4b87294c84277867b0e099f855469579699bec5b28faf14215bc3ecff3bf", func := "bloomery/bloomerykeep.WordBack", spec := "wordBack", named := ["bloomery/word.forms"], apart := false, laid := [("bloomery/word.forms", laid_bloomery_word_forms)], narrowed := true }
def WordBackUptoSaid : Prop := wordBackUptoRow.holds Tryd.pinned (OpenSpec.upto wordBackSpec)

/-- 'bloomerykeep.WordParts', WHERE WHAT IT READS IS OF BULK AT MOST 1048576: true; the input reads as it did. -/
def wordPartsUptoRow : OpenClaim := { program := "ytgeajgdddjjjnaadoor", sum := "c00d4b87294c84277867b0e099f855469579699bec5b28faf14215bc3ecff3bf", func := "bloomery/bloomerykeep.WordParts", spec := "wordParts", named := ["bloomery/word.forms"], apart := false, laid := [("bloomery/word.forms", laid_bloomery_word_forms)], narrowed := true }
def WordPartsUptoSaid : Prop := wordPartsUptoRow.holds Tryd.pinned (OpenSpec.upto wordPartsSpec)

/-- 'bloomerykeep.MachineKeeps', WHERE WHAT IT READS IS OF BULK AT MOST 1048576: true; the input reads as it did. -/
def machineKeepsUptoRow : OpenClaim := { program := "ytgeajgdddjjjnaadoor", sum := "c00d4b87294c84277867b0e099f855469579699bec5b28faf14215bc3ecff3bf", func := "bloomery/bloomerykeep.MachineKeeps", spec := "machineKeeps", unfollowed := true, recurses := true, named := ["bloomery/word.forms"], apart := false, laid := [("bloomery/word.forms", laid_bloomery_word_forms)], narrowed := true }
def MachineKeepsUptoSaid : Prop := machineKeepsUptoRow.holds Tryd.pinned (OpenSpec.upto machineKeepsSpec)

/-- 'bloomerykeep.MachinePieces', WHERE WHAT IT READS IS OF BULK AT MOST 1048576: true; the input reads as it did. -/
def machinePiecesUptoRow : OpenClaim := { program := "ytgeajgdddjjjnaadoor", sum := "c00d4b87294c84277867b0e099f855469579699bec5b28faf14215bc3ecff3bf", func := "bloomery/bloomerykeep.MachinePieces", spec := "machinePieces", unfollowed := true, recurses := true, named := ["bloomery/word.forms"], apart := false, laid := [("bloomery/word.forms", laid_bloomery_word_forms)], narrowed := true }
def MachinePiecesUptoSaid : Prop := machinePiecesUptoRow.holds Tryd.pinned (OpenSpec.upto machinePiecesSpec)

/-- 'bloomerylaw.WordForms', WHERE WHAT IT READS IS OF BULK AT MOST 1048576: true; the input reads as it did. -/
def wordFormsUptoRow : OpenClaim := { program := "ytgeajgdddjjjnaadoor", sum := "c00d4b87294c84277867b0e099f855469579699bec5b28faf14215bc3ecff3bf", func := "bloomery/bloomerylaw.WordForms", spec := "wordForms", inPlace := ["internal/bytealg.IndexByteString", "internal/bytealg.IndexString", "internal/reflectlite.ValueOf", "(internal/reflectlite.Value).Type", "(internal/reflectlite.Value).IsNil", "internal/reflectlite.TypeOf", "(internal/reflectlite.Value).Elem", "(internal/reflectlite.Value).Set"], unfollowed := true, recurses := true, named := ["internal/bytealg.MaxLen", "bloomery/word.forms", "errors.errorType"], apart := false, laid := [("errors.errorType", laid_errors_errorType), ("bloomery/word.forms", laid_bloomery_word_forms)], narrowed := true }
def WordFormsUptoSaid : Prop := wordFormsUptoRow.holds Tryd.pinned (OpenSpec.upto wordFormsSpec)

/-- 'bloomerylaw.MachineDoes', WHERE WHAT IT READS IS OF BULK AT MOST 1048576: true; the input reads as it did. -/
def machineDoesUptoRow : OpenClaim := { program := "ytgeajgdddjjjnaadoor", sum := "c00d4b87294c84277867b0e099f855469579699bec5b28faf14215bc3ecff3bf", func := "bloomery/bloomerylaw.MachineDoes", spec := "machineDoes", inPlace := ["internal/reflectlite.ValueOf", "(internal/reflectlite.Value).Type", "(internal/reflectlite.Value).IsNil", "internal/reflectlite.TypeOf", "(internal/reflectlite.Value).Elem", "(internal/reflectlite.Value).Set", "internal/bytealg.IndexByteString", "internal/bytealg.IndexString"], unfollowed := true, recurses := true, named := ["errors.errorType", "bloomery/word.forms", "internal/bytealg.MaxLen"], apart := false, laid := [("errors.errorType", laid_errors_errorType), ("bloomery/word.forms", laid_bloomery_word_forms)], narrowed := true }
def MachineDoesUptoSaid : Prop := machineDoesUptoRow.holds Tryd.pinned (OpenSpec.upto machineDoesSpec)

end Rows
end Go.Proofs.YtgeajgdddjjjnaaDoor

/-
  No cell of these rows narrows 'for every input' (looked for: loops, veiled, ifaces, maps, wideKeys, modest, calm, conditions, laid).
  DERIVED. THE GIVEN ROWS OF THIS SEAT. 4 by the template 'for every input the law returns true; each argument reads behind the call as it read before'; 0 by the template 'total and deterministic' (their statements: YtclmnjbillkieaaTotals.lean).
  GIVEN WITH THE SEED: the statements are not yours to turn. If you find one false, say at which input.
  Laid BY PROGRAM, IN A SANDBOX (cutbox-rows.mjs): the forced cells as the released guide's own fill.sh prints them over the translation beb0bd248db4b3c8… (all of the seat's roots in one cut). By AI agents, Wed Nov 11 2026. No macro, syntax, notation, axiom, sorry.
-/
import Derived.Test.YtclmnjbillkieaaChecked
import GoSem.Claim
import GoSem.ClaimJoined
import GoSem.ClaimMapViews
import Derived.JoinedTies
import Derived.KernelRfl
namespace Go.Proofs.Ytclmnjbillkieaa
/- THE CELL 'sum', in the pinned program and in every row, IS THE sha256 OF THE DUMP (.gsa) THAT YtclmnjbillkieaaProg.lean LOADS. Nothing in Lean hashes anything: it is a label: what it is worth is what the hold of that sum in a sandbox is worth. -/
noncomputable def Try.pinned : Pinned := { name := "ytclmnjbillkieaa", sum := "beb0bd248db4b3c8ec1d9c85d6c23c7b0f438912780284e4f33e4fa0adfb0b83", checked := Try.checked }
namespace Rows
def none {H : Type} : Left H := { results := [], args := [] }

/-- 'bloomerylaw.EmitPlans': WHATEVER THE INPUT: true; the input reads as it did. -/
def emitPlansSpec : ChangeSpec := { name := "emitPlans", fn := fun _ => fun
  | [d1, d2] => { results := [.lit (.bool true)], args := [d1, d2] }
  | _ => none }
def emitPlansRow : OpenClaim := { program := "ytclmnjbillkieaa", sum := "beb0bd248db4b3c8ec1d9c85d6c23c7b0f438912780284e4f33e4fa0adfb0b83", func := "bloomery/bloomerylaw.EmitPlans", spec := "emitPlans", unfollowed := true, recurses := true, apart := false }
def EmitPlansSaid : Prop := emitPlansRow.holds Try.pinned (OpenSpec.ofChange emitPlansSpec)

/-- ITS FALSE NEIGHBOUR: 'it returns false'. Refute it at one input. -/
def emitPlansWrong : ChangeSpec := { name := "emitPlans", fn := fun _ => fun
  | [d1, d2] => { results := [.lit (.bool false)], args := [d1, d2] }
  | _ => none }
def EmitPlansWrongFalsely : Prop := emitPlansRow.holds Try.pinned (OpenSpec.ofChange emitPlansWrong)

/-- 'bloomerykeep.EmitApart': WHATEVER THE INPUT: true; the input reads as it did. -/
def emitApartSpec : ChangeSpec := { name := "emitApart", fn := fun _ => fun
  | [d1, d2] => { results := [.lit (.bool true)], args := [d1, d2] }
  | _ => none }
def emitApartRow : OpenClaim := { program := "ytclmnjbillkieaa", sum := "beb0bd248db4b3c8ec1d9c85d6c23c7b0f438912780284e4f33e4fa0adfb0b83", func := "bloomery/bloomerykeep.EmitApart", spec := "emitApart", apart := false }
def EmitApartSaid : Prop := emitApartRow.holds Try.pinned (OpenSpec.ofChange emitApartSpec)

/-- ITS FALSE NEIGHBOUR: 'it returns false'. Refute it at one input. -/
def emitApartWrong : ChangeSpec := { name := "emitApart", fn := fun _ => fun
  | [d1, d2] => { results := [.lit (.bool false)], args := [d1, d2] }
  | _ => none }
def EmitApartWrongFalsely : Prop := emitApartRow.holds Try.pinned (OpenSpec.ofChange emitApartWrong)

/-- 'bloomerylaw.MachineAlu': WHATEVER THE INPUT: true; the input reads as it did. -/
def machineAluSpec : ChangeSpec := { name := "machineAlu", fn := fun _ => fun
  | [d1, d2, d3] => { results := [.lit (.bool true)], args := [d1, d2, d3] }
  | _ => none }
def machineAluRow : OpenClaim := { program := "ytclmnjbillkieaa", sum := "beb0bd248db4b3c8ec1d9c85d6c23c7b0f438912780284e4f33e4fa0adfb0b83", func := "bloomery/bloomerylaw.MachineAlu", spec := "machineAlu", unfollowed := true, recurses := true, apart := false }
def MachineAluSaid : Prop := machineAluRow.holds Try.pinned (OpenSpec.ofChange machineAluSpec)

/-- ITS FALSE NEIGHBOUR: 'it returns false'. Refute it at one input. -/
def machineAluWrong : ChangeSpec := { name := "machineAlu", fn := fun _ => fun
  | [d1, d2, d3] => { results := [.lit (.bool false)], args := [d1, d2, d3] }
  | _ => none }
def MachineAluWrongFalsely : Prop := machineAluRow.holds Try.pinned (OpenSpec.ofChange machineAluWrong)

/-- 'bloomerykeep.AluSums': WHATEVER THE INPUT: true; the input reads as it did. -/
def aluSumsSpec : ChangeSpec := { name := "aluSums", fn := fun _ => fun
  | [d1, d2, d3] => { results := [.lit (.bool true)], args := [d1, d2, d3] }
  | _ => none }
def aluSumsRow : OpenClaim := { program := "ytclmnjbillkieaa", sum := "beb0bd248db4b3c8ec1d9c85d6c23c7b0f438912780284e4f33e4fa0adfb0b83", func := "bloomery/bloomerykeep.AluSums", spec := "aluSums", unfollowed := true, recurses := true, apart := false }
def AluSumsSaid : Prop := aluSumsRow.holds Try.pinned (OpenSpec.ofChange aluSumsSpec)

/-- ITS FALSE NEIGHBOUR: 'it returns false'. Refute it at one input. -/
def aluSumsWrong : ChangeSpec := { name := "aluSums", fn := fun _ => fun
  | [d1, d2, d3] => { results := [.lit (.bool false)], args := [d1, d2, d3] }
  | _ => none }
def AluSumsWrongFalsely : Prop := aluSumsRow.holds Try.pinned (OpenSpec.ofChange aluSumsWrong)

/- THE SECOND FORM. 'bulk': how many values and letters a reading holds, each counted each time it is reached (what is shared counts as often as it is met; a slice's spare places count too). A statement '..UptoSaid' is the law's where the arguments, and the package variables that the reading takes, are together of bulk at most 1048576: NARROWER than '..Said'. Prove '..Said' where nothing that the law and all that it calls make is longer than what came in: it says more and counts as full. Else prove '..UptoSaid'. A law counts once. -/
mutual
def uptoBulk {H : Type} : DataW H → Nat
  | .lit (.string bytes) => bytes.length + 1
  | .lit _ => 1
  | .nil => 1
  | .ptr d => uptoBulk d + 1
  | .slice elems spare => uptoBulkAll elems + uptoBulkAll spare + 1
  | .agg parts => uptoBulkAll parts + 1
  | .iface _ d => uptoBulk d + 1
  | .map entries => uptoBulkEntries entries + 1
  | .held _ => 1
def uptoBulkAll {H : Type} : List (DataW H) → Nat
  | [] => 0
  | d :: r => uptoBulk d + uptoBulkAll r
def uptoBulkEntries {H : Type} : List (Lit × DataW H) → Nat
  | [] => 0
  | x :: r => uptoBulkEntry x + uptoBulkEntries r
def uptoBulkEntry {H : Type} : Lit × DataW H → Nat
  | (.string bytes, d) => bytes.length + uptoBulk d + 1
  | (_, d) => uptoBulk d + 1
 end
def uptoSmall : (H : Type) → List (DataW H) → Bool := fun _ ds => decide (uptoBulkAll ds ≤ 1048576)
def OpenSpec.upto (s : _root_.Go.ChangeSpec) : _root_.Go.OpenSpec := { _root_.Go.OpenSpec.ofChange s with cond := some uptoSmall }

/-- 'bloomerylaw.EmitPlans', WHERE WHAT IT READS IS OF BULK AT MOST 1048576: true; the input reads as it did. -/
def emitPlansUptoRow : OpenClaim := { program := "ytclmnjbillkieaa", sum := "beb0bd248db4b3c8ec1d9c85d6c23c7b0f438912780284e4f33e4fa0adfb0b83", func := "bloomery/bloomerylaw.EmitPlans", spec := "emitPlans", unfollowed := true, recurses := true, apart := false, narrowed := true }
def EmitPlansUptoSaid : Prop := emitPlansUptoRow.holds Try.pinned (OpenSpec.upto emitPlansSpec)

/-- 'bloomerykeep.EmitApart', WHERE WHAT IT READS IS OF BULK AT MOST 1048576: true; the input reads as it did. -/
def emitApartUptoRow : OpenClaim := { program := "ytclmnjbillkieaa", sum := "beb0bd248db4b3c8ec1d9c85d6c23c7b0f438912780284e4f33e4fa0adfb0b83", func := "bloomery/bloomerykeep.EmitApart", spec := "emitApart", apart := false, narrowed := true }
def EmitApartUptoSaid : Prop := emitApartUptoRow.holds Try.pinned (OpenSpec.upto emitApartSpec)

/-- 'bloomerylaw.MachineAlu', WHERE WHAT IT READS IS OF BULK AT MOST 1048576: true; the input reads as it did. -/
def machineAluUptoRow : OpenClaim := { program := "ytclmnjbillkieaa", sum := "beb0bd248db4b3c8ec1d9c85d6c23c7b0f438912780284e4f33e4fa0adfb0b83", func := "bloomery/bloomerylaw.MachineAlu", spec := "machineAlu", unfollowed := true, recurses := true, apart := false, narrowed := true }
def MachineAluUptoSaid : Prop := machineAluUptoRow.holds Try.pinned (OpenSpec.upto machineAluSpec)

/-- 'bloomerykeep.AluSums', WHERE WHAT IT READS IS OF BULK AT MOST 1048576: true; the input reads as it did. -/
def aluSumsUptoRow : OpenClaim := { program := "ytclmnjbillkieaa", sum := "beb0bd248db4b3c8ec1d9c85d6c23c7b0f438912780284e4f33e4fa0adfb0b83", func := "bloomery/bloomerykeep.AluSums", spec := "aluSums", unfollowed := true, recurses := true, apart := false, narrowed := true }
def AluSumsUptoSaid : Prop := aluSumsUptoRow.holds Try.pinned (OpenSpec.upto aluSumsSpec)

end Rows
end Go.Proofs.Ytclmnjbillkieaa

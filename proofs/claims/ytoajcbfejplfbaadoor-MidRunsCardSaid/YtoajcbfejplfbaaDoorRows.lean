/-
  NARROWER THAN 'FOR EVERY INPUT', by the rows' own cells (each row's printed sentence says how): MidRuns: laid · FoldStraight: laid · FoldSame: laid.
  DERIVED. THE GIVEN ROWS OF THIS SEAT. 3 by the template 'for every input the law returns true; each argument reads behind the call as it read before'; 0 by the template 'total and deterministic' (their statements: YtoajcbfejplfbaaDoorTotals.lean).
  GIVEN WITH THE SEED: the statements are not yours to turn. If you find one false, say at which input.
  Laid BY PROGRAM, IN A SANDBOX (cutbox-rows.mjs): the forced cells as the released guide's own fill.sh prints them over the translation ae232a5eb7b13ee1… (all of the seat's roots in one cut). By AI agents, Wed Nov 11 2026. No macro, syntax, notation, axiom, sorry.
-/
import Derived.Test.YtoajcbfejplfbaaDoorChecked
import GoSem.Claim
import GoSem.ClaimJoined
import GoSem.ClaimMapViews
import Derived.JoinedTies
import Derived.KernelRfl
namespace Go.Proofs.YtoajcbfejplfbaaDoor
/- THE CELL 'sum', in the pinned program and in every row, IS THE sha256 OF THE DUMP (.gsa) THAT YtoajcbfejplfbaaDoorProg.lean LOADS. Nothing in Lean hashes anything: it is a label: what it is worth is what the hold of that sum in a sandbox is worth. -/
noncomputable def Tryd.pinned : Pinned := { name := "ytoajcbfejplfbaadoor", sum := "ae232a5eb7b13ee1c8ff5af84f4c43f8233f47e908dc8dce68961d1cda960e6f", checked := Tryd.checked }
namespace Rows
def none {H : Type} : Left H := { results := [], args := [] }

/- WHAT THE LISTED PACKAGE-LEVEL VARIABLES READ AS WHEN THE CALL BEGINS. Each datum BY PROGRAM (the guide's laid-datum.mjs) off the statement by which the dump's own 'gosem.cut.vars' lays the variable. In a bare row this is a premise. The card (YtoajcbfejplfbaaDoorCards.lean) ties it to the program's text. -/
def laid_bloomery_mid_ops {H : Type} : DataW H := .agg [.lit (.string [43]), .lit (.string [45]), .lit (.string [42]), .lit (.string [47]), .lit (.string [37]), .lit (.string [61, 61]), .lit (.string [33, 61]), .lit (.string [60]), .lit (.string [60, 61]), .lit (.string [62]), .lit (.string [62, 61])]
def laid_bloomery_mid_forms {H : Type} : DataW H := .agg [.agg [.lit (.int .i64 0), .lit (.int .i64 0), .lit (.int .i64 0), .lit (.int .i64 0)], .agg [.lit (.int .i64 1), .lit (.int .i64 0), .lit (.int .i64 0), .lit (.int .i64 0)], .agg [.lit (.int .i64 0), .lit (.int .i64 0), .lit (.int .i64 0), .lit (.int .i64 0)], .agg [.lit (.int .i64 1), .lit (.int .i64 1), .lit (.int .i64 1), .lit (.int .i64 0)], .agg [.lit (.int .i64 0), .lit (.int .i64 0), .lit (.int .i64 0), .lit (.int .i64 0)], .agg [.lit (.int .i64 0), .lit (.int .i64 1), .lit (.int .i64 0), .lit (.int .i64 0)], .agg [.lit (.int .i64 0), .lit (.int .i64 0), .lit (.int .i64 0), .lit (.int .i64 0)], .agg [.lit (.int .i64 0), .lit (.int .i64 0), .lit (.int .i64 0), .lit (.int .i64 0)], .agg [.lit (.int .i64 0), .lit (.int .i64 1), .lit (.int .i64 0), .lit (.int .i64 0)], .agg [.lit (.int .i64 2), .lit (.int .i64 1), .lit (.int .i64 0), .lit (.int .i64 0)], .agg [.lit (.int .i64 1), .lit (.int .i64 2), .lit (.int .i64 0), .lit (.int .i64 0)], .agg [.lit (.int .i64 1), .lit (.int .i64 2), .lit (.int .i64 1), .lit (.int .i64 0)], .agg [.lit (.int .i64 0), .lit (.int .i64 2), .lit (.int .i64 1), .lit (.int .i64 1)], .agg [.lit (.int .i64 0), .lit (.int .i64 1), .lit (.int .i64 0), .lit (.int .i64 0)], .agg [.lit (.int .i64 1), .lit (.int .i64 0), .lit (.int .i64 0), .lit (.int .i64 0)]]
def laid_errors_errorType {H : Type} : DataW H := .iface "internal/reflectlite.rtype" (.agg [.ptr (.lit (.string [101, 114, 114, 111, 114]))])

/-- 'bloomerylaw.MidRuns': WHATEVER THE INPUT: true; the input reads as it did. -/
def midRunsSpec : ChangeSpec := { name := "midRuns", fn := fun _ => fun
  | [d1, d2, d3, d4, d5, d6] => { results := [.lit (.bool true)], args := [d1, d2, d3, d4, d5, d6] }
  | _ => none }
def midRunsRow : OpenClaim := { program := "ytoajcbfejplfbaadoor", sum := "ae232a5eb7b13ee1c8ff5af84f4c43f8233f47e908dc8dce68961d1cda960e6f", func := "bloomery/bloomerylaw.MidRuns", spec := "midRuns", inPlace := ["internal/bytealg.IndexByteString", "internal/bytealg.IndexString"], unfollowed := true, recurses := true, named := ["bloomery/mid.forms", "bloomery/mid.ops", "internal/bytealg.MaxLen"], apart := false, laid := [("bloomery/mid.ops", laid_bloomery_mid_ops), ("bloomery/mid.forms", laid_bloomery_mid_forms)] }
def MidRunsSaid : Prop := midRunsRow.holds Tryd.pinned (OpenSpec.ofChange midRunsSpec)

/-- ITS FALSE NEIGHBOUR: 'it returns false'. Refute it at one input. -/
def midRunsWrong : ChangeSpec := { name := "midRuns", fn := fun _ => fun
  | [d1, d2, d3, d4, d5, d6] => { results := [.lit (.bool false)], args := [d1, d2, d3, d4, d5, d6] }
  | _ => none }
def MidRunsWrongFalsely : Prop := midRunsRow.holds Tryd.pinned (OpenSpec.ofChange midRunsWrong)

/-- 'bloomerykeep.FoldStraight': WHATEVER THE INPUT: true; the input reads as it did. -/
def foldStraightSpec : ChangeSpec := { name := "foldStraight", fn := fun _ => fun
  | [d1, d2, d3] => { results := [.lit (.bool true)], args := [d1, d2, d3] }
  | _ => none }
def foldStraightRow : OpenClaim := { program := "ytoajcbfejplfbaadoor", sum := "ae232a5eb7b13ee1c8ff5af84f4c43f8233f47e908dc8dce68961d1cda960e6f", func := "bloomery/bloomerykeep.FoldStraight", spec := "foldStraight", unfollowed := true, recurses := true, named := ["bloomery/mid.forms", "bloomery/mid.ops"], apart := false, laid := [("bloomery/mid.ops", laid_bloomery_mid_ops), ("bloomery/mid.forms", laid_bloomery_mid_forms)] }
def FoldStraightSaid : Prop := foldStraightRow.holds Tryd.pinned (OpenSpec.ofChange foldStraightSpec)

/-- ITS FALSE NEIGHBOUR: 'it returns false'. Refute it at one input. -/
def foldStraightWrong : ChangeSpec := { name := "foldStraight", fn := fun _ => fun
  | [d1, d2, d3] => { results := [.lit (.bool false)], args := [d1, d2, d3] }
  | _ => none }
def FoldStraightWrongFalsely : Prop := foldStraightRow.holds Tryd.pinned (OpenSpec.ofChange foldStraightWrong)

/-- 'bloomerykeep.FoldSame': WHATEVER THE INPUT: true; the input reads as it did. -/
def foldSameSpec : ChangeSpec := { name := "foldSame", fn := fun _ => fun
  | [d1, d2, d3] => { results := [.lit (.bool true)], args := [d1, d2, d3] }
  | _ => none }
def foldSameRow : OpenClaim := { program := "ytoajcbfejplfbaadoor", sum := "ae232a5eb7b13ee1c8ff5af84f4c43f8233f47e908dc8dce68961d1cda960e6f", func := "bloomery/bloomerykeep.FoldSame", spec := "foldSame", inPlace := ["internal/reflectlite.ValueOf", "(internal/reflectlite.Value).Type", "(internal/reflectlite.Value).IsNil", "internal/reflectlite.TypeOf", "(internal/reflectlite.Value).Elem", "(internal/reflectlite.Value).Set"], unfollowed := true, recurses := true, named := ["bloomery/mid.forms", "bloomery/mid.ops", "errors.errorType"], apart := false, laid := [("errors.errorType", laid_errors_errorType), ("bloomery/mid.ops", laid_bloomery_mid_ops), ("bloomery/mid.forms", laid_bloomery_mid_forms)] }
def FoldSameSaid : Prop := foldSameRow.holds Tryd.pinned (OpenSpec.ofChange foldSameSpec)

/-- ITS FALSE NEIGHBOUR: 'it returns false'. Refute it at one input. -/
def foldSameWrong : ChangeSpec := { name := "foldSame", fn := fun _ => fun
  | [d1, d2, d3] => { results := [.lit (.bool false)], args := [d1, d2, d3] }
  | _ => none }
def FoldSameWrongFalsely : Prop := foldSameRow.holds Tryd.pinned (OpenSpec.ofChange foldSameWrong)

/- THE SECOND FORM. 'bulk': how many values and letters a reading holds, each counted each time it is reached (what is shared counts as often as it is met; a slice's spare places count too). A statement '..UptoSaid' is the law's where the arguments, and the package variables that the reading takes, are together of bulk at most 1048576: NARROWER than '..Said'. Prove '..Said' where nothing that the law and all that it calls make is longer than what came in: it says more and counts as full. Else prove '..UptoSaid'. A law counts once. -/
mutual
def uptoBulk {H : Type} : DataW H → Nat
  | .lit (.string bytes) => bytes.length + 1
  | .lit _ => 1
  | .nil => 1
  | .ptr d => uptoBulk d + 1
  | .slice elems spare => uptoBulkAll elems + uptoBulkAll spare + 1
  | .agg parts => uptoBulkAll parts + 1
  | .iface _ d => uptoBulk d + 1
  | .map entries => uptoBulkEntries entries + 1
  | .held _ => 1
def uptoBulkAll {H : Type} : List (DataW H) → Nat
  | [] => 0
  | d :: r => uptoBulk d + uptoBulkAll r
def uptoBulkEntries {H : Type} : List (Lit × DataW H) → Nat
  | [] => 0
  | x :: r => uptoBulkEntry x + uptoBulkEntries r
def uptoBulkEntry {H : Type} : Lit × DataW H → Nat
  | (.string bytes, d) => bytes.length + uptoBulk d + 1
  | (_, d) => uptoBulk d + 1
 end
def uptoSmall : (H : Type) → List (DataW H) → Bool := fun _ ds => decide (uptoBulkAll ds ≤ 1048576)
def OpenSpec.upto (s : _root_.Go.ChangeSpec) : _root_.Go.OpenSpec := { _root_.Go.OpenSpec.ofChange s with cond := some uptoSmall }

/-- 'bloomerylaw.MidRuns', WHERE WHAT IT READS IS OF BULK AT MOST 1048576: true; the input reads as it did. -/
def midRunsUptoRow : OpenClaim := { program := "ytoajcbfejplfbaadoor", sum := "ae232a5eb7b13ee1c8ff5af84f4c43f8233f47e908dc8dce68961d1cda960e6f", func := "bloomery/bloomerylaw.MidRuns", spec := "midRuns", inPlace := ["internal/bytealg.IndexByteString", "internal/bytealg.IndexString"], unfollowed := true, recurses := true, named := ["bloomery/mid.forms", "bloomery/mid.ops", "internal/bytealg.MaxLen"], apart := false, laid := [("bloomery/mid.ops", laid_bloomery_mid_ops), ("bloomery/mid.forms", laid_bloomery_mid_forms)], narrowed := true }
def MidRunsUptoSaid : Prop := midRunsUptoRow.holds Tryd.pinned (OpenSpec.upto midRunsSpec)

/-- 'bloomerykeep.FoldStraight', WHERE WHAT IT READS IS OF BULK AT MOST 1048576: true; the input reads as it did. -/
def foldStraightUptoRow : OpenClaim := { program := "ytoajcbfejplfbaadoor", sum := "ae232a5eb7b13ee1c8ff5af84f4c43f8233f47e908dc8dce68961d1cda960e6f", func := "bloomery/bloomerykeep.FoldStraight", spec := "foldStraight", unfollowed := true, recurses := true, named := ["bloomery/mid.forms", "bloomery/mid.ops"], apart := false, laid := [("bloomery/mid.ops", laid_bloomery_mid_ops), ("bloomery/mid.forms", laid_bloomery_mid_forms)], narrowed := true }
def FoldStraightUptoSaid : Prop := foldStraightUptoRow.holds Tryd.pinned (OpenSpec.upto foldStraightSpec)

/-- 'bloomerykeep.FoldSame', WHERE WHAT IT READS IS OF BULK AT MOST 1048576: true; the input reads as it did. -/
def foldSameUptoRow : OpenClaim := { program := "ytoajcbfejplfbaadoor", sum := "ae232a5eb7b13ee1c8ff5af84f4c43f8233f47e908dc8dce68961d1cda960e6f", func := "bloomery/bloomerykeep.FoldSame", spec := "foldSame", inPlace := ["internal/reflectlite.ValueOf", "(internal/reflectlite.Value).Type", "(internal/reflectlite.Value).IsNil", "internal/reflectlite.TypeOf", "(internal/reflectlite.Value).Elem", "(internal/reflectlite.Value).Set"], unfollowed := true, recurses := true, named := ["bloomery/mid.forms", "bloomery/mid.ops", "errors.errorType"], apart := false, laid := [("errors.errorType", laid_errors_errorType), ("bloomery/mid.ops", laid_bloomery_mid_ops), ("bloomery/mid.forms", laid_bloomery_mid_forms)], narrowed := true }
def FoldSameUptoSaid : Prop := foldSameUptoRow.holds Tryd.pinned (OpenSpec.upto foldSameSpec)

end Rows
end Go.Proofs.YtoajcbfejplfbaaDoor

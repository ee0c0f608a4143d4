/-
  DERIVED. GIVEN WITH THE SEED: THE CARDS: each row of YtoajcbfejplfbaaDoorRows.lean that lists a variable, with what it lists TIED to the program's text (the seventh form; the later family's looks); each row that meets fmt, with fmt's text TOLD by the authors' own Lean function (tested against real Go, not proved from fmt's source: count such statements apart). THE CARD IS WHAT COUNTS. Prove the row's statement (the work); the ties are given (YtoajcbfejplfbaaDoorTie.lean); close each card by the builder's one call (the guide's Derived/Test/ToyasCard.lean, 'card_holds'). Laid BY PROGRAM, IN A SANDBOX (cutbox-door.mjs). By AI agents, Wed Nov 11 2026. No macro, syntax, notation, axiom, sorry.
-/
import Derived.Test.YtoajcbfejplfbaaDoorRows
import GoSem.ClaimSeven
namespace Go.Proofs.YtoajcbfejplfbaaDoor
namespace Rows

/-- THE TIED CARD OF 'bloomerylaw.MidRuns'. -/
def midRunsCard : Claim7 := { stood := { row := midRunsRow, standIns := [], harness := (true, "208074a8fd95b9bb8ad81e9727fe551a2a8c0bab750855d688ddcc4f09028df6"), looks := true }, kinds := [], alts := [], laidByText := true, laidKinds := [.widerDeep, .data], laidTests := true, laidLooks := .later }
def MidRunsCardSaid : Prop := Claim7.holds Tryd.pinned (.plain (OpenSpec.ofChange midRunsSpec)) midRunsCard

/-- THE TIED CARD OF 'bloomerykeep.FoldStraight'. -/
def foldStraightCard : Claim7 := { stood := { row := foldStraightRow, standIns := [], harness := (true, "208074a8fd95b9bb8ad81e9727fe551a2a8c0bab750855d688ddcc4f09028df6"), looks := true }, kinds := [], alts := [], laidByText := true, laidKinds := [.widerDeep, .data], laidTests := true, laidLooks := .later }
def FoldStraightCardSaid : Prop := Claim7.holds Tryd.pinned (.plain (OpenSpec.ofChange foldStraightSpec)) foldStraightCard

/-- THE TIED CARD OF 'bloomerykeep.FoldSame'. -/
def foldSameCard : Claim7 := { stood := { row := foldSameRow, standIns := [], harness := (true, "208074a8fd95b9bb8ad81e9727fe551a2a8c0bab750855d688ddcc4f09028df6"), looks := true }, kinds := [], alts := [], laidByText := true, laidKinds := [.handle, .widerDeep, .data], laidTests := true, laidLooks := .later }
def FoldSameCardSaid : Prop := Claim7.holds Tryd.pinned (.plain (OpenSpec.ofChange foldSameSpec)) foldSameCard

/-- THE SECOND FORM's CARD OF 'bloomerylaw.MidRuns'. -/
def midRunsUptoCard : Claim7 := { stood := { row := midRunsUptoRow, standIns := [], harness := (true, "208074a8fd95b9bb8ad81e9727fe551a2a8c0bab750855d688ddcc4f09028df6"), looks := true }, kinds := [], alts := [], laidByText := true, laidKinds := [.widerDeep, .data], laidTests := true, laidLooks := .later }
def MidRunsUptoCardSaid : Prop := Claim7.holds Tryd.pinned (.plain (OpenSpec.upto midRunsSpec)) midRunsUptoCard

/-- THE SECOND FORM's CARD OF 'bloomerykeep.FoldStraight'. -/
def foldStraightUptoCard : Claim7 := { stood := { row := foldStraightUptoRow, standIns := [], harness := (true, "208074a8fd95b9bb8ad81e9727fe551a2a8c0bab750855d688ddcc4f09028df6"), looks := true }, kinds := [], alts := [], laidByText := true, laidKinds := [.widerDeep, .data], laidTests := true, laidLooks := .later }
def FoldStraightUptoCardSaid : Prop := Claim7.holds Tryd.pinned (.plain (OpenSpec.upto foldStraightSpec)) foldStraightUptoCard

/-- THE SECOND FORM's CARD OF 'bloomerykeep.FoldSame'. -/
def foldSameUptoCard : Claim7 := { stood := { row := foldSameUptoRow, standIns := [], harness := (true, "208074a8fd95b9bb8ad81e9727fe551a2a8c0bab750855d688ddcc4f09028df6"), looks := true }, kinds := [], alts := [], laidByText := true, laidKinds := [.handle, .widerDeep, .data], laidTests := true, laidLooks := .later }
def FoldSameUptoCardSaid : Prop := Claim7.holds Tryd.pinned (.plain (OpenSpec.upto foldSameSpec)) foldSameUptoCard
end Rows
end Go.Proofs.YtoajcbfejplfbaaDoor

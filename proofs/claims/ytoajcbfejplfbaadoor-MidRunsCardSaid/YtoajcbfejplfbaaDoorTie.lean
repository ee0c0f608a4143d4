/-
  DERIVED. GIVEN WITH THE SEED: THE PROGRAM's TIES (one call each: nine closed facts by the kernel) AND EACH ROW's TIE, after the 31st guide's Derived/Test/Toyas{Tie, Card}.lean. No idea stands in it: it is a product of the set-up. Laid BY PROGRAM, IN A SANDBOX (cutbox-door.mjs). By AI agents, Wed Nov 11 2026. No macro, syntax, notation, axiom, sorry.
-/
import Derived.Test.YtoajcbfejplfbaaDoorRows
import Derived.LaidByTextLater
import Derived.SevenTiedAt
import Derived.LaidSub
import Derived.LaidOnce
namespace Go.Proofs.YtoajcbfejplfbaaDoor
open Go
set_option maxRecDepth 100000
theorem seatTie1 : Tryd.prog.laidByTextLater [("errors.errorType", Rows.laid_errors_errorType), ("bloomery/mid.ops", Rows.laid_bloomery_mid_ops), ("bloomery/mid.forms", Rows.laid_bloomery_mid_forms)] [.handle, .widerDeep, .data] true :=
  Program.laidByTextLater_by_one 36 8 61 (by kernel_rfl) (by kernel_rfl) (by kernel_rfl) (by kernel_rfl) (by kernel_rfl) (by kernel_rfl) (fun _ _ => by kernel_rfl)
theorem noOwnUnsafe : Tryd.pinned.checked.prog.headLifts.contains "ownunsafe" = false := by kernel_rfl
theorem tie : Tryd.prog.laidByTextLater [("bloomery/mid.ops", Rows.laid_bloomery_mid_ops), ("bloomery/mid.forms", Rows.laid_bloomery_mid_forms)] [.widerDeep, .data] true :=
  Program.laidByTextLater.sub seatTie1 ["bloomery/mid.ops", "bloomery/mid.forms"] (by kernel_rfl) (by kernel_rfl)
theorem midRuns_row_tie : Rows.midRunsRow.laidByTextAt .later Tryd.pinned [.widerDeep, .data] true :=
  OpenClaim.laidByTextAt_later rfl rfl tie noOwnUnsafe
theorem foldStraight_row_tie : Rows.foldStraightRow.laidByTextAt .later Tryd.pinned [.widerDeep, .data] true :=
  OpenClaim.laidByTextAt_later rfl rfl tie noOwnUnsafe
theorem tie2 : Tryd.prog.laidByTextLater [("errors.errorType", Rows.laid_errors_errorType), ("bloomery/mid.ops", Rows.laid_bloomery_mid_ops), ("bloomery/mid.forms", Rows.laid_bloomery_mid_forms)] [.handle, .widerDeep, .data] true :=
  Program.laidByTextLater.sub seatTie1 ["errors.errorType", "bloomery/mid.ops", "bloomery/mid.forms"] (by kernel_rfl) (by kernel_rfl)
theorem foldSame_row_tie : Rows.foldSameRow.laidByTextAt .later Tryd.pinned [.handle, .widerDeep, .data] true :=
  OpenClaim.laidByTextAt_later rfl rfl tie2 noOwnUnsafe
theorem midRunsUpto_row_tie : Rows.midRunsUptoRow.laidByTextAt .later Tryd.pinned [.widerDeep, .data] true :=
  OpenClaim.laidByTextAt_later rfl rfl tie noOwnUnsafe
theorem foldStraightUpto_row_tie : Rows.foldStraightUptoRow.laidByTextAt .later Tryd.pinned [.widerDeep, .data] true :=
  OpenClaim.laidByTextAt_later rfl rfl tie noOwnUnsafe
theorem foldSameUpto_row_tie : Rows.foldSameUptoRow.laidByTextAt .later Tryd.pinned [.handle, .widerDeep, .data] true :=
  OpenClaim.laidByTextAt_later rfl rfl tie2 noOwnUnsafe
end Go.Proofs.YtoajcbfejplfbaaDoor

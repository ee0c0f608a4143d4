/- What FoldSame's row lists lies as the walk wants it; and so it lies behind the door's own run. -/
import Derived.Test.YtoajcbfejplfbaaDoorMidLaid
import Derived.Test.YtoajcbfejplfbaaDoorErrT
import Derived.LaidHandle
import Derived.Test.YtoajcbfejplfbaaDoorNums
import Derived.Test.YtoajcbfejplfbaaDoorMidRunM
namespace Go.Proofs.YtoajcbfejplfbaaDoor.MidP
set_option linter.unusedSimpArgs false
set_option linter.unusedVariables false
open Go.Joins Go.ChangeShapes Go.WideShapes Go.RowKit Go.Deep
noncomputable def three : List (String × DataW Unit) := [("errors.errorType", Rows.laid_errors_errorType), ("bloomery/mid.ops", Rows.laid_bloomery_mid_ops), ("bloomery/mid.forms", Rows.laid_bloomery_mid_forms)]
theorem three_laid {W : World} (h : laidMetH Tryd.prog three W) : FormsAt W ∧ OpsAt W ∧ ErrP.ErrLaid W := by
  have h' : laidMet Tryd.prog [("bloomery/mid.ops", Rows.laid_bloomery_mid_ops), ("bloomery/mid.forms", Rows.laid_bloomery_mid_forms)] W ∧ handlesMet Tryd.prog [("errors.errorType", Rows.laid_errors_errorType)] W := h
  obtain ⟨ps, hv, _⟩ := h'.1
  exact ⟨forms_of hv (by simp), ops_of hv (by simp), ErrP.err_of_handles h'.2 (List.mem_singleton.2 rfl)⟩
/-- Numbers as the walks of the steps want them. -/
theorem nums_in {W : World} {v : Value} {l : List Int} (h : Wo.NumsAt W v l) : InAt W Wo.None v l ∧ ∀ n c, v = .slice none n c → c = 0 := by
  obtain ⟨a, n, c, rfl, h1, h2, h3, h4, -, h5⟩ := h
  refine ⟨⟨a, n, c, rfl, h1, h2, h3, fun i x hx => ?_⟩, fun n' c' e => ?_⟩
  · obtain ⟨g, o, e1, e2⟩ := h5 i x hx
    exact ⟨g, o, e1, fun f => f, e2⟩
  · obtain ⟨e1, -, e2⟩ := Value.slice.inj e
    rw [← e2]
    exact h4 e1
theorem nums_64 {W : World} {v : Value} {l : List Int} (h : Wo.NumsAt W v l) : ∀ x ∈ l, -9223372036854775808 ≤ x ∧ x ≤ 9223372036854775807 := by
  obtain ⟨a, n, c, rfl, h1, h2, h3, h4, h5, -⟩ := h
  exact h5
/-- The door's own heap bears them. -/
theorem three_met (os : Os) (f : _) (args : Array Value) : laidMetH Tryd.prog three ((World.doorLaid Tryd.prog 300 os).forCall f ⟨#[], args, []⟩).memory :=
  laidMetH_of_parts3 (fuel := 8) (laidMet_of_run' 8 (by kernel_rfl) (by kernel_rfl)) (by kernel_rfl) (by kernel_rfl)
end Go.Proofs.YtoajcbfejplfbaaDoor.MidP

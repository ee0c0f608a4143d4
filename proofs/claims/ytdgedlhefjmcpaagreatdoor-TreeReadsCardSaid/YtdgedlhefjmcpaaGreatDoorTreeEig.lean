/- What the row of TreeJoins lists lies as the walks want it. Conditions: none. -/
import Derived.Test.YtdgedlhefjmcpaaGreatDoorTreeSev
import Derived.Test.YtdgedlhefjmcpaaGreatDoorErrHand
namespace Go.Proofs.YtdgedlhefjmcpaaGreatDoor.TreeP
open Go.Joins Go.ChangeShapes Go.WideShapes Go.RowKit Go.Deep
set_option linter.unusedSimpArgs false
set_option linter.unusedVariables false
noncomputable def eight : List (String × DataW Unit) := [("math/bits.deBruijn32tab", Rows.laid_math_bits_deBruijn32tab), ("math/bits.deBruijn64tab", Rows.laid_math_bits_deBruijn64tab), ("internal/strconv.uint64pow10", Rows.laid_internal_strconv_uint64pow10), ("errors.errorType", Rows.laid_errors_errorType), ("strconv.ErrRange", Rows.laid_strconv_ErrRange), ("strconv.ErrSyntax", Rows.laid_strconv_ErrSyntax), ("bloomery/tree.marks", Rows.laid_bloomery_tree_marks), ("bloomery/tree.levels", Rows.laid_bloomery_tree_levels)]
theorem eight_laid {W : World} (h : laidMetH Tryz.prog eight W) : All W ∧ ErrP.ErrLaid W := by
  have h' : laidMet Tryz.prog seven W ∧ handlesMet Tryz.prog [("errors.errorType", Rows.laid_errors_errorType)] W := h
  obtain ⟨ps, hv, _⟩ := h'.1
  exact ⟨all_of_vars hv (by simp [seven]) (by simp [seven]) (by simp [seven]) (by simp [seven]), ErrP.err_of_handles h'.2 (List.mem_singleton.2 rfl)⟩
theorem eight_met (os : Os) (f : _) (args : Array Value) : laidMetH Tryz.prog eight ((World.doorLaid Tryz.prog 300 os).forCall f ⟨#[], args, []⟩).memory :=
  laidMetH_of_parts3 (fuel := 8) (laidMet_of_run' 8 (by kernel_rfl) (by kernel_rfl)) (by kernel_rfl) (by kernel_rfl)
end Go.Proofs.YtdgedlhefjmcpaaGreatDoor.TreeP

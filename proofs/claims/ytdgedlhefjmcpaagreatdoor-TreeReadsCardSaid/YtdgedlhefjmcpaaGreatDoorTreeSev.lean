/- What the rows list lies as the walks want it. Conditions: none. -/
import Derived.Test.YtdgedlhefjmcpaaGreatDoorTreeLaid
namespace Go.Proofs.YtdgedlhefjmcpaaGreatDoor.TreeP
set_option linter.unusedSimpArgs false
set_option linter.unusedVariables false
open Go.Joins Go.ChangeShapes Go.WideShapes Go.RowKit Go.Deep
/-- What the rows list. -/
noncomputable def seven : List (String × DataW Unit) := [("math/bits.deBruijn32tab", Rows.laid_math_bits_deBruijn32tab), ("math/bits.deBruijn64tab", Rows.laid_math_bits_deBruijn64tab), ("internal/strconv.uint64pow10", Rows.laid_internal_strconv_uint64pow10), ("strconv.ErrRange", Rows.laid_strconv_ErrRange), ("strconv.ErrSyntax", Rows.laid_strconv_ErrSyntax), ("bloomery/tree.marks", Rows.laid_bloomery_tree_marks), ("bloomery/tree.levels", Rows.laid_bloomery_tree_levels)]
theorem all_of_laid {W : World} (h : laidMetH Tryz.prog seven W) : All W := by
  rw [MakeChecks.laidMetH_plain _ _ _ (by kernel_rfl)] at h
  obtain ⟨ps, hv, _⟩ := h
  exact all_of_vars hv (by simp [seven]) (by simp [seven]) (by simp [seven]) (by simp [seven])
/-- The door's own heap bears them. -/
theorem seven_met (os : Os) (f : _) (args : Array Value) : laidMetH Tryz.prog seven ((World.doorLaid Tryz.prog 300 os).forCall f ⟨#[], args, []⟩).memory := by
  rw [MakeChecks.laidMetH_plain _ _ _ (by kernel_rfl)]
  exact laidMet_of_run' 8 (by kernel_rfl) (by kernel_rfl)
end Go.Proofs.YtdgedlhefjmcpaaGreatDoor.TreeP

/- What the rows of the assembler list, as a list; a world that bears it; Base out of it. Conditions: none. -/
import Derived.Test.YtodgkbcgdbhpeaaGreatDoorAsmH
import Derived.Test.YtodgkbcgdbhpeaaGreatDoorShaped
import Derived.Lay
import Derived.Lib.LaidIn
import Derived.Shelf.Vars
namespace Go.Proofs.YtodgkbcgdbhpeaaGreatDoor.AsmP
open Go.Joins Go.ChangeShapes Go.WideShapes Go.RowKit Go.Deep
set_option linter.unusedSimpArgs false
set_option linter.unusedVariables false
set_option maxRecDepth 100000
noncomputable def nineL : List (String × DataW Unit) := [("math/bits.deBruijn32tab", Rows.laid_math_bits_deBruijn32tab), ("math/bits.deBruijn64tab", Rows.laid_math_bits_deBruijn64tab), ("internal/strconv.uint64pow10", Rows.laid_internal_strconv_uint64pow10), ("unicode/utf8.acceptRanges", Rows.laid_unicode_utf8_acceptRanges), ("bloomery/word.forms", Rows.laid_bloomery_word_forms), ("strconv.ErrRange", Rows.laid_strconv_ErrRange), ("strconv.ErrSyntax", Rows.laid_strconv_ErrSyntax), ("bloomery/asm.names", Rows.laid_bloomery_asm_names), ("unicode/utf8.first", Rows.laid_unicode_utf8_first)]
noncomputable def eightL : List (String × DataW Unit) := [("math/bits.deBruijn32tab", Rows.laid_math_bits_deBruijn32tab), ("math/bits.deBruijn64tab", Rows.laid_math_bits_deBruijn64tab), ("internal/strconv.uint64pow10", Rows.laid_internal_strconv_uint64pow10), ("unicode/utf8.acceptRanges", Rows.laid_unicode_utf8_acceptRanges), ("bloomery/word.forms", Rows.laid_bloomery_word_forms), ("strconv.ErrRange", Rows.laid_strconv_ErrRange), ("strconv.ErrSyntax", Rows.laid_strconv_ErrSyntax), ("bloomery/asm.names", Rows.laid_bloomery_asm_names)]
/-- The one that is not laid by a run: pinned. -/
noncomputable def lastL : List (String × DataW Unit) := [("unicode/utf8.first", Rows.laid_unicode_utf8_first)]
noncomputable def nineW (os : Os) : World := (World.doorLaid Tryz.prog 300 os).layVars Tryz.prog lastL
noncomputable def nineB (os : Os) : List Nat := ((DataW.laidRun Tryz.prog (nineW os) 8 (eightL.map (·.1))).map fun x => (x.2.map (·.block)).eraseDups).getD []
theorem nineW_os (os : Os) : (nineW os).os = os := World.layVars_os _ _ _
theorem nineW_shaped (os : Os) : (nineW os).Shaped Tryz.prog := World.shaped_of_RefB (by kernel_rfl) (by kernel_rfl)
theorem eight_in (os : Os) : LaidIn Tryz.prog (nineW os) eightL (nineB os) := LaidIn.of_run _ 8 (by kernel_rfl) (by kernel_rfl) (by kernel_rfl) (by kernel_rfl)
theorem nine_met' (os : Os) : laidMet Tryz.prog nineL (nineW os) :=
  laidMet_layVars (w0 := World.doorLaid Tryz.prog 300 os) ["unicode/utf8.first"] (nineB os) rfl (by kernel_rfl) (by kernel_rfl) (eight_in os)
theorem nine_met (os : Os) (f : _) (args : Array Value) : laidMetH Tryz.prog nineL ((nineW os).forCall f ⟨#[], args, []⟩).memory := by
  rw [MakeChecks.laidMetH_plain _ _ _ (by kernel_rfl)]
  exact (nine_met' os).of_heap (by simp [World.memory, World.forCall, Input.heap])
theorem max_of {W : World} (h : W.ShapedOpen Tryz.prog) : MaxAt W := by
  obtain ⟨m, hm⟩ := Go.Proofs.cell_of_shapedOpen_int (P := Tryz.prog) (g := 4) (t := 3) (zero := #[.int .i64 0]) h (of_decide_eq_true (by kernel_rfl)) (by kernel_rfl) rfl (by kernel_rfl) (by kernel_rfl) Tryz.underlying3
  exact ⟨m, hm⟩
theorem base_of {W : World} (h : laidMetH Tryz.prog nineL W) (hS : W.ShapedOpen Tryz.prog) (hr : 12 ≤ W.heap.size) : Base W := by
  rw [MakeChecks.laidMetH_plain _ _ _ (by kernel_rfl)] at h
  obtain ⟨ps, hv, _⟩ := h
  exact ⟨pow_of hv (by simp [nineL]), syn_of hv (by simp [nineL]), range_of hv (by simp [nineL]), max_of hS, forms_of hv (by simp [nineL]), names_of hv (by simp [nineL]), hr⟩
end Go.Proofs.YtodgkbcgdbhpeaaGreatDoor.AsmP

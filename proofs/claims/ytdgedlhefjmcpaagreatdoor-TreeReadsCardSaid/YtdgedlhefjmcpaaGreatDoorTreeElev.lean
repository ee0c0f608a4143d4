/- What the rows against the reference list lies as the walks want it; a world that bears it. Conditions: none. -/
import Derived.Test.YtdgedlhefjmcpaaGreatDoorTreeEig
import Derived.Test.YtdgedlhefjmcpaaGreatDoorReads
import Derived.Test.YtdgedlhefjmcpaaGreatDoorShaped
import Derived.Lay
import Derived.Lib.LaidIn
import Derived.Shelf.Vars
namespace Go.Proofs.YtdgedlhefjmcpaaGreatDoor.TreeP
open Go.Joins Go.ChangeShapes Go.WideShapes Go.RowKit Go.Deep
set_option linter.unusedSimpArgs false
set_option linter.unusedVariables false
set_option maxRecDepth 100000
noncomputable def eleven : List (String × DataW Unit) := [("math/bits.deBruijn32tab", Rows.laid_math_bits_deBruijn32tab), ("math/bits.deBruijn64tab", Rows.laid_math_bits_deBruijn64tab), ("internal/strconv.uint64pow10", Rows.laid_internal_strconv_uint64pow10), ("unicode/utf8.acceptRanges", Rows.laid_unicode_utf8_acceptRanges), ("errors.errorType", Rows.laid_errors_errorType), ("strconv.ErrRange", Rows.laid_strconv_ErrRange), ("strconv.ErrSyntax", Rows.laid_strconv_ErrSyntax), ("bloomery/bloomeryref.Fine", Rows.laid_bloomery_bloomeryref_Fine), ("bloomery/tree.marks", Rows.laid_bloomery_tree_marks), ("bloomery/tree.levels", Rows.laid_bloomery_tree_levels), ("unicode/utf8.first", Rows.laid_unicode_utf8_first)]
noncomputable def nine : List (String × DataW Unit) := [("math/bits.deBruijn32tab", Rows.laid_math_bits_deBruijn32tab), ("math/bits.deBruijn64tab", Rows.laid_math_bits_deBruijn64tab), ("internal/strconv.uint64pow10", Rows.laid_internal_strconv_uint64pow10), ("unicode/utf8.acceptRanges", Rows.laid_unicode_utf8_acceptRanges), ("strconv.ErrRange", Rows.laid_strconv_ErrRange), ("strconv.ErrSyntax", Rows.laid_strconv_ErrSyntax), ("bloomery/bloomeryref.Fine", Rows.laid_bloomery_bloomeryref_Fine), ("bloomery/tree.marks", Rows.laid_bloomery_tree_marks), ("bloomery/tree.levels", Rows.laid_bloomery_tree_levels)]
/-- The one that is not laid by a run: pinned. -/
noncomputable def tenth : List (String × DataW Unit) := [("unicode/utf8.first", Rows.laid_unicode_utf8_first)]
noncomputable def ten : List (String × DataW Unit) := nine ++ tenth
noncomputable def elevenW (os : Os) : World := (World.doorLaid Tryz.prog 300 os).layVars Tryz.prog tenth
noncomputable def elevenB (os : Os) : List Nat := ((DataW.laidRun Tryz.prog (elevenW os) 8 (nine.map (·.1))).map fun x => (x.2.map (·.block)).eraseDups).getD []
theorem elevenW_os (os : Os) : (elevenW os).os = os := World.layVars_os _ _ _
theorem elevenW_shaped (os : Os) : (elevenW os).Shaped Tryz.prog := World.shaped_of_RefB (by kernel_rfl) (by kernel_rfl)
theorem nine_in (os : Os) : LaidIn Tryz.prog (elevenW os) nine (elevenB os) := LaidIn.of_run _ 8 (by kernel_rfl) (by kernel_rfl) (by kernel_rfl) (by kernel_rfl)
theorem ten_met (os : Os) : laidMet Tryz.prog (eleven.filter fun x => x.2.handleName?.isNone) (elevenW os) :=
  laidMet_layVars (w0 := World.doorLaid Tryz.prog 300 os) ["unicode/utf8.first"] (elevenB os) rfl (by kernel_rfl) (by kernel_rfl) (nine_in os)
theorem eleven_met (os : Os) (f : _) (args : Array Value) : laidMetH Tryz.prog eleven ((elevenW os).forCall f ⟨#[], args, []⟩).memory :=
  laidMetH_of_parts3 (fuel := 8) ((ten_met os).of_heap (by simp [World.memory, World.forCall, Input.heap])) (by kernel_rfl) (by kernel_rfl)
theorem gFine : Tryz.prog.globalNamed "bloomery/bloomeryref.Fine" = some 0 := by kernel_rfl
theorem tyFine : (Tryz.prog.globals[0]?).map (·.type) = some 40 := by kernel_rfl
noncomputable def faultFs := match Tryz.prog.underlying 40 with | some (.struct fs) => fs | _ => #[]
noncomputable def faultF (i : Nat) : Field := faultFs.getD i default
theorem undFault : Tryz.prog.underlying 40 = some (.struct #[faultF 0, faultF 1]) := by kernel_rfl
theorem faultF0 : Tryz.prog.underlying (faultF 0).type = some (.int .i64) ∧ (faultF 0).offset = 0 ∧ Tryz.prog.cellsOf (faultF 0).type = 1 := ⟨by kernel_rfl, by kernel_rfl, by kernel_rfl⟩
theorem faultF1 : Tryz.prog.underlying (faultF 1).type = some (.int .i64) ∧ (faultF 1).offset = 1 ∧ Tryz.prog.cellsOf (faultF 1).type = 1 := ⟨by kernel_rfl, by kernel_rfl, by kernel_rfl⟩
theorem fine_of {W : World} {l : List (String × DataW Unit)} {ps : List MemPlace} (h : DataW.LaidVars Tryz.prog W l ps) (hm : ("bloomery/bloomeryref.Fine", Rows.laid_bloomery_bloomeryref_Fine) ∈ l) : R.FineAt W W.heap.size := by
  obtain ⟨g, t, cs, fuel, p, h1, h2, h3, h4⟩ := vars_at h hm
  obtain rfl := Option.some.inj (gFine.symm.trans h1)
  obtain rfl := Option.some.inj (tyFine.symm.trans h2)
  obtain ⟨a0, a1, a2⟩ := faultF0
  obtain ⟨b0, b1, b2⟩ := faultF1
  obtain ⟨y0, y1, n, hx, hl, c0, c1⟩ := trod_struct2 undFault h4
  rw [a1, a2] at c0
  rw [b1, b2] at c1
  obtain ⟨n0, d0, e0, _⟩ := DataW.trod_int a0 c0
  obtain ⟨n1, d1, e1, _⟩ := DataW.trod_int b0 c1
  have e : (Rows.laid_bloomery_bloomeryref_Fine : DataW Unit) = .agg [.lit (.int .i64 0), .lit (.int .i64 (-1))] := rfl
  rw [e, e0, e1] at hx
  simp only [Prod.mk.injEq, DataW.agg.injEq, List.cons.injEq, DataW.lit.injEq, Lit.int.injEq, true_and, and_true] at hx
  obtain ⟨⟨rfl, rfl⟩, _⟩ := hx
  have k0 : W.cell? ⟨0, 0, none⟩ = some (.int .i64 0) := by
    rw [World.var?_cell h1 h3, ← Array.getElem?_toList, one_cell d0]
  have k1 : W.cell? ⟨0, 1, none⟩ = some (.int .i64 (-1)) := by
    rw [World.var?_cell h1 h3, ← Array.getElem?_toList, one_cell d1]
  exact ⟨World.block_lt_of_cell? _ _ k0, k0, k1⟩
theorem eleven_laid {W : World} (h : laidMetH Tryz.prog eleven W) : All W ∧ ErrP.ErrLaid W ∧ R.FineAt W W.heap.size := by
  have h' : laidMet Tryz.prog ten W ∧ handlesMet Tryz.prog [("errors.errorType", Rows.laid_errors_errorType)] W := h
  obtain ⟨ps, hv, _⟩ := h'.1
  exact ⟨all_of_vars hv (by simp [ten, nine]) (by simp [ten, nine]) (by simp [ten, nine]) (by simp [ten, nine]), ErrP.err_of_handles h'.2 (List.mem_singleton.2 rfl), fine_of hv (by simp [ten, nine])⟩
theorem most_of {W : World} (h : W.ShapedOpen Tryz.prog) : R.MaxAt W W.heap.size := by
  obtain ⟨m, hm⟩ := Go.Proofs.cell_of_shapedOpen_int (P := Tryz.prog) (g := 3) (t := 3) (zero := #[.int .i64 0]) h (of_decide_eq_true (by kernel_rfl)) (by kernel_rfl) rfl (by kernel_rfl) (by kernel_rfl) Tryz.underlying3
  exact ⟨World.block_lt_of_cell? _ _ hm, m, hm⟩
theorem lies_of {W : World} (h : laidMetH Tryz.prog eleven W) (hS : W.ShapedOpen Tryz.prog) : R.Lies W := ⟨(eleven_laid h).2.2, most_of hS, (eleven_laid h).1.laid.rng⟩
end Go.Proofs.YtdgedlhefjmcpaaGreatDoor.TreeP

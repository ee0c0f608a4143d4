/- What the row AsmReads lists, as a list; a world that bears it; what the walks want out of it. Conditions: none. -/
import Derived.Test.YtodgkbcgdbhpeaaGreatDoorAsmU
import Derived.Test.YtodgkbcgdbhpeaaGreatDoorAsRi
import Derived.Test.YtodgkbcgdbhpeaaGreatDoorErrHand
namespace Go.Proofs.YtodgkbcgdbhpeaaGreatDoor.AsmP
open Go.Joins Go.ChangeShapes Go.WideShapes Go.RowKit Go.Deep
set_option linter.unusedSimpArgs false
set_option linter.unusedVariables false
set_option maxRecDepth 100000
noncomputable def elevL : List (String × DataW Unit) := [("math/bits.deBruijn32tab", Rows.laid_math_bits_deBruijn32tab), ("math/bits.deBruijn64tab", Rows.laid_math_bits_deBruijn64tab), ("internal/strconv.uint64pow10", Rows.laid_internal_strconv_uint64pow10), ("unicode/utf8.acceptRanges", Rows.laid_unicode_utf8_acceptRanges), ("errors.errorType", Rows.laid_errors_errorType), ("bloomery/word.forms", Rows.laid_bloomery_word_forms), ("strconv.ErrRange", Rows.laid_strconv_ErrRange), ("strconv.ErrSyntax", Rows.laid_strconv_ErrSyntax), ("bloomery/asm.names", Rows.laid_bloomery_asm_names), ("bloomery/bloomeryref.Fine", Rows.laid_bloomery_bloomeryref_Fine), ("unicode/utf8.first", Rows.laid_unicode_utf8_first)]
noncomputable def eNine : List (String × DataW Unit) := [("math/bits.deBruijn32tab", Rows.laid_math_bits_deBruijn32tab), ("math/bits.deBruijn64tab", Rows.laid_math_bits_deBruijn64tab), ("internal/strconv.uint64pow10", Rows.laid_internal_strconv_uint64pow10), ("unicode/utf8.acceptRanges", Rows.laid_unicode_utf8_acceptRanges), ("bloomery/word.forms", Rows.laid_bloomery_word_forms), ("strconv.ErrRange", Rows.laid_strconv_ErrRange), ("strconv.ErrSyntax", Rows.laid_strconv_ErrSyntax), ("bloomery/asm.names", Rows.laid_bloomery_asm_names), ("bloomery/bloomeryref.Fine", Rows.laid_bloomery_bloomeryref_Fine)]
noncomputable def eTen : List (String × DataW Unit) := eNine ++ lastL
noncomputable def eB (os : Os) : List Nat := ((DataW.laidRun Tryz.prog (nineW os) 8 (eNine.map (·.1))).map fun x => (x.2.map (·.block)).eraseDups).getD []
theorem eNine_in (os : Os) : LaidIn Tryz.prog (nineW os) eNine (eB os) := LaidIn.of_run _ 8 (by kernel_rfl) (by kernel_rfl) (by kernel_rfl) (by kernel_rfl)
theorem eTen_met (os : Os) : laidMet Tryz.prog (elevL.filter fun x => x.2.handleName?.isNone) (nineW os) :=
  laidMet_layVars (w0 := World.doorLaid Tryz.prog 300 os) ["unicode/utf8.first"] (eB os) rfl (by kernel_rfl) (by kernel_rfl) (eNine_in os)
theorem elev_met (os : Os) (f : _) (args : Array Value) : laidMetH Tryz.prog elevL ((nineW os).forCall f ⟨#[], args, []⟩).memory :=
  laidMetH_of_parts3 (fuel := 8) ((eTen_met os).of_heap (by simp [World.memory, World.forCall, Input.heap])) (by kernel_rfl) (by kernel_rfl)
theorem gFine : Tryz.prog.globalNamed "bloomery/bloomeryref.Fine" = some 0 := by kernel_rfl
theorem tyFine : (Tryz.prog.globals[0]?).map (·.type) = some 40 := by kernel_rfl
noncomputable def faultFs := match Tryz.prog.underlying 40 with | some (.struct fs) => fs | _ => #[]
noncomputable def faultF (i : Nat) : Field := faultFs.getD i default
theorem undFault : Tryz.prog.underlying 40 = some (.struct #[faultF 0, faultF 1]) := by kernel_rfl
theorem faultF0 : Tryz.prog.underlying (faultF 0).type = some (.int .i64) ∧ (faultF 0).offset = 0 ∧ Tryz.prog.cellsOf (faultF 0).type = 1 := ⟨by kernel_rfl, by kernel_rfl, by kernel_rfl⟩
theorem faultF1 : Tryz.prog.underlying (faultF 1).type = some (.int .i64) ∧ (faultF 1).offset = 1 ∧ Tryz.prog.cellsOf (faultF 1).type = 1 := ⟨by kernel_rfl, by kernel_rfl, by kernel_rfl⟩
theorem fine_of {W : World} {l : List (String × DataW Unit)} {ps : List MemPlace} (h : DataW.LaidVars Tryz.prog W l ps) (hm : ("bloomery/bloomeryref.Fine", Rows.laid_bloomery_bloomeryref_Fine) ∈ l) : FineAt W := by
  obtain ⟨g, t, cs, fuel, p, h1, h2, h3, h4⟩ := vars_at h hm
  obtain rfl := Option.some.inj (gFine.symm.trans h1)
  obtain rfl := Option.some.inj (tyFine.symm.trans h2)
  obtain ⟨a0, a1, a2⟩ := faultF0
  obtain ⟨b0, b1, b2⟩ := faultF1
  obtain ⟨y0, y1, n, hx, hl, c0, c1⟩ := trod_struct2 undFault h4
  rw [a1, a2] at c0
  rw [b1, b2] at c1
  obtain ⟨n0, d0, e0, _⟩ := DataW.trod_int a0 c0
  obtain ⟨n1, d1, e1, _⟩ := DataW.trod_int b0 c1
  have e : (Rows.laid_bloomery_bloomeryref_Fine : DataW Unit) = .agg [.lit (.int .i64 0), .lit (.int .i64 (-1))] := rfl
  rw [e, e0, e1] at hx
  simp only [Prod.mk.injEq, DataW.agg.injEq, List.cons.injEq, DataW.lit.injEq, Lit.int.injEq, true_and, and_true] at hx
  obtain ⟨⟨rfl, rfl⟩, _⟩ := hx
  refine ⟨?_, ?_⟩
  · rw [World.var?_cell h1 h3, ← Array.getElem?_toList, one_cell d0]
  · rw [World.var?_cell h1 h3, ← Array.getElem?_toList, one_cell d1]
theorem elev_laid {W : World} (h : laidMetH Tryz.prog elevL W) (hS : W.ShapedOpen Tryz.prog) : Base W ∧ ErrP.ErrLaid W ∧ FineAt W := by
  have h' : laidMet Tryz.prog eTen W ∧ handlesMet Tryz.prog [("errors.errorType", Rows.laid_errors_errorType)] W := h
  obtain ⟨ps, hv, _⟩ := h'.1
  exact ⟨⟨pow_of hv (by simp [eTen, eNine]), syn_of hv (by simp [eTen, eNine]), range_of hv (by simp [eTen, eNine]), max_of hS, forms_of hv (by simp [eTen, eNine]), names_of hv (by simp [eTen, eNine]), room_of hS⟩, ErrP.err_of_handles h'.2 (List.mem_singleton.2 rfl), fine_of hv (by simp [eTen, eNine])⟩
end Go.Proofs.YtodgkbcgdbhpeaaGreatDoor.AsmP

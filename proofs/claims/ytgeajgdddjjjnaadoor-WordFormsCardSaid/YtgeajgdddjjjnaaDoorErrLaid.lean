/- errors.errorType and the table of forms, as the rows list them, lie as the walks want them; and so they lie behind the door's own run. -/
import Derived.Test.YtgeajgdddjjjnaaDoorWordLaid
import Derived.Test.YtgeajgdddjjjnaaDoorErrTell
import Derived.LaidHandle
namespace Go.Proofs.YtgeajgdddjjjnaaDoor.ErrP
set_option linter.unusedSimpArgs false
set_option linter.unusedVariables false
open Go.Joins Go.ChangeShapes Go.WideShapes Go.RowKit Go.Deep
theorem gErr : Tryd.prog.globalNamed "errors.errorType" = some 2 := by kernel_rfl
theorem rtErr : (Tryd.prog.cutTypes.find? (·.1 == "internal/reflectlite.rtype")).map (·.2) = some 143 := by kernel_rfl
theorem oneErr : ((List.range Tryd.prog.types.size).filter fun t => Tryd.prog.rowNamed t [101, 114, 114, 111, 114]) = [27] := by kernel_rfl
theorem err_of_handles {W : World} {l : List (String × DataW Unit)} (h : handlesMet Tryd.prog l W) (hm : ("errors.errorType", (Rows.laid_errors_errorType : DataW Unit)) ∈ l) : ErrLaid W := by
  obtain ⟨name, u, ty, e1, e2, e3, e4, e5⟩ := h _ hm
  have en : name = [101, 114, 114, 111, 114] := (Option.some.inj e1).symm
  subst en
  obtain rfl := Option.some.inj (rtErr.symm.trans e2)
  have hm : ty ∈ (List.range Tryd.prog.types.size).filter fun t => Tryd.prog.rowNamed t [101, 114, 114, 111, 114] := List.mem_filter.2 ⟨List.mem_range.2 e3, e4⟩
  rw [oneErr] at hm
  obtain rfl := List.mem_singleton.1 hm
  have hh : typeHandle Tryd.prog 27 = .pointer (some ⟨3, 27, none⟩) := by kernel_rfl
  rw [hh] at e5
  unfold ErrLaid
  simpa using World.var?_cell gErr e5 0
noncomputable def both : List (String × DataW Unit) := [("errors.errorType", Rows.laid_errors_errorType), ("bloomery/word.forms", Rows.laid_bloomery_word_forms)]
theorem both_laid {W : World} (h : laidMetH Tryd.prog both W) : ErrLaid W ∧ WordP.Forms W := by
  have h' : laidMet Tryd.prog [("bloomery/word.forms", Rows.laid_bloomery_word_forms)] W ∧ handlesMet Tryd.prog [("errors.errorType", Rows.laid_errors_errorType)] W := h
  exact ⟨err_of_handles h'.2 (List.mem_singleton.2 rfl), WordP.forms_of_laid h'.1⟩
/-- The door's own heap bears both. -/
theorem both_met (os : Os) (f : _) (args : Array Value) : laidMetH Tryd.prog both ((World.doorLaid Tryd.prog 52 os).forCall f ⟨#[], args, []⟩).memory :=
  laidMetH_of_parts3 (fuel := 8) (laidMet_of_run' 8 (by kernel_rfl) (by kernel_rfl)) (by kernel_rfl) (by kernel_rfl)
end Go.Proofs.YtgeajgdddjjjnaaDoor.ErrP

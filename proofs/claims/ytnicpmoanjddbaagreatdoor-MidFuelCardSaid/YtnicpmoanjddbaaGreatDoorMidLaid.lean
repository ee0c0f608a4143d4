/- The two tables of the steps, as the rows list them, lie as the walks want them; and so they lie behind the door's own run. -/
import Derived.Test.YtnicpmoanjddbaaGreatDoorRows
import Derived.Test.YtnicpmoanjddbaaGreatDoorMidElse
import Derived.ProofKit
import Derived.LaidMore
import Derived.OpenShut
import Derived.Stop.Joined
import Derived.Lib.SmallJoins
import Derived.Lib.LaidTab
namespace Go.Proofs.YtnicpmoanjddbaaGreatDoor.MidP
set_option linter.unusedSimpArgs false
set_option linter.unusedVariables false
open Go.Joins Go.ChangeShapes Go.WideShapes Go.RowKit Go.Deep
/-- One of the variables that are listed. -/
theorem vars_at {P : Program} {w : World} : {l : List (String × DataW Unit)} → {ps : List MemPlace} → DataW.LaidVars P w l ps → {n : String} → {d : DataW Unit} → (n, d) ∈ l → ∃ g t cs fuel p, P.globalNamed n = some g ∧ (P.globals[g]?).map (·.type) = some t ∧ w.var? P n = some cs ∧ DataW.trod (fun _ => ()) P w 0 (fun _ => true) false fuel t cs.toList = some (d, p)
  | [], ps, h, n, d, hm => nomatch hm
  | (n', d') :: r, ps, h, n, d, hm => by
    obtain ⟨g, t, cs, fuel, p, q, h1, h2, h3, h4, h5, _⟩ := h
    rw [List.mem_cons] at hm
    rcases hm with hm | hm
    · cases hm
      exact ⟨g, t, cs, fuel, p, h1, h2, h3, h4⟩
    · exact vars_at h5 hm
theorem gOps : Tryz.prog.globalNamed "bloomery/mid.ops" = some 2 := by kernel_rfl
theorem gForms : Tryz.prog.globalNamed "bloomery/mid.forms" = some 1 := by kernel_rfl
theorem tyOps : (Tryz.prog.globals[2]?).map (·.type) = some 188 ∧ Tryz.prog.underlying 188 = some (.array 11 9) ∧ Tryz.prog.underlying 9 = some .string ∧ Tryz.prog.cellsOf 9 = 1 := ⟨by kernel_rfl, by kernel_rfl, by kernel_rfl, by kernel_rfl⟩
theorem tyForms : (Tryz.prog.globals[1]?).map (·.type) = some 185 ∧ Tryz.prog.underlying 185 = some (.array 15 184) ∧ Tryz.prog.underlying 184 = some (.array 4 3) ∧ Tryz.prog.underlying 3 = some (.int .i64) ∧ Tryz.prog.cellsOf 184 = 4 ∧ Tryz.prog.cellsOf 3 = 1 := ⟨by kernel_rfl, by kernel_rfl, by kernel_rfl, by kernel_rfl, by kernel_rfl, by kernel_rfl⟩
theorem one_cell {l : List Value} {j : Nat} {v : Value} (h : (l.drop j).take 1 = [v]) : l[j]? = some v := by
  have := congrArg (fun x : List Value => x[0]?) h
  simpa using this
theorem four_cell {l : List Value} {i j : Nat} {v : Value} (hj : j < 4) (h : ((l.drop i).take 4)[j]? = some v) : l[i + j]? = some v := by
  rw [List.getElem?_take_of_lt hj, List.getElem?_drop] at h
  exact h
theorem str_of {s : ByteArray} {m : List UInt8} (h : s.data.toList = m) : Value.string s = str m := by
  unfold str
  rw [← h]
section
variable {W : World} {l : List (String × DataW Unit)} {ps : List MemPlace}
theorem ops_of (h : DataW.LaidVars Tryz.prog W l ps) (hm : ("bloomery/mid.ops", Rows.laid_bloomery_mid_ops) ∈ l) : OpsAt W := by
  obtain ⟨g, t, cs, fuel, p, h1, h2, h3, h4⟩ := vars_at h hm
  obtain ⟨t1, t2, t3, t4⟩ := tyOps
  obtain rfl := Option.some.inj (gOps.symm.trans h1)
  obtain rfl := Option.some.inj (t1.symm.trans h2)
  obtain ⟨xs, m, _, hx, hcs, hn, hel⟩ := DataW.trod_array t2 h4
  have hL : xs.map (·.1) = opList.map fun m => (DataW.lit (.string m) : DataW Unit) := by
    have e : (Rows.laid_bloomery_mid_ops : DataW Unit) = .agg (opList.map fun m => (DataW.lit (.string m) : DataW Unit)) := rfl
    rw [e] at hx
    simp only [Prod.mk.injEq, DataW.agg.injEq] at hx
    exact hx.1.symm
  intro i mk hi
  have hlt : i < 11 := by
    have := (List.getElem?_eq_some_iff.1 hi).1
    have h24 : opList.length = 11 := rfl
    omega
  have h5 := hel i hlt
  rw [t4, Nat.mul_one] at h5
  have h6 : (xs.map (·.1))[i]? = some (DataW.lit (.string mk)) := by rw [hL, List.getElem?_map, hi]; rfl
  rw [List.getElem?_map] at h6
  cases hxi : xs[i]? with
  | none => rw [hxi] at h6; cases h6
  | some x =>
    rw [hxi] at h5 h6
    obtain ⟨s, a1, a2, a3⟩ := DataW.trod_string t3 h5
    rw [a2] at h6
    simp only [Option.map_some, Option.some.injEq, DataW.lit.injEq, Lit.string.injEq] at h6
    rw [World.var?_cell h1 h3, ← Array.getElem?_toList, one_cell a1, str_of h6]
def formRows : List (List Int) := [[0, 0, 0, 0], [1, 0, 0, 0], [0, 0, 0, 0], [1, 1, 1, 0], [0, 0, 0, 0], [0, 1, 0, 0], [0, 0, 0, 0], [0, 0, 0, 0], [0, 1, 0, 0], [2, 1, 0, 0], [1, 2, 0, 0], [1, 2, 1, 0], [0, 2, 1, 1], [0, 1, 0, 0], [1, 0, 0, 0]]
theorem formRow (c : Nat) (h : c ≤ 14) : formRows[c]? = some (formsP (c : Int)) ∧ (formsP (c : Int)).length = 4 := by
  match c, h with
  | 0, _ => exact ⟨by decide, by decide⟩
  | 1, _ => exact ⟨by decide, by decide⟩
  | 2, _ => exact ⟨by decide, by decide⟩
  | 3, _ => exact ⟨by decide, by decide⟩
  | 4, _ => exact ⟨by decide, by decide⟩
  | 5, _ => exact ⟨by decide, by decide⟩
  | 6, _ => exact ⟨by decide, by decide⟩
  | 7, _ => exact ⟨by decide, by decide⟩
  | 8, _ => exact ⟨by decide, by decide⟩
  | 9, _ => exact ⟨by decide, by decide⟩
  | 10, _ => exact ⟨by decide, by decide⟩
  | 11, _ => exact ⟨by decide, by decide⟩
  | 12, _ => exact ⟨by decide, by decide⟩
  | 13, _ => exact ⟨by decide, by decide⟩
  | 14, _ => exact ⟨by decide, by decide⟩

theorem forms_of (h : DataW.LaidVars Tryz.prog W l ps) (hm : ("bloomery/mid.forms", Rows.laid_bloomery_mid_forms) ∈ l) : FormsAt W := by
  obtain ⟨g, t, cs, fuel, p, h1, h2, h3, h4⟩ := vars_at h hm
  obtain ⟨t1, t2, t3, t4, t5, t6⟩ := tyForms
  obtain rfl := Option.some.inj (gForms.symm.trans h1)
  obtain rfl := Option.some.inj (t1.symm.trans h2)
  obtain ⟨xs, m, _, hx, hcs, hn, hel⟩ := DataW.trod_array t2 h4
  have hL : xs.map (·.1) = formRows.map fun r => (DataW.agg (r.map fun n => (DataW.lit (.int .i64 n) : DataW Unit)) : DataW Unit) := by
    have e : (Rows.laid_bloomery_mid_forms : DataW Unit) = .agg (formRows.map fun r => (DataW.agg (r.map fun n => (DataW.lit (.int .i64 n) : DataW Unit)) : DataW Unit)) := rfl
    rw [e] at hx
    simp only [Prod.mk.injEq, DataW.agg.injEq] at hx
    exact hx.1.symm
  intro c i hc hi
  have h5 := hel c (by omega)
  rw [t5] at h5
  obtain ⟨hr, hlen⟩ := formRow c hc
  obtain ⟨fr, hfr⟩ : ∃ fr, fr = formsP (c : Int) := ⟨_, rfl⟩
  rw [← hfr] at hr hlen ⊢
  have h6 : (xs.map (·.1))[c]? = some (DataW.agg (fr.map fun n => (DataW.lit (.int .i64 n) : DataW Unit)) : DataW Unit) := by rw [hL, List.getElem?_map, hr]; rfl
  rw [List.getElem?_map] at h6
  cases hxi : xs[c]? with
  | none => rw [hxi] at h6; cases h6
  | some x =>
    rw [hxi] at h5 h6
    simp only [Option.map_some, Option.some.injEq] at h6
    obtain ⟨ys, m2, _, hy, hcs2, hn2, hel2⟩ := DataW.trod_array t3 h5
    rw [hy] at h6
    simp only [DataW.agg.injEq] at h6
    have h7 := hel2 i (by omega)
    rw [t6, Nat.mul_one] at h7
    have h8 : (ys.map (·.1))[i]? = some (DataW.lit (.int .i64 (fr.getD i 0))) := by
      rw [h6, List.getElem?_map, List.getD_eq_getElem?_getD, List.getElem?_eq_getElem (by omega)]
      rfl
    rw [List.getElem?_map] at h8
    cases hyi : ys[i]? with
    | none => rw [hyi] at h8; cases h8
    | some y =>
      rw [hyi] at h7 h8
      obtain ⟨n0, a0, b0, _⟩ := DataW.trod_int t4 h7
      rw [b0] at h8
      simp only [Option.map_some, Option.some.injEq, DataW.lit.injEq, Lit.int.injEq, true_and] at h8
      rw [World.var?_cell h1 h3, ← Array.getElem?_toList, ← h8]
      exact four_cell hi (one_cell a0)
end
/-- What the rows of the steps list. -/
noncomputable def two : List (String × DataW Unit) := [("bloomery/mid.ops", Rows.laid_bloomery_mid_ops), ("bloomery/mid.forms", Rows.laid_bloomery_mid_forms)]
theorem two_laid {W : World} (h : laidMetH Tryz.prog two W) : FormsAt W ∧ OpsAt W := by
  rw [MakeChecks.laidMetH_plain _ _ _ (by kernel_rfl)] at h
  obtain ⟨ps, hv, _⟩ := h
  exact ⟨forms_of hv (by simp [two]), ops_of hv (by simp [two])⟩
/-- The door's own heap bears them. -/
theorem two_met (os : Os) (f : _) (args : Array Value) : laidMetH Tryz.prog two ((World.doorLaid Tryz.prog 300 os).forCall f ⟨#[], args, []⟩).memory := by
  rw [MakeChecks.laidMetH_plain _ _ _ (by kernel_rfl)]
  exact laidMet_of_run' 8 (by kernel_rfl) (by kernel_rfl)
end Go.Proofs.YtnicpmoanjddbaaGreatDoor.MidP

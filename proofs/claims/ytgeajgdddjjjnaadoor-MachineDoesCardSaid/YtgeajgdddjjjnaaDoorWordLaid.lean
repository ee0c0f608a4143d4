/- The table of forms, as the row lists it, lies as the walks want it; and so it lies behind the door's own run. -/
import Derived.Test.YtgeajgdddjjjnaaDoorRows
import Derived.Test.YtgeajgdddjjjnaaDoorWordDec
import Derived.ProofKit
import Derived.LaidMore
import Derived.OpenShut
import Derived.Stop.Joined
import Derived.Lib.SmallJoins
namespace Go.Proofs.YtgeajgdddjjjnaaDoor.WordP
set_option linter.unusedSimpArgs false
open Go.Joins Go.ChangeShapes Go.WideShapes Go.RowKit Go.Deep
set_option linter.unusedVariables false
theorem gForms : Tryd.prog.globalNamed "bloomery/word.forms" = some 0 := by kernel_rfl
theorem tForms : (Tryd.prog.globals[0]?).map (·.type) = some 72 := by kernel_rfl
theorem uForms : Tryd.prog.underlying 72 = some (.array 32 71) := by kernel_rfl
/-- A struct type's field number i. -/
noncomputable def fieldAt (t : TypeId) (i : Nat) : Field := match Tryd.prog.underlying t with
  | some (.struct fs) => fs.getD i ⟨"", 0, 0, false, "", "", 0⟩
  | _ => ⟨"", 0, 0, false, "", "", 0⟩
theorem u71 : Tryd.prog.underlying 71 = some (.struct #[fieldAt 71 0, fieldAt 71 1, fieldAt 71 2, fieldAt 71 3]) := by kernel_rfl
theorem off71 : (fieldAt 71 0).offset = 0 ∧ (fieldAt 71 1).offset = 1 ∧ (fieldAt 71 2).offset = 2 ∧ (fieldAt 71 3).offset = 3 := ⟨by kernel_rfl, by kernel_rfl, by kernel_rfl, by kernel_rfl⟩
theorem und71 : Tryd.prog.underlying (fieldAt 71 0).type = some (.int .u8) ∧ Tryd.prog.underlying (fieldAt 71 1).type = some (.int .u32) ∧ Tryd.prog.underlying (fieldAt 71 2).type = some (.int .u32) ∧ Tryd.prog.underlying (fieldAt 71 3).type = some (.int .u32) := ⟨by kernel_rfl, by kernel_rfl, by kernel_rfl, by kernel_rfl⟩
theorem cel71 : Tryd.prog.cellsOf (fieldAt 71 0).type = 1 ∧ Tryd.prog.cellsOf (fieldAt 71 1).type = 1 ∧ Tryd.prog.cellsOf (fieldAt 71 2).type = 1 ∧ Tryd.prog.cellsOf (fieldAt 71 3).type = 1 := ⟨by kernel_rfl, by kernel_rfl, by kernel_rfl, by kernel_rfl⟩
theorem one_of {l : List Value} {j : Nat} {v : Value} (h : (l.drop j).take 1 = [v]) : l[j]? = some v := by
  have := congrArg (fun x : List Value => x[0]?) h
  simpa using this
theorem four_drop {l : List Value} {i j : Nat} (hj : j < 4) : ((l.drop i).take 4)[j]? = l[i + j]? := by
  rw [List.getElem?_take_of_lt hj, List.getElem?_drop]
theorem forms_of_laid {W : World} (h : laidMetH Tryd.prog [("bloomery/word.forms", Rows.laid_bloomery_word_forms)] W) : Forms W := by
  rw [MakeChecks.laidMetH_plain _ _ _ (by kernel_rfl)] at h
  obtain ⟨ps, ⟨g0, t0, cs0, f0, p0, q0, hg0, ht0, hv0, hd0, _⟩, _⟩ := h
  obtain rfl := Option.some.inj (gForms.symm.trans hg0)
  obtain rfl := Option.some.inj (tForms.symm.trans ht0)
  obtain ⟨xs, m, _, hx, hcs, hn, hel⟩ := DataW.trod_array uForms hd0
  have hu := u71
  obtain ⟨o0, o1, o2, o3⟩ := off71
  obtain ⟨u0, u1, u2, u3⟩ := und71
  obtain ⟨k0, k1, k2, k3⟩ := cel71
  have c71 : Tryd.prog.cellsOf 71 = 4 := by kernel_rfl
  have hL : xs.map (·.1) = (match (Rows.laid_bloomery_word_forms : DataW Unit) with | .agg l => l | _ => []) := by
    simp only [Prod.mk.injEq, Rows.laid_bloomery_word_forms, DataW.agg.injEq] at hx
    rw [← hx.1]; rfl
  have hcell : ∀ i, W.cell? ⟨0, i, none⟩ = cs0[i]? := World.var?_cell hg0 hv0
  have row : ∀ (i : Nat) (k l mm hh : Int), i < 32 → (xs.map (·.1))[i]? = some (.agg [.lit (.int .u8 k), .lit (.int .u32 l), .lit (.int .u32 mm), .lit (.int .u32 hh)]) →
      W.cell? ⟨0, i * 4, none⟩ = some (.int .u8 k) ∧ W.cell? ⟨0, i * 4 + 1, none⟩ = some (.int .u32 l) ∧ W.cell? ⟨0, i * 4 + 2, none⟩ = some (.int .u32 mm) ∧ W.cell? ⟨0, i * 4 + 3, none⟩ = some (.int .u32 hh) := by
    intro i k l mm hh hi hk
    have h1 := hel i hi
    rw [c71] at h1
    rw [List.getElem?_map] at hk
    cases hxi : xs[i]? with
    | none => rw [hxi] at hk; cases hk
    | some x =>
      rw [hxi] at h1 hk
      simp only [Option.map_some, Option.some.injEq] at hk
      obtain ⟨y0, y1, y2, y3, n, hxe, hlen, h0, h1', h2, h3⟩ := trod_struct4 hu h1
      rw [hxe] at hk
      simp only [DataW.agg.injEq, List.cons.injEq, and_true] at hk
      obtain ⟨e0, e1, e2, e3⟩ := hk
      rw [o0, k0] at h0; rw [o1, k1] at h1'; rw [o2, k2] at h2; rw [o3, k3] at h3
      obtain ⟨n0, a0, b0, _⟩ := DataW.trod_int u0 h0
      obtain ⟨n1, a1, b1, _⟩ := DataW.trod_int u1 h1'
      obtain ⟨n2, a2, b2, _⟩ := DataW.trod_int u2 h2
      obtain ⟨n3, a3, b3, _⟩ := DataW.trod_int u3 h3
      rw [b0] at e0; rw [b1] at e1; rw [b2] at e2; rw [b3] at e3
      simp only [DataW.lit.injEq, Lit.int.injEq, true_and] at e0 e1 e2 e3
      subst e0 e1 e2 e3
      have q0 := one_of a0
      have q1 := one_of a1
      have q2 := one_of a2
      have q3 := one_of a3
      rw [four_drop (by decide)] at q0 q1 q2 q3
      rw [hcell, hcell, hcell, hcell, ← Array.getElem?_toList, ← Array.getElem?_toList, ← Array.getElem?_toList, ← Array.getElem?_toList]
      exact ⟨by simpa using q0, q1, q2, q3⟩
  intro op h1 h2
  have : op = 1 ∨ op = 2 ∨ op = 3 ∨ op = 4 ∨ op = 5 ∨ op = 6 ∨ op = 7 ∨ op = 8 ∨ op = 9 ∨ op = 10 ∨ op = 11 ∨ op = 12 ∨ op = 13 ∨ op = 14 ∨ op = 15 ∨ op = 16 ∨ op = 17 ∨ op = 18 ∨ op = 19 ∨ op = 20 ∨ op = 21 ∨ op = 22 ∨ op = 23 ∨ op = 24 ∨ op = 25 ∨ op = 26 ∨ op = 27 ∨ op = 28 ∨ op = 29 ∨ op = 30 ∨ op = 31 := by omega
  rw [hL] at row
  rcases this with rfl | rfl | rfl | rfl | rfl | rfl | rfl | rfl | rfl | rfl | rfl | rfl | rfl | rfl | rfl | rfl | rfl | rfl | rfl | rfl | rfl | rfl | rfl | rfl | rfl | rfl | rfl | rfl | rfl | rfl | rfl
  · obtain ⟨a, b, c, d⟩ := row 1 _ _ _ _ (by decide) rfl
    exact ⟨a, b, c, d⟩
  · obtain ⟨a, b, c, d⟩ := row 2 _ _ _ _ (by decide) rfl
    exact ⟨a, b, c, d⟩
  · obtain ⟨a, b, c, d⟩ := row 3 _ _ _ _ (by decide) rfl
    exact ⟨a, b, c, d⟩
  · obtain ⟨a, b, c, d⟩ := row 4 _ _ _ _ (by decide) rfl
    exact ⟨a, b, c, d⟩
  · obtain ⟨a, b, c, d⟩ := row 5 _ _ _ _ (by decide) rfl
    exact ⟨a, b, c, d⟩
  · obtain ⟨a, b, c, d⟩ := row 6 _ _ _ _ (by decide) rfl
    exact ⟨a, b, c, d⟩
  · obtain ⟨a, b, c, d⟩ := row 7 _ _ _ _ (by decide) rfl
    exact ⟨a, b, c, d⟩
  · obtain ⟨a, b, c, d⟩ := row 8 _ _ _ _ (by decide) rfl
    exact ⟨a, b, c, d⟩
  · obtain ⟨a, b, c, d⟩ := row 9 _ _ _ _ (by decide) rfl
    exact ⟨a, b, c, d⟩
  · obtain ⟨a, b, c, d⟩ := row 10 _ _ _ _ (by decide) rfl
    exact ⟨a, b, c, d⟩
  · obtain ⟨a, b, c, d⟩ := row 11 _ _ _ _ (by decide) rfl
    exact ⟨a, b, c, d⟩
  · obtain ⟨a, b, c, d⟩ := row 12 _ _ _ _ (by decide) rfl
    exact ⟨a, b, c, d⟩
  · obtain ⟨a, b, c, d⟩ := row 13 _ _ _ _ (by decide) rfl
    exact ⟨a, b, c, d⟩
  · obtain ⟨a, b, c, d⟩ := row 14 _ _ _ _ (by decide) rfl
    exact ⟨a, b, c, d⟩
  · obtain ⟨a, b, c, d⟩ := row 15 _ _ _ _ (by decide) rfl
    exact ⟨a, b, c, d⟩
  · obtain ⟨a, b, c, d⟩ := row 16 _ _ _ _ (by decide) rfl
    exact ⟨a, b, c, d⟩
  · obtain ⟨a, b, c, d⟩ := row 17 _ _ _ _ (by decide) rfl
    exact ⟨a, b, c, d⟩
  · obtain ⟨a, b, c, d⟩ := row 18 _ _ _ _ (by decide) rfl
    exact ⟨a, b, c, d⟩
  · obtain ⟨a, b, c, d⟩ := row 19 _ _ _ _ (by decide) rfl
    exact ⟨a, b, c, d⟩
  · obtain ⟨a, b, c, d⟩ := row 20 _ _ _ _ (by decide) rfl
    exact ⟨a, b, c, d⟩
  · obtain ⟨a, b, c, d⟩ := row 21 _ _ _ _ (by decide) rfl
    exact ⟨a, b, c, d⟩
  · obtain ⟨a, b, c, d⟩ := row 22 _ _ _ _ (by decide) rfl
    exact ⟨a, b, c, d⟩
  · obtain ⟨a, b, c, d⟩ := row 23 _ _ _ _ (by decide) rfl
    exact ⟨a, b, c, d⟩
  · obtain ⟨a, b, c, d⟩ := row 24 _ _ _ _ (by decide) rfl
    exact ⟨a, b, c, d⟩
  · obtain ⟨a, b, c, d⟩ := row 25 _ _ _ _ (by decide) rfl
    exact ⟨a, b, c, d⟩
  · obtain ⟨a, b, c, d⟩ := row 26 _ _ _ _ (by decide) rfl
    exact ⟨a, b, c, d⟩
  · obtain ⟨a, b, c, d⟩ := row 27 _ _ _ _ (by decide) rfl
    exact ⟨a, b, c, d⟩
  · obtain ⟨a, b, c, d⟩ := row 28 _ _ _ _ (by decide) rfl
    exact ⟨a, b, c, d⟩
  · obtain ⟨a, b, c, d⟩ := row 29 _ _ _ _ (by decide) rfl
    exact ⟨a, b, c, d⟩
  · obtain ⟨a, b, c, d⟩ := row 30 _ _ _ _ (by decide) rfl
    exact ⟨a, b, c, d⟩
  · obtain ⟨a, b, c, d⟩ := row 31 _ _ _ _ (by decide) rfl
    exact ⟨a, b, c, d⟩
/-- The door's own heap bears the table. -/
theorem door_met (os : Os) (f : _) (args : Array Value) : laidMetH Tryd.prog [("bloomery/word.forms", Rows.laid_bloomery_word_forms)] ((World.doorLaid Tryd.prog 52 os).forCall f ⟨#[], args, []⟩).memory :=
  laidMetH_of_parts3 (fuel := 8) (laidMet_of_run' 8 (by kernel_rfl) (by kernel_rfl)) (by kernel_rfl) (by kernel_rfl)
end Go.Proofs.YtgeajgdddjjjnaaDoor.WordP

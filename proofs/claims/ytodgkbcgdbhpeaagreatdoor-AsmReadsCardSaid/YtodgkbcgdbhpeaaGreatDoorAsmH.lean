/- What the rows of the assembler list lies as the walks want it. Conditions: none. -/
import Derived.Test.YtodgkbcgdbhpeaaGreatDoorRows
import Derived.Test.YtodgkbcgdbhpeaaGreatDoorAsmG
import Derived.ProofKit
import Derived.LaidMore
import Derived.OpenShut
import Derived.Stop.Joined
import Derived.Lib.SmallJoins
import Derived.Lib.LaidTab
namespace Go.Proofs.YtodgkbcgdbhpeaaGreatDoor.AsmP
set_option linter.unusedSimpArgs false
set_option linter.unusedVariables false
open Go.Joins Go.ChangeShapes Go.WideShapes Go.RowKit Go.Deep Go.Proofs.YtodgkbcgdbhpeaaGreatDoor.WordP
theorem vars_at {P : Program} {w : World} : {l : List (String × DataW Unit)} → {ps : List MemPlace} → DataW.LaidVars P w l ps → {n : String} → {d : DataW Unit} → (n, d) ∈ l → ∃ g t cs fuel p, P.globalNamed n = some g ∧ (P.globals[g]?).map (·.type) = some t ∧ w.var? P n = some cs ∧ DataW.trod (fun _ => ()) P w 0 (fun _ => true) false fuel t cs.toList = some (d, p)
  | [], ps, h, n, d, hm => nomatch hm
  | (n', d') :: r, ps, h, n, d, hm => by
    obtain ⟨g, t, cs, fuel, p, q, h1, h2, h3, h4, h5, _⟩ := h
    rw [List.mem_cons] at hm
    rcases hm with hm | hm
    · cases hm
      exact ⟨g, t, cs, fuel, p, h1, h2, h3, h4⟩
    · exact vars_at h5 hm
theorem gPow : Tryz.prog.globalNamed "internal/strconv.uint64pow10" = some 3 := by kernel_rfl
theorem gRange : Tryz.prog.globalNamed "strconv.ErrRange" = some 11 := by kernel_rfl
theorem gSyn : Tryz.prog.globalNamed "strconv.ErrSyntax" = some 10 := by kernel_rfl
theorem gNames : Tryz.prog.globalNamed "bloomery/asm.names" = some 1 := by kernel_rfl
theorem tyPow : (Tryz.prog.globals[3]?).map (·.type) = some 159 ∧ Tryz.prog.underlying 159 = some (.array 20 142) ∧ Tryz.prog.underlying 142 = some (.int .u64) ∧ Tryz.prog.cellsOf 142 = 1 ∧ Tryz.prog.cellsOf 159 = 20 := ⟨by kernel_rfl, by kernel_rfl, by kernel_rfl, by kernel_rfl, by kernel_rfl⟩
theorem tyRange : (Tryz.prog.globals[11]?).map (·.type) = some 26 := by kernel_rfl
theorem tySyn : (Tryz.prog.globals[10]?).map (·.type) = some 26 := by kernel_rfl
theorem tyNames : (Tryz.prog.globals[1]?).map (·.type) = some 60 ∧ Tryz.prog.underlying 60 = some (.array 32 9) ∧ Tryz.prog.underlying 9 = some .string ∧ Tryz.prog.cellsOf 9 = 1 := ⟨by kernel_rfl, by kernel_rfl, by kernel_rfl, by kernel_rfl⟩
noncomputable def errorMs := match Tryz.prog.underlying 26 with | some (.interface ms) => ms | _ => #[]
theorem uRange : Tryz.prog.underlying 26 = some (.interface errorMs) := by kernel_rfl
theorem one_cell {l : List Value} {j : Nat} {v : Value} (h : (l.drop j).take 1 = [v]) : l[j]? = some v := by
  have := congrArg (fun x : List Value => x[0]?) h
  simpa using this
theorem str_of {s : ByteArray} {m : List UInt8} (h : s.data.toList = m) : Value.string s = str m := by
  unfold str
  rw [← h]
theorem gForms : Tryz.prog.globalNamed "bloomery/word.forms" = some 2 := by kernel_rfl
theorem tForms : (Tryz.prog.globals[2]?).map (·.type) = some 100 := by kernel_rfl
theorem uForms : Tryz.prog.underlying 100 = some (.array 32 99) := by kernel_rfl
/-- A struct type's field number i. -/
noncomputable def fieldAt (t : TypeId) (i : Nat) : Field := match Tryz.prog.underlying t with
  | some (.struct fs) => fs.getD i ⟨"", 0, 0, false, "", "", 0⟩
  | _ => ⟨"", 0, 0, false, "", "", 0⟩
theorem u71 : Tryz.prog.underlying 99 = some (.struct #[fieldAt 99 0, fieldAt 99 1, fieldAt 99 2, fieldAt 99 3]) := by kernel_rfl
theorem off71 : (fieldAt 99 0).offset = 0 ∧ (fieldAt 99 1).offset = 1 ∧ (fieldAt 99 2).offset = 2 ∧ (fieldAt 99 3).offset = 3 := ⟨by kernel_rfl, by kernel_rfl, by kernel_rfl, by kernel_rfl⟩
theorem und71 : Tryz.prog.underlying (fieldAt 99 0).type = some (.int .u8) ∧ Tryz.prog.underlying (fieldAt 99 1).type = some (.int .u32) ∧ Tryz.prog.underlying (fieldAt 99 2).type = some (.int .u32) ∧ Tryz.prog.underlying (fieldAt 99 3).type = some (.int .u32) := ⟨by kernel_rfl, by kernel_rfl, by kernel_rfl, by kernel_rfl⟩
theorem cel71 : Tryz.prog.cellsOf (fieldAt 99 0).type = 1 ∧ Tryz.prog.cellsOf (fieldAt 99 1).type = 1 ∧ Tryz.prog.cellsOf (fieldAt 99 2).type = 1 ∧ Tryz.prog.cellsOf (fieldAt 99 3).type = 1 := ⟨by kernel_rfl, by kernel_rfl, by kernel_rfl, by kernel_rfl⟩
theorem one_of {l : List Value} {j : Nat} {v : Value} (h : (l.drop j).take 1 = [v]) : l[j]? = some v := by
  have := congrArg (fun x : List Value => x[0]?) h
  simpa using this
theorem four_drop {l : List Value} {i j : Nat} (hj : j < 4) : ((l.drop i).take 4)[j]? = l[i + j]? := by
  rw [List.getElem?_take_of_lt hj, List.getElem?_drop]
section
variable {W : World} {l : List (String × DataW Unit)} {ps : List MemPlace}
theorem names_of (h : DataW.LaidVars Tryz.prog W l ps) (hm : ("bloomery/asm.names", Rows.laid_bloomery_asm_names) ∈ l) : NamesAt W := by
  obtain ⟨g, t, cs, fuel, p, h1, h2, h3, h4⟩ := vars_at h hm
  obtain ⟨t1, t2, t3, t4⟩ := tyNames
  obtain rfl := Option.some.inj (gNames.symm.trans h1)
  obtain rfl := Option.some.inj (t1.symm.trans h2)
  obtain ⟨xs, m, _, hx, hcs, hn, hel⟩ := DataW.trod_array t2 h4
  have hL : xs.map (·.1) = nameList.map fun m => (DataW.lit (.string m) : DataW Unit) := by
    have e : (Rows.laid_bloomery_asm_names : DataW Unit) = .agg (nameList.map fun m => (DataW.lit (.string m) : DataW Unit)) := rfl
    rw [e] at hx
    simp only [Prod.mk.injEq, DataW.agg.injEq] at hx
    exact hx.1.symm
  intro i mk hi
  have hlt : i < 32 := by
    have := (List.getElem?_eq_some_iff.1 hi).1
    have h24 : nameList.length = 32 := rfl
    omega
  have h5 := hel i hlt
  rw [t4, Nat.mul_one] at h5
  have h6 : (xs.map (·.1))[i]? = some (DataW.lit (.string mk)) := by rw [hL, List.getElem?_map, hi]; rfl
  rw [List.getElem?_map] at h6
  cases hxi : xs[i]? with
  | none => rw [hxi] at h6; cases h6
  | some x =>
    rw [hxi] at h5 h6
    obtain ⟨s, a1, a2, a3⟩ := DataW.trod_string t3 h5
    rw [a2] at h6
    simp only [Option.map_some, Option.some.injEq, DataW.lit.injEq, Lit.string.injEq] at h6
    rw [World.var?_cell h1 h3, ← Array.getElem?_toList, one_cell a1, str_of h6]
theorem iface_of {P : Program} {W : World} {t : TypeId} {ms : _} {fuel : Nat} {cs : List Value} {d : DataW Unit} {p : List MemPlace} (ht : P.underlying t = some (.interface ms)) (h : DataW.trod (fun _ => ()) P W 0 (fun _ => true) false fuel t cs = some (d, p)) (hd : d ≠ .nil) : ∃ u v, cs = [.iface u v] := by
  cases fuel with
  | zero => simp [DataW.trod] at h
  | succ n =>
    unfold DataW.trod at h
    rw [ht] at h
    split at h <;> simp_all
theorem range_of (h : DataW.LaidVars Tryz.prog W l ps) (hm : ("strconv.ErrRange", Rows.laid_strconv_ErrRange) ∈ l) : ErrAt W 11 := by
  obtain ⟨g, t, cs, fuel, p, h1, h2, h3, h4⟩ := vars_at h hm
  obtain rfl := Option.some.inj (gRange.symm.trans h1)
  obtain rfl := Option.some.inj (tyRange.symm.trans h2)
  have key := iface_of uRange h4 (by simp [Rows.laid_strconv_ErrRange])
  obtain ⟨u, v, hc⟩ := key
  have h5 : W.cell? ⟨11, 0, none⟩ = some (.iface u v) := by
    rw [World.var?_cell h1 h3, ← Array.getElem?_toList, hc]
    rfl
  exact ⟨_, h5, .inr ⟨u, v, rfl⟩⟩
theorem syn_of (h : DataW.LaidVars Tryz.prog W l ps) (hm : ("strconv.ErrSyntax", Rows.laid_strconv_ErrSyntax) ∈ l) : ErrAt W 10 := by
  obtain ⟨g, t, cs, fuel, p, h1, h2, h3, h4⟩ := vars_at h hm
  obtain rfl := Option.some.inj (gSyn.symm.trans h1)
  obtain rfl := Option.some.inj (tySyn.symm.trans h2)
  have key := iface_of uRange h4 (by simp [Rows.laid_strconv_ErrSyntax])
  obtain ⟨u, v, hc⟩ := key
  have h5 : W.cell? ⟨10, 0, none⟩ = some (.iface u v) := by
    rw [World.var?_cell h1 h3, ← Array.getElem?_toList, hc]
    rfl
  exact ⟨_, h5, .inr ⟨u, v, rfl⟩⟩
theorem pow_of (h : DataW.LaidVars Tryz.prog W l ps) (hm : ("internal/strconv.uint64pow10", Rows.laid_internal_strconv_uint64pow10) ∈ l) : PowTab W := by
  obtain ⟨g, t, cs, fuel, p, h1, h2, h3, h4⟩ := vars_at h hm
  obtain ⟨t1, t2, t3, t4, t5⟩ := tyPow
  obtain rfl := Option.some.inj (gPow.symm.trans h1)
  obtain rfl := Option.some.inj (t1.symm.trans h2)
  have e : (Rows.laid_internal_strconv_uint64pow10 : DataW Unit) = Lib.tabData .u64 Lib.pow10Tab := by kernel_rfl
  rw [e] at h4
  unfold PowTab Lib.TabIs
  rw [h3, ← Lib.cells_of_tab t2 t3 t4 t5 h4]
theorem forms_of (h : DataW.LaidVars Tryz.prog W l ps) (hm : ("bloomery/word.forms", Rows.laid_bloomery_word_forms) ∈ l) : Forms W := by
  obtain ⟨g0, t0, cs0, f0, p0, hg0, ht0, hv0, hd0⟩ := vars_at h hm
  obtain rfl := Option.some.inj (gForms.symm.trans hg0)
  obtain rfl := Option.some.inj (tForms.symm.trans ht0)
  obtain ⟨xs, m, _, hx, hcs, hn, hel⟩ := DataW.trod_array uForms hd0
  have hu := u71
  obtain ⟨o0, o1, o2, o3⟩ := off71
  obtain ⟨u0, u1, u2, u3⟩ := und71
  obtain ⟨k0, k1, k2, k3⟩ := cel71
  have c71 : Tryz.prog.cellsOf 99 = 4 := by kernel_rfl
  have hL : xs.map (·.1) = (match (Rows.laid_bloomery_word_forms : DataW Unit) with | .agg l => l | _ => []) := by
    simp only [Prod.mk.injEq, Rows.laid_bloomery_word_forms, DataW.agg.injEq] at hx
    rw [← hx.1]; rfl
  have hcell : ∀ i, W.cell? ⟨2, i, none⟩ = cs0[i]? := World.var?_cell hg0 hv0
  have row : ∀ (i : Nat) (k l mm hh : Int), i < 32 → (xs.map (·.1))[i]? = some (.agg [.lit (.int .u8 k), .lit (.int .u32 l), .lit (.int .u32 mm), .lit (.int .u32 hh)]) →
      W.cell? ⟨2, i * 4, none⟩ = some (.int .u8 k) ∧ W.cell? ⟨2, i * 4 + 1, none⟩ = some (.int .u32 l) ∧ W.cell? ⟨2, i * 4 + 2, none⟩ = some (.int .u32 mm) ∧ W.cell? ⟨2, i * 4 + 3, none⟩ = some (.int .u32 hh) := by
    intro i k l mm hh hi hk
    have h1 := hel i hi
    rw [c71] at h1
    rw [List.getElem?_map] at hk
    cases hxi : xs[i]? with
    | none => rw [hxi] at hk; cases hk
    | some x =>
      rw [hxi] at h1 hk
      simp only [Option.map_some, Option.some.injEq] at hk
      obtain ⟨y0, y1, y2, y3, n, hxe, hlen, h0, h1', h2, h3⟩ := trod_struct4 hu h1
      rw [hxe] at hk
      simp only [DataW.agg.injEq, List.cons.injEq, and_true] at hk
      obtain ⟨e0, e1, e2, e3⟩ := hk
      rw [o0, k0] at h0; rw [o1, k1] at h1'; rw [o2, k2] at h2; rw [o3, k3] at h3
      obtain ⟨n0, a0, b0, _⟩ := DataW.trod_int u0 h0
      obtain ⟨n1, a1, b1, _⟩ := DataW.trod_int u1 h1'
      obtain ⟨n2, a2, b2, _⟩ := DataW.trod_int u2 h2
      obtain ⟨n3, a3, b3, _⟩ := DataW.trod_int u3 h3
      rw [b0] at e0; rw [b1] at e1; rw [b2] at e2; rw [b3] at e3
      simp only [DataW.lit.injEq, Lit.int.injEq, true_and] at e0 e1 e2 e3
      subst e0 e1 e2 e3
      have q0 := one_of a0
      have q1 := one_of a1
      have q2 := one_of a2
      have q3 := one_of a3
      rw [four_drop (by decide)] at q0 q1 q2 q3
      rw [hcell, hcell, hcell, hcell, ← Array.getElem?_toList, ← Array.getElem?_toList, ← Array.getElem?_toList, ← Array.getElem?_toList]
      exact ⟨by simpa using q0, q1, q2, q3⟩
  intro op h1 h2
  have : op = 1 ∨ op = 2 ∨ op = 3 ∨ op = 4 ∨ op = 5 ∨ op = 6 ∨ op = 7 ∨ op = 8 ∨ op = 9 ∨ op = 10 ∨ op = 11 ∨ op = 12 ∨ op = 13 ∨ op = 14 ∨ op = 15 ∨ op = 16 ∨ op = 17 ∨ op = 18 ∨ op = 19 ∨ op = 20 ∨ op = 21 ∨ op = 22 ∨ op = 23 ∨ op = 24 ∨ op = 25 ∨ op = 26 ∨ op = 27 ∨ op = 28 ∨ op = 29 ∨ op = 30 ∨ op = 31 := by omega
  rw [hL] at row
  rcases this with rfl | rfl | rfl | rfl | rfl | rfl | rfl | rfl | rfl | rfl | rfl | rfl | rfl | rfl | rfl | rfl | rfl | rfl | rfl | rfl | rfl | rfl | rfl | rfl | rfl | rfl | rfl | rfl | rfl | rfl | rfl
  · obtain ⟨a, b, c, d⟩ := row 1 _ _ _ _ (by decide) rfl
    exact ⟨a, b, c, d⟩
  · obtain ⟨a, b, c, d⟩ := row 2 _ _ _ _ (by decide) rfl
    exact ⟨a, b, c, d⟩
  · obtain ⟨a, b, c, d⟩ := row 3 _ _ _ _ (by decide) rfl
    exact ⟨a, b, c, d⟩
  · obtain ⟨a, b, c, d⟩ := row 4 _ _ _ _ (by decide) rfl
    exact ⟨a, b, c, d⟩
  · obtain ⟨a, b, c, d⟩ := row 5 _ _ _ _ (by decide) rfl
    exact ⟨a, b, c, d⟩
  · obtain ⟨a, b, c, d⟩ := row 6 _ _ _ _ (by decide) rfl
    exact ⟨a, b, c, d⟩
  · obtain ⟨a, b, c, d⟩ := row 7 _ _ _ _ (by decide) rfl
    exact ⟨a, b, c, d⟩
  · obtain ⟨a, b, c, d⟩ := row 8 _ _ _ _ (by decide) rfl
    exact ⟨a, b, c, d⟩
  · obtain ⟨a, b, c, d⟩ := row 9 _ _ _ _ (by decide) rfl
    exact ⟨a, b, c, d⟩
  · obtain ⟨a, b, c, d⟩ := row 10 _ _ _ _ (by decide) rfl
    exact ⟨a, b, c, d⟩
  · obtain ⟨a, b, c, d⟩ := row 11 _ _ _ _ (by decide) rfl
    exact ⟨a, b, c, d⟩
  · obtain ⟨a, b, c, d⟩ := row 12 _ _ _ _ (by decide) rfl
    exact ⟨a, b, c, d⟩
  · obtain ⟨a, b, c, d⟩ := row 13 _ _ _ _ (by decide) rfl
    exact ⟨a, b, c, d⟩
  · obtain ⟨a, b, c, d⟩ := row 14 _ _ _ _ (by decide) rfl
    exact ⟨a, b, c, d⟩
  · obtain ⟨a, b, c, d⟩ := row 15 _ _ _ _ (by decide) rfl
    exact ⟨a, b, c, d⟩
  · obtain ⟨a, b, c, d⟩ := row 16 _ _ _ _ (by decide) rfl
    exact ⟨a, b, c, d⟩
  · obtain ⟨a, b, c, d⟩ := row 17 _ _ _ _ (by decide) rfl
    exact ⟨a, b, c, d⟩
  · obtain ⟨a, b, c, d⟩ := row 18 _ _ _ _ (by decide) rfl
    exact ⟨a, b, c, d⟩
  · obtain ⟨a, b, c, d⟩ := row 19 _ _ _ _ (by decide) rfl
    exact ⟨a, b, c, d⟩
  · obtain ⟨a, b, c, d⟩ := row 20 _ _ _ _ (by decide) rfl
    exact ⟨a, b, c, d⟩
  · obtain ⟨a, b, c, d⟩ := row 21 _ _ _ _ (by decide) rfl
    exact ⟨a, b, c, d⟩
  · obtain ⟨a, b, c, d⟩ := row 22 _ _ _ _ (by decide) rfl
    exact ⟨a, b, c, d⟩
  · obtain ⟨a, b, c, d⟩ := row 23 _ _ _ _ (by decide) rfl
    exact ⟨a, b, c, d⟩
  · obtain ⟨a, b, c, d⟩ := row 24 _ _ _ _ (by decide) rfl
    exact ⟨a, b, c, d⟩
  · obtain ⟨a, b, c, d⟩ := row 25 _ _ _ _ (by decide) rfl
    exact ⟨a, b, c, d⟩
  · obtain ⟨a, b, c, d⟩ := row 26 _ _ _ _ (by decide) rfl
    exact ⟨a, b, c, d⟩
  · obtain ⟨a, b, c, d⟩ := row 27 _ _ _ _ (by decide) rfl
    exact ⟨a, b, c, d⟩
  · obtain ⟨a, b, c, d⟩ := row 28 _ _ _ _ (by decide) rfl
    exact ⟨a, b, c, d⟩
  · obtain ⟨a, b, c, d⟩ := row 29 _ _ _ _ (by decide) rfl
    exact ⟨a, b, c, d⟩
  · obtain ⟨a, b, c, d⟩ := row 30 _ _ _ _ (by decide) rfl
    exact ⟨a, b, c, d⟩
  · obtain ⟨a, b, c, d⟩ := row 31 _ _ _ _ (by decide) rfl
    exact ⟨a, b, c, d⟩
end
end Go.Proofs.YtodgkbcgdbhpeaaGreatDoor.AsmP

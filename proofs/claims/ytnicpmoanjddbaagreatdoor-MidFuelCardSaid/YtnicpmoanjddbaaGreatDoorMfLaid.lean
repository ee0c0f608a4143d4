/- The marks, the levels, the range error and the tables of the steps, as the rows list them, lie as the walks want them; and so they lie behind the door's own run. -/
import Derived.Test.YtnicpmoanjddbaaGreatDoorRows
import Derived.Test.YtnicpmoanjddbaaGreatDoorTreePar
import Derived.Test.YtnicpmoanjddbaaGreatDoorMidLaid
import Derived.Test.YtnicpmoanjddbaaGreatDoorNums
import Derived.Test.YtnicpmoanjddbaaGreatDoorMidRunM
import Derived.ProofKit
import Derived.LaidMore
import Derived.OpenShut
import Derived.Stop.Joined
import Derived.Lib.SmallJoins
import Derived.Lib.LaidTab
namespace Go.Proofs.YtnicpmoanjddbaaGreatDoor.TreeP
set_option linter.unusedSimpArgs false
set_option linter.unusedVariables false
open Go.Joins Go.ChangeShapes Go.WideShapes Go.RowKit Go.Deep
/-- One of the variables that are listed. -/
theorem vars_at {P : Program} {w : World} : {l : List (String × DataW Unit)} → {ps : List MemPlace} → DataW.LaidVars P w l ps → {n : String} → {d : DataW Unit} → (n, d) ∈ l → ∃ g t cs fuel p, P.globalNamed n = some g ∧ (P.globals[g]?).map (·.type) = some t ∧ w.var? P n = some cs ∧ DataW.trod (fun _ => ()) P w 0 (fun _ => true) false fuel t cs.toList = some (d, p)
  | [], ps, h, n, d, hm => nomatch hm
  | (n', d') :: r, ps, h, n, d, hm => by
    obtain ⟨g, t, cs, fuel, p, q, h1, h2, h3, h4, h5, _⟩ := h
    rw [List.mem_cons] at hm
    rcases hm with hm | hm
    · cases hm
      exact ⟨g, t, cs, fuel, p, h1, h2, h3, h4⟩
    · exact vars_at h5 hm
theorem gMarks : Tryz.prog.globalNamed "bloomery/tree.marks" = some 3 := by kernel_rfl
theorem gLevels : Tryz.prog.globalNamed "bloomery/tree.levels" = some 4 := by kernel_rfl
theorem gRange : Tryz.prog.globalNamed "strconv.ErrRange" = some 6 := by kernel_rfl
theorem tyMarks : (Tryz.prog.globals[3]?).map (·.type) = some 190 ∧ Tryz.prog.underlying 190 = some (.array 24 9) ∧ Tryz.prog.underlying 9 = some .string ∧ Tryz.prog.cellsOf 9 = 1 := ⟨by kernel_rfl, by kernel_rfl, by kernel_rfl, by kernel_rfl⟩
theorem tyLevels : (Tryz.prog.globals[4]?).map (·.type) = some 237 ∧ Tryz.prog.underlying 237 = some (.array 6 187) ∧ Tryz.prog.underlying 187 = some (.slice 9) ∧ Tryz.prog.cellsOf 187 = 1 := ⟨by kernel_rfl, by kernel_rfl, by kernel_rfl, by kernel_rfl⟩
theorem tyRange : (Tryz.prog.globals[6]?).map (·.type) = some 38 := by kernel_rfl
noncomputable def errorMs := match Tryz.prog.underlying 38 with | some (.interface ms) => ms | _ => #[]
theorem uRange : Tryz.prog.underlying 38 = some (.interface errorMs) := by kernel_rfl
theorem one_cell {l : List Value} {j : Nat} {v : Value} (h : (l.drop j).take 1 = [v]) : l[j]? = some v := by
  have := congrArg (fun x : List Value => x[0]?) h
  simpa using this
theorem str_of {s : ByteArray} {m : List UInt8} (h : s.data.toList = m) : Value.string s = str m := by
  unfold str
  rw [← h]
section
variable {W : World} {l : List (String × DataW Unit)} {ps : List MemPlace}
theorem marks_of (h : DataW.LaidVars Tryz.prog W l ps) (hm : ("bloomery/tree.marks", Rows.laid_bloomery_tree_marks) ∈ l) : Marks W := by
  obtain ⟨g, t, cs, fuel, p, h1, h2, h3, h4⟩ := vars_at h hm
  obtain ⟨t1, t2, t3, t4⟩ := tyMarks
  obtain rfl := Option.some.inj (gMarks.symm.trans h1)
  obtain rfl := Option.some.inj (t1.symm.trans h2)
  obtain ⟨xs, m, _, hx, hcs, hn, hel⟩ := DataW.trod_array t2 h4
  have hL : xs.map (·.1) = markList.map fun m => (DataW.lit (.string m) : DataW Unit) := by
    have e : (Rows.laid_bloomery_tree_marks : DataW Unit) = .agg (markList.map fun m => (DataW.lit (.string m) : DataW Unit)) := rfl
    rw [e] at hx
    simp only [Prod.mk.injEq, DataW.agg.injEq] at hx
    exact hx.1.symm
  intro i mk hi
  have hlt : i < 24 := by
    have := (List.getElem?_eq_some_iff.1 hi).1
    have h24 : markList.length = 24 := rfl
    omega
  have h5 := hel i hlt
  rw [t4, Nat.mul_one] at h5
  have h6 : (xs.map (·.1))[i]? = some (DataW.lit (.string mk)) := by rw [hL, List.getElem?_map, hi]; rfl
  rw [List.getElem?_map] at h6
  cases hxi : xs[i]? with
  | none => rw [hxi] at h6; cases h6
  | some x =>
    rw [hxi] at h5 h6
    obtain ⟨s, a1, a2, a3⟩ := DataW.trod_string t3 h5
    rw [a2] at h6
    simp only [Option.map_some, Option.some.injEq, DataW.lit.injEq, Lit.string.injEq] at h6
    rw [World.var?_cell h1 h3, ← Array.getElem?_toList, one_cell a1, str_of h6]
theorem levels_of (h : DataW.LaidVars Tryz.prog W l ps) (hm : ("bloomery/tree.levels", Rows.laid_bloomery_tree_levels) ∈ l) : Levels W W.heap.size := by
  obtain ⟨g, t, cs, fuel, p, h1, h2, h3, h4⟩ := vars_at h hm
  obtain ⟨t1, t2, t3, t4⟩ := tyLevels
  obtain ⟨_, _, t5, t6⟩ := tyMarks
  obtain rfl := Option.some.inj (gLevels.symm.trans h1)
  obtain rfl := Option.some.inj (t1.symm.trans h2)
  obtain ⟨xs, m, _, hx, hcs, hn, hel⟩ := DataW.trod_array t2 h4
  have hL : xs.map (·.1) = levelList.map fun l => (DataW.slice (l.map fun m => (DataW.lit (.string m) : DataW Unit)) [] : DataW Unit) := by
    have e : (Rows.laid_bloomery_tree_levels : DataW Unit) = .agg (levelList.map fun l => (DataW.slice (l.map fun m => (DataW.lit (.string m) : DataW Unit)) [] : DataW Unit)) := rfl
    rw [e] at hx
    simp only [Prod.mk.injEq, DataW.agg.injEq] at hx
    exact hx.1.symm
  have row : ∀ (i : Nat) (l : List (List UInt8)), levelList[i]? = some l → ∃ p o c, W.cell? ⟨4, i, none⟩ = some (.slice (some ⟨p, o, none⟩) l.length c) ∧ l.length ≤ c ∧ c ≤ 100000 ∧ p < W.heap.size ∧ ∀ (j : Nat) (m : List UInt8), l[j]? = some m → W.cell? ⟨p, o + j, none⟩ = some (str m) := by
    intro i lv hi
    have hlt : i < 6 := by
      have := (List.getElem?_eq_some_iff.1 hi).1
      have h6 : levelList.length = 6 := rfl
      omega
    have hpos : 0 < lv.length ∧ lv.length ≤ 4 := by
      have : ∀ l ∈ levelList, 0 < l.length ∧ l.length ≤ 4 := by decide
      exact this lv (List.mem_of_getElem? hi)
    have h5 := hel i hlt
    rw [t4, Nat.mul_one] at h5
    have h6 : (xs.map (·.1))[i]? = some (DataW.slice (lv.map fun m => (DataW.lit (.string m) : DataW Unit)) [] : DataW Unit) := by rw [hL, List.getElem?_map, hi]; rfl
    rw [List.getElem?_map] at h6
    cases hxi : xs[i]? with
    | none => rw [hxi] at h6; cases h6
    | some x =>
      rw [hxi] at h5 h6
      rcases DataW.trod_slice t3 h5 with ⟨_, a2⟩ | ⟨a, len, cap, elems, rest, n, _, a1, a2, a3, a4, a5, a6, a7, a8, _⟩
      · rw [a2] at h6
        simp at h6
      · rw [a2] at h6
        simp only [Option.map_some, Option.some.injEq, DataW.slice.injEq, List.map_eq_nil_iff] at h6
        obtain ⟨e1, rfl⟩ := h6
        obtain ⟨b1, _⟩ := a8 rfl
        have hlen : len = lv.length := by
          have := congrArg List.length e1
          simp only [List.length_map] at this
          omega
        subst hlen
        simp only [List.length_nil] at b1
        have cell : ∀ (j : Nat) (m : List UInt8), lv[j]? = some m → W.cell? (a.add j) = some (str m) := by
          intro j mm hj
          have hjl : j < lv.length := (List.getElem?_eq_some_iff.1 hj).1
          have c1 := a7 j hjl
          rw [t6, Nat.mul_one] at c1
          have c2 : (elems.map (·.1))[j]? = some (DataW.lit (.string mm)) := by rw [e1, List.getElem?_map, hj]; rfl
          rw [List.getElem?_map] at c2
          cases he : elems[j]? with
          | none => rw [he] at c2; cases c2
          | some y =>
            rw [he] at c1 c2
            rw [Option.bind_eq_some_iff] at c1
            obtain ⟨vs, d1, d2⟩ := c1
            obtain ⟨s, f1, f2, f3⟩ := DataW.trod_string t5 d2
            rw [f2] at c2
            simp only [Option.map_some, Option.some.injEq, DataW.lit.injEq, Lit.string.injEq] at c2
            rw [f1] at d1
            unfold World.cells? at d1
            rw [if_pos (Nat.zero_le _), show List.range 1 = [0] from rfl] at d1
            simp only [List.mapM_cons, List.mapM_nil, Option.bind_eq_bind, Option.bind_eq_some_iff, Option.pure_def, Option.some.injEq, List.cons.injEq] at d1
            obtain ⟨v, g1, _, rfl, rfl, _⟩ := d1
            rw [str_of c2] at g1
            simpa [Addr.add] using g1
        obtain ⟨p, o, sp⟩ := a
        have c0 := cell 0 (lv[0]'hpos.1) (List.getElem?_eq_getElem _)
        have hsp : sp = none := by
          simp only [Addr.add, if_true] at c0
          unfold World.cell? at c0
          split at c0
          · cases sp with
            | none => rfl
            | some _ => simp at c0
          · cases c0
        subst hsp
        refine ⟨p, o, cap, ?_, a4, by omega, ?_, ?_⟩
        · rw [World.var?_cell h1 h3, ← Array.getElem?_toList, one_cell a1]
        · have := World.block_lt_of_cell? _ _ c0
          simpa [Addr.add] using this
        · intro j mm hj
          have := cell j mm hj
          cases j with
          | zero => exact this
          | succ j => simpa [Addr.add] using this
  obtain ⟨p0, o0, c0, e0, _⟩ := row 0 _ rfl
  exact ⟨World.block_lt_of_cell? _ _ e0, row⟩
theorem iface_of {P : Program} {W : World} {t : TypeId} {ms : _} {fuel : Nat} {cs : List Value} {d : DataW Unit} {p : List MemPlace} (ht : P.underlying t = some (.interface ms)) (h : DataW.trod (fun _ => ()) P W 0 (fun _ => true) false fuel t cs = some (d, p)) (hd : d ≠ .nil) : ∃ u v, cs = [.iface u v] := by
  cases fuel with
  | zero => simp [DataW.trod] at h
  | succ n =>
    unfold DataW.trod at h
    rw [ht] at h
    split at h <;> simp_all
theorem range_of (h : DataW.LaidVars Tryz.prog W l ps) (hm : ("strconv.ErrRange", Rows.laid_strconv_ErrRange) ∈ l) : RangeAt W W.heap.size := by
  obtain ⟨g, t, cs, fuel, p, h1, h2, h3, h4⟩ := vars_at h hm
  obtain rfl := Option.some.inj (gRange.symm.trans h1)
  obtain rfl := Option.some.inj (tyRange.symm.trans h2)
  have key := iface_of uRange h4 (by simp [Rows.laid_strconv_ErrRange])
  obtain ⟨u, v, hc⟩ := key
  have h5 : W.cell? ⟨6, 0, none⟩ = some (.iface u v) := by
    rw [World.var?_cell h1 h3, ← Array.getElem?_toList, hc]
    rfl
  exact ⟨World.block_lt_of_cell? _ _ h5, u, v, h5⟩
theorem laid_of_vars (h : DataW.LaidVars Tryz.prog W l ps) (h1 : ("bloomery/tree.marks", Rows.laid_bloomery_tree_marks) ∈ l) (h2 : ("bloomery/tree.levels", Rows.laid_bloomery_tree_levels) ∈ l) (h3 : ("strconv.ErrRange", Rows.laid_strconv_ErrRange) ∈ l) : Laid W :=
  ⟨marks_of h h1, levels_of h h2, range_of h h3⟩
end
end Go.Proofs.YtnicpmoanjddbaaGreatDoor.TreeP
namespace Go.Proofs.YtnicpmoanjddbaaGreatDoor.MidP
set_option linter.unusedSimpArgs false
set_option linter.unusedVariables false
open Go.Joins Go.ChangeShapes Go.WideShapes Go.RowKit Go.Deep
/-- What MidFuel's row lists. -/
noncomputable def nine : List (String × DataW Unit) := [("math/bits.deBruijn32tab", Rows.laid_math_bits_deBruijn32tab), ("math/bits.deBruijn64tab", Rows.laid_math_bits_deBruijn64tab), ("internal/strconv.uint64pow10", Rows.laid_internal_strconv_uint64pow10), ("bloomery/mid.ops", Rows.laid_bloomery_mid_ops), ("bloomery/mid.forms", Rows.laid_bloomery_mid_forms), ("strconv.ErrRange", Rows.laid_strconv_ErrRange), ("strconv.ErrSyntax", Rows.laid_strconv_ErrSyntax), ("bloomery/tree.marks", Rows.laid_bloomery_tree_marks), ("bloomery/tree.levels", Rows.laid_bloomery_tree_levels)]
theorem nine_laid {W : World} (h : laidMetH Tryz.prog nine W) : TreeP.Laid W ∧ FormsAt W ∧ OpsAt W := by
  rw [MakeChecks.laidMetH_plain _ _ _ (by kernel_rfl)] at h
  obtain ⟨ps, hv, _⟩ := h
  exact ⟨TreeP.laid_of_vars hv (by simp [nine]) (by simp [nine]) (by simp [nine]), forms_of hv (by simp [nine]), ops_of hv (by simp [nine])⟩
/-- The door's own heap bears them. -/
theorem nine_met (os : Os) (f : _) (args : Array Value) : laidMetH Tryz.prog nine ((World.doorLaid Tryz.prog 300 os).forCall f ⟨#[], args, []⟩).memory := by
  rw [MakeChecks.laidMetH_plain _ _ _ (by kernel_rfl)]
  exact laidMet_of_run' 8 (by kernel_rfl) (by kernel_rfl)
/-- Numbers as the walks of the steps want them. -/
theorem nums_in {W : World} {v : Value} {l : List Int} (h : Wo.NumsAt W v l) : InAt W Wo.None v l ∧ ∀ n c, v = .slice none n c → c = 0 := by
  obtain ⟨a, n, c, rfl, h1, h2, h3, h4, -, h5⟩ := h
  refine ⟨⟨a, n, c, rfl, h1, h2, h3, fun i x hx => ?_⟩, fun n' c' e => ?_⟩
  · obtain ⟨g, o, e1, e2⟩ := h5 i x hx
    exact ⟨g, o, e1, fun f => f, e2⟩
  · obtain ⟨e1, -, e2⟩ := Value.slice.inj e
    rw [← e2]
    exact h4 e1
end Go.Proofs.YtnicpmoanjddbaaGreatDoor.MidP

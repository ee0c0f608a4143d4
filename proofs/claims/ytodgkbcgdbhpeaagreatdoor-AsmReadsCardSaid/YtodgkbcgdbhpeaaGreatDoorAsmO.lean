/- Instructions that are given lie. Conditions: none. -/
import Derived.Test.YtodgkbcgdbhpeaaGreatDoorAsmI
import Derived.Test.YtodgkbcgdbhpeaaGreatDoorNums
namespace Go.Proofs.YtodgkbcgdbhpeaaGreatDoor.AsmP
open Go.RowKit Go.Proofs.YtodgkbcgdbhpeaaGreatDoor.Wo Go.ChangeShapes Go.WideShapes Go.Proofs.YtodgkbcgdbhpeaaGreatDoor.WordP
set_option linter.unusedVariables false
set_option linter.unusedSimpArgs false
section
variable {H : Type} {enc : TypeId × Value → H} {P : Program} {W : World}
/-- A slice's elements, by what each is. -/
theorem row_open {α : Type} {t e : TypeId} {size : Nat} (ht : P.underlying t = some (.slice e)) (hc : P.cellsOf e = size) (hsz : 0 < size) (R : List Value → α → Prop)
    (hR : ∀ fuel cs y, DataW.trod enc P W 0 (fun _ => true) true fuel e cs = some y → ∃ z, R cs z) {fuel : Nat} {cs : List Value} {x : DataW H × List MemPlace} (h : DataW.trod enc P W 0 (fun _ => true) true fuel t cs = some x) :
    ∃ (a : Option Addr) (n c : Nat) (l : List α), cs = [.slice a n c] ∧ l.length = n ∧ n ≤ c ∧ c ≤ maxLen ∧ (a = none → c = 0) ∧ ∀ (i : Nat) (z : α), l[i]? = some z → ∃ g o es, a = some ⟨g, o, none⟩ ∧ R es z ∧ ∀ j u, j < size → es[j]? = some u → W.cell? ⟨g, o + i * size + j, none⟩ = some u := by
  rcases DataW.trod_slice ht h with ⟨rfl, rfl⟩ | ⟨a, len, cap, elems, rest, n, rfl, rfl, rfl, hb, hl, hm, hlen, hel, -, -⟩
  · exact ⟨none, 0, 0, [], rfl, rfl, Nat.le_refl _, Nat.zero_le _, fun _ => rfl, fun i z h => by simp at h⟩
  · have each : ∀ i, i < len → ∃ z es, R es z ∧ (∀ j u, j < size → es[j]? = some u → W.cell? ((a.add (i * size)).add j) = some u) ∧ ∃ u, W.cell? (a.add (i * size)) = some u := by
      intro i hi
      have h1 := hel i hi
      obtain ⟨y, hy⟩ : ∃ y, elems[i]? = some y := ⟨elems[i]'(by omega), List.getElem?_eq_getElem _⟩
      rw [hy, hc, Option.bind_eq_some_iff] at h1
      obtain ⟨es, h2, h3⟩ := h1
      obtain ⟨z, hz⟩ := hR n es y h3
      have h4 := World.cells?_some h2
      refine ⟨z, es, hz, fun j u hj hu => ?_, ?_⟩
      · rw [h4.2.2 j hj]; exact hu
      · have h5 := h4.2.2 0 hsz
        have h6 : (a.add (i * size)).add 0 = a.add (i * size) := by unfold Addr.add; split <;> simp_all
        rw [h6] at h5
        have h7 : es.length = size := h4.2.1
        exact ⟨es[0]'(by omega), by rw [h5]; exact List.getElem?_eq_getElem _⟩
    by_cases h0 : len = 0
    · subst h0
      exact ⟨some a, 0, cap, [], rfl, rfl, hl, hm, (fun h => nomatch h), (fun i z h => nomatch h)⟩
    obtain ⟨z0, -, -, -, u0, hu0⟩ := each 0 (by omega)
    have hpl : a = ⟨a.block, a.off, none⟩ := by
      have h1 := addr_of_cell hu0
      have h2 : a.add (0 * size) = a := by unfold Addr.add; simp
      rw [h2] at h1
      exact h1
    let f : Nat → α := fun i => if h : i < len then (each i h).choose else z0
    refine ⟨some a, len, cap, (List.range len).map f, rfl, by simp, hl, hm, (fun h => by cases h), fun i z hz => ?_⟩
    rw [List.getElem?_map, Option.map_eq_some_iff] at hz
    obtain ⟨k, hk, rfl⟩ := hz
    obtain ⟨hk1, hk2⟩ := List.getElem?_eq_some_iff.1 hk
    simp only [List.length_range] at hk1
    obtain rfl : k = i := by simpa using hk2.symm
    have hf : f k = (each k hk1).choose := by simp only [f, dif_pos hk1]
    obtain ⟨es, h1, h2, -⟩ := (each k hk1).choose_spec
    rw [hf]
    refine ⟨a.block, a.off, es, by rw [← hpl], h1, fun j u hj hu => ?_⟩
    have h3 := h2 j u hj hu
    rw [hpl, Wo.add_plain, Wo.add_plain] at h3
    exact h3
theorem int_of {fuel : Nat} {t : TypeId} {cs : List Value} {y : DataW H × List MemPlace} (ht : P.underlying t = some (.int .i64)) (h : DataW.trod enc P W 0 (fun _ => true) true fuel t cs = some y) : ∃ z, cs = [.int .i64 z] ∧ -9223372036854775808 ≤ z ∧ z ≤ 9223372036854775807 := by
  obtain ⟨n, h1, -, h2⟩ := DataW.trod_int ht h
  exact ⟨n, h1, wf_i64 h2⟩
theorem one_at {cs : List Value} {k : Nat} {v : Value} (h : (cs.drop k).take 1 = [v]) : cs[k]? = some v := by
  have h1 : ((cs.drop k).take 1)[0]? = some v := by rw [h]; rfl
  rw [List.getElem?_take_of_lt (by omega), List.getElem?_drop] at h1
  simpa using h1
end
section
variable {H : Type} {enc : TypeId × Value → H} {W : World}
theorem uInst : Tryz.prog.underlying 30 = some (.struct #[fieldAt 30 0, fieldAt 30 1, fieldAt 30 2, fieldAt 30 3, fieldAt 30 4]) := by kernel_rfl
theorem offInst : (fieldAt 30 0).offset = 0 ∧ (fieldAt 30 1).offset = 1 ∧ (fieldAt 30 2).offset = 2 ∧ (fieldAt 30 3).offset = 3 ∧ (fieldAt 30 4).offset = 4 := ⟨by kernel_rfl, by kernel_rfl, by kernel_rfl, by kernel_rfl, by kernel_rfl⟩
theorem undInst : Tryz.prog.underlying (fieldAt 30 0).type = some (.int .i64) ∧ Tryz.prog.underlying (fieldAt 30 1).type = some (.int .i64) ∧ Tryz.prog.underlying (fieldAt 30 2).type = some (.int .i64) ∧ Tryz.prog.underlying (fieldAt 30 3).type = some (.int .i64) ∧ Tryz.prog.underlying (fieldAt 30 4).type = some (.int .i64) := ⟨by kernel_rfl, by kernel_rfl, by kernel_rfl, by kernel_rfl, by kernel_rfl⟩
theorem celInst : Tryz.prog.cellsOf (fieldAt 30 0).type = 1 ∧ Tryz.prog.cellsOf (fieldAt 30 1).type = 1 ∧ Tryz.prog.cellsOf (fieldAt 30 2).type = 1 ∧ Tryz.prog.cellsOf (fieldAt 30 3).type = 1 ∧ Tryz.prog.cellsOf (fieldAt 30 4).type = 1 := ⟨by kernel_rfl, by kernel_rfl, by kernel_rfl, by kernel_rfl, by kernel_rfl⟩
set_option maxRecDepth 100000 in
theorem inst_of {fuel : Nat} {cs : List Value} {y : DataW H × List MemPlace} (h : DataW.trod enc Tryz.prog W 0 (fun _ => true) true fuel 30 cs = some y) : ∃ x : Ins, I64s x ∧ (cs[0]? = some (.int .i64 x.op) ∧ cs[1]? = some (.int .i64 x.rd) ∧ cs[2]? = some (.int .i64 x.ra) ∧ cs[3]? = some (.int .i64 x.rb) ∧ cs[4]? = some (.int .i64 x.n)) := by
  obtain ⟨xs, n, _, rfl, hl, hlen, hf⟩ := DataW.trod_struct uInst h
  obtain ⟨o0, o1, o2, o3, o4⟩ := offInst
  obtain ⟨u0, u1, u2, u3, u4⟩ := undInst
  obtain ⟨k0, k1, k2, k3, k4⟩ := celInst
  have hlen5 : xs.length = 5 := hlen
  have get : ∀ i, i < 5 → ∃ y, xs[i]? = some y := fun i hi => ⟨_, List.getElem?_eq_getElem (by omega)⟩
  obtain ⟨y0, e0⟩ := get 0 (by omega)
  obtain ⟨y1, e1⟩ := get 1 (by omega)
  obtain ⟨y2, e2⟩ := get 2 (by omega)
  obtain ⟨y3, e3⟩ := get 3 (by omega)
  obtain ⟨y4, e4⟩ := get 4 (by omega)
  have g0 := hf 0 (fieldAt 30 0) rfl
  have g1 := hf 1 (fieldAt 30 1) rfl
  have g2 := hf 2 (fieldAt 30 2) rfl
  have g3 := hf 3 (fieldAt 30 3) rfl
  have g4 := hf 4 (fieldAt 30 4) rfl
  rw [o0, k0, e0] at g0
  rw [o1, k1, e1] at g1
  rw [o2, k2, e2] at g2
  rw [o3, k3, e3] at g3
  rw [o4, k4, e4] at g4
  obtain ⟨z0, c0, w0⟩ := int_of u0 g0
  obtain ⟨z1, c1, w1⟩ := int_of u1 g1
  obtain ⟨z2, c2, w2⟩ := int_of u2 g2
  obtain ⟨z3, c3, w3⟩ := int_of u3 g3
  obtain ⟨z4, c4, w4⟩ := int_of u4 g4
  exact ⟨⟨z0, z1, z2, z3, z4⟩, ⟨w0, w1, w2, w3, w4⟩, one_at c0, one_at c1, one_at c2, one_at c3, one_at c4⟩
set_option maxRecDepth 100000 in
/-- Instructions that are given. -/
theorem ins_open {v : Value} {d : DataW H} {p : List MemPlace} {r : Reach} {b0 : Nat} (hv : Value.okWide Tryz.prog W r b0 22 v) (h : DataW.Trod enc Tryz.prog W 0 (fun _ => true) true 22 v d p) : ∃ l, InsIn W None v l ∧ (∀ x ∈ l, I64s x) ∧ l.length ≤ maxLen := by
  obtain ⟨a0, n0, c0, rfl⟩ := okWide_slice Tryz.underlying22 hv
  obtain ⟨fuel, hf⟩ := h
  obtain ⟨a, m, c, l, g3, rfl, h1, h2, h3, h4⟩ := row_open (α := {x : Ins // I64s x}) Tryz.underlying22 (size := 5) (by kernel_rfl) (by decide) (fun cs z => cs[0]? = some (.int .i64 z.1.op) ∧ cs[1]? = some (.int .i64 z.1.rd) ∧ cs[2]? = some (.int .i64 z.1.ra) ∧ cs[3]? = some (.int .i64 z.1.rb) ∧ cs[4]? = some (.int .i64 z.1.n)) (fun fuel cs y hy => by
    obtain ⟨x, h5, h6⟩ := inst_of hy
    exact ⟨⟨x, h5⟩, h6⟩) hf
  simp only [Value.cells, List.cons.injEq, Value.slice.injEq, and_true] at g3
  obtain ⟨rfl, rfl, rfl⟩ := g3
  refine ⟨l.map (·.1), ⟨a0, c0, by simp, h3, fun i x hx => ?_⟩, fun x hx => ?_, by rw [List.length_map]; omega⟩
  · rw [List.getElem?_map, Option.map_eq_some_iff] at hx
    obtain ⟨z, hz, rfl⟩ := hx
    obtain ⟨g, o, es, q1, ⟨e0, e1, e2, e3, e4⟩, q3⟩ := h4 i z hz
    exact ⟨g, o, q1, fun f => f, q3 0 _ (by decide) e0, q3 1 _ (by decide) e1, q3 2 _ (by decide) e2, q3 3 _ (by decide) e3, q3 4 _ (by decide) e4⟩
  · obtain ⟨z, -, rfl⟩ := List.mem_map.1 hx
    exact z.2
end
end Go.Proofs.YtodgkbcgdbhpeaaGreatDoor.AsmP

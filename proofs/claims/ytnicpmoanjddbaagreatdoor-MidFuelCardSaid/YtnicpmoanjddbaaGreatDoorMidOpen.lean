/- Functions of steps as arguments: opened to lists. No conditions. -/
import Derived.Test.YtnicpmoanjddbaaGreatDoorMidMem
import Derived.Test.YtnicpmoanjddbaaGreatDoorNums
namespace Go.Proofs.YtnicpmoanjddbaaGreatDoor.MidP
open Go.RowKit Go.Proofs.YtnicpmoanjddbaaGreatDoor.Wo Go.ChangeShapes Go.WideShapes
set_option linter.unusedVariables false
set_option linter.unusedSimpArgs false
/-- What is known of a step that is given. -/
structure StpOk (s : Stp) : Prop where
  nums : I64 s.code ∧ I64 s.dst ∧ I64 s.a ∧ I64 s.b ∧ I64 s.c ∧ I64 s.n ∧ I64 s.label
  texts : s.op.length ≤ maxLen ∧ s.name.length ≤ maxLen
  args : ∀ x ∈ s.args, I64 x
/-- What is known of a function that is given. -/
structure FmOk (f : Fm) : Prop where
  name : f.name.length ≤ maxLen
  params : I64 f.params
  types : ∀ x ∈ f.types, I64 x
  steps : ∀ s ∈ f.steps, StpOk s
section
variable {H : Type} {enc : TypeId × Value → H} {P : Program} {W : World}
/-- A slice's elements, by what each is. -/
theorem row_open {α : Type} {t e : TypeId} {size : Nat} (ht : P.underlying t = some (.slice e)) (hc : P.cellsOf e = size) (hsz : 0 < size) (R : List Value → α → Prop)
    (hR : ∀ fuel cs y, DataW.trod enc P W 0 (fun _ => true) true fuel e cs = some y → ∃ z, R cs z) {fuel : Nat} {cs : List Value} {x : DataW H × List MemPlace} (h : DataW.trod enc P W 0 (fun _ => true) true fuel t cs = some x) :
    ∃ (a : Option Addr) (n c : Nat) (l : List α), cs = [.slice a n c] ∧ l.length = n ∧ n ≤ c ∧ c ≤ maxLen ∧ (a = none → n = 0) ∧ ∀ (i : Nat) (z : α), l[i]? = some z → ∃ g o es, a = some ⟨g, o, none⟩ ∧ R es z ∧ ∀ j u, j < size → es[j]? = some u → W.cell? ⟨g, o + i * size + j, none⟩ = some u := by
  rcases DataW.trod_slice ht h with ⟨rfl, rfl⟩ | ⟨a, len, cap, elems, rest, n, rfl, rfl, rfl, hb, hl, hm, hlen, hel, -, -⟩
  · exact ⟨none, 0, 0, [], rfl, rfl, Nat.le_refl _, Nat.zero_le _, fun _ => rfl, fun i z h => by simp at h⟩
  · have each : ∀ i, i < len → ∃ z es, R es z ∧ (∀ j u, j < size → es[j]? = some u → W.cell? ((a.add (i * size)).add j) = some u) ∧ ∃ u, W.cell? (a.add (i * size)) = some u := by
      intro i hi
      have h1 := hel i hi
      obtain ⟨y, hy⟩ : ∃ y, elems[i]? = some y := ⟨elems[i]'(by omega), List.getElem?_eq_getElem _⟩
      rw [hy, hc, Option.bind_eq_some_iff] at h1
      obtain ⟨es, h2, h3⟩ := h1
      obtain ⟨z, hz⟩ := hR n es y h3
      have h4 := World.cells?_some h2
      refine ⟨z, es, hz, fun j u hj hu => ?_, ?_⟩
      · rw [h4.2.2 j hj]; exact hu
      · have h5 := h4.2.2 0 hsz
        have h6 : (a.add (i * size)).add 0 = a.add (i * size) := by unfold Addr.add; split <;> simp_all
        rw [h6] at h5
        have h7 : es.length = size := h4.2.1
        exact ⟨es[0]'(by omega), by rw [h5]; exact List.getElem?_eq_getElem _⟩
    by_cases h0 : len = 0
    · subst h0
      exact ⟨some a, 0, cap, [], rfl, rfl, hl, hm, (fun h => nomatch h), (fun i z h => nomatch h)⟩
    obtain ⟨z0, -, -, -, u0, hu0⟩ := each 0 (by omega)
    have hpl : a = ⟨a.block, a.off, none⟩ := by
      have h1 := addr_of_cell hu0
      have h2 : a.add (0 * size) = a := by unfold Addr.add; simp
      rw [h2] at h1
      exact h1
    let f : Nat → α := fun i => if h : i < len then (each i h).choose else z0
    refine ⟨some a, len, cap, (List.range len).map f, rfl, by simp, hl, hm, (fun h => by cases h), fun i z hz => ?_⟩
    rw [List.getElem?_map, Option.map_eq_some_iff] at hz
    obtain ⟨k, hk, rfl⟩ := hz
    obtain ⟨hk1, hk2⟩ := List.getElem?_eq_some_iff.1 hk
    simp only [List.length_range] at hk1
    obtain rfl : k = i := by simpa using hk2.symm
    have hf : f k = (each k hk1).choose := by simp only [f, dif_pos hk1]
    obtain ⟨es, h1, h2, -⟩ := (each k hk1).choose_spec
    rw [hf]
    refine ⟨a.block, a.off, es, by rw [← hpl], h1, fun j u hj hu => ?_⟩
    have h3 := h2 j u hj hu
    rw [hpl, Wo.add_plain, Wo.add_plain] at h3
    exact h3
theorem int_of {fuel : Nat} {t : TypeId} {cs : List Value} {y : DataW H × List MemPlace} (ht : P.underlying t = some (.int .i64)) (h : DataW.trod enc P W 0 (fun _ => true) true fuel t cs = some y) : ∃ z, cs = [.int .i64 z] ∧ I64 z := by
  obtain ⟨n, h1, -, h2⟩ := DataW.trod_int ht h
  exact ⟨n, h1, wf_i64 h2⟩
theorem text_of {fuel : Nat} {t : TypeId} {cs : List Value} {y : DataW H × List MemPlace} (ht : P.underlying t = some .string) (h : DataW.trod enc P W 0 (fun _ => true) true fuel t cs = some y) : ∃ z : List UInt8, cs = [str z] ∧ z.length ≤ maxLen := by
  obtain ⟨s, h1, -, h2⟩ := DataW.trod_string ht h
  exact ⟨s.data.toList, by rw [h1]; rfl, by rw [Array.length_toList]; exact h2⟩
theorem one_at {cs : List Value} {k : Nat} {v : Value} (h : (cs.drop k).take 1 = [v]) : cs[k]? = some v := by
  have h1 : ((cs.drop k).take 1)[0]? = some v := by rw [h]; rfl
  rw [List.getElem?_take_of_lt (by omega), List.getElem?_drop] at h1
  simpa using h1
end
section
variable {H : Type} {enc : TypeId × Value → H} {W : World}
set_option maxRecDepth 100000 in
/-- Numbers that are given. -/
theorem ints_of {fuel : Nat} {cs : List Value} {y : DataW H × List MemPlace} (h : DataW.trod enc Tryz.prog W 0 (fun _ => true) true fuel 52 cs = some y) : ∃ v l, cs = [v] ∧ IntsAt W None v l ∧ ∀ x ∈ l, I64 x := by
  obtain ⟨a, n, c, l, rfl, rfl, h1, h2, h3, h4⟩ := row_open (α := {z : Int // I64 z}) Tryz.underlying52 (size := 1) (by kernel_rfl) (by decide) (fun cs z => cs = [.int .i64 z.1]) (fun fuel cs y hy => by
    obtain ⟨z, h5, h6⟩ := int_of Tryz.underlying3 hy
    exact ⟨⟨z, h6⟩, h5⟩) h
  refine ⟨_, l.map (·.1), rfl, ⟨a, c, by simp, by simpa using h1, h2, by simpa using h3, fun i x hx => ?_⟩, fun x hx => ?_⟩
  · rw [List.getElem?_map, Option.map_eq_some_iff] at hx
    obtain ⟨z, hz, rfl⟩ := hx
    obtain ⟨g, o, es, e1, rfl, e3⟩ := h4 i z hz
    have e4 := e3 0 _ (by decide) rfl
    rw [Nat.mul_one, Nat.add_zero] at e4
    exact ⟨g, o, e1, fun f => f, e4⟩
  · obtain ⟨z, -, rfl⟩ := List.mem_map.1 hx
    exact z.2
set_option maxRecDepth 100000 in
/-- A step that is given. -/
theorem stp_of {fuel : Nat} {cs : List Value} {y : DataW H × List MemPlace} (h : DataW.trod enc Tryz.prog W 0 (fun _ => true) true fuel 57 cs = some y) : ∃ s av, cs = stpL s av ∧ IntsAt W None av s.args ∧ StpOk s := by
  obtain ⟨xs, n, rfl, -, hl, hx, hf⟩ := DataW.trod_struct Tryz.underlying57 h
  have hl : cs.length = 10 := by rw [hl]; kernel_rfl
  have hx : xs.length = 10 := by rw [hx]; rfl
  have get : ∀ i, i < 10 → ∃ y, xs[i]? = some y := fun i hi => ⟨xs[i]'(by omega), List.getElem?_eq_getElem _⟩
  have f0 := hf 0 _ rfl
  have f1 := hf 1 _ rfl
  have f2 := hf 2 _ rfl
  have f3 := hf 3 _ rfl
  have f4 := hf 4 _ rfl
  have f5 := hf 5 _ rfl
  have f6 := hf 6 _ rfl
  have f7 := hf 7 _ rfl
  have f8 := hf 8 _ rfl
  have f9 := hf 9 _ rfl
  obtain ⟨y0, e0⟩ := get 0 (by decide)
  obtain ⟨y1, e1⟩ := get 1 (by decide)
  obtain ⟨y2, e2⟩ := get 2 (by decide)
  obtain ⟨y3, e3⟩ := get 3 (by decide)
  obtain ⟨y4, e4⟩ := get 4 (by decide)
  obtain ⟨y5, e5⟩ := get 5 (by decide)
  obtain ⟨y6, e6⟩ := get 6 (by decide)
  obtain ⟨y7, e7⟩ := get 7 (by decide)
  obtain ⟨y8, e8⟩ := get 8 (by decide)
  obtain ⟨y9, e9⟩ := get 9 (by decide)
  rw [e0] at f0
  rw [e1] at f1
  rw [e2] at f2
  rw [e3] at f3
  rw [e4] at f4
  rw [e5] at f5
  rw [e6] at f6
  rw [e7] at f7
  rw [e8] at f8
  rw [e9] at f9
  obtain ⟨z0, g0, i0⟩ := int_of Tryz.underlying3 f0
  obtain ⟨z1, g1, i1⟩ := int_of Tryz.underlying3 f1
  obtain ⟨z2, g2, i2⟩ := int_of Tryz.underlying3 f2
  obtain ⟨z3, g3, i3⟩ := int_of Tryz.underlying3 f3
  obtain ⟨z4, g4, i4⟩ := int_of Tryz.underlying3 f4
  obtain ⟨z5, g5, i5⟩ := int_of Tryz.underlying2 f5
  obtain ⟨z6, g6, i6⟩ := text_of Tryz.underlying9 f6
  obtain ⟨z7, g7, i7⟩ := int_of Tryz.underlying3 f7
  obtain ⟨z8, g8, i8⟩ := text_of Tryz.underlying9 f8
  obtain ⟨av, l, g9, hi, i9⟩ := ints_of f9
  have k0 := one_at (k := 0) g0
  have k1 := one_at (k := 1) g1
  have k2 := one_at (k := 2) g2
  have k3 := one_at (k := 3) g3
  have k4 := one_at (k := 4) g4
  have k5 := one_at (k := 5) g5
  have k6 := one_at (k := 6) g6
  have k7 := one_at (k := 7) g7
  have k8 := one_at (k := 8) g8
  have k9 := one_at (k := 9) g9
  refine ⟨⟨z0, z1, z2, z3, z4, z5, z6, z7, z8, l⟩, av, ?_, hi, ⟨⟨i0, i1, i2, i3, i4, i5, i7⟩, ⟨i6, i8⟩, i9⟩⟩
  apply List.ext_getElem?
  intro i
  rcases i with _ | _ | _ | _ | _ | _ | _ | _ | _ | _ | i
  all_goals first | assumption | (rw [List.getElem?_eq_none (by omega)]; rfl)
set_option maxRecDepth 100000 in
/-- A function that is given. -/
theorem fm_of {fuel : Nat} {cs : List Value} {y : DataW H × List MemPlace} (h : DataW.trod enc Tryz.prog W 0 (fun _ => true) true fuel 55 cs = some y) : ∃ f tv sv, cs = [str f.name, .int .i64 f.params, tv, sv] ∧ IntsAt W None tv f.types ∧ StpsAt W None sv f.steps ∧ FmOk f := by
  obtain ⟨xs, n, rfl, -, hl, hx, hf⟩ := DataW.trod_struct Tryz.underlying55 h
  have hl : cs.length = 4 := by rw [hl]; kernel_rfl
  have hx : xs.length = 4 := by rw [hx]; rfl
  have get : ∀ i, i < 4 → ∃ y, xs[i]? = some y := fun i hi => ⟨xs[i]'(by omega), List.getElem?_eq_getElem _⟩
  have f0 := hf 0 _ rfl
  have f1 := hf 1 _ rfl
  have f2 := hf 2 _ rfl
  have f3 := hf 3 _ rfl
  obtain ⟨y0, e0⟩ := get 0 (by decide)
  obtain ⟨y1, e1⟩ := get 1 (by decide)
  obtain ⟨y2, e2⟩ := get 2 (by decide)
  obtain ⟨y3, e3⟩ := get 3 (by decide)
  rw [e0] at f0
  rw [e1] at f1
  rw [e2] at f2
  rw [e3] at f3
  obtain ⟨z0, g0, i0⟩ := text_of Tryz.underlying9 f0
  obtain ⟨z1, g1, i1⟩ := int_of Tryz.underlying3 f1
  obtain ⟨tv, tl, g2, ht, i2⟩ := ints_of f2
  obtain ⟨a, m, c, l, g3, rfl, h1, h2, h3, h4⟩ := row_open (α := {s : Stp // StpOk s}) Tryz.underlying53 (size := 10) (by kernel_rfl) (by decide) (fun cs z => ∃ av, cs = stpL z.1 av ∧ IntsAt W None av z.1.args) (fun fuel cs y hy => by
    obtain ⟨s, av, h5, h6, h7⟩ := stp_of hy
    exact ⟨⟨s, h7⟩, av, h5, h6⟩) f3
  have k0 := one_at (k := 0) g0
  have k1 := one_at (k := 1) g1
  have k2 := one_at (k := 2) g2
  have k3 := one_at (k := 3) g3
  refine ⟨⟨z0, z1, tl, l.map (·.1)⟩, tv, .slice a l.length c, ?_, ht, ⟨a, c, by simp, by simpa using h1, h2, by simpa using h3, fun i s hs => ?_⟩, ⟨i0, i1, i2, fun s hs => ?_⟩⟩
  · apply List.ext_getElem?
    intro i
    rcases i with _ | _ | _ | _ | i
    all_goals first | assumption | (rw [List.getElem?_eq_none (by omega)]; rfl)
  · rw [List.getElem?_map, Option.map_eq_some_iff] at hs
    obtain ⟨z, hz, rfl⟩ := hs
    obtain ⟨g, o, es, q1, ⟨av, rfl, q2⟩, q3⟩ := h4 i z hz
    exact ⟨g, o, av, q1, fun f => f, ⟨q3 0 _ (by decide) rfl, q3 1 _ (by decide) rfl, q3 2 _ (by decide) rfl, q3 3 _ (by decide) rfl, q3 4 _ (by decide) rfl, q3 5 _ (by decide) rfl, q3 6 _ (by decide) rfl, q3 7 _ (by decide) rfl, q3 8 _ (by decide) rfl, q3 9 _ (by decide) rfl⟩, q2⟩
  · obtain ⟨z, -, rfl⟩ := List.mem_map.1 hs
    exact z.2
set_option maxRecDepth 100000 in
/-- Functions of steps that are given. -/
theorem fms_open {v : Value} {d : DataW H} {p : List MemPlace} {r : Reach} {b0 : Nat} (hv : Value.okWide Tryz.prog W r b0 22 v) (h : DataW.Trod enc Tryz.prog W 0 (fun _ => true) true 22 v d p) : ∃ L, FmsAt W None v L ∧ ∀ f ∈ L, FmOk f := by
  obtain ⟨a0, n0, c0, rfl⟩ := okWide_slice Tryz.underlying22 hv
  obtain ⟨fuel, hf⟩ := h
  obtain ⟨a, m, c, l, g3, rfl, h1, h2, h3, h4⟩ := row_open (α := {f : Fm // FmOk f}) Tryz.underlying22 (size := 4) (by kernel_rfl) (by decide) (fun cs z => ∃ tv sv, cs = [str z.1.name, .int .i64 z.1.params, tv, sv] ∧ IntsAt W None tv z.1.types ∧ StpsAt W None sv z.1.steps) (fun fuel cs y hy => by
    obtain ⟨f, tv, sv, h5, h6, h7, h8⟩ := fm_of hy
    exact ⟨⟨f, h8⟩, tv, sv, h5, h6, h7⟩) hf
  simp only [Value.cells, List.cons.injEq, Value.slice.injEq, and_true] at g3
  obtain ⟨rfl, rfl, rfl⟩ := g3
  refine ⟨l.map (·.1), ⟨a0, c0, by simp, by simpa using h1, h2, by simpa using h3, fun i f hf => ?_⟩, fun f hf => ?_⟩
  · rw [List.getElem?_map, Option.map_eq_some_iff] at hf
    obtain ⟨z, hz, rfl⟩ := hf
    obtain ⟨g, o, es, q1, ⟨tv, sv, rfl, q2, q4⟩, q3⟩ := h4 i z hz
    exact ⟨g, o, tv, sv, q1, fun f => f, q3 0 _ (by decide) rfl, q3 1 _ (by decide) rfl, q3 2 _ (by decide) rfl, q3 3 _ (by decide) rfl, q2, q4⟩
  · obtain ⟨z, -, rfl⟩ := List.mem_map.1 hf
    exact z.2
end
end Go.Proofs.YtnicpmoanjddbaaGreatDoor.MidP

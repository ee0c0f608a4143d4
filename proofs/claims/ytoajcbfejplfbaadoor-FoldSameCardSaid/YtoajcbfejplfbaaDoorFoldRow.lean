/- Rows of steps of one's own; copies of rows. Conditions: what is asked lies. -/
import Derived.Test.YtoajcbfejplfbaaDoorFoldSt
import Derived.Laws.AppendOwnNone
import Derived.Test.YtoajcbfejplfbaaDoorNums
namespace Go.Proofs.YtoajcbfejplfbaaDoor.MidP
open Go.RowKit Go.Proofs.YtoajcbfejplfbaaDoor.Wo Go.Maps Go.Proofs.YtoajcbfejplfbaaDoor.TreeP
set_option linter.unusedVariables false
set_option linter.unusedSimpArgs false
theorem int_info : (Tryd.prog.info? 3).map (fun i => (i.zero, i.size, i.bytes)) = some (some (.int .i64 0), 1, 8) := by kernel_rfl
def zeroStp : Value := .agg #[.int .i64 0, .int .i64 0, .int .i64 0, .int .i64 0, .int .i64 0, .int .i64 0, .string ⟨#[]⟩, .int .i64 0, .string ⟨#[]⟩, .slice none 0 0]
theorem stp_info : (Tryd.prog.info? 44).map (fun i => (i.zero, i.size, i.bytes)) = some (some zeroStp, 10, 112) := by kernel_rfl
/-- Steps, cell by cell. -/
def RelS (W : World) (S : Nat → Prop) (cs : List Value) (l : List Stp) : Prop := ∀ (i : Nat) (x : Stp), l[i]? = some x → ∃ av, (∀ k u, (stpL x av)[k]? = some u → cs[i * 10 + k]? = some u) ∧ IntsAt W S av x.args
theorem RelS.mods {W W' : World} {S T : Nat → Prop} {cs : List Value} {l : List Stp} (h : RelS W S cs l) (hm : Mods S W W') (hT : ∀ k, k < W.heap.size → T k → S k) : RelS W' T cs l := fun i x hx => by
  obtain ⟨av, h1, h2⟩ := h i x hx
  exact ⟨av, h1, h2.mods hm hT⟩
theorem stpL_len (x : Stp) (av : Value) : (stpL x av).length = 10 := rfl
theorem RelS.grow {W : World} {S : Nat → Prop} {cs : List Value} {l : List Stp} (h : RelS W S cs l) (hl : cs.length = l.length * 10) {x : Stp} {av : Value} (hx : IntsAt W S av x.args) : RelS W S (cs ++ stpL x av) (l ++ [x]) := fun i y hy => by
  rcases Nat.lt_or_ge i l.length with hi | hi
  · rw [List.getElem?_append_left hi] at hy
    obtain ⟨bv, h1, h2⟩ := h i y hy
    refine ⟨bv, fun k u hk => ?_, h2⟩
    have hk10 : k < 10 := by
      have := (List.getElem?_eq_some_iff.1 hk).1
      rwa [stpL_len] at this
    rw [List.getElem?_append_left (by omega)]
    exact h1 k u hk
  · rw [List.getElem?_append_right hi] at hy
    obtain ⟨hi2, hy⟩ := List.getElem?_eq_some_iff.1 hy
    simp only [List.length_singleton] at hi2
    obtain rfl : i = l.length := by omega
    simp only [Nat.sub_self, List.getElem_cons_zero] at hy
    subst hy
    refine ⟨av, fun k u hk => ?_, hx⟩
    rw [List.getElem?_append_right (by omega), show l.length * 10 + k - cs.length = k by omega]
    exact hk
/-- Steps in a row of one's own. -/
def OwnS (W : World) (base : Nat) (v : Value) (l : List Stp) : Prop := ∃ cs, W.ownsRow base 44 10 v l.length cs ∧ RelS W None cs l
theorem OwnS.none_ (W : World) (base : Nat) : OwnS W base (.slice none 0 0) [] := ⟨[], World.ownsRow_nil _ _ _ _, fun i x hx => by simp at hx⟩
theorem OwnS.mods {W W' : World} {S : Nat → Prop} {base : Nat} {v : Value} {l : List Stp} (h : OwnS W base v l) (hm : Mods None W W') : OwnS W' base v l := by
  obtain ⟨cs, h1, h2⟩ := h
  exact ⟨cs, hm.ownsRow h1 (fun _ _ f => f), h2.mods hm (fun _ _ f => f)⟩
/-- Steps of one's own are steps that are only read. -/
theorem OwnS.at_ {W : World} {base : Nat} {v : Value} {l : List Stp} (h : OwnS W base v l) : StpsAt W None v l := by
  obtain ⟨cs, h1, h2⟩ := h
  rcases h1.2 with ⟨hv, h0⟩ | ⟨g, cap, cur, hv, h3, h4, h5, h6, h7, h8⟩
  · obtain rfl : l = [] := List.eq_nil_of_length_eq_zero h0
    exact ⟨none, 0, hv, Nat.zero_le _, Nat.zero_le _, fun _ => rfl, fun i s hs => by simp at hs⟩
  · refine ⟨_, cap, hv, h5, h6, (fun h => by cases h), fun i s hs => ?_⟩
    obtain ⟨av, k1, k2⟩ := h2 i s hs
    have hc : ∀ k u, (stpL s av)[k]? = some u → W.cell? ⟨g, 0 + i * 10 + k, none⟩ = some u := fun k u hk => by
      have := h1.cells (g := g) (by rw [hv]; rfl) (i * 10 + k) u (k1 k u hk)
      rw [add_plain] at this
      rw [Nat.add_assoc]
      exact this
    exact ⟨g, 0, av, rfl, (fun f => f), ⟨hc 0 _ rfl, hc 1 _ rfl, hc 2 _ rfl, hc 3 _ rfl, hc 4 _ rfl, hc 5 _ rfl, hc 6 _ rfl, hc 7 _ rfl, hc 8 _ rfl, hc 9 _ rfl⟩, k2⟩
/-- Steps that are only read, cell by cell. -/
theorem stps_cells {W : World} {S : Nat → Prop} {g o c : Nat} {l : List Stp} (h : StpsAt W S (.slice (some ⟨g, o, none⟩) l.length c) l) : ∃ cs : List Value, cs.length = l.length * 10 ∧ (∀ j u, cs[j]? = some u → W.cell? ⟨g, o + j, none⟩ = some u) ∧ RelS W S cs l ∧ ∀ u ∈ cs, u.oneCell' = true := by
  obtain ⟨a, c', h1, -, -, -, h6⟩ := h
  obtain ⟨rfl, -, rfl⟩ := Value.slice.inj h1
  have key : ∀ m, m ≤ l.length → ∃ cs : List Value, cs.length = m * 10 ∧ (∀ j u, cs[j]? = some u → W.cell? ⟨g, o + j, none⟩ = some u) ∧ RelS W S cs (l.take m) ∧ ∀ u ∈ cs, u.oneCell' = true := by
    intro m
    induction m with
    | zero => intro _; exact ⟨[], rfl, fun j u hj => by simp at hj, fun i x hx => by simp at hx, fun u hu => by simp at hu⟩
    | succ m ih =>
      intro hm
      obtain ⟨cs, e1, e2, e3, e4⟩ := ih (by omega)
      have hml : m < l.length := by omega
      obtain ⟨g', o', av, k1, k2, k3, k4⟩ := h6 m l[m] (List.getElem?_eq_getElem hml)
      obtain ⟨rfl, rfl⟩ : g = g' ∧ o = o' := by simpa using k1
      obtain ⟨c0, c1, c2, c3, c4, c5, c6, c7, c8, c9⟩ := k3
      obtain ⟨aa, ac, hav, -⟩ := k4.form
      refine ⟨cs ++ stpL l[m] av, by rw [List.length_append, e1, stpL_len]; omega, fun j u hj => ?_, ?_, fun u hu => ?_⟩
      · rcases Nat.lt_or_ge j cs.length with hjl | hjl
        · rw [List.getElem?_append_left hjl] at hj
          exact e2 j u hj
        · rw [List.getElem?_append_right hjl] at hj
          obtain ⟨k, hk⟩ : ∃ k, k = j - cs.length := ⟨_, rfl⟩
          rw [← hk] at hj
          have hk10 : k < 10 := by
            have := (List.getElem?_eq_some_iff.1 hj).1
            rwa [stpL_len] at this
          have hjk : o + j = o + m * 10 + k := by omega
          rw [hjk]
          match k, hk10, hj with
          | 0, _, hj => cases hj; exact c0
          | 1, _, hj => cases hj; exact c1
          | 2, _, hj => cases hj; exact c2
          | 3, _, hj => cases hj; exact c3
          | 4, _, hj => cases hj; exact c4
          | 5, _, hj => cases hj; exact c5
          | 6, _, hj => cases hj; exact c6
          | 7, _, hj => cases hj; exact c7
          | 8, _, hj => cases hj; exact c8
          | 9, _, hj => cases hj; exact c9
      · rw [List.take_succ_eq_append_getElem hml]
        exact e3.grow (by rw [e1, List.length_take]; congr 1; omega) k4
      · rcases List.mem_append.1 hu with hu | hu
        · exact e4 u hu
        · rw [hav] at hu
          unfold stpL at hu
          simp only [List.mem_cons, List.not_mem_nil, or_false] at hu
          rcases hu with rfl | rfl | rfl | rfl | rfl | rfl | rfl | rfl | rfl | rfl <;> rfl
  have := key l.length (Nat.le_refl _)
  rwa [List.take_length] at this
theorem own_new (W : World) (e : TypeId) (size : Nat) (hs : 0 < size) : (W.alloc (.cells #[] e)).ownsRow W.heap.size e size (.slice (some ⟨W.heap.size, 0, none⟩) 0 0) 0 [] :=
  World.ownsRow_made (base := W.heap.size) (e := e) (size := size) W #[] 0 (Nat.le_refl _) (by decide) (by simp)
set_option maxRecDepth 100000 in
theorem clone_ints {W : World} {S : Nat → Prop} {v : Value} {l : List Int} (h : IntsAt W S v l) (hl : l.length ≤ 1000000) :
    Calls Tryd.prog 89 #[v] W fun e w => ∃ v', e = .returned v' ∧ w.ownsRow W.heap.size 3 1 v' l.length (l.map (.int .i64)) ∧ Mods None W w := by
  obtain ⟨a, c, rfl, hc1, hc2, hc3⟩ := h.form
  cases a with
  | none =>
    have h0 := hc3 rfl
    obtain rfl : l = [] := List.eq_nil_of_length_eq_zero h0
    have hq := fun w => Lib.run_eql_slice_nil (P := Tryd.prog) w 32 3 none 0 c 0 0 Tryd.underlying32
    clear h hl hc1 hc2 hc3 h0
    simp only [List.length_nil]
    go_enter Tryd.func89, Tryd.ntmps89
    go_wp2_with fail
    go_ret
    exact ⟨_, rfl, World.ownsRow_nil _ _ _ _, Mods.refl _ _⟩
  | some ad =>
    have hq := fun w => Lib.run_eql_slice_nil (P := Tryd.prog) w 32 3 (some ad) l.length c 0 0 Tryd.underlying32
    obtain ⟨i0, hi, hz0, hz1, hz2⟩ := info_parts int_info
    have HI := Lib.hid (And.intro hi (And.intro hz0 (And.intro hz1 hz2)))
    obtain ⟨W1, hW1⟩ : ∃ W1, W1 = W.alloc (.cells #[] 3) := ⟨_, rfl⟩
    have hm1 : Mods None W W1 := by rw [hW1]; exact (Mods.refl _ _).alloc _
    have HO1 := Lib.hid (show W1.ownsRow W.heap.size 3 1 (.slice (some ⟨W.heap.size, 0, none⟩) 0 0) 0 [] by rw [hW1]; exact own_new W 3 1 (by decide))
    have HS1 := Lib.hid hm1.size
    have HCS : Hid ((l.map (Value.int .i64)).length = l.length * 1 ∧ (∀ j u, (l.map (Value.int .i64))[j]? = some u → W1.cell? (ad.add j) = some u) ∧ ∀ u ∈ l.map (Value.int .i64), u.oneCell' = true) := Lib.hid (by
      refine ⟨by simp, fun j u hj => ?_, fun u hu => ?_⟩
      · rw [List.getElem?_map] at hj
        obtain ⟨x, hx, rfl⟩ := Option.map_eq_some_iff.1 hj
        obtain ⟨a', c', e1, -, -, -, e6⟩ := h
        obtain ⟨rfl, -, -⟩ := Value.slice.inj e1
        obtain ⟨g, o, k1, k2, k3⟩ := e6 j x hx
        cases k1
        rw [add_plain]
        exact hm1.cellOf k3 (fun f => f)
      · obtain ⟨x, -, rfl⟩ := List.mem_map.1 hu
        rfl)
    obtain ⟨cs, hcs⟩ : ∃ cs, cs = l.map (Value.int .i64) := ⟨_, rfl⟩
    have HM1 := Lib.hid hm1
    have HCE := Lib.hid hcs
    rw [← hcs] at HCS ⊢
    clear hcs
    obtain ⟨ln, hln⟩ : ∃ ln, ln = l.length := ⟨_, rfl⟩
    have HLN := Lib.hid hln
    have HLL := Lib.hid hl
    rw [← hln] at hq HCS
    rw [← hln]
    clear h hc1 hc2 hc3 hi hz0 hz1 hz2 hm1 hln hl
    go_enter Tryd.func89, Tryd.ntmps89
    go_wp2_with (at_builtin; rw [← hW1]; refine wpList_append_own_at _ rfl _ _ 32 rfl W.heap.size 3 i0 _ 1 8 Tryd.underlying32 HI.out.1 HI.out.2.1 HI.out.2.2.1 HI.out.2.2.2 rfl (by decide) (.slice (some ⟨W.heap.size, 0, none⟩) 0 0) 0 [] rfl HO1.out ad ln c cs rfl HCS.out.1 HCS.out.2.1 HCS.out.2.2 (by have := HLL.out; have := HLN.out; unfold maxLen; omega) (by have := HLL.out; have := HLN.out; omega) HS1.out ?_; intro v' w5 hown hgrow hnil hloc; have HOW := Lib.hid hown; have HGR := Lib.hid (And.intro hgrow hloc); clear hown hgrow hnil hloc)
    go_ret
    have hm : Mods None W w5 := HM1.out.trans' (Mods.of_grownBy (S := fun k => k = W.heap.size) HGR.out.1 (fun k hk _ => by simp only [Value.ownBlock, Option.some.injEq] at hk; exact hk.symm)) (fun k hk hl => by omega)
    have ho := HOW.out
    rw [Nat.zero_add, List.nil_append] at ho
    exact ⟨_, rfl, ho, hm⟩
set_option maxRecDepth 100000 in
theorem clone_steps {W : World} {S : Nat → Prop} {v : Value} {l : List Stp} (h : StpsAt W S v l) (hl : l.length ≤ 1000000) :
    Calls Tryd.prog 37 #[v] W fun e w => ∃ v', e = .returned v' ∧ OwnS w W.heap.size v' l ∧ Mods None W w := by
  obtain ⟨a, c, rfl, hc1, hc2, hc3⟩ := h.form
  cases a with
  | none =>
    have h0 := hc3 rfl
    obtain rfl : l = [] := List.eq_nil_of_length_eq_zero h0
    have hq := fun w => Lib.run_eql_slice_nil (P := Tryd.prog) w 33 44 none 0 c 0 0 Tryd.underlying33
    clear h hl hc1 hc2 hc3 h0
    simp only [List.length_nil]
    go_enter Tryd.func37, Tryd.ntmps37
    go_wp2_with fail
    go_ret
    exact ⟨_, rfl, OwnS.none_ _ _, Mods.refl _ _⟩
  | some ad =>
    have hq := fun w => Lib.run_eql_slice_nil (P := Tryd.prog) w 33 44 (some ad) l.length c 0 0 Tryd.underlying33
    obtain ⟨i0, hi, hz0, hz1, hz2⟩ := info_parts stp_info
    have HI := Lib.hid (And.intro hi (And.intro hz0 (And.intro hz1 hz2)))
    obtain ⟨W1, hW1⟩ : ∃ W1, W1 = W.alloc (.cells #[] 44) := ⟨_, rfl⟩
    have hm1 : Mods None W W1 := by rw [hW1]; exact (Mods.refl _ _).alloc _
    have HO1 := Lib.hid (show W1.ownsRow W.heap.size 44 10 (.slice (some ⟨W.heap.size, 0, none⟩) 0 0) 0 [] by rw [hW1]; exact own_new W 44 10 (by decide))
    have HS1 := Lib.hid hm1.size
    obtain ⟨cs, HCS, HREL⟩ : ∃ cs : List Value, Hid (cs.length = l.length * 10 ∧ (∀ j u, cs[j]? = some u → W1.cell? (ad.add j) = some u) ∧ ∀ u ∈ cs, u.oneCell' = true) ∧ Hid (RelS W1 (fun k => ¬ k < W.heap.size) cs l) := by
      by_cases h0 : l.length = 0
      · obtain rfl : l = [] := List.eq_nil_of_length_eq_zero h0
        exact ⟨[], Lib.hid ⟨rfl, fun j u hj => by simp at hj, fun u hu => by simp at hu⟩, Lib.hid (fun i x hx => by simp at hx)⟩
      · obtain ⟨g, o, _, rfl, -⟩ : ∃ g o av, ad = ⟨g, o, none⟩ ∧ av = av ∧ True := by
          obtain ⟨a', c', e1, -, -, -, e6⟩ := h
          obtain ⟨rfl, -, -⟩ := Value.slice.inj e1
          obtain ⟨g, o, av, k1, -⟩ := e6 0 l[0] (List.getElem?_eq_getElem (by omega))
          cases k1
          exact ⟨g, o, (0 : Nat), rfl, rfl, trivial⟩
        obtain ⟨cs, e1, e2, e3, e4⟩ := stps_cells h
        exact ⟨cs, Lib.hid ⟨e1, fun j u hj => by rw [add_plain]; exact hm1.cellOf (e2 j u hj) (fun f => f), e4⟩, Lib.hid (e3.mods (hm1.mono fun _ _ f => f.elim) (fun k h1 h2 => (h2 h1).elim))⟩
    have HM1 := Lib.hid hm1
    obtain ⟨ln, hln⟩ : ∃ ln, ln = l.length := ⟨_, rfl⟩
    have HLN := Lib.hid hln
    have HLL := Lib.hid hl
    rw [← hln] at hq HCS
    rw [← hln]
    clear h hc1 hc2 hc3 hi hz0 hz1 hz2 hm1 hln hl
    go_enter Tryd.func37, Tryd.ntmps37
    go_wp2_with (at_builtin; rw [← hW1]; refine wpList_append_own_at _ rfl _ _ 33 rfl W.heap.size 44 i0 _ 10 112 Tryd.underlying33 HI.out.1 HI.out.2.1 HI.out.2.2.1 HI.out.2.2.2 rfl (by decide) (.slice (some ⟨W.heap.size, 0, none⟩) 0 0) 0 [] rfl HO1.out ad ln c cs rfl HCS.out.1 HCS.out.2.1 HCS.out.2.2 (by have := HLL.out; have := HLN.out; unfold maxLen; omega) (by have := HLL.out; have := HLN.out; omega) HS1.out ?_; intro v' w5 hown hgrow hnil hloc; have HOW := Lib.hid hown; have HGR := Lib.hid (And.intro hgrow hloc); clear hown hgrow hnil hloc)
    go_ret
    have hm : Mods None W w5 := HM1.out.trans' (Mods.of_grownBy (S := fun k => k = W.heap.size) HGR.out.1 (fun k hk _ => by simp only [Value.ownBlock, Option.some.injEq] at hk; exact hk.symm)) (fun k hk hl => by omega)
    have ho := HOW.out
    rw [Nat.zero_add, List.nil_append] at ho
    refine ⟨_, rfl, ⟨cs, by rw [← HLN.out]; exact ho, ?_⟩, hm⟩
    exact HREL.out.mods (Mods.of_grownBy HGR.out.1 (fun k hk _ => by simp only [Value.ownBlock, Option.some.injEq] at hk; rw [← hk]; exact Nat.lt_irrefl _)) (fun _ _ f => f.elim)
end Go.Proofs.YtoajcbfejplfbaaDoor.MidP

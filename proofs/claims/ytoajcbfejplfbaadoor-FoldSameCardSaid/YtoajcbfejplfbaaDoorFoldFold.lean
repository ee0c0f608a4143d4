/- Fold: a program of fewer steps. Conditions: what is asked lies. -/
import Derived.Test.YtoajcbfejplfbaaDoorFoldReach
import Derived.Test.YtoajcbfejplfbaaDoorFoldAll
import Derived.Test.YtoajcbfejplfbaaDoorMidCode
import Derived.Test.YtoajcbfejplfbaaDoorStepApp
namespace Go.Proofs.YtoajcbfejplfbaaDoor.MidP
open Go.RowKit Go.Proofs.YtoajcbfejplfbaaDoor.Wo Go.Maps Go.Proofs.YtoajcbfejplfbaaDoor.TreeP
set_option linter.unusedVariables false
set_option linter.unusedSimpArgs false
/-- A function of a right program, with numbers that are numbers. -/
structure Fit (F : Fm) : Prop where
  ok : FmOk F
  good : ∃ L, Good L ∧ F ∈ L
  args : ∀ s ∈ F.steps, s.args.length ≤ 1000000
theorem Fit.right {F : Fm} (h : Fit F) : ∃ L, (∀ G ∈ L, FnR L G) ∧ F ∈ L := by
  obtain ⟨L, h1, h2⟩ := h.good
  exact ⟨L, h1.code.2.2.1, h2⟩
theorem Fit.lens {F : Fm} (h : Fit F) : F.steps.length ≤ 6000 ∧ F.types.length ≤ 3000 := by
  obtain ⟨L, h1, h2⟩ := h.right
  exact ⟨(h1 F h2).len, (h1 F h2).types⟩
theorem kind_in' {F : Fm} {p : Int} (h : 0 < kindP F p) : 0 ≤ p ∧ p < F.types.length := by
  unfold kindP at h
  split at h
  · omega
  · omega
theorem Fit.uses {F : Fm} (h : Fit F) : ∀ s ∈ F.steps, ∀ p ∈ usesP s, 0 ≤ p ∧ p < F.types.length := by
  obtain ⟨L, h1, h2⟩ := h.right
  intro x hx p hp
  obtain ⟨hrp, hcall, -, -⟩ := right_parts ((h1 F h2).steps x hx)
  refine kind_in' (F := F) (p := p) ?_
  unfold usesP at hp
  split at hp
  · obtain rfl : p = x.a := by simpa using hp
    by_cases e2 : x.code = 2
    · have := hrp.copy e2; omega
    · by_cases e10 : x.code = 10
      · have := hrp.aA (by omega); omega
      · have := hrp.a (by omega); omega
  split at hp
  · simp only [List.mem_cons, List.not_mem_nil, or_false] at hp
    rcases hp with rfl | rfl
    · by_cases e11 : x.code = 11
      · have := hrp.aA (by omega); omega
      · have := hrp.a (by omega); omega
    · have := hrp.b (by omega); omega
  split at hp
  · simp only [List.mem_cons, List.not_mem_nil, or_false] at hp
    rcases hp with rfl | rfl | rfl
    · have := hrp.aA (by omega); omega
    · have := hrp.b (by omega); omega
    · have := hrp.c (by omega); omega
  split at hp
  · rename_i e7
    obtain ⟨G, hG, hlen, hkd⟩ := hcall e7
    have h3 : kindP F p ∈ x.args.map (kindP F) := List.mem_map_of_mem hp
    rw [hkd] at h3
    have h4 := (h1 G (List.mem_of_find?_eq_some hG)).kinds _ (List.take_subset _ _ h3)
    omega
  · cases hp
theorem Fit.pures {F : Fm} (h : Fit F) : ∀ s ∈ F.steps, pureP s = true → 0 ≤ writesP s ∧ writesP s < F.types.length := by
  obtain ⟨L, h1, h2⟩ := h.right
  intro x hx hp
  obtain ⟨hrp, -, -, -⟩ := right_parts ((h1 F h2).steps x hx)
  obtain ⟨hw, hd, -⟩ := pure_goes (L := L) hrp hp [] [] ⟨[], 0, 0, [], []⟩
  rw [hw]
  exact kind_in' hd
theorem Fit.labels {F : Fm} (h : Fit F) : ∀ s ∈ F.steps, I64 s.label := fun s hs => (h.ok.steps s hs).nums.2.2.2.2.2.2
/-! Each pass keeps what fits. -/
theorem learn_64 {k : Kn} {t : Stp} (hn : ∀ p x, k.nums p = some x → I64 x) (hs : ∀ p x, k.same p = some x → I64 x) (h : StpOk t) : (∀ p x, (k.learn t).nums p = some x → I64 x) ∧ (∀ p x, (k.learn t).same p = some x → I64 x) := by
  have hf : (∀ p x, (k.forget (writesP t)).nums p = some x → I64 x) ∧ (∀ p x, (k.forget (writesP t)).same p = some x → I64 x) := by
    refine ⟨fun p x e => ?_, fun p x e => ?_⟩
    · unfold Kn.forget delO at e
      simp only at e
      split at e
      · cases e
      · exact hn p x e
    · unfold Kn.forget dropO delO at e
      simp only at e
      split at e
      · cases e
      split at e
      · cases e
      · exact hs p x e
  unfold Kn.learn
  split
  · exact ⟨hn, hs⟩
  split
  · refine ⟨fun p x e => ?_, hf.2⟩
    unfold setO at e
    simp only at e
    split at e
    · obtain rfl := Option.some.inj e
      exact h.nums.2.2.2.2.2.1
    · exact hf.1 p x e
  split
  · refine ⟨hf.1, fun p x e => ?_⟩
    unfold setO at e
    simp only at e
    split at e
    · obtain rfl := Option.some.inj e
      exact h.nums.2.2.1
    · exact hf.2 p x e
  · exact hf
theorem step_args {k : Kn} {s : Stp} : (k.step s).args.length ≤ s.args.length := by
  unfold Kn.step
  have hr : (k.reads s).args.length ≤ s.args.length := by unfold Kn.reads; simp
  rcases turn_cases (k.reads s) (k.nums (k.of s.a)) (k.nums (k.of s.b)) with ⟨a, h1, h2, h3⟩ | ⟨h1, h2, h3⟩ | ⟨a, b, h1, h2, h3, h4, h3⟩ | ⟨h1, h2, h3⟩ | ⟨h1, h2, h3⟩ | h3
  all_goals rw [h3]
  · exact Nat.zero_le _
  · exact Nat.zero_le _
  · exact Nat.zero_le _
  · exact Nat.zero_le _
  · exact Nat.zero_le _
  · exact hr
theorem known_okS : (l : List Stp) → ∀ (k : Kn), (∀ p x, k.nums p = some x → I64 x) → (∀ p x, k.same p = some x → I64 x) → (∀ s ∈ l, StpOk s ∧ s.args.length ≤ 1000000) → ∀ s ∈ knownS k l, StpOk s ∧ s.args.length ≤ 1000000
  | [], _, _, _, _, s, h => by cases h
  | x :: r, k, hn, hs, hl, s, h => by
    have hfr : (∀ p y, (freshK k x).nums p = some y → I64 y) ∧ (∀ p y, (freshK k x).same p = some y → I64 y) := by
      unfold freshK
      split
      · exact ⟨(fun p y e => by cases e), (fun p y e => by cases e)⟩
      · exact ⟨hn, hs⟩
    have hx := hl x List.mem_cons_self
    have ht := step_okS hfr.1 hfr.2 hx.1
    have hr := fun s hs => hl s (List.mem_cons_of_mem _ hs)
    rw [knownS] at h
    split at h
    · exact known_okS r _ hfr.1 hfr.2 hr s h
    · rcases List.mem_cons.1 h with rfl | h
      · exact ⟨ht, Nat.le_trans step_args hx.2⟩
      · have h6 := learn_64 hfr.1 hfr.2 ht
        exact known_okS r _ h6.1 h6.2 hr s h
theorem Fit.known {F : Fm} (h : Fit F) : Fit (knownF F) := by
  obtain ⟨L, h1, h2⟩ := h.good
  have hs := known_okS F.steps Kn.none (fun p y e => by cases e) (fun p y e => by cases e) (fun s hs => ⟨h.ok.steps s hs, h.args s hs⟩)
  exact ⟨⟨h.ok.name, h.ok.params, h.ok.types, fun s hs' => (hs s hs').1⟩, ⟨_, known_keeps.good L h1, List.mem_map_of_mem h2⟩, fun s hs' => (hs s hs').2⟩
theorem Fit.sub {F : Fm} {T : Fm → Fm} (hT : Keeps T) (hs : ∀ s ∈ (T F).steps, s ∈ F.steps) (h : Fit F) : Fit (T F) := by
  obtain ⟨L, h1, h2⟩ := h.good
  refine ⟨⟨by rw [hT.pass.name]; exact h.ok.name, by rw [hT.pass.params]; exact h.ok.params, by rw [hT.pass.types]; exact h.ok.types, fun s h' => h.ok.steps s (hs s h')⟩, ⟨_, hT.good L h1, List.mem_map_of_mem h2⟩, fun s h' => h.args s (hs s h')⟩
theorem Fit.dead {F : Fm} (h : Fit F) : Fit (deadF F) := h.sub dead_keeps (fun s hs => dead_mem F 0 F.steps s hs)
theorem Fit.reached {F : Fm} (h : Fit F) : Fit (reachedF F) := h.sub reached_keeps (fun s hs => reached_mem hs)
theorem Fit.one {F : Fm} (h : Fit F) : Fit (foldOne F) := by
  rw [foldOne]
  exact h.known.dead.reached
noncomputable def iterF : Nat → Fm → Fm
  | 0, F => F
  | n + 1, F => foldOne (iterF n F)
theorem Fit.iter {F : Fm} (h : Fit F) : ∀ n, Fit (iterF n F)
  | 0 => h
  | n + 1 => (Fit.iter h n).one
theorem iter_four (F : Fm) : iterF 4 F = foldF F := by rw [foldF]; rfl
/-! Functions that are collected. -/
def fmL (F : Fm) (tv sv : Value) : List Value := [str F.name, .int .i64 F.params, tv, sv]
def RelF (W : World) (S : Nat → Prop) (cs : List Value) (l : List Fm) : Prop := ∀ (i : Nat) (x : Fm), l[i]? = some x → ∃ tv sv, (∀ k u, (fmL x tv sv)[k]? = some u → cs[i * 4 + k]? = some u) ∧ IntsAt W S tv x.types ∧ StpsAt W S sv x.steps
theorem RelF.mods {W W' : World} {S T : Nat → Prop} {cs : List Value} {l : List Fm} (h : RelF W S cs l) (hm : Mods S W W') (hT : ∀ k, k < W.heap.size → T k → S k) : RelF W' T cs l := fun i x hx => by
  obtain ⟨tv, sv, h1, h2, h3⟩ := h i x hx
  exact ⟨tv, sv, h1, h2.mods hm hT, h3.mods hm hT⟩
theorem RelF.grow {W : World} {S : Nat → Prop} {cs : List Value} {l : List Fm} (h : RelF W S cs l) (hl : cs.length = l.length * 4) {x : Fm} {tv sv : Value} (hx : IntsAt W S tv x.types) (hx2 : StpsAt W S sv x.steps) : RelF W S (cs ++ fmL x tv sv) (l ++ [x]) := fun i y hy => by
  rcases Nat.lt_or_ge i l.length with hi | hi
  · rw [List.getElem?_append_left hi] at hy
    obtain ⟨bv, dv, h1, h2, h3⟩ := h i y hy
    refine ⟨bv, dv, fun k u hk => ?_, h2, h3⟩
    have hk10 : k < 4 := (List.getElem?_eq_some_iff.1 hk).1
    rw [List.getElem?_append_left (by omega)]
    exact h1 k u hk
  · rw [List.getElem?_append_right hi] at hy
    obtain ⟨hi2, hy⟩ := List.getElem?_eq_some_iff.1 hy
    simp only [List.length_singleton] at hi2
    obtain rfl : i = l.length := by omega
    simp only [Nat.sub_self, List.getElem_cons_zero] at hy
    subst hy
    refine ⟨tv, sv, fun k u hk => ?_, hx, hx2⟩
    rw [List.getElem?_append_right (by omega), show l.length * 4 + k - cs.length = k by omega]
    exact hk
/-- Functions in a row of their own, apart from q. -/
def OutF (W : World) (base q : Nat) (v : Value) (l : List Fm) : Prop := ∃ cs, W.ownsRow base 35 4 v l.length cs ∧ RelF W (fun k => k = q ∨ v.ownBlock = some k) cs l ∧ ∀ k, v.ownBlock = some k → k ≠ q
theorem OutF.none_ (W : World) (base q : Nat) : OutF W base q (.slice none 0 0) [] := ⟨[], World.ownsRow_nil _ _ _ _, (fun i x hx => by simp at hx), (fun k hk => by cases hk)⟩
theorem OutF.mods {W W' : World} {base q : Nat} {v : Value} {l : List Fm} (h : OutF W base q v l) (hm : Mods (· = q) W W') : OutF W' base q v l := by
  obtain ⟨cs, h1, h2, h3⟩ := h
  exact ⟨cs, hm.ownsRow h1 (fun k hk ht => h3 k hk ht), h2.mods (hm.mono fun k _ ht => Or.inl ht) (fun _ _ k => k), h3⟩
theorem OutF.form {W : World} {base q : Nat} {v : Value} {l : List Fm} (h : OutF W base q v l) : ∃ oa oc, v = .slice oa l.length oc := by
  obtain ⟨cs, h1, _⟩ := h
  exact slice_form h1
theorem OutF.lt {W : World} {base q : Nat} {v : Value} {l : List Fm} (h : OutF W base q v l) : ∀ k, v.ownBlock = some k → base ≤ k ∧ k < W.heap.size := by
  obtain ⟨cs, h1, _⟩ := h
  exact h1.lt
theorem OutF.at_ {W : World} {base q : Nat} {v : Value} {l : List Fm} (h : OutF W base q v l) : FmsAt W None v l := by
  obtain ⟨cs, h1, h2, -⟩ := h
  rcases h1.2 with ⟨hv, h0⟩ | ⟨g, cap, cur, hv, h3, h4, h5, h6, h7, h8⟩
  · obtain rfl : l = [] := List.eq_nil_of_length_eq_zero h0
    exact ⟨none, 0, hv, Nat.zero_le _, Nat.zero_le _, fun _ => rfl, fun i s hs => by simp at hs⟩
  · refine ⟨_, cap, hv, h5, h6, (fun h => by cases h), fun i s hs => ?_⟩
    obtain ⟨tv, sv, k1, k2, k3⟩ := h2 i s hs
    have hc : ∀ k u, (fmL s tv sv)[k]? = some u → W.cell? ⟨g, 0 + i * 4 + k, none⟩ = some u := fun k u hk => by
      have := h1.cells (g := g) (by rw [hv]; rfl) (i * 4 + k) u (k1 k u hk)
      rw [add_plain] at this
      rw [Nat.add_assoc]
      exact this
    exact ⟨g, 0, tv, sv, rfl, (fun f => f), hc 0 _ rfl, hc 1 _ rfl, hc 2 _ rfl, hc 3 _ rfl, k2.mods (Mods.refl _ _) (fun k _ f => f.elim), k3.mods (Mods.refl _ _) (fun k _ f => f.elim)⟩
theorem outF_grow {w4 w5 : World} {base q : Nat} {v v' : Value} {l : List Fm} {cs : List Value} {x : Fm} {tv sv : Value} (h1 : w4.ownsRow base 35 4 v l.length cs) (h2 : RelF w4 (fun k => k = q ∨ v.ownBlock = some k) cs l) (h3 : ∀ k, v.ownBlock = some k → k ≠ q) (hq : q < w4.heap.size) (hx : IntsAt w4 (fun k => k = q ∨ v.ownBlock = some k) tv x.types) (hx2 : StpsAt w4 (fun k => k = q ∨ v.ownBlock = some k) sv x.steps)
    (hown : w5.ownsRow base 35 4 v' (l.length + 1) (cs ++ fmL x tv sv)) (hg : w4.grownBy w5 v.ownBlock) (hloc : v'.ownBlock = v.ownBlock ∨ v'.ownBlock = some w4.heap.size) : OutF w5 base q v' (l ++ [x]) := by
  have hm : Mods (fun k => k = q ∨ v.ownBlock = some k) w4 w5 := (Mods.of_grownBy (S := fun k => v.ownBlock = some k) hg (fun k hk _ => hk)).mono fun k _ h => Or.inr h
  have hT : ∀ k, k < w4.heap.size → (k = q ∨ v'.ownBlock = some k) → (k = q ∨ v.ownBlock = some k) := fun k hk e => e.imp id (fun e => by
    rcases hloc with hl | hl
    · rw [← hl]; exact e
    · rw [hl] at e
      have := Option.some.inj e
      omega)
  refine ⟨cs ++ fmL x tv sv, by simpa using hown, ?_, fun k hk e => ?_⟩
  · exact (h2.mods hm hT).grow h1.1 (hx.mods hm hT) (hx2.mods hm hT)
  · rcases hloc with hl | hl
    · exact h3 k (by rw [← hl]; exact hk) e
    · rw [hl] at hk
      have := Option.some.inj hk
      omega
def zeroFnV : Value := .agg #[.string ⟨#[]⟩, .int .i64 0, .slice none 0 0, .slice none 0 0]
theorem fn_info : (Tryd.prog.info? 35).map (fun i => (i.zero, i.size, i.bytes)) = some (some zeroFnV, 4, 72) := by kernel_rfl
theorem fm_one (x : Fm) (ta sa : Option Addr) (tn tc sn sc : Nat) : ∀ u ∈ fmL x (.slice ta tn tc) (.slice sa sn sc), u.oneCell' = true := by
  intro u hu
  unfold fmL at hu
  simp only [List.mem_cons, List.not_mem_nil, or_false] at hu
  rcases hu with rfl | rfl | rfl | rfl <;> rfl
set_option maxRecDepth 100000 in
/-- A copy of steps, apart from S. -/
theorem clone_keep {W : World} {S : Nat → Prop} {v : Value} {l : List Stp} (h : StpsAt W S v l) (hS : ∀ k, S k → k < W.heap.size) (hl : l.length ≤ 1000000) :
    Calls Tryd.prog 37 #[v] W fun e w => ∃ v', e = .returned v' ∧ StpsAt w S v' l ∧ Mods None W w := by
  obtain ⟨a, c, rfl, hc1, hc2, hc3⟩ := h.form
  cases a with
  | none =>
    have h0 := hc3 rfl
    obtain rfl : l = [] := List.eq_nil_of_length_eq_zero h0
    have hq := fun w => Lib.run_eql_slice_nil (P := Tryd.prog) w 33 44 none 0 c 0 0 Tryd.underlying33
    clear h hl hc1 hc2 hc3 h0
    simp only [List.length_nil]
    go_enter Tryd.func37, Tryd.ntmps37
    go_wp2_with fail
    go_ret
    exact ⟨_, rfl, ⟨none, 0, rfl, Nat.zero_le _, Nat.zero_le _, fun _ => rfl, fun i s hs => by simp at hs⟩, Mods.refl _ _⟩
  | some ad =>
    have hq := fun w => Lib.run_eql_slice_nil (P := Tryd.prog) w 33 44 (some ad) l.length c 0 0 Tryd.underlying33
    obtain ⟨i0, hi, hz0, hz1, hz2⟩ := info_parts stp_info
    have HI := Lib.hid (And.intro hi (And.intro hz0 (And.intro hz1 hz2)))
    obtain ⟨W1, hW1⟩ : ∃ W1, W1 = W.alloc (.cells #[] 44) := ⟨_, rfl⟩
    have hm1 : Mods None W W1 := by rw [hW1]; exact (Mods.refl _ _).alloc _
    have HO1 := Lib.hid (show W1.ownsRow W.heap.size 44 10 (.slice (some ⟨W.heap.size, 0, none⟩) 0 0) 0 [] by rw [hW1]; exact own_new W 44 10 (by decide))
    have HS1 := Lib.hid hm1.size
    obtain ⟨cs, HCS, HREL⟩ : ∃ cs : List Value, Hid (cs.length = l.length * 10 ∧ (∀ j u, cs[j]? = some u → W1.cell? (ad.add j) = some u) ∧ ∀ u ∈ cs, u.oneCell' = true) ∧ Hid (RelS W1 (fun k => S k ∨ ¬ k < W.heap.size) cs l) := by
      by_cases h0 : l.length = 0
      · obtain rfl : l = [] := List.eq_nil_of_length_eq_zero h0
        exact ⟨[], Lib.hid ⟨rfl, fun j u hj => by simp at hj, fun u hu => by simp at hu⟩, Lib.hid (fun i x hx => by simp at hx)⟩
      · obtain ⟨g, o, _, rfl, -⟩ : ∃ g o av, ad = ⟨g, o, none⟩ ∧ av = av ∧ True := by
          obtain ⟨a', c', e1, -, -, -, e6⟩ := h
          obtain ⟨rfl, -, -⟩ := Value.slice.inj e1
          obtain ⟨g, o, av, k1, -⟩ := e6 0 l[0] (List.getElem?_eq_getElem (by omega))
          cases k1
          exact ⟨g, o, (0 : Nat), rfl, rfl, trivial⟩
        obtain ⟨cs, e1, e2, e3, e4⟩ := stps_cells h
        exact ⟨cs, Lib.hid ⟨e1, fun j u hj => by rw [add_plain]; exact hm1.cellOf (e2 j u hj) (fun f => f), e4⟩, Lib.hid (e3.mods (hm1.mono fun _ _ f => f.elim) (fun k h1 h2 => h2.elim id (fun h2 => (h2 h1).elim)))⟩
    have HM1 := Lib.hid hm1
    have HSS := Lib.hid hS
    obtain ⟨ln, hln⟩ : ∃ ln, ln = l.length := ⟨_, rfl⟩
    have HLN := Lib.hid hln
    have HLL := Lib.hid hl
    rw [← hln] at hq HCS
    rw [← hln]
    clear h hc1 hc2 hc3 hi hz0 hz1 hz2 hm1 hln hl hS
    go_enter Tryd.func37, Tryd.ntmps37
    go_wp2_with (at_builtin; rw [← hW1]; refine wpList_append_own_at _ rfl _ _ 33 rfl W.heap.size 44 i0 _ 10 112 Tryd.underlying33 HI.out.1 HI.out.2.1 HI.out.2.2.1 HI.out.2.2.2 rfl (by decide) (.slice (some ⟨W.heap.size, 0, none⟩) 0 0) 0 [] rfl HO1.out ad ln c cs rfl HCS.out.1 HCS.out.2.1 HCS.out.2.2 (by have := HLL.out; have := HLN.out; unfold maxLen; omega) (by have := HLL.out; have := HLN.out; omega) HS1.out ?_; intro v' w5 hown hgrow hnil hloc; have HOW := Lib.hid hown; have HGR := Lib.hid (And.intro hgrow hloc); clear hown hgrow hnil hloc)
    go_ret
    have hm : Mods None W w5 := HM1.out.trans' (Mods.of_grownBy (S := fun k => k = W.heap.size) HGR.out.1 (fun k hk _ => by simp only [Value.ownBlock, Option.some.injEq] at hk; exact hk.symm)) (fun k hk hl => by omega)
    have ho := HOW.out
    rw [Nat.zero_add, List.nil_append] at ho
    have hout : Outs w5 W.heap.size S v' l := by
      refine ⟨cs, by rw [← HLN.out]; exact ho, ?_, fun k hk hs => ?_⟩
      · refine HREL.out.mods (Mods.of_grownBy HGR.out.1 (fun k hk _ => by simp only [Value.ownBlock, Option.some.injEq] at hk; rw [← hk]; exact Or.inr (Nat.lt_irrefl _))) (fun k _ hk => hk.imp id (fun e => ?_))
        have := (ho.lt k e).1
        omega
      · have h1 := (ho.lt k hk).1
        have h2 := HSS.out k hs
        omega
    exact ⟨_, rfl, hout.at_, hm⟩
/-- Where Fold's loop stands. -/
structure FoSt (W : World) (L : List Fm) (ob i : Nat) (ov : Value) (wr : World) : Prop where
  blk : Blk wr ob [ov] 53
  outs : OutF wr W.heap.size ob ov ((L.take i).map foldF)
  far : W.heap.size ≤ ob
  mods : Mods None W wr
/-- A function in a block of its own. -/
def FnIn (w : World) (S : Nat → Prop) (fb : Nat) (G : Fm) : Prop := ∃ ta tc sa sc, FmV w S G (.agg (fmL G (.slice ta G.types.length tc) (.slice sa G.steps.length sc)).toArray) ∧ Blk w fb (fmL G (.slice ta G.types.length tc) (.slice sa G.steps.length sc)) 35
/-- Where the rounds over one function stand. -/
structure RdSt (w : World) (S : Nat → Prop) (fb : Nat) (F : Fm) (i : Nat) (wr : World) : Prop where
  fn : FnIn wr S fb (iterF i F)
  mods : Mods (· = fb) w wr
theorem fm_store {w : World} {S : Nat → Prop} {fb : Nat} {G : Fm} {a b c d : Value} {ta sa : Option Addr} {tc sc : Nat} (hv : FmV w S G (.agg (fmL G (.slice ta G.types.length tc) (.slice sa G.steps.length sc)).toArray)) (hb : Blk w fb [a, b, c, d] 35) (hS : S fb) :
    FnIn ((((w.setCell ⟨fb, 0, none⟩ (str G.name)).setCell ⟨fb, 1, none⟩ (.int .i64 G.params)).setCell ⟨fb, 2, none⟩ (.slice ta G.types.length tc)).setCell ⟨fb, 3, none⟩ (.slice sa G.steps.length sc)) S fb G ∧ Mods (· = fb) w ((((w.setCell ⟨fb, 0, none⟩ (str G.name)).setCell ⟨fb, 1, none⟩ (.int .i64 G.params)).setCell ⟨fb, 2, none⟩ (.slice ta G.types.length tc)).setCell ⟨fb, 3, none⟩ (.slice sa G.steps.length sc)) := by
  have hm : Mods (· = fb) w ((((w.setCell ⟨fb, 0, none⟩ (str G.name)).setCell ⟨fb, 1, none⟩ (.int .i64 G.params)).setCell ⟨fb, 2, none⟩ (.slice ta G.types.length tc)).setCell ⟨fb, 3, none⟩ (.slice sa G.steps.length sc)) := (((mods_set _ fb 0 _).trans (mods_set _ _ 1 _)).trans (mods_set _ _ 2 _)).trans (mods_set _ _ 3 _)
  exact ⟨⟨ta, tc, sa, sc, hv.mods (hm.mono fun k _ e => by rw [e]; exact hS) (fun _ _ k => k), (((hb.set 0 _).set 1 _).set 2 _).set 3 _⟩, hm⟩
set_option maxRecDepth 100000 in
set_option maxHeartbeats 8000000 in
theorem fold_any (L : List Fm) (cb : Nat) (lv : Value) (W : World) (hcb : W.cell? ⟨cb, 0, none⟩ = some lv) (hL : FmsAt W None lv L) (hok : ∀ f ∈ L, FmOk f) (hargs : ∀ f ∈ L, ∀ s ∈ f.steps, s.args.length ≤ 1000000) (hFo : FormsAt W) (hOp : OpsAt W) (R : Bool) (hR : R = codeB L) :
    Calls Tryd.prog 18 #[.pointer (some ⟨cb, 0, none⟩)] W fun e w => (R = false → e = .returned (.tuple #[.pointer none, .iface 56 (.int .i64 1)]) ∧ Mods None W w) ∧ (R = true → ∃ db dv, e = .returned (.tuple #[.pointer (some ⟨db, 0, none⟩), .nilIface]) ∧ w.cell? ⟨db, 0, none⟩ = some dv ∧ FmsAt w None dv (L.map foldF) ∧ Mods None W w ∧ W.heap.size ≤ db) := by
  have hrc := rightc_any L cb lv W hcb hL hFo hOp (fun f hf s hs => ((hok f hf).steps s hs).nums.2.2.2.2.2.2)
  rw [← hR] at hrc
  have HRC := Lib.hid hrc
  have HR := Lib.hid hR
  obtain ⟨la, lc, rfl, hlc, -⟩ := hL.form
  have HH := Lib.hid (And.intro hcb (And.intro hL (And.intro hok hargs)))
  obtain ⟨ln, hln⟩ : ∃ ln, ln = L.length := ⟨_, rfl⟩
  have HLN := Lib.hid hln
  clear hrc hR hcb hL hok hargs hFo hOp hlc hln
  go_enter Tryd.func18, Tryd.ntmps18
  go_wp2_with fail
  go_at_call 9
  refine HRC.out.mono ?_
  rintro e w1 ⟨rfl, hm1⟩
  have HM1 := Lib.hid hm1
  clear hm1 HRC
  cases R with
  | false =>
    go_wp2_with fail
    go_ret2
    exact ⟨rfl, HM1.out⟩
  | true =>
    have hcb := HM1.out.cellOf HH.out.1 (fun f => f)
    obtain ⟨W2, hW2⟩ : ∃ W2, W2 = w1.alloc (.cells #[.slice none 0 0] 53) := ⟨_, rfl⟩
    have hm2 : Mods None w1 W2 := by rw [hW2]; exact (Mods.refl _ _).alloc _
    have hb2 : Blk W2 w1.heap.size [.slice none 0 0] 53 := by rw [hW2]; exact Blk.new w1 _ _
    have HS0 : Hid (FoSt W L w1.heap.size 0 (.slice none 0 0) W2) := Lib.hid ⟨hb2, OutF.none_ _ _ _, HM1.out.size, HM1.out.trans hm2⟩
    have hcb2 := hm2.cellOf hcb (fun f => f)
    rw [← HLN.out] at hcb2
    clear hcb hm2 hb2
    obtain ⟨ob, hob⟩ : ∃ ob, ob = w1.heap.size := ⟨_, rfl⟩
    rw [← hob] at HS0
    go_upto_region 4 with (fail)
    rw [← hW2, ← hob]
    clear hW2 hob
    go_wp2_with fail
    go_loopw [18] (fun iv wr => ∃ (i : Nat) (ov : Value), i ≤ ln ∧ iv = .int .i64 (i : Int) ∧ Hid (FoSt W L ob i ov wr)) (fun iv _ => (ln - intOf iv).toNat)
    case atStart => exact ⟨0, _, Nat.zero_le _, rfl, HS0⟩
    case round =>
      clear HS0 hcb2
      obtain ⟨wx, rfl⟩ : ∃ wx : World, wx = wr := ⟨_, rfl⟩
      obtain ⟨i, ov, hi, rfl, HS⟩ := hrel
      by_cases hlt : i < ln
      · have hil : i < L.length := by rw [← HLN.out]; exact hlt
        obtain ⟨F, hFi⟩ : ∃ F, L[i]? = some F := ⟨_, List.getElem?_eq_getElem hil⟩
        have hFe : L[i] = F := (List.getElem?_eq_some_iff.1 hFi).2
        have hFm : F ∈ L := List.mem_of_getElem? hFi
        obtain ⟨gs, os, ta, tc, sa, sc, hoe, y0, y1, y2, y3, hty, hst⟩ := HH.out.2.1.get hil
        subst hoe
        rw [hFe] at y0 y1 y2 y3 hty hst
        have hmx := HS.out.mods
        have y0 := hmx.cellOf y0 (fun f => f)
        have y1 := hmx.cellOf y1 (fun f => f)
        have y2 := hmx.cellOf y2 (fun f => f)
        have y3 := hmx.cellOf y3 (fun f => f)
        have hgood : Good L := ⟨HR.out.symm, fun G hG x hx => (HH.out.2.2.1 G hG).steps x hx |>.nums.2.2.2.2.2.1⟩
        have hfit : Fit F := ⟨HH.out.2.2.1 F hFm, ⟨L, hgood, hFm⟩, HH.out.2.2.2 F hFm⟩
        have hpi : (i : Int) < (ln : Int) := by omega
        have hln12 : ln ≤ 12 := by rw [HLN.out]; exact hgood.code.1
        have hi12 : i < 12 := by omega
        obtain ⟨tn, htn⟩ : ∃ tn, tn = F.types.length := ⟨_, rfl⟩
        obtain ⟨sn, hsn⟩ : ∃ sn, sn = F.steps.length := ⟨_, rfl⟩
        rw [← htn] at y2
        rw [← hsn] at y3
        obtain ⟨W6, hW6⟩ : ∃ W6, W6 = wx.alloc (.cells (fmL F (.slice ta tn tc) (.slice sa sn sc)).toArray 35) := ⟨_, rfl⟩
        have hm6 : Mods None wx W6 := by rw [hW6]; exact (Mods.refl _ _).alloc _
        have hb6 : Blk W6 wx.heap.size (fmL F (.slice ta tn tc) (.slice sa sn sc)) 35 := by rw [hW6]; exact Blk.new wx _ _
        have hs6 : W6.heap.size = wx.heap.size + 1 := by rw [hW6]; simp
        obtain ⟨fb, hfb⟩ : ∃ fb, fb = wx.heap.size := ⟨_, rfl⟩
        rw [← hfb] at hb6
        have HX := Lib.hid (And.intro hFi (And.intro hfit (And.intro hfb (And.intro hm6 hs6))))
        have HB6 := Lib.hid hb6
        have hSlt : ∀ k, (ov.ownBlock = some k ∨ k = ob ∨ k = fb) → k < W6.heap.size := fun k hk => by
          rcases hk with hk | hk | hk
          · have := (HS.out.outs.lt k hk).2; omega
          · have := HS.out.blk.lt; omega
          · omega
        have hSlo : ∀ k, (ov.ownBlock = some k ∨ k = ob ∨ k = fb) → W.heap.size ≤ k := fun k hk => by
          rcases hk with hk | hk | hk
          · exact (HS.out.outs.lt k hk).1
          · rw [hk]; exact HS.out.far
          · have := hmx.size; omega
        have hst6 := hst.mods (T := fun k => ov.ownBlock = some k ∨ k = ob ∨ k = fb) (hmx.trans hm6) (fun k h1 h2 => by have := hSlo k h2; omega)
        have hty6 := hty.mods (T := fun k => ov.ownBlock = some k ∨ k = ob ∨ k = fb) (hmx.trans hm6) (fun k h1 h2 => by have := hSlo k h2; omega)
        have HCL := Lib.hid (clone_keep hst6 hSlt (by have := hfit.lens; omega))
        have HT6 := Lib.hid (And.intro hty6 (And.intro hSlt (And.intro htn hsn)))
        rw [← hsn] at HCL
        clear hFi hFe hFm hty hst hmx hgood hfit hm6 hb6 hs6 hst6 hty6 hSlt hSlo htn hsn hil hln12
        unfold fmL str at *
        go_upto_region 7 with (fail)
        rw [← hW6, ← hfb]
        clear hW6 hfb y0 y1 y2 y3
        have c3 := HB6.out.cell (i := 3) rfl
        have f3 := HB6.out.free 3
        go_wp2_with fail
        go_at_call 37
        refine HCL.out.mono ?_
        rintro e w7 ⟨v7, rfl, hst7, hm7⟩
        obtain ⟨va, vc, rfl, -⟩ := hst7.form
        rw [← HT6.out.2.2.2] at hst7 ⊢
        have HB7 := Lib.hid (HB6.out.mods hm7 (fun f => f))
        have HM7 := Lib.hid hm7
        have HV7 := Lib.hid hst7
        have c3 := HB7.out.cell (i := 3) rfl
        have f3 := HB7.out.free 3
        clear hst7 hm7 HCL
        go_upto_region 8 with (fail)
        obtain ⟨W8, hW8⟩ : ∃ W8, W8 = w7.setCell ⟨fb, 3, none⟩ (.slice va sn vc) := ⟨_, rfl⟩
        have HM8 : Hid (Mods (· = fb) w7 W8) := Lib.hid (by rw [hW8]; exact mods_set _ _ _ _)
        have HR8 : Hid (RdSt W8 (fun k => ov.ownBlock = some k ∨ k = ob ∨ k = fb) fb F 0 W8) := Lib.hid (by
          have hb := HB7.out.set 3 (.slice va sn vc)
          rw [← hW8] at hb
          have hm : Mods (fun k => ov.ownBlock = some k ∨ k = ob ∨ k = fb) w7 W8 := HM8.out.mono fun k _ e => Or.inr (Or.inr e)
          have ht := (HT6.out.1.mods (T := fun k => ov.ownBlock = some k ∨ k = ob ∨ k = fb) (HM7.out.mono fun _ _ f => f.elim) (fun _ _ k => k)).mods hm (fun _ _ k => k)
          have hs := HV7.out.mods hm (T := fun k => ov.ownBlock = some k ∨ k = ob ∨ k = fb) (fun _ _ k => k)
          rw [HT6.out.2.2.2] at hs hb
          rw [HT6.out.2.2.1] at hb
          exact ⟨⟨ta, tc, va, vc, ⟨ta, tc, va, vc, rfl, ht, hs⟩, hb⟩, Mods.refl _ _⟩)
        rw [← hW8]
        clear hW8 c3 f3
        go_wp2_with fail
        go_loopw [26] (fun iv wr => ∃ n : Nat, n ≤ 4 ∧ iv = .int .i64 (n : Int) ∧ Hid (RdSt W8 (fun k => ov.ownBlock = some k ∨ k = ob ∨ k = fb) fb F n wr)) (fun iv _ => (4 - intOf iv).toNat)
        case atStart => exact ⟨0, by omega, rfl, HR8⟩
        case round =>
          clear HR8
          obtain ⟨wy, rfl⟩ : ∃ wy : World, wy = wr := ⟨_, rfl⟩
          obtain ⟨n, hn, rfl, HR8⟩ := hrel
          obtain ⟨ta, tc, sa, sc, hgv, hgb⟩ := HR8.out.fn
          have hfit := HX.out.2.1.iter n
          have HFT := Lib.hid hfit
          have HGB := Lib.hid hgb
          have HGV := Lib.hid hgv
          have HITE : Hid (foldOne (iterF n F) = iterF (n + 1) F) := Lib.hid rfl
          have hlast : Hid (n = 4 → iterF n F = foldF F) := Lib.hid (fun e => by rw [e, iter_four])
          obtain ⟨G, hG⟩ : ∃ G, G = iterF n F := ⟨_, rfl⟩
          rw [← hG] at HFT HGB HGV HITE hlast hgb
          have c0 := hgb.cell (i := 0) rfl
          have c1 := hgb.cell (i := 1) rfl
          have c2 := hgb.cell (i := 2) rfl
          have c3 := hgb.cell (i := 3) rfl
          have hSy : ∀ k, (ov.ownBlock = some k ∨ k = ob ∨ k = fb) → k < wy.heap.size := fun k hk => by
            have h1 := HT6.out.2.1 k hk
            have h2 := HM7.out.size
            have h3 := HM8.out.size
            have h4 := HR8.out.mods.size
            omega
          have HSY := Lib.hid hSy
          clear hgv hgb hfit hG hSy
          by_cases h4 : n < 4
          · have hp4 : (n : Int) < 4 := by omega
            have HKN := Lib.hid (known_any HGV.out HSY.out HFT.out.ok HFT.out.lens.1 HFT.out.args)
            unfold fmL str at *
            go_wp2_with fail
            go_at_call 40
            refine HKN.out.mono ?_
            rintro e w10 ⟨v10, rfl, hv10, hm10⟩
            have HV10 := Lib.hid hv10
            have HM10 := Lib.hid hm10
            have HDD := Lib.hid (dead_any hv10 (fun k hk => Nat.lt_of_lt_of_le (HSY.out k hk) hm10.size) HFT.out.known.ok HFT.out.known.labels HFT.out.known.lens.1 HFT.out.known.lens.2 HFT.out.known.args HFT.out.known.uses HFT.out.known.pures)
            clear hv10 hm10 HKN c0 c1 c2 c3
            go_wp2_with fail
            go_at_call 39
            refine HDD.out.mono ?_
            rintro e w11 ⟨v11, rfl, hv11, hm11⟩
            have HM11 := Lib.hid (HM10.out.trans hm11)
            have HRE := Lib.hid (reached_any hv11 (fun k hk => Nat.lt_of_lt_of_le (HSY.out k hk) HM11.out.size) HFT.out.known.dead.labels HFT.out.known.dead.lens.1)
            clear hv11 hm11 HDD HM10 HV10
            go_wp2_with fail
            go_at_call 38
            refine HRE.out.mono ?_
            rintro e w12 ⟨v12, rfl, hv12, hm12⟩
            have HM12 := Lib.hid (HM11.out.trans hm12)
            have hone : reachedF (deadF (knownF G)) = foldOne G := by rw [foldOne]
            rw [hone, HITE.out] at hv12
            obtain ⟨G2, hG2⟩ : ∃ G2, G2 = iterF (n + 1) F := ⟨_, rfl⟩
            rw [← hG2] at hv12
            have HG2 := Lib.hid hG2
            obtain ⟨pa, pc, qa, qc, rfl, hp1, hp2⟩ := hv12
            have HV12 : Hid (FmV w12 (fun k => ov.ownBlock = some k ∨ k = ob ∨ k = fb) G2 (.agg (fmL G2 (.slice pa G2.types.length pc) (.slice qa G2.steps.length qc)).toArray)) := Lib.hid ⟨pa, pc, qa, qc, rfl, hp1, hp2⟩
            have HB12 := Lib.hid (HGB.out.mods HM12.out (fun f => f))
            obtain ⟨m1, hm1⟩ : ∃ m1, m1 = G2.types.length := ⟨_, rfl⟩
            obtain ⟨m2, hm2⟩ : ∃ m2, m2 = G2.steps.length := ⟨_, rfl⟩
            rw [← hm1, ← hm2]
            have HMM := Lib.hid (And.intro hm1 hm2)
            have c0 := HB12.out.cell (i := 0) rfl
            have c1 := HB12.out.cell (i := 1) rfl
            have c2 := HB12.out.cell (i := 2) rfl
            have c3 := HB12.out.cell (i := 3) rfl
            have f0 := HB12.out.free 0
            have f1 := HB12.out.free 1
            have f2 := HB12.out.free 2
            have f3 := HB12.out.free 3
            clear hp1 hp2 hm1 hm2 hG2 hm12 HRE HM11 hone
            unfold str
            go_wp2_with fail
            refine ⟨⟨n + 1, by omega, by go_num, Lib.hid ?_⟩, by simp [intOf]; omega⟩
            obtain ⟨k1, k2⟩ := fm_store HV12.out HB12.out (Or.inr (Or.inr rfl))
            unfold str at k1 k2
            rw [← HMM.out.1, ← HMM.out.2] at k1 k2
            exact ⟨by rw [← HG2.out]; exact k1, (HR8.out.mods.trans (HM12.out.mono fun _ _ f => f.elim)).trans k2⟩
          · obtain rfl : n = 4 := by omega
            have hGf : G = foldF F := hlast.out rfl
            have hNy : Mods None wx wy := ((HX.out.2.2.2.1.trans HM7.out).trans' HM8.out (fun k e hk => by have := HX.out.2.2.1; omega)).trans' HR8.out.mods (fun k e hk => by have := HX.out.2.2.1; omega)
            have hout := HS.out.outs.mods (hNy.mono fun _ _ f => f.elim)
            have hblk := HS.out.blk.mods hNy (fun f => f)
            obtain ⟨oa, oc, hov⟩ := hout.form
            have hlen : ((L.take i).map foldF).length = i := by rw [List.length_map, List.length_take]; have := HLN.out; omega
            rw [hlen] at hov
            have HOUT := Lib.hid hout
            have HBK := Lib.hid hblk
            have HNY := Lib.hid hNy
            have HGF := Lib.hid hGf
            have HLE := Lib.hid hlen
            have HFAR := Lib.hid HS.out.far
            have HMX := Lib.hid HS.out.mods
            clear hout hblk hNy hGf hlen hlast HITE
            have hn4 : ¬ ((4 : Int) < 4) := by omega
            obtain ⟨i0, hi0, hz0, hz1, hz2⟩ := info_parts fn_info
            have HI := Lib.hid (And.intro hi0 (And.intro hz0 (And.intro hz1 hz2)))
            obtain ⟨cs, hcs1, hcs2, hcs3⟩ := HOUT.out
            rw [HLE.out] at hcs1
            obtain ⟨m1, hm1⟩ : ∃ m1, m1 = G.types.length := ⟨_, rfl⟩
            obtain ⟨m2, hm2⟩ : ∃ m2, m2 = G.steps.length := ⟨_, rfl⟩
            rw [← hm1] at c2
            rw [← hm2] at c3
            have HMM := Lib.hid (And.intro hm1 hm2)
            have HCS := Lib.hid (And.intro hcs1 hcs2)
            have HOB := Lib.hid hcs3
            have HCL2 := Lib.hid hcs1.lt
            subst hov
            have b0 := HBK.out.cell (i := 0) rfl
            have z0 := HBK.out.free 0
            have hnew := Lib.hid (row_new wy (fmL G (.slice ta m1 tc) (.slice sa m2 sc)) 35)
            have hone := Lib.hid (fm_one G ta sa m1 tc m2 sc)
            have HMA : Hid (Mods None wy ((wy.alloc (.cells (fmL G (.slice ta m1 tc) (.slice sa m2 sc)).toArray 35)).drew)) := Lib.hid ((Mods.refl _ _).alloc _).drew
            have HOA := Lib.hid (HMA.out.ownsRow hcs1 (fun k hk f => f))
            have HBA := Lib.hid (HBK.out.mods HMA.out (fun f => f))
            have HBS : Hid (W.heap.size ≤ ((wy.alloc (.cells (fmL G (.slice ta m1 tc) (.slice sa m2 sc)).toArray 35)).drew).heap.size) := Lib.hid (by have h1 := HMX.out.size; have h2 := HNY.out.size; have h5 := HMA.out.size; omega)
            clear hcs1 hcs2 hcs3 hm1 hm2 hi0 hz0 hz1 hz2
            unfold fmL str at hnew hone HMA HOA HBA HBS
            unfold str at c0
            have b0a : (wy.alloc (.cells #[.string ⟨G.name.toArray⟩, .int .i64 G.params, .slice ta m1 tc, .slice sa m2 sc] 35)).drew.cell? ⟨ob, 0, none⟩ = some (.slice oa i oc) := HBA.out.cell (i := 0) rfl
            go_wp2_with fail
            go_region_law (refine step_append_at rfl (.tmp 37) (.tmp 39) 22 rfl W.heap.size 35 i0 _ 4 72 Tryd.underlying22 HI.out.1 HI.out.2.1 HI.out.2.2.1 HI.out.2.2.2 rfl (by decide) (.slice oa i oc) i cs (by simp [Act.eval, Act.put]) HOA.out ⟨wy.heap.size, 0, none⟩ 1 1 [.string ⟨G.name.toArray⟩, .int .i64 G.params, .slice ta m1 tc, .slice sa m2 sc] (by simp [Act.eval, Act.put]) rfl hnew.out hone.out (by unfold maxLen; omega) (by omega) HBS.out ?_; intro v' w11 hown hgrow hloc; have HOW := Lib.hid hown; have HGR := Lib.hid (And.intro hgrow hloc); have HB11 := Lib.hid (HBA.out.mods (Mods.of_grownBy (S := fun k => (Value.slice oa i oc).ownBlock = some k) hgrow (fun k hk _ => hk)) (fun e => HOB.out ob e rfl)); have b1 := HB11.out.cell (i := 0) rfl; have z1 := HB11.out.free 0; clear hown hgrow hloc; obtain ⟨qa, qc, rfl⟩ := slice_form HOW.out)
            all_goals
              go_wp2_with fail
              refine ⟨⟨i + 1, .slice qa (i + 1) qc, by omega, by go_num, Lib.hid ?_⟩, by simp [intOf]; omega⟩
              have hms : Mods (· = ob) w11 (w11.setCell ⟨ob, 0, none⟩ (.slice qa (i + 1) qc)) := mods_set _ _ _ _
              have hmo : Mods (fun k => (Value.slice oa i oc).ownBlock = some k) (wy.alloc (.cells #[.string ⟨G.name.toArray⟩, .int .i64 G.params, .slice ta m1 tc, .slice sa m2 sc] 35)).drew w11 := Mods.of_grownBy HGR.out.1 (fun k hk _ => hk)
              have hWA : Mods None W (wy.alloc (.cells #[.string ⟨G.name.toArray⟩, .int .i64 G.params, .slice ta m1 tc, .slice sa m2 sc] 35)).drew := (HMX.out.trans HNY.out).trans HMA.out
              have htk : (L.take (i + 1)).map foldF = (L.take i).map foldF ++ [G] := by
                rw [List.take_add_one, HX.out.1, List.map_append, HGF.out]
                rfl
              have hsub : ∀ k, (k = ob ∨ (Value.slice oa i oc).ownBlock = some k) → ((Value.slice oa i oc).ownBlock = some k ∨ k = ob ∨ k = fb) := fun k hk => hk.elim (fun h => Or.inr (Or.inl h)) Or.inl
              obtain ⟨ta', tc', sa', sc', hve, hty, hst⟩ := HGV.out
              have hve2 : Value.slice ta G.types.length tc = Value.slice ta' G.types.length tc' ∧ Value.slice sa G.steps.length sc = Value.slice sa' G.steps.length sc' := by
                unfold fmL at hve
                injection hve with hve
                simpa using hve
              rw [← hve2.1] at hty
              rw [← hve2.2] at hst
              rw [← HMM.out.1] at hty
              rw [← HMM.out.2] at hst
              have hty2 := hty.mods (T := fun k => k = ob ∨ (Value.slice oa i oc).ownBlock = some k) (HMA.out.mono fun _ _ f => f.elim) (fun k _ hk => hsub k hk)
              have hst2 := hst.mods (T := fun k => k = ob ∨ (Value.slice oa i oc).ownBlock = some k) (HMA.out.mono fun _ _ f => f.elim) (fun k _ hk => hsub k hk)
              have hgr := outF_grow (x := G) (by rw [HLE.out]; exact HOA.out) (HCS.out.2.mods (HMA.out.mono fun _ _ f => f.elim) (fun _ _ k => k)) HOB.out HBA.out.lt hty2 hst2 (by rw [HLE.out]; exact HOW.out) HGR.out.1 HGR.out.2
              refine ⟨HB11.out.set 0 _, ?_, HFAR.out, ?_⟩
              · rw [htk]
                exact hgr.mods hms
              · exact (hWA.trans' hmo (fun k hk hl => by have := (HCL2.out k hk).1; omega)).trans' hms (fun k hk hl => by have := HFAR.out; omega)
      · obtain rfl : i = ln := by omega
        have hpi : ¬ (i : Int) < (i : Int) := by omega
        have hall : (L.take i).map foldF = L.map foldF := by rw [List.take_of_length_le (by rw [← HLN.out]; exact Nat.le_refl _)]
        have b0 := HS.out.blk.cell (i := 0) rfl
        have HO := HS.out.outs.at_
        rw [hall] at HO
        have HOO := Lib.hid HO
        have HB0 := Lib.hid b0
        clear hall HO b0
        go_wp2_with fail
        go_ret2
        exact ⟨ob, rfl, ov, HB0.out, HOO.out, HS.out.mods, HS.out.far⟩
end Go.Proofs.YtoajcbfejplfbaaDoor.MidP

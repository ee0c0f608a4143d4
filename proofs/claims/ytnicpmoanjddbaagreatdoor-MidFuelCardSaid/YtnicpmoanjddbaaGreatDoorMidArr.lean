/- Arrays, what is told, what is taken: mid's runner. Printed by mkmarr.py. Conditions: what it has lies. -/
import Derived.Test.YtnicpmoanjddbaaGreatDoorMidPl
import Derived.Deep.Cut
namespace Go.Proofs.YtnicpmoanjddbaaGreatDoor.MidP
open Go.RowKit Go.Proofs.YtnicpmoanjddbaaGreatDoor.Wo Go.Maps Go.Proofs.YtnicpmoanjddbaaGreatDoor.TreeP
set_option linter.unusedVariables false
set_option linter.unusedSimpArgs false
structure Grew (W W' : World) (v v' : Value) : Prop where
  mods : Mods (fun k => v.ownBlock = some k) W W'
  loc : v'.ownBlock = v.ownBlock ∨ v'.ownBlock = some W.heap.size
theorem grew_of {W W' : World} {v v' : Value} (hg : W.grownBy W' v.ownBlock) (hl : v'.ownBlock = v.ownBlock ∨ v'.ownBlock = some W.heap.size) : Grew W W' v v' :=
  ⟨Mods.of_grownBy hg (fun k hk _ => hk), hl⟩
theorem one_new (W : World) (v : Value) (e : TypeId) : ∀ j u, [v][j]? = some u → (W.alloc (.cells #[v] e)).cell? ((⟨W.heap.size, 0, none⟩ : Addr).add j) = some u := by
  intro j u hj
  cases j with
  | zero => exact (Blk.new W #[v] e).cell (i := 0) (v := u) hj
  | succ j => simp at hj
theorem keep_blk {W w : World} {T M M' : Nat → Prop} {g : Nat} {cs : List Value} {t : TypeId} (h : Blk W g cs t) (hE : Ext T M M' W w) (hn : ¬ M g) (hT : ¬ T g) : Blk w g cs t ∧ ¬ M' g := ⟨h.mods hE.mods (fun k => k.elim hT hn), fun hm => hn (hE.back g h.lt hm)⟩
theorem VAt.num {A : List (Nat × Nat)} {x : V} {v : Value} (h : VAt A x v) : ∃ av, v = .agg #[.int .i64 x.n, av] := by
  rcases h with ⟨_, rfl⟩ | ⟨i, g, n, _, _, rfl⟩
  · exact ⟨_, rfl⟩
  · exact ⟨_, rfl⟩
theorem Ext.new {T M0 M S : Nat → Prop} {W0 W W' : World} (h : Ext T M0 M W0 W) (hm : Mods S W W') (hS : ∀ k, k < W0.heap.size → ¬ S k) : Ext T M0 M W0 W' :=
  ⟨h.mods.trans' hm (fun k hs hk => (hS k hk hs).elim), h.back⟩
theorem Ext.transNew {T M M' M'' : Nat → Prop} {W W' W'' : World} (h : Ext None M M' W W') (k : Ext T M' M'' W' W'') (hT : ∀ i, i < W.heap.size → ¬ T i) : Ext None M M'' W W'' :=
  ⟨h.mods.trans' k.mods (fun i hi hl => hi.elim (fun ht => (hT i hl ht).elim) (fun hm => Or.inr (h.back i hl hm))), fun i hi hm => h.back i hi (k.back i (Nat.lt_of_lt_of_le hi h.mods.size) hm)⟩
theorem RAt.newArr {w : World} {b mb : Nat} {L : List Fm} {P M : Nat → Prop} {A : List (Nat × Nat)} {s : RS} (h : RAt w b mb L P M A s) (n : Nat) (hn : n ≤ 40) :
    RAt (w.alloc (.cells ((List.replicate n (0 : Int)).map (Value.int .i64)).toArray 2)) b mb L P (fun k => M k ∨ k = w.heap.size) (A ++ [(w.heap.size, n)]) { s with arrs := s.arrs ++ [List.replicate n 0] } ∧ Ext None M (fun k => M k ∨ k = w.heap.size) w (w.alloc (.cells ((List.replicate n (0 : Int)).map (Value.int .i64)).toArray 2)) := by
  have hm : Mods None w (w.alloc (.cells ((List.replicate n (0 : Int)).map (Value.int .i64)).toArray 2)) := (Mods.refl _ _).alloc _
  have hsz : (w.alloc (.cells ((List.replicate n (0 : Int)).map (Value.int .i64)).toArray 2)).heap.size = w.heap.size + 1 := by simp
  have h' := h.quiet hm
  have ho := h.old
  have hg := h.given
  refine ⟨⟨?_, Or.inl h'.has, h'.fns, ?_, ?_, ?_, ?_, ?_, ?_, h'.given, h'.few, h'.calls, h'.fuel⟩, ⟨hm.mono fun _ _ f => f.elim, ?_⟩⟩
  · obtain ⟨iv, ov, h1, h2, h3, h4⟩ := h'.blk
    refine ⟨iv, ov, h1, h2, h3, fun k hk => ⟨Or.inl (h4 k hk).1, (h4 k hk).2.1, ?_⟩⟩
    intro g m hgm
    rcases List.mem_append.1 hgm with hgm | hgm
    · exact (h4 k hk).2.2 g m hgm
    · simp only [List.mem_singleton, Prod.mk.injEq] at hgm
      have := ho k (h4 k hk).1
      omega
  · simp [h.arrs]
  · intro i l hl
    rcases Nat.lt_or_ge i s.arrs.length with hi | hi
    · have hl2 : s.arrs[i]? = some l := by simpa [List.getElem?_append_left hi] using hl
      obtain ⟨g, e1, e2, e3⟩ := h'.arr i l hl2
      exact ⟨g, by rw [List.getElem?_append_left (by rw [h.arrs]; exact hi)]; exact e1, e2, e3⟩
    · simp only [List.getElem?_append_right hi] at hl
      obtain ⟨hi2, hl⟩ := List.getElem?_eq_some_iff.1 hl
      simp only [List.length_singleton] at hi2
      obtain rfl : i = s.arrs.length := by omega
      simp only [Nat.sub_self, List.getElem_cons_zero] at hl
      subst hl
      refine ⟨w.heap.size, ?_, Blk.new w _ _, by simpa using hn⟩
      rw [List.getElem?_append_right (by rw [h.arrs]; exact Nat.le_refl _)]
      simp [h.arrs]
  · intro g m hgm
    rcases List.mem_append.1 hgm with hgm | hgm
    · exact ⟨Or.inl (h.mine g m hgm).1, (h.mine g m hgm).2⟩
    · simp only [List.mem_singleton, Prod.mk.injEq] at hgm
      have := ho b h.has
      exact ⟨Or.inr hgm.1, by omega⟩
  · refine List.pairwise_append.2 ⟨h.apart, List.pairwise_singleton _ _, ?_⟩
    intro x hx y hy
    simp only [List.mem_singleton] at hy
    subst hy
    have := ho x.1 (h.mine x.1 x.2 hx).1
    show x.1 ≠ w.heap.size
    omega
  · intro k hk
    rw [hsz]
    rcases hk with hk | hk
    · have := ho k hk
      omega
    · omega
  · intro k hk hp
    rcases hk with hk | hk
    · exact h.off k hk hp
    · have := hg k hp
      omega
  · intro k hk hm
    rcases hm with hm | hm
    · exact hm
    · omega
theorem RAt.taken {W : World} {b mb : Nat} {L : List Fm} {P M : Nat → Prop} {A : List (Nat × Nat)} {s : RS} (h : RAt W b mb L P M A s) (r : List Int) (iv : Value) (hi : InAt W (fun k => ¬ P k) iv r) : RAt (W.setCell ⟨b, 1, none⟩ iv) b mb L P M A { s with inp := r } :=
  h.own (mods_put _ _ _ _) rfl rfl h.calls h.fuel (fun iv' ov h1 h2 => ⟨iv, h1.set 1 _, hi⟩)
theorem VAt.len {w : World} {b mb : Nat} {L : List Fm} {P M : Nat → Prop} {A : List (Nat × Nat)} {s : RS} {x : V} {v : Value} (h : VAt A x v) (hR : RAt w b mb L P M A s) : ∃ k a n, v = .agg #[.int .i64 k, .slice a n n] ∧ ((arrOf s x).length : Int) = (n : Int) ∧ n ≤ 40 := by
  rcases h with ⟨h1, rfl⟩ | ⟨i, g, n, h1, h2, rfl⟩
  · exact ⟨_, _, _, rfl, by simp [arrOf, h1], by omega⟩
  · obtain ⟨hi, hi2⟩ := List.getElem?_eq_some_iff.1 h2
    have hl : s.arrs[i]? = some (s.arrs[i]'(by rw [← hR.arrs]; exact hi)) := List.getElem?_eq_getElem _
    obtain ⟨g', e1, e2, e3⟩ := hR.arr i _ hl
    rw [h2] at e1
    simp only [Option.some.injEq, Prod.mk.injEq] at e1
    obtain ⟨rfl, rfl⟩ := e1
    refine ⟨_, _, _, rfl, ?_, e3⟩
    simp only [arrOf, h1, List.getD_eq_getElem?_getD, hl, Option.getD_some]
theorem RAt.row {w : World} {b mb : Nat} {L : List Fm} {P M : Nat → Prop} {A : List (Nat × Nat)} {s : RS} {i g n : Nat} (hR : RAt w b mb L P M A s) (h2 : A[i]? = some (g, n)) : ∃ l, s.arrs[i]? = some l ∧ n = l.length ∧ Blk w g (l.map (Value.int .i64)) 2 ∧ l.length ≤ 40 := by
  obtain ⟨hi, hi2⟩ := List.getElem?_eq_some_iff.1 h2
  have hl : s.arrs[i]? = some (s.arrs[i]'(by rw [← hR.arrs]; exact hi)) := List.getElem?_eq_getElem _
  obtain ⟨g', e1, e2, e3⟩ := hR.arr i _ hl
  rw [h2] at e1
  simp only [Option.some.injEq, Prod.mk.injEq] at e1
  obtain ⟨rfl, rfl⟩ := e1
  exact ⟨_, hl, rfl, e2, e3⟩
theorem no_way {G : Prop} (P : Program) (w : World) (h : G) (_k : wpAny P .any #[] (fun _ _ _ => True) 0 #[] { tmps := #[], defers := [] } w) : G := h
theorem infoInt : (Tryz.prog.info? 2).map (fun i => (i.zero, i.size, i.bytes)) = some (some (.int .i64 0), 1, 8) := by kernel_rfl
theorem run_make_row1 {P : Program} (t e : TypeId) (i : TypeInfo) (z : Value) (ht : P.underlying t = some (.slice e)) (hi : P.info? e = some i) (hz : i.zero = some z)
    (kl kc : IntKind) (n : Nat) (hbytes : i.bytes * n ≤ 281474976710656) (h63 : n ≤ 9223372036854775807) (w : World) :
    (Instr.makeSlice t (.int kl (n : Int)) (.int kc (n : Int))).run P w = .ok (.slice (some ⟨w.heap.size, 0, none⟩) n n) (w.alloc (.cells (madeCells z.cells (n * i.size)) e)) := by
  have hb : (i.bytes : Int) * (n : Int) ≤ 281474976710656 := by
    have h : ((i.bytes * n : Nat) : Int) ≤ 281474976710656 := by omega
    rwa [Int.natCast_mul] at h
  have hr := run_make (P := P) w t e i z ht hi hz kl kc n n (by omega) (by omega) hb (by omega)
  simp only [Int.toNat_natCast] at hr
  exact hr
theorem made_row (n : Nat) : madeCells (Value.int .i64 0).cells (n * 1) = ((List.replicate n (0 : Int)).map (Value.int .i64)).toArray := by
  apply Array.ext
  · simp [madeCells]
  · intro i h1 h2
    simp [madeCells, Value.cells, Nat.mod_one]
theorem RAt.told {w6 w7 : World} {b mb : Nat} {L : List Fm} {P M : Nat → Prop} {A : List (Nat × Nat)} {s : RS} (h : RAt w6 b mb L P M A s) {ov v' : Value} (hov : w6.cell? ⟨b, 4, none⟩ = some ov) (k : Int) (hn : s.out.length < 200) (hown : w7.ownsRow 0 2 1 v' (s.out.length + 1) (s.out.map (Value.int .i64) ++ [.int .i64 k])) (hg : Grew w6 w7 ov v') :
    RAt (w7.setCell ⟨b, 4, none⟩ v') b mb L P (fun k => M k ∨ v'.ownBlock = some k) A { s with out := s.out ++ [k] } ∧ Ext None M (fun k => M k ∨ v'.ownBlock = some k) w6 (w7.setCell ⟨b, 4, none⟩ v') := by
  obtain ⟨⟨iv, ov2, h1, h2, h3, h4⟩, h5, ⟨h7, n, F, h6, h8⟩, h9, h10, h11, h12, h13, h17, h18, h14, h15, h16⟩ := h
  obtain rfl : ov2 = ov := by
    have := h1.cell (i := 4) (v := ov2) rfl
    rw [hov] at this
    exact (Option.some.inj this).symm
  have hm7 : Mods (fun k => ov2.ownBlock = some k) w6 w7 := hg.mods
  have hm8 : Mods (· = b) w7 (w7.setCell ⟨b, 4, none⟩ v') := mods_put _ _ _ _
  have hb6 : b < w6.heap.size := h13 b h5
  have hm68 : Mods (fun k => ov2.ownBlock = some k ∨ k = b) w6 (w7.setCell ⟨b, 4, none⟩ v') := (hm7.mono fun _ _ hk => Or.inl hk).trans (hm8.mono fun _ _ hk => Or.inr hk)
  have hMP : ∀ k, (ov2.ownBlock = some k ∨ k = b) → M k := fun k hk => hk.elim (fun e => (h4 k e).1) (fun e => by rw [e]; exact h5)
  have hm68P : Mods (fun k => ¬ P k) w6 (w7.setCell ⟨b, 4, none⟩ v') := hm68.mono fun k _ hk => h17 k (hMP k hk)
  have hloc : ∀ k, v'.ownBlock = some k → ov2.ownBlock = some k ∨ k = w6.heap.size := fun k hk => by
    rcases hg.loc with e | e
    · exact Or.inl (by rw [← e]; exact hk)
    · rw [e] at hk
      exact Or.inr (Option.some.inj hk).symm
  have hne : ∀ k, v'.ownBlock = some k → k ≠ b := fun k hk => by
    rcases hloc k hk with e | e
    · exact (h4 k e).2.1
    · omega
  have hAk : ∀ k, v'.ownBlock = some k → ∀ g n, (g, n) ∈ A → g ≠ k := fun k hk g m hgm => by
    rcases hloc k hk with e | e
    · exact (h4 k e).2.2 g m hgm
    · have := h13 g (h11 g m hgm).1
      omega
  have hb7 : Blk w7 b [.map (some mb), iv, .int .i64 s.fuel, .int .i64 s.calls, ov2] 62 := h1.mods hm7 (fun e => (h4 b e).2.1 rfl)
  refine ⟨⟨⟨iv, v', hb7.set 4 v', h2.mods hm68P (fun _ _ k => k), ?_, fun k hk => ⟨Or.inr hk, hne k hk, hAk k hk⟩⟩, Or.inl h5, ⟨h7, n, F, h6.mods hm68 (fun e => h17 mb (hMP mb e) h7), fun f x hx => (h8 f x hx).mods hm68P (fun _ _ k => k)⟩, h9, ?_, fun g m hgm => ⟨Or.inl (h11 g m hgm).1, (h11 g m hgm).2⟩, h12, ?_, ?_, fun k hk => Nat.lt_of_lt_of_le (h18 k hk) hm68.size, ?_, h15, h16⟩, ?_⟩
  · have := hm8.ownsRow hown (fun k hk => hne k hk)
    simpa using this
  · intro i l hl
    obtain ⟨g, e1, e2, e3⟩ := h10 i l hl
    refine ⟨g, e1, e2.mods hm68 ?_, e3⟩
    rintro (e | e)
    · exact (h4 g e).2.2 g _ (List.mem_of_getElem? e1) rfl
    · exact (h11 g _ (List.mem_of_getElem? e1)).2 e
  · intro k hk
    have hsz : (w7.setCell ⟨b, 4, none⟩ v').heap.size = w7.heap.size := by simp [World.setCell]
    rw [hsz]
    rcases hk with hk | hk
    · exact Nat.lt_of_lt_of_le (h13 k hk) hm7.size
    · exact (hown.lt k hk).2
  · rintro k (hk | hk) hp
    · exact h17 k hk hp
    · rcases hloc k hk with e | e
      · exact h17 k (h4 k e).1 hp
      · have := h18 k hp
        omega
  · simp only [List.length_append, List.length_singleton]
    omega
  · refine ⟨hm68.mono fun k _ hk => Or.inr (hMP k hk), fun k hk hm => ?_⟩
    rcases hm with hm | hm
    · exact hm
    · rcases hloc k hm with e | e
      · exact (h4 k e).1
      · omega
theorem RAt.outAt {w6 w7 : World} {b mb : Nat} {L : List Fm} {P M : Nat → Prop} {A : List (Nat × Nat)} {s : RS} (h : RAt w6 b mb L P M A s) {ov v' : Value} (hov : w6.cell? ⟨b, 4, none⟩ = some ov) (hg : Grew w6 w7 ov v') : w7.cell? ⟨b, 4, none⟩ = some ov ∧ w7.frozen? ⟨b, 4, none⟩ = false := by
  obtain ⟨iv, ov2, h1, h2, h3, h4⟩ := h.blk
  obtain rfl : ov2 = ov := by
    have := h1.cell (i := 4) (v := ov2) rfl
    rw [hov] at this
    exact (Option.some.inj this).symm
  have hb7 : Blk w7 b [.map (some mb), iv, .int .i64 s.fuel, .int .i64 s.calls, ov2] 62 := h1.mods hg.mods (fun e => (h4 b e).2.1 rfl)
  exact ⟨hb7.cell rfl, hb7.free 4⟩
theorem RAt.setArr {w : World} {b mb : Nat} {L : List Fm} {P M : Nat → Prop} {A : List (Nat × Nat)} {s : RS} (h : RAt w b mb L P M A s) {i g : Nat} {l : List Int} (h2 : A[i]? = some (g, l.length)) (hl : s.arrs[i]? = some l) (j : Nat) (x : Int) :
    RAt (w.setCell ⟨g, j, none⟩ (.int .i64 x)) b mb L P M A { s with arrs := s.arrs.set i (l.set j x) } ∧ Ext None M M w (w.setCell ⟨g, j, none⟩ (.int .i64 x)) := by
  obtain ⟨⟨iv, ov, h1, h2', h3, h4⟩, h5, ⟨h7, n, F, h6, h8⟩, h9, h10, h11, h12, h13, h17, h18, h14, h15, h16⟩ := h
  have hm : Mods (· = g) w (w.setCell ⟨g, j, none⟩ (.int .i64 x)) := mods_put _ _ _ _
  have hgm := List.mem_of_getElem? h2
  have hMg := (h11 g _ hgm).1
  have hmP : Mods (fun k => ¬ P k) w (w.setCell ⟨g, j, none⟩ (.int .i64 x)) := hm.mono fun k _ e => by rw [e]; exact h17 g hMg
  refine ⟨⟨⟨iv, ov, h1.mods hm (fun e => (h11 g _ hgm).2 e.symm), h2'.mods hmP (fun _ _ k => k), hm.ownsRow h3 (fun k hk e => (h4 k hk).2.2 g _ hgm e.symm), h4⟩, h5, ⟨h7, n, F, h6.mods hm (fun e => h17 g hMg (e ▸ h7)), fun f y hy => (h8 f y hy).mods hmP (fun _ _ k => k)⟩, by simpa using h9, ?_, h11, h12, fun k hk => Nat.lt_of_lt_of_le (h13 k hk) hm.size, h17, fun k hk => Nat.lt_of_lt_of_le (h18 k hk) hm.size, h14, h15, h16⟩, ⟨hm.mono fun k _ e => Or.inr (by rw [e]; exact hMg), fun _ _ k => k⟩⟩
  intro i2 l2 hl2
  by_cases hi : i2 = i
  · subst hi
    have hlt : i2 < s.arrs.length := (List.getElem?_eq_some_iff.1 hl).1
    rw [List.getElem?_set_self hlt] at hl2
    obtain rfl := Option.some.inj hl2
    obtain ⟨g', e1, e2, e3⟩ := h10 i2 l hl
    rw [h2] at e1
    simp only [Option.some.injEq, Prod.mk.injEq, and_true] at e1
    subst e1
    refine ⟨g, by simpa using h2, ?_, by simpa using e3⟩
    have := e2.set j (.int .i64 x)
    rw [List.map_set]
    exact this
  · rw [List.getElem?_set_ne (fun e => hi e.symm)] at hl2
    obtain ⟨g', e1, e2, e3⟩ := h10 i2 l2 hl2
    refine ⟨g', e1, e2.mods hm ?_, e3⟩
    intro e
    subst e
    have ha := List.getElem?_eq_some_iff.1 e1
    have hb := List.getElem?_eq_some_iff.1 h2
    have hp := List.pairwise_iff_getElem.1 h12
    rcases Nat.lt_or_gt_of_ne hi with hlt | hlt
    · have := hp i2 i ha.1 hb.1 hlt
      rw [ha.2, hb.2] at this
      exact this rfl
    · have := hp i i2 hb.1 ha.1 hlt
      rw [ha.2, hb.2] at this
      exact this rfl
end Go.Proofs.YtnicpmoanjddbaaGreatDoor.MidP

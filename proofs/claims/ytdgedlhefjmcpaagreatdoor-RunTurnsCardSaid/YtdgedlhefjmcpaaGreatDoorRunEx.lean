/- What the runner makes of an expression: the ends. Conditions: what it has lies. -/
import Derived.Test.YtdgedlhefjmcpaaGreatDoorRunBind
import Derived.Deep.Cut
namespace Go.Proofs.YtdgedlhefjmcpaaGreatDoor.TreeP
open Go.RowKit Go.Proofs.YtdgedlhefjmcpaaGreatDoor.Wo
set_option linter.unusedVariables false
set_option linter.unusedSimpArgs false
theorem Ext.new {T M0 M S : Nat → Prop} {W0 W W' : World} (h : Ext T M0 M W0 W) (hm : Mods S W W') (hS : ∀ k, k < W0.heap.size → ¬ S k) : Ext T M0 M W0 W' :=
  ⟨h.mods.trans' hm (fun k hs hk => (hS k hk hs).elim), h.back⟩
/-- What an expression's walk has of its own. -/
structure Bx (W0 w : World) (P M : Nat → Prop) (b fm q : Nat) : Prop where
  c3 : Blk w q [.pointer (some ⟨b, 0, none⟩)] 102
  c4 : Blk w (q + 1) [.map (some fm)] 156
  c6 : Blk w (q + 1 + 1) [.int .i64 0, .slice none 0 0] 158
  nm : ∀ k, q ≤ k → k ≤ q + 1 + 1 → ¬ M k ∧ ¬ P k
  at_ : W0.heap.size ≤ q
theorem Bx.step {W0 w w' : World} {P M M' : Nat → Prop} {b fm q : Nat} (h : Bx W0 w P M b fm q) (hE : Ext None M M' w w') : Bx W0 w' P M' b fm q := by
  have hl := h.c6.lt
  refine ⟨(keep_blk h.c3 hE (h.nm q (by omega) (by omega)).1 (fun f => f)).1, (keep_blk h.c4 hE (h.nm (q + 1) (by omega) (by omega)).1 (fun f => f)).1, (keep_blk h.c6 hE (h.nm (q + 1 + 1) (by omega) (by omega)).1 (fun f => f)).1, fun k h1 h2 => ⟨fun hm => (h.nm k h1 h2).1 (hE.back k (by omega) hm), (h.nm k h1 h2).2⟩, h.at_⟩
theorem Bx.new {W : World} {b mb : Nat} {L : List Fn} {P M : Nat → Prop} {A : List (Nat × Nat)} {s : RS} (fm : Nat) (h : RAt W b mb L P M A s) :
    Bx W (((W.alloc (.cells #[.pointer (some ⟨b, 0, none⟩)] 102)).alloc (.cells #[.map (some fm)] 156)).alloc (.cells #[.int .i64 0, .slice none 0 0] 158)) P M b fm W.heap.size := by
  have e1 : (W.alloc (.cells #[.pointer (some ⟨b, 0, none⟩)] 102)).heap.size = W.heap.size + 1 := by simp
  have e2 : ((W.alloc (.cells #[.pointer (some ⟨b, 0, none⟩)] 102)).alloc (.cells #[.map (some fm)] 156)).heap.size = W.heap.size + 1 + 1 := by simp
  refine ⟨?_, ?_, ?_, fun k h1 _ => ⟨fun hm => absurd (h.old k hm) (by omega), fun hp => absurd (h.given k hp) (by omega)⟩, Nat.le_refl _⟩
  · exact (((Blk.new W _ _).mods ((Mods.refl None _).alloc _) (fun f => f)).mods ((Mods.refl None _).alloc _) (fun f => f))
  · have := (Blk.new (W.alloc (.cells #[.pointer (some ⟨b, 0, none⟩)] 102)) #[.map (some fm)] 156).mods ((Mods.refl None _).alloc (.cells #[.int .i64 0, .slice none 0 0] 158)) (fun f => f)
    rw [e1] at this
    exact this
  · have := Blk.new ((W.alloc (.cells #[.pointer (some ⟨b, 0, none⟩)] 102)).alloc (.cells #[.map (some fm)] 156)) #[.int .i64 0, .slice none 0 0] 158
    rw [e2] at this
    exact this
/-- A new array. -/
theorem RAt.newArr {w : World} {b mb : Nat} {L : List Fn} {P M : Nat → Prop} {A : List (Nat × Nat)} {s : RS} (h : RAt w b mb L P M A s) (n : Nat) (hn : n ≤ 40) :
    RAt (w.alloc (.cells ((List.replicate n (0 : Int)).map (Value.int .i64)).toArray 2)) b mb L P (fun k => M k ∨ k = w.heap.size) (A ++ [(w.heap.size, n)]) { s with arrs := s.arrs ++ [List.replicate n 0] } ∧ Ext None M (fun k => M k ∨ k = w.heap.size) w (w.alloc (.cells ((List.replicate n (0 : Int)).map (Value.int .i64)).toArray 2)) := by
  have hm : Mods None w (w.alloc (.cells ((List.replicate n (0 : Int)).map (Value.int .i64)).toArray 2)) := (Mods.refl _ _).alloc _
  have hsz : (w.alloc (.cells ((List.replicate n (0 : Int)).map (Value.int .i64)).toArray 2)).heap.size = w.heap.size + 1 := by simp
  have h' := h.quiet hm
  have ho := h.old
  have hg := h.given
  refine ⟨⟨?_, Or.inl h'.has, h'.fns, ?_, ?_, ?_, ?_, ?_, ?_, h'.given, h'.few, h'.calls, h'.fuel⟩, ⟨hm.mono fun _ _ f => f.elim, ?_⟩⟩
  · obtain ⟨iv, ov, h1, h2, h3, h4⟩ := h'.blk
    refine ⟨iv, ov, h1, h2, h3, fun k hk => ⟨Or.inl (h4 k hk).1, (h4 k hk).2.1, ?_⟩⟩
    intro g m hgm
    rcases List.mem_append.1 hgm with hgm | hgm
    · exact (h4 k hk).2.2 g m hgm
    · simp only [List.mem_singleton, Prod.mk.injEq] at hgm
      have := ho k (h4 k hk).1
      omega
  · simp [h.arrs]
  · intro i l hl
    rcases Nat.lt_or_ge i s.arrs.length with hi | hi
    · have hl2 : s.arrs[i]? = some l := by simpa [List.getElem?_append_left hi] using hl
      obtain ⟨g, e1, e2, e3⟩ := h'.arr i l hl2
      exact ⟨g, by rw [List.getElem?_append_left (by rw [h.arrs]; exact hi)]; exact e1, e2, e3⟩
    · simp only [List.getElem?_append_right hi] at hl
      obtain ⟨hi2, hl⟩ := List.getElem?_eq_some_iff.1 hl
      simp only [List.length_singleton] at hi2
      obtain rfl : i = s.arrs.length := by omega
      simp only [Nat.sub_self, List.getElem_cons_zero] at hl
      subst hl
      refine ⟨w.heap.size, ?_, Blk.new w _ _, by simpa using hn⟩
      rw [List.getElem?_append_right (by rw [h.arrs]; exact Nat.le_refl _)]
      simp [h.arrs]
  · intro g m hgm
    rcases List.mem_append.1 hgm with hgm | hgm
    · exact ⟨Or.inl (h.mine g m hgm).1, (h.mine g m hgm).2⟩
    · simp only [List.mem_singleton, Prod.mk.injEq] at hgm
      have := ho b h.has
      exact ⟨Or.inr hgm.1, by omega⟩
  · refine List.pairwise_append.2 ⟨h.apart, List.pairwise_singleton _ _, ?_⟩
    intro x hx y hy
    simp only [List.mem_singleton] at hy
    subst hy
    have := ho x.1 (h.mine x.1 x.2 hx).1
    show x.1 ≠ w.heap.size
    omega
  · intro k hk
    rw [hsz]
    rcases hk with hk | hk
    · have := ho k hk
      omega
    · omega
  · intro k hk hp
    rcases hk with hk | hk
    · exact h.off k hk hp
    · have := hg k hp
      omega
  · intro k hk hm
    rcases hm with hm | hm
    · exact hm
    · omega
/-- A number that was given is taken. -/
theorem RAt.taken {W : World} {b mb : Nat} {L : List Fn} {P M : Nat → Prop} {A : List (Nat × Nat)} {s : RS} (h : RAt W b mb L P M A s) (r : List Int) (iv : Value) (hi : InAt W (fun k => ¬ P k) iv r) : RAt (W.setCell ⟨b, 1, none⟩ iv) b mb L P M A { s with inp := r } :=
  h.own (mods_put _ _ _ _) rfl rfl h.calls h.fuel (fun iv' ov h1 h2 => ⟨iv, h1.set 1 _, hi⟩)
/-- The end: the value is stored, and read. -/
theorem Bx.end_ {W0 W : World} {P M M' : Nat → Prop} {A A' : List (Nat × Nat)} {b mb fm q : Nat} {L : List Fn} {s : RS} {x : V} {u v : Value} (hB : Bx W0 W P M' b fm q) (hR : RAt W b mb L P M' A' s) (hE : Ext None M M' W0 W) (hA : A <+: A') (hv : VAt A' x (.agg #[u, v])) :
    Ran W0 b mb L P None M A retV (.ok x, s) (.returned (.agg #[u, v])) ((W.setCell ⟨q + 1 + 1, 0, none⟩ u).setCell ⟨q + 1 + 1, 1, none⟩ v) := by
  have hm : Mods (· = q + 1 + 1) W ((W.setCell ⟨q + 1 + 1, 0, none⟩ u).setCell ⟨q + 1 + 1, 1, none⟩ v) := (mods_put _ _ _ _).trans (mods_put _ _ _ _)
  have hat := hB.at_
  exact ⟨M', A', ⟨_, rfl, hv⟩, hR.aside hm (fun k hk => by rw [hk]; exact hB.nm _ (by omega) (by omega)), hE.new hm (fun k h1 h2 => by omega), hA⟩
/-- The end of the walk: the value has been stored. -/
theorem Bx.ret {fn : Func} {W0 W w : World} {P M M' : Nat → Prop} {A A' : List (Nat × Nat)} {a : Act} {b mb fm q : Nat} {L : List Fn} {s : RS} {x : V} {u v : Value} (hB : Bx W0 W P M' b fm q) (hR : RAt W b mb L P M' A' s) (hE : Ext None M M' W0 W) (hA : A <+: A') (hv : VAt A' x (.agg #[u, v]))
    (hfn : fn.results = #[.cell 6 158]) (hp : a.tmps.getD 6 undef = .pointer (some ⟨q + 1 + 1, 0, none⟩)) (hd : a.defers = []) (hw : w = (W.setCell ⟨q + 1 + 1, 0, none⟩ u).setCell ⟨q + 1 + 1, 1, none⟩ v) :
    bodyPost Tryz.prog fn (Ran W0 b mb L P None M A retV (.ok x, s)) .ret a w := by
  subst hw
  have h6 := (hB.c6.set 0 u).set 1 v
  exact bodyPost_ret (results_cell_row hfn a.tmps _ _ _ #[u, v] _ _ hp h6 Tryz.underlying158 rfl (by kernel_rfl)) hd (hB.end_ hR hE hA hv)
set_option maxRecDepth 100000 in
set_option maxHeartbeats 400000 in
theorem ev_num {L : List Fn} {f : Nat} (a k : Int) (b mb : Nat) (P M : Nat → Prop) (A : List (Nat × Nat)) (s : RS) (fm : Nat) (W : World) (v : Value) (h : RAt W b mb L P M A s) (he : ExAt W (fun k => ¬ P k) (.num a k) v) :
    Calls Tryz.prog 139 #[.pointer (some ⟨b, 0, none⟩), .map (some fm), v] W (Ran W b mb L P None M A retV (.ok (numV k), s)) := by
  simp only [ExAt] at he
  obtain ⟨g, rfl, hg, hv⟩ := he
  have hmf : ∀ (fn : Go.Fn) (first cap : Array Value) (w : World), (Instr.makeFunc fn first cap).run Tryz.prog w = .ok (.func fn first cap) w := fun _ _ _ _ => rfl
  obtain ⟨W3, hW3⟩ : ∃ W3, W3 = ((W.alloc (.cells #[.pointer (some ⟨b, 0, none⟩)] 102)).alloc (.cells #[.map (some fm)] 156)).alloc (.cells #[.int .i64 0, .slice none 0 0] 158) := ⟨_, rfl⟩
  have HM : Hid (Mods None W W3) := Lib.hid (by rw [hW3]; exact (((Mods.refl _ _).alloc _).alloc _).alloc _)
  have HB : Hid (Bx W W3 P M b fm W.heap.size) := Lib.hid (by rw [hW3]; exact Bx.new fm h)
  have H := Lib.hid (h.quiet HM.out)
  have d0 : W3.cell? ⟨g, 0, none⟩ = some (.int .i64 1) := HM.out.cellOf (hv.cell rfl) (fun f => f)
  have d2 : W3.cell? ⟨g, 2, none⟩ = some (.int .i64 k) := HM.out.cellOf (hv.cell rfl) (fun f => f)
  have hl := hv.lt
  have r0 := HB.out.c6.cell (i := 0) rfl
  have r1 := HB.out.c6.cell (i := 1) rfl
  have z0 := HB.out.c6.free 0
  have z1 := HB.out.c6.free 1
  clear h hv hg
  go_enter Tryz.func139, Tryz.ntmps139
  go_upto_region 2 with (fail)
  rw [← hW3]
  clear hW3
  go_wp2_with fail
  exact HB.out.ret H.out (Ext.quiet HM.out) (List.prefix_refl _) (Or.inl ⟨rfl, rfl⟩) rfl rfl rfl rfl
end Go.Proofs.YtdgedlhefjmcpaaGreatDoor.TreeP

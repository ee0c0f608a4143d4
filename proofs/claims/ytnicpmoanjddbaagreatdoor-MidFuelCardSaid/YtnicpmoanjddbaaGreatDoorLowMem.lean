/- What mid's lower has, as it lies. Conditions: what is asked lies. Steps out of programs: a place, a step, both, a label. Conditions: what lower has lies. -/
import Derived.Test.YtnicpmoanjddbaaGreatDoorLowP
import Derived.Test.YtnicpmoanjddbaaGreatDoorOutF
import Derived.Test.YtnicpmoanjddbaaGreatDoorMidArr
import Derived.Test.YtnicpmoanjddbaaGreatDoorStepApp
namespace Go.Proofs.YtnicpmoanjddbaaGreatDoor.MidP
open Go.RowKit Go.Proofs.YtnicpmoanjddbaaGreatDoor.Wo Go.Maps Go.Proofs.YtnicpmoanjddbaaGreatDoor.TreeP
set_option linter.unusedVariables false
set_option linter.unusedSimpArgs false
/-- lower's cells: what it makes, where names lead, labels, the place of 0. -/
def LBlk (W : World) (b mb : Nat) (P M : Nat → Prop) (nm : List UInt8) (pr : Int) (w : Lw) : Prop :=
  ∃ tv sv cs, Blk W b [str nm, .int .i64 pr, tv, sv, .map (some mb), .int .i64 (w.labels : Int), .int .i64 w.none] 89 ∧ W.ownsRow 0 3 1 tv w.types.length (w.types.map (Value.int .i64)) ∧
    W.ownsRow 0 57 10 sv w.steps.length cs ∧ RelS W (fun k => ¬ P k) cs w.steps ∧ (∀ k, tv.ownBlock = some k → M k ∧ k ≠ b ∧ k ≠ mb) ∧ (∀ k, sv.ownBlock = some k → M k ∧ k ≠ b ∧ k ≠ mb ∧ tv.ownBlock ≠ some k)
def LNm (W : World) (mb : Nat) (w : Lw) : Prop := ∃ n F, NameMap W mb n (.int .i64 0) F ∧ n ≤ w.names.length ∧ ∀ x, getL (.int .i64 0) F x = .int .i64 (getN w.names x)
structure LAt (W : World) (b mb : Nat) (P M : Nat → Prop) (nm : List UInt8) (pr : Int) (w : Lw) : Prop where
  blk : LBlk W b mb P M nm pr w
  names : LNm W mb w
  has : M b
  map : M mb ∧ mb ≠ b
  old : ∀ k, M k → k < W.heap.size
  off : ∀ k, M k → ¬ P k
  given : ∀ k, P k → k < W.heap.size
theorem LNm.mods {W W' : World} {S : Nat → Prop} {mb : Nat} {w : Lw} (h : LNm W mb w) (hm : Mods S W W') (hn : ¬ S mb) : LNm W' mb w := by
  obtain ⟨n, F, h1, h2, h3⟩ := h
  exact ⟨n, F, h1.mods hm hn, h2, h3⟩
theorem LAt.turn {W W' : World} {b mb : Nat} {P M M' S : Nat → Prop} {nm : List UInt8} {pr : Int} {w w' : Lw} (h : LAt W b mb P M nm pr w) (hm : Mods S W W') (hS : ∀ k, S k → M k) (hM : ∀ k, M k → M' k)
    (hM' : ∀ k, M' k → M k ∨ (W.heap.size ≤ k ∧ k < W'.heap.size)) (hb : LBlk W' b mb P M' nm pr w') (hn : LNm W' mb w') : LAt W' b mb P M' nm pr w' ∧ Ext None M M' W W' := by
  refine ⟨⟨hb, hn, hM _ h.has, ⟨hM _ h.map.1, h.map.2⟩, fun k hk => ?_, fun k hk hp => ?_, fun k hk => Nat.lt_of_lt_of_le (h.given k hk) hm.size⟩, ⟨hm.mono fun k _ s => Or.inr (hS k s), fun k hk hk' => ?_⟩⟩
  · rcases hM' k hk with e | e
    · exact Nat.lt_of_lt_of_le (h.old k e) hm.size
    · exact e.2
  · rcases hM' k hk with e | e
    · exact h.off k e hp
    · have := h.given k hp; omega
  · rcases hM' k hk' with e | e
    · exact e
    · omega
/-- What else turns is nothing to it. -/
theorem LAt.aside {W W' : World} {b mb : Nat} {P M S : Nat → Prop} {nm : List UInt8} {pr : Int} {w : Lw} (h : LAt W b mb P M nm pr w) (hm : Mods S W W') (hS : ∀ k, S k → ¬ M k ∧ ¬ P k) : LAt W' b mb P M nm pr w := by
  have hmP : Mods (fun k => ¬ P k) W W' := hm.mono fun k _ f => (hS k f).2
  obtain ⟨tv, sv, cs, h1, h2, h3, h4, h5, h6⟩ := h.blk
  exact ⟨⟨tv, sv, cs, h1.mods hm (fun f => (hS _ f).1 h.has), hm.ownsRow h2 (fun k hk f => (hS _ f).1 (h5 k hk).1), hm.ownsRow h3 (fun k hk f => (hS _ f).1 (h6 k hk).1), h4.mods hmP (fun _ _ k => k), h5, h6⟩,
    h.names.mods hm (fun f => (hS _ f).1 h.map.1), h.has, h.map, fun k hk => Nat.lt_of_lt_of_le (h.old k hk) hm.size, h.off, fun k hk => Nat.lt_of_lt_of_le (h.given k hk) hm.size⟩
theorem LAt.quiet {W W' : World} {b mb : Nat} {P M : Nat → Prop} {nm : List UInt8} {pr : Int} {w : Lw} (h : LAt W b mb P M nm pr w) (hm : Mods None W W') : LAt W' b mb P M nm pr w := h.aside hm (fun _ f => f.elim)
/-- Blocks that it leaves alone from now on. -/
theorem LAt.give {W : World} {b mb : Nat} {P P' M : Nat → Prop} {nm : List UInt8} {pr : Int} {w : Lw} (h : LAt W b mb P M nm pr w) (h1 : ∀ k, P k → P' k) (h2 : ∀ k, P' k → P k ∨ (¬ M k ∧ k < W.heap.size)) : LAt W b mb P' M nm pr w := by
  obtain ⟨tv, sv, cs, e1, e2, e3, e4, e5, e6⟩ := h.blk
  refine ⟨⟨tv, sv, cs, e1, e2, e3, e4.mods (Mods.refl _ _) (fun k _ hk hp => hk (h1 k hp)), e5, e6⟩, h.names, h.has, h.map, h.old, fun k hk hp => ?_, fun k hp => ?_⟩
  · rcases h2 k hp with e | e
    · exact h.off k hk e
    · exact e.1 hk
  · rcases h2 k hp with e | e
    · exact h.given k e
    · exact e.2
theorem low_own {W W' : World} {v v' : Value} (hg : Grew W W' v v') {k : Nat} (hk : v'.ownBlock = some k) : v.ownBlock = some k ∨ k = W.heap.size := by
  rcases hg.loc with e | e
  · exact Or.inl (by rw [← e]; exact hk)
  · rw [e] at hk
    exact Or.inr (Option.some.inj hk).symm
theorem low_size (W : World) (a : Addr) (v : Value) : (W.setCell a v).heap.size = W.heap.size := by simp [World.setCell]
/-- A place more. -/
theorem LAt.typed {w6 w7 : World} {b mb : Nat} {P M : Nat → Prop} {nm : List UInt8} {pr : Int} {w : Lw} (h : LAt w6 b mb P M nm pr w) {tv v' : Value} (htv : w6.cell? ⟨b, 2, none⟩ = some tv) (k : Int)
    (hown : w7.ownsRow 0 3 1 v' (w.types.length + 1) (w.types.map (Value.int .i64) ++ [.int .i64 k])) (hg : Grew w6 w7 tv v') :
    LAt (w7.setCell ⟨b, 2, none⟩ v') b mb P (fun k => M k ∨ v'.ownBlock = some k) nm pr (placeL k w).2 ∧ Ext None M (fun k => M k ∨ v'.ownBlock = some k) w6 (w7.setCell ⟨b, 2, none⟩ v') := by
  obtain ⟨tv2, sv, cs, h1, h2, h3, h4, h5, h6⟩ := h.blk
  obtain rfl : tv2 = tv := by
    have := h1.cell (i := 2) (v := tv2) rfl
    rw [htv] at this
    exact (Option.some.inj this).symm
  have hm7 : Mods (fun k => tv2.ownBlock = some k) w6 w7 := hg.mods
  have hm8 : Mods (· = b) w7 (w7.setCell ⟨b, 2, none⟩ v') := mods_put _ _ _ _
  have hm68 : Mods (fun k => tv2.ownBlock = some k ∨ k = b) w6 (w7.setCell ⟨b, 2, none⟩ v') := (hm7.mono fun _ _ hk => Or.inl hk).trans (hm8.mono fun _ _ hk => Or.inr hk)
  have hSM : ∀ k, (tv2.ownBlock = some k ∨ k = b) → M k := fun k hk => hk.elim (fun e => (h5 k e).1) (fun e => by rw [e]; exact h.has)
  have hm68P : Mods (fun k => ¬ P k) w6 (w7.setCell ⟨b, 2, none⟩ v') := hm68.mono fun k _ hk => h.off k (hSM k hk)
  have hb6 := h.old b h.has
  have hmb6 := h.old mb h.map.1
  have hne : ∀ k, v'.ownBlock = some k → k ≠ b ∧ k ≠ mb := fun k hk => by
    rcases low_own hg hk with e | e
    · exact (h5 k e).2
    · omega
  refine h.turn hm68 hSM (fun k hk => Or.inl hk) (fun k hk => ?_) ⟨v', sv, cs, ?_, ?_, ?_, h4.mods hm68P (fun _ _ k => k), fun k hk => ⟨Or.inr hk, hne k hk⟩, fun k hk => ⟨Or.inl (h6 k hk).1, (h6 k hk).2.1, (h6 k hk).2.2.1, fun e => ?_⟩⟩ ?_
  · rcases hk with hk | hk
    · exact Or.inl hk
    · rcases low_own hg hk with e | e
      · exact Or.inl (h5 k e).1
      · exact Or.inr ⟨by omega, by rw [low_size]; exact (hown.lt k hk).2⟩
  · exact (h1.mods hm7 (fun e => (h5 b e).2.1 rfl)).set 2 v'
  · have := hm8.ownsRow hown (fun k hk => (hne k hk).1)
    simpa [placeL] using this
  · exact hm68.ownsRow h3 (fun k hk e => e.elim (h6 k hk).2.2.2 (h6 k hk).2.1)
  · rcases low_own hg e with e | e
    · exact (h6 k hk).2.2.2 e
    · have := (h3.lt k hk).2; omega
  · obtain ⟨n, F, g1, g2, g3⟩ := h.names.mods hm68 (fun e => e.elim (fun e => (h5 mb e).2.2 rfl) h.map.2)
    exact ⟨n, F, g1, g2, g3⟩
/-- A step more. -/
theorem LAt.stepped {w6 w7 : World} {b mb : Nat} {P M : Nat → Prop} {nm : List UInt8} {pr : Int} {w : Lw} (h : LAt w6 b mb P M nm pr w) {sv v' av : Value} (x : Stp) (htv : w6.cell? ⟨b, 3, none⟩ = some sv) {cs : List Value} (hrel : RelS w6 (fun k => ¬ P k) cs w.steps) (hcs : w6.ownsRow 0 57 10 sv w.steps.length cs)
    (hx : IntsAt w6 (fun k => ¬ P k) av x.args) (hown : w7.ownsRow 0 57 10 v' (w.steps.length + 1) (cs ++ stpL x av)) (hg : Grew w6 w7 sv v') :
    LAt (w7.setCell ⟨b, 3, none⟩ v') b mb P (fun k => M k ∨ v'.ownBlock = some k) nm pr (addL x w) ∧ Ext None M (fun k => M k ∨ v'.ownBlock = some k) w6 (w7.setCell ⟨b, 3, none⟩ v') := by
  obtain ⟨tv, sv2, cs2, h1, h2, h3, h4, h5, h6⟩ := h.blk
  obtain rfl : sv2 = sv := by
    have := h1.cell (i := 3) (v := sv2) rfl
    rw [htv] at this
    exact (Option.some.inj this).symm
  have hm7 : Mods (fun k => sv2.ownBlock = some k) w6 w7 := hg.mods
  have hm8 : Mods (· = b) w7 (w7.setCell ⟨b, 3, none⟩ v') := mods_put _ _ _ _
  have hm68 : Mods (fun k => sv2.ownBlock = some k ∨ k = b) w6 (w7.setCell ⟨b, 3, none⟩ v') := (hm7.mono fun _ _ hk => Or.inl hk).trans (hm8.mono fun _ _ hk => Or.inr hk)
  have hSM : ∀ k, (sv2.ownBlock = some k ∨ k = b) → M k := fun k hk => hk.elim (fun e => (h6 k e).1) (fun e => by rw [e]; exact h.has)
  have hm68P : Mods (fun k => ¬ P k) w6 (w7.setCell ⟨b, 3, none⟩ v') := hm68.mono fun k _ hk => h.off k (hSM k hk)
  have hb6 := h.old b h.has
  have hmb6 := h.old mb h.map.1
  have hne : ∀ k, v'.ownBlock = some k → k ≠ b ∧ k ≠ mb ∧ tv.ownBlock ≠ some k := fun k hk => by
    rcases low_own hg hk with e | e
    · exact (h6 k e).2
    · exact ⟨by omega, by omega, fun e2 => by have := (h2.lt k e2).2; omega⟩
  refine h.turn hm68 hSM (fun k hk => Or.inl hk) (fun k hk => ?_) ⟨tv, v', cs ++ stpL x av, ?_, ?_, ?_, (hrel.mods hm68P (fun _ _ k => k)).grow hcs.1 (hx.mods hm68P (fun _ _ k => k)), fun k hk => ⟨Or.inl (h5 k hk).1, (h5 k hk).2⟩, fun k hk => ⟨Or.inr hk, hne k hk⟩⟩ ?_
  · rcases hk with hk | hk
    · exact Or.inl hk
    · rcases low_own hg hk with e | e
      · exact Or.inl (h6 k e).1
      · exact Or.inr ⟨by omega, by rw [low_size]; exact (hown.lt k hk).2⟩
  · exact (h1.mods hm7 (fun e => (h6 b e).2.1 rfl)).set 3 v'
  · exact hm68.ownsRow h2 (fun k hk e => e.elim (fun e => (h6 k e).2.2.2 hk) (h5 k hk).2.1)
  · have := hm8.ownsRow hown (fun k hk => (hne k hk).1)
    simpa [addL] using this
  · exact h.names.mods hm68 (fun e => e.elim (fun e => (h6 mb e).2.2.1 rfl) h.map.2)
/-- A label more. -/
theorem LAt.labeled {W : World} {b mb : Nat} {P M : Nat → Prop} {nm : List UInt8} {pr : Int} {w : Lw} (h : LAt W b mb P M nm pr w) (i : Nat) (u : Value) (w' : Lw) (h1 : w'.types = w.types) (h2 : w'.steps = w.steps) (h3 : w'.names = w.names)
    (hi : (i = 5 ∧ u = .int .i64 (w'.labels : Int) ∧ w'.none = w.none) ∨ (i = 6 ∧ u = .int .i64 w'.none ∧ w'.labels = w.labels)) :
    LAt (W.setCell ⟨b, i, none⟩ u) b mb P M nm pr w' ∧ Ext None M M W (W.setCell ⟨b, i, none⟩ u) := by
  obtain ⟨tv, sv, cs, e1, e2, e3, e4, e5, e6⟩ := h.blk
  have hm : Mods (· = b) W (W.setCell ⟨b, i, none⟩ u) := mods_put _ _ _ _
  have hmP : Mods (fun k => ¬ P k) W (W.setCell ⟨b, i, none⟩ u) := hm.mono fun k _ hk => by rw [hk]; exact h.off b h.has
  refine h.turn hm (fun k hk => by rw [hk]; exact h.has) (fun _ k => k) (fun k hk => Or.inl hk) ⟨tv, sv, cs, ?_, ?_, ?_, ?_, e5, e6⟩ ?_
  · have := e1.set i u
    rcases hi with ⟨rfl, rfl, hn⟩ | ⟨rfl, rfl, hn⟩
    · rw [hn]; exact this
    · rw [hn]; exact this
  · rw [h1]; exact hm.ownsRow e2 (fun k hk => (e5 k hk).2.1)
  · rw [h2]; exact hm.ownsRow e3 (fun k hk => (e6 k hk).2.1)
  · rw [h2]; exact e4.mods hmP (fun _ _ k => k)
  · obtain ⟨n, F, g1, g2, g3⟩ := h.names.mods hm h.map.2
    exact ⟨n, F, g1, by rw [h3]; exact g2, by rw [h3]; exact g3⟩
/-- A name leads to a place. -/
theorem LAt.named {W W' : World} {b mb n : Nat} {P M : Nat → Prop} {nm : List UInt8} {pr : Int} {w : Lw} (h : LAt W b mb P M nm pr w) {F : List (List UInt8 × Value)} (hF : ∀ x, getL (.int .i64 0) F x = .int .i64 (getN w.names x)) (x : List UInt8) (k : Int) (hm : Mods (· = mb) W W')
    (hput : NameMap W' mb (n + 1) (.int .i64 0) (putL F x (.int .i64 k))) (hn : n ≤ w.names.length) :
    LAt W' b mb P M nm pr { w with names := putN w.names x k } ∧ Ext None M M W W' := by
  obtain ⟨tv, sv, cs, e1, e2, e3, e4, e5, e6⟩ := h.blk
  have hmP : Mods (fun k => ¬ P k) W W' := hm.mono fun k _ hk => by rw [hk]; exact h.off mb h.map.1
  refine h.turn hm (fun k hk => by rw [hk]; exact h.map.1) (fun _ k => k) (fun k hk => Or.inl hk) ⟨tv, sv, cs, e1.mods hm (fun e => h.map.2 e.symm), hm.ownsRow e2 (fun k hk => (e5 k hk).2.2), hm.ownsRow e3 (fun k hk => (e6 k hk).2.2.1), e4.mods hmP (fun _ _ k => k), e5, e6⟩ ⟨n + 1, _, hput, by simp only [putN, List.length_cons]; omega, fun y => ?_⟩
  rw [getL_put, getN_put]
  by_cases hy : y = x
  · rw [if_pos hy, if_pos hy]
  · rw [if_neg hy, if_neg hy, hF]
/-- What a walk of lower's leaves. -/
def LGo (W : World) (b mb : Nat) (P M : Nat → Prop) (nm : List UInt8) (pr : Int) (w' : Lw) (ok : Ending → Prop) : Ending → World → Prop :=
  fun e wd => ∃ P' M', ok e ∧ LAt wd b mb P' M' nm pr w' ∧ Ext None M M' W wd ∧ (∀ k, P k → P' k) ∧ (∀ k, k < W.heap.size → P' k → P k)
theorem LGo.after {W W1 : World} {b mb : Nat} {P P1 M M1 : Nat → Prop} {nm : List UInt8} {pr : Int} {w' : Lw} {ok ok' : Ending → Prop} {e : Ending} {wd : World} (h : LGo W1 b mb P1 M1 nm pr w' ok e wd) (hok : ok e → ok' e) (hE : Ext None M M1 W W1) (h1 : ∀ k, P k → P1 k) (h2 : ∀ k, k < W.heap.size → P1 k → P k) : LGo W b mb P M nm pr w' ok' e wd := by
  obtain ⟨P', M', g1, g2, g3, g4, g5⟩ := h
  exact ⟨P', M', hok g1, g2, hE.trans g3, fun k hk => g4 k (h1 k hk), fun k hk hp => h2 k hk (g5 k (Nat.lt_of_lt_of_le hk hE.mods.size) hp)⟩
end Go.Proofs.YtnicpmoanjddbaaGreatDoor.MidP
namespace Go.Proofs.YtnicpmoanjddbaaGreatDoor.MidP
open Go.RowKit Go.Proofs.YtnicpmoanjddbaaGreatDoor.Wo Go.Maps Go.Proofs.YtnicpmoanjddbaaGreatDoor.TreeP
set_option linter.unusedVariables false
set_option linter.unusedSimpArgs false
theorem low_form {W : World} {B : Nat} {e : TypeId} {size n : Nat} {v : Value} {vs : List Value} (h : W.ownsRow B e size v n vs) : ∃ oa oc, v = .slice oa n oc := by
  rcases h.2 with ⟨hv, h0⟩ | ⟨g, cap, cur, hv, _⟩
  · exact ⟨_, _, by rw [hv, h0]⟩
  · exact ⟨_, _, hv⟩
theorem low_info {o : Option TypeInfo} {z : Option Value} {n m : Nat} (h : o.map (fun i => (i.zero, i.size, i.bytes)) = some (z, n, m)) : ∃ i, o = some i ∧ i.zero = z ∧ i.size = n ∧ i.bytes = m := by
  cases o with
  | none => simp at h
  | some i =>
    simp only [Option.map_some, Option.some.injEq, Prod.mk.injEq] at h
    exact ⟨i, rfl, h.1, h.2.1, h.2.2⟩
theorem low64 {n : Int} (h1 : -9223372036854775808 ≤ n) (h2 : n ≤ 9223372036854775807) : wrap64 n = n := by unfold wrap64; omega
theorem low_stp (x : Stp) (aa : Option Addr) (n c : Nat) : ∀ u ∈ stpL x (.slice aa n c), u.oneCell' = true := by
  intro u hu
  unfold stpL at hu
  simp only [List.mem_cons, List.not_mem_nil, or_false] at hu
  rcases hu with rfl | rfl | rfl | rfl | rfl | rfl | rfl | rfl | rfl | rfl <;> rfl
theorem low_new (W : World) (cs : List Value) (e : TypeId) : ∀ j u, cs[j]? = some u → (W.alloc (.cells cs.toArray e)).cell? ((⟨W.heap.size, 0, none⟩ : Addr).add j) = some u := by
  intro j u hj
  rw [add_plain, Nat.zero_add]
  exact (Blk.new W cs.toArray e).cell (by simpa using hj)
/-- lower's own cells lie as they lay behind an append to one of its rows. -/
theorem LAt.cellAt {w6 w7 : World} {b mb : Nat} {P M : Nat → Prop} {nm : List UInt8} {pr : Int} {w : Lw} (h : LAt w6 b mb P M nm pr w) {i : Nat} {v v' ov : Value} (hi : i = 2 ∨ i = 3) (hv : w6.cell? ⟨b, i, none⟩ = some v) (hg : Grew w6 w7 v v') : w7.cell? ⟨b, i, none⟩ = some v ∧ w7.frozen? ⟨b, i, none⟩ = false ∧ b < w7.heap.size := by
  obtain ⟨tv, sv, cs, h1, h2, h3, h4, h5, h6⟩ := h.blk
  have hne : ¬ v.ownBlock = some b := by
    rcases hi with rfl | rfl
    · have := h1.cell (i := 2) (v := tv) rfl
      rw [hv] at this
      rw [Option.some.inj this]
      exact fun e => (h5 b e).2.1 rfl
    · have := h1.cell (i := 3) (v := sv) rfl
      rw [hv] at this
      rw [Option.some.inj this]
      exact fun e => (h6 b e).2.1 rfl
  have hb7 := h1.mods hg.mods hne
  exact ⟨hg.mods.cellOf hv hne, hb7.free i, hb7.lt⟩
set_option maxRecDepth 100000 in
set_option maxHeartbeats 1000000 in
theorem place_any {W : World} {b mb : Nat} {P M : Nat → Prop} {nm : List UInt8} {pr : Int} {w : Lw} (h : LAt W b mb P M nm pr w) (k : Int) (hw : w.types.length < 1000000) :
    Calls Tryz.prog 32 #[.pointer (some ⟨b, 0, none⟩), .int .i64 k] W (LGo W b mb P M nm pr (placeL k w).2 (fun e => e = .returned (.int .i64 (w.types.length : Int)))) := by
  obtain ⟨i0, hi, hz0, hz1, hz2⟩ := low_info int_info
  have HI := Lib.hid (And.intro hi (And.intro hz0 (And.intro hz1 hz2)))
  obtain ⟨tv, sv, cs, hb, hty, -⟩ := h.blk
  obtain ⟨oa, oc, rfl⟩ := low_form hty
  obtain ⟨n, hn⟩ : ∃ n, n = w.types.length := ⟨_, rfl⟩
  rw [← hn] at hty hb hw
  rw [← hn]
  have c0 : W.cell? ⟨b, 2, none⟩ = some (.slice oa n oc) := hb.cell rfl
  have f0 := hb.free 2
  have hbl := h.old b h.has
  have H := Lib.hid h
  have HO := Lib.hid hty
  have HN := Lib.hid (And.intro hw hn)
  have HC0 := Lib.hid c0
  clear h hn hb hty hi hz0 hz1 hz2 hw
  go_enter Tryz.func32, Tryz.ntmps32
  go_wp2_with (at_builtin; refine wpList_append_own_at _ rfl _ _ 52 rfl 0 3 i0 _ 1 8 Tryz.underlying52 HI.out.1 HI.out.2.1 HI.out.2.2.1 HI.out.2.2.2 rfl (by decide) (.slice oa n oc) n (w.types.map (Value.int .i64)) rfl (HO.out.alloc _) ⟨W.heap.size, 0, none⟩ 1 1 [.int .i64 k] rfl rfl (one_new _ _ _) (fun u hu => by simp at hu; subst hu; rfl) (by have := HN.out; unfold maxLen; omega) (by have := HN.out; omega) (Nat.zero_le _) ?_; intro v' w7 hown hgrow hnil hloc; have HOW := Lib.hid hown; have HGR := Lib.hid (grew_of hgrow hloc); have hm6 := Lib.hid (show Mods None W _ from ((Mods.refl _ _).alloc (.cells #[.int .i64 k] 3))); obtain ⟨c70, z70, l70⟩ := (H.out.quiet hm6.out).cellAt (ov := .slice oa n oc) (Or.inl rfl) (hm6.out.cellOf HC0.out (fun f => f)) HGR.out; clear hown hgrow hnil hloc; obtain ⟨qa, qc, rfl⟩ := low_form HOW.out)
  obtain ⟨k1, k2⟩ := (H.out.quiet hm6.out).typed (hm6.out.cellOf HC0.out (fun f => f)) k (by rw [← HN.out.2]; exact HOW.out) HGR.out
  have K1 := Lib.hid k1
  have K2 := Lib.hid (Ext.trans (Ext.quiet (M := M) hm6.out) k2)
  clear k1 k2
  go_ret
  refine ⟨P, _, ?_, K1.out, K2.out, fun _ k => k, fun _ _ k => k⟩
  show Ending.returned (.int .i64 (wrap64 (n : Int))) = _
  rw [low64 (by omega) (by have := HN.out.1; omega)]
set_option maxRecDepth 100000 in
set_option maxHeartbeats 1000000 in
theorem add_any {W : World} {b mb : Nat} {P M : Nat → Prop} {nm : List UInt8} {pr : Int} {w : Lw} (h : LAt W b mb P M nm pr w) (s : Stp) (v : Value) (hv : StpV W (fun k => ¬ P k) s v) (hw : w.steps.length < 1000000) :
    Calls Tryz.prog 35 #[.pointer (some ⟨b, 0, none⟩), v] W (LGo W b mb P M nm pr (addL s w) (fun e => e = .returned (.tuple #[]))) := by
  obtain ⟨aa, ac, rfl, hargs⟩ := hv
  obtain ⟨an, han⟩ : ∃ an, an = s.args.length := ⟨_, rfl⟩
  rw [← han] at hargs ⊢
  obtain ⟨i0, hi, hz0, hz1, hz2⟩ := low_info stp_info
  have HI := Lib.hid (And.intro hi (And.intro hz0 (And.intro hz1 hz2)))
  obtain ⟨W1, hW1⟩ : ∃ W1, W1 = W.alloc (.cells (stpL s (.slice aa an ac)).toArray 57) := ⟨_, rfl⟩
  have hm1 : Mods None W W1 := by rw [hW1]; exact (Mods.refl _ _).alloc _
  have hb1 : Blk W1 W.heap.size (stpL s (.slice aa an ac)) 57 := by rw [hW1]; exact Blk.new W _ _
  obtain ⟨tv, sv, cs, hb, -, hst, hrel, -, -⟩ := (h.quiet hm1).blk
  obtain ⟨oa, oc, rfl⟩ := low_form hst
  obtain ⟨n, hn⟩ : ∃ n, n = w.steps.length := ⟨_, rfl⟩
  rw [← hn] at hst hb hw
  have c0 : W1.cell? ⟨b, 3, none⟩ = some (.slice oa n oc) := hb.cell rfl
  have f0 := hb.free 3
  have hbl := hb.lt
  have d0 := hb1.cell (i := 0) rfl
  have d1 := hb1.cell (i := 1) rfl
  have d2 := hb1.cell (i := 2) rfl
  have d3 := hb1.cell (i := 3) rfl
  have d4 := hb1.cell (i := 4) rfl
  have d5 := hb1.cell (i := 5) rfl
  have d6 := hb1.cell (i := 6) rfl
  have d7 := hb1.cell (i := 7) rfl
  have d8 := hb1.cell (i := 8) rfl
  have d9 := hb1.cell (i := 9) rfl
  have hbe : b ≠ W.heap.size := by have := h.old b h.has; omega
  have hm2 : Mods None W1 ((W1.alloc (.cells (stpL s (.slice aa an ac)).toArray 57)).drew) := ((Mods.refl _ _).alloc _).drew
  have HM2 := Lib.hid (hm1.trans hm2)
  have H2 := Lib.hid ((h.quiet hm1).quiet hm2)
  have HOA := Lib.hid (hm2.ownsRow hst (fun k hk f => f))
  have HRA := Lib.hid (hrel.mods (hm2.mono fun _ _ f => f.elim) (fun _ _ k => k) (T := fun k => ¬ P k))
  have HARG := Lib.hid (hargs.mods ((hm1.trans hm2).mono fun _ _ f => f.elim) (fun _ _ k => k) (T := fun k => ¬ P k))
  have HC0 := Lib.hid (hm2.cellOf c0 (fun f => f))
  have hnew := Lib.hid (low_new W1 (stpL s (.slice aa an ac)) 57)
  have hone := Lib.hid (low_stp s aa an ac)
  have HN := Lib.hid (And.intro hw hn)
  obtain ⟨xc, xd, xa, xb, xe, xn, xo, xl, xm, xs⟩ := s
  simp only [stpL, str] at *
  clear h hn hb hst hi hz0 hz1 hz2 hw hrel hargs hm1 hb1 hm2 han
  go_enter Tryz.func35, Tryz.ntmps35
  go_wp2_with fail
  rw [← hW1]
  clear hW1
  go_region_law (refine step_append_at rfl (.tmp 9) (.tmp 11) 53 rfl 0 57 i0 _ 10 112 Tryz.underlying53 HI.out.1 HI.out.2.1 HI.out.2.2.1 HI.out.2.2.2 rfl (by decide) (.slice oa n oc) n cs (by simp [Act.eval, Act.put]) HOA.out ⟨W1.heap.size, 0, none⟩ 1 1 [.int .i64 xc, .int .i64 xd, .int .i64 xa, .int .i64 xb, .int .i64 xe, .int .i64 xn, .string ⟨xo.toArray⟩, .int .i64 xl, .string ⟨xm.toArray⟩, .slice aa an ac] (by simp [Act.eval, Act.put]) rfl hnew.out hone.out (by have := HN.out; unfold maxLen; omega) (by have := HN.out; omega) (Nat.zero_le _) ?_; intro v' w7 hown hgrow hloc; have HOW := Lib.hid hown; have HGR := Lib.hid (grew_of hgrow hloc); obtain ⟨c70, z70, l70⟩ := H2.out.cellAt (ov := .slice oa n oc) (Or.inr rfl) HC0.out HGR.out; clear hown hgrow hloc; obtain ⟨qa, qc, rfl⟩ := low_form HOW.out)
  all_goals
    obtain ⟨k1, k2⟩ := H2.out.stepped (av := .slice aa an ac) ⟨xc, xd, xa, xb, xe, xn, xo, xl, xm, xs⟩ HC0.out HRA.out (by rw [← HN.out.2]; exact HOA.out) HARG.out (by rw [← HN.out.2]; exact HOW.out) HGR.out
    have K1 := Lib.hid k1
    have K2 := Lib.hid (Ext.trans (Ext.quiet (M := M) HM2.out) k2)
    clear k1 k2
    go_end0
    exact ⟨P, _, rfl, K1.out, K2.out, fun _ k => k, fun _ _ k => k⟩
/-- A step by its letters. -/
theorem StpV.mk {W : World} {S : Nat → Prop} (s : Stp) {aa : Option Addr} {ac an : Nat} (h : an = s.args.length) (hi : IntsAt W S (.slice aa an ac) s.args) : StpV W S s (.agg #[.int .i64 s.code, .int .i64 s.dst, .int .i64 s.a, .int .i64 s.b, .int .i64 s.c, .int .i64 s.n, .string ⟨s.op.toArray⟩, .int .i64 s.label, .string ⟨s.name.toArray⟩, .slice aa an ac]) := by
  subst h
  exact ⟨aa, ac, rfl, hi⟩
/-- A step that hands nothing on. -/
theorem StpV.bare {W : World} {S : Nat → Prop} (s : Stp) (h : s.args = []) : StpV W S s (.agg #[.int .i64 s.code, .int .i64 s.dst, .int .i64 s.a, .int .i64 s.b, .int .i64 s.c, .int .i64 s.n, .string ⟨s.op.toArray⟩, .int .i64 s.label, .string ⟨s.name.toArray⟩, .slice none 0 0]) :=
  StpV.mk s (by rw [h]; rfl) (by rw [h]; exact ⟨none, 0, rfl, Nat.le_refl _, by unfold maxLen; omega, fun _ => rfl, fun i x hx => by simp at hx⟩)
set_option maxRecDepth 100000 in
set_option maxHeartbeats 1000000 in
theorem to_any {W : World} {b mb : Nat} {P M : Nat → Prop} {nm : List UInt8} {pr : Int} {w : Lw} (h : LAt W b mb P M nm pr w) (k : Int) (s : Stp) (v : Value) (hv : StpV W (fun k => ¬ P k) s v) (hw : w.types.length < 1000000) (hw2 : w.steps.length < 1000000) :
    Calls Tryz.prog 33 #[.pointer (some ⟨b, 0, none⟩), .int .i64 k, v] W (LGo W b mb P M nm pr (toL k s w).2 (fun e => e = .returned (.int .i64 (w.types.length : Int)))) := by
  obtain ⟨aa, ac, rfl, hargs⟩ := hv
  obtain ⟨an, han⟩ : ∃ an, an = s.args.length := ⟨_, rfl⟩
  rw [← han] at hargs ⊢
  obtain ⟨W1, hW1⟩ : ∃ W1, W1 = W.alloc (.cells (stpL s (.slice aa an ac)).toArray 57) := ⟨_, rfl⟩
  have hm1 : Mods None W W1 := by rw [hW1]; exact (Mods.refl _ _).alloc _
  have hb1 : Blk W1 W.heap.size (stpL s (.slice aa an ac)) 57 := by rw [hW1]; exact Blk.new W _ _
  have hM : ¬ M W.heap.size := fun e => by have := h.old _ e; omega
  have hP : ¬ P W.heap.size := fun e => by have := h.given _ e; omega
  have HH := Lib.hid h
  have H1 := Lib.hid (h.quiet hm1)
  have HB1 := Lib.hid hb1
  have HM1 := Lib.hid hm1
  have HARG := Lib.hid hargs
  have HN := Lib.hid (And.intro hw (And.intro hw2 (And.intro hM hP)))
  have HAN := Lib.hid han
  have f1 := hb1.free 1
  have l1 := hb1.lt
  obtain ⟨xc, xd, xa, xb, xe, xn, xo, xl, xm, xs⟩ := s
  simp only [stpL, str] at *
  have d1 := hb1.cell (i := 1) rfl
  clear h hargs hm1 hb1 han hw hw2 hM hP
  go_enter Tryz.func33, Tryz.ntmps33
  go_wp2_with fail
  rw [← hW1]
  clear hW1
  refine (place_any H1.out k HN.out.1).mono ?_
  rintro e w2 ⟨P2, M2, rfl, k1, k2, k3, k4⟩
  have HQ : Hid (¬ M2 W.heap.size ∧ ¬ P2 W.heap.size) := Lib.hid ⟨fun e => HN.out.2.2.1 (k2.back _ l1 e), fun e => HN.out.2.2.2 (k4 _ l1 e)⟩
  have HB2 := Lib.hid (HB1.out.mods k2.mods (fun e => e.elim (fun f => f) HN.out.2.2.1))
  have HA2 := Lib.hid (HARG.out.mods (HM1.out.mono fun _ _ f => f.elim) (fun _ _ k => k) (T := fun k => ¬ P k) |>.mods (k2.mods.mono fun k _ e => e.elim (fun f => f.elim) (H1.out.off k)) (fun i hi hn hp => hn (k3 i hp)) (T := fun k => ¬ P2 k))
  have d2 := HB2.out.cell (i := 1) rfl
  have f2 := HB2.out.free 1
  have l2 := HB2.out.lt
  have hm3 : Mods (· = W.heap.size) w2 (w2.setCell ⟨W.heap.size, 1, none⟩ (.int .i64 (w.types.length : Int))) := mods_put _ _ _ _
  have HB3 := Lib.hid (HB2.out.set 1 (.int .i64 (w.types.length : Int)))
  have HA3 := Lib.hid (HA2.out.mods (hm3.mono fun k _ e => by rw [e]; exact HQ.out.2) (fun _ _ k => k) (T := fun k => ¬ P2 k))
  have HE3 := Lib.hid (((Ext.quiet (M := M) (T := None) HM1.out).trans k2).new hm3 (fun k hk e => by omega))
  have H3 := Lib.hid (k1.aside hm3 (fun k e => by rw [e]; exact HQ.out))
  have HP3 : Hid ((∀ k, P k → P2 k) ∧ (∀ k, k < W.heap.size → P2 k → P k)) := Lib.hid ⟨k3, fun k hk hp => k4 k (by omega) hp⟩
  have hl3 : (w2.setCell ⟨W.heap.size, 1, none⟩ (.int .i64 (w.types.length : Int))).heap.size = w2.heap.size := low_size _ _ _
  have HL3 := Lib.hid hl3
  have x0 := HB2.out.cell (i := 0) rfl
  have x2 := HB2.out.cell (i := 2) rfl
  have x3 := HB2.out.cell (i := 3) rfl
  have x4 := HB2.out.cell (i := 4) rfl
  have x5 := HB2.out.cell (i := 5) rfl
  have x6 := HB2.out.cell (i := 6) rfl
  have x7 := HB2.out.cell (i := 7) rfl
  have x8 := HB2.out.cell (i := 8) rfl
  have x9 := HB2.out.cell (i := 9) rfl
  clear k1 k2 k3 k4 hm3 hl3
  go_wp2_with fail
  refine (add_any H3.out ⟨xc, (w.types.length : Int), xa, xb, xe, xn, xo, xl, xm, xs⟩ _ (StpV.mk ⟨xc, (w.types.length : Int), xa, xb, xe, xn, xo, xl, xm, xs⟩ HAN.out HA3.out) HN.out.2.1).mono ?_
  rintro e w4 ⟨P4, M4, rfl, k1, k2, k3, k4⟩
  have HB4 := Lib.hid (HB3.out.mods k2.mods (fun e => e.elim (fun f => f) HQ.out.1))
  have K1 := Lib.hid k1
  have K2 := Lib.hid (HE3.out.trans k2)
  have K3 : Hid ((∀ k, P k → P4 k) ∧ (∀ k, k < W.heap.size → P4 k → P k)) := Lib.hid ⟨fun k hk => k3 k (HP3.out.1 k hk), fun k hk hp => HP3.out.2 k hk (k4 k (by rw [HL3.out]; omega) hp)⟩
  have d4 := HB4.out.cell (i := 1) rfl
  clear k1 k2 k3 k4
  go_wp2_with fail
  go_ret
  exact ⟨P4, M4, rfl, K1.out, K2.out, K3.out.1, K3.out.2⟩
set_option maxRecDepth 100000 in
set_option maxHeartbeats 1000000 in
theorem label_any {W : World} {b mb : Nat} {P M : Nat → Prop} {nm : List UInt8} {pr : Int} {w : Lw} (h : LAt W b mb P M nm pr w) (hw : w.labels < 1000000) :
    Calls Tryz.prog 97 #[.pointer (some ⟨b, 0, none⟩)] W (LGo W b mb P M nm pr (labelL w).2 (fun e => e = .returned (.int .i64 ((labelL w).1 : Int)))) := by
  obtain ⟨tv, sv, cs, hb, -, -, -, -, -⟩ := h.blk
  have c0 := hb.cell (i := 5) rfl
  have f0 := hb.free 5
  have hbl := hb.lt
  have H := Lib.hid h
  have HL : Hid (wrap64 ((w.labels : Int) + 1) = ((labelL w).1 : Int)) := Lib.hid (by rw [low64 (by omega) (by omega)]; simp [labelL])
  clear h hb hw
  go_enter Tryz.func97, Tryz.ntmps97
  go_wp2_with fail
  go_ret
  rw [HL.out]
  obtain ⟨k1, k2⟩ := H.out.labeled 5 (.int .i64 ((labelL w).1 : Int)) (labelL w).2 rfl rfl rfl (Or.inl ⟨rfl, rfl, rfl⟩)
  exact ⟨P, M, rfl, k1, k2, fun _ k => k, fun _ _ k => k⟩
set_option maxRecDepth 100000 in
set_option maxHeartbeats 1000000 in
theorem zero_any {W : World} {b mb : Nat} {P M : Nat → Prop} {nm : List UInt8} {pr : Int} {w : Lw} (h : LAt W b mb P M nm pr w) (a : Int) (hw : w.types.length < 1000000) (hw2 : w.steps.length < 1000000) :
    Calls Tryz.prog 116 #[.pointer (some ⟨b, 0, none⟩), .int .i64 a] W (LGo W b mb P M nm pr (zeroL a w).2 (fun e => e = .returned (.int .i64 (zeroL a w).1))) := by
  obtain ⟨tv, sv, cs, hb, -, -, -, -, -⟩ := h.blk
  have c0 := hb.cell (i := 6) rfl
  have hbl := hb.lt
  have H := Lib.hid h
  have HN := Lib.hid (And.intro hw hw2)
  clear h hb hw hw2
  go_enter Tryz.func116, Tryz.ntmps116
  go_wp2_with fail
  refine (to_any H.out 1 { stp0 with code := 3, op := [61, 61], a := a, b := w.none } _ (StpV.bare _ rfl) HN.out.1 HN.out.2).mono ?_
  rintro e w2 ⟨P2, M2, rfl, k1, k2, k3, k4⟩
  have K := Lib.hid (And.intro k1 (And.intro k2 (And.intro k3 k4)))
  clear k1 k2 k3 k4
  go_wp2_with fail
  go_ret
  exact ⟨P2, M2, rfl, K.out.1, K.out.2.1, K.out.2.2.1, K.out.2.2.2⟩
set_option maxRecDepth 100000 in
set_option maxHeartbeats 1000000 in
theorem name_any {W : World} {b mb : Nat} {P M : Nat → Prop} {nm : List UInt8} {pr : Int} {w : Lw} (h : LAt W b mb P M nm pr w) (code a k : Int) (x : List UInt8) (p q oa ob : Option Addr) (on oc om od : Nat) (hx : x.length ≤ maxLen) (hw : w.types.length < 1000000) (hw2 : w.names.length < 1000000) :
    Calls Tryz.prog 96 #[.pointer (some ⟨b, 0, none⟩), .agg #[.int .i64 code, .int .i64 a, .string ⟨x.toArray⟩, .pointer p, .pointer q, .slice oa on oc, .slice ob om od], .int .i64 k] W (LGo W b mb P M nm pr (nameL x k w).2 (fun e => e = .returned (.int .i64 (nameL x k w).1))) := by
  obtain ⟨W1, hW1⟩ : ∃ W1, W1 = W.alloc (.cells #[.int .i64 code, .int .i64 a, .string ⟨x.toArray⟩, .pointer p, .pointer q, .slice oa on oc, .slice ob om od] 143) := ⟨_, rfl⟩
  have hm1 : Mods None W W1 := by rw [hW1]; exact (Mods.refl _ _).alloc _
  have hb1 : Blk W1 W.heap.size [.int .i64 code, .int .i64 a, .string ⟨x.toArray⟩, .pointer p, .pointer q, .slice oa on oc, .slice ob om od] 143 := by rw [hW1]; exact Blk.new W _ _
  have HH := Lib.hid h
  have H1 := Lib.hid (h.quiet hm1)
  have HB1 := Lib.hid hb1
  have HM1 := Lib.hid hm1
  have HN := Lib.hid (And.intro hw (And.intro hw2 hx))
  have hM : ¬ M W.heap.size := fun e => by have := h.old _ e; omega
  have HMM := Lib.hid hM
  clear h hm1 hb1 hw hw2 hM
  go_enter Tryz.func96, Tryz.ntmps96
  go_wp2_with fail
  rw [← hW1]
  clear hW1
  refine (place_any H1.out k HN.out.1).mono ?_
  rintro e w2 ⟨P2, M2, rfl, k1, k2, k3, k4⟩
  have hb2 := HB1.out.mods k2.mods (fun e => e.elim (fun f => f) HMM.out)
  obtain ⟨tv, sv, cs, hb, -, -, -, -, -⟩ := k1.blk
  have c0 := hb.cell (i := 4) rfl
  have d2 := hb2.cell (i := 2) rfl
  have hbl := hb.lt
  obtain ⟨n, F, g1, g2, g3⟩ := k1.names
  have HF := Lib.hid (And.intro g2 g3)
  have hd : Mods None w2 w2.drew := (Mods.refl _ _).drew
  obtain ⟨w3, hput, hnm, hm3⟩ := (g1.mods hd (fun f => f)).put Tryz.underlying87 x HN.out.2.2 (.int .i64 (w.types.length : Int)) (by have := HN.out.2.1; simp only [placeL] at g2; unfold maxLen; omega)
  have K1 := Lib.hid (And.intro (k1.quiet hd) (And.intro (k2.trans (Ext.quiet hd)) (And.intro k3 k4)))
  have HP := Lib.hid (And.intro hnm hm3)
  clear k1 k2 k3 k4 g1 g2 g3 hd hnm hm3 hb hb2
  unfold str at hput
  go_wp2_with fail
  go_region
  all_goals
    go_wp2_with fail
    go_ret
    obtain ⟨e1, e2⟩ := K1.out.1.named HF.out.2 x (w.types.length : Int) HP.out.2 HP.out.1 HF.out.1
    exact ⟨P2, M2, rfl, e1, ((Ext.quiet (M := M) (T := None) HM1.out).trans K1.out.2.1).trans e2, K1.out.2.2.1, fun i hi hp => K1.out.2.2.2 i (Nat.lt_of_lt_of_le hi HM1.out.size) hp⟩
end Go.Proofs.YtnicpmoanjddbaaGreatDoor.MidP

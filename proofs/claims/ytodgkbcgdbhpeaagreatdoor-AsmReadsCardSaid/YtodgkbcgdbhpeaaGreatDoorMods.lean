/- Worlds: only some blocks, and new ones, have turned. No program in sight. No conditions. -/
import Derived.Below
import Derived.Deep.Draws
import Derived.ChangeSame
import Derived.Carry
import Derived.Lib.Hide
namespace Go.Proofs.YtodgkbcgdbhpeaaGreatDoor.Wo
open Go.RowKit Go.WideShapes Go.ChangeShapes
set_option linter.unusedVariables false
set_option linter.unusedSimpArgs false

/-- Only blocks of S, and new ones, have turned. -/
structure Mods (S : Nat → Prop) (w w' : World) : Prop where
  os : w'.os = w.os
  output : w'.output = w.output
  size : w.heap.size ≤ w'.heap.size
  block : ∀ k, k < w.heap.size → ¬ S k → w'.heap[k]? = w.heap[k]?

theorem Mods.refl (S : Nat → Prop) (w : World) : Mods S w w := ⟨rfl, rfl, Nat.le_refl _, fun _ _ _ => rfl⟩
theorem Mods.trans {S : Nat → Prop} {a b c : World} (h : Mods S a b) (k : Mods S b c) : Mods S a c :=
  ⟨k.os.trans h.os, k.output.trans h.output, Nat.le_trans h.size k.size, fun i hi hn => (k.block i (Nat.lt_of_lt_of_le hi h.size) hn).trans (h.block i hi hn)⟩
/-- What the second step turned was the first one's, or was new behind it. -/
theorem Mods.trans' {S T : Nat → Prop} {a b c : World} (h : Mods S a b) (k : Mods T b c) (hT : ∀ i, T i → i < a.heap.size → S i) : Mods S a c :=
  ⟨k.os.trans h.os, k.output.trans h.output, Nat.le_trans h.size k.size, fun i hi hn => (k.block i (Nat.lt_of_lt_of_le hi h.size) (fun t => hn (hT i t hi))).trans (h.block i hi hn)⟩
theorem Mods.mono {S T : Nat → Prop} {a b : World} (h : Mods S a b) (hT : ∀ i, i < a.heap.size → S i → T i) : Mods T a b :=
  ⟨h.os, h.output, h.size, fun i hi hn => h.block i hi (fun s => hn (hT i hi s))⟩
theorem Mods.alloc {S : Nat → Prop} {a w : World} (h : Mods S a w) (o : Obj) : Mods S a (w.alloc o) :=
  ⟨h.os, h.output, Nat.le_trans h.size (by simp), fun i hi hn => (Below.heap_alloc w o i (Nat.lt_of_lt_of_le hi h.size)).trans (h.block i hi hn)⟩
theorem Mods.setCell {S : Nat → Prop} {a w : World} (h : Mods S a w) {p : Addr} (hp : p.block < a.heap.size → S p.block) (u : Value) : Mods S a (w.setCell p u) :=
  ⟨h.os, h.output, by simpa [World.setCell] using h.size, fun i hi hn => (Below.heap_setCell w p u i (by rintro rfl; exact hn (hp hi))).trans (h.block i hi hn)⟩
theorem Mods.drew {S : Nat → Prop} {a w : World} (h : Mods S a w) : Mods S a w.drew := ⟨h.os, h.output, h.size, h.block⟩
theorem Mods.drewN {S : Nat → Prop} {a w : World} (h : Mods S a w) (n : Nat) : Mods S a (w.drewN n) := ⟨h.os, h.output, h.size, h.block⟩
theorem Mods.of_below {S : Nat → Prop} {a w : World} (h : Below a.heap.size a w) : Mods S a w := ⟨h.os, h.output, h.size, fun i hi _ => h.block i hi⟩
theorem Mods.of_grownBy {S : Nat → Prop} {a w : World} {row : Option Nat} (h : a.grownBy w row) (hr : ∀ k, row = some k → k < a.heap.size → S k) : Mods S a w :=
  ⟨h.os, h.output, h.size, fun i hi hn => h.block i hi (fun e => hn (hr i e.symm hi))⟩
theorem grown_block {W W' : World} (h : Grown W W') {k : Nat} (hk : k < W.heap.size) : W'.heap[k]? = W.heap[k]? := by
  have h1 := h.1.2.2 k hk
  cases e1 : W.heap[k]? with
  | none => rw [Array.getElem?_eq_none_iff] at e1; omega
  | some o =>
    rw [e1] at h1
    cases e2 : W'.heap[k]? with
    | none => rw [e2] at h1; cases o <;> simp at h1
    | some o' =>
      rw [e2] at h1
      cases o with
      | cells c t f =>
        cases o' with
        | cells c' t' f' =>
          obtain ⟨ht, hf, hs, hc⟩ := h1
          have : c' = c := Array.ext_getElem? (fun j => hc j (fun f => f.elim))
          rw [this, ht, hf]
        | _ => simp at h1
      | map es cl =>
        cases o' with
        | map es' cl' =>
          rcases h1 with h1 | h1
          · exact h1.elim
          · rw [h1.1, h1.2]
        | _ => simp at h1
      | _ => cases o' <;> simp at h1 <;> simp [h1]
theorem Mods.of_grown {S : Nat → Prop} {a w : World} (h : Grown a w) : Mods S a w := ⟨h.1.1, h.1.2.1, h.2.2, fun i hi _ => grown_block h hi⟩
theorem Mods.cell {S : Nat → Prop} {a w : World} (h : Mods S a w) {p : Addr} (hp : p.block < a.heap.size) (hn : ¬ S p.block) : w.cell? p = a.cell? p := World.cell?_of_block (h.block p.block hp hn)
theorem Mods.frozen {S : Nat → Prop} {a w : World} (h : Mods S a w) {p : Addr} (hp : p.block < a.heap.size) (hn : ¬ S p.block) : w.frozen? p = a.frozen? p := World.frozen?_of_block (h.block p.block hp hn)
theorem Mods.cellOf {S : Nat → Prop} {a w : World} (h : Mods S a w) {p : Addr} {v : Value} (hc : a.cell? p = some v) (hn : ¬ S p.block) : w.cell? p = some v :=
  (h.cell (World.block_lt_of_cell? a p hc) hn).trans hc
theorem lt_of_block {w : World} {k : Nat} {o : Obj} (h : w.heap[k]? = some o) : k < w.heap.size := by
  rcases Nat.lt_or_ge k w.heap.size with h1 | h1
  · exact h1
  · rw [Array.getElem?_eq_none_iff.2 h1] at h; cases h
theorem Mods.blockOf {S : Nat → Prop} {a w : World} (h : Mods S a w) {k : Nat} {o : Obj} (hc : a.heap[k]? = some o) (hn : ¬ S k) : w.heap[k]? = some o :=
  (h.block k (lt_of_block hc) hn).trans hc
/-- A block of cells, whole, that may be written. -/
def Blk (W : World) (g : Nat) (cs : List Value) (t : TypeId) : Prop := W.heap[g]? = some (.cells cs.toArray t (0, 0))
theorem Blk.cell {W : World} {g : Nat} {cs : List Value} {t : TypeId} (h : Blk W g cs t) {i : Nat} {v : Value} (hi : cs[i]? = some v) : W.cell? ⟨g, i, none⟩ = some v := by
  unfold Blk at h; simp [World.cell?, h, hi]
theorem Blk.free {W : World} {g : Nat} {cs : List Value} {t : TypeId} (h : Blk W g cs t) (i : Nat) : W.frozen? ⟨g, i, none⟩ = false := frozen_of_row W g i _ t h
theorem Blk.lt {W : World} {g : Nat} {cs : List Value} {t : TypeId} (h : Blk W g cs t) : g < W.heap.size := lt_of_block h
theorem Blk.set {W : World} {g : Nat} {cs : List Value} {t : TypeId} (h : Blk W g cs t) (i : Nat) (v : Value) : Blk (W.setCell ⟨g, i, none⟩ v) g (cs.set i v) t := by
  have := heap_setCell_same W g i _ t v h
  unfold Blk; rw [this]; simp
theorem Blk.other {W : World} {g : Nat} {cs : List Value} {t : TypeId} (h : Blk W g cs t) {a : Addr} (ha : g ≠ a.block) (v : Value) : Blk (W.setCell a v) g cs t :=
  (heap_setCell_other W a g v ha).trans h
theorem Blk.alloc {W : World} {g : Nat} {cs : List Value} {t : TypeId} (h : Blk W g cs t) (o : Obj) : Blk (W.alloc o) g cs t :=
  (Below.heap_alloc W o g h.lt).trans h
theorem Blk.new (W : World) (cs : Array Value) (t : TypeId) : Blk (W.alloc (.cells cs t)) W.heap.size cs.toList t := heap_alloc_new W _
theorem Blk.drew {W : World} {g : Nat} {cs : List Value} {t : TypeId} (h : Blk W g cs t) : Blk W.drew g cs t := h
theorem Blk.drewN {W : World} {g : Nat} {cs : List Value} {t : TypeId} (h : Blk W g cs t) (n : Nat) : Blk (W.drewN n) g cs t := h
theorem Blk.mods {S : Nat → Prop} {a w : World} (h : Mods S a w) {g : Nat} {cs : List Value} {t : TypeId} (hb : Blk a g cs t) (hn : ¬ S g) : Blk w g cs t := h.blockOf hb hn
/-- Nothing of what was there has turned. -/
def None : Nat → Prop := fun _ => False
theorem Mods.frame {W W' : World} (h : Mods None W W') (may : MemPlace → Prop) : W.keptBut W' may := by
  refine ⟨h.os, h.output, fun i hi => ?_⟩
  rw [h.block i hi (fun f => f)]
  split <;> simp_all
theorem Mods.same {W W' : World} (h : Mods None W W') {p : MemPlace} (hp : p.block < W.heap.size) : W.sameAt W' p := by
  cases p with
  | cell b o => exact World.cell?_of_block (w := W) (h.block b hp (fun f => f))
  | map b => exact h.block b hp (fun f => f)
/-- The ownsRow of a row whose block is not of S. -/
theorem Mods.ownsRow {S : Nat → Prop} {a w : World} (h : Mods S a w) {base : Nat} {e : TypeId} {size : Nat} {v : Value} {n : Nat} {xs : List Value} (ho : a.ownsRow base e size v n xs) (hn : ∀ k, v.ownBlock = some k → ¬ S k) : w.ownsRow base e size v n xs := by
  obtain ⟨h1, h2⟩ := ho
  refine ⟨h1, ?_⟩
  rcases h2 with h2 | ⟨g, cap, cur, hv, hg, hh, r⟩
  · exact .inl h2
  · exact .inr ⟨g, cap, cur, hv, hg, h.blockOf hh (hn g (by rw [hv]; rfl)), r⟩
section
variable {H : Type} {enc : TypeId × Value → H} {P : Program}
theorem post_of_mods {f : Func} {s : ChangeSpec} {apart fresh handsOn again : Bool} {W W' : World} {args : Array Value} {v : Value} {ds gs : List (DataW H)} {before pa pv : List MemPlace}
    (hW : DataW.Whole enc P f.params.toList s.vars apart W args.toList ds gs before)
    (hres : ∀ (b : Nat) (sp : Nat → Bool) (hd : Bool), DataW.TrodAll enc P W' b sp hd f.resultTypes.toList (v.resultList f.resultTypes.size) (s.fn H (ds ++ gs)).results [])
    (hargs : ∀ sp : Nat → Bool, (∀ p ∈ before, sp p.block = true) → DataW.TrodAll enc P W' 0 sp true f.params.toList args.toList (s.fn H (ds ++ gs)).args pa)
    (hvars : ∀ sp : Nat → Bool, (∀ p ∈ before, sp p.block = true) → DataW.TrodVars enc P W' sp s.vars (s.fn H (ds ++ gs)).vars pv)
    (hps : before = pa ++ pv) (hb : Mods None W W')
    (hok : ∀ (j : Nat) (t : TypeId) (r : Value), f.resultTypes[j]? = some t → (v.resultList f.resultTypes.size)[j]? = some r → Value.okWide P W' .any 0 t r) :
    s.post enc P f apart fresh handsOn again W args v W' := by
  have hlt : ∀ p ∈ before, p.block < W.heap.size := fun p hp => hW.lt p hp
  have hold : ∀ p ∈ before, (fun b => decide (b < W.heap.size)) p.block = true := fun p hp => by simpa using hlt p hp
  refine ⟨ds, gs, before, [], pa, pv, hW, hres _ _ _, hargs _ hold, hvars _ hold, World.keptBut_mono (fun p hp => ⟨hp, ?_⟩) (hb.frame (· ∈ before)), fun _ => ?_⟩
  · rw [hps, List.mem_append] at hp
    exact Or.inr hp
  · obtain ⟨_, _, _, _, _, hz, hn⟩ := hW
    refine ⟨hok, _, _, ([] ++ pa) ++ pv, ⟨[] ++ pa, pv, trodAll_append (hargs _ (fun _ _ => rfl)) (hres _ _ _), hvars _ (fun _ _ => rfl), rfl, ?_, ?_⟩, ?_⟩
    · intro b off hp
      have hin : MemPlace.cell b off ∈ before := by rw [hps]; simpa using hp
      rw [hb.frozen (hlt _ hin) (fun f => f)]
      exact hz b off hin
    · intro ha
      have := hn ha
      rw [hps] at this
      simpa using this
    · intro p hp _
      rw [hps]
      simpa using hp
end
end Go.Proofs.YtodgkbcgdbhpeaaGreatDoor.Wo

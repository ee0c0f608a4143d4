/- Rows that grow while others are read. No conditions. -/
import Derived.Test.YtinbahmpifokaaaDoorTreeBind
import Derived.Maps.AppendAt
import Derived.OwnWalk
namespace Go.Proofs.YtinbahmpifokaaaDoor.TreeP
open Go.RowKit Go.Proofs.YtinbahmpifokaaaDoor.Wo
set_option linter.unusedVariables false
set_option linter.unusedSimpArgs false
/-- Those blocks, and the row's own. -/
def Own (S : Nat → Prop) (v : Value) : Nat → Prop := fun k => S k ∨ v.ownBlock = some k
/-- A row of the call's own (its blocks begin at B), apart from S. -/
structure Grows (W : World) (B : Nat) (S : Nat → Prop) (e : TypeId) (size : Nat) (v : Value) (n : Nat) (vs : List Value) : Prop where
  row : W.ownsRow B e size v n vs
  base : B ≤ W.heap.size
  below : ∀ k, S k → k < B
theorem Grows.nil {W : World} {S : Nat → Prop} (e : TypeId) (size : Nat) {b : Nat} {ts : List Tok} (hR : Rd W b S ts) {W' : World} (hm : Mods (· = b) W W') : Grows W' W.heap.size S e size nilS 0 [] :=
  ⟨World.ownsRow_nil _ _ _ _, hm.size, hR.old⟩
theorem Grows.apart {W : World} {B : Nat} {S : Nat → Prop} {e : TypeId} {size n : Nat} {v : Value} {vs : List Value} (h : Grows W B S e size v n vs) {k : Nat} (hk : v.ownBlock = some k) : ¬ S k ∧ k < W.heap.size := by
  have := h.row.lt k hk
  exact ⟨fun hs => by have := h.below k hs; omega, this.2⟩
theorem Grows.rd {W : World} {B : Nat} {S : Nat → Prop} {e : TypeId} {size n : Nat} {v : Value} {vs : List Value} (h : Grows W B S e size v n vs) {b : Nat} {ts : List Tok} (hR : Rd W b S ts) : Rd W b (Own S v) ts :=
  ⟨hR.par, hR.lev, hR.rng, Or.inl hR.has, fun k hk => hk.elim (hR.old k) (fun h2 => (h.apart h2).2)⟩
theorem Grows.next {W W' : World} {B : Nat} {S : Nat → Prop} {e : TypeId} {size n : Nat} {v : Value} {vs : List Value} (h : Grows W B S e size v n vs) {b : Nat} (hb : S b) (hm : Mods (· = b) W W') : Grows W' B S e size v n vs :=
  ⟨hm.ownsRow h.row (fun k hk e => (h.apart hk).1 (e ▸ hb)), Nat.le_trans h.base hm.size, h.below⟩
theorem Grows.alloc {W : World} {B : Nat} {S : Nat → Prop} {e : TypeId} {size n : Nat} {v : Value} {vs : List Value} (h : Grows W B S e size v n vs) (o : Obj) : Grows (W.alloc o) B S e size v n vs :=
  ⟨h.row.alloc o, Nat.le_trans h.base (by simp), h.below⟩
/-- Behind an append: what has turned, and who avoids the new row. -/
structure Grew (W W' : World) (v v' : Value) : Prop where
  mods : Mods (fun k => v.ownBlock = some k) W W'
  loc : v'.ownBlock = v.ownBlock ∨ v'.ownBlock = some W.heap.size
theorem grew_of {W W' : World} {v v' : Value} (hg : W.grownBy W' v.ownBlock) (hl : v'.ownBlock = v.ownBlock ∨ v'.ownBlock = some W.heap.size) : Grew W W' v v' :=
  ⟨Mods.of_grownBy hg (fun k hk _ => hk), hl⟩
theorem Grew.own {W W' : World} {v v' : Value} (h : Grew W W' v v') {S : Nat → Prop} : Mods (Own S v) W W' := h.mods.mono fun _ _ hk => Or.inr hk
theorem Grew.to {W W' : World} {v v' : Value} (h : Grew W W' v v') {S : Nat → Prop} : ∀ k, k < W.heap.size → Own S v' k → Own S v k := by
  rintro k hk (hs | hs)
  · exact Or.inl hs
  · rcases h.loc with hl | hl
    · exact Or.inr (hl ▸ hs)
    · rw [hl] at hs
      cases hs
      omega
theorem Grows.grew {W W' : World} {B : Nat} {S : Nat → Prop} {e : TypeId} {size n m : Nat} {v v' : Value} {vs ws : List Value} (h : Grows W B S e size v n vs) (hg : Grew W W' v v') (hr : W'.ownsRow B e size v' m ws) : Grows W' B S e size v' m ws :=
  ⟨hr, Nat.le_trans h.base hg.mods.size, h.below⟩
theorem Grows.far {W : World} {B : Nat} {S : Nat → Prop} {e : TypeId} {size n : Nat} {v : Value} {vs : List Value} (h : Grows W B S e size v n vs) {b : Nat} (hb : S b) : ∀ k, v.ownBlock = some k → b < k := fun k hk =>
  Nat.lt_of_lt_of_le (h.below b hb) (h.row.lt k hk).1
theorem Grows.rdGrew {W W' : World} {B : Nat} {S : Nat → Prop} {e : TypeId} {size n : Nat} {v v' : Value} {vs : List Value} (h : Grows W B S e size v n vs) (hg : Grew W W' v v') {b : Nat} {ts : List Tok} (hR : Rd W b S ts) : Rd W' b S ts :=
  ⟨hR.par.far hg.mods (h.far hR.has), hR.lev.far hg.mods (fun k hk => Nat.le_of_lt (h.far hR.has k hk)), hR.rng.far hg.mods (fun k hk => Nat.le_of_lt (h.far hR.has k hk)), hR.has, fun k hk => Nat.lt_of_lt_of_le (hR.old k hk) hg.mods.size⟩
/-- Since the call began only b has turned, and what is new. -/
theorem Grows.modsGrew {W0 W W' : World} {S : Nat → Prop} {e : TypeId} {size n : Nat} {v v' : Value} {vs : List Value} (h : Grows W W0.heap.size S e size v n vs) (hg : Grew W W' v v') {b : Nat} (hm : Mods (· = b) W0 W) : Mods (· = b) W0 W' :=
  hm.trans' hg.mods (fun i hi h0 => by have := (h.row.lt i hi).1; omega)
theorem Grows.form {W : World} {B : Nat} {S : Nat → Prop} {e : TypeId} {size n : Nat} {v : Value} {vs : List Value} (h : Grows W B S e size v n vs) : ∃ oa on oc, v = .slice oa on oc := by
  rcases h.row.2 with ⟨hv, _⟩ | ⟨g, cap, cur, hv, _⟩
  · exact ⟨_, _, _, hv⟩
  · exact ⟨_, _, _, hv⟩
theorem Grows.rowAt {W : World} {B : Nat} {S : Nat → Prop} {e : TypeId} {size n : Nat} {v : Value} {vs : List Value} (h : Grows W B S e size v n vs) : RowAt W S e size v n vs :=
  ⟨Go.Joins.ownsRow_le h.row (Nat.zero_le _), fun k hk => (h.apart hk).1⟩
theorem own_sub {S : Nat → Prop} {v : Value} {n : Nat} : ∀ k, k < n → S k → Own S v k := fun _ _ h => Or.inl h
/-- The cell of a slice of one value that is laid anew. -/
theorem one_new (W : World) (v : Value) (e : TypeId) : ∀ j u, [v][j]? = some u → (W.alloc (.cells #[v] e)).cell? ((⟨W.heap.size, 0, none⟩ : Addr).add j) = some u := by
  intro j u hj
  cases j with
  | zero => exact (Blk.new W #[v] e).cell (i := 0) (v := u) hj
  | succ j => simp at hj
theorem ptr_one (g : Nat) : ∀ u ∈ [Value.pointer (some ⟨g, 0, none⟩)], u.oneCell' = true := by
  intro u hu
  simp only [List.mem_singleton] at hu
  subst hu
  rfl
theorem RowAt.form {W : World} {S : Nat → Prop} {e : TypeId} {size n : Nat} {v : Value} {vs : List Value} (h : RowAt W S e size v n vs) : ∃ oa on oc, v = .slice oa on oc := by
  rcases h.1.2 with ⟨hv, _⟩ | ⟨g, cap, cur, hv, _⟩
  · exact ⟨_, _, _, hv⟩
  · exact ⟨_, _, _, hv⟩
theorem ptr_info : (Tryd.prog.info? 78).map (fun i => (i.zero, i.size, i.bytes)) = some (some (.pointer none), 1, 8) := by kernel_rfl
end Go.Proofs.YtinbahmpifokaaaDoor.TreeP

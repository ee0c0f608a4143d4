/- Statements as they lie in memory; what the parts that read them say. No conditions. -/
import Derived.Test.YtinbahmpifokaaaDoorTreeRow
namespace Go.Proofs.YtinbahmpifokaaaDoor.TreeP
open Go.RowKit Go.Proofs.YtinbahmpifokaaaDoor.Wo
set_option linter.unusedVariables false
set_option linter.unusedSimpArgs false
/-- A statement's cells: its code, where, name, index, value, then, else. -/
def cells7 (code a : Int) (name : List UInt8) (i v t e : Value) : List Value := [.int .i64 code, .int .i64 a, str name, i, v, t, e]
mutual
def StAt (W : World) (S : Nat → Prop) : St → List Value → Prop
  | .var a s v, cs => ∃ x, cs = cells7 1 a s nilP x nilS nilS ∧ ExAt W S v x
  | .set a s v, cs => ∃ x, cs = cells7 2 a s nilP x nilS nilS ∧ ExAt W S v x
  | .put a s i v, cs => ∃ x y, cs = cells7 3 a s x y nilS nilS ∧ ExAt W S i x ∧ ExAt W S v y
  | .cond a v t e, cs => ∃ x p vp q vq, cs = cells7 4 a [] nilP x p q ∧ ExAt W S v x ∧ RowAt W S 80 7 p t.length vp ∧ StsAt W S t vp ∧ RowAt W S 80 7 q e.length vq ∧ StsAt W S e vq
  | .loop a v t, cs => ∃ x p vp, cs = cells7 5 a [] nilP x p nilS ∧ ExAt W S v x ∧ RowAt W S 80 7 p t.length vp ∧ StsAt W S t vp
  | .ret a v, cs => ∃ x, cs = cells7 6 a [] nilP x nilS nilS ∧ ExAt W S v x
  | .print a v, cs => ∃ x, cs = cells7 7 a [] nilP x nilS nilS ∧ ExAt W S v x
  | .call a v, cs => ∃ x, cs = cells7 8 a [] nilP x nilS nilS ∧ ExAt W S v x
def StsAt (W : World) (S : Nat → Prop) : List St → List Value → Prop
  | [], vs => vs = []
  | s :: l, vs => ∃ cs r, vs = cs ++ r ∧ StAt W S s cs ∧ StsAt W S l r
end
mutual
theorem StAt.modsTo {W W' : World} {S T : Nat → Prop} (hm : Mods S W W') (hT : ∀ k, k < W.heap.size → T k → S k) : (s : St) → (cs : List Value) → StAt W S s cs → StAt W' T s cs
  | .var a n v, cs, h => by
    simp only [StAt] at h ⊢
    obtain ⟨x, h1, h2⟩ := h
    exact ⟨x, h1, ExAt.modsTo hm hT _ _ h2⟩
  | .set a n v, cs, h => by
    simp only [StAt] at h ⊢
    obtain ⟨x, h1, h2⟩ := h
    exact ⟨x, h1, ExAt.modsTo hm hT _ _ h2⟩
  | .put a n i v, cs, h => by
    simp only [StAt] at h ⊢
    obtain ⟨x, y, h1, h2, h3⟩ := h
    exact ⟨x, y, h1, ExAt.modsTo hm hT _ _ h2, ExAt.modsTo hm hT _ _ h3⟩
  | .cond a v t e, cs, h => by
    simp only [StAt] at h ⊢
    obtain ⟨x, p, vp, q, vq, h1, h2, h3, h4, h5, h6⟩ := h
    exact ⟨x, p, vp, q, vq, h1, ExAt.modsTo hm hT _ _ h2, h3.mods hm hT, StsAt.modsTo hm hT t vp h4, h5.mods hm hT, StsAt.modsTo hm hT e vq h6⟩
  | .loop a v t, cs, h => by
    simp only [StAt] at h ⊢
    obtain ⟨x, p, vp, h1, h2, h3, h4⟩ := h
    exact ⟨x, p, vp, h1, ExAt.modsTo hm hT _ _ h2, h3.mods hm hT, StsAt.modsTo hm hT t vp h4⟩
  | .ret a v, cs, h => by
    simp only [StAt] at h ⊢
    obtain ⟨x, h1, h2⟩ := h
    exact ⟨x, h1, ExAt.modsTo hm hT _ _ h2⟩
  | .print a v, cs, h => by
    simp only [StAt] at h ⊢
    obtain ⟨x, h1, h2⟩ := h
    exact ⟨x, h1, ExAt.modsTo hm hT _ _ h2⟩
  | .call a v, cs, h => by
    simp only [StAt] at h ⊢
    obtain ⟨x, h1, h2⟩ := h
    exact ⟨x, h1, ExAt.modsTo hm hT _ _ h2⟩
theorem StsAt.modsTo {W W' : World} {S T : Nat → Prop} (hm : Mods S W W') (hT : ∀ k, k < W.heap.size → T k → S k) : (l : List St) → (vs : List Value) → StsAt W S l vs → StsAt W' T l vs
  | [], vs, h => by simp only [StsAt] at h ⊢; exact h
  | s :: l, vs, h => by
    simp only [StsAt] at h ⊢
    obtain ⟨cs, r, h1, h2, h3⟩ := h
    exact ⟨cs, r, h1, StAt.modsTo hm hT s cs h2, StsAt.modsTo hm hT l r h3⟩
end
theorem StsAt.append {W : World} {S : Nat → Prop} {s : St} {cs : List Value} : {l : List St} → {vs : List Value} → StsAt W S l vs → StAt W S s cs → StsAt W S (l ++ [s]) (vs ++ cs)
  | [], vs, h, hs => by
    simp only [StsAt] at h
    subst h
    simp only [List.nil_append, StsAt]
    exact ⟨cs, [], by simp, hs, rfl⟩
  | a :: l, vs, h, hs => by
    simp only [StsAt] at h
    obtain ⟨ds, r, rfl, h2, h3⟩ := h
    simp only [List.cons_append, StsAt]
    exact ⟨ds, r ++ cs, by simp, h2, StsAt.append h3 hs⟩
/-- The shape of a statement's cells. -/
theorem StAt.shape {W : World} {S : Nat → Prop} {s : St} {cs : List Value} (h : StAt W S s cs) : ∃ code a name p q oa on oc ob om od, cs = [.int .i64 code, .int .i64 a, .string name, .pointer p, .pointer q, .slice oa on oc, .slice ob om od] := by
  cases s <;> simp only [StAt] at h
  case var => obtain ⟨x, rfl, h2⟩ := h; obtain ⟨g, rfl⟩ := h2.ptr; exact ⟨_, _, _, _, _, _, _, _, _, _, _, rfl⟩
  case set => obtain ⟨x, rfl, h2⟩ := h; obtain ⟨g, rfl⟩ := h2.ptr; exact ⟨_, _, _, _, _, _, _, _, _, _, _, rfl⟩
  case put => obtain ⟨x, y, rfl, h2, h3⟩ := h; obtain ⟨g, rfl⟩ := h2.ptr; obtain ⟨g, rfl⟩ := h3.ptr; exact ⟨_, _, _, _, _, _, _, _, _, _, _, rfl⟩
  case cond => obtain ⟨x, p, vp, q, vq, rfl, h2, h3, _, h5, _⟩ := h; obtain ⟨g, rfl⟩ := h2.ptr; obtain ⟨_, _, _, rfl⟩ := h3.form; obtain ⟨_, _, _, rfl⟩ := h5.form; exact ⟨_, _, _, _, _, _, _, _, _, _, _, rfl⟩
  case loop => obtain ⟨x, p, vp, rfl, h2, h3, _⟩ := h; obtain ⟨g, rfl⟩ := h2.ptr; obtain ⟨_, _, _, rfl⟩ := h3.form; exact ⟨_, _, _, _, _, _, _, _, _, _, _, rfl⟩
  case ret => obtain ⟨x, rfl, h2⟩ := h; obtain ⟨g, rfl⟩ := h2.ptr; exact ⟨_, _, _, _, _, _, _, _, _, _, _, rfl⟩
  case print => obtain ⟨x, rfl, h2⟩ := h; obtain ⟨g, rfl⟩ := h2.ptr; exact ⟨_, _, _, _, _, _, _, _, _, _, _, rfl⟩
  case call => obtain ⟨x, rfl, h2⟩ := h; obtain ⟨g, rfl⟩ := h2.ptr; exact ⟨_, _, _, _, _, _, _, _, _, _, _, rfl⟩
def StsIs (S : Nat → Prop) (l : List St) (v : Value) (w : World) : Prop := ∃ vs, RowAt w S 80 7 v l.length vs ∧ StsAt w S l vs
def BlockC (f : Nat) : Prop := ∀ (b : Nat) (S : Nat → Prop) (deep : Nat) (ts : List Tok) (W : World) (x : Except (Int × Int) (List St × List Tok)), deep ≤ 13 → Rd W b S ts → blockF f deep ts = some x →
  Calls Tryd.prog 24 #[.pointer (some ⟨b, 0, none⟩), .int .i64 deep] W (Got (· = b) W b (StsIs S) (some x))
def StmtC (f : Nat) : Prop := ∀ (b : Nat) (S : Nat → Prop) (deep : Nat) (ts : List Tok) (W : World) (x : Except (Int × Int) (St × List Tok)), deep ≤ 12 → Rd W b S ts → stmtF f deep ts = some x →
  Calls Tryd.prog 37 #[.pointer (some ⟨b, 0, none⟩), .int .i64 deep] W (Got (· = b) W b (fun s v w => ∃ cs, v = .agg cs.toArray ∧ StAt w S s cs) (some x))
/-- The reader's block, and the statement's. -/
def Two (b sb : Nat) : Nat → Prop := fun k => k = b ∨ k = sb
/-- The statement's own block is written. -/
def NamedC (f : Nat) : Prop := ∀ (b sb : Nat) (S : Nat → Prop) (ts : List Tok) (W : World) (x : Except (Int × Int) (St × List Tok)), S sb → b < sb → Rd W b S ts → Blk W sb (cells7 0 (headAt ts) [] nilP nilP nilS nilS) 80 → namedF f ts = some x →
  Calls Tryd.prog 49 #[.pointer (some ⟨b, 0, none⟩), .pointer (some ⟨sb, 0, none⟩)] W (Got (Two b sb) W b (fun s v w => v = .tuple #[] ∧ ∃ cs, Blk w sb cs 80 ∧ StAt w S s cs) (some x))
theorem Rd.far {W W' : World} {b : Nat} {S T : Nat → Prop} {ts : List Tok} (h : Rd W b S ts) (hm : Mods T W W') (hT : ∀ k, T k → b < k) : Rd W' b S ts :=
  ⟨h.par.far hm hT, h.lev.far hm (fun k hk => Nat.le_of_lt (hT k hk)), h.rng.far hm (fun k hk => Nat.le_of_lt (hT k hk)), h.has, fun k hk => Nat.lt_of_lt_of_le (h.old k hk) hm.size⟩
theorem blk_put {W : World} {g : Nat} {cs : List Value} {t : TypeId} (h : Blk W g cs t) (i : Nat) (v : Value) {ds : List Value} (he : cs.set i v = ds) : Blk (W.setCell ⟨g, i, none⟩ v) g ds t := he ▸ h.set i v
theorem mods_put (W : World) (g i : Nat) (v : Value) : Mods (· = g) W (W.setCell ⟨g, i, none⟩ v) := Mods.setCell (S := (· = g)) (p := ⟨g, i, none⟩) (Mods.refl _ _) (fun _ => rfl) _
theorem mods_one {b sb : Nat} {W W' : World} (h : Mods (· = b) W W') : Mods (Two b sb) W W' := h.mono fun _ _ k => Or.inl k
theorem mods_two {b sb : Nat} {W W' : World} (h : Mods (· = sb) W W') : Mods (Two b sb) W W' := h.mono fun _ _ k => Or.inr k
/-- Those blocks, and the two that a statement's reading begins with. -/
def Three (S : Nat → Prop) (n : Nat) : Nat → Prop := fun k => S k ∨ k = n ∨ k = n + 1
def zeros7 : List Value := [.int .i64 0, .int .i64 0, .string ⟨#[]⟩, .pointer none, .pointer none, .slice none 0 0, .slice none 0 0]
/-- A statement is being read: its own cells are cs. -/
structure Stm (W w : World) (b : Nat) (S : Nat → Prop) (ts : List Tok) (cs : List Value) : Prop where
  rd : Rd w b (Three S W.heap.size) ts
  own : Blk w (W.heap.size + 1) cs 80
  res : Blk w W.heap.size zeros7 80
  mods : Mods (· = b) W w
  lt : b < W.heap.size
theorem Stm.start {W : World} {b : Nat} {S : Nat → Prop} {ts : List Tok} (h : Rd W b S ts) (ta : Int) :
    Stm W ((W.alloc (.cells #[.int .i64 0, .int .i64 0, .string ⟨#[]⟩, .pointer none, .pointer none, .slice none 0 0, .slice none 0 0] 80)).alloc (.cells #[.int .i64 0, .int .i64 ta, .string ⟨#[]⟩, .pointer none, .pointer none, .slice none 0 0, .slice none 0 0] 80)) b S ts (cells7 0 ta [] nilP nilP nilS nilS) := by
  have hR := h.quiet (((Mods.refl None W).alloc (.cells #[.int .i64 0, .int .i64 0, .string ⟨#[]⟩, .pointer none, .pointer none, .slice none 0 0, .slice none 0 0] 80)).alloc (.cells #[.int .i64 0, .int .i64 ta, .string ⟨#[]⟩, .pointer none, .pointer none, .slice none 0 0, .slice none 0 0] 80))
  have h1 := Blk.new W #[.int .i64 0, .int .i64 0, .string ⟨#[]⟩, .pointer none, .pointer none, .slice none 0 0, .slice none 0 0] 80
  have h2 := Blk.new (W.alloc (.cells #[.int .i64 0, .int .i64 0, .string ⟨#[]⟩, .pointer none, .pointer none, .slice none 0 0, .slice none 0 0] 80)) #[.int .i64 0, .int .i64 ta, .string ⟨#[]⟩, .pointer none, .pointer none, .slice none 0 0, .slice none 0 0] 80
  rw [show (W.alloc (.cells #[.int .i64 0, .int .i64 0, .string ⟨#[]⟩, .pointer none, .pointer none, .slice none 0 0, .slice none 0 0] 80)).heap.size = W.heap.size + 1 by simp] at h2
  refine ⟨⟨hR.par, hR.lev, hR.rng, Or.inl hR.has, ?_⟩, h2, h1.alloc _, ((Mods.refl _ _).alloc _).alloc _, h.old b h.has⟩
  have := h2.lt
  rintro k (hk | rfl | rfl)
  · have := h.old k hk
    omega
  · omega
  · omega
theorem Stm.next {W w w' : World} {b : Nat} {S : Nat → Prop} {ts r : List Tok} {cs : List Value} (h : Stm W w b S ts cs) (hr : Rd w' b (Three S W.heap.size) r) (hm : Mods (· = b) w w') : Stm W w' b S r cs :=
  ⟨hr, h.own.mods hm (by have := h.lt; omega), h.res.mods hm (by have := h.lt; omega), h.mods.trans hm, h.lt⟩
theorem Stm.putMods {W w : World} {b : Nat} {S : Nat → Prop} {ts : List Tok} {cs : List Value} (h : Stm W w b S ts cs) (i : Nat) (v : Value) : Mods (Three S W.heap.size) w (w.setCell ⟨W.heap.size + 1, i, none⟩ v) :=
  (mods_put w (W.heap.size + 1) i v).mono fun k _ hk => Or.inr (Or.inr hk)
theorem Stm.put {W w : World} {b : Nat} {S : Nat → Prop} {ts : List Tok} {cs : List Value} (h : Stm W w b S ts cs) (i : Nat) (v : Value) {ds : List Value} (he : cs.set i v = ds) : Stm W (w.setCell ⟨W.heap.size + 1, i, none⟩ v) b S ts ds :=
  have hl := h.lt
  ⟨h.rd.far (mods_put w (W.heap.size + 1) i v) (by rintro k rfl; omega), blk_put h.own i v he, h.res.mods (mods_put w (W.heap.size + 1) i v) (by omega), h.mods.trans' (mods_put w (W.heap.size + 1) i v) (by rintro k rfl hk; omega), h.lt⟩
theorem sub_three {S : Nat → Prop} {n m : Nat} : ∀ k, k < m → S k → Three S n k := fun _ _ h => Or.inl h
/-- The statement is handed back. -/
theorem Stm.ret {W w : World} {b : Nat} {S : Nat → Prop} {ts : List Tok} {z0 z1 z2 z3 z4 z5 z6 : Value} (h : Stm W w b S ts [z0, z1, z2, z3, z4, z5, z6]) {wf : World}
    (hw : wf = ((((((w.setCell ⟨W.heap.size, 0, none⟩ z0).setCell ⟨W.heap.size, 1, none⟩ z1).setCell ⟨W.heap.size, 2, none⟩ z2).setCell ⟨W.heap.size, 3, none⟩ z3).setCell ⟨W.heap.size, 4, none⟩ z4).setCell ⟨W.heap.size, 5, none⟩ z5).setCell ⟨W.heap.size, 6, none⟩ z6) :
    Blk wf W.heap.size [z0, z1, z2, z3, z4, z5, z6] 80 ∧ Mods (· = b) W wf ∧ Par wf b ts ∧ Mods (Three S W.heap.size) w wf := by
  have hm : Mods (· = W.heap.size) w wf := by
    rw [hw]
    exact ((((((mods_put w _ 0 z0).trans (mods_put _ _ 1 z1)).trans (mods_put _ _ 2 z2)).trans (mods_put _ _ 3 z3)).trans (mods_put _ _ 4 z4)).trans (mods_put _ _ 5 z5)).trans (mods_put _ _ 6 z6)
  refine ⟨?_, h.mods.trans' hm (by rintro k rfl hk; omega), h.rd.par.far hm (by rintro k rfl; exact h.lt), hm.mono fun k _ hk => Or.inr (Or.inl hk)⟩
  rw [hw]
  exact blk_put (blk_put (blk_put (blk_put (blk_put (blk_put (blk_put h.res 0 z0 rfl) 1 z1 rfl) 2 z2 rfl) 3 z3 rfl) 4 z4 rfl) 5 z5 rfl) 6 z6 rfl
/-- Another one has written the statement. -/
theorem Stm.two {W w w' : World} {b : Nat} {S : Nat → Prop} {ts r : List Tok} {cs ds : List Value} (h : Stm W w b S ts cs) (hp : Par w' b r) (hb : Blk w' (W.heap.size + 1) ds 80) (hm : Mods (Two b (W.heap.size + 1)) w w') : Stm W w' b S r ds :=
  have hl := h.lt
  ⟨⟨hp, h.rd.lev.far hm (by rintro k (rfl | rfl); exact Nat.le_refl _; omega), h.rd.rng.far hm (by rintro k (rfl | rfl); exact Nat.le_refl _; omega), h.rd.has, fun k hk => Nat.lt_of_lt_of_le (h.rd.old k hk) hm.size⟩, hb, h.res.mods hm (by rintro (h1 | h1) <;> omega), h.mods.trans' hm (by rintro k (rfl | rfl) hk; rfl; omega), h.lt⟩
theorem stmt_info : (Tryd.prog.info? 80).map (fun i => (i.zero, i.size, i.bytes)) = some (some (.agg #[.int .i64 0, .int .i64 0, .string ⟨#[]⟩, .pointer none, .pointer none, .slice none 0 0, .slice none 0 0]), 7, 96) := by kernel_rfl
end Go.Proofs.YtinbahmpifokaaaDoor.TreeP

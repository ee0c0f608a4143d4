/- Functions as they lie in memory. Printed by mkfun.py. No conditions. -/
import Derived.Test.YtinbahmpifokaaaDoorTreeSt
import Derived.Test.YtinbahmpifokaaaDoorTreeStLen
namespace Go.Proofs.YtinbahmpifokaaaDoor.TreeP
open Go.RowKit Go.Proofs.YtinbahmpifokaaaDoor.Wo
set_option linter.unusedVariables false
set_option linter.unusedSimpArgs false
theorem andThen_assoc {α β γ : Type} (p : PR α) (k : α → List Tok → PR β) (K : β → List Tok → PR γ) : andThen (andThen p k) K = andThen p fun a r => andThen (k a r) K := by
  unfold andThen
  cases p with
  | none => rfl
  | some y =>
    cases y with
    | error e => rfl
    | ok q => rfl
theorem params_step {γ : Type} (f : Nat) (first : Bool) (l : List (List UInt8 × Int)) (ts : List Tok) (K : List (List UInt8 × Int) → List Tok → PR γ) :
    andThen (paramsF (f + 1) first l ts) K = if seeB [41] ts then K l ts.tail else andThen (if first then okP () ts else must [44] ts) fun _ r => andThen (nameP r) fun n r2 => andThen (must [58] r2) fun _ r3 =>
      if seeB kArr r3 then andThen (paramsF f false (l ++ [(n, 2)]) r3.tail) K else andThen (must kInt r3) fun _ r4 => andThen (paramsF f false (l ++ [(n, 1)]) r4) K := by
  simp only [paramsF]
  split
  · rfl
  · simp only [andThen_assoc]
    congr 1
    funext _ r
    congr 1
    funext n r2
    congr 1
    funext _ r3
    split
    · rfl
    · simp only [andThen_assoc]
/-- The cells of parameters: a name, a type, each. -/
def pcells : List (List UInt8 × Int) → List Value
  | [] => []
  | (n, t) :: r => str n :: .int .i64 t :: pcells r
theorem pcells_append : (l : List (List UInt8 × Int)) → (n : List UInt8) → (t : Int) → pcells (l ++ [(n, t)]) = pcells l ++ [str n, .int .i64 t]
  | [], n, t => rfl
  | (m, u) :: r, n, t => by simp only [List.cons_append, pcells, pcells_append r n t]
def FnAt (W : World) (S : Nat → Prop) (x : Fn) (cs : List Value) : Prop :=
  ∃ p q vq, cs = [str x.name, .int .i64 x.at_, p, q] ∧ RowAt W S 60 2 p x.params.length (pcells x.params) ∧ RowAt W S 80 7 q x.body.length vq ∧ StsAt W S x.body vq
theorem FnAt.modsTo {W W' : World} {S T : Nat → Prop} {x : Fn} {cs : List Value} (h : FnAt W S x cs) (hm : Mods S W W') (hT : ∀ k, k < W.heap.size → T k → S k) : FnAt W' T x cs := by
  obtain ⟨p, q, vq, h1, h2, h3, h4⟩ := h
  exact ⟨p, q, vq, h1, h2.mods hm hT, h3.mods hm hT, StsAt.modsTo hm hT _ _ h4⟩
def FnsAt (W : World) (S : Nat → Prop) : List Fn → List Value → Prop
  | [], vs => vs = []
  | x :: l, vs => ∃ cs r, vs = cs ++ r ∧ FnAt W S x cs ∧ FnsAt W S l r
theorem FnsAt.modsTo {W W' : World} {S T : Nat → Prop} (hm : Mods S W W') (hT : ∀ k, k < W.heap.size → T k → S k) : (l : List Fn) → (vs : List Value) → FnsAt W S l vs → FnsAt W' T l vs
  | [], vs, h => h
  | x :: l, vs, h => by
    obtain ⟨cs, r, h1, h2, h3⟩ := h
    exact ⟨cs, r, h1, h2.modsTo hm hT, FnsAt.modsTo hm hT l r h3⟩
theorem FnsAt.append {W : World} {S : Nat → Prop} {x : Fn} {cs : List Value} : {l : List Fn} → {vs : List Value} → FnsAt W S l vs → FnAt W S x cs → FnsAt W S (l ++ [x]) (vs ++ cs)
  | [], vs, h, hs => by
    simp only [FnsAt] at h
    subst h
    exact ⟨cs, [], by simp, hs, rfl⟩
  | a :: l, vs, h, hs => by
    obtain ⟨ds, r, rfl, h2, h3⟩ := h
    exact ⟨ds, r ++ cs, by simp, h2, FnsAt.append h3 hs⟩
theorem FnAt.shape {W : World} {S : Nat → Prop} {x : Fn} {cs : List Value} (h : FnAt W S x cs) : ∃ oa on oc ob om od, cs = [.string ⟨x.name.toArray⟩, .int .i64 x.at_, .slice oa on oc, .slice ob om od] := by
  obtain ⟨p, q, vq, rfl, h2, h3, _⟩ := h
  obtain ⟨_, _, _, rfl⟩ := h2.form
  obtain ⟨_, _, _, rfl⟩ := h3.form
  exact ⟨_, _, _, _, _, _, rfl⟩
def FunctionC (f : Nat) : Prop := ∀ (b : Nat) (S : Nat → Prop) (ts : List Tok) (W : World) (x : Except (Int × Int) (Fn × List Tok)), Rd W b S ts → functionF f ts = some x →
  Calls Tryd.prog 14 #[.pointer (some ⟨b, 0, none⟩)] W (Got (· = b) W b (fun s v w => ∃ cs, v = .agg cs.toArray ∧ FnAt w S s cs) (some x))
def zeros4 : List Value := [.string ⟨#[]⟩, .int .i64 0, .slice none 0 0, .slice none 0 0]
/-- A function is being read: its own cells are cs. -/
structure Fun (W w : World) (b : Nat) (S : Nat → Prop) (ts : List Tok) (cs : List Value) : Prop where
  rd : Rd w b (Three S W.heap.size) ts
  own : Blk w (W.heap.size + 1) cs 52
  res : Blk w W.heap.size zeros4 52
  mods : Mods (· = b) W w
  lt : b < W.heap.size
theorem Fun.start {W : World} {b : Nat} {S : Nat → Prop} {ts : List Tok} (h : Rd W b S ts) (ta : Int) :
    Fun W ((W.alloc (.cells #[.string ⟨#[]⟩, .int .i64 0, .slice none 0 0, .slice none 0 0] 52)).alloc (.cells #[.string ⟨#[]⟩, .int .i64 ta, .slice none 0 0, .slice none 0 0] 52)) b S ts [.string ⟨#[]⟩, .int .i64 ta, .slice none 0 0, .slice none 0 0] := by
  have hR := h.quiet (((Mods.refl None W).alloc (.cells #[.string ⟨#[]⟩, .int .i64 0, .slice none 0 0, .slice none 0 0] 52)).alloc (.cells #[.string ⟨#[]⟩, .int .i64 ta, .slice none 0 0, .slice none 0 0] 52))
  have h1 := Blk.new W #[.string ⟨#[]⟩, .int .i64 0, .slice none 0 0, .slice none 0 0] 52
  have h2 := Blk.new (W.alloc (.cells #[.string ⟨#[]⟩, .int .i64 0, .slice none 0 0, .slice none 0 0] 52)) #[.string ⟨#[]⟩, .int .i64 ta, .slice none 0 0, .slice none 0 0] 52
  rw [show (W.alloc (.cells #[.string ⟨#[]⟩, .int .i64 0, .slice none 0 0, .slice none 0 0] 52)).heap.size = W.heap.size + 1 by simp] at h2
  refine ⟨⟨hR.par, hR.lev, hR.rng, Or.inl hR.has, ?_⟩, h2, h1.alloc _, ((Mods.refl _ _).alloc _).alloc _, h.old b h.has⟩
  have := h2.lt
  rintro k (hk | rfl | rfl)
  · have := h.old k hk
    omega
  · omega
  · omega
theorem Fun.next {W w w' : World} {b : Nat} {S : Nat → Prop} {ts r : List Tok} {cs : List Value} (h : Fun W w b S ts cs) (hr : Rd w' b (Three S W.heap.size) r) (hm : Mods (· = b) w w') : Fun W w' b S r cs :=
  ⟨hr, h.own.mods hm (by have := h.lt; omega), h.res.mods hm (by have := h.lt; omega), h.mods.trans hm, h.lt⟩
theorem Fun.quiet {W w w' : World} {b : Nat} {S : Nat → Prop} {ts : List Tok} {cs : List Value} (h : Fun W w b S ts cs) (hm : Mods None w w') : Fun W w' b S ts cs :=
  h.next (h.rd.quiet hm) (hm.mono fun _ _ f => f.elim)
/-- Blocks beyond the two have turned. -/
theorem Fun.far {W w w' : World} {b : Nat} {S T : Nat → Prop} {ts : List Tok} {cs : List Value} (h : Fun W w b S ts cs) (hm : Mods T w w') (hT : ∀ k, T k → W.heap.size + 1 < k) : Fun W w' b S ts cs :=
  have hl := h.lt
  ⟨h.rd.far hm (fun k hk => by have := hT k hk; omega), h.own.mods hm (fun hk => by have := hT _ hk; omega), h.res.mods hm (fun hk => by have := hT _ hk; omega), h.mods.trans' hm (fun k hk hw => by have := hT k hk; omega), h.lt⟩
theorem Fun.putMods {W w : World} {b : Nat} {S : Nat → Prop} {ts : List Tok} {cs : List Value} (h : Fun W w b S ts cs) (i : Nat) (v : Value) : Mods (Three S W.heap.size) w (w.setCell ⟨W.heap.size + 1, i, none⟩ v) :=
  (mods_put w (W.heap.size + 1) i v).mono fun k _ hk => Or.inr (Or.inr hk)
theorem Fun.put {W w : World} {b : Nat} {S : Nat → Prop} {ts : List Tok} {cs : List Value} (h : Fun W w b S ts cs) (i : Nat) (v : Value) {ds : List Value} (he : cs.set i v = ds) : Fun W (w.setCell ⟨W.heap.size + 1, i, none⟩ v) b S ts ds :=
  have hl := h.lt
  ⟨h.rd.far (mods_put w (W.heap.size + 1) i v) (by rintro k rfl; omega), blk_put h.own i v he, h.res.mods (mods_put w (W.heap.size + 1) i v) (by omega), h.mods.trans' (mods_put w (W.heap.size + 1) i v) (by rintro k rfl hk; omega), h.lt⟩
theorem Fun.ret {W w : World} {b : Nat} {S : Nat → Prop} {ts : List Tok} {z0 z1 z2 z3 : Value} (h : Fun W w b S ts [z0, z1, z2, z3]) {wf : World}
    (hw : wf = (((w.setCell ⟨W.heap.size, 0, none⟩ z0).setCell ⟨W.heap.size, 1, none⟩ z1).setCell ⟨W.heap.size, 2, none⟩ z2).setCell ⟨W.heap.size, 3, none⟩ z3) :
    Blk wf W.heap.size [z0, z1, z2, z3] 52 ∧ Mods (· = b) W wf ∧ Par wf b ts ∧ Mods (Three S W.heap.size) w wf := by
  have hm : Mods (· = W.heap.size) w wf := by
    rw [hw]
    exact (((mods_put w _ 0 z0).trans (mods_put _ _ 1 z1)).trans (mods_put _ _ 2 z2)).trans (mods_put _ _ 3 z3)
  refine ⟨?_, h.mods.trans' hm (by rintro k rfl hk; omega), h.rd.par.far hm (by rintro k rfl; exact h.lt), hm.mono fun k _ hk => Or.inr (Or.inl hk)⟩
  rw [hw]
  exact blk_put (blk_put (blk_put (blk_put h.res 0 z0 rfl) 1 z1 rfl) 2 z2 rfl) 3 z3 rfl
theorem Grows.keep {W W' : World} {B : Nat} {S T : Nat → Prop} {e : TypeId} {size n : Nat} {v : Value} {vs : List Value} (h : Grows W B S e size v n vs) (hm : Mods T W W') (hn : ∀ k, v.ownBlock = some k → ¬ T k) : Grows W' B S e size v n vs :=
  ⟨hm.ownsRow h.row hn, Nat.le_trans h.base hm.size, h.below⟩
theorem two_new (W : World) (z0 z1 : Value) (e : TypeId) : ∀ j u, [z0, z1][j]? = some u → (W.alloc (.cells #[z0, z1] e)).cell? ((⟨W.heap.size, 0, none⟩ : Addr).add j) = some u := by
  intro j u hj
  have h := (Blk.new W #[z0, z1] e).cell (i := j) (v := u) hj
  cases j with
  | zero => exact h
  | succ j => simpa [Addr.add] using h
theorem two_one (s : ByteArray) (a : Int) : ∀ u ∈ [Value.string s, .int .i64 a], u.oneCell' = true := by
  intro u hu
  simp only [List.mem_cons, List.not_mem_nil, or_false] at hu
  rcases hu with rfl | rfl <;> rfl
theorem param_info : (Tryd.prog.info? 60).map (fun i => (i.zero, i.size, i.bytes)) = some (some (.agg #[.string ⟨#[]⟩, .int .i64 0]), 2, 24) := by kernel_rfl
theorem func_info : (Tryd.prog.info? 52).map (fun i => (i.zero, i.size, i.bytes)) = some (some (.agg #[.string ⟨#[]⟩, .int .i64 0, .slice none 0 0, .slice none 0 0]), 4, 72) := by kernel_rfl
end Go.Proofs.YtinbahmpifokaaaDoor.TreeP

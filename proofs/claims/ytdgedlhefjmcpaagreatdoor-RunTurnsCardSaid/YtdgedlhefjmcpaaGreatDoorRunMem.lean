/- A runner as it lies in memory; what it calls at the bottom. Conditions: what it has lies. -/
import Derived.Test.YtdgedlhefjmcpaaGreatDoorRunMap
import Derived.Test.YtdgedlhefjmcpaaGreatDoorTreeMem
import Derived.Laws.PanicsMore
namespace Go.Proofs.YtdgedlhefjmcpaaGreatDoor.TreeP
open Go.RowKit Go.Proofs.YtdgedlhefjmcpaaGreatDoor.Wo
set_option linter.unusedVariables false
set_option linter.unusedSimpArgs false
def zeroVal : Value := .agg #[.int .i64 0, .slice none 0 0]
def zeroFn : Value := .agg #[.string ⟨#[]⟩, .int .i64 0, .slice none 0 0, .slice none 0 0]
/-- How a value stands; A: the blocks of arrays, and how many numbers each has. -/
def VAt (A : List (Nat × Nat)) (x : V) (v : Value) : Prop :=
  (x.arr = none ∧ v = .agg #[.int .i64 x.n, .slice none 0 0]) ∨ ∃ i g n, x.arr = some i ∧ A[i]? = some (g, n) ∧ v = .agg #[.int .i64 x.n, .slice (some ⟨g, 0, none⟩) n n]
theorem VAt.more {A A' : List (Nat × Nat)} {x : V} {v : Value} (h : VAt A x v) (hA : A <+: A') : VAt A' x v := by
  rcases h with h | ⟨i, g, n, h1, h2, h3⟩
  · exact Or.inl h
  · refine Or.inr ⟨i, g, n, h1, ?_, h3⟩
    obtain ⟨t, rfl⟩ := hA
    rw [List.getElem?_append_left (List.getElem?_eq_some_iff.1 h2).1]
    exact h2
/-- Numbers that are given: only read. -/
def InAt (W : World) (M : Nat → Prop) (v : Value) (l : List Int) : Prop :=
  ∃ a n c, v = .slice a n c ∧ n = l.length ∧ n ≤ c ∧ c ≤ maxLen ∧ (∀ i x, l[i]? = some x → ∃ g o, a = some ⟨g, o, none⟩ ∧ ¬ M g ∧ W.cell? ⟨g, o + i, none⟩ = some (.int .i64 x))
theorem InAt.mods {W W' : World} {S T : Nat → Prop} {v : Value} {l : List Int} (h : InAt W S v l) (hm : Mods S W W') (hT : ∀ k, k < W.heap.size → T k → S k) : InAt W' T v l := by
  obtain ⟨a, n, c, h1, h2, h3, h4, h5⟩ := h
  refine ⟨a, n, c, h1, h2, h3, h4, fun i x hx => ?_⟩
  obtain ⟨g, o, e1, e2, e3⟩ := h5 i x hx
  exact ⟨g, o, e1, fun ht => e2 (hT g (World.block_lt_of_cell? W _ e3) ht), hm.cellOf e3 e2⟩
/-- What a function's entry is, in the map of functions. -/
def FnV (W : World) (M : Nat → Prop) (x : Fn) (v : Value) : Prop :=
  ∃ p q vq, v = .agg #[str x.name, .int .i64 x.at_, p, q] ∧ RowAt W M 85 2 p x.params.length (pcells x.params) ∧ RowAt W M 143 7 q x.body.length vq ∧ StsAt W M x.body vq
theorem FnV.mods {W W' : World} {S T : Nat → Prop} {x : Fn} {v : Value} (h : FnV W S x v) (hm : Mods S W W') (hT : ∀ k, k < W.heap.size → T k → S k) : FnV W' T x v := by
  obtain ⟨p, q, vq, h1, h2, h3, h4⟩ := h
  exact ⟨p, q, vq, h1, h2.mods hm hT, h3.mods hm hT, StsAt.modsTo hm hT _ _ h4⟩
/-- The runner at b, its map of functions at mb. P: the blocks of what is given; M: the blocks that a run may turn; A: its arrays. -/
structure RAt (W : World) (b mb : Nat) (L : List Fn) (P M : Nat → Prop) (A : List (Nat × Nat)) (s : RS) : Prop where
  blk : ∃ iv ov, Blk W b [.map (some mb), iv, .int .i64 s.fuel, .int .i64 s.calls, ov] 105 ∧ InAt W (fun k => ¬ P k) iv s.inp ∧ W.ownsRow 0 2 1 ov s.out.length (s.out.map (.int .i64)) ∧ (∀ k, ov.ownBlock = some k → M k ∧ k ≠ b ∧ ∀ g n, (g, n) ∈ A → g ≠ k)
  has : M b
  fns : P mb ∧ ∃ n F, NameMap W mb n zeroFn F ∧ ∀ f x, fnOf L f = some x → FnV W (fun k => ¬ P k) x (getL zeroFn F f)
  arrs : A.length = s.arrs.length
  arr : ∀ (i : Nat) (l : List Int), s.arrs[i]? = some l → ∃ g, A[i]? = some (g, l.length) ∧ Blk W g (l.map (.int .i64)) 2 ∧ l.length ≤ 40
  mine : ∀ g n, (g, n) ∈ A → M g ∧ g ≠ b
  apart : A.Pairwise (fun x y => x.1 ≠ y.1)
  old : ∀ k, M k → k < W.heap.size
  off : ∀ k, M k → ¬ P k
  given : ∀ k, P k → k < W.heap.size
  few : s.out.length ≤ 200
  calls : s.calls ≤ 40
  fuel : s.fuel ≤ 4000000000000000000
/-- Only what a run may turn, and T, has turned; what it may turn then it might before, or is new. -/
structure Ext (T M M' : Nat → Prop) (W W' : World) : Prop where
  mods : Mods (fun k => T k ∨ M k) W W'
  back : ∀ k, k < W.heap.size → M' k → M k
theorem Ext.refl (T M : Nat → Prop) (W : World) : Ext T M M W W := ⟨Mods.refl _ _, fun _ _ h => h⟩
theorem Ext.trans {T M M' M'' : Nat → Prop} {W W' W'' : World} (h : Ext T M M' W W') (k : Ext T M' M'' W' W'') : Ext T M M'' W W'' :=
  ⟨h.mods.trans' k.mods (fun i hi hl => hi.imp id (h.back i hl)), fun i hi hm => h.back i hi (k.back i (Nat.lt_of_lt_of_le hi h.mods.size) hm)⟩
theorem Ext.more {T T' M M' : Nat → Prop} {W W' : World} (h : Ext T M M' W W') (hT : ∀ k, k < W.heap.size → T k → T' k) : Ext T' M M' W W' := ⟨h.mods.mono (fun k hk ht => ht.imp (hT k hk) id), h.back⟩
theorem Ext.aside {T S M : Nat → Prop} {W W' : World} (hm : Mods S W W') (hS : ∀ k, k < W.heap.size → S k → T k) : Ext T M M W W' := ⟨hm.mono fun k hk hs => Or.inl (hS k hk hs), fun _ _ h => h⟩
theorem Ext.quiet {T M : Nat → Prop} {W W' : World} (h : Mods None W W') : Ext T M M W W' := Ext.aside h (fun _ _ f => f.elim)
/-- What else turns is nothing to the runner. -/
theorem RAt.aside {W W' : World} {b mb : Nat} {L : List Fn} {P M S : Nat → Prop} {A : List (Nat × Nat)} {s : RS} (h : RAt W b mb L P M A s) (hm : Mods S W W') (hS : ∀ k, S k → ¬ M k ∧ ¬ P k) : RAt W' b mb L P M A s := by
  have hmP : Mods (fun k => ¬ P k) W W' := hm.mono fun k _ f => (hS k f).2
  obtain ⟨⟨iv, ov, h1, h2, h3, h4⟩, h5, ⟨h7, n, F, h6, h8⟩, h9, h10, h11, h12, h13, h17, h18, h14, h15, h16⟩ := h
  exact ⟨⟨iv, ov, h1.mods hm (fun f => (hS _ f).1 h5), h2.mods hmP (fun _ _ k => k), hm.ownsRow h3 (fun k hk f => (hS _ f).1 (h4 k hk).1), h4⟩, h5, ⟨h7, n, F, h6.mods hm (fun f => (hS _ f).2 h7), fun f x hx => (h8 f x hx).mods hmP (fun _ _ k => k)⟩, h9,
    fun i l hl => by obtain ⟨g, e1, e2, e3⟩ := h10 i l hl; exact ⟨g, e1, e2.mods hm (fun f => (hS _ f).1 (h11 g _ (List.mem_of_getElem? e1)).1), e3⟩, h11, h12, fun k hk => Nat.lt_of_lt_of_le (h13 k hk) hm.size, h17, fun k hk => Nat.lt_of_lt_of_le (h18 k hk) hm.size, h14, h15, h16⟩
theorem RAt.quiet {W W' : World} {b mb : Nat} {L : List Fn} {P M : Nat → Prop} {A : List (Nat × Nat)} {s : RS} (h : RAt W b mb L P M A s) (hm : Mods None W W') : RAt W' b mb L P M A s := h.aside hm (fun _ f => f.elim)
def endedV (w : Int) : Value := .iface 107 (.agg #[.int .i64 w])
def returnedV (n : Int) : Value := .iface 160 (.agg #[.int .i64 n])
def sigV : Sig → Value
  | .stop w => endedV w
  | .ret n => returnedV n
/-- What was thrown before: none ends a goroutine. -/
def Old : Type := { l : List PanicEntry // ∀ x ∈ l, x.goexit = false }
def Old.nil : Old := ⟨[], fun _ h => (by cases h)⟩
/-- It is thrown so. -/
def Pan (g : Sig) (e : Ending) : Prop := ∃ older : Old, e = .panicked ({ v := sigV g, recovered := false } :: older.1)
set_option maxRecDepth 100000 in
theorem stop_any (n : Int) (W : World) : Calls Tryz.prog 81 #[.int .i64 n] W fun e w => Pan (.stop n) e ∧ W = w := by
  go_enter Tryz.func81, Tryz.ntmps81
  go_wp2
  exact ⟨rfl, ⟨Old.nil, rfl⟩, rfl⟩
theorem one_any (c : Bool) (W : World) : Calls Tryz.prog 158 #[.bool c] W fun e w => e = .returned (.int .i64 (oneB c)) ∧ W = w := by
  cases c
  all_goals
    go_enter Tryz.func158, Tryz.ntmps158
    go_wp2
    go_ret
    exact ⟨rfl, rfl⟩
def TwoTo (r : Option Int) (W : World) (e : Ending) (w : World) : Prop := (match r with
  | some n => e = .returned (.int .i64 n)
  | none => Pan (.stop 2) e) ∧ W = w
set_option maxRecDepth 100000 in
set_option maxHeartbeats 1000000 in
theorem two_any (op : List UInt8) (a b : Int) (W : World) : Calls Tryz.prog 159 #[str op, .int .i64 a, .int .i64 b] W (TwoTo (twoP op a b) W) := by
  unfold str
  by_cases h : op = [43]
  · subst h
    have ht : twoP [43] a b = some (wrap64 (a + b)) := by unfold twoP; rfl
    rw [ht]
    clear ht
    unfold TwoTo
    go_enter Tryz.func159, Tryz.ntmps159
    go_wp2
    go_ret
    exact ⟨rfl, rfl⟩
  have n43 : (op == [43]) = false := by simpa using h
  clear h
  by_cases h : op = [45]
  · subst h
    have ht : twoP [45] a b = some (wrap64 (a - b)) := by unfold twoP; rfl
    rw [ht]
    clear ht
    unfold TwoTo
    go_enter Tryz.func159, Tryz.ntmps159
    go_wp2
    go_ret
    exact ⟨rfl, rfl⟩
  have n45 : (op == [45]) = false := by simpa using h
  clear h
  by_cases h : op = [42]
  · subst h
    have ht : twoP [42] a b = some (wrap64 (a * b)) := by unfold twoP; rfl
    rw [ht]
    clear ht
    unfold TwoTo
    go_enter Tryz.func159, Tryz.ntmps159
    go_wp2
    go_ret
    exact ⟨rfl, rfl⟩
  have n42 : (op == [42]) = false := by simpa using h
  clear h
  by_cases h : op = [47]
  · subst h
    by_cases hb : b = 0
    · subst hb
      have ht : twoP [47] a 0 = none := by unfold twoP; rfl
      rw [ht]
      clear ht
      unfold TwoTo
      go_enter Tryz.func159, Tryz.ntmps159
      go_wp2_with fail
      go_at_call 81
      refine (stop_any 2 _).mono ?_
      rintro e w ⟨⟨older, rfl⟩, rfl⟩
      go_wp2
      exact ⟨rfl, ⟨older, rfl⟩, rfl⟩
    · have hb0 : (b == 0) = false := by simpa using hb
      have ht : twoP [47] a b = some (wrap64 (a.tdiv b)) := by unfold twoP; rw [if_neg (by decide), if_neg (by decide), if_neg (by decide), if_pos (by decide), if_neg hb]; rfl
      rw [ht]
      clear ht
      unfold TwoTo
      go_enter Tryz.func159, Tryz.ntmps159
      go_wp2
      go_ret
      exact ⟨rfl, rfl⟩
  have n47 : (op == [47]) = false := by simpa using h
  clear h
  by_cases h : op = [37]
  · subst h
    by_cases hb : b = 0
    · subst hb
      have ht : twoP [37] a 0 = none := by unfold twoP; rfl
      rw [ht]
      clear ht
      unfold TwoTo
      go_enter Tryz.func159, Tryz.ntmps159
      go_wp2_with fail
      go_at_call 81
      refine (stop_any 2 _).mono ?_
      rintro e w ⟨⟨older, rfl⟩, rfl⟩
      go_wp2
      exact ⟨rfl, ⟨older, rfl⟩, rfl⟩
    · have hb0 : (b == 0) = false := by simpa using hb
      have ht : twoP [37] a b = some (a.tmod b) := by unfold twoP; rw [if_neg (by decide), if_neg (by decide), if_neg (by decide), if_pos (by decide), if_neg hb]; rfl
      rw [ht]
      clear ht
      unfold TwoTo
      go_enter Tryz.func159, Tryz.ntmps159
      go_wp2
      go_ret
      exact ⟨rfl, rfl⟩
  have n37 : (op == [37]) = false := by simpa using h
  clear h
  by_cases h : op = [61, 61]
  · subst h
    have ht : twoP [61, 61] a b = some (oneB (a == b)) := by unfold twoP; rfl
    rw [ht]
    clear ht
    rcases hx : (a == b) with _ | _
    all_goals
      unfold TwoTo
      go_enter Tryz.func159, Tryz.ntmps159
      go_wp2
      go_ret
      exact ⟨rfl, rfl⟩
  have n61_61 : (op == [61, 61]) = false := by simpa using h
  clear h
  by_cases h : op = [33, 61]
  · subst h
    have ht : twoP [33, 61] a b = some (oneB (a != b)) := by unfold twoP; rfl
    rw [ht]
    clear ht
    rcases hx : (a != b) with _ | _
    all_goals
      unfold TwoTo
      go_enter Tryz.func159, Tryz.ntmps159
      go_wp2
      go_ret
      exact ⟨rfl, rfl⟩
  have n33_61 : (op == [33, 61]) = false := by simpa using h
  clear h
  by_cases h : op = [60]
  · subst h
    have ht : twoP [60] a b = some (oneB (decide (a < b))) := by unfold twoP; rfl
    rw [ht]
    clear ht
    rcases hx : (decide (a < b)) with _ | _
    all_goals
      unfold TwoTo
      go_enter Tryz.func159, Tryz.ntmps159
      go_wp2
      go_ret
      exact ⟨rfl, rfl⟩
  have n60 : (op == [60]) = false := by simpa using h
  clear h
  by_cases h : op = [60, 61]
  · subst h
    have ht : twoP [60, 61] a b = some (oneB (decide (a ≤ b))) := by unfold twoP; rfl
    rw [ht]
    clear ht
    rcases hx : (decide (a ≤ b)) with _ | _
    all_goals
      unfold TwoTo
      go_enter Tryz.func159, Tryz.ntmps159
      go_wp2
      go_ret
      exact ⟨rfl, rfl⟩
  have n60_61 : (op == [60, 61]) = false := by simpa using h
  clear h
  by_cases h : op = [62]
  · subst h
    have ht : twoP [62] a b = some (oneB (decide (a > b))) := by unfold twoP; rfl
    rw [ht]
    clear ht
    rcases hx : (decide (a > b)) with _ | _
    all_goals
      unfold TwoTo
      go_enter Tryz.func159, Tryz.ntmps159
      go_wp2
      go_ret
      exact ⟨rfl, rfl⟩
  have n62 : (op == [62]) = false := by simpa using h
  clear h
  have ht : twoP op a b = some (oneB (decide (a ≥ b))) := by
    simp only [beq_eq_false_iff_ne, ne_eq] at *
    unfold twoP
    rw [if_neg n43, if_neg n45, if_neg n42, if_neg (by simp [n47, n37]), if_neg n61_61, if_neg n33_61, if_neg n60, if_neg n60_61, if_neg n62]
  rw [ht]
  clear ht
  rcases hx : (decide (a ≥ b)) with _ | _
  all_goals
    unfold TwoTo
    go_enter Tryz.func159, Tryz.ntmps159
    go_wp2
    go_ret
    exact ⟨rfl, rfl⟩
/-- The runner's own cells turn. -/
theorem RAt.own {W W' : World} {b mb : Nat} {L : List Fn} {P M : Nat → Prop} {A : List (Nat × Nat)} {s s' : RS} (h : RAt W b mb L P M A s) (hm : Mods (· = b) W W') (ho : s'.out = s.out) (ha : s'.arrs = s.arrs) (hc : s'.calls ≤ 40) (hf : s'.fuel ≤ 4000000000000000000)
    (hb : ∀ iv ov, Blk W b [.map (some mb), iv, .int .i64 s.fuel, .int .i64 s.calls, ov] 105 → InAt W (fun k => ¬ P k) iv s.inp → ∃ iv', Blk W' b [.map (some mb), iv', .int .i64 s'.fuel, .int .i64 s'.calls, ov] 105 ∧ InAt W (fun k => ¬ P k) iv' s'.inp) : RAt W' b mb L P M A s' := by
  obtain ⟨⟨iv, ov, h1, h2, h3, h4⟩, h5, ⟨h7, n, F, h6, h8⟩, h9, h10, h11, h12, h13, h17, h18, h14, h15, h16⟩ := h
  have hmP : Mods (fun k => ¬ P k) W W' := hm.mono fun k _ hk => by rw [hk]; exact h17 b h5
  obtain ⟨iv', k1, k2⟩ := hb iv ov h1 h2
  refine ⟨⟨iv', ov, k1, k2.mods hmP (fun _ _ k => k), ?_, h4⟩, h5, ⟨h7, n, F, h6.mods hm (fun e => h17 b h5 (e ▸ h7)), fun f x hx => (h8 f x hx).mods hmP (fun _ _ k => k)⟩, by rw [ha]; exact h9, ?_, h11, h12, fun k hk => Nat.lt_of_lt_of_le (h13 k hk) hm.size, h17, fun k hk => Nat.lt_of_lt_of_le (h18 k hk) hm.size, by rw [ho]; exact h14, hc, hf⟩
  · rw [ho]
    exact hm.ownsRow h3 (fun k hk => (h4 k hk).2.1)
  · intro i l hl
    rw [ha] at hl
    obtain ⟨g, e1, e2, e3⟩ := h10 i l hl
    exact ⟨g, e1, e2.mods hm (fun e => (h11 g _ (List.mem_of_getElem? e1)).2 e), e3⟩
theorem RAt.setFuel {W : World} {b mb : Nat} {L : List Fn} {P M : Nat → Prop} {A : List (Nat × Nat)} {s : RS} (h : RAt W b mb L P M A s) (k : Nat) (hk : k ≤ 4000000000000000000) : RAt (W.setCell ⟨b, 2, none⟩ (.int .i64 k)) b mb L P M A { s with fuel := k } :=
  h.own (mods_put _ _ _ _) rfl rfl h.calls hk (fun iv ov h1 h2 => ⟨iv, h1.set 2 _, h2⟩)
theorem RAt.setCalls {W : World} {b mb : Nat} {L : List Fn} {P M : Nat → Prop} {A : List (Nat × Nat)} {s : RS} (h : RAt W b mb L P M A s) (k : Nat) (hk : k ≤ 40) : RAt (W.setCell ⟨b, 3, none⟩ (.int .i64 k)) b mb L P M A { s with calls := k } :=
  h.own (mods_put _ _ _ _) rfl rfl hk h.fuel (fun iv ov h1 h2 => ⟨iv, h1.set 3 _, h2⟩)
theorem RAt.ext {W : World} {b mb : Nat} {L : List Fn} {P M : Nat → Prop} {A : List (Nat × Nat)} {s : RS} (h : RAt W b mb L P M A s) (T : Nat → Prop) (i : Nat) (v : Value) : Ext T M M W (W.setCell ⟨b, i, none⟩ v) :=
  ⟨(mods_put _ _ _ _).mono (fun k _ hk => Or.inr (by rw [hk]; exact h.has)), fun _ _ k => k⟩
/-- How a part ends: what is thrown, or what is told; the runner behind it. -/
def Ran {α : Type} (W : World) (b mb : Nat) (L : List Fn) (P T M : Nat → Prop) (A : List (Nat × Nat)) (ok : α → (Nat → Prop) → List (Nat × Nat) → Ending → World → Prop) : Except Sig α × RS → Ending → World → Prop
  | (.error g, s) => fun e w => Pan g e ∧ ∃ M' A', RAt w b mb L P M' A' s ∧ Ext T M M' W w ∧ A <+: A'
  | (.ok x, s) => fun e w => ∃ M' A', ok x M' A' e w ∧ RAt w b mb L P M' A' s ∧ Ext T M M' W w ∧ A <+: A'
def retT : Unit → (Nat → Prop) → List (Nat × Nat) → Ending → World → Prop := fun _ _ _ e _ => e = .returned (.tuple #[])
def retN : Int → (Nat → Prop) → List (Nat × Nat) → Ending → World → Prop := fun n _ _ e _ => e = .returned (.int .i64 n)
def retV : V → (Nat → Prop) → List (Nat × Nat) → Ending → World → Prop := fun x _ A e _ => ∃ v, e = .returned v ∧ VAt A x v
set_option maxRecDepth 100000 in
theorem step_any (T : Nat → Prop) (b mb : Nat) (L : List Fn) (P M : Nat → Prop) (A : List (Nat × Nat)) (s : RS) (W : World) (r : Except Sig Unit × RS) (h : RAt W b mb L P M A s) (hr : stepR s = some r) :
    Calls Tryz.prog 138 #[.pointer (some ⟨b, 0, none⟩)] W (Ran W b mb L P T M A retT r) := by
  obtain ⟨iv, ov, hb, _⟩ := h.blk
  have c2 : W.cell? ⟨b, 2, none⟩ = some (.int .i64 s.fuel) := hb.cell rfl
  have f2 : W.frozen? ⟨b, 2, none⟩ = false := hb.free 2
  have H := Lib.hid h
  unfold stepR at hr
  by_cases h0 : s.fuel = 0
  · rw [if_pos h0] at hr
    obtain rfl := (Option.some.inj hr).symm
    rw [h0] at c2
    clear h hb hr
    unfold Ran
    go_enter Tryz.func138, Tryz.ntmps138
    go_wp2_with fail
    go_at_call 81
    refine (stop_any 6 _).mono ?_
    rintro e w ⟨⟨older, rfl⟩, rfl⟩
    go_wp2
    exact ⟨rfl, ⟨older, rfl⟩, M, A, H.out, Ext.refl _ _ _, List.prefix_refl _⟩
  · rw [if_neg h0] at hr
    obtain rfl := (Option.some.inj hr).symm
    have hf := h.fuel
    have h0i : ((s.fuel : Int) == 0) = false := by simp; omega
    have hcast : Hid ((s.fuel : Int) - 1 = ((s.fuel - 1 : Nat) : Int)) := Lib.hid (by omega)
    have hs1 : ¬ ((s.fuel : Int) - 1 < -9223372036854775808) := by omega
    clear h hb hr
    unfold Ran
    go_enter Tryz.func138, Tryz.ntmps138
    go_wp2_with fail
    go_end0
    rw [hcast.out]
    exact ⟨M, A, rfl, H.out.setFuel _ (by omega), H.out.ext _ _ _, List.prefix_refl _⟩
/-- The place of a number of an array. -/
theorem place_out (q n : Nat) (i : Int) (W : World) (hn : n ≤ 40) (h : i < 0 ∨ (n : Int) ≤ i) :
    Calls Tryz.prog 140 #[.slice (some ⟨q, 0, none⟩) n n, .int .i64 i] W fun e w => Pan (.stop 3) e ∧ W = w := by
  by_cases h0 : i < 0
  · clear h
    go_enter Tryz.func140, Tryz.ntmps140
    go_wp2_with fail
    go_at_call 81
    refine (stop_any 3 _).mono ?_
    rintro e w ⟨⟨older, rfl⟩, rfl⟩
    go_wp2
    exact ⟨rfl, ⟨older, rfl⟩, rfl⟩
  · have h1 : (n : Int) ≤ i := by omega
    clear h
    go_enter Tryz.func140, Tryz.ntmps140
    go_wp2_with fail
    go_at_call 81
    refine (stop_any 3 _).mono ?_
    rintro e w ⟨⟨older, rfl⟩, rfl⟩
    go_wp2
    exact ⟨rfl, ⟨older, rfl⟩, rfl⟩
theorem place_in (q n : Nat) (i : Int) (W : World) (hn : n ≤ 40) (hi0 : 0 ≤ i) (hi1 : i < n) :
    Calls Tryz.prog 140 #[.slice (some ⟨q, 0, none⟩) n n, .int .i64 i] W fun e w => e = .returned (.pointer (some ⟨q, i.toNat, none⟩)) ∧ W = w := by
  have h0 : ¬ i < 0 := by omega
  have h1 : ¬ (n : Int) ≤ i := by omega
  go_enter Tryz.func140, Tryz.ntmps140
  go_wp2_with fail
  go_ret
  exact ⟨by simp, rfl⟩
set_option maxRecDepth 100000 in
theorem place_none (i : Int) (W : World) :
    Calls Tryz.prog 140 #[.slice none 0 0, .int .i64 i] W fun e w => Pan (.stop 3) e ∧ W = w := by
  by_cases h0 : i < 0
  · go_enter Tryz.func140, Tryz.ntmps140
    go_wp2_with fail
    go_at_call 81
    refine (stop_any 3 _).mono ?_
    rintro e w ⟨⟨older, rfl⟩, rfl⟩
    go_wp2
    exact ⟨rfl, ⟨older, rfl⟩, rfl⟩
  · have h1 : (0 : Int) ≤ i := by omega
    go_enter Tryz.func140, Tryz.ntmps140
    go_wp2_with fail
    go_at_call 81
    refine (stop_any 3 _).mono ?_
    rintro e w ⟨⟨older, rfl⟩, rfl⟩
    go_wp2
    exact ⟨rfl, ⟨older, rfl⟩, rfl⟩
end Go.Proofs.YtdgedlhefjmcpaaGreatDoor.TreeP

/- The runner of steps as it lies in memory; maps by names of any length. Printed by mkmrun.py. Conditions: what it has lies. -/
import Derived.Test.YtnicpmoanjddbaaGreatDoorMidLab
import Derived.Laws.PanicsMore
namespace Go.Proofs.YtnicpmoanjddbaaGreatDoor.MidP
open Go.RowKit Go.Proofs.YtnicpmoanjddbaaGreatDoor.Wo Go.Maps Go.Proofs.YtnicpmoanjddbaaGreatDoor.TreeP
set_option linter.unusedVariables false
set_option linter.unusedSimpArgs false
theorem strKeys : Keyed Tryz.prog 9 := string_keyed Tryz.underlying9
theorem keyStr {s : List UInt8} (hs : s.length ≤ maxLen) : keyOf Tryz.prog 9 (str s) = some (.string s) := by
  have := WideMaps.keyOf_string_mk (P := Tryz.prog) Tryz.underlying9 (s := ⟨s.toArray⟩) (by
    show s.toArray.size ≤ maxLen
    rw [List.size_toArray]
    exact hs)
  exact this
theorem mods_put (W : World) (g i : Nat) (v : Value) : Mods (· = g) W (W.setCell ⟨g, i, none⟩ v) := Mods.setCell (S := (· = g)) (p := ⟨g, i, none⟩) (Mods.refl _ _) (fun _ => rfl) _
def getL (z : Value) : List (List UInt8 × Value) → List UInt8 → Value
  | [], _ => z
  | p :: r, s => if p.1 == s then p.2 else getL z r s
def putL : List (List UInt8 × Value) → List UInt8 → Value → List (List UInt8 × Value)
  | [], s, v => [(s, v)]
  | p :: r, s, v => if p.1 == s then (s, v) :: r else p :: putL r s v
theorem getL_put (z : Value) : (F : List (List UInt8 × Value)) → (s : List UInt8) → (v : Value) → (x : List UInt8) → getL z (putL F s v) x = if x = s then v else getL z F x
  | [], s, v, x => by
    simp only [putL, getL, beq_iff_eq]
    by_cases h : x = s
    · subst h; simp
    · rw [if_neg h, if_neg (fun e => h e.symm)]
  | p :: r, s, v, x => by
    simp only [putL]
    by_cases hp : p.1 = s
    · rw [if_pos (by simpa using hp)]
      simp only [getL, beq_iff_eq]
      by_cases h : x = s
      · subst h; simp
      · rw [if_neg h, if_neg (fun e => h e.symm), if_neg (fun e => h (e.symm.trans hp))]
    · rw [if_neg (by simpa using hp)]
      simp only [getL, beq_iff_eq]
      by_cases h : p.1 = x
      · rw [if_pos h, if_pos h, if_neg]
        rintro rfl
        exact hp h
      · rw [if_neg h, if_neg h, getL_put z r s v x]
/-- A map of names: at each name the value that F says, else z. -/
def NameMap (W : World) (bm n : Nat) (z : Value) (F : List (List UInt8 × Value)) : Prop :=
  ∃ D : DataW Value, W.ownsMap Tryz.prog 9 heldR bm n D ∧ ∀ s : List UInt8, D.atKey (.string s) (.held z) = .held (getL z F s)
theorem NameMap.mods {S : Nat → Prop} {W W' : World} {bm n : Nat} {z : Value} {F : List (List UInt8 × Value)} (h : NameMap W bm n z F) (hm : Mods S W W') (hn : ¬ S bm) : NameMap W' bm n z F := by
  obtain ⟨D, ⟨es, cl, h1, h2⟩, h3⟩ := h
  exact ⟨D, ⟨es, cl, hm.blockOf h1 hn, h2⟩, h3⟩
theorem NameMap.lt {W : World} {bm n : Nat} {z : Value} {F : List (List UInt8 × Value)} (h : NameMap W bm n z F) : bm < W.heap.size := by
  obtain ⟨D, h1, _⟩ := h
  exact h1.lt
theorem NameMap.new (W : World) (z : Value) : NameMap (W.alloc (.map #[] 0)) W.heap.size 0 z [] :=
  ⟨_, World.ownsMap_made _ _ _ _, fun s => rfl⟩
theorem NameMap.look {W : World} {bm n : Nat} {z : Value} {F : List (List UInt8 × Value)} (h : NameMap W bm n z F) {t e : TypeId} (ht : Tryz.prog.underlying t = some (.map 9 e)) (hz : (zeroValue e).run Tryz.prog W = .ok z W) (s : List UInt8) (hs : s.length ≤ maxLen) :
    (Instr.lookup t (.map (some bm)) (str s) false).run Tryz.prog W = .ok (getL z F s) W := by
  obtain ⟨D, h1, h2⟩ := h
  obtain ⟨v, ps, hr, hv⟩ := h1.lookup strKeys ht hz (zd := .held z) (zp := []) rfl (keyStr hs)
  rw [h2 s] at hv
  simp only [heldR, Option.some.injEq, Prod.mk.injEq, DataW.held.injEq] at hv
  rw [hr, hv.1]
theorem NameMap.put {W : World} {bm n : Nat} {z : Value} {F : List (List UInt8 × Value)} (h : NameMap W bm n z F) {t e : TypeId} (ht : Tryz.prog.underlying t = some (.map 9 e)) (s : List UInt8) (hs : s.length ≤ maxLen) (v : Value) (hn : n < maxLen) :
    ∃ w', (Instr.mapUpdate t (.map (some bm)) (str s) v).run Tryz.prog W = .ok () w' ∧ NameMap w' bm (n + 1) z (putL F s v) ∧ Mods (· = bm) W w' := by
  obtain ⟨D, h1, h2⟩ := h
  obtain ⟨w', hr, ho, hg⟩ := h1.update strKeys ht hn (keyStr hs) (d := .held v) (ps := []) rfl
  refine ⟨w', hr, ⟨_, ho, fun x => ?_⟩, Mods.of_grownBy hg (fun k hk _ => by cases hk; rfl)⟩
  rw [getL_put]
  by_cases hx : x = s
  · subst hx
    rw [if_pos rfl, atKey_put_same (k := .string x) h1.isMap (by trivial)]
  · rw [if_neg hx, atKey_put_other (by simpa using hx), h2 x]
def zeroVal : Value := .agg #[.int .i64 0, .slice none 0 0]
def zeroFm : Value := .agg #[.string ⟨#[]⟩, .int .i64 0, .slice none 0 0, .slice none 0 0]
/-- How a value stands; A: the blocks of arrays, and how many numbers each has. -/
def VAt (A : List (Nat × Nat)) (x : V) (v : Value) : Prop :=
  (x.arr = none ∧ v = .agg #[.int .i64 x.n, .slice none 0 0]) ∨ ∃ i g n, x.arr = some i ∧ A[i]? = some (g, n) ∧ v = .agg #[.int .i64 x.n, .slice (some ⟨g, 0, none⟩) n n]
theorem VAt.more {A A' : List (Nat × Nat)} {x : V} {v : Value} (h : VAt A x v) (hA : A <+: A') : VAt A' x v := by
  rcases h with h | ⟨i, g, n, h1, h2, h3⟩
  · exact Or.inl h
  · refine Or.inr ⟨i, g, n, h1, ?_, h3⟩
    obtain ⟨t, rfl⟩ := hA
    rw [List.getElem?_append_left (List.getElem?_eq_some_iff.1 h2).1]
    exact h2
/-- Numbers that are given: only read. -/
def InAt (W : World) (M : Nat → Prop) (v : Value) (l : List Int) : Prop :=
  ∃ a n c, v = .slice a n c ∧ n = l.length ∧ n ≤ c ∧ c ≤ maxLen ∧ (∀ i x, l[i]? = some x → ∃ g o, a = some ⟨g, o, none⟩ ∧ ¬ M g ∧ W.cell? ⟨g, o + i, none⟩ = some (.int .i64 x))
theorem InAt.mods {W W' : World} {S T : Nat → Prop} {v : Value} {l : List Int} (h : InAt W S v l) (hm : Mods S W W') (hT : ∀ k, k < W.heap.size → T k → S k) : InAt W' T v l := by
  obtain ⟨a, n, c, h1, h2, h3, h4, h5⟩ := h
  refine ⟨a, n, c, h1, h2, h3, h4, fun i x hx => ?_⟩
  obtain ⟨g, o, e1, e2, e3⟩ := h5 i x hx
  exact ⟨g, o, e1, fun ht => e2 (hT g (World.block_lt_of_cell? W _ e3) ht), hm.cellOf e3 e2⟩
/-- The runner at b, its map of functions at mb. P: the blocks of what is given; M: the blocks that a run may turn; A: its arrays. -/
structure RAt (W : World) (b mb : Nat) (L : List Fm) (P M : Nat → Prop) (A : List (Nat × Nat)) (s : RS) : Prop where
  blk : ∃ iv ov, Blk W b [.map (some mb), iv, .int .i64 s.fuel, .int .i64 s.calls, ov] 62 ∧ InAt W (fun k => ¬ P k) iv s.inp ∧ W.ownsRow 0 2 1 ov s.out.length (s.out.map (.int .i64)) ∧ (∀ k, ov.ownBlock = some k → M k ∧ k ≠ b ∧ ∀ g n, (g, n) ∈ A → g ≠ k)
  has : M b
  fns : P mb ∧ ∃ n F, NameMap W mb n zeroFm F ∧ ∀ f x, fmOf L f = some x → FmV W (fun k => ¬ P k) x (getL zeroFm F f)
  arrs : A.length = s.arrs.length
  arr : ∀ (i : Nat) (l : List Int), s.arrs[i]? = some l → ∃ g, A[i]? = some (g, l.length) ∧ Blk W g (l.map (.int .i64)) 2 ∧ l.length ≤ 40
  mine : ∀ g n, (g, n) ∈ A → M g ∧ g ≠ b
  apart : A.Pairwise (fun x y => x.1 ≠ y.1)
  old : ∀ k, M k → k < W.heap.size
  off : ∀ k, M k → ¬ P k
  given : ∀ k, P k → k < W.heap.size
  few : s.out.length ≤ 200
  calls : s.calls ≤ 40
  fuel : s.fuel ≤ 4000000000000000000
/-- Only what a run may turn, and T, has turned; what it may turn then it might before, or is new. -/
structure Ext (T M M' : Nat → Prop) (W W' : World) : Prop where
  mods : Mods (fun k => T k ∨ M k) W W'
  back : ∀ k, k < W.heap.size → M' k → M k
theorem Ext.refl (T M : Nat → Prop) (W : World) : Ext T M M W W := ⟨Mods.refl _ _, fun _ _ h => h⟩
theorem Ext.trans {T M M' M'' : Nat → Prop} {W W' W'' : World} (h : Ext T M M' W W') (k : Ext T M' M'' W' W'') : Ext T M M'' W W'' :=
  ⟨h.mods.trans' k.mods (fun i hi hl => hi.imp id (h.back i hl)), fun i hi hm => h.back i hi (k.back i (Nat.lt_of_lt_of_le hi h.mods.size) hm)⟩
theorem Ext.more {T T' M M' : Nat → Prop} {W W' : World} (h : Ext T M M' W W') (hT : ∀ k, k < W.heap.size → T k → T' k) : Ext T' M M' W W' := ⟨h.mods.mono (fun k hk ht => ht.imp (hT k hk) id), h.back⟩
theorem Ext.aside {T S M : Nat → Prop} {W W' : World} (hm : Mods S W W') (hS : ∀ k, k < W.heap.size → S k → T k) : Ext T M M W W' := ⟨hm.mono fun k hk hs => Or.inl (hS k hk hs), fun _ _ h => h⟩
theorem Ext.quiet {T M : Nat → Prop} {W W' : World} (h : Mods None W W') : Ext T M M W W' := Ext.aside h (fun _ _ f => f.elim)
/-- What else turns is nothing to the runner. -/
theorem RAt.aside {W W' : World} {b mb : Nat} {L : List Fm} {P M S : Nat → Prop} {A : List (Nat × Nat)} {s : RS} (h : RAt W b mb L P M A s) (hm : Mods S W W') (hS : ∀ k, S k → ¬ M k ∧ ¬ P k) : RAt W' b mb L P M A s := by
  have hmP : Mods (fun k => ¬ P k) W W' := hm.mono fun k _ f => (hS k f).2
  obtain ⟨⟨iv, ov, h1, h2, h3, h4⟩, h5, ⟨h7, n, F, h6, h8⟩, h9, h10, h11, h12, h13, h17, h18, h14, h15, h16⟩ := h
  exact ⟨⟨iv, ov, h1.mods hm (fun f => (hS _ f).1 h5), h2.mods hmP (fun _ _ k => k), hm.ownsRow h3 (fun k hk f => (hS _ f).1 (h4 k hk).1), h4⟩, h5, ⟨h7, n, F, h6.mods hm (fun f => (hS _ f).2 h7), fun f x hx => (h8 f x hx).mods hmP (fun _ _ k => k)⟩, h9,
    fun i l hl => by obtain ⟨g, e1, e2, e3⟩ := h10 i l hl; exact ⟨g, e1, e2.mods hm (fun f => (hS _ f).1 (h11 g _ (List.mem_of_getElem? e1)).1), e3⟩, h11, h12, fun k hk => Nat.lt_of_lt_of_le (h13 k hk) hm.size, h17, fun k hk => Nat.lt_of_lt_of_le (h18 k hk) hm.size, h14, h15, h16⟩
theorem RAt.quiet {W W' : World} {b mb : Nat} {L : List Fm} {P M : Nat → Prop} {A : List (Nat × Nat)} {s : RS} (h : RAt W b mb L P M A s) (hm : Mods None W W') : RAt W' b mb L P M A s := h.aside hm (fun _ f => f.elim)
def endedV (w : Int) : Value := .iface 64 (.agg #[.int .i64 w])
def sigV : Sig → Value
  | .stop w => endedV w
  | .ret _ => .nilIface
/-- What was thrown before: none ends a goroutine. -/
def Old : Type := { l : List PanicEntry // ∀ x ∈ l, x.goexit = false }
def Old.nil : Old := ⟨[], fun _ h => (by cases h)⟩
/-- It is thrown so. -/
def Pan (g : Sig) (e : Ending) : Prop := ∃ older : Old, e = .panicked ({ v := sigV g, recovered := false } :: older.1)
/-- The runner's own cells turn. -/
theorem RAt.own {W W' : World} {b mb : Nat} {L : List Fm} {P M : Nat → Prop} {A : List (Nat × Nat)} {s s' : RS} (h : RAt W b mb L P M A s) (hm : Mods (· = b) W W') (ho : s'.out = s.out) (ha : s'.arrs = s.arrs) (hc : s'.calls ≤ 40) (hf : s'.fuel ≤ 4000000000000000000)
    (hb : ∀ iv ov, Blk W b [.map (some mb), iv, .int .i64 s.fuel, .int .i64 s.calls, ov] 62 → InAt W (fun k => ¬ P k) iv s.inp → ∃ iv', Blk W' b [.map (some mb), iv', .int .i64 s'.fuel, .int .i64 s'.calls, ov] 62 ∧ InAt W (fun k => ¬ P k) iv' s'.inp) : RAt W' b mb L P M A s' := by
  obtain ⟨⟨iv, ov, h1, h2, h3, h4⟩, h5, ⟨h7, n, F, h6, h8⟩, h9, h10, h11, h12, h13, h17, h18, h14, h15, h16⟩ := h
  have hmP : Mods (fun k => ¬ P k) W W' := hm.mono fun k _ hk => by rw [hk]; exact h17 b h5
  obtain ⟨iv', k1, k2⟩ := hb iv ov h1 h2
  refine ⟨⟨iv', ov, k1, k2.mods hmP (fun _ _ k => k), ?_, h4⟩, h5, ⟨h7, n, F, h6.mods hm (fun e => h17 b h5 (e ▸ h7)), fun f x hx => (h8 f x hx).mods hmP (fun _ _ k => k)⟩, by rw [ha]; exact h9, ?_, h11, h12, fun k hk => Nat.lt_of_lt_of_le (h13 k hk) hm.size, h17, fun k hk => Nat.lt_of_lt_of_le (h18 k hk) hm.size, by rw [ho]; exact h14, hc, hf⟩
  · rw [ho]
    exact hm.ownsRow h3 (fun k hk => (h4 k hk).2.1)
  · intro i l hl
    rw [ha] at hl
    obtain ⟨g, e1, e2, e3⟩ := h10 i l hl
    exact ⟨g, e1, e2.mods hm (fun e => (h11 g _ (List.mem_of_getElem? e1)).2 e), e3⟩
theorem RAt.setFuel {W : World} {b mb : Nat} {L : List Fm} {P M : Nat → Prop} {A : List (Nat × Nat)} {s : RS} (h : RAt W b mb L P M A s) (k : Nat) (hk : k ≤ 4000000000000000000) : RAt (W.setCell ⟨b, 2, none⟩ (.int .i64 k)) b mb L P M A { s with fuel := k } :=
  h.own (mods_put _ _ _ _) rfl rfl h.calls hk (fun iv ov h1 h2 => ⟨iv, h1.set 2 _, h2⟩)
theorem RAt.setCalls {W : World} {b mb : Nat} {L : List Fm} {P M : Nat → Prop} {A : List (Nat × Nat)} {s : RS} (h : RAt W b mb L P M A s) (k : Nat) (hk : k ≤ 40) : RAt (W.setCell ⟨b, 3, none⟩ (.int .i64 k)) b mb L P M A { s with calls := k } :=
  h.own (mods_put _ _ _ _) rfl rfl hk h.fuel (fun iv ov h1 h2 => ⟨iv, h1.set 3 _, h2⟩)
theorem RAt.ext {W : World} {b mb : Nat} {L : List Fm} {P M : Nat → Prop} {A : List (Nat × Nat)} {s : RS} (h : RAt W b mb L P M A s) (T : Nat → Prop) (i : Nat) (v : Value) : Ext T M M W (W.setCell ⟨b, i, none⟩ v) :=
  ⟨(mods_put _ _ _ _).mono (fun k _ hk => Or.inr (by rw [hk]; exact h.has)), fun _ _ k => k⟩
/-- How a part ends: what is thrown, or what is told; the runner behind it. -/
def Ran {α : Type} (W : World) (b mb : Nat) (L : List Fm) (P T M : Nat → Prop) (A : List (Nat × Nat)) (ok : α → (Nat → Prop) → List (Nat × Nat) → Ending → World → Prop) : Except Sig α × RS → Ending → World → Prop
  | (.error g, s) => fun e w => Pan g e ∧ ∃ M' A', RAt w b mb L P M' A' s ∧ Ext T M M' W w ∧ A <+: A'
  | (.ok x, s) => fun e w => ∃ M' A', ok x M' A' e w ∧ RAt w b mb L P M' A' s ∧ Ext T M M' W w ∧ A <+: A'
def retT : Unit → (Nat → Prop) → List (Nat × Nat) → Ending → World → Prop := fun _ _ _ e _ => e = .returned (.tuple #[])
def retN : Int → (Nat → Prop) → List (Nat × Nat) → Ending → World → Prop := fun n _ _ e _ => e = .returned (.int .i64 n)
def retV : V → (Nat → Prop) → List (Nat × Nat) → Ending → World → Prop := fun x _ A e _ => ∃ v, e = .returned v ∧ VAt A x v
end Go.Proofs.YtnicpmoanjddbaaGreatDoor.MidP

/- A range over a function whose iterator turns cells of its own: a law that is told what the iterator does. No program in sight. No conditions. -/
import Derived.RangeFuncNested
import Derived.RangeFuncBound
import Derived.RangeFuncCalls
import Derived.RangeFuncLeaves
import Derived.WalkKit
import Derived.Test.YtodgkbcgdbhpeaaGreatDoorMods
namespace Go.Proofs.YtodgkbcgdbhpeaaGreatDoor.RangeP
open Go.RowKit
set_option linter.unusedVariables false
set_option linter.unusedSimpArgs false
/-- The two blocks in which a loop is kept lie as they lay. -/
def Both (b : Nat) (A B : World) : Prop := ∀ k, k = b ∨ k = b + 1 → B.heap[k]? = A.heap[k]?
theorem Both.refl (b : Nat) (A : World) : Both b A A := fun _ _ => rfl
theorem Both.trans {b : Nat} {A B C : World} (h : Both b A B) (k : Both b B C) : Both b A C := fun i hi => (k i hi).trans (h i hi)
/-- Blocks (Q) ahead of the loop that a round keeps. -/
def Keeps (Q : Nat → Prop) (b : Nat) (A B : World) : Prop := ∀ k, k < b → Q k → B.heap[k]? = A.heap[k]?
theorem Keeps.refl (Q : Nat → Prop) (b : Nat) (A : World) : Keeps Q b A A := fun _ _ _ => rfl
/-- How a round's body may end. -/
def roundEnd {α : Type} (Q : Nat → Prop) (b : Nat) (J : List α → World → Prop) (Jx : Code → List α → World → Prop) (xs : List α) (W : World) : Exit → Act → World → Prop
  | .normal, _, W' => Both b W W' ∧ Keeps Q b W W' ∧ J xs W'
  | .ret, _, W' => Both b W W' ∧ Jx .ret xs W'
  | .exit id, _, W' => Both b W W' ∧ Jx (.exit id) xs W'
  | .goto t, _, W' => Both b W W' ∧ Jx (.goto t) xs W'
  | .panic _, _, _ => False
  | .outgrown, _, _ => False
/-- What abides a turn of the loop's own record. -/
def Abides {β : Type} (b : Nat) (J : β → World → Prop) : Prop := ∀ (s : β) (A : World) (l : Nat) (o o' : Obj), b ≤ l → A.heap[l]? = some o → o.isCells = false → J s A → J s (A.putObj l o')
/-- What the iterator does, of whatever the caller holds: R, R' are the caller's book-keeping. -/
def IterDoes {α : Type} (Q : Nat → Prop) (n : Nat) (P : Program) (gf : Nat) (lb : Array Value) (encs : α → Array Value) (J : List α → World → Prop) (Jx : Code → List α → World → Prop) (S Sp : List α → Prop) (b : Nat) : Prop :=
  ∀ (R : World → Prop) (R' : Code → World → Prop), (∀ A B, Both b A B → R A → R B) → (∀ c A B, Both b A B → R' c A → R' c B) →
    ∀ W1 : World, b + 2 ≤ W1.heap.size → J [] W1 → R W1 →
      (∀ pre x W, J pre W → R W → Sp (pre ++ [x]) → YieldAt Fence.wide (n - 1) P (b + 1) (encs x) W fun e W' =>
        (e = .returned (.bool true) ∧ J (pre ++ [x]) W' ∧ R W' ∧ Keeps Q b W W') ∨ (e = .returned (.bool false) ∧ ∃ c, Jx c (pre ++ [x]) W' ∧ R' c W')) →
      CallsIn Fence.wide n P gf (#[.func (.yield (b + 1)) #[] #[]] ++ lb) W1 fun e W' => (∃ v, e = .returned v) ∧ ((∃ xs, S xs ∧ J xs W' ∧ R W') ∨ (∃ pre c, Jx c pre W' ∧ R' c W'))
/-- How a loop is kept, from block b on: what is deferred, and its record. -/
structure LoopAt (b : Nat) (r : Loop) (W : World) : Prop where
  record : W.heap[b + 1]? = some (.loop r)
  later : W.heap[b]? = some (.deferred (some []))
theorem LoopAt.both {b : Nat} {r : Loop} {A B : World} (h : LoopAt b r A) (k : Both b A B) : LoopAt b r B := ⟨(k _ (.inr rfl)).trans h.record, (k _ (.inl rfl)).trans h.later⟩
theorem LoopAt.room {b : Nat} {r : Loop} {W : World} (h : LoopAt b r W) : b + 2 ≤ W.heap.size := (Array.getElem?_eq_some_iff.1 h.record).1
theorem LoopAt.turn {b : Nat} {r : Loop} {W : World} (h : LoopAt b r W) (q : Loop) : LoopAt b q (W.putObj (b + 1) (.loop q)) :=
  ⟨World.putObj_heap_same h.room, (World.putObj_heap_other (Nat.ne_of_lt (Nat.lt_succ_self b))).trans h.later⟩
theorem Abides.turn {β : Type} {b : Nat} {J : β → World → Prop} (hJ : Abides b J) {s : β} {r : Loop} {W : World} (hL : LoopAt b r W) (h : J s W) (q : Loop) : J s (W.putObj (b + 1) (.loop q)) :=
  hJ s W _ _ _ (Nat.le_succ b) hL.record rfl h
/-- The jump that a round's body has taken. -/
def jumpOf : Exit → Option Code
  | .ret => some .ret
  | .exit id => some (.exit id)
  | .goto t => some (.goto t)
  | _ => none
/-- A loop's record, in a state, with a jump that waits. -/
def recOf (fn : FuncId) (a : Act) (ps : Array Tmp) (assign body : Code) (b : Nat) (st : LoopState) (j : Option Code) : Loop := { state := st, pending := j, fn := fn, tmps := a.tmps, params := ps, assign := assign, body := body, defers := b }
/-- One round is over. -/
theorem round_over {α : Type} {Q : Nat → Prop} {P : Program} {b : Nat} {fn : FuncId} {a : Act} {ps : Array Tmp} {assign body : Code} {J : List α → World → Prop} {Jx : Code → List α → World → Prop} (hJ : Abides b J) (hJx : ∀ c, Abides b (Jx c)) {xs : List α} {W2 W3 : World} {e : Exit} {a3 : Act}
    (hL : LoopAt b (recOf fn a ps assign body b .busy none) W2) (h : roundEnd Q b J Jx xs W2 e a3 W3) :
    ∃ v W', (Instr.endRound (b + 1) (jumpOf e)).run P W3 = .ok v W' ∧ ((v = .bool true ∧ (J xs W' ∧ Keeps Q b W2 W') ∧ LoopAt b (recOf fn a ps assign body b .ready none) W') ∨ (v = .bool false ∧ ∃ c, Jx c xs W' ∧ LoopAt b (recOf fn a ps assign body b .done (some c)) W')) := by
  have key : ∀ (j : Option Code), Both b W2 W3 → (Instr.endRound (b + 1) j).run P W3 = .ok (.bool j.isNone) (W3.putObj (b + 1) (.loop (recOf fn a ps assign body b (if j.isNone then .ready else .done) j))) :=
    fun j hk => run_endRound (P := P) j (hL.both hk).record
  have out : ∀ c : Code, Both b W2 W3 → Jx c xs W3 → ∃ v W', (Instr.endRound (b + 1) (some c)).run P W3 = .ok v W' ∧ ((v = .bool true ∧ (J xs W' ∧ Keeps Q b W2 W') ∧ LoopAt b (recOf fn a ps assign body b .ready none) W') ∨ (v = .bool false ∧ ∃ c, Jx c xs W' ∧ LoopAt b (recOf fn a ps assign body b .done (some c)) W')) :=
    fun c hk hi => ⟨_, _, key (some c) hk, .inr ⟨rfl, c, (hJx c).turn (hL.both hk) hi _, (hL.both hk).turn _⟩⟩
  cases e with
  | normal => exact ⟨_, _, key none h.1, .inl ⟨rfl, ⟨hJ.turn (hL.both h.1) h.2.2 _, fun k hk hq => (World.putObj_heap_other (by omega)).trans (h.2.1 k hk hq)⟩, (hL.both h.1).turn _⟩⟩
  | ret => exact out .ret h.1 h.2
  | exit id => exact out (.exit id) h.1 h.2
  | goto t => exact out (.goto t) h.1 h.2
  | panic ch => exact False.elim h
  | outgrown => exact False.elim h
theorem range_law {α : Type} {K : Nat → Prop} {n : Nat} {P : Program} {g : Operand} {ps : Array Tmp} {assign body : Code} {Q : Exit → Act → World → Prop} {a : Act} {w : World}
    {gf : Nat} {lb : Array Value} (hg : a.eval g = .func (.func gf) #[] lb) (eg : ∀ args w, (callFunc gf args).run P w = .ok (.enter gf args) w)
    {encs : α → Array Value} (hps : ∀ x, (encs x).size = ps.size) {S Sp : List α → Prop}
    (J : List α → World → Prop) (Jx : Code → List α → World → Prop) (hJ : Abides w.heap.size J) (hJx : ∀ c, Abides w.heap.size (Jx c))
    (h0 : ∀ o1 o2, J [] ((w.alloc o1).alloc o2)) (a₁ : α → Act)
    (hassign : ∀ (l : Nat) (x : α) (W : World) (K : Act → World → Prop), K (a₁ x) W →
      assign.wpIn (Fence.wide.inRound l) (n - 1 - 1) P (Exit.then K (fun _ _ _ => False)) { tmps := (ps.zip (encs x)).foldl (fun t (p, v) => t.setIfInBounds p v) a.tmps, defers := [] } W)
    (hbody : ∀ (pre : List α) (x : α) (W : World), w.heap.size + 2 ≤ W.heap.size → Sp (pre ++ [x]) → J pre W → body.wpIn (Fence.wide.inRound (w.heap.size + 1)) (n - 1 - 1) P (roundEnd K w.heap.size J Jx (pre ++ [x]) W) (a₁ x) W)
    (hiter : IterDoes K (n - 1) P gf lb encs J Jx S Sp w.heap.size)
    (hdone : ∀ (xs : List α) (W : World), S xs → J xs W → W.heap[w.heap.size]? = some (.deferred (some [])) → Q .normal { a with defers := { target := .collected w.heap.size, args := #[] } :: a.defers } W)
    (hstop : ∀ (c : Code) (pre : List α) (W : World), Jx c pre W → W.heap[w.heap.size]? = some (.deferred (some [])) → c.wpIn Fence.wide n P Q { a with defers := { target := .collected w.heap.size, args := #[] } :: a.defers } W) :
    (Code.rangeFunc g ps assign body).wpIn Fence.wide n P Q a w := by
  refine wpIn_rangeFunc fun fn hfn => ?_
  obtain ⟨W1, hW1⟩ : ∃ W1, (w.alloc (.deferred (some []))).alloc (.loop (recOf fn a ps assign body w.heap.size .ready none)) = W1 := ⟨_, rfl⟩
  have hL1 : LoopAt w.heap.size (recOf fn a ps assign body w.heap.size .ready none) W1 := by
    rw [← hW1]
    refine ⟨?_, ?_⟩
    · have := World.alloc_heap_new (w.alloc (.deferred (some []))) (.loop (recOf fn a ps assign body w.heap.size .ready none))
      rwa [World.size_alloc] at this
    · exact (Below.heap_alloc _ _ _ (by simp)).trans (World.alloc_heap_new w _)
  refine ⟨w.heap.size + 1, [{ target := .collected w.heap.size, args := #[] }], W1, { target := .fn (.func gf) lb, args := #[.func (.yield (w.heap.size + 1)) #[] #[]] }, W1, gf, _, W1,
    (by rw [← hW1]; exact run_enterLoop_outer _ _ _ _ _), (by simp only [resolve, hg]; simp [go_sem]), (fun f' h => by simp [Target.leads] at h; subst h; trivial), (by simp [invoke, go_sem, eg]; rfl), (fun h => by cases h), ?_⟩
  refine (hiter (LoopAt w.heap.size (recOf fn a ps assign body w.heap.size .ready none)) (fun c => LoopAt w.heap.size (recOf fn a ps assign body w.heap.size .done (some c)))
    (fun A B hk h => h.both hk) (fun c A B hk h => h.both hk) W1 hL1.room (by rw [← hW1]; exact h0 _ _) hL1 ?_).mono ?_
  · intro pre x W hi hL hSp
    refine ⟨fn, _, assign, body, run_yield (P := P) hL.record (hps x), roundIn_of_wpIn hfn (hassign _ x W _ ⟨_, run_beginRound hL.record rfl, ?_⟩)⟩
    have hL2 : LoopAt w.heap.size (recOf fn a ps assign body w.heap.size .busy none) (W.putObj (w.heap.size + 1) (.loop (recOf fn a ps assign body w.heap.size .busy none))) := hL.turn _
    refine wpIn_mono (hbody pre x _ hL2.room hSp (hJ.turn hL hi _)) fun e a3 W3 hp => ?_
    obtain ⟨v, W', h1, h2⟩ := round_over (P := P) hJ hJx hL2 hp
    have h2' : (Ending.returned v = .returned (.bool true) ∧ J (pre ++ [x]) W' ∧ LoopAt w.heap.size (recOf fn a ps assign body w.heap.size .ready none) W' ∧ Keeps K w.heap.size W W') ∨ (Ending.returned v = .returned (.bool false) ∧ ∃ c, Jx c (pre ++ [x]) W' ∧ LoopAt w.heap.size (recOf fn a ps assign body w.heap.size .done (some c)) W') := by
      rcases h2 with ⟨rfl, h⟩ | ⟨rfl, h⟩
      · exact .inl ⟨rfl, h.1.1, h.2, fun k hk hq => (h.1.2 k hk hq).trans (World.putObj_heap_other (by omega))⟩
      · exact .inr ⟨rfl, h⟩
    cases e with
    | panic ch => exact False.elim hp
    | outgrown => exact False.elim hp
    | normal => exact ⟨_, _, h1, h2'⟩
    | ret => exact ⟨_, _, h1, h2'⟩
    | exit id => exact ⟨_, _, h1, h2'⟩
    | goto t => exact ⟨_, _, h1, h2'⟩
  · rintro e W2 ⟨⟨v, rfl⟩, (⟨xs, hS, hi, hL⟩ | ⟨pre, c, hi, hL⟩)⟩
    · exact ⟨none, _, run_endLoop (P := P) hL.record (by simp [recOf]), hdone xs _ hS (hJ.turn hL hi _) (hL.turn _).later⟩
    · exact ⟨some c, _, run_endLoop (P := P) hL.record (by simp [recOf]), hstop c pre _ ((hJx c).turn hL hi _) (hL.turn _).later⟩
end Go.Proofs.YtodgkbcgdbhpeaaGreatDoor.RangeP

/- How a walk through the reader goes on behind a call of one of its parts. No conditions. -/
import Derived.Test.YtinbahmpifokaaaDoorTreeEx
import Derived.Test.YtinbahmpifokaaaDoorTreeLen
namespace Go.Proofs.YtinbahmpifokaaaDoor.TreeP
open Go.RowKit Go.Proofs.YtinbahmpifokaaaDoor.Wo
set_option linter.unusedVariables false
set_option linter.unusedSimpArgs false
/-- The memory that a reader needs: the parser at b, the levels; S: old blocks, b of them. -/
structure Rd (W : World) (b : Nat) (S : Nat → Prop) (ts : List Tok) : Prop where
  par : Par W b ts
  lev : Levels W b
  rng : RangeAt W b
  has : S b
  old : ∀ k, S k → k < W.heap.size
theorem Rd.next {W W' : World} {b : Nat} {S : Nat → Prop} {ts r : List Tok} (h : Rd W b S ts) (hp : Par W' b r) (hm : Mods (· = b) W W') : Rd W' b S r :=
  ⟨hp, h.lev.mods hm, h.rng.far hm (fun k hk => Nat.le_of_eq hk.symm), h.has, fun k hk => Nat.lt_of_lt_of_le (h.old k hk) hm.size⟩
theorem Rd.quiet {W W' : World} {b : Nat} {S : Nat → Prop} {ts : List Tok} (h : Rd W b S ts) (hm : Mods None W W') : Rd W' b S ts :=
  h.next (h.par.mods hm) (hm.mono fun _ _ f => f.elim)
/-- How many tokens are left. -/
def lenOf (W : World) (b : Nat) : Nat := match W.cell? ⟨b, 0, none⟩ with
  | some (.slice _ n _) => n
  | _ => 0
theorem Par.len {W : World} {b : Nat} {ts : List Tok} (h : Par W b ts) : lenOf W b = ts.length := by
  obtain ⟨g, o, c, h⟩ := h
  have := h.blk.cell (i := 0) rfl
  unfold lenOf
  rw [this]
def ExIs (S : Nat → Prop) (e : Ex) (v : Value) (W : World) : Prop := ExAt W S e v
theorem ExAt.by {W W' : World} {b : Nat} {S : Nat → Prop} {ts : List Tok} {e : Ex} {v : Value} (h : ExAt W S e v) (hR : Rd W b S ts) (hm : Mods (· = b) W W') : ExAt W' S e v :=
  h.mods (hm.mono fun k _ hk => by rw [hk]; exact hR.has)
/-- What a part of the reader that is called says, and how one goes on behind it. -/
theorem bind_of {α β : Type} {b : Nat} {S : Nat → Prop} {W0 W : World} {ts : List Tok} {p : PR α} {k : α → List Tok → PR β} {x : Except (Int × Int) (β × List Tok)} {F : FuncId} {args : Array Value} {V : α → Value → World → Prop} {Q : Ending → World → Prop}
    (hM : Hid (Mods (· = b) W0 W)) (hR : Hid (Rd W b S ts)) (hx : Hid (andThen p k = some x))
    (hc : ∀ y, p = some y → Calls Tryd.prog F args W (Got (· = b) W b V (some y)))
    (herr : ∀ n a, x = .error (n, a) → ∀ g w, Hid (Blk w g [.int .i64 n, .int .i64 a] 74) → Hid (Mods (· = b) W0 w) → Q (.panicked [{ v := wrongV g, recovered := false }]) w)
    (hok : ∀ v r, Hid (p = some (.ok (v, r))) → Hid (k v r = some x) → ∀ xv w, V v xv w → Hid (Rd w b S r) → Hid (Mods (· = b) W w) → Hid (Mods (· = b) W0 w) → Q (.returned xv) w) :
    Calls Tryd.prog F args W Q := by
  have hx := hx.out
  cases hp : p with
  | none => rw [hp] at hx; cases hx
  | some y =>
    refine (hc y hp).mono ?_
    intro e w h
    rw [hp] at hx
    cases y with
    | error q =>
      obtain ⟨n, a⟩ := q
      obtain ⟨g, rfl, hb, hm⟩ := h
      exact herr n a (Option.some.inj hx).symm g w (Lib.hid hb) (Lib.hid (hM.out.trans hm))
    | ok q =>
      obtain ⟨v, r⟩ := q
      obtain ⟨xv, rfl, hv, hpar, hm⟩ := h
      exact hok v r (Lib.hid hp) (Lib.hid hx) xv w hv (Lib.hid (hR.out.next hpar hm)) (Lib.hid hm) (Lib.hid (hM.out.trans hm))
/-- The same, where nothing comes behind it. -/
theorem tail_of {β : Type} {b : Nat} {S : Nat → Prop} {W0 W : World} {ts : List Tok} {p : PR β} {x : Except (Int × Int) (β × List Tok)} {F : FuncId} {args : Array Value} {V : β → Value → World → Prop} {Q : Ending → World → Prop}
    (hM : Hid (Mods (· = b) W0 W)) (hR : Hid (Rd W b S ts)) (hx : Hid (p = some x))
    (hc : ∀ y, p = some y → Calls Tryd.prog F args W (Got (· = b) W b V (some y)))
    (herr : ∀ n a, x = .error (n, a) → ∀ g w, Hid (Blk w g [.int .i64 n, .int .i64 a] 74) → Hid (Mods (· = b) W0 w) → Q (.panicked [{ v := wrongV g, recovered := false }]) w)
    (hok : ∀ v r, x = .ok (v, r) → ∀ xv w, V v xv w → Hid (Rd w b S r) → Hid (Mods (· = b) W w) → Hid (Mods (· = b) W0 w) → Q (.returned xv) w) :
    Calls Tryd.prog F args W Q := by
  have hx := hx.out
  refine (hc x hx).mono ?_
  intro e w h
  cases x with
  | error q =>
    obtain ⟨n, a⟩ := q
    obtain ⟨g, rfl, hb, hm⟩ := h
    exact herr n a rfl g w (Lib.hid hb) (Lib.hid (hM.out.trans hm))
  | ok q =>
    obtain ⟨v, r⟩ := q
    obtain ⟨xv, rfl, hv, hpar, hm⟩ := h
    exact hok v r rfl xv w hv (Lib.hid (hR.out.next hpar hm)) (Lib.hid hm) (Lib.hid (hM.out.trans hm))
theorem bind_cases {α β : Type} {p : PR α} {k : α → List Tok → PR β} {x : Except (Int × Int) (β × List Tok)} (hx : Hid (andThen p k = some x)) :
    (∃ n a, p = some (.error (n, a)) ∧ x = .error (n, a)) ∨ ∃ v r, p = some (.ok (v, r)) ∧ Hid (k v r = some x) := by
  have hx := hx.out
  cases hp : p with
  | none => rw [hp] at hx; cases hx
  | some y =>
    rw [hp] at hx
    cases y with
    | error q => exact Or.inl ⟨q.1, q.2, rfl, (Option.some.inj hx).symm⟩
    | ok q => exact Or.inr ⟨q.1, q.2, rfl, Lib.hid hx⟩
/-- A mark or a word that must stand there. -/
theorem must_any (b : Nat) (s : List UInt8) (ts : List Tok) (W : World) (h : Par W b ts) :
    Calls Tryd.prog 21 #[.pointer (some ⟨b, 0, none⟩), str s] W (Got (· = b) W b (fun (_ : Unit) v _ => v = .tuple #[]) (must s ts)) := by
  unfold must
  cases hs : seeB s ts
  · rw [if_neg (by simp)]
    exact (must_no b s ts W h hs).mono fun e w k => k.mono fun _ f => f.elim
  · rw [if_pos rfl]
    exact (must_yes b s ts W h hs).mono fun e w k => ⟨_, k.1, rfl, k.2.1, k.2.2⟩
theorem must_of {β : Type} {b : Nat} {S : Nat → Prop} {W0 W : World} {s : List UInt8} {ts : List Tok} {k : Unit → List Tok → PR β} {x : Except (Int × Int) (β × List Tok)} {Q : Ending → World → Prop}
    (hM : Hid (Mods (· = b) W0 W)) (hR : Hid (Rd W b S ts)) (hx : Hid (andThen (must s ts) k = some x))
    (herr : ∀ n a, x = .error (n, a) → ∀ g w, Hid (Blk w g [.int .i64 n, .int .i64 a] 74) → Hid (Mods (· = b) W0 w) → Q (.panicked [{ v := wrongV g, recovered := false }]) w)
    (hok : ∀ r, Hid (seeB s ts = true ∧ r = ts.tail) → Hid (k () r = some x) → ∀ w, Hid (Rd w b S r) → Hid (Mods (· = b) W w) → Hid (Mods (· = b) W0 w) → Q (.returned (.tuple #[])) w) :
    Calls Tryd.prog 21 #[.pointer (some ⟨b, 0, none⟩), str s] W Q := by
  refine bind_of hM hR hx (fun y hy => hy ▸ must_any b s ts W hR.out.par) herr ?_
  rintro v r hp hk xv w rfl h1 h2 h3
  have := must_ok hp.out
  exact hok r (Lib.hid ⟨this.2, this.1⟩) hk w h1 h2 h3
theorem name_of {β : Type} {b : Nat} {S : Nat → Prop} {W0 W : World} {ts : List Tok} {k : List UInt8 → List Tok → PR β} {x : Except (Int × Int) (β × List Tok)} {Q : Ending → World → Prop}
    (hM : Hid (Mods (· = b) W0 W)) (hR : Hid (Rd W b S ts)) (hx : Hid (andThen (nameP ts) k = some x))
    (herr : ∀ n a, x = .error (n, a) → ∀ g w, Hid (Blk w g [.int .i64 n, .int .i64 a] 74) → Hid (Mods (· = b) W0 w) → Q (.panicked [{ v := wrongV g, recovered := false }]) w)
    (hok : ∀ s r, Hid (nameP ts = some (.ok (s, r))) → Hid (k s r = some x) → ∀ w, Hid (Rd w b S r) → Hid (Mods (· = b) W w) → Hid (Mods (· = b) W0 w) → Q (.returned (.string ⟨s.toArray⟩)) w) :
    Calls Tryd.prog 22 #[.pointer (some ⟨b, 0, none⟩)] W Q := by
  refine bind_of hM hR hx (fun y hy => hy ▸ name_any b ts W hR.out.par) herr ?_
  rintro v r hp hk xv w rfl h1 h2 h3
  exact hok v r hp hk w h1 h2 h3
theorem take_of {β : Type} {b : Nat} {S : Nat → Prop} {W0 W : World} {s : List UInt8} {ts : List Tok} {A B x : β} {Q : Ending → World → Prop}
    (hM : Hid (Mods (· = b) W0 W)) (hR : Hid (Rd W b S ts)) (hx : Hid ((if seeB s ts then A else B) = x))
    (hyes : Hid (seeB s ts = true) → Hid (A = x) → ∀ w, Hid (Rd w b S ts.tail) → Hid (Mods (· = b) W w) → Hid (Mods (· = b) W0 w) → Q (.returned (.bool true)) w)
    (hno : Hid (seeB s ts = false) → Hid (B = x) → Q (.returned (.bool false)) W) :
    Calls Tryd.prog 23 #[.pointer (some ⟨b, 0, none⟩), str s] W Q := by
  have hx := hx.out
  cases hs : seeB s ts
  · rw [hs, if_neg (by simp)] at hx
    refine (take_no b s ts W hR.out.par hs).mono ?_
    rintro e w ⟨rfl, rfl⟩
    exact hno (Lib.hid hs) (Lib.hid hx)
  · rw [hs, if_pos rfl] at hx
    refine (take_yes b s ts W hR.out.par hs).mono ?_
    rintro e w ⟨rfl, hp, hm⟩
    exact hyes (Lib.hid hs) (Lib.hid hx) w (Lib.hid (hR.out.next hp hm)) (Lib.hid hm) (Lib.hid (hM.out.trans hm))
theorem see_of {β : Type} {b : Nat} {S : Nat → Prop} {W : World} {s : List UInt8} {ts : List Tok} {A B x : β} {Q : Ending → World → Prop}
    (hR : Hid (Rd W b S ts)) (hx : Hid ((if seeB s ts then A else B) = x))
    (hyes : Hid (seeB s ts = true) → Hid (A = x) → Q (.returned (.bool true)) W)
    (hno : Hid (seeB s ts = false) → Hid (B = x) → Q (.returned (.bool false)) W) :
    Calls Tryd.prog 36 #[.pointer (some ⟨b, 0, none⟩), str s] W Q := by
  have hx := hx.out
  refine (see_any b s ts W hR.out.par).mono ?_
  rintro e w ⟨rfl, rfl⟩
  cases hs : seeB s ts
  · rw [hs, if_neg (by simp)] at hx
    exact hno (Lib.hid hs) (Lib.hid hx)
  · rw [hs, if_pos rfl] at hx
    exact hyes (Lib.hid hs) (Lib.hid hx)
theorem fail_of {b : Nat} {S : Nat → Prop} {W0 W : World} {ts : List Tok} {β : Type} {n : Int} {x : Except (Int × Int) (β × List Tok)} {Q : Ending → World → Prop}
    (hM : Hid (Mods (· = b) W0 W)) (hR : Hid (Rd W b S ts)) (hx : Hid ((failP n ts : PR β) = some x))
    (herr : ∀ n a, x = .error (n, a) → ∀ g w, Hid (Blk w g [.int .i64 n, .int .i64 a] 74) → Hid (Mods (· = b) W0 w) → Q (.panicked [{ v := wrongV g, recovered := false }]) w) :
    Calls Tryd.prog 13 #[.pointer (some ⟨b, 0, none⟩), .int .i64 n] W Q := by
  refine (fail_any b n ts W hR.out.par).mono ?_
  rintro e w ⟨g, rfl, hb, hm⟩
  exact herr n (headAt ts) (Option.some.inj hx.out).symm g w (Lib.hid hb) (Lib.hid (hM.out.trans (hm.mono fun _ _ f => f.elim)))
/-- What parts of the reader say, with so many rounds. -/
def ExprC (f : Nat) : Prop := ∀ (b : Nat) (S : Nat → Prop) (level deep : Nat) (ts : List Tok) (W : World) (x : Except (Int × Int) (Ex × List Tok)), level ≤ 6 → deep ≤ 14 → Rd W b S ts → exprF f level deep ts = some x →
  Calls Tryd.prog 48 #[.pointer (some ⟨b, 0, none⟩), .int .i64 level, .int .i64 deep] W (Got (· = b) W b (ExIs S) (some x))
def UnaryC (f : Nat) : Prop := ∀ (b : Nat) (S : Nat → Prop) (deep : Nat) (ts : List Tok) (W : World) (x : Except (Int × Int) (Ex × List Tok)), deep ≤ 14 → Rd W b S ts → unaryF f deep ts = some x →
  Calls Tryd.prog 52 #[.pointer (some ⟨b, 0, none⟩), .int .i64 deep] W (Got (· = b) W b (ExIs S) (some x))
def FirstC (f : Nat) : Prop := ∀ (b : Nat) (S : Nat → Prop) (deep : Nat) (ts : List Tok) (W : World) (x : Except (Int × Int) (Ex × List Tok)), deep ≤ 13 → Rd W b S ts → firstF f deep ts = some x →
  Calls Tryd.prog 59 #[.pointer (some ⟨b, 0, none⟩), .int .i64 deep] W (Got (· = b) W b (ExIs S) (some x))
def AloneC (f : Nat) : Prop := ∀ (b : Nat) (S : Nat → Prop) (deep : Nat) (ts : List Tok) (W : World) (x : Except (Int × Int) (Ex × List Tok)), deep ≤ 13 → Rd W b S ts → aloneF f deep ts = some x →
  Calls Tryd.prog 47 #[.pointer (some ⟨b, 0, none⟩), .int .i64 deep] W (Got (· = b) W b (ExIs S) (some x))
def ArgsC (f : Nat) : Prop := ∀ (b : Nat) (S : Nat → Prop) (deep : Nat) (ts : List Tok) (W : World) (x : Except (Int × Int) (List Ex × List Tok)), deep ≤ 13 → Rd W b S ts → argsF f deep ts = some x →
  Calls Tryd.prog 54 #[.pointer (some ⟨b, 0, none⟩), .int .i64 deep] W (Got (· = b) W b (fun l v w => ∃ vs, RowAt w S 78 1 v l.length vs ∧ ExsAt w S l vs) (some x))
end Go.Proofs.YtinbahmpifokaaaDoor.TreeP

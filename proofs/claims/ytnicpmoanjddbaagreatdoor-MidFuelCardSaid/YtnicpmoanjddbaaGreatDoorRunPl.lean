/- What a runner has, and what a part of it comes to, plainly. No program in sight. No conditions. How a program ends, plainly. No program in sight. No conditions. Plainly: what goes but one way; more rounds; more fuel; rounds enough: of parts and what follows them. No program in sight. No conditions. Plainly: as many calls wait behind a part as ahead of it. No conditions. Plainly: more fuel is no other road, and who asks for nothing does not hear; rounds enough. No program in sight. No conditions. Plainly: with more fuel, or with other numbers for who asks for none, it goes the same road. No program in sight. No conditions. Plainly: with rounds enough every program ends. No program in sight. No conditions. -/
import Derived.WalkKit
import Derived.Test.YtnicpmoanjddbaaGreatDoorChkPlain
namespace Go.Proofs.YtnicpmoanjddbaaGreatDoor.TreeP
open Go.RowKit
set_option linter.unusedVariables false
set_option linter.unusedSimpArgs false
/-- A value: a number, and which array (none: none). -/
structure V where
  n : Int
  arr : Option Nat
  deriving DecidableEq
/-- What a runner has: what is given, fuel, how many calls wait, what was told, arrays. -/
structure RS where
  inp : List Int
  fuel : Nat
  calls : Nat
  out : List Int
  arrs : List (List Int)
/-- Names, and what they stand for. -/
abbrev Fr := List (List UInt8 × V)
def Fr.get : Fr → List UInt8 → V
  | [], _ => ⟨0, none⟩
  | p :: r, s => if p.1 == s then p.2 else Fr.get r s
def Fr.put : Fr → List UInt8 → V → Fr
  | [], s, v => [(s, v)]
  | p :: r, s, v => if p.1 == s then (s, v) :: r else p :: Fr.put r s v
inductive Sig where
  | stop (way : Int)
  | ret (n : Int)
  deriving DecidableEq
/-- What a part comes to (none: not enough rounds). -/
abbrev RM (α : Type) := Option (Except Sig α × RS)
def bindR {α β : Type} (x : RM α) (f : α → RS → RM β) : RM β := match x with
  | some (.ok a, s) => f a s
  | some (.error e, s) => some (.error e, s)
  | none => none
def okR {α : Type} (a : α) (s : RS) : RM α := some (.ok a, s)
def stopR {α : Type} (w : Int) (s : RS) : RM α := some (.error (.stop w), s)
def numV (n : Int) : V := ⟨n, none⟩
def oneB (b : Bool) : Int := if b then 1 else 0
def stepR (s : RS) : RM Unit := if s.fuel = 0 then stopR 6 s else okR () { s with fuel := s.fuel - 1 }
/-- What a mark of two comes to; none: it divides by 0. -/
def twoP (op : List UInt8) (a b : Int) : Option Int :=
  if op = [43] then some (wrap64 (a + b))
  else if op = [45] then some (wrap64 (a - b))
  else if op = [42] then some (wrap64 (a * b))
  else if op = [47] ∨ op = [37] then (if b = 0 then none else if op = [47] then some (wrap64 (a.tdiv b)) else some (a.tmod b))
  else if op = [61, 61] then some (oneB (a == b))
  else if op = [33, 61] then some (oneB (a != b))
  else if op = [60] then some (oneB (decide (a < b)))
  else if op = [60, 61] then some (oneB (decide (a ≤ b)))
  else if op = [62] then some (oneB (decide (a > b)))
  else some (oneB (decide (a ≥ b)))
def arrOf (s : RS) (v : V) : List Int := match v.arr with
  | some i => s.arrs.getD i []
  | none => []
/-- A number of an array, at this place. -/
def placeR (s : RS) (v : V) (i : Int) : RM Int := if i < 0 ∨ i ≥ (arrOf s v).length then stopR 3 s else okR ((arrOf s v).getD i.toNat 0) s
def putArr (s : RS) (v : V) (i x : Int) : RS := match v.arr with
  | some k => { s with arrs := s.arrs.set k ((s.arrs.getD k []).set i.toNat x) }
  | none => s
end Go.Proofs.YtnicpmoanjddbaaGreatDoor.TreeP
namespace Go.Proofs.YtnicpmoanjddbaaGreatDoor.TreeP
open Go.RowKit
set_option linter.unusedVariables false
set_option linter.unusedSimpArgs false
def bindParams : Fr → List (List UInt8 × Int) → List V → Fr
  | F, p :: ps, v :: vs => bindParams (F.put p.1 v) ps vs
  | F, _, _ => F
def fnGet (L : List Fn) (s : List UInt8) : Fn := (fnOf L s).getD ⟨[], 0, [], []⟩
mutual
def evE (L : List Fn) : Nat → RS → Fr → Ex → RM V
  | 0, _, _, _ => none
  | f + 1, s, F, .num _ n => okR (numV n) s
  | f + 1, s, F, .var _ x => okR (F.get x) s
  | f + 1, s, F, .un _ op x => bindR (evE L f s F x) fun v s => okR (numV (if op = [45] then wrap64 (-v.n) else oneB (v.n == 0))) s
  | f + 1, s, F, .bin _ op l r => bindR (evE L f s F l) fun a s =>
      if op = [38, 38] ∨ op = [124, 124] then
        (if (a.n != 0) = (op == [124, 124]) then okR (numV (oneB (a.n != 0))) s
        else bindR (evE L f s F r) fun b s => okR (numV (oneB (b.n != 0))) s)
      else bindR (evE L f s F r) fun b s => match twoP op a.n b.n with
        | some n => okR (numV n) s
        | none => stopR 2 s
  | f + 1, s, F, .call _ g args => bindR (evA L f s F args []) fun vs s => bindR (callR L f s g vs) fun n s => okR (numV n) s
  | f + 1, s, F, .new _ x => bindR (evE L f s F x) fun v s => if v.n < 0 ∨ v.n > 40 then stopR 4 s else okR ⟨0, some s.arrs.length⟩ { s with arrs := s.arrs ++ [List.replicate v.n.toNat 0] }
  | f + 1, s, F, .len _ x => bindR (evE L f s F x) fun v s => okR (numV (arrOf s v).length) s
  | f + 1, s, F, .item _ x i => bindR (evE L f s F x) fun v s => bindR (evE L f s F i) fun k s => bindR (placeR s v k.n) fun n s => okR (numV n) s
  | f + 1, s, F, .input _ => match s.inp with
    | [] => okR (numV 0) s
    | n :: r => okR (numV n) { s with inp := r }
def evA (L : List Fn) : Nat → RS → Fr → List Ex → List V → RM (List V)
  | 0, _, _, _, _ => none
  | f + 1, s, F, [], vs => okR vs s
  | f + 1, s, F, e :: r, vs => bindR (evE L f s F e) fun v s => evA L f s F r (vs ++ [v])
def callR (L : List Fn) : Nat → RS → List UInt8 → List V → RM Int
  | 0, _, _, _ => none
  | f + 1, s, g, vs =>
    if s.calls = 40 then stopR 5 s
    else match blockR L f { s with calls := s.calls + 1 } (bindParams [] (fnGet L g).params vs) (fnGet L g).body with
      | some (.ok _, t) => okR 0 { t with calls := t.calls - 1 }
      | some (.error (.ret n), t) => okR n { t with calls := t.calls - 1 }
      | some (.error (.stop w), t) => stopR w t
      | none => none
def blockR (L : List Fn) : Nat → RS → Fr → List St → RM Fr
  | 0, _, _, _ => none
  | f + 1, s, F, [] => okR F s
  | f + 1, s, F, x :: r => bindR (stmtR L f s F x) fun F s => blockR L f s F r
def stmtR (L : List Fn) : Nat → RS → Fr → St → RM Fr
  | 0, _, _, _ => none
  | f + 1, s, F, x => bindR (stepR s) fun _ s => match x with
    | .var _ n v => bindR (evE L f s F v) fun y s => okR (F.put n y) s
    | .set _ n v => bindR (evE L f s F v) fun y s => okR (F.put n y) s
    | .put _ n i v => bindR (evE L f s F i) fun k s => bindR (evE L f s F v) fun y s => bindR (placeR s (F.get n) k.n) fun _ s => okR F (putArr s (F.get n) k.n y.n)
    | .cond _ v t e => bindR (evE L f s F v) fun c s => if c.n ≠ 0 then blockR L f s F t else blockR L f s F e
    | .loop _ v t => whileR L f s F v t
    | .ret _ v => bindR (evE L f s F v) fun y s => some (.error (.ret y.n), s)
    | .print _ v => bindR (evE L f s F v) fun y s => if s.out.length ≥ 200 then stopR 7 s else okR F { s with out := s.out ++ [y.n] }
    | .call _ v => bindR (evE L f s F v) fun _ s => okR F s
def whileR (L : List Fn) : Nat → RS → Fr → Ex → List St → RM Fr
  | 0, _, _, _, _ => none
  | f + 1, s, F, v, t => bindR (evE L f s F v) fun c s => if c.n ≠ 0 then bindR (blockR L f s F t) fun F s => bindR (stepR s) fun _ s => whileR L f s F v t else okR F s
end
/-- How a program ends: in which way, with which number, what it told. -/
def runR (L : List Fn) (f : Nat) (given : List Int) (fuel : Nat) : Option (Int × Int × List Int) :=
  match callR L f ⟨given, fuel, 0, [], []⟩ [109, 97, 105, 110] [] with
  | some (.ok n, t) => some (1, n, t.out)
  | some (.error (.stop w), t) => some (w, 0, t.out)
  | some (.error (.ret n), t) => some (0, 0, t.out)
  | none => none
end Go.Proofs.YtnicpmoanjddbaaGreatDoor.TreeP
namespace Go.Proofs.YtnicpmoanjddbaaGreatDoor.TreeP
open Go.RowKit
set_option linter.unusedVariables false
set_option linter.unusedSimpArgs false
/-- As many calls wait as before, but where it stops. -/
def KeptR {α : Type} (s : RS) (x : RM α) : Prop := ∀ y, x = some y → (∃ w, y.1 = .error (.stop w)) ∨ y.2.calls = s.calls
theorem KeptR.ok {α : Type} {s s' : RS} (a : α) (h : s'.calls = s.calls) : KeptR s (okR a s') := by
  intro y hy
  obtain rfl := (Option.some.inj hy).symm
  exact Or.inr h
theorem KeptR.err {α : Type} {s s' : RS} (g : Sig) (h : s'.calls = s.calls) : KeptR s (some ((Except.error g : Except Sig α), s')) := by
  intro y hy
  obtain rfl := (Option.some.inj hy).symm
  exact Or.inr h
theorem KeptR.bind {α β : Type} {s : RS} {x : RM α} {f : α → RS → RM β} (h : KeptR s x) (hf : ∀ a t, t.calls = s.calls → KeptR s (f a t)) : KeptR s (bindR x f) := by
  rcases x with _ | ⟨g | a, t⟩
  · intro y hy; cases hy
  · intro y hy
    obtain rfl := (Option.some.inj hy).symm
    rcases h _ rfl with ⟨w, hw⟩ | h
    · simp only [Except.error.injEq] at hw
      exact Or.inl ⟨w, by rw [hw]⟩
    · exact Or.inr h
  · rcases h _ rfl with ⟨w, hw⟩ | h
    · cases hw
    · exact hf a t h
theorem KeptR.to {α : Type} {s t : RS} {x : RM α} (h : KeptR t x) (hs : t.calls = s.calls) : KeptR s x := fun y hy => (h y hy).imp id (fun e => e.trans hs)
theorem KeptR.none_ {α : Type} (s : RS) : KeptR s (none : RM α) := by intro y hy; cases hy
theorem stepR_kept (s : RS) : KeptR s (stepR s) := by
  unfold stepR
  split
  · exact KeptR.err _ (rfl)
  · exact KeptR.ok _ (rfl)
theorem placeR_kept (s : RS) (v : V) (i : Int) : KeptR s (placeR s v i) := by
  unfold placeR
  split
  · exact KeptR.err _ (rfl)
  · exact KeptR.ok _ (rfl)
theorem putArr_calls (s : RS) (v : V) (i x : Int) : (putArr s v i x).calls = s.calls := by
  unfold putArr
  split <;> rfl
/-- What goes but one way. -/
structure OneWay (R : RS → RS → Prop) : Prop where
  refl : ∀ s, R s s
  trans : ∀ s t u, R s t → R t u → R s u
  step : ∀ s : RS, R s { s with fuel := s.fuel - 1 }
  calls : ∀ (s : RS) k, R s { s with calls := k }
  inp : ∀ (s : RS) r, R s { s with inp := r }
  arrs : ∀ (s : RS) a, s.arrs.length ≤ a.length → R s { s with arrs := a }
  told : ∀ (s : RS) n, R s { s with out := s.out ++ [n] }
def Goes {α : Type} (R : RS → RS → Prop) (s : RS) (x : RM α) : Prop := ∀ y, x = some y → R s y.2
section goes
variable {R : RS → RS → Prop}
theorem Goes.ok {α : Type} {s s' : RS} (a : α) (h : R s s') : Goes R s (okR a s') := by
  intro y hy
  obtain rfl := (Option.some.inj hy).symm
  exact h
theorem Goes.err {α : Type} {s s' : RS} (g : Sig) (h : R s s') : Goes R s (some ((Except.error g : Except Sig α), s')) := by
  intro y hy
  obtain rfl := (Option.some.inj hy).symm
  exact h
theorem Goes.bind {α β : Type} (hR : OneWay R) {s : RS} {x : RM α} {f : α → RS → RM β} (h : Goes R s x) (hf : ∀ a t, Goes R t (f a t)) : Goes R s (bindR x f) := by
  rcases x with _ | ⟨g | a, t⟩
  · intro y hy; cases hy
  · intro y hy
    obtain rfl := (Option.some.inj hy).symm
    exact h _ rfl
  · intro y hy
    exact hR.trans _ _ _ (h _ rfl) (hf a t y hy)
theorem Goes.none_ {α : Type} (s : RS) : Goes R s (none : RM α) := by intro y hy; cases hy
theorem stepR_goes (hR : OneWay R) (s : RS) : Goes R s (stepR s) := by
  unfold stepR
  split
  · exact Goes.err _ (hR.refl s)
  · exact Goes.ok _ (hR.step s)
theorem placeR_goes (hR : OneWay R) (s : RS) (v : V) (i : Int) : Goes R s (placeR s v i) := by
  unfold placeR
  split
  · exact Goes.err _ (hR.refl s)
  · exact Goes.ok _ (hR.refl s)
theorem putArr_goes (hR : OneWay R) (s : RS) (v : V) (i x : Int) : R s (putArr s v i x) := by
  unfold putArr
  split
  · exact hR.arrs s _ (by simp)
  · exact hR.refl s
end goes
def TellsOn (s t : RS) : Prop := s.out <+: t.out
def BurnsOn (s t : RS) : Prop := t.fuel ≤ s.fuel
theorem tells_way : OneWay TellsOn := ⟨fun _ => List.prefix_refl _, fun _ _ _ h k => List.IsPrefix.trans h k, fun _ => List.prefix_refl _, fun _ _ => List.prefix_refl _, fun _ _ => List.prefix_refl _, fun _ _ _ => List.prefix_refl _, fun s n => List.prefix_append _ _⟩
theorem burns_way : OneWay BurnsOn := ⟨fun _ => Nat.le_refl _, fun _ _ _ h k => Nat.le_trans k h, fun s => Nat.sub_le _ _, fun _ _ => Nat.le_refl _, fun _ _ => Nat.le_refl _, fun _ _ _ => Nat.le_refl _, fun s n => Nat.le_refl _⟩
/-! More rounds. -/
def Le {α : Type} (x x' : RM α) : Prop := ∀ y, x = some y → x' = some y
theorem Le.refl {α : Type} (x : RM α) : Le x x := fun _ h => h
theorem Le.bind {α β : Type} {x x' : RM α} {f f' : α → RS → RM β} (h : Le x x') (hf : ∀ a t, Le (f a t) (f' a t)) : Le (bindR x f) (bindR x' f') := by
  intro y hy
  rcases x with _ | ⟨g | a, t⟩
  · cases hy
  · rw [h _ rfl]; exact hy
  · rw [h _ rfl]; exact hf a t y hy
/-- The same, but for d more fuel, and for what is given, if nobody asks. -/
structure Like (d : Nat) (p : Prop) (s s' : RS) : Prop where
  calls : s'.calls = s.calls
  out : s'.out = s.out
  arrs : s'.arrs = s.arrs
  fuel : s'.fuel = s.fuel + d
  inp : p → s'.inp = s.inp
theorem Like.arrOf {d : Nat} {p : Prop} {s s' : RS} (h : Like d p s s') (v : V) : arrOf s' v = arrOf s v := by
  unfold TreeP.arrOf; rw [h.arrs]
/-- It goes the same road, or wants for fuel and has told the beginning. -/
def More {α : Type} (d : Nat) (p : Prop) (x x' : RM α) : Prop := ∀ y, x = some y → (0 < d ∧ y.1 = .error (.stop 6) ∧ ∀ y', x' = some y' → y.2.out <+: y'.2.out) ∨ ∃ t', x' = some (y.1, t') ∧ Like d p y.2 t'
section more
variable {d : Nat} {p : Prop}
theorem More.ok {α : Type} {s s' : RS} (a : α) (h : Like d p s s') : More d p (okR a s) (okR a s') := by
  intro y hy
  obtain rfl := (Option.some.inj hy).symm
  exact Or.inr ⟨s', rfl, h⟩
theorem More.err {α : Type} {s s' : RS} (g : Sig) (h : Like d p s s') : More d p (some ((Except.error g : Except Sig α), s)) (some (.error g, s')) := by
  intro y hy
  obtain rfl := (Option.some.inj hy).symm
  exact Or.inr ⟨s', rfl, h⟩
theorem More.none_ {α : Type} (x' : RM α) : More d p (none : RM α) x' := by intro y hy; cases hy
theorem More.bind {α β : Type} {x x' : RM α} {f f' : α → RS → RM β} (h : More d p x x') (hf : ∀ a t t', Like d p t t' → More d p (f a t) (f' a t')) (hg : ∀ a t', Goes TellsOn t' (f' a t')) : More d p (bindR x f) (bindR x' f') := by
  intro y hy
  rcases x with _ | ⟨g | a, t⟩
  · cases hy
  · obtain rfl := (Option.some.inj hy).symm
    rcases h _ rfl with ⟨h1, h2, h3⟩ | ⟨t', h1, h2⟩
    · refine Or.inl ⟨h1, by simpa using h2, fun y' hy' => ?_⟩
      rcases x' with _ | ⟨g' | a', u⟩
      · cases hy'
      · obtain rfl := (Option.some.inj hy').symm
        exact h3 _ rfl
      · exact List.IsPrefix.trans (h3 _ rfl) (hg a' u y' hy')
    · rw [h1]
      exact Or.inr ⟨t', rfl, h2⟩
  · rcases h _ rfl with ⟨h1, h2, h3⟩ | ⟨t', h1, h2⟩
    · cases h2
    · rw [h1]
      exact hf a t t' h2 y hy
theorem stepR_more {s s' : RS} (h : Like d p s s') : More d p (stepR s) (stepR s') := by
  unfold stepR
  by_cases h0 : s.fuel = 0
  · rw [if_pos h0]
    by_cases hd : d = 0
    · rw [if_pos (by rw [h.fuel]; omega)]
      exact More.err _ h
    · intro y hy
      obtain rfl := (Option.some.inj hy).symm
      refine Or.inl ⟨by omega, rfl, fun y' hy' => ?_⟩
      rw [if_neg (by rw [h.fuel]; omega)] at hy'
      obtain rfl := (Option.some.inj hy').symm
      show s.out <+: s'.out
      rw [h.out]
      exact List.prefix_refl _
  · rw [if_neg h0, if_neg (by rw [h.fuel]; omega)]
    exact More.ok _ ⟨h.calls, h.out, h.arrs, by have := h.fuel; simp only; omega, h.inp⟩
theorem placeR_more {s s' : RS} (h : Like d p s s') (v : V) (i : Int) : More d p (placeR s v i) (placeR s' v i) := by
  unfold placeR
  rw [h.arrOf]
  split
  · exact More.err _ h
  · exact More.ok _ h
theorem putArr_more {s s' : RS} (h : Like d p s s') (v : V) (i x : Int) : Like d p (putArr s v i x) (putArr s' v i x) := by
  unfold putArr
  split
  · exact ⟨h.calls, h.out, by simp only [h.arrs], h.fuel, h.inp⟩
  · exact h
theorem ends_on {α : Type} (s : RS) (x : Except Sig α) : Goes TellsOn s (some (x, s)) := by
  intro y hy
  obtain rfl := (Option.some.inj hy).symm
  exact tells_way.refl s
end more
/-- With rounds enough it comes to something. -/
def Soon {α : Type} (x : Nat → RM α) : Prop := ∃ f y, ∀ g, f ≤ g → x g = some y
theorem Soon.at_ {α : Type} {x : Nat → RM α} (h : ∀ f, Le (x f) (x (f + 1))) {f : Nat} {y : Except Sig α × RS} (hy : x f = some y) : ∀ g, f ≤ g → x g = some y := by
  intro g hg
  obtain ⟨k, rfl⟩ := Nat.exists_eq_add_of_le hg
  clear hg
  induction k with
  | zero => exact hy
  | succ k ih => exact h (f + k) y ih
theorem Soon.now {α : Type} (y : Except Sig α × RS) : Soon (fun _ => some y) := ⟨0, y, fun _ _ => rfl⟩
theorem Soon.next {α : Type} {x x' : Nat → RM α} (h : Soon x) (hx : ∀ f, x' (f + 1) = x f) : Soon x' := by
  obtain ⟨f, y, hy⟩ := h
  refine ⟨f + 1, y, fun g hg => ?_⟩
  obtain ⟨k, rfl⟩ : ∃ k, g = k + 1 := ⟨g - 1, by omega⟩
  rw [hx]
  exact hy k (by omega)
theorem Soon.bind {α β : Type} {x : Nat → RM α} {h : Nat → α → RS → RM β} (hx : Soon x) (hf : ∀ a t, (∃ f, x f = some (.ok a, t)) → Soon (fun f => h f a t)) : Soon (fun f => bindR (x f) (h f)) := by
  obtain ⟨f, y, hy⟩ := hx
  obtain ⟨g | a, t⟩ := y
  · exact ⟨f, _, fun k hk => by show bindR (x k) (h k) = _; rw [hy k hk]; rfl⟩
  · obtain ⟨f', z, hz⟩ := hf a t ⟨f, hy f (Nat.le_refl _)⟩
    refine ⟨max f f', z, fun k hk => ?_⟩
    show bindR (x k) (h k) = _
    rw [hy k (by omega)]
    exact hz k (by omega)
theorem stepR_soon (s : RS) : Soon (fun _ => stepR s) := by
  unfold stepR
  by_cases h : s.fuel = 0
  · rw [if_pos h]; exact Soon.now _
  · rw [if_neg h]; exact Soon.now _
theorem placeR_soon (s : RS) (v : V) (i : Int) : Soon (fun _ => placeR s v i) := by
  unfold placeR
  by_cases h : i < 0 ∨ i ≥ (arrOf s v).length
  · rw [if_pos h]; exact Soon.now _
  · rw [if_neg h]; exact Soon.now _
/-- How what a call comes to is told. -/
def endOf : Except Sig Int × RS → Int × Int × List Int
  | (.ok n, t) => (1, n, t.out)
  | (.error (.stop w), t) => (w, 0, t.out)
  | (.error (.ret n), t) => (0, 0, t.out)
end Go.Proofs.YtnicpmoanjddbaaGreatDoor.TreeP
namespace Go.Proofs.YtnicpmoanjddbaaGreatDoor.TreeP
open Go.RowKit
set_option linter.unusedVariables false
set_option linter.unusedSimpArgs false
theorem kept_all (L : List Fn) : ∀ f, (∀ s F e, KeptR s (evE L f s F e)) ∧ (∀ s F l vs, KeptR s (evA L f s F l vs)) ∧ (∀ s g vs, KeptR s (callR L f s g vs)) ∧ (∀ s F l, KeptR s (blockR L f s F l)) ∧ (∀ s F x, KeptR s (stmtR L f s F x)) ∧ (∀ s F v t, KeptR s (whileR L f s F v t)) := by
  intro f
  induction f with
  | zero => refine ⟨fun s F e => ?_, fun s F l vs => ?_, fun s g vs => ?_, fun s F l => ?_, fun s F x => ?_, fun s F v t => ?_⟩ <;> simp only [evE, evA, callR, blockR, stmtR, whileR] <;> exact KeptR.none_ _
  | succ f ih =>
    obtain ⟨i1, i2, i3, i4, i5, i6⟩ := ih
    refine ⟨fun s F e => ?_, fun s F l vs => ?_, fun s g vs => ?_, fun s F l => ?_, fun s F x => ?_, fun s F v t => ?_⟩
    · cases e with
      | num a k => simp only [evE]; exact KeptR.ok _ (rfl)
      | var a x => simp only [evE]; exact KeptR.ok _ (rfl)
      | un a op x => simp only [evE]; exact (i1 s F x).bind fun v t ht => KeptR.ok _ ht
      | bin a op x y =>
        simp only [evE]
        refine (i1 s F x).bind fun v t ht => ?_
        split
        · split
          · exact KeptR.ok _ ht
          · exact ((i1 t F y).to ht).bind fun v2 t2 ht2 => KeptR.ok _ ht2
        · refine ((i1 t F y).to ht).bind fun v2 t2 ht2 => ?_
          split
          · exact KeptR.ok _ ht2
          · exact KeptR.err _ ht2
      | call a g l => simp only [evE]; exact (i2 s F l []).bind fun vs t ht => ((i3 t g vs).to ht).bind fun n t2 ht2 => KeptR.ok _ ht2
      | new a x =>
        simp only [evE]
        refine (i1 s F x).bind fun v t ht => ?_
        split
        · exact KeptR.err _ ht
        · exact KeptR.ok _ ht
      | len a x => simp only [evE]; exact (i1 s F x).bind fun v t ht => KeptR.ok _ ht
      | item a x y => simp only [evE]; exact (i1 s F x).bind fun v t ht => ((i1 t F y).to ht).bind fun k t2 ht2 => ((placeR_kept t2 v k.n).to ht2).bind fun n t3 ht3 => KeptR.ok _ ht3
      | input a =>
        simp only [evE]
        split
        · exact KeptR.ok _ (rfl)
        · exact KeptR.ok _ (rfl)
    · cases l with
      | nil => simp only [evA]; exact KeptR.ok _ (rfl)
      | cons e r => simp only [evA]; exact (i1 s F e).bind fun v t ht => (i2 t F r _).to ht
    · simp only [callR]
      split
      · exact KeptR.err _ (rfl)
      · have hb := i4 { s with calls := s.calls + 1 } (bindParams [] (fnGet L g).params vs) (fnGet L g).body
        split
        · rename_i hh
          rcases hb _ hh with ⟨w, hw⟩ | h1
          · cases hw
          · exact KeptR.ok _ (by simp only at h1 ⊢; omega)
        · rename_i hh
          rcases hb _ hh with ⟨w, hw⟩ | h1
          · cases hw
          · exact KeptR.ok _ (by simp only at h1 ⊢; omega)
        · intro y hy
          obtain rfl := (Option.some.inj hy).symm
          exact Or.inl ⟨_, rfl⟩
        · exact KeptR.none_ _
    · cases l with
      | nil => simp only [blockR]; exact KeptR.ok _ (rfl)
      | cons x r => simp only [blockR]; exact (i5 s F x).bind fun F t ht => (i4 t F r).to ht
    · simp only [stmtR]
      refine (stepR_kept s).bind fun _ t ht => ?_
      cases x with
      | var a n v => exact ((i1 t F v).to ht).bind fun y t2 ht2 => KeptR.ok _ ht2
      | set a n v => exact ((i1 t F v).to ht).bind fun y t2 ht2 => KeptR.ok _ ht2
      | put a n i v => exact ((i1 t F i).to ht).bind fun k t2 ht2 => ((i1 t2 F v).to ht2).bind fun y t3 ht3 => ((placeR_kept t3 _ _).to ht3).bind fun _ t4 ht4 => KeptR.ok _ (by rw [putArr_calls]; exact ht4)
      | cond a v t1 e1 =>
        refine ((i1 t F v).to ht).bind fun c t2 ht2 => ?_
        split
        · exact (i4 t2 F t1).to ht2
        · exact (i4 t2 F e1).to ht2
      | loop a v t1 => exact (i6 t F v t1).to ht
      | ret a v => exact ((i1 t F v).to ht).bind fun y t2 ht2 => KeptR.err _ ht2
      | print a v =>
        refine ((i1 t F v).to ht).bind fun y t2 ht2 => ?_
        split
        · exact KeptR.err _ ht2
        · exact KeptR.ok _ ht2
      | call a v => exact ((i1 t F v).to ht).bind fun _ t2 ht2 => KeptR.ok _ ht2
    · simp only [whileR]
      refine (i1 s F v).bind fun c t1 ht => ?_
      split
      · exact ((i4 t1 F t).to ht).bind fun F2 t2 ht2 => ((stepR_kept t2).to ht2).bind fun _ t3 ht3 => (i6 t3 F2 v t).to ht3
      · exact KeptR.ok _ ht
end Go.Proofs.YtnicpmoanjddbaaGreatDoor.TreeP
namespace Go.Proofs.YtnicpmoanjddbaaGreatDoor.TreeP
open Go.RowKit
set_option linter.unusedVariables false
set_option linter.unusedSimpArgs false
section goes
variable {R : RS → RS → Prop}
theorem goes_all (hR : OneWay R) (L : List Fn) : ∀ f, (∀ s F e, Goes R s (evE L f s F e)) ∧ (∀ s F l vs, Goes R s (evA L f s F l vs)) ∧ (∀ s g vs, Goes R s (callR L f s g vs)) ∧ (∀ s F l, Goes R s (blockR L f s F l)) ∧ (∀ s F x, Goes R s (stmtR L f s F x)) ∧ (∀ s F v t, Goes R s (whileR L f s F v t)) := by
  intro f
  induction f with
  | zero => refine ⟨fun s F e => ?_, fun s F l vs => ?_, fun s g vs => ?_, fun s F l => ?_, fun s F x => ?_, fun s F v t => ?_⟩ <;> simp only [evE, evA, callR, blockR, stmtR, whileR] <;> exact Goes.none_ _
  | succ f ih =>
    obtain ⟨i1, i2, i3, i4, i5, i6⟩ := ih
    refine ⟨fun s F e => ?_, fun s F l vs => ?_, fun s g vs => ?_, fun s F l => ?_, fun s F x => ?_, fun s F v t => ?_⟩
    · cases e with
      | num a k => simp only [evE]; exact Goes.ok _ (hR.refl s)
      | var a x => simp only [evE]; exact Goes.ok _ (hR.refl s)
      | un a op x => simp only [evE]; exact (i1 s F x).bind hR fun v t => Goes.ok _ (hR.refl t)
      | bin a op x y =>
        simp only [evE]
        refine (i1 s F x).bind hR fun v t => ?_
        split
        · split
          · exact Goes.ok _ (hR.refl t)
          · exact (i1 t F y).bind hR fun v2 t2 => Goes.ok _ (hR.refl t2)
        · refine (i1 t F y).bind hR fun v2 t2 => ?_
          split
          · exact Goes.ok _ (hR.refl t2)
          · exact Goes.err _ (hR.refl t2)
      | call a g l => simp only [evE]; exact (i2 s F l []).bind hR fun vs t => (i3 t g vs).bind hR fun n t2 => Goes.ok _ (hR.refl t2)
      | new a x =>
        simp only [evE]
        refine (i1 s F x).bind hR fun v t => ?_
        split
        · exact Goes.err _ (hR.refl t)
        · exact Goes.ok _ (hR.arrs t _ (by simp))
      | len a x => simp only [evE]; exact (i1 s F x).bind hR fun v t => Goes.ok _ (hR.refl t)
      | item a x y => simp only [evE]; exact (i1 s F x).bind hR fun v t => (i1 t F y).bind hR fun k t2 => (placeR_goes hR t2 v k.n).bind hR fun n t3 => Goes.ok _ (hR.refl t3)
      | input a =>
        simp only [evE]
        split
        · exact Goes.ok _ (hR.refl s)
        · exact Goes.ok _ (hR.inp s _)
    · cases l with
      | nil => simp only [evA]; exact Goes.ok _ (hR.refl s)
      | cons e r => simp only [evA]; exact (i1 s F e).bind hR fun v t => i2 t F r _
    · simp only [callR]
      split
      · exact Goes.err _ (hR.refl s)
      · have hb := i4 { s with calls := s.calls + 1 } (bindParams [] (fnGet L g).params vs) (fnGet L g).body
        split
        · rename_i hh
          exact Goes.ok _ (hR.trans _ _ _ (hR.trans _ _ _ (hR.calls s _) (hb _ hh)) (hR.calls _ _))
        · rename_i hh
          exact Goes.ok _ (hR.trans _ _ _ (hR.trans _ _ _ (hR.calls s _) (hb _ hh)) (hR.calls _ _))
        · rename_i hh
          exact Goes.err _ (hR.trans _ _ _ (hR.calls s _) (hb _ hh))
        · exact Goes.none_ _
    · cases l with
      | nil => simp only [blockR]; exact Goes.ok _ (hR.refl s)
      | cons x r => simp only [blockR]; exact (i5 s F x).bind hR fun F t => i4 t F r
    · simp only [stmtR]
      refine (stepR_goes hR s).bind hR fun _ t => ?_
      cases x with
      | var a n v => exact (i1 t F v).bind hR fun y t2 => Goes.ok _ (hR.refl t2)
      | set a n v => exact (i1 t F v).bind hR fun y t2 => Goes.ok _ (hR.refl t2)
      | put a n i v => exact (i1 t F i).bind hR fun k t2 => (i1 t2 F v).bind hR fun y t3 => (placeR_goes hR t3 _ _).bind hR fun _ t4 => Goes.ok _ (putArr_goes hR t4 _ _ _)
      | cond a v t1 e1 =>
        refine (i1 t F v).bind hR fun c t2 => ?_
        split
        · exact i4 t2 F t1
        · exact i4 t2 F e1
      | loop a v t1 => exact i6 t F v t1
      | ret a v => exact (i1 t F v).bind hR fun y t2 => Goes.err _ (hR.refl t2)
      | print a v =>
        refine (i1 t F v).bind hR fun y t2 => ?_
        split
        · exact Goes.err _ (hR.refl t2)
        · exact Goes.ok _ (hR.told t2 _)
      | call a v => exact (i1 t F v).bind hR fun _ t2 => Goes.ok _ (hR.refl t2)
    · simp only [whileR]
      refine (i1 s F v).bind hR fun c t1 => ?_
      split
      · exact (i4 t1 F t).bind hR fun F2 t2 => (stepR_goes hR t2).bind hR fun _ t3 => i6 t3 F2 v t
      · exact Goes.ok _ (hR.refl t1)
end goes
theorem le_all (L : List Fn) : ∀ f, (∀ s F e, Le (evE L f s F e) (evE L (f + 1) s F e)) ∧ (∀ s F l vs, Le (evA L f s F l vs) (evA L (f + 1) s F l vs)) ∧ (∀ s g vs, Le (callR L f s g vs) (callR L (f + 1) s g vs)) ∧ (∀ s F l, Le (blockR L f s F l) (blockR L (f + 1) s F l)) ∧ (∀ s F x, Le (stmtR L f s F x) (stmtR L (f + 1) s F x)) ∧ (∀ s F v t, Le (whileR L f s F v t) (whileR L (f + 1) s F v t)) := by
  intro f
  induction f with
  | zero =>
    refine ⟨fun s F e => ?_, fun s F l vs => ?_, fun s g vs => ?_, fun s F l => ?_, fun s F x => ?_, fun s F v t => ?_⟩
    · intro y hy; rw [evE] at hy; cases hy
    · intro y hy; rw [evA] at hy; cases hy
    · intro y hy; rw [callR] at hy; cases hy
    · intro y hy; rw [blockR] at hy; cases hy
    · intro y hy; rw [stmtR] at hy; cases hy
    · intro y hy; rw [whileR] at hy; cases hy
  | succ f ih =>
    obtain ⟨i1, i2, i3, i4, i5, i6⟩ := ih
    refine ⟨fun s F e => ?_, fun s F l vs => ?_, fun s g vs => ?_, fun s F l => ?_, fun s F x => ?_, fun s F v t => ?_⟩
    · cases e with
      | num a k => rw [evE, evE]; exact Le.refl _
      | var a x => rw [evE, evE]; exact Le.refl _
      | un a op x => rw [evE, evE]; exact (i1 s F x).bind fun v t => Le.refl _
      | bin a op x y =>
        rw [evE, evE]
        refine (i1 s F x).bind fun v t => ?_
        split
        · split
          · exact Le.refl _
          · exact (i1 t F y).bind fun v2 t2 => Le.refl _
        · exact (i1 t F y).bind fun v2 t2 => Le.refl _
      | call a g l => rw [evE, evE]; exact (i2 s F l []).bind fun vs t => (i3 t g vs).bind fun n t2 => Le.refl _
      | new a x => rw [evE, evE]; exact (i1 s F x).bind fun v t => Le.refl _
      | len a x => rw [evE, evE]; exact (i1 s F x).bind fun v t => Le.refl _
      | item a x y => rw [evE, evE]; exact (i1 s F x).bind fun v t => (i1 t F y).bind fun k t2 => Le.refl _
      | input a => rw [evE, evE]; exact Le.refl _
    · cases l with
      | nil => rw [evA, evA]; exact Le.refl _
      | cons e r => rw [evA, evA]; exact (i1 s F e).bind fun v t => i2 t F r _
    · rw [callR, callR]
      split
      · exact Le.refl _
      · have hb := i4 { s with calls := s.calls + 1 } (bindParams [] (fnGet L g).params vs) (fnGet L g).body
        intro y hy
        rcases hx : blockR L f { s with calls := s.calls + 1 } (bindParams [] (fnGet L g).params vs) (fnGet L g).body with _ | z
        · rw [hx] at hy; cases hy
        · rw [hb _ hx, ← hx]; exact hy
    · cases l with
      | nil => rw [blockR, blockR]; exact Le.refl _
      | cons x r => rw [blockR, blockR]; exact (i5 s F x).bind fun F t => i4 t F r
    · rw [stmtR, stmtR]
      refine (Le.refl (stepR s)).bind fun _ t => ?_
      cases x with
      | var a n v => exact (i1 t F v).bind fun y t2 => Le.refl _
      | set a n v => exact (i1 t F v).bind fun y t2 => Le.refl _
      | put a n i v => exact (i1 t F i).bind fun k t2 => (i1 t2 F v).bind fun y t3 => Le.refl _
      | cond a v t1 e1 =>
        refine (i1 t F v).bind fun c t2 => ?_
        split
        · exact i4 t2 F t1
        · exact i4 t2 F e1
      | loop a v t1 => exact i6 t F v t1
      | ret a v => exact (i1 t F v).bind fun y t2 => Le.refl _
      | print a v => exact (i1 t F v).bind fun y t2 => Le.refl _
      | call a v => exact (i1 t F v).bind fun _ t2 => Le.refl _
    · rw [whileR, whileR]
      refine (i1 s F v).bind fun c t1 => ?_
      split
      · exact (i4 t1 F t).bind fun F2 t2 => (Le.refl (stepR t2)).bind fun _ t3 => i6 t3 F2 v t
      · exact Le.refl _
end Go.Proofs.YtnicpmoanjddbaaGreatDoor.TreeP
namespace Go.Proofs.YtnicpmoanjddbaaGreatDoor.TreeP
open Go.RowKit
set_option linter.unusedVariables false
set_option linter.unusedSimpArgs false
mutual
/-- It may ask for a number only if p. -/
def AskE (p : Prop) : Ex → Prop
  | .num _ _ => True
  | .var _ _ => True
  | .bin _ _ l r => AskE p l ∧ AskE p r
  | .un _ _ x => AskE p x
  | .call _ _ args => AskEs p args
  | .new _ x => AskE p x
  | .len _ x => AskE p x
  | .item _ x i => AskE p x ∧ AskE p i
  | .input _ => p
def AskEs (p : Prop) : List Ex → Prop
  | [] => True
  | e :: r => AskE p e ∧ AskEs p r
end
mutual
def AskS (p : Prop) : St → Prop
  | .var _ _ v => AskE p v
  | .set _ _ v => AskE p v
  | .put _ _ i v => AskE p i ∧ AskE p v
  | .cond _ v t e => AskE p v ∧ AskSs p t ∧ AskSs p e
  | .loop _ v t => AskE p v ∧ AskSs p t
  | .ret _ v => AskE p v
  | .print _ v => AskE p v
  | .call _ v => AskE p v
def AskSs (p : Prop) : List St → Prop
  | [] => True
  | x :: r => AskS p x ∧ AskSs p r
end
mutual
theorem askE_yes : (e : Ex) → AskE True e
  | .num _ _ => trivial
  | .var _ _ => trivial
  | .bin _ _ l r => ⟨askE_yes l, askE_yes r⟩
  | .un _ _ x => askE_yes x
  | .call _ _ args => askEs_yes args
  | .new _ x => askE_yes x
  | .len _ x => askE_yes x
  | .item _ x i => ⟨askE_yes x, askE_yes i⟩
  | .input _ => trivial
theorem askEs_yes : (l : List Ex) → AskEs True l
  | [] => trivial
  | e :: r => ⟨askE_yes e, askEs_yes r⟩
end
mutual
theorem askS_yes : (x : St) → AskS True x
  | .var _ _ v => askE_yes v
  | .set _ _ v => askE_yes v
  | .put _ _ i v => ⟨askE_yes i, askE_yes v⟩
  | .cond _ v t e => ⟨askE_yes v, askSs_yes t, askSs_yes e⟩
  | .loop _ v t => ⟨askE_yes v, askSs_yes t⟩
  | .ret _ v => askE_yes v
  | .print _ v => askE_yes v
  | .call _ v => askE_yes v
theorem askSs_yes : (l : List St) → AskSs True l
  | [] => trivial
  | x :: r => ⟨askS_yes x, askSs_yes r⟩
end
section more
variable {d : Nat} {p : Prop}
theorem fn_get {L : List Fn} {Q : Fn → Prop} (h : ∀ g fn, fnOf L g = some fn → Q fn) (h0 : Q ⟨[], 0, [], []⟩) (g : List UInt8) : Q (fnGet L g) := by
  unfold fnGet
  cases hx : fnOf L g with
  | none => exact h0
  | some fn => exact h g fn hx
theorem more_all {L : List Fn} (hL : ∀ g fn, fnOf L g = some fn → AskSs p fn.body) : ∀ f, (∀ s s' F e, AskE p e → Like d p s s' → More d p (evE L f s F e) (evE L f s' F e)) ∧ (∀ s s' F l vs, AskEs p l → Like d p s s' → More d p (evA L f s F l vs) (evA L f s' F l vs)) ∧ (∀ s s' g vs, Like d p s s' → More d p (callR L f s g vs) (callR L f s' g vs)) ∧ (∀ s s' F l, AskSs p l → Like d p s s' → More d p (blockR L f s F l) (blockR L f s' F l)) ∧ (∀ s s' F x, AskS p x → Like d p s s' → More d p (stmtR L f s F x) (stmtR L f s' F x)) ∧ (∀ s s' F v t, AskE p v → AskSs p t → Like d p s s' → More d p (whileR L f s F v t) (whileR L f s' F v t)) := by
  intro f
  induction f with
  | zero =>
    refine ⟨fun s s' F e _ _ => ?_, fun s s' F l vs _ _ => ?_, fun s s' g vs _ => ?_, fun s s' F l _ _ => ?_, fun s s' F x _ _ => ?_, fun s s' F v t _ _ _ => ?_⟩ <;> simp only [evE, evA, callR, blockR, stmtR, whileR] <;> exact More.none_ _
  | succ f ih =>
    obtain ⟨i1, i2, i3, i4, i5, i6⟩ := ih
    obtain ⟨g1, g2, g3, g4, g5, g6⟩ := goes_all tells_way L f
    refine ⟨fun s s' F e ha h => ?_, fun s s' F l vs ha h => ?_, fun s s' g vs h => ?_, fun s s' F l ha h => ?_, fun s s' F x ha h => ?_, fun s s' F v t ha hb h => ?_⟩
    · cases e with
      | num a k => rw [evE, evE]; exact More.ok _ h
      | var a x => rw [evE, evE]; exact More.ok _ h
      | un a op x =>
        rw [evE, evE]
        exact (i1 s s' F x ha h).bind (fun v t t' ht => More.ok _ ht) (fun _ _ => ends_on _ _)
      | bin a op x y =>
        simp only [AskE] at ha
        rw [evE, evE]
        refine (i1 s s' F x ha.1 h).bind (fun v t t' ht => ?_) (fun v t' => ?_)
        · split
          · split
            · exact More.ok _ ht
            · exact (i1 t t' F y ha.2 ht).bind (fun v2 t2 t2' ht2 => More.ok _ ht2) (fun _ _ => ends_on _ _)
          · refine (i1 t t' F y ha.2 ht).bind (fun v2 t2 t2' ht2 => ?_) (fun v2 t2 => ?_)
            · split
              · exact More.ok _ ht2
              · exact More.err _ ht2
            · split
              · exact ends_on _ _
              · exact ends_on _ _
        · split
          · split
            · exact ends_on _ _
            · exact (g1 t' F y).bind tells_way fun _ _ => ends_on _ _
          · refine (g1 t' F y).bind tells_way fun _ _ => ?_
            split
            · exact ends_on _ _
            · exact ends_on _ _
      | call a g l =>
        simp only [AskE] at ha
        rw [evE, evE]
        exact (i2 s s' F l [] ha h).bind (fun vs t t' ht => (i3 t t' g vs ht).bind (fun n t2 t2' ht2 => More.ok _ ht2) (fun _ _ => ends_on _ _)) (fun vs t' => (g3 t' g vs).bind tells_way fun _ _ => ends_on _ _)
      | new a x =>
        simp only [AskE] at ha
        rw [evE, evE]
        refine (i1 s s' F x ha h).bind (fun v t t' ht => ?_) (fun v t' => ?_)
        · split
          · exact More.err _ ht
          · rw [ht.arrs]
            exact More.ok _ ⟨ht.calls, ht.out, rfl, ht.fuel, ht.inp⟩
        · split
          · exact ends_on _ _
          · exact Goes.ok _ (tells_way.arrs t' _ (by simp))
      | len a x =>
        simp only [AskE] at ha
        rw [evE, evE]
        refine (i1 s s' F x ha h).bind (fun v t t' ht => ?_) (fun _ _ => ends_on _ _)
        rw [ht.arrOf]
        exact More.ok _ ht
      | item a x y =>
        simp only [AskE] at ha
        rw [evE, evE]
        exact (i1 s s' F x ha.1 h).bind (fun v t t' ht => (i1 t t' F y ha.2 ht).bind (fun k t2 t2' ht2 => (placeR_more ht2 v k.n).bind (fun n t3 t3' ht3 => More.ok _ ht3) (fun _ _ => ends_on _ _)) (fun k t2 => (placeR_goes tells_way t2 v k.n).bind tells_way fun _ _ => ends_on _ _)) (fun v t => (g1 t F y).bind tells_way fun k t2 => (placeR_goes tells_way t2 v k.n).bind tells_way fun _ _ => ends_on _ _)
      | input a =>
        simp only [AskE] at ha
        rw [evE, evE, h.inp ha]
        split
        · exact More.ok _ h
        · exact More.ok _ ⟨h.calls, h.out, h.arrs, h.fuel, fun _ => rfl⟩
    · cases l with
      | nil => rw [evA, evA]; exact More.ok _ h
      | cons e r =>
        simp only [AskEs] at ha
        rw [evA, evA]
        exact (i1 s s' F e ha.1 h).bind (fun v t t' ht => i2 t t' F r _ ha.2 ht) (fun v t' => g2 t' F r _)
    · rw [callR, callR, h.calls]
      split
      · exact More.err _ h
      · have hk : Like d p { s with calls := s.calls + 1 } { s' with calls := s.calls + 1 } := ⟨rfl, h.out, h.arrs, h.fuel, h.inp⟩
        have hb := i4 _ _ (bindParams [] (fnGet L g).params vs) (fnGet L g).body (fn_get (Q := fun fn => AskSs p fn.body) hL trivial g) hk
        intro y hy
        rcases hx : blockR L f { s with calls := s.calls + 1 } (bindParams [] (fnGet L g).params vs) (fnGet L g).body with _ | ⟨z, t⟩
        · rw [hx] at hy; cases hy
        · rw [hx] at hy
          rcases hb _ hx with ⟨h1, h2, h3⟩ | ⟨t', h1, h2⟩
          · simp only at h2
            subst h2
            obtain rfl := (Option.some.inj hy).symm
            refine Or.inl ⟨h1, rfl, fun y' hy' => ?_⟩
            rcases hx' : blockR L f { s' with calls := s.calls + 1 } (bindParams [] (fnGet L g).params vs) (fnGet L g).body with _ | ⟨z', u⟩
            · rw [hx'] at hy'; cases hy'
            · have h4 := h3 _ hx'
              rw [hx'] at hy'
              rcases z' with (w | n) | G <;> (obtain rfl := (Option.some.inj hy').symm; exact h4)
          · rw [h1]
            have h3 : Like d p { t with calls := t.calls - 1 } { t' with calls := t'.calls - 1 } := ⟨by simp only [h2.calls], h2.out, h2.arrs, h2.fuel, h2.inp⟩
            rcases z with (w | n) | G
            · obtain rfl := (Option.some.inj hy).symm
              exact Or.inr ⟨_, rfl, h2⟩
            · obtain rfl := (Option.some.inj hy).symm
              exact Or.inr ⟨_, rfl, h3⟩
            · obtain rfl := (Option.some.inj hy).symm
              exact Or.inr ⟨_, rfl, h3⟩
    · cases l with
      | nil => rw [blockR, blockR]; exact More.ok _ h
      | cons x r =>
        simp only [AskSs] at ha
        rw [blockR, blockR]
        exact (i5 s s' F x ha.1 h).bind (fun F t t' ht => i4 t t' F r ha.2 ht) (fun F t' => g4 t' F r)
    · rw [stmtR, stmtR]
      refine (stepR_more h).bind (fun _ t t' ht => ?_) (fun _ t' => ?_)
      · cases x with
        | var a n v =>
          simp only [AskS] at ha
          exact (i1 t t' F v ha ht).bind (fun y t2 t2' ht2 => More.ok _ ht2) (fun _ _ => ends_on _ _)
        | set a n v =>
          simp only [AskS] at ha
          exact (i1 t t' F v ha ht).bind (fun y t2 t2' ht2 => More.ok _ ht2) (fun _ _ => ends_on _ _)
        | put a n i v =>
          simp only [AskS] at ha
          exact (i1 t t' F i ha.1 ht).bind (fun k t2 t2' ht2 => (i1 t2 t2' F v ha.2 ht2).bind (fun y t3 t3' ht3 => (placeR_more ht3 _ _).bind (fun _ t4 t4' ht4 => More.ok _ (putArr_more ht4 _ _ _)) (fun _ t4 => Goes.ok _ (putArr_goes tells_way t4 _ _ _))) (fun y t3 => (placeR_goes tells_way t3 _ _).bind tells_way fun _ t4 => Goes.ok _ (putArr_goes tells_way t4 _ _ _))) (fun k t2 => (g1 t2 F v).bind tells_way fun y t3 => (placeR_goes tells_way t3 _ _).bind tells_way fun _ t4 => Goes.ok _ (putArr_goes tells_way t4 _ _ _))
        | cond a v t1 e1 =>
          simp only [AskS] at ha
          refine (i1 t t' F v ha.1 ht).bind (fun c t2 t2' ht2 => ?_) (fun c t2 => ?_)
          · split
            · exact i4 t2 t2' F t1 ha.2.1 ht2
            · exact i4 t2 t2' F e1 ha.2.2 ht2
          · split
            · exact g4 t2 F t1
            · exact g4 t2 F e1
        | loop a v t1 =>
          simp only [AskS] at ha
          exact i6 t t' F v t1 ha.1 ha.2 ht
        | ret a v =>
          simp only [AskS] at ha
          exact (i1 t t' F v ha ht).bind (fun y t2 t2' ht2 => More.err _ ht2) (fun _ _ => ends_on _ _)
        | print a v =>
          simp only [AskS] at ha
          refine (i1 t t' F v ha ht).bind (fun y t2 t2' ht2 => ?_) (fun y t2 => ?_)
          · rw [ht2.out]
            split
            · exact More.err _ ht2
            · exact More.ok _ ⟨ht2.calls, rfl, ht2.arrs, ht2.fuel, ht2.inp⟩
          · split
            · exact ends_on _ _
            · exact Goes.ok _ (tells_way.told t2 _)
        | call a v =>
          simp only [AskS] at ha
          exact (i1 t t' F v ha ht).bind (fun _ t2 t2' ht2 => More.ok _ ht2) (fun _ _ => ends_on _ _)
      · cases x with
        | var a n v => exact (g1 t' F v).bind tells_way fun _ _ => ends_on _ _
        | set a n v => exact (g1 t' F v).bind tells_way fun _ _ => ends_on _ _
        | put a n i v => exact (g1 t' F i).bind tells_way fun k t2 => (g1 t2 F v).bind tells_way fun y t3 => (placeR_goes tells_way t3 _ _).bind tells_way fun _ t4 => Goes.ok _ (putArr_goes tells_way t4 _ _ _)
        | cond a v t1 e1 =>
          refine (g1 t' F v).bind tells_way fun c t2 => ?_
          split
          · exact g4 t2 F t1
          · exact g4 t2 F e1
        | loop a v t1 => exact g6 t' F v t1
        | ret a v => exact (g1 t' F v).bind tells_way fun _ _ => ends_on _ _
        | print a v =>
          refine (g1 t' F v).bind tells_way fun y t2 => ?_
          split
          · exact ends_on _ _
          · exact Goes.ok _ (tells_way.told t2 _)
        | call a v => exact (g1 t' F v).bind tells_way fun _ _ => ends_on _ _
    · rw [whileR, whileR]
      have hgw : ∀ (c : V) (t1' : RS), Goes TellsOn t1' (if c.n ≠ 0 then bindR (blockR L f t1' F t) fun F s => bindR (stepR s) fun _ s => whileR L f s F v t else okR F t1') := by
        intro c t1'
        split
        · exact (g4 t1' F t).bind tells_way fun F2 t2 => (stepR_goes tells_way t2).bind tells_way fun _ t3 => g6 t3 F2 v t
        · exact ends_on _ _
      refine (i1 s s' F v ha h).bind (fun c t1 t1' ht => ?_) (fun c t1' => hgw c t1')
      split
      · exact (i4 t1 t1' F t hb ht).bind (fun F2 t2 t2' ht2 => (stepR_more ht2).bind (fun _ t3 t3' ht3 => i6 t3 t3' F2 v t ha hb ht3) (fun _ t3 => g6 t3 F2 v t)) (fun F2 t2 => (stepR_goes tells_way t2).bind tells_way fun _ t3 => g6 t3 F2 v t)
      · exact More.ok _ ht
end more
/-- A call tells a number, or stops. -/
theorem callR_ends {L : List Fn} {f : Nat} {s : RS} {g : List UInt8} {vs : List V} {y : Except Sig Int × RS} (h : callR L f s g vs = some y) : (∃ n, y.1 = .ok n) ∨ ∃ w, y.1 = .error (.stop w) := by
  cases f with
  | zero => simp only [callR] at h; cases h
  | succ f =>
    simp only [callR] at h
    split at h
    · obtain rfl := (Option.some.inj h).symm
      exact Or.inr ⟨_, rfl⟩
    · split at h
      · obtain rfl := (Option.some.inj h).symm
        exact Or.inl ⟨_, rfl⟩
      · obtain rfl := (Option.some.inj h).symm
        exact Or.inl ⟨_, rfl⟩
      · obtain rfl := (Option.some.inj h).symm
        exact Or.inr ⟨_, rfl⟩
      · cases h
theorem runR_eq (L : List Fn) (f : Nat) (given : List Int) (fuel : Nat) : runR L f given fuel = (callR L f ⟨given, fuel, 0, [], []⟩ [109, 97, 105, 110] []).map endOf := by
  unfold runR
  cases callR L f ⟨given, fuel, 0, [], []⟩ [109, 97, 105, 110] [] with
  | none => rfl
  | some y =>
    obtain ⟨(w | n) | n, t⟩ := y <;> rfl
/-- More fuel is no other road. -/
theorem run_more {L : List Fn} {f : Nat} {given : List Int} {a b : Nat} {x y : Int × Int × List Int} (h : a ≤ b) (hx : runR L f given a = some x) (hy : runR L f given b = some y) : x.2.2 <+: y.2.2 ∧ (x.1 ≠ 6 → x = y) ∧ (x.1 ≠ 1 → x.2.1 = 0) := by
  rw [runR_eq] at hx hy
  have hm := (more_all (p := True) (d := b - a) (L := L) (fun g fn _ => askSs_yes fn.body) f).2.2.1 ⟨given, a, 0, [], []⟩ ⟨given, b, 0, [], []⟩ [109, 97, 105, 110] [] ⟨rfl, rfl, rfl, by simp only; omega, fun _ => rfl⟩
  rcases hc : callR L f ⟨given, a, 0, [], []⟩ [109, 97, 105, 110] [] with _ | z
  · rw [hc] at hx; cases hx
  · rw [hc] at hx
    obtain rfl := (Option.some.inj hx).symm
    have h3 : (endOf z).1 ≠ 1 → (endOf z).2.1 = 0 := by
      obtain ⟨(w | n) | n, t⟩ := z <;> simp [endOf]
    rcases hm _ hc with ⟨h1, h2, h4⟩ | ⟨t', h1, h2⟩
    · rcases hc' : callR L f ⟨given, b, 0, [], []⟩ [109, 97, 105, 110] [] with _ | z'
      · rw [hc'] at hy; cases hy
      · rw [hc'] at hy
        obtain rfl := (Option.some.inj hy).symm
        have h5 := h4 _ hc'
        obtain ⟨z1, z2⟩ := z
        simp only at h2
        subst h2
        refine ⟨?_, fun h => absurd rfl h, h3⟩
        obtain ⟨(w | n) | n, t⟩ := z' <;> exact h5
    · rw [h1] at hy
      obtain rfl := (Option.some.inj hy).symm
      have he : endOf (z.1, t') = endOf z := by
        obtain ⟨(w | n) | n, t⟩ := z <;> simp only [endOf, h2.out]
      rw [he]
      exact ⟨List.prefix_refl _, fun _ => rfl, h3⟩
/-- Who asks for nothing ends so, whatever is given. -/
theorem run_deaf {L : List Fn} (hL : ∀ g fn, fnOf L g = some fn → AskSs False fn.body) {f : Nat} {given others : List Int} {a : Nat} {x : Int × Int × List Int} (hx : runR L f given a = some x) : runR L f others a = some x := by
  rw [runR_eq] at hx ⊢
  have hm := (more_all (p := False) (d := 0) hL f).2.2.1 ⟨given, a, 0, [], []⟩ ⟨others, a, 0, [], []⟩ [109, 97, 105, 110] [] ⟨rfl, rfl, rfl, rfl, fun f => f.elim⟩
  rcases hc : callR L f ⟨given, a, 0, [], []⟩ [109, 97, 105, 110] [] with _ | z
  · rw [hc] at hx; cases hx
  · rw [hc] at hx
    rw [← hx]
    rcases hm _ hc with ⟨h1, _⟩ | ⟨t', h1, h2⟩
    · omega
    · rw [h1]
      obtain ⟨(w | n) | n, t⟩ := z <;> simp only [Option.map_some, endOf, h2.out]
end Go.Proofs.YtnicpmoanjddbaaGreatDoor.TreeP
namespace Go.Proofs.YtnicpmoanjddbaaGreatDoor.TreeP
open Go.RowKit
set_option linter.unusedVariables false
set_option linter.unusedSimpArgs false
/-- Calls of so many may wait yet. -/
def CallSoon (L : List Fn) (c : Nat) : Prop := ∀ s : RS, s.calls + c = 40 → ∀ g vs, Soon (fun f => callR L f s g vs)
section soon
variable {L : List Fn} {c : Nat}
theorem calls_same {α : Type} {s t : RS} {a : α} {x : Nat → RM α} (hk : ∀ f, KeptR s (x f)) (h : ∃ f, x f = some (.ok a, t)) : t.calls = s.calls := by
  obtain ⟨f, hf⟩ := h
  rcases hk f _ hf with ⟨w, hw⟩ | h1
  · cases hw
  · exact h1
theorem burns {α : Type} {s t : RS} {a : α} {x : Nat → RM α} (hk : ∀ f, Goes BurnsOn s (x f)) (h : ∃ f, x f = some (.ok a, t)) : t.fuel ≤ s.fuel := by
  obtain ⟨f, hf⟩ := h
  exact hk f _ hf
mutual
theorem evE_soon (hc : CallSoon L c) (F : Fr) : (e : Ex) → (s : RS) → s.calls + c = 40 → Soon (fun f => evE L f s F e)
  | .num a k, s, h => (Soon.now (.ok (numV k), s)).next fun f => by rw [evE]; rfl
  | .var a x, s, h => (Soon.now (.ok (F.get x), s)).next fun f => by rw [evE]; rfl
  | .un a op x, s, h => ((evE_soon hc F x s h).bind (h := fun _ (v : V) s => okR (numV (if op = [45] then wrap64 (-v.n) else oneB (v.n == 0))) s) fun v t _ => Soon.now _).next fun f => by rw [evE]
  | .bin a op l r, s, h => by
    refine ((evE_soon hc F l s h).bind (h := fun f (a : V) s => if op = [38, 38] ∨ op = [124, 124] then (if (a.n != 0) = (op == [124, 124]) then okR (numV (oneB (a.n != 0))) s else bindR (evE L f s F r) fun b s => okR (numV (oneB (b.n != 0))) s)
      else bindR (evE L f s F r) fun b s => match twoP op a.n b.n with
        | some n => okR (numV n) s
        | none => stopR 2 s) fun v t ht => ?_).next fun f => by first | (rw [evE]; done) | (rw [evE]; rfl)
    have hk := calls_same (fun f => (kept_all L f).1 s F l) ht
    have hr := evE_soon hc F r t (by omega)
    split
    · split
      · exact Soon.now _
      · exact hr.bind (h := fun _ (b : V) s => okR (numV (oneB (b.n != 0))) s) fun _ _ _ => Soon.now _
    · refine hr.bind (h := fun _ (b : V) s => match twoP op v.n b.n with
        | some n => okR (numV n) s
        | none => stopR 2 s) fun b t2 _ => ?_
      cases twoP op v.n b.n with
      | none => exact Soon.now _
      | some n => exact Soon.now _
  | .call a g l, s, h => by
    refine ((evA_soon hc F l s [] h).bind (h := fun f vs s => bindR (callR L f s g vs) fun n s => okR (numV n) s) fun vs t ht => ?_).next fun f => by rw [evE]
    have hk := calls_same (fun f => (kept_all L f).2.1 s F l []) ht
    exact (hc t (by omega) g vs).bind (h := fun _ (n : Int) s => okR (numV n) s) fun _ _ _ => Soon.now _
  | .new a x, s, h => by
    refine ((evE_soon hc F x s h).bind (h := fun _ (v : V) s => if v.n < 0 ∨ v.n > 40 then stopR 4 s else okR ⟨0, some s.arrs.length⟩ { s with arrs := s.arrs ++ [List.replicate v.n.toNat 0] }) fun v t _ => ?_).next fun f => by rw [evE]
    by_cases hv : v.n < 0 ∨ v.n > 40
    · simp only [if_pos hv]; exact Soon.now _
    · simp only [if_neg hv]; exact Soon.now _
  | .len a x, s, h => ((evE_soon hc F x s h).bind (h := fun _ (v : V) s => okR (numV (arrOf s v).length) s) fun v t _ => Soon.now _).next fun f => by rw [evE]
  | .item a x i, s, h => by
    refine ((evE_soon hc F x s h).bind (h := fun f (v : V) s => bindR (evE L f s F i) fun k s => bindR (placeR s v k.n) fun n s => okR (numV n) s) fun v t ht => ?_).next fun f => by rw [evE]
    have hk := calls_same (fun f => (kept_all L f).1 s F x) ht
    exact (evE_soon hc F i t (by omega)).bind (h := fun _ (k : V) s => bindR (placeR s v k.n) fun n s => okR (numV n) s) fun k t2 _ => (placeR_soon t2 v k.n).bind (h := fun _ (n : Int) s => okR (numV n) s) fun _ _ _ => Soon.now _
  | .input a, s, h => by
    cases hi : s.inp with
    | nil => exact (Soon.now (.ok (numV 0), s)).next fun f => by rw [evE, hi]; rfl
    | cons n r => exact (Soon.now (.ok (numV n), { s with inp := r })).next fun f => by rw [evE, hi]; rfl
theorem evA_soon (hc : CallSoon L c) (F : Fr) : (l : List Ex) → (s : RS) → (vs : List V) → s.calls + c = 40 → Soon (fun f => evA L f s F l vs)
  | [], s, vs, h => (Soon.now (.ok vs, s)).next fun f => by rw [evA]; rfl
  | e :: r, s, vs, h => by
    refine ((evE_soon hc F e s h).bind (h := fun f (v : V) s => evA L f s F r (vs ++ [v])) fun v t ht => ?_).next fun f => by rw [evA]
    have hk := calls_same (fun f => (kept_all L f).1 s F e) ht
    exact evA_soon hc F r t _ (by omega)
end
/-- Blocks and loops, with fuel of n at most. -/
def BlkSoon (L : List Fn) (c n : Nat) : Prop := ∀ s : RS, s.calls + c = 40 → s.fuel ≤ n → ∀ F l, Soon (fun f => blockR L f s F l)
def WhlSoon (L : List Fn) (c n : Nat) : Prop := ∀ s : RS, s.calls + c = 40 → s.fuel ≤ n → ∀ F v t, Soon (fun f => whileR L f s F v t)
theorem step_soon {n : Nat} {s : RS} (h : s.calls + c = 40) (hn : s.fuel ≤ n) {k : Nat → RS → RM Fr} (hk : ∀ t : RS, t.calls + c = 40 → t.fuel < n → Soon (fun f => k f t)) : Soon (fun f => bindR (stepR s) fun _ t => k f t) := by
  refine (stepR_soon s).bind (h := fun f (_ : Unit) t => k f t) fun _ t ht => ?_
  obtain ⟨_, ht⟩ := ht
  unfold stepR at ht
  split at ht
  · cases ht
  · have h3 := Option.some.inj ht
    simp only [Prod.mk.injEq] at h3
    obtain ⟨-, rfl⟩ := h3
    exact hk _ h (by simp only; omega)
theorem stmt_soon (hc : CallSoon L c) {n : Nat} (hb : ∀ m, m < n → BlkSoon L c m ∧ WhlSoon L c m) (s : RS) (h : s.calls + c = 40) (hn : s.fuel ≤ n) (F : Fr) (x : St) : Soon (fun f => stmtR L f s F x) := by
  have hev := fun (t : RS) (h1 : t.calls + c = 40) e => evE_soon hc F e t h1
  cases x with
  | var a m v => exact (step_soon h hn (k := fun f s => bindR (evE L f s F v) fun y s => okR (F.put m y) s) fun t h1 h2 => (hev t h1 v).bind (h := fun _ (y : V) s => okR (F.put m y) s) fun _ _ _ => Soon.now _).next fun f => by simp only [stmtR]
  | set a m v => exact (step_soon h hn (k := fun f s => bindR (evE L f s F v) fun y s => okR (F.put m y) s) fun t h1 h2 => (hev t h1 v).bind (h := fun _ (y : V) s => okR (F.put m y) s) fun _ _ _ => Soon.now _).next fun f => by simp only [stmtR]
  | put a m i v =>
    refine (step_soon h hn (k := fun f s => bindR (evE L f s F i) fun k s => bindR (evE L f s F v) fun y s => bindR (placeR s (F.get m) k.n) fun _ s => okR F (putArr s (F.get m) k.n y.n)) fun t h1 h2 => ?_).next fun f => by simp only [stmtR]
    refine (hev t h1 i).bind (h := fun f (k : V) s => bindR (evE L f s F v) fun y s => bindR (placeR s (F.get m) k.n) fun _ s => okR F (putArr s (F.get m) k.n y.n)) fun k t2 ht2 => ?_
    have hk := calls_same (fun f => (kept_all L f).1 t F i) ht2
    exact (hev t2 (by omega) v).bind (h := fun _ (y : V) s => bindR (placeR s (F.get m) k.n) fun _ s => okR F (putArr s (F.get m) k.n y.n)) fun y t3 _ => (placeR_soon t3 _ _).bind (h := fun _ (_ : Int) s => okR F (putArr s (F.get m) k.n y.n)) fun _ _ _ => Soon.now _
  | cond a v t1 e1 =>
    refine (step_soon h hn (k := fun f s => bindR (evE L f s F v) fun c s => if c.n ≠ 0 then blockR L f s F t1 else blockR L f s F e1) fun t h1 h2 => ?_).next fun f => by simp only [stmtR]
    refine (hev t h1 v).bind (h := fun f (c : V) s => if c.n ≠ 0 then blockR L f s F t1 else blockR L f s F e1) fun k t2 ht2 => ?_
    have hk := calls_same (fun f => (kept_all L f).1 t F v) ht2
    have hf := burns (fun f => (goes_all burns_way L f).1 t F v) ht2
    have hbb := (hb t2.fuel (by omega)).1 t2 (by omega) (Nat.le_refl _) F
    by_cases hz : k.n ≠ 0
    · simp only [if_pos hz]; exact hbb t1
    · simp only [if_neg hz]; exact hbb e1
  | loop a v t1 => exact (step_soon h hn (k := fun f s => whileR L f s F v t1) fun t h1 h2 => (hb t.fuel h2).2 t h1 (Nat.le_refl _) F v t1).next fun f => by simp only [stmtR]
  | ret a v => exact (step_soon h hn (k := fun f s => bindR (evE L f s F v) fun y s => some (.error (.ret y.n), s)) fun t h1 h2 => (hev t h1 v).bind (h := fun _ (y : V) s => some (.error (.ret y.n), s)) fun _ _ _ => Soon.now _).next fun f => by simp only [stmtR]
  | print a v =>
    refine (step_soon h hn (k := fun f s => bindR (evE L f s F v) fun y s => if s.out.length ≥ 200 then stopR 7 s else okR F { s with out := s.out ++ [y.n] }) fun t h1 h2 => ?_).next fun f => by simp only [stmtR]
    refine (hev t h1 v).bind (h := fun _ (y : V) s => if s.out.length ≥ 200 then stopR 7 s else okR F { s with out := s.out ++ [y.n] }) fun y t2 _ => ?_
    by_cases hz : t2.out.length ≥ 200
    · simp only [if_pos hz]; exact Soon.now _
    · simp only [if_neg hz]; exact Soon.now _
  | call a v => exact (step_soon h hn (k := fun f s => bindR (evE L f s F v) fun _ s => okR F s) fun t h1 h2 => (hev t h1 v).bind (h := fun _ (_ : V) s => okR F s) fun _ _ _ => Soon.now _).next fun f => by simp only [stmtR]
theorem block_soon (hc : CallSoon L c) {n : Nat} (hb : ∀ m, m < n → BlkSoon L c m ∧ WhlSoon L c m) : BlkSoon L c n := by
  intro s h hn F l
  induction l generalizing s F with
  | nil => exact (Soon.now (.ok F, s)).next fun f => by rw [blockR]; rfl
  | cons x r ih =>
    refine ((stmt_soon hc hb s h hn F x).bind (h := fun f F s => blockR L f s F r) fun F2 t ht => ?_).next fun f => by rw [blockR]
    have hk := calls_same (fun f => (kept_all L f).2.2.2.2.1 s F x) ht
    have hf := burns (fun f => (goes_all burns_way L f).2.2.2.2.1 s F x) ht
    exact ih t (by omega) (by omega) F2
theorem while_soon (hc : CallSoon L c) {n : Nat} (hb : ∀ m, m < n → BlkSoon L c m ∧ WhlSoon L c m) : WhlSoon L c n := by
  intro s h hn F v t
  refine ((evE_soon hc F v s h).bind (h := fun f (c : V) s => if c.n ≠ 0 then bindR (blockR L f s F t) fun F s => bindR (stepR s) fun _ s => whileR L f s F v t else okR F s) fun k t1 ht => ?_).next fun f => by rw [whileR]
  have hk := calls_same (fun f => (kept_all L f).1 s F v) ht
  have hf := burns (fun f => (goes_all burns_way L f).1 s F v) ht
  by_cases hz : k.n ≠ 0
  · simp only [if_pos hz]
    refine (block_soon hc hb t1 (by omega) (by omega) F t).bind (h := fun f F s => bindR (stepR s) fun _ s => whileR L f s F v t) fun F2 t2 ht2 => ?_
    have hk2 := calls_same (fun f => (kept_all L f).2.2.2.1 t1 F t) ht2
    have hf2 := burns (fun f => (goes_all burns_way L f).2.2.2.1 t1 F t) ht2
    refine (stepR_soon t2).bind (h := fun f _ s => whileR L f s F2 v t) fun _ t3 ht3 => ?_
    obtain ⟨_, ht3⟩ := ht3
    unfold stepR at ht3
    split at ht3
    · cases ht3
    · have h3 := Option.some.inj ht3
      simp only [Prod.mk.injEq] at h3
      obtain ⟨-, rfl⟩ := h3
      exact (hb (t2.fuel - 1) (by omega)).2 _ (by simp only; omega) (Nat.le_refl _) F2 v t
  · simp only [if_neg hz]; exact Soon.now _
theorem all_soon (hc : CallSoon L c) (n : Nat) : BlkSoon L c n ∧ WhlSoon L c n := by
  induction n using Nat.strongRecOn with
  | ind n ih => exact ⟨block_soon hc ih, while_soon hc ih⟩
end soon
theorem call_soon (L : List Fn) : (c : Nat) → CallSoon L c
  | 0 => fun s h g vs => (Soon.now (.error (.stop 5), s)).next fun f => by simp only [callR]; rw [if_pos (by omega)]; rfl
  | c + 1 => fun s h g vs => by
    have hb := (all_soon (call_soon L c) s.fuel).1 { s with calls := s.calls + 1 } (by simp only; omega) (Nat.le_refl _) (bindParams [] (fnGet L g).params vs) (fnGet L g).body
    obtain ⟨f, y, hy⟩ := hb
    refine ⟨f + 1, (match y with
      | (.ok _, t) => (.ok 0, { t with calls := t.calls - 1 })
      | (.error (.ret n), t) => (.ok n, { t with calls := t.calls - 1 })
      | (.error (.stop w), t) => (.error (.stop w), t)), fun k hk => ?_⟩
    obtain ⟨j, rfl⟩ : ∃ j, k = j + 1 := ⟨k - 1, by omega⟩
    have h1 := hy j (by omega)
    simp only at h1
    simp only [callR]
    rw [if_neg (by omega), h1]
    obtain ⟨(w | n) | G, t⟩ := y <;> rfl
theorem run_soon (L : List Fn) (given : List Int) (fuel : Nat) : ∃ f x, ∀ g, f ≤ g → runR L g given fuel = some x := by
  obtain ⟨f, y, hy⟩ := call_soon L 40 ⟨given, fuel, 0, [], []⟩ rfl [109, 97, 105, 110] []
  exact ⟨f, endOf y, fun g hg => by have h1 := hy g hg; simp only at h1; rw [runR_eq, h1]; rfl⟩
end Go.Proofs.YtnicpmoanjddbaaGreatDoor.TreeP

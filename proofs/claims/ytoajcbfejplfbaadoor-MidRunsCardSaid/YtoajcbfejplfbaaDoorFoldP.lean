/- Fewer steps, plainly: what is known, what is needed, what is reached. No program in sight. No conditions. -/
import Derived.Test.YtoajcbfejplfbaaDoorMidP
namespace Go.Proofs.YtoajcbfejplfbaaDoor.MidP
open Go.RowKit Go.Proofs.YtoajcbfejplfbaaDoor.TreeP
set_option linter.unusedVariables false
set_option linter.unusedSimpArgs false
/-- What is known of places: their numbers, and which are the same as others. -/
structure Kn where
  nums : Int → Option Int
  same : Int → Option Int
def Kn.none : Kn := ⟨fun _ => Option.none, fun _ => Option.none⟩
def setO (F : Int → Option Int) (p x : Int) : Int → Option Int := fun y => if y = p then some x else F y
def delO (F : Int → Option Int) (p : Int) : Int → Option Int := fun y => if y = p then Option.none else F y
def dropO (F : Int → Option Int) (p : Int) : Int → Option Int := fun y => if F y = some p then Option.none else F y
def Kn.forget (k : Kn) (p : Int) : Kn := ⟨delO k.nums p, dropO (delO k.same p) p⟩
def Kn.of (k : Kn) (p : Int) : Int := (k.same p).getD p
def Kn.reads (k : Kn) (s : Stp) : Stp := { s with a := k.of s.a, b := k.of s.b, c := k.of s.c, args := s.args.map k.of }
def constP (dst n : Int) : Stp := ⟨1, dst, 0, 0, 0, n, [], 0, [], []⟩
def copyP (dst a : Int) : Stp := ⟨2, dst, a, 0, 0, 0, [], 0, [], []⟩
def jumpP (l : Int) : Stp := ⟨4, 0, 0, 0, 0, 0, [], l, [], []⟩
/-- A step of which its places are read; what is known of them. -/
def turnP (s : Stp) (A B : Option Int) : Stp :=
  if s.code = 2 ∧ A.isSome then constP s.dst (A.getD 0)
  else if s.code = 5 ∧ A = some 0 then jumpP s.label
  else if s.code = 3 ∧ A.isSome ∧ B.isSome then (if (bothP s.op (A.getD 0) (B.getD 0)).2 = 0 then constP s.dst (bothP s.op (A.getD 0) (B.getD 0)).1 else s)
  else if s.code = 3 ∧ ((B = some 0 ∧ (s.op = [43] ∨ s.op = [45])) ∨ (B = some 1 ∧ (s.op = [42] ∨ s.op = [47]))) then copyP s.dst s.a
  else if s.code = 3 ∧ ((A = some 0 ∧ s.op = [43]) ∨ (A = some 1 ∧ s.op = [42])) then copyP s.dst s.b
  else s
def Kn.step (k : Kn) (s : Stp) : Stp := turnP (k.reads s) (k.nums (k.of s.a)) (k.nums (k.of s.b))
/-- The place that a step writes; below 0: none. -/
def writesP (s : Stp) : Int := if s.code = 1 ∨ s.code = 2 ∨ s.code = 3 ∨ s.code = 7 ∨ s.code = 9 ∨ s.code = 10 ∨ s.code = 11 ∨ s.code = 14 then s.dst else -1
def usesP (s : Stp) : List Int :=
  if s.code = 2 ∨ s.code = 5 ∨ s.code = 8 ∨ s.code = 9 ∨ s.code = 10 ∨ s.code = 13 then [s.a]
  else if s.code = 3 ∨ s.code = 11 then [s.a, s.b]
  else if s.code = 12 then [s.a, s.b, s.c]
  else if s.code = 7 then s.args
  else []
def Kn.learn (k : Kn) (s : Stp) : Kn :=
  if writesP s < 0 then k
  else if s.code = 1 then ⟨setO (k.forget (writesP s)).nums (writesP s) s.n, (k.forget (writesP s)).same⟩
  else if s.code = 2 ∧ s.a ≠ writesP s then ⟨(k.forget (writesP s)).nums, setO (k.forget (writesP s)).same (writesP s) s.a⟩
  else k.forget (writesP s)
/-- It never jumps. -/
def idle (k : Kn) (t : Stp) : Bool := t.code == 5 && (match k.nums t.a with | some a => a != 0 | Option.none => false)
def freshK (k : Kn) (s : Stp) : Kn := if s.code = 6 then Kn.none else k
def knownS : Kn → List Stp → List Stp
  | _, [] => []
  | k, s :: r => if idle (freshK k s) ((freshK k s).step s) then knownS (freshK k s) r else (freshK k s).step s :: knownS ((freshK k s).learn ((freshK k s).step s)) r
def knownF (f : Fm) : Fm := { f with steps := knownS Kn.none f.steps }
def pureP (s : Stp) : Bool := s.code == 1 || s.code == 2 || s.code == 10 || (s.code == 3 && s.op != [47] && s.op != [37])
/-- Steps that may come behind one. -/
def followsP (f : Fm) (i : Nat) : List Nat :=
  match f.steps[i]? with
  | Option.none => []
  | some s => (if s.code = 4 ∨ s.code = 5 then [atP f s.label] else []) ++ (if s.code ≠ 4 ∧ s.code ≠ 8 ∧ i + 1 < f.steps.length then [i + 1] else [])
/-- Places that are needed behind steps, and ahead of them: all that must be. -/
structure Closed (f : Fm) (B A : Nat → Int → Prop) : Prop where
  next : ∀ i k p, k ∈ followsP f i → A k p → B i p
  keep : ∀ i s p, f.steps[i]? = some s → B i p → p ≠ writesP s → A i p
  use : ∀ i s p, f.steps[i]? = some s → p ∈ usesP s → A i p
/-- Needed behind a step. -/
def Needed (f : Fm) (i : Nat) (p : Int) : Prop := ∀ B A, Closed f B A → B i p
def NeededA (f : Fm) (i : Nat) (p : Int) : Prop := ∀ B A, Closed f B A → A i p
theorem needed_closed (f : Fm) : Closed f (Needed f) (NeededA f) :=
  ⟨fun i k p hk h B A hc => hc.next i k p hk (h B A hc), fun i s p hs h hp B A hc => hc.keep i s p hs (h B A hc) hp, fun i s p hs hp B A hc => hc.use i s p hs hp⟩
open Classical in
noncomputable def neededB (f : Fm) (i : Nat) (p : Int) : Bool := decide (Needed f i p)
open Classical in
noncomputable def aheadB (f : Fm) (i : Nat) (p : Int) : Bool := decide (NeededA f i p)
noncomputable def deadS (f : Fm) : Nat → List Stp → List Stp
  | _, [] => []
  | i, s :: r => if !pureP s || neededB f i (writesP s) then s :: deadS f (i + 1) r else deadS f (i + 1) r
noncomputable def deadF (f : Fm) : Fm := { f with steps := deadS f 0 f.steps }
def onS : Bool → List Stp → List Stp
  | _, [] => []
  | on, s :: r => (if on || s.code == 6 then [s] else []) ++ onS ((on || s.code == 6) && !(s.code == 4 || s.code == 8)) r
def jumpS : List Stp → List Stp
  | [] => []
  | [s] => [s]
  | s :: t :: r => if s.code = 4 ∧ t.code = 6 ∧ t.label = s.label then jumpS (t :: r) else s :: jumpS (t :: r)
def usedB (l : List Stp) (x : Int) : Bool := l.any (fun s => (s.code == 4 || s.code == 5) && s.label == x)
def spareB (l : List Stp) (s : Stp) : Bool := s.code == 6 && !usedB l s.label
def reachedS (l : List Stp) : List Stp := (jumpS (onS true l)).filter (fun s => !spareB (jumpS (onS true l)) s)
def reachedF (f : Fm) : Fm := { f with steps := reachedS f.steps }
noncomputable def foldOne (f : Fm) : Fm := reachedF (deadF (knownF f))
noncomputable def foldF (f : Fm) : Fm := foldOne (foldOne (foldOne (foldOne f)))
end Go.Proofs.YtoajcbfejplfbaaDoor.MidP

/- Programs as steps, plainly: which may be, and how they end. No program in sight. No conditions. -/
import Derived.Test.YtnicpmoanjddbaaGreatDoorRunPl
namespace Go.Proofs.YtnicpmoanjddbaaGreatDoor.MidP
open Go.RowKit Go.Proofs.YtnicpmoanjddbaaGreatDoor.TreeP
set_option linter.unusedVariables false
set_option linter.unusedSimpArgs false
/-- A step. -/
structure Stp where
  code : Int
  dst : Int
  a : Int
  b : Int
  c : Int
  n : Int
  op : List UInt8
  label : Int
  name : List UInt8
  args : List Int
  deriving DecidableEq
/-- A function of steps. -/
structure Fm where
  name : List UInt8
  params : Int
  types : List Int
  steps : List Stp
  deriving DecidableEq
def opList : List (List UInt8) := [[43], [45], [42], [47], [37], [61, 61], [33, 61], [60], [60, 61], [62], [62, 61]]
/-- What a mark of two comes to: its number, the way in which it ends (0: it does not). -/
def bothP (op : List UInt8) (a b : Int) : Int × Int :=
  if op = [43] then (wrap64 (a + b), 0)
  else if op = [45] then (wrap64 (a - b), 0)
  else if op = [42] then (wrap64 (a * b), 0)
  else if op = [47] ∨ op = [37] then (if b = 0 then (0, 2) else if op = [47] then (wrap64 (a.tdiv b), 0) else (a.tmod b, 0))
  else if op = [61, 61] then (oneB (a == b), 0)
  else if op = [33, 61] then (oneB (a != b), 0)
  else if op = [60] then (oneB (decide (a < b)), 0)
  else if op = [60, 61] then (oneB (decide (a ≤ b)), 0)
  else if op = [62] then (oneB (decide (a > b)), 0)
  else if op = [62, 61] then (oneB (decide (a ≥ b)), 0)
  else (0, 0)
/-- The type of a place; -1: it is not there. -/
def kindP (f : Fm) (p : Int) : Int := if p < 0 ∨ p ≥ f.types.length then -1 else f.types.getD p.toNat 0
/-- Of which types the places of each code are (0: it has none). -/
def formsP (code : Int) : List Int :=
  if code = 1 then [1, 0, 0, 0]
  else if code = 3 then [1, 1, 1, 0]
  else if code = 5 then [0, 1, 0, 0]
  else if code = 8 then [0, 1, 0, 0]
  else if code = 9 then [2, 1, 0, 0]
  else if code = 10 then [1, 2, 0, 0]
  else if code = 11 then [1, 2, 1, 0]
  else if code = 12 then [0, 2, 1, 1]
  else if code = 13 then [0, 1, 0, 0]
  else if code = 14 then [1, 0, 0, 0]
  else [0, 0, 0, 0]
def fitB (f : Fm) (t p : Int) : Bool := !(decide (t > 0) && kindP f p != t)
def fmIdx (L : List Fm) (g : List UInt8) : Option Nat := L.findIdx? (fun f => f.name == g)
/-- Whether labels have this one. -/
def hasLabel (f : Fm) (l : Int) : Bool := f.steps.any (fun s => s.code == 6 && s.label == l)
def rightB (L : List Fm) (f : Fm) (s : Stp) : Bool :=
  if s.code = 2 then decide (kindP f s.dst > 0) && kindP f s.dst == kindP f s.a
  else if s.code = 7 then match L.find? (fun g => g.name == s.name) with
    | none => false
    | some g => decide ((s.args.length : Int) = g.params) && kindP f s.dst == 1 && (s.args.map (kindP f)) == g.types.take s.args.length
  else if s.code < 1 ∨ s.code > 14 then false
  else fitB f ((formsP s.code).getD 0 0) s.dst && fitB f ((formsP s.code).getD 1 0) s.a && fitB f ((formsP s.code).getD 2 0) s.b && fitB f ((formsP s.code).getD 3 0) s.c
    && (!(s.code == 4 || s.code == 5) || hasLabel f s.label) && (!(s.code == 3) || opList.contains s.op)
/-- No label twice. -/
def onceB : List Int → List Stp → Bool
  | _, [] => true
  | T, s :: r => if s.code = 6 then (if T.contains s.label then false else onceB (T ++ [s.label]) r) else onceB T r
def fnB (L : List Fm) (f : Fm) : Bool :=
  decide (f.types.length ≤ 3000) && decide (1 ≤ f.steps.length) && decide (f.steps.length ≤ 6000)
    && (match f.steps.getLast? with | some s => s.code == 8 || s.code == 4 | none => false)
    && f.types.all (fun t => t == 1 || t == 2) && onceB [] f.steps && f.steps.all (rightB L f)
/-- Names and parameters. -/
def headsB : List Fm → List Fm → Bool
  | _, [] => true
  | ahead, f :: r => if f.params < 0 ∨ f.params > f.types.length ∨ ahead.any (fun g => g.name == f.name) then false else headsB (ahead ++ [f]) r
def codeB (L : List Fm) : Bool := decide (L.length ≤ 12) && headsB [] L && L.all (fnB L) && L.any (fun f => f.name == [109, 97, 105, 110] && f.params == 0)
def fmOf (L : List Fm) (g : List UInt8) : Option Fm := L.find? (fun f => f.name == g)
def fmGet (L : List Fm) (g : List UInt8) : Fm := (fmOf L g).getD ⟨[], 0, [], []⟩
/-- Where a label stands: the last of its name (0: none). -/
def labelAt : List Stp → Int → Nat → Nat → Nat
  | [], _, _, k => k
  | s :: r, l, i, k => labelAt r l (i + 1) (if s.code = 6 ∧ s.label = l then i else k)
def atP (f : Fm) (l : Int) : Nat := labelAt f.steps l 0 0
/-- Places, and what they have. -/
abbrev Pl := List V
def Pl.get (v : Pl) (p : Int) : V := v.getD p.toNat ⟨0, none⟩
def Pl.put (v : Pl) (p : Int) (x : V) : Pl := v.set p.toNat x
/-- A step that goes on with the next one. -/
def stepM (v : Pl) (x : Stp) (s : RS) : RM Pl :=
  if x.code = 1 then okR (v.put x.dst (numV x.n)) s
  else if x.code = 2 then okR (v.put x.dst (v.get x.a)) s
  else if x.code = 3 then (if (bothP x.op (v.get x.a).n (v.get x.b).n).2 ≠ 0 then stopR (bothP x.op (v.get x.a).n (v.get x.b).n).2 s else okR (v.put x.dst (numV (bothP x.op (v.get x.a).n (v.get x.b).n).1)) s)
  else if x.code = 9 then (if (v.get x.a).n < 0 ∨ (v.get x.a).n > 40 then stopR 4 s else okR (v.put x.dst ⟨0, some s.arrs.length⟩) { s with arrs := s.arrs ++ [List.replicate (v.get x.a).n.toNat 0] })
  else if x.code = 10 then okR (v.put x.dst (numV (arrOf s (v.get x.a)).length)) s
  else if x.code = 11 then bindR (placeR s (v.get x.a) (v.get x.b).n) fun n s => okR (v.put x.dst (numV n)) s
  else if x.code = 12 then bindR (placeR s (v.get x.a) (v.get x.b).n) fun _ s => okR v (putArr s (v.get x.a) (v.get x.b).n (v.get x.c).n)
  else if x.code = 13 then (if s.out.length ≥ 200 then stopR 7 s else okR v { s with out := s.out ++ [(v.get x.a).n] })
  else if x.code = 14 then (match s.inp with
    | [] => okR (v.put x.dst (numV 0)) s
    | n :: r => okR (v.put x.dst (numV n)) { s with inp := r })
  else okR v s
def fillP (args : List V) (n : Nat) : Pl := (args.take n) ++ List.replicate (n - args.length) ⟨0, none⟩
mutual
/-- A function's steps, from one on. -/
def goM (L : List Fm) : Nat → RS → Fm → Pl → Nat → RM Int
  | 0, _, _, _, _ => none
  | f + 1, s, F, v, i => match F.steps[i]? with
    | none => okR 0 s
    | some x => bindR (stepR s) fun _ s =>
      if x.code = 4 then goM L f s F v (atP F x.label + 1)
      else if x.code = 5 then (if (v.get x.a).n = 0 then goM L f s F v (atP F x.label + 1) else goM L f s F v (i + 1))
      else if x.code = 7 then bindR (callM L f s x.name (x.args.map v.get)) fun n s => goM L f s F (v.put x.dst (numV n)) (i + 1)
      else if x.code = 8 then okR (v.get x.a).n s
      else bindR (stepM v x s) fun v s => goM L f s F v (i + 1)
def callM (L : List Fm) : Nat → RS → List UInt8 → List V → RM Int
  | 0, _, _, _ => none
  | f + 1, s, g, vs =>
    if s.calls = 40 then stopR 5 s
    else bindR (goM L f { s with calls := s.calls + 1 } (fmGet L g) (fillP vs (fmGet L g).types.length) 0) fun n t => okR n { t with calls := t.calls - 1 }
end
/-- How steps end. -/
def runM (L : List Fm) (f : Nat) (given : List Int) (fuel : Nat) : Option (Int × Int × List Int) :=
  match callM L f ⟨given, fuel, 0, [], []⟩ [109, 97, 105, 110] [] with
  | some (.ok n, t) => some (1, n, t.out)
  | some (.error (.stop w), t) => some (w, 0, t.out)
  | some (.error (.ret n), t) => some (0, 0, t.out)
  | none => none
end Go.Proofs.YtnicpmoanjddbaaGreatDoor.MidP

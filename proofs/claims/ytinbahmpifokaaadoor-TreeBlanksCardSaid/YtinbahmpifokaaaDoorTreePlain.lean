/- Programs as text, plainly: tokens, and which program they are. No program in sight. No conditions. -/
import Derived.WalkKit
namespace Go.Proofs.YtinbahmpifokaaaDoor.TreeP
open Go.RowKit
set_option linter.unusedVariables false
set_option linter.unusedSimpArgs false
/-- A token: its kind (1 a word, 2 a number, 3 a mark, 4 the end), its text, where it begins. -/
structure Tok where
  kind : Int
  text : List UInt8
  at_ : Int
  deriving DecidableEq
def letterB (c : UInt8) : Bool := (decide (97 ≤ c.toNat) && decide (c.toNat ≤ 122)) || c.toNat == 95
def digitB (c : UInt8) : Bool := decide (48 ≤ c.toNat) && decide (c.toNat ≤ 57)
/-- The marks, those of two letters ahead. -/
def markList : List (List UInt8) := [[38, 38], [124, 124], [61, 61], [33, 61], [60, 61], [62, 61], [60], [62], [61], [43], [45], [42], [47], [37], [33], [40], [41], [123], [125], [91], [93], [44], [59], [58]]
/-- What stands at a text's beginning: its kind, how long it is. -/
def nextP (l : List UInt8) : Int × Nat :=
  match l with
  | [] => (3, 0)
  | c :: _ =>
    if letterB c then (1, (l.takeWhile fun x => letterB x || digitB x).length)
    else if digitB c then (2, (l.takeWhile digitB).length)
    else match markList.find? (fun m => m.isPrefixOf l) with
      | some m => (3, m.length)
      | none => (3, 0)
def blankB (c : UInt8) : Bool := c.toNat == 32 || c.toNat == 9 || c.toNat == 10
/-- The tokens of a text that begins at a place, n of them ahead; or what is wrong, and where. -/
def lexF : Nat → List UInt8 → Nat → Nat → Option (Except (Int × Int) (List Tok))
  | 0, _, _, _ => none
  | f + 1, l, p, n =>
    match l with
    | [] => some (.ok [⟨4, [], p⟩])
    | c :: r =>
      if blankB c then lexF f r (p + 1) n
      else if c.toNat == 35 then
        lexF f (l.dropWhile fun x => x.toNat != 10) (p + (l.takeWhile fun x => x.toNat != 10).length) n
      else
        let k := nextP l
        if k.2 = 0 then some (.error (3, p))
        else if n = 1500 then some (.error (4, p))
        else match lexF f (l.drop k.2) (p + k.2) (n + 1) with
          | some (.ok t) => some (.ok (⟨k.1, l.take k.2, p⟩ :: t))
          | x => x
def lex (l : List UInt8) : Except (Int × Int) (List Tok) := (lexF (l.length + 1) l 0 0).getD (.error (0, 0))
/-- Expressions. -/
inductive Ex where
  | num (at_ n : Int)
  | var (at_ : Int) (s : List UInt8)
  | bin (at_ : Int) (op : List UInt8) (l r : Ex)
  | un (at_ : Int) (op : List UInt8) (x : Ex)
  | call (at_ : Int) (f : List UInt8) (args : List Ex)
  | new (at_ : Int) (x : Ex)
  | len (at_ : Int) (x : Ex)
  | item (at_ : Int) (x i : Ex)
  | input (at_ : Int)
/-- Statements. -/
inductive St where
  | var (at_ : Int) (s : List UInt8) (v : Ex)
  | set (at_ : Int) (s : List UInt8) (v : Ex)
  | put (at_ : Int) (s : List UInt8) (i v : Ex)
  | cond (at_ : Int) (v : Ex) (t e : List St)
  | loop (at_ : Int) (v : Ex) (t : List St)
  | ret (at_ : Int) (v : Ex)
  | print (at_ : Int) (v : Ex)
  | call (at_ : Int) (v : Ex)
/-- A function. -/
structure Fn where
  name : List UInt8
  at_ : Int
  params : List (List UInt8 × Int)
  body : List St
/-- What a part of the reader comes to: nothing (not enough rounds), an error and where, or what was read, and what is left. -/
abbrev PR (α : Type) := Option (Except (Int × Int) (α × List Tok))
def failP {α : Type} (e : Int) (ts : List Tok) : PR α := some (.error (e, (ts.head?.map (·.at_)).getD 0))
def okP {α : Type} (a : α) (ts : List Tok) : PR α := some (.ok (a, ts))
def andThen {α β : Type} (x : PR α) (f : α → List Tok → PR β) : PR β :=
  match x with
  | some (.ok (a, ts)) => f a ts
  | some (.error e) => some (.error e)
  | none => none
def headKind (ts : List Tok) : Int := (ts.head?.map (·.kind)).getD 4
def headText (ts : List Tok) : List UInt8 := (ts.head?.map (·.text)).getD []
def headAt (ts : List Tok) : Int := (ts.head?.map (·.at_)).getD 0
/-- The next token is this text. -/
def seeB (s : List UInt8) (ts : List Tok) : Bool := headText ts == s && headKind ts != 4
def must (s : List UInt8) (ts : List Tok) : PR Unit := if seeB s ts then okP () ts.tail else failP 3 ts
def kFn : List UInt8 := [102, 110]
def kVar : List UInt8 := [118, 97, 114]
def kIf : List UInt8 := [105, 102]
def kElse : List UInt8 := [101, 108, 115, 101]
def kWhile : List UInt8 := [119, 104, 105, 108, 101]
def kReturn : List UInt8 := [114, 101, 116, 117, 114, 110]
def kPrint : List UInt8 := [112, 114, 105, 110, 116]
def kNew : List UInt8 := [110, 101, 119]
def kLen : List UInt8 := [108, 101, 110]
def kInput : List UInt8 := [105, 110, 112, 117, 116]
def kInt : List UInt8 := [105, 110, 116]
def kArr : List UInt8 := [97, 114, 114]
def keptList : List (List UInt8) := [kFn, kVar, kIf, kElse, kWhile, kReturn, kPrint, kNew, kLen, kInput, kInt, kArr]
def keptB (s : List UInt8) : Bool := keptList.contains s
def nameP (ts : List Tok) : PR (List UInt8) :=
  if headKind ts != 1 || keptB (headText ts) then failP 3 ts
  else if 12 < (headText ts).length then failP 4 ts
  else okP (headText ts) ts.tail
/-- The marks of two, level by level. -/
def levelList : List (List (List UInt8)) := [[[124, 124]], [[38, 38]], [[61, 61], [33, 61]], [[60], [60, 61], [62], [62, 61]], [[43], [45]], [[42], [47], [37]]]
/-- The mark of a level that comes next (none: []). -/
def opP (level : Nat) (ts : List Tok) : List UInt8 := ((levelList.getD level []).find? (fun m => seeB m ts)).getD []
/-- A number of 63 bits. -/
def numP (l : List UInt8) : Nat := l.foldl (fun n c => n * 10 + (c.toNat - 48)) 0
mutual
def exprF : Nat → Nat → Nat → List Tok → PR Ex
  | 0, _, _, _ => none
  | f + 1, level, deep, ts =>
    if level = 6 then unaryF f deep ts
    else andThen (exprF f (level + 1) deep ts) fun x r => binF f level deep (headAt ts) x r
def binF : Nat → Nat → Nat → Int → Ex → List Tok → PR Ex
  | 0, _, _, _, _, _ => none
  | f + 1, level, deep, a, x, ts =>
    if opP level ts = [] then okP x ts
    else andThen (exprF f (level + 1) deep ts.tail) fun y r => binF f level deep a (.bin a (opP level ts) x y) r
def unaryF : Nat → Nat → List Tok → PR Ex
  | 0, _, _ => none
  | f + 1, deep, ts =>
    if 12 < deep then failP 4 ts
    else if seeB [45] ts then andThen (unaryF f (deep + 1) ts.tail) fun x r => okP (.un (headAt ts) [45] x) r
    else if seeB [33] ts then andThen (unaryF f (deep + 1) ts.tail) fun x r => okP (.un (headAt ts) [33] x) r
    else andThen (firstF f deep ts) fun x r => itemF f deep (headAt ts) x r
def itemF : Nat → Nat → Int → Ex → List Tok → PR Ex
  | 0, _, _, _, _ => none
  | f + 1, deep, a, x, ts =>
    if seeB [91] ts then andThen (exprF f 0 (deep + 1) ts.tail) fun i r => andThen (must [93] r) fun _ r2 => itemF f deep a (.item a x i) r2
    else okP x ts
def aloneF : Nat → Nat → List Tok → PR Ex
  | 0, _, _ => none
  | f + 1, deep, ts => andThen (must [40] ts) fun _ r => andThen (exprF f 0 (deep + 1) r) fun x r2 => andThen (must [41] r2) fun _ r3 => okP x r3
def firstF : Nat → Nat → List Tok → PR Ex
  | 0, _, _ => none
  | f + 1, deep, ts =>
    if headKind ts = 2 then
      (if numP (headText ts) < 9223372036854775808 then okP (.num (headAt ts) (numP (headText ts))) ts.tail else failP 4 ts)
    else if seeB [40] ts then aloneF f deep ts
    else if seeB kNew ts then andThen (aloneF f deep ts.tail) fun x r => okP (.new (headAt ts) x) r
    else if seeB kLen ts then andThen (aloneF f deep ts.tail) fun x r => okP (.len (headAt ts) x) r
    else if seeB kInput ts then andThen (must [40] ts.tail) fun _ r => andThen (must [41] r) fun _ r2 => okP (.input (headAt ts)) r2
    else andThen (nameP ts) fun n r =>
      if seeB [40] r then andThen (argsF f deep r) fun l r2 => okP (.call (headAt ts) n l) r2
      else okP (.var (headAt ts) n) r
def argsF : Nat → Nat → List Tok → PR (List Ex)
  | 0, _, _ => none
  | f + 1, deep, ts => andThen (must [40] ts) fun _ r => restF f deep true [] r
def restF : Nat → Nat → Bool → List Ex → List Tok → PR (List Ex)
  | 0, _, _, _, _ => none
  | f + 1, deep, first, l, ts =>
    if seeB [41] ts then okP l ts.tail
    else andThen (if first then okP () ts else must [44] ts) fun _ r => andThen (exprF f 0 (deep + 1) r) fun x r2 => restF f deep false (l ++ [x]) r2
end
mutual
def blockF : Nat → Nat → List Tok → PR (List St)
  | 0, _, _ => none
  | f + 1, deep, ts => if 12 < deep then failP 4 ts else andThen (must [123] ts) fun _ r => stmtsF f deep [] r
def stmtsF : Nat → Nat → List St → List Tok → PR (List St)
  | 0, _, _, _ => none
  | f + 1, deep, l, ts => if seeB [125] ts then okP l ts.tail else andThen (stmtF f deep ts) fun s r => stmtsF f deep (l ++ [s]) r
def stmtF : Nat → Nat → List Tok → PR St
  | 0, _, _ => none
  | f + 1, deep, ts =>
    if seeB kIf ts then
      andThen (aloneF f 0 ts.tail) fun v r => andThen (blockF f (deep + 1) r) fun t r2 =>
        if seeB kElse r2 then andThen (blockF f (deep + 1) r2.tail) fun e r3 => okP (.cond (headAt ts) v t e) r3
        else okP (.cond (headAt ts) v t []) r2
    else if seeB kWhile ts then
      andThen (aloneF f 0 ts.tail) fun v r => andThen (blockF f (deep + 1) r) fun t r2 => okP (.loop (headAt ts) v t) r2
    else if seeB kVar ts then
      andThen (nameP ts.tail) fun n r => andThen (must [61] r) fun _ r2 => andThen (exprF f 0 0 r2) fun v r3 => andThen (must [59] r3) fun _ r4 => okP (.var (headAt ts) n v) r4
    else if seeB kReturn ts then
      andThen (exprF f 0 0 ts.tail) fun v r => andThen (must [59] r) fun _ r2 => okP (.ret (headAt ts) v) r2
    else if seeB kPrint ts then
      andThen (exprF f 0 0 ts.tail) fun v r => andThen (must [59] r) fun _ r2 => okP (.print (headAt ts) v) r2
    else andThen (namedF f ts) fun s r => andThen (must [59] r) fun _ r2 => okP s r2
def namedF : Nat → List Tok → PR St
  | 0, _ => none
  | f + 1, ts =>
    andThen (nameP ts) fun n r =>
      if seeB [40] r then andThen (argsF f 0 r) fun l r2 => okP (.call (headAt ts) (.call (headAt ts) n l)) r2
      else if seeB [91] r then
        andThen (exprF f 0 1 r.tail) fun i r2 => andThen (must [93] r2) fun _ r3 => andThen (must [61] r3) fun _ r4 => andThen (exprF f 0 0 r4) fun v r5 => okP (.put (headAt ts) n i v) r5
      else andThen (must [61] r) fun _ r2 => andThen (exprF f 0 0 r2) fun v r3 => okP (.set (headAt ts) n v) r3
end
def paramsF : Nat → Bool → List (List UInt8 × Int) → List Tok → PR (List (List UInt8 × Int))
  | 0, _, _, _ => none
  | f + 1, first, l, ts =>
    if seeB [41] ts then okP l ts.tail
    else andThen (if first then okP () ts else must [44] ts) fun _ r => andThen (nameP r) fun n r2 => andThen (must [58] r2) fun _ r3 =>
      if seeB kArr r3 then paramsF f false (l ++ [(n, 2)]) r3.tail
      else andThen (must kInt r3) fun _ r4 => paramsF f false (l ++ [(n, 1)]) r4
def functionF : Nat → List Tok → PR Fn
  | 0, _ => none
  | f + 1, ts =>
    andThen (must kFn ts) fun _ r => andThen (nameP r) fun n r2 => andThen (must [40] r2) fun _ r3 => andThen (paramsF f true [] r3) fun ps r4 => andThen (blockF f 0 r4) fun b r5 => okP ⟨n, headAt ts, ps, b⟩ r5
def programF : Nat → List Fn → List Tok → PR (List Fn)
  | 0, _, _ => none
  | f + 1, l, ts =>
    if headKind ts = 4 then okP l ts
    else if l.length = 12 then failP 4 ts
    else andThen (functionF f ts) fun x r => programF f (l ++ [x]) r
end Go.Proofs.YtinbahmpifokaaaDoor.TreeP

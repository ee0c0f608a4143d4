/- Programs as text, plainly: tokens, and which program they are. No program in sight. No conditions. What the plain reader leaves is no longer than what it was given. No program in sight. No conditions. What the plain reader of statements leaves is no longer than what it was given. No program in sight. No conditions. A number of digits, read by strconv.ParseInt. No program in sight. No conditions. Programs written as text, plainly. No program in sight. No conditions. -/
import Derived.WalkKit
import Derived.Lib.ParseIntBTie
import Derived.Lib.ItoaNum
import Derived.Lib.Join
namespace Go.Proofs.YtnicpmoanjddbaaGreatDoor.TreeP
open Go.RowKit
set_option linter.unusedVariables false
set_option linter.unusedSimpArgs false
/-- A token: its kind (1 a word, 2 a number, 3 a mark, 4 the end), its text, where it begins. -/
structure Tok where
  kind : Int
  text : List UInt8
  at_ : Int
  deriving DecidableEq
def letterB (c : UInt8) : Bool := (decide (97 ≤ c.toNat) && decide (c.toNat ≤ 122)) || c.toNat == 95
def digitB (c : UInt8) : Bool := decide (48 ≤ c.toNat) && decide (c.toNat ≤ 57)
/-- The marks, those of two letters ahead. -/
def markList : List (List UInt8) := [[38, 38], [124, 124], [61, 61], [33, 61], [60, 61], [62, 61], [60], [62], [61], [43], [45], [42], [47], [37], [33], [40], [41], [123], [125], [91], [93], [44], [59], [58]]
/-- What stands at a text's beginning: its kind, how long it is. -/
def nextP (l : List UInt8) : Int × Nat :=
  match l with
  | [] => (3, 0)
  | c :: _ =>
    if letterB c then (1, (l.takeWhile fun x => letterB x || digitB x).length)
    else if digitB c then (2, (l.takeWhile digitB).length)
    else match markList.find? (fun m => m.isPrefixOf l) with
      | some m => (3, m.length)
      | none => (3, 0)
def blankB (c : UInt8) : Bool := c.toNat == 32 || c.toNat == 9 || c.toNat == 10
/-- The tokens of a text that begins at a place, n of them ahead; or what is wrong, and where. -/
def lexF : Nat → List UInt8 → Nat → Nat → Option (Except (Int × Int) (List Tok))
  | 0, _, _, _ => none
  | f + 1, l, p, n =>
    match l with
    | [] => some (.ok [⟨4, [], p⟩])
    | c :: r =>
      if blankB c then lexF f r (p + 1) n
      else if c.toNat == 35 then
        lexF f (l.dropWhile fun x => x.toNat != 10) (p + (l.takeWhile fun x => x.toNat != 10).length) n
      else
        let k := nextP l
        if k.2 = 0 then some (.error (3, p))
        else if n = 1500 then some (.error (4, p))
        else match lexF f (l.drop k.2) (p + k.2) (n + 1) with
          | some (.ok t) => some (.ok (⟨k.1, l.take k.2, p⟩ :: t))
          | x => x
def lex (l : List UInt8) : Except (Int × Int) (List Tok) := (lexF (l.length + 1) l 0 0).getD (.error (0, 0))
/-- Expressions. -/
inductive Ex where
  | num (at_ n : Int)
  | var (at_ : Int) (s : List UInt8)
  | bin (at_ : Int) (op : List UInt8) (l r : Ex)
  | un (at_ : Int) (op : List UInt8) (x : Ex)
  | call (at_ : Int) (f : List UInt8) (args : List Ex)
  | new (at_ : Int) (x : Ex)
  | len (at_ : Int) (x : Ex)
  | item (at_ : Int) (x i : Ex)
  | input (at_ : Int)
/-- Statements. -/
inductive St where
  | var (at_ : Int) (s : List UInt8) (v : Ex)
  | set (at_ : Int) (s : List UInt8) (v : Ex)
  | put (at_ : Int) (s : List UInt8) (i v : Ex)
  | cond (at_ : Int) (v : Ex) (t e : List St)
  | loop (at_ : Int) (v : Ex) (t : List St)
  | ret (at_ : Int) (v : Ex)
  | print (at_ : Int) (v : Ex)
  | call (at_ : Int) (v : Ex)
/-- A function. -/
structure Fn where
  name : List UInt8
  at_ : Int
  params : List (List UInt8 × Int)
  body : List St
/-- What a part of the reader comes to: nothing (not enough rounds), an error and where, or what was read, and what is left. -/
abbrev PR (α : Type) := Option (Except (Int × Int) (α × List Tok))
def failP {α : Type} (e : Int) (ts : List Tok) : PR α := some (.error (e, (ts.head?.map (·.at_)).getD 0))
def okP {α : Type} (a : α) (ts : List Tok) : PR α := some (.ok (a, ts))
def andThen {α β : Type} (x : PR α) (f : α → List Tok → PR β) : PR β :=
  match x with
  | some (.ok (a, ts)) => f a ts
  | some (.error e) => some (.error e)
  | none => none
def headKind (ts : List Tok) : Int := (ts.head?.map (·.kind)).getD 4
def headText (ts : List Tok) : List UInt8 := (ts.head?.map (·.text)).getD []
def headAt (ts : List Tok) : Int := (ts.head?.map (·.at_)).getD 0
/-- The next token is this text. -/
def seeB (s : List UInt8) (ts : List Tok) : Bool := headText ts == s && headKind ts != 4
def must (s : List UInt8) (ts : List Tok) : PR Unit := if seeB s ts then okP () ts.tail else failP 3 ts
def kFn : List UInt8 := [102, 110]
def kVar : List UInt8 := [118, 97, 114]
def kIf : List UInt8 := [105, 102]
def kElse : List UInt8 := [101, 108, 115, 101]
def kWhile : List UInt8 := [119, 104, 105, 108, 101]
def kReturn : List UInt8 := [114, 101, 116, 117, 114, 110]
def kPrint : List UInt8 := [112, 114, 105, 110, 116]
def kNew : List UInt8 := [110, 101, 119]
def kLen : List UInt8 := [108, 101, 110]
def kInput : List UInt8 := [105, 110, 112, 117, 116]
def kInt : List UInt8 := [105, 110, 116]
def kArr : List UInt8 := [97, 114, 114]
def keptList : List (List UInt8) := [kFn, kVar, kIf, kElse, kWhile, kReturn, kPrint, kNew, kLen, kInput, kInt, kArr]
def keptB (s : List UInt8) : Bool := keptList.contains s
def nameP (ts : List Tok) : PR (List UInt8) :=
  if headKind ts != 1 || keptB (headText ts) then failP 3 ts
  else if 12 < (headText ts).length then failP 4 ts
  else okP (headText ts) ts.tail
/-- The marks of two, level by level. -/
def levelList : List (List (List UInt8)) := [[[124, 124]], [[38, 38]], [[61, 61], [33, 61]], [[60], [60, 61], [62], [62, 61]], [[43], [45]], [[42], [47], [37]]]
/-- The mark of a level that comes next (none: []). -/
def opP (level : Nat) (ts : List Tok) : List UInt8 := ((levelList.getD level []).find? (fun m => seeB m ts)).getD []
/-- A number of 63 bits. -/
def numP (l : List UInt8) : Nat := l.foldl (fun n c => n * 10 + (c.toNat - 48)) 0
mutual
def exprF : Nat → Nat → Nat → List Tok → PR Ex
  | 0, _, _, _ => none
  | f + 1, level, deep, ts =>
    if level = 6 then unaryF f deep ts
    else andThen (exprF f (level + 1) deep ts) fun x r => binF f level deep (headAt ts) x r
def binF : Nat → Nat → Nat → Int → Ex → List Tok → PR Ex
  | 0, _, _, _, _, _ => none
  | f + 1, level, deep, a, x, ts =>
    if opP level ts = [] then okP x ts
    else andThen (exprF f (level + 1) deep ts.tail) fun y r => binF f level deep a (.bin a (opP level ts) x y) r
def unaryF : Nat → Nat → List Tok → PR Ex
  | 0, _, _ => none
  | f + 1, deep, ts =>
    if 12 < deep then failP 4 ts
    else if seeB [45] ts then andThen (unaryF f (deep + 1) ts.tail) fun x r => okP (.un (headAt ts) [45] x) r
    else if seeB [33] ts then andThen (unaryF f (deep + 1) ts.tail) fun x r => okP (.un (headAt ts) [33] x) r
    else andThen (firstF f deep ts) fun x r => itemF f deep (headAt ts) x r
def itemF : Nat → Nat → Int → Ex → List Tok → PR Ex
  | 0, _, _, _, _ => none
  | f + 1, deep, a, x, ts =>
    if seeB [91] ts then andThen (exprF f 0 (deep + 1) ts.tail) fun i r => andThen (must [93] r) fun _ r2 => itemF f deep a (.item a x i) r2
    else okP x ts
def aloneF : Nat → Nat → List Tok → PR Ex
  | 0, _, _ => none
  | f + 1, deep, ts => andThen (must [40] ts) fun _ r => andThen (exprF f 0 (deep + 1) r) fun x r2 => andThen (must [41] r2) fun _ r3 => okP x r3
def firstF : Nat → Nat → List Tok → PR Ex
  | 0, _, _ => none
  | f + 1, deep, ts =>
    if headKind ts = 2 then
      (if numP (headText ts) < 9223372036854775808 then okP (.num (headAt ts) (numP (headText ts))) ts.tail else failP 4 ts)
    else if seeB [40] ts then aloneF f deep ts
    else if seeB kNew ts then andThen (aloneF f deep ts.tail) fun x r => okP (.new (headAt ts) x) r
    else if seeB kLen ts then andThen (aloneF f deep ts.tail) fun x r => okP (.len (headAt ts) x) r
    else if seeB kInput ts then andThen (must [40] ts.tail) fun _ r => andThen (must [41] r) fun _ r2 => okP (.input (headAt ts)) r2
    else andThen (nameP ts) fun n r =>
      if seeB [40] r then andThen (argsF f deep r) fun l r2 => okP (.call (headAt ts) n l) r2
      else okP (.var (headAt ts) n) r
def argsF : Nat → Nat → List Tok → PR (List Ex)
  | 0, _, _ => none
  | f + 1, deep, ts => andThen (must [40] ts) fun _ r => restF f deep true [] r
def restF : Nat → Nat → Bool → List Ex → List Tok → PR (List Ex)
  | 0, _, _, _, _ => none
  | f + 1, deep, first, l, ts =>
    if seeB [41] ts then okP l ts.tail
    else andThen (if first then okP () ts else must [44] ts) fun _ r => andThen (exprF f 0 (deep + 1) r) fun x r2 => restF f deep false (l ++ [x]) r2
end
mutual
def blockF : Nat → Nat → List Tok → PR (List St)
  | 0, _, _ => none
  | f + 1, deep, ts => if 12 < deep then failP 4 ts else andThen (must [123] ts) fun _ r => stmtsF f deep [] r
def stmtsF : Nat → Nat → List St → List Tok → PR (List St)
  | 0, _, _, _ => none
  | f + 1, deep, l, ts => if seeB [125] ts then okP l ts.tail else andThen (stmtF f deep ts) fun s r => stmtsF f deep (l ++ [s]) r
def stmtF : Nat → Nat → List Tok → PR St
  | 0, _, _ => none
  | f + 1, deep, ts =>
    if seeB kIf ts then
      andThen (aloneF f 0 ts.tail) fun v r => andThen (blockF f (deep + 1) r) fun t r2 =>
        if seeB kElse r2 then andThen (blockF f (deep + 1) r2.tail) fun e r3 => okP (.cond (headAt ts) v t e) r3
        else okP (.cond (headAt ts) v t []) r2
    else if seeB kWhile ts then
      andThen (aloneF f 0 ts.tail) fun v r => andThen (blockF f (deep + 1) r) fun t r2 => okP (.loop (headAt ts) v t) r2
    else if seeB kVar ts then
      andThen (nameP ts.tail) fun n r => andThen (must [61] r) fun _ r2 => andThen (exprF f 0 0 r2) fun v r3 => andThen (must [59] r3) fun _ r4 => okP (.var (headAt ts) n v) r4
    else if seeB kReturn ts then
      andThen (exprF f 0 0 ts.tail) fun v r => andThen (must [59] r) fun _ r2 => okP (.ret (headAt ts) v) r2
    else if seeB kPrint ts then
      andThen (exprF f 0 0 ts.tail) fun v r => andThen (must [59] r) fun _ r2 => okP (.print (headAt ts) v) r2
    else andThen (namedF f ts) fun s r => andThen (must [59] r) fun _ r2 => okP s r2
def namedF : Nat → List Tok → PR St
  | 0, _ => none
  | f + 1, ts =>
    andThen (nameP ts) fun n r =>
      if seeB [40] r then andThen (argsF f 0 r) fun l r2 => okP (.call (headAt ts) (.call (headAt ts) n l)) r2
      else if seeB [91] r then
        andThen (exprF f 0 1 r.tail) fun i r2 => andThen (must [93] r2) fun _ r3 => andThen (must [61] r3) fun _ r4 => andThen (exprF f 0 0 r4) fun v r5 => okP (.put (headAt ts) n i v) r5
      else andThen (must [61] r) fun _ r2 => andThen (exprF f 0 0 r2) fun v r3 => okP (.set (headAt ts) n v) r3
end
def paramsF : Nat → Bool → List (List UInt8 × Int) → List Tok → PR (List (List UInt8 × Int))
  | 0, _, _, _ => none
  | f + 1, first, l, ts =>
    if seeB [41] ts then okP l ts.tail
    else andThen (if first then okP () ts else must [44] ts) fun _ r => andThen (nameP r) fun n r2 => andThen (must [58] r2) fun _ r3 =>
      if seeB kArr r3 then paramsF f false (l ++ [(n, 2)]) r3.tail
      else andThen (must kInt r3) fun _ r4 => paramsF f false (l ++ [(n, 1)]) r4
def functionF : Nat → List Tok → PR Fn
  | 0, _ => none
  | f + 1, ts =>
    andThen (must kFn ts) fun _ r => andThen (nameP r) fun n r2 => andThen (must [40] r2) fun _ r3 => andThen (paramsF f true [] r3) fun ps r4 => andThen (blockF f 0 r4) fun b r5 => okP ⟨n, headAt ts, ps, b⟩ r5
def programF : Nat → List Fn → List Tok → PR (List Fn)
  | 0, _, _ => none
  | f + 1, l, ts =>
    if headKind ts = 4 then okP l ts
    else if l.length = 12 then failP 4 ts
    else andThen (functionF f ts) fun x r => programF f (l ++ [x]) r
end Go.Proofs.YtnicpmoanjddbaaGreatDoor.TreeP
namespace Go.Proofs.YtnicpmoanjddbaaGreatDoor.TreeP
set_option linter.unusedVariables false
set_option linter.unusedSimpArgs false
theorem andThen_ok {α β : Type} {x : PR α} {f : α → List Tok → PR β} {y : β × List Tok} (h : andThen x f = some (.ok y)) : ∃ a ts, x = some (.ok (a, ts)) ∧ f a ts = some (.ok y) := by
  unfold andThen at h
  split at h
  · exact ⟨_, _, rfl, h⟩
  · cases h
  · cases h
theorem okP_ok {α : Type} {a x : α} {ts r : List Tok} (h : okP a ts = some (.ok (x, r))) : x = a ∧ r = ts := by
  simp only [okP, Option.some.injEq, Except.ok.injEq, Prod.mk.injEq] at h
  exact ⟨h.1.symm, h.2.symm⟩
theorem failP_ok {α : Type} {e : Int} {x : α} {ts r : List Tok} (h : failP e ts = some (.ok (x, r))) : False := by
  simp [failP] at h
theorem must_ok {s : List UInt8} {ts r : List Tok} {u : Unit} (h : must s ts = some (.ok (u, r))) : r = ts.tail ∧ seeB s ts = true := by
  unfold must at h
  split at h
  · exact ⟨(okP_ok h).2, ‹_›⟩
  · exact (failP_ok h).elim
theorem nameP_ok {ts r : List Tok} {s : List UInt8} (h : nameP ts = some (.ok (s, r))) : r = ts.tail ∧ s = headText ts := by
  unfold nameP at h
  split at h
  · exact (failP_ok h).elim
  · split at h
    · exact (failP_ok h).elim
    · exact ⟨(okP_ok h).2, (okP_ok h).1⟩
theorem see_less {s : List UInt8} {ts : List Tok} (h : seeB s ts = true) : ts.tail.length < ts.length := by
  cases ts with
  | nil => simp [seeB, headKind] at h
  | cons t r => simp
theorem name_less {ts r : List Tok} {s : List UInt8} (h : nameP ts = some (.ok (s, r))) : r.length < ts.length := by
  have h1 := (nameP_ok h).1
  subst h1
  cases ts with
  | nil => simp [nameP, headKind, failP] at h
  | cons t r => simp
theorem must_less {s : List UInt8} {ts r : List Tok} {u : Unit} (h : must s ts = some (.ok (u, r))) : r.length < ts.length := by
  obtain ⟨rfl, h1⟩ := must_ok h
  exact see_less h1
theorem tail_le (ts : List Tok) : ts.tail.length ≤ ts.length := by simp
structure Lens (f : Nat) : Prop where
  expr : ∀ {level deep ts x r}, exprF f level deep ts = some (.ok (x, r)) → r.length < ts.length
  bin : ∀ {level deep a y ts x r}, binF f level deep a y ts = some (.ok (x, r)) → r.length ≤ ts.length
  unary : ∀ {deep ts x r}, unaryF f deep ts = some (.ok (x, r)) → r.length < ts.length
  item : ∀ {deep a y ts x r}, itemF f deep a y ts = some (.ok (x, r)) → r.length ≤ ts.length
  alone : ∀ {deep ts x r}, aloneF f deep ts = some (.ok (x, r)) → r.length < ts.length
  first : ∀ {deep ts x r}, firstF f deep ts = some (.ok (x, r)) → r.length < ts.length
  args : ∀ {deep ts x r}, argsF f deep ts = some (.ok (x, r)) → r.length < ts.length
  rest : ∀ {deep b l ts x r}, restF f deep b l ts = some (.ok (x, r)) → r.length ≤ ts.length
theorem lens : (f : Nat) → Lens f
  | 0 => ⟨fun h => by simp [exprF] at h, fun h => by simp [binF] at h, fun h => by simp [unaryF] at h, fun h => by simp [itemF] at h, fun h => by simp [aloneF] at h, fun h => by simp [firstF] at h, fun h => by simp [argsF] at h, fun h => by simp [restF] at h⟩
  | f + 1 => by
    have ih := lens f
    refine ⟨?_, ?_, ?_, ?_, ?_, ?_, ?_, ?_⟩
    · intro level deep ts x r h
      simp only [exprF] at h
      split at h
      · exact ih.unary h
      · obtain ⟨a, t, h1, h2⟩ := andThen_ok h
        exact Nat.lt_of_le_of_lt (ih.bin h2) (ih.expr h1)
    · intro level deep a y ts x r h
      simp only [binF] at h
      split at h
      · rw [(okP_ok h).2]; exact Nat.le_refl _
      · obtain ⟨a, t, h1, h2⟩ := andThen_ok h
        exact Nat.le_trans (ih.bin h2) (Nat.le_of_lt (Nat.lt_of_lt_of_le (ih.expr h1) (tail_le _)))
    · intro deep ts x r h
      simp only [unaryF] at h
      split at h
      · exact (failP_ok h).elim
      · split at h
        · obtain ⟨a, t, h1, h2⟩ := andThen_ok h
          rw [(okP_ok h2).2]; exact Nat.lt_of_lt_of_le (ih.unary h1) (tail_le _)
        · split at h
          · obtain ⟨a, t, h1, h2⟩ := andThen_ok h
            rw [(okP_ok h2).2]; exact Nat.lt_of_lt_of_le (ih.unary h1) (tail_le _)
          · obtain ⟨a, t, h1, h2⟩ := andThen_ok h
            exact Nat.lt_of_le_of_lt (ih.item h2) (ih.first h1)
    · intro deep a y ts x r h
      simp only [itemF] at h
      split at h
      · obtain ⟨i, t, h1, h2⟩ := andThen_ok h
        obtain ⟨u, t2, h3, h4⟩ := andThen_ok h2
        have := ih.item h4
        have := must_less h3
        have := ih.expr h1
        have := tail_le ts
        omega
      · rw [(okP_ok h).2]; exact Nat.le_refl _
    · intro deep ts x r h
      simp only [aloneF] at h
      obtain ⟨u, t, h1, h2⟩ := andThen_ok h
      obtain ⟨y, t2, h3, h4⟩ := andThen_ok h2
      obtain ⟨u2, t3, h5, h6⟩ := andThen_ok h4
      have := must_less h1
      have := must_less h5
      have := ih.expr h3
      rw [(okP_ok h6).2]
      omega
    · intro deep ts x r h
      simp only [firstF] at h
      split at h
      · split at h
        · rw [(okP_ok h).2]
          cases ts with
          | nil => rename_i h1 _; simp [headKind] at h1
          | cons t r => simp
        · exact (failP_ok h).elim
      · split at h
        · exact ih.alone h
        · split at h
          · obtain ⟨a, t, h1, h2⟩ := andThen_ok h
            rw [(okP_ok h2).2]; exact Nat.lt_of_lt_of_le (ih.alone h1) (tail_le _)
          · split at h
            · obtain ⟨a, t, h1, h2⟩ := andThen_ok h
              rw [(okP_ok h2).2]; exact Nat.lt_of_lt_of_le (ih.alone h1) (tail_le _)
            · split at h
              · obtain ⟨u, t, h1, h2⟩ := andThen_ok h
                obtain ⟨u2, t2, h3, h4⟩ := andThen_ok h2
                have := must_less h1
                have := must_less h3
                have := tail_le ts
                rw [(okP_ok h4).2]
                omega
              · obtain ⟨n, t, h1, h2⟩ := andThen_ok h
                have h0 := name_less h1
                split at h2
                · obtain ⟨l, t2, h3, h4⟩ := andThen_ok h2
                  rw [(okP_ok h4).2]; exact Nat.lt_trans (ih.args h3) h0
                · rw [(okP_ok h2).2]; exact h0
    · intro deep ts x r h
      simp only [argsF] at h
      obtain ⟨u, t, h1, h2⟩ := andThen_ok h
      exact Nat.lt_of_le_of_lt (ih.rest h2) (must_less h1)
    · intro deep b l ts x r h
      simp only [restF] at h
      split at h
      · rw [(okP_ok h).2]; exact tail_le _
      · obtain ⟨u, t, h1, h2⟩ := andThen_ok h
        have ht : t.length ≤ ts.length := by
          split at h1
          · rw [(okP_ok h1).2]; exact Nat.le_refl _
          · exact Nat.le_of_lt (must_less h1)
        obtain ⟨y, t2, h3, h4⟩ := andThen_ok h2
        exact Nat.le_trans (ih.rest h4) (Nat.le_trans (Nat.le_of_lt (ih.expr h3)) ht)
end Go.Proofs.YtnicpmoanjddbaaGreatDoor.TreeP
namespace Go.Proofs.YtnicpmoanjddbaaGreatDoor.TreeP
set_option linter.unusedVariables false
set_option linter.unusedSimpArgs false
structure SLens (f : Nat) : Prop where
  block : ∀ {deep ts x r}, blockF f deep ts = some (.ok (x, r)) → r.length < ts.length
  stmts : ∀ {deep l ts x r}, stmtsF f deep l ts = some (.ok (x, r)) → r.length ≤ ts.length
  stmt : ∀ {deep ts x r}, stmtF f deep ts = some (.ok (x, r)) → r.length < ts.length
  named : ∀ {ts x r}, namedF f ts = some (.ok (x, r)) → r.length < ts.length
theorem slens : (f : Nat) → SLens f
  | 0 => ⟨fun h => by simp [blockF] at h, fun h => by simp [stmtsF] at h, fun h => by simp [stmtF] at h, fun h => by simp [namedF] at h⟩
  | f + 1 => by
    have ih := slens f
    have e := lens f
    refine ⟨?_, ?_, ?_, ?_⟩
    · intro deep ts x r h
      simp only [blockF] at h
      split at h
      · exact (failP_ok h).elim
      · obtain ⟨u, t, h1, h2⟩ := andThen_ok h
        exact Nat.lt_of_le_of_lt (ih.stmts h2) (must_less h1)
    · intro deep l ts x r h
      simp only [stmtsF] at h
      split at h
      · rw [(okP_ok h).2]; exact tail_le _
      · obtain ⟨s, t, h1, h2⟩ := andThen_ok h
        exact Nat.le_trans (ih.stmts h2) (Nat.le_of_lt (ih.stmt h1))
    · intro deep ts x r h
      have h0 := tail_le ts
      simp only [stmtF] at h
      split at h
      · obtain ⟨v, t, h1, h2⟩ := andThen_ok h
        obtain ⟨b, t2, h3, h4⟩ := andThen_ok h2
        have a1 := e.alone h1
        have a2 := ih.block h3
        split at h4
        · obtain ⟨b2, t3, h5, h6⟩ := andThen_ok h4
          have a3 := ih.block h5
          have := tail_le t2
          rw [(okP_ok h6).2]
          omega
        · rw [(okP_ok h4).2]
          omega
      · split at h
        · obtain ⟨v, t, h1, h2⟩ := andThen_ok h
          obtain ⟨b, t2, h3, h4⟩ := andThen_ok h2
          have a1 := e.alone h1
          have a2 := ih.block h3
          rw [(okP_ok h4).2]
          omega
        · split at h
          · obtain ⟨n, t, h1, h2⟩ := andThen_ok h
            obtain ⟨u, t2, h3, h4⟩ := andThen_ok h2
            obtain ⟨v, t3, h5, h6⟩ := andThen_ok h4
            obtain ⟨u2, t4, h7, h8⟩ := andThen_ok h6
            have a1 := name_less h1
            have a2 := must_less h3
            have a3 := e.expr h5
            have a4 := must_less h7
            rw [(okP_ok h8).2]
            omega
          · split at h
            · obtain ⟨v, t, h1, h2⟩ := andThen_ok h
              obtain ⟨u, t2, h3, h4⟩ := andThen_ok h2
              have a1 := e.expr h1
              have a2 := must_less h3
              rw [(okP_ok h4).2]
              omega
            · split at h
              · obtain ⟨v, t, h1, h2⟩ := andThen_ok h
                obtain ⟨u, t2, h3, h4⟩ := andThen_ok h2
                have a1 := e.expr h1
                have a2 := must_less h3
                rw [(okP_ok h4).2]
                omega
              · obtain ⟨v, t, h1, h2⟩ := andThen_ok h
                obtain ⟨u, t2, h3, h4⟩ := andThen_ok h2
                have a1 := ih.named h1
                have a2 := must_less h3
                rw [(okP_ok h4).2]
                omega
    · intro ts x r h
      simp only [namedF] at h
      obtain ⟨n, t, h1, h2⟩ := andThen_ok h
      have a1 := name_less h1
      split at h2
      · obtain ⟨l, t2, h3, h4⟩ := andThen_ok h2
        have a2 := e.args h3
        rw [(okP_ok h4).2]
        omega
      · split at h2
        · obtain ⟨i, t2, h3, h4⟩ := andThen_ok h2
          obtain ⟨u, t3, h5, h6⟩ := andThen_ok h4
          obtain ⟨u2, t4, h7, h8⟩ := andThen_ok h6
          obtain ⟨v, t5, h9, h10⟩ := andThen_ok h8
          have := tail_le t
          have a2 := e.expr h3
          have a3 := must_less h5
          have a4 := must_less h7
          have a5 := e.expr h9
          rw [(okP_ok h10).2]
          omega
        · obtain ⟨u, t2, h3, h4⟩ := andThen_ok h2
          obtain ⟨v, t3, h5, h6⟩ := andThen_ok h4
          have a2 := must_less h3
          have a3 := e.expr h5
          rw [(okP_ok h6).2]
          omega
end Go.Proofs.YtnicpmoanjddbaaGreatDoor.TreeP
namespace Go.Proofs.YtnicpmoanjddbaaGreatDoor.TreeP
set_option linter.unusedVariables false
set_option linter.unusedSimpArgs false
def foldN (acc : Nat) (l : List UInt8) : Nat := l.foldl (fun n c => n * 10 + (c.toNat - 48)) acc
theorem numP_eq (l : List UInt8) : numP l = foldN 0 l := rfl
theorem foldN_le : (l : List UInt8) → (acc : Nat) → acc ≤ foldN acc l
  | [], acc => Nat.le_refl _
  | c :: r, acc => Nat.le_trans (by omega) (foldN_le r (acc * 10 + (c.toNat - 48)))
theorem uint_digits : (l : List UInt8) → (acc : Nat) → l.all digitB = true → acc < 18446744073709551616 → Lib.parseUint10 acc l = if foldN acc l < 18446744073709551616 then .ok (foldN acc l) else .range
  | [], acc, _, ha => by
    have h : foldN acc [] = acc := rfl
    rw [h, if_pos ha]
    rfl
  | c :: r, acc, hd, ha => by
    simp only [List.all_cons, Bool.and_eq_true, digitB, decide_eq_true_eq] at hd
    simp only [Lib.parseUint10]
    have hf : foldN acc (c :: r) = foldN (acc * 10 + (c.toNat - 48)) r := rfl
    rw [if_pos ⟨hd.1.1, hd.1.2⟩, hf]
    have hle := foldN_le r (acc * 10 + (c.toNat - 48))
    by_cases h1 : 1844674407370955162 ≤ acc
    · rw [if_pos h1, if_neg (by omega)]
    · rw [if_neg h1]
      by_cases h2 : 18446744073709551616 ≤ acc * 10 + (c.toNat - 48)
      · rw [if_pos h2, if_neg (by omega)]
      · rw [if_neg h2]
        exact uint_digits r _ hd.2 (by omega)
theorem int_digits {l : List UInt8} (hne : l ≠ []) (hd : l.all digitB = true) : Lib.parseIntB 64 l = if numP l < 9223372036854775808 then .ok (numP l : Int) else .range := by
  rw [Lib.parseIntB_64, numP_eq]
  cases l with
  | nil => exact absurd rfl hne
  | cons c r =>
    have hc : 48 ≤ c.toNat ∧ c.toNat ≤ 57 := by
      simp only [List.all_cons, Bool.and_eq_true, digitB, decide_eq_true_eq] at hd
      exact hd.1
    have h43 : ¬ c.toNat = 43 := by omega
    have h45 : ¬ c.toNat = 45 := by omega
    simp only [Lib.atoiAll, h43, h45, or_self, if_false, Lib.parseMag, reduceCtorEq, not_false_eq_true, true_and, false_and]
    rw [uint_digits _ 0 hd (by omega)]
    by_cases h1 : foldN 0 (c :: r) < 18446744073709551616
    · rw [if_pos h1]
      simp only
      by_cases h2 : foldN 0 (c :: r) < 9223372036854775808
      · rw [if_pos h2, if_neg (by omega)]
      · rw [if_neg h2, if_pos (by omega)]
    · rw [if_neg h1, if_neg (by omega)]
end Go.Proofs.YtnicpmoanjddbaaGreatDoor.TreeP
namespace Go.Proofs.YtnicpmoanjddbaaGreatDoor.TreeP
set_option linter.unusedVariables false
set_option linter.unusedSimpArgs false
def lvlFrom : List (List (List UInt8)) → Nat → List UInt8 → Nat
  | [], _, _ => 0
  | l :: r, i, op => if l.contains op then i else lvlFrom r (i + 1) op
/-- How much an expression holds together. -/
def levelB : Ex → Nat
  | .bin _ op _ _ => lvlFrom levelList 0 op
  | _ => 6
def isUn : Ex → Bool
  | .un .. => true
  | _ => false
def paren (n least : Nat) (t : List UInt8) : List UInt8 := if least ≤ n then t else [40] ++ t ++ [41]
mutual
def textB : Ex → List UInt8
  | .num _ n => Lib.itoa n
  | .var _ s => s
  | .bin _ op l r => paren (levelB l) (lvlFrom levelList 0 op) (textB l) ++ [32] ++ op ++ [32] ++ paren (levelB r) (lvlFrom levelList 0 op + 1) (textB r)
  | .un _ op x => op ++ paren (levelB x) 6 (textB x)
  | .call _ f args => f ++ [40] ++ Lib.join (textsB args) [44, 32] ++ [41]
  | .new _ x => [110, 101, 119, 40] ++ textB x ++ [41]
  | .len _ x => [108, 101, 110, 40] ++ textB x ++ [41]
  | .item _ x i => (if isUn x then [40] ++ textB x ++ [41] else paren (levelB x) 6 (textB x)) ++ [91] ++ textB i ++ [93]
  | .input _ => [105, 110, 112, 117, 116, 40, 41]
def textsB : List Ex → List (List UInt8)
  | [] => []
  | e :: r => textB e :: textsB r
end
def sp : List UInt8 := [32, 32]
def isSp : List UInt8 := [32, 61, 32]
def semi : List UInt8 := [59, 10]
mutual
/-- A statement, so far from the left. -/
def stB (tab : List UInt8) : St → List UInt8
  | .var _ s v => tab ++ ([118, 97, 114, 32] ++ s ++ isSp ++ textB v ++ semi)
  | .set _ s v => tab ++ (s ++ isSp ++ textB v ++ semi)
  | .put _ s i v => tab ++ (s ++ [91] ++ textB i ++ [93, 32, 61, 32] ++ textB v ++ semi)
  | .cond _ v t e => tab ++ ([105, 102] ++ [32, 40] ++ textB v ++ [41, 32, 123, 10]) ++ stsB (tab ++ sp) t ++ (if e.isEmpty then [] else tab ++ [125, 32, 101, 108, 115, 101, 32, 123, 10] ++ stsB (tab ++ sp) e) ++ (tab ++ [125, 10])
  | .loop _ v t => tab ++ ([119, 104, 105, 108, 101] ++ [32, 40] ++ textB v ++ [41, 32, 123, 10]) ++ stsB (tab ++ sp) t ++ (tab ++ [125, 10])
  | .ret _ v => tab ++ ([114, 101, 116, 117, 114, 110, 32] ++ textB v ++ semi)
  | .print _ v => tab ++ ([112, 114, 105, 110, 116, 32] ++ textB v ++ semi)
  | .call _ v => tab ++ (textB v ++ semi)
def stsB (tab : List UInt8) : List St → List UInt8
  | [] => []
  | s :: r => stB tab s ++ stsB tab r
end
def tyB (t : Int) : List UInt8 := if t = 1 then [105, 110, 116] else if t = 2 then [97, 114, 114] else []
def paramB (p : List UInt8 × Int) : List UInt8 := p.1 ++ [58, 32] ++ tyB p.2
def fnB (x : Fn) : List UInt8 := ([102, 110, 32] ++ x.name ++ [40] ++ Lib.join (x.params.map paramB) [44, 32] ++ [41, 32, 123, 10]) ++ stsB sp x.body ++ [125, 10]
def printB (l : List Fn) : List UInt8 := (l.map fnB).flatten
mutual
/-- Its numbers are numbers that are written without a mark. -/
def NumE : Ex → Prop
  | .num _ n => 0 ≤ n ∧ n < 9223372036854775808
  | .var .. => True
  | .bin _ _ l r => NumE l ∧ NumE r
  | .un _ _ x => NumE x
  | .call _ _ args => NumsE args
  | .new _ x => NumE x
  | .len _ x => NumE x
  | .item _ x i => NumE x ∧ NumE i
  | .input _ => True
def NumsE : List Ex → Prop
  | [] => True
  | e :: r => NumE e ∧ NumsE r
end
mutual
def NumSt : St → Prop
  | .var _ _ v => NumE v
  | .set _ _ v => NumE v
  | .put _ _ i v => NumE i ∧ NumE v
  | .cond _ v t e => NumE v ∧ NumSts t ∧ NumSts e
  | .loop _ v t => NumE v ∧ NumSts t
  | .ret _ v => NumE v
  | .print _ v => NumE v
  | .call _ v => NumE v
def NumSts : List St → Prop
  | [] => True
  | s :: r => NumSt s ∧ NumSts r
end
theorem stsB_append (tab : List UInt8) : (l : List St) → (s : St) → stsB tab (l ++ [s]) = stsB tab l ++ stB tab s
  | [], s => by simp [stsB]
  | a :: r, s => by simp only [List.cons_append, stsB, stsB_append tab r s, List.append_assoc]
theorem NumSts.at_ : {l : List St} → NumSts l → (i : Nat) → (s : St) → l[i]? = some s → NumSt s
  | [], h, i, e, he => by simp at he
  | a :: r, h, i, e, he => by
    simp only [NumSts] at h
    cases i with
    | zero => simp only [List.getElem?_cons_zero, Option.some.injEq] at he; subst he; exact h.1
    | succ i => exact NumSts.at_ h.2 i e (by simpa using he)
theorem stB_le (tab : List UInt8) : (l : List St) → (i : Nat) → (s : St) → l[i]? = some s → (stB tab s).length ≤ (stsB tab l).length
  | [], i, s, h => by simp at h
  | a :: r, i, s, h => by
    simp only [stsB, List.length_append]
    cases i with
    | zero => simp only [List.getElem?_cons_zero, Option.some.injEq] at h; subst h; omega
    | succ i => have := stB_le tab r i s (by simpa using h); omega
theorem take_le (tab : List UInt8) : (l : List St) → (i : Nat) → (stsB tab (l.take i)).length ≤ (stsB tab l).length
  | [], i => by simp
  | a :: r, 0 => by simp [stsB]
  | a :: r, i + 1 => by
    simp only [List.take_succ_cons, stsB, List.length_append]
    have := take_le tab r i
    omega
end Go.Proofs.YtnicpmoanjddbaaGreatDoor.TreeP

/- Programs written as text, plainly. No program in sight. No conditions. -/
import Derived.Test.YtinbahmpifokaaaDoorTreePlain
import Derived.Lib.ItoaNum
import Derived.Lib.Join
namespace Go.Proofs.YtinbahmpifokaaaDoor.TreeP
set_option linter.unusedVariables false
set_option linter.unusedSimpArgs false
def lvlFrom : List (List (List UInt8)) → Nat → List UInt8 → Nat
  | [], _, _ => 0
  | l :: r, i, op => if l.contains op then i else lvlFrom r (i + 1) op
/-- How much an expression holds together. -/
def levelB : Ex → Nat
  | .bin _ op _ _ => lvlFrom levelList 0 op
  | _ => 6
def isUn : Ex → Bool
  | .un .. => true
  | _ => false
def paren (n least : Nat) (t : List UInt8) : List UInt8 := if least ≤ n then t else [40] ++ t ++ [41]
mutual
def textB : Ex → List UInt8
  | .num _ n => Lib.itoa n
  | .var _ s => s
  | .bin _ op l r => paren (levelB l) (lvlFrom levelList 0 op) (textB l) ++ [32] ++ op ++ [32] ++ paren (levelB r) (lvlFrom levelList 0 op + 1) (textB r)
  | .un _ op x => op ++ paren (levelB x) 6 (textB x)
  | .call _ f args => f ++ [40] ++ Lib.join (textsB args) [44, 32] ++ [41]
  | .new _ x => [110, 101, 119, 40] ++ textB x ++ [41]
  | .len _ x => [108, 101, 110, 40] ++ textB x ++ [41]
  | .item _ x i => (if isUn x then [40] ++ textB x ++ [41] else paren (levelB x) 6 (textB x)) ++ [91] ++ textB i ++ [93]
  | .input _ => [105, 110, 112, 117, 116, 40, 41]
def textsB : List Ex → List (List UInt8)
  | [] => []
  | e :: r => textB e :: textsB r
end
def sp : List UInt8 := [32, 32]
def isSp : List UInt8 := [32, 61, 32]
def semi : List UInt8 := [59, 10]
mutual
/-- A statement, so far from the left. -/
def stB (tab : List UInt8) : St → List UInt8
  | .var _ s v => tab ++ ([118, 97, 114, 32] ++ s ++ isSp ++ textB v ++ semi)
  | .set _ s v => tab ++ (s ++ isSp ++ textB v ++ semi)
  | .put _ s i v => tab ++ (s ++ [91] ++ textB i ++ [93, 32, 61, 32] ++ textB v ++ semi)
  | .cond _ v t e => tab ++ ([105, 102] ++ [32, 40] ++ textB v ++ [41, 32, 123, 10]) ++ stsB (tab ++ sp) t ++ (if e.isEmpty then [] else tab ++ [125, 32, 101, 108, 115, 101, 32, 123, 10] ++ stsB (tab ++ sp) e) ++ (tab ++ [125, 10])
  | .loop _ v t => tab ++ ([119, 104, 105, 108, 101] ++ [32, 40] ++ textB v ++ [41, 32, 123, 10]) ++ stsB (tab ++ sp) t ++ (tab ++ [125, 10])
  | .ret _ v => tab ++ ([114, 101, 116, 117, 114, 110, 32] ++ textB v ++ semi)
  | .print _ v => tab ++ ([112, 114, 105, 110, 116, 32] ++ textB v ++ semi)
  | .call _ v => tab ++ (textB v ++ semi)
def stsB (tab : List UInt8) : List St → List UInt8
  | [] => []
  | s :: r => stB tab s ++ stsB tab r
end
def tyB (t : Int) : List UInt8 := if t = 1 then [105, 110, 116] else if t = 2 then [97, 114, 114] else []
def paramB (p : List UInt8 × Int) : List UInt8 := p.1 ++ [58, 32] ++ tyB p.2
def fnB (x : Fn) : List UInt8 := ([102, 110, 32] ++ x.name ++ [40] ++ Lib.join (x.params.map paramB) [44, 32] ++ [41, 32, 123, 10]) ++ stsB sp x.body ++ [125, 10]
def printB (l : List Fn) : List UInt8 := (l.map fnB).flatten
mutual
/-- Its numbers are numbers that are written without a mark. -/
def NumE : Ex → Prop
  | .num _ n => 0 ≤ n ∧ n < 9223372036854775808
  | .var .. => True
  | .bin _ _ l r => NumE l ∧ NumE r
  | .un _ _ x => NumE x
  | .call _ _ args => NumsE args
  | .new _ x => NumE x
  | .len _ x => NumE x
  | .item _ x i => NumE x ∧ NumE i
  | .input _ => True
def NumsE : List Ex → Prop
  | [] => True
  | e :: r => NumE e ∧ NumsE r
end
mutual
def NumSt : St → Prop
  | .var _ _ v => NumE v
  | .set _ _ v => NumE v
  | .put _ _ i v => NumE i ∧ NumE v
  | .cond _ v t e => NumE v ∧ NumSts t ∧ NumSts e
  | .loop _ v t => NumE v ∧ NumSts t
  | .ret _ v => NumE v
  | .print _ v => NumE v
  | .call _ v => NumE v
def NumSts : List St → Prop
  | [] => True
  | s :: r => NumSt s ∧ NumSts r
end
theorem stsB_append (tab : List UInt8) : (l : List St) → (s : St) → stsB tab (l ++ [s]) = stsB tab l ++ stB tab s
  | [], s => by simp [stsB]
  | a :: r, s => by simp only [List.cons_append, stsB, stsB_append tab r s, List.append_assoc]
theorem NumSts.at_ : {l : List St} → NumSts l → (i : Nat) → (s : St) → l[i]? = some s → NumSt s
  | [], h, i, e, he => by simp at he
  | a :: r, h, i, e, he => by
    simp only [NumSts] at h
    cases i with
    | zero => simp only [List.getElem?_cons_zero, Option.some.injEq] at he; subst he; exact h.1
    | succ i => exact NumSts.at_ h.2 i e (by simpa using he)
theorem stB_le (tab : List UInt8) : (l : List St) → (i : Nat) → (s : St) → l[i]? = some s → (stB tab s).length ≤ (stsB tab l).length
  | [], i, s, h => by simp at h
  | a :: r, i, s, h => by
    simp only [stsB, List.length_append]
    cases i with
    | zero => simp only [List.getElem?_cons_zero, Option.some.injEq] at h; subst h; omega
    | succ i => have := stB_le tab r i s (by simpa using h); omega
theorem take_le (tab : List UInt8) : (l : List St) → (i : Nat) → (stsB tab (l.take i)).length ≤ (stsB tab l).length
  | [], i => by simp
  | a :: r, 0 => by simp [stsB]
  | a :: r, i + 1 => by
    simp only [List.take_succ_cons, stsB, List.length_append]
    have := take_le tab r i
    omega
end Go.Proofs.YtinbahmpifokaaaDoor.TreeP

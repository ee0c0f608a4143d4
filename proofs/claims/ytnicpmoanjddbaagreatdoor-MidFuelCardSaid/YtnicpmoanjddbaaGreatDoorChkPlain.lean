/- What is found of a program, plainly. No program in sight. No conditions. -/
import Derived.Test.YtnicpmoanjddbaaGreatDoorTreeP
namespace Go.Proofs.YtnicpmoanjddbaaGreatDoor.TreeP
set_option linter.unusedVariables false
set_option linter.unusedSimpArgs false
/-- Names that stand for something, in order. -/
abbrev Nm := List (List UInt8 × Int)
def findN (N : Nm) (s : List UInt8) : Int := match N.find? (fun p => p.1 == s) with
  | some p => p.2
  | none => 0
def atE : Ex → Int
  | .num a _ => a
  | .var a _ => a
  | .bin a _ _ _ => a
  | .un a _ _ => a
  | .call a _ _ => a
  | .new a _ => a
  | .len a _ => a
  | .item a _ _ => a
  | .input a => a
abbrev CK (α : Type) := Except (Int × Int) α
def bindK {α β : Type} (x : CK α) (f : α → CK β) : CK β := match x with
  | .ok a => f a
  | .error e => .error e
/-- It must be of this type. -/
def wantT (e : Ex) (k t : Int) : CK Unit := if t = k then .ok () else .error (1, atE e)
def addN (N : Nm) (m : Nat) (p : List UInt8 × Int) (a : Int) : CK (Nm × Nat) := if findN N p.1 ≠ 0 then .error (9, a) else if m = 12 then .error (12, a) else .ok (N ++ [p], m + 1)
def fnOf (L : List Fn) (s : List UInt8) : Option Fn := L.find? (fun f => f.name == s)
mutual
/-- Of which type an expression is. -/
def exprK (L : List Fn) (N : Nm) : Ex → CK Int
  | .num _ _ => .ok 1
  | .var a s => if findN N s = 0 then .error (7, a) else .ok (findN N s)
  | .bin _ _ l r => bindK (exprK L N l) fun t => bindK (wantT l 1 t) fun _ => bindK (exprK L N r) fun u => bindK (wantT r 1 u) fun _ => .ok 1
  | .un _ _ x => bindK (exprK L N x) fun t => bindK (wantT x 1 t) fun _ => .ok 1
  | .call a f args => match fnOf L f with
    | none => .error (7, a)
    | some g => if args.length = g.params.length then bindK (argsK L N args (g.params.map (·.2))) fun _ => .ok 1 else .error (2, a)
  | .new _ x => bindK (exprK L N x) fun t => bindK (wantT x 1 t) fun _ => .ok 2
  | .len _ x => bindK (exprK L N x) fun t => bindK (wantT x 2 t) fun _ => .ok 1
  | .item _ x i => bindK (exprK L N x) fun t => bindK (wantT x 2 t) fun _ => bindK (exprK L N i) fun u => bindK (wantT i 1 u) fun _ => .ok 1
  | .input _ => .ok 1
def argsK (L : List Fn) (N : Nm) : List Ex → List Int → CK Unit
  | e :: r, k :: ks => bindK (exprK L N e) fun t => bindK (wantT e k t) fun _ => argsK L N r ks
  | _, _ => .ok ()
end
def wantK (L : List Fn) (N : Nm) (e : Ex) (k : Int) : CK Unit := bindK (exprK L N e) (wantT e k)
mutual
def stmtK (L : List Fn) (N : Nm) (m : Nat) : St → CK (Nm × Nat)
  | .var a s v => bindK (exprK L N v) fun t => addN N m (s, t) a
  | .set a s v => if findN N s = 0 then .error (7, a) else bindK (wantK L N v (findN N s)) fun _ => .ok (N, m)
  | .put a s i v => if findN N s = 0 then .error (7, a) else if findN N s ≠ 2 then .error (1, a) else bindK (wantK L N i 1) fun _ => bindK (wantK L N v 1) fun _ => .ok (N, m)
  | .cond _ v t e => bindK (wantK L N v 1) fun _ => bindK (stmtsK L N m t) fun x => bindK (stmtsK L N x.2 e) fun y => .ok (N, y.2)
  | .loop _ v t => bindK (wantK L N v 1) fun _ => bindK (stmtsK L N m t) fun x => .ok (N, x.2)
  | .ret _ v => bindK (wantK L N v 1) fun _ => .ok (N, m)
  | .print _ v => bindK (wantK L N v 1) fun _ => .ok (N, m)
  | .call _ v => bindK (wantK L N v 1) fun _ => .ok (N, m)
def stmtsK (L : List Fn) (N : Nm) (m : Nat) : List St → CK (Nm × Nat)
  | [] => .ok (N, m)
  | s :: r => bindK (stmtK L N m s) fun x => stmtsK L x.1 x.2 r
end
def paramsK (N : Nm) (m : Nat) (a : Int) : List (List UInt8 × Int) → CK (Nm × Nat)
  | [] => .ok (N, m)
  | p :: r => bindK (addN N m p a) fun x => paramsK x.1 x.2 a r
def fnK (L : List Fn) (f : Fn) : CK Unit := bindK (paramsK [] 0 f.at_ f.params) fun x => bindK (stmtsK L x.1 x.2 f.body) fun _ => .ok ()
def fnsK (L : List Fn) : List Fn → CK Unit
  | [] => .ok ()
  | f :: r => bindK (fnK L f) fun _ => fnsK L r
/-- No function is called as one ahead of it. -/
def twiceK : List Fn → List Fn → CK Unit
  | _, [] => .ok ()
  | ahead, f :: r => if ahead.any (fun g => g.name == f.name) then .error (9, f.at_) else twiceK (ahead ++ [f]) r
def mainB (f : Fn) : Bool := f.name == [109, 97, 105, 110] && f.params.length == 0
/-- What is found (a place of -1: none is told). -/
def checkK (L : List Fn) : CK Unit := bindK (twiceK [] L) fun _ => bindK (fnsK L L) fun _ => if L.any mainB then .ok () else .error (8, -1)
end Go.Proofs.YtnicpmoanjddbaaGreatDoor.TreeP

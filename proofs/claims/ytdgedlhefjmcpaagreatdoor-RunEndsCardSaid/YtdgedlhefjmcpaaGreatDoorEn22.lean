/- The checker's look at any expression. Conditions: its functions, names, and the expression lie. The checker's look at statements. Conditions: its functions, names, and the statements lie. The checker's look at a new name. Conditions: its functions, names, and the statement lie. The checker's look at any statements. Conditions: its functions, names, and the statements lie. Whether there is a function of a name, and main. Conditions: the functions lie. Check: what is found of a program. Conditions: the functions lie. -/
import Derived.Test.YtdgedlhefjmcpaaGreatDoorEn18
import Derived.Defers
import Derived.Recover
namespace Go.Proofs.YtdgedlhefjmcpaaGreatDoor.TreeP
open Go.RowKit Go.Proofs.YtdgedlhefjmcpaaGreatDoor.Wo
set_option linter.unusedVariables false
set_option linter.unusedSimpArgs false
def blockK (L:List Fn) (N:Nm) (m:Nat) (l:List St):CK (Nm×Nat):=bindK (stmtsK L N m l) fun x=>.ok (N,x.2)
theorem bindK_ok {α β:Type} {x:CK α} {f:α→CK β} {y:β} (h:bindK x f=.ok y):∃ a,x=.ok a∧f a=.ok y:=by
 cases x with
 | error e=>cases h
 | ok a=>exact ⟨a,rfl,h⟩
theorem StAt.len7 {W:World} {S:Nat→Prop} {s:St} {cs:List Value} (h:StAt W S s cs):cs.length=7:=by
 obtain ⟨_,_,_,_,_,_,_,_,_,_,_,rfl⟩:=h.shape
 rfl
theorem StsAt.get {W:World} {S:Nat→Prop}:{l:List St}→{vs:List Value}→StsAt W S l vs→(i:Nat)→(s:St)→l[i]?=some s→∃ cs,StAt W S s cs∧∀ j,j<7→vs[i*7+j]?=cs[j]?
 | [],vs,h,i,s,hs=>by simp at hs
 | a::r,vs,h,i,s,hs=>by
  simp only [StsAt] at h
  obtain ⟨cs,r2,rfl,h1,h2⟩:=h
  have h7:=h1.len7
  cases i with
  | zero =>
   simp only [List.getElem?_cons_zero,Option.some.injEq] at hs
   subst hs
   refine ⟨cs,h1,fun j hj=>?_⟩
   rw [List.getElem?_append_left (by omega)]
   congr 1
   omega
  | succ i =>
   obtain ⟨ds,h3,h4⟩:=StsAt.get h2 i s (by simpa using hs)
   refine ⟨ds,h3,fun j hj=>?_⟩
   rw [List.getElem?_append_right (by omega),h7,← h4 j hj]
   congr 1
   omega
theorem row_nil (W:World) (S:Nat→Prop) (e:TypeId) (k:Nat):RowAt W S e k nilS 0 []:=⟨World.ownsRow_nil _ _ _ _,fun _ h=>nomatch h⟩
def restK (L:List Fn) (N:Nm) (m:Nat) (v:Ex) (t e:List St):CK (Nm×Nat):=bindK (wantK L N v 1) fun _=>bindK (blockK L N m t) fun x=>blockK L x.1 x.2 e
theorem FnAt.len4 {W:World} {S:Nat→Prop} {x:Fn} {cs:List Value} (h:FnAt W S x cs):cs.length=4:=by
 obtain ⟨p,q,vq,rfl,_⟩:=h
 rfl
theorem FnsAt.get {W:World} {S:Nat→Prop}:{l:List Fn}→{vs:List Value}→FnsAt W S l vs→(i:Nat)→(x:Fn)→l[i]?=some x→∃ cs,FnAt W S x cs∧∀ j,j<4→vs[i*4+j]?=cs[j]?
 | [],vs,h,i,x,hx=>by simp at hx
 | a::l,vs,h,i,x,hx=>by
  obtain ⟨cs,r,rfl,h1,h2⟩:=h
  have h4:=h1.len4
  cases i with
  | zero =>
   simp only [List.getElem?_cons_zero,Option.some.injEq] at hx
   subst hx
   refine ⟨cs,h1,fun j hj=>?_⟩
   rw [List.getElem?_append_left (by omega)]
   congr 1
   omega
  | succ i =>
   obtain ⟨ds,h3,h5⟩:=FnsAt.get h2 i x (by simpa using hx)
   refine ⟨ds,h3,fun j hj=>?_⟩
   rw [List.getElem?_append_right (by omega),h4,← h5 j hj]
   congr 1
   omega
theorem fs_of_row {W:World} {S:Nat→Prop} {B:Nat} {v:Value} {l:List Fn} {vs:List Value} (h:W.ownsRow B 33 4 v l.length vs) (hf:FnsAt W S l vs) (hS:∀ k,v.ownBlock=some k→¬ S k):FsAt W S v l:=by
 rcases h.2 with ⟨rfl,h0⟩|⟨g,cap,cur,rfl,_,hg,h3,h4,_⟩
 ·have hl:l=[]:=List.eq_nil_of_length_eq_zero h0
  subst hl
  exact ⟨none,0,0,rfl,rfl,Nat.le_refl _,by decide,fun _=>rfl,fun i p hp=>by simp at hp⟩
 ·have hc:=h.cells (g:=g) rfl
  refine ⟨some ⟨g,0,none⟩,l.length,cap,rfl,rfl,h3,h4,(fun h=>by cases h),fun i x hx=>?_⟩
  obtain ⟨cs,h5,h6⟩:=hf.get i x hx
  obtain ⟨p,q,vq,rfl,h7,h8,h9⟩:=h5
  have e0:=hc _ _ (h6 0 (by omega))
  have e1:=hc _ _ (h6 1 (by omega))
  have e2:=hc _ _ (h6 2 (by omega))
  have e3:=hc _ _ (h6 3 (by omega))
  refine ⟨g,0,p,q,vq,rfl,hS g rfl,?_,?_,?_,?_,h7,h8,h9⟩
  ·simpa [Addr.add_lit] using e0
  ·simpa [Addr.add_lit] using e1
  ·simpa [Addr.add_lit] using e2
  ·simpa [Addr.add_lit] using e3
def Checked (W:World):CK Bool→Ending→World→Prop
 | .error (n,a)=>fun e w=>∃ g,e=.returned (.iface 136 (.pointer (some ⟨g,0,none⟩)))∧Blk w g [.int .i64 n,.int .i64 a] 137∧Mods None W w
 | .ok true=>fun e w=>e=.returned .nilIface∧Mods None W w
 | .ok false=>fun e w=>e=.returned (.iface 38 (.int .i64 8))∧Mods None W w
def checkR (L:List Fn):CK Bool:=bindK (twiceK [] L) fun _=>bindK (fnsK L L) fun _=>.ok (L.any mainB)
theorem twiceK_step {L:List Fn} {i:Nat} {x:Fn} (hx:L[i]?=some x):twiceK (L.take i) (L.drop i)=if (L.take i).any (fun g=>g.name==x.name) then .error (9,x.at_) else twiceK (L.take (i+1)) (L.drop (i+1)):=by
 have hi:i<L.length:=(List.getElem?_eq_some_iff.1 hx).1
 have he:L[i]=x:=(List.getElem?_eq_some_iff.1 hx).2
 rw [List.drop_eq_getElem_cons hi,he]
 simp only [twiceK]
 rw [List.take_add_one,hx]
 rfl
theorem fnsK_step (M:List Fn) {L:List Fn} {i:Nat} {x:Fn} (hx:L[i]?=some x):fnsK M (L.drop i)=bindK (fnK M x) fun _=>fnsK M (L.drop (i+1)):=by
 have hi:i<L.length:=(List.getElem?_eq_some_iff.1 hx).1
 have he:L[i]=x:=(List.getElem?_eq_some_iff.1 hx).2
 rw [List.drop_eq_getElem_cons hi,he]
 simp only [fnsK]
theorem paramsK_step (N:Nm) (m:Nat) (a:Int) {P:List (List UInt8×Int)} {i:Nat} {x:List UInt8×Int} (hx:P[i]?=some x):paramsK N m a (P.drop i)=bindK (addN N m x a) fun y=>paramsK y.1 y.2 a (P.drop (i+1)):=by
 have hi:i<P.length:=(List.getElem?_eq_some_iff.1 hx).1
 have he:P[i]=x:=(List.getElem?_eq_some_iff.1 hx).2
 rw [List.drop_eq_getElem_cons hi,he]
 simp only [paramsK]
theorem fnK_block (L:List Fn) (f:Fn):fnK L f=bindK (paramsK [] 0 f.at_ f.params) fun x=>bindK (blockK L x.1 x.2 f.body) fun _=>.ok ():=by
 unfold fnK blockK
 simp only [bindK_assoc]
 rfl
end Go.Proofs.YtdgedlhefjmcpaaGreatDoor.TreeP

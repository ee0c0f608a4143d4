/- Worlds: only some blocks, and new ones, have turned. No program in sight. No conditions. Slices of numbers as arguments: opened to lists. No conditions. Programs as text, plainly: tokens, and which program they are. No program in sight. No conditions. What the plain reader leaves is no longer than what it was given. No program in sight. No conditions. What the plain reader of statements leaves is no longer than what it was given. No program in sight. No conditions. A number of digits, read by strconv.ParseInt. No program in sight. No conditions. Programs written as text, plainly. No program in sight. No conditions. -/
import Derived.Below
import Derived.Deep.Draws
import Derived.ChangeSame
import Derived.Carry
import Derived.Lib.Hide
import Derived.Test.YtnicpmoanjddbaaGreatDoorRows
import Derived.ProofKit
import Derived.WideShapes
import Derived.OpenShut
import Derived.ChangeSlices
import Derived.WideKeyArgs
import Derived.WalkKit
import Derived.Lib.ParseIntBTie
import Derived.Lib.ItoaNum
import Derived.Lib.Join
namespace Go.Proofs.YtnicpmoanjddbaaGreatDoor.Wo
open Go.RowKit Go.WideShapes Go.ChangeShapes
set_option linter.unusedVariables false
set_option linter.unusedSimpArgs false
theorem hiD {p:Prop} (h:p):Hid p:=h
structure Mods (S:Nat→Prop) (w w':World):Prop where
 os:w'.os=w.os
 output:w'.output=w.output
 size:w.heap.size≤w'.heap.size
 block:∀ k,k<w.heap.size→¬ S k→w'.heap[k]?=w.heap[k]?
theorem Mods.refl (S:Nat→Prop) (w:World):Mods S w w:=⟨rfl,rfl,Nat.le_refl _,fun _ _ _=>rfl⟩
theorem Mods.trans {S:Nat→Prop} {a b c:World} (h:Mods S a b) (k:Mods S b c):Mods S a c :=
 ⟨k.os.trans h.os,k.output.trans h.output,Nat.le_trans h.size k.size,fun i hi hn=>(k.block i (Nat.lt_of_lt_of_le hi h.size) hn).trans (h.block i hi hn)⟩
theorem Mods.trans' {S T:Nat→Prop} {a b c:World} (h:Mods S a b) (k:Mods T b c) (hT:∀ i,T i→i<a.heap.size→S i):Mods S a c :=
 ⟨k.os.trans h.os,k.output.trans h.output,Nat.le_trans h.size k.size,fun i hi hn=>(k.block i (Nat.lt_of_lt_of_le hi h.size) (fun t=>hn (hT i t hi))).trans (h.block i hi hn)⟩
theorem Mods.mono {S T:Nat→Prop} {a b:World} (h:Mods S a b) (hT:∀ i,i<a.heap.size→S i→T i):Mods T a b :=
 ⟨h.os,h.output,h.size,fun i hi hn=>h.block i hi (fun s=>hn (hT i hi s))⟩
theorem Mods.alloc {S:Nat→Prop} {a w:World} (h:Mods S a w) (o:Obj):Mods S a (w.alloc o) :=
 ⟨h.os,h.output,Nat.le_trans h.size (by simp),fun i hi hn=>(Below.heap_alloc w o i (Nat.lt_of_lt_of_le hi h.size)).trans (h.block i hi hn)⟩
theorem Mods.setCell {S:Nat→Prop} {a w:World} (h:Mods S a w) {p:Addr} (hp:p.block<a.heap.size→S p.block) (u:Value):Mods S a (w.setCell p u) :=
 ⟨h.os,h.output,by simpa [World.setCell] using h.size,fun i hi hn=>(Below.heap_setCell w p u i (by rintro rfl;exact hn (hp hi))).trans (h.block i hi hn)⟩
theorem Mods.drew {S:Nat→Prop} {a w:World} (h:Mods S a w):Mods S a w.drew:=⟨h.os,h.output,h.size,h.block⟩
theorem Mods.drewN {S:Nat→Prop} {a w:World} (h:Mods S a w) (n:Nat):Mods S a (w.drewN n):=⟨h.os,h.output,h.size,h.block⟩
theorem Mods.of_below {S:Nat→Prop} {a w:World} (h:Below a.heap.size a w):Mods S a w:=⟨h.os,h.output,h.size,fun i hi _=>h.block i hi⟩
theorem Mods.of_grownBy {S:Nat→Prop} {a w:World} {row:Option Nat} (h:a.grownBy w row) (hr:∀ k,row=some k→k<a.heap.size→S k):Mods S a w :=
 ⟨h.os,h.output,h.size,fun i hi hn=>h.block i hi (fun e=>hn (hr i e.symm hi))⟩
theorem Mods.cell {S:Nat→Prop} {a w:World} (h:Mods S a w) {p:Addr} (hp:p.block<a.heap.size) (hn:¬ S p.block):w.cell? p=a.cell? p:=World.cell?_of_block (h.block p.block hp hn)
theorem Mods.frozen {S:Nat→Prop} {a w:World} (h:Mods S a w) {p:Addr} (hp:p.block<a.heap.size) (hn:¬ S p.block):w.frozen? p=a.frozen? p:=World.frozen?_of_block (h.block p.block hp hn)
theorem Mods.cellOf {S:Nat→Prop} {a w:World} (h:Mods S a w) {p:Addr} {v:Value} (hc:a.cell? p=some v) (hn:¬ S p.block):w.cell? p=some v :=
 (h.cell (World.block_lt_of_cell? a p hc) hn).trans hc
theorem lt_of_block {w:World} {k:Nat} {o:Obj} (h:w.heap[k]?=some o):k<w.heap.size:=by
 rcases Nat.lt_or_ge k w.heap.size with h1|h1
 · exact h1
 · rw [Array.getElem?_eq_none_iff.2 h1] at h;cases h
theorem Mods.blockOf {S:Nat→Prop} {a w:World} (h:Mods S a w) {k:Nat} {o:Obj} (hc:a.heap[k]?=some o) (hn:¬ S k):w.heap[k]?=some o :=
 (h.block k (lt_of_block hc) hn).trans hc
def Blk (W:World) (g:Nat) (cs:List Value) (t:TypeId):Prop:=W.heap[g]?=some (.cells cs.toArray t (0,0))
theorem Blk.cell {W:World} {g:Nat} {cs:List Value} {t:TypeId} (h:Blk W g cs t) {i:Nat} {v:Value} (hi:cs[i]?=some v):W.cell? ⟨g,i,none⟩=some v:=by
 unfold Blk at h;simp [World.cell?,h,hi]
theorem Blk.free {W:World} {g:Nat} {cs:List Value} {t:TypeId} (h:Blk W g cs t) (i:Nat):W.frozen? ⟨g,i,none⟩=false:=frozen_of_row W g i _ t h
theorem Blk.lt {W:World} {g:Nat} {cs:List Value} {t:TypeId} (h:Blk W g cs t):g<W.heap.size:=lt_of_block h
theorem Blk.set {W:World} {g:Nat} {cs:List Value} {t:TypeId} (h:Blk W g cs t) (i:Nat) (v:Value):Blk (W.setCell ⟨g,i,none⟩ v) g (cs.set i v) t:=by
 have:=heap_setCell_same W g i _ t v h
 unfold Blk;rw [this];simp
theorem Blk.other {W:World} {g:Nat} {cs:List Value} {t:TypeId} (h:Blk W g cs t) {a:Addr} (ha:g≠a.block) (v:Value):Blk (W.setCell a v) g cs t :=
 (heap_setCell_other W a g v ha).trans h
theorem Blk.alloc {W:World} {g:Nat} {cs:List Value} {t:TypeId} (h:Blk W g cs t) (o:Obj):Blk (W.alloc o) g cs t :=
 (Below.heap_alloc W o g h.lt).trans h
theorem Blk.new (W:World) (cs:Array Value) (t:TypeId):Blk (W.alloc (.cells cs t)) W.heap.size cs.toList t:=heap_alloc_new W _
theorem Blk.drew {W:World} {g:Nat} {cs:List Value} {t:TypeId} (h:Blk W g cs t):Blk W.drew g cs t:=h
theorem Blk.mods {S:Nat→Prop} {a w:World} (h:Mods S a w) {g:Nat} {cs:List Value} {t:TypeId} (hb:Blk a g cs t) (hn:¬ S g):Blk w g cs t:=h.blockOf hb hn
def None:Nat→Prop:=fun _=>False
theorem Mods.frame {W W':World} (h:Mods None W W') (may:MemPlace→Prop):W.keptBut W' may:=by
 refine ⟨h.os,h.output,fun i hi=>?_⟩
 rw [h.block i hi (fun f=>f)]
 split <;> simp_all
theorem Mods.same {W W':World} (h:Mods None W W') {p:MemPlace} (hp:p.block<W.heap.size):W.sameAt W' p:=by
 cases p with
 | cell b o=>exact World.cell?_of_block (w:=W) (h.block b hp (fun f=>f))
 | map b=>exact h.block b hp (fun f=>f)
theorem Mods.ownsRow {S:Nat→Prop} {a w:World} (h:Mods S a w) {base:Nat} {e:TypeId} {size:Nat} {v:Value} {n:Nat} {xs:List Value} (ho:a.ownsRow base e size v n xs) (hn:∀ k,v.ownBlock=some k→¬ S k):w.ownsRow base e size v n xs:=by
 obtain ⟨h1,h2⟩:=ho
 refine ⟨h1,?_⟩
 rcases h2 with h2|⟨g,cap,cur,hv,hg,hh,r⟩
 · exact .inl h2
 · exact .inr ⟨g,cap,cur,hv,hg,h.blockOf hh (hn g (by rw [hv];rfl)),r⟩
section
variable {H:Type} {enc:TypeId×Value→H} {P:Program}
theorem post_of_mods {f:Func} {s:ChangeSpec} {apart fresh handsOn again:Bool} {W W':World} {args:Array Value} {v:Value} {ds gs:List (DataW H)} {before pa pv:List MemPlace}
 (hW:DataW.Whole enc P f.params.toList s.vars apart W args.toList ds gs before)
 (hres:∀ (b:Nat) (sp:Nat→Bool) (hd:Bool),DataW.TrodAll enc P W' b sp hd f.resultTypes.toList (v.resultList f.resultTypes.size) (s.fn H (ds++gs)).results [])
 (hargs:∀ sp:Nat→Bool,(∀ p∈before,sp p.block=true)→DataW.TrodAll enc P W' 0 sp true f.params.toList args.toList (s.fn H (ds++gs)).args pa)
 (hvars:∀ sp:Nat→Bool,(∀ p∈before,sp p.block=true)→DataW.TrodVars enc P W' sp s.vars (s.fn H (ds++gs)).vars pv)
 (hps:before=pa++pv) (hb:Mods None W W')
 (hok:∀ (j:Nat) (t:TypeId) (r:Value),f.resultTypes[j]?=some t→(v.resultList f.resultTypes.size)[j]?=some r→Value.okWide P W' .any 0 t r) :
 s.post enc P f apart fresh handsOn again W args v W':=by
 have hlt:∀ p∈before,p.block<W.heap.size:=fun p hp=>hW.lt p hp
 have hold:∀ p∈before,(fun b=>decide (b<W.heap.size)) p.block=true:=fun p hp=>by simpa using hlt p hp
 refine ⟨ds,gs,before,[],pa,pv,hW,hres _ _ _,hargs _ hold,hvars _ hold,World.keptBut_mono (fun p hp=>⟨hp,?_⟩) (hb.frame (·∈before)),fun _=>?_⟩
 · rw [hps,List.mem_append] at hp
   exact Or.inr hp
 · obtain ⟨_,_,_,_,_,hz,hn⟩:=hW
   refine ⟨hok,_,_,([]++pa)++pv,⟨[]++pa,pv,trodAll_append (hargs _ (fun _ _=>rfl)) (hres _ _ _),hvars _ (fun _ _=>rfl),rfl,?_,?_⟩,?_⟩
   · intro b off hp
     have hin:MemPlace.cell b off∈before:=by rw [hps];simpa using hp
     rw [hb.frozen (hlt _ hin) (fun f=>f)]
     exact hz b off hin
   · intro ha
     have:=hn ha
     rw [hps] at this
     simpa using this
   · intro p hp _
     rw [hps]
     simpa using hp
end
end Go.Proofs.YtnicpmoanjddbaaGreatDoor.Wo
namespace Go.Proofs.YtnicpmoanjddbaaGreatDoor.Wo
open Go.ChangeShapes Go.WideShapes Go.RowKit
set_option linter.unusedVariables false
set_option linter.unusedSimpArgs false
def NumsAt (W:World) (v:Value) (l:List Int):Prop :=
 ∃ a n c,v=.slice a n c∧n=l.length∧n≤c∧c≤maxLen∧(a=none→c=0)∧(∀ x∈l,-9223372036854775808≤x∧x≤9223372036854775807)∧(∀ i x,l[i]?=some x→∃ g o,a=some ⟨g,o,none⟩∧W.cell? ⟨g,o+i,none⟩=some (.int .i64 x))
theorem addr_of_cell {W:World} {a:Addr} {v:Value} (h:W.cell? a=some v):a=⟨a.block,a.off,none⟩:=by
 unfold World.cell? at h
 split at h
 · split at h
   · cases h
   · rename_i hs
     cases a with
     | mk b o s=>cases s with
       | none=>rfl
       | some _=>simp at hs
 · cases h
theorem add_plain (b o i:Nat):(⟨b,o,none⟩:Addr).add i=⟨b,o+i,none⟩:=by unfold Addr.add;split <;> simp_all
theorem wf_i64 {a:Int} (h:(Lit.int .i64 a).wf=true):-9223372036854775808≤a∧a≤9223372036854775807:=by
 simp only [Lit.wf,IntKind.min,IntKind.max,IntKind.signed,IntKind.bits,Bool.and_eq_true,decide_eq_true_eq,if_true] at h
 omega
theorem nums_open {H:Type} {enc:TypeId×Value→H} {P:Program} {W:World} {t e:TypeId} {v:Value} {d:DataW H} {p:List MemPlace} {r:Reach} {b0:Nat} (ht:P.underlying t=some (.slice e)) (he:P.underlying e=some (.int .i64)) (hc:P.cellsOf e=1)
 (hv:Value.okWide P W r b0 t v) (h:DataW.Trod enc P W 0 (fun _=>true) true t v d p):∃ l,NumsAt W v l:=by
 obtain ⟨a0,n0,c0,rfl⟩:=okWide_slice ht hv
 obtain ⟨fuel,hf⟩:=h
 rcases open_ints ht he hc hf with ⟨hcs,hx⟩|⟨a,len,cap,zs,hcs,_,hl,hm,hz,hx,hcell,hwz⟩
 · simp [Value.cells] at hcs
   obtain ⟨rfl,rfl,rfl⟩:=hcs
   exact ⟨[],none,0,0,rfl,rfl,Nat.le_refl _,by decide,fun _=>rfl,fun x hx=>by simp at hx,fun i x hx=>by simp at hx⟩
 · simp [Value.cells] at hcs
   obtain ⟨rfl,rfl,rfl⟩:=hcs
   simp only [if_true] at hz
   refine ⟨zs.take n0,some a,n0,c0,rfl,by rw [List.length_take];omega,hl,hm,(fun h=>(by cases h)),fun x hx=>wf_i64 (hwz x (List.mem_of_mem_take hx)),fun i x hx=>?_⟩
   have hi:i<n0:=by
    have:=(List.getElem?_eq_some_iff.1 hx).1
    rw [List.length_take] at this;omega
   rw [List.getElem?_take_of_lt hi] at hx
   have h0:=addr_of_cell (hcell 0 (by omega))
   have e0:a.add 0=a:=by unfold Addr.add;simp
   rw [e0] at h0
   have hci:=hcell i (by omega)
   rw [h0,add_plain] at hci
   refine ⟨a.block,a.off,by rw [← h0],?_⟩
   rw [hci,List.getD_eq_getElem?_getD,hx]
   rfl
theorem laid_out:laidOutB Tryz.prog=true:=by kernel_rfl
end Go.Proofs.YtnicpmoanjddbaaGreatDoor.Wo
namespace Go.Proofs.YtnicpmoanjddbaaGreatDoor.TreeP
open Go.RowKit
set_option linter.unusedVariables false
set_option linter.unusedSimpArgs false
structure Tok where
 kind:Int
 text:List UInt8
 at_:Int
 deriving DecidableEq
def letterB (c:UInt8):Bool:=(decide (97≤c.toNat) && decide (c.toNat≤122)) || c.toNat==95
def digitB (c:UInt8):Bool:=decide (48≤c.toNat) && decide (c.toNat≤57)
def markList:List (List UInt8):=[[38,38],[124,124],[61,61],[33,61],[60,61],[62,61],[60],[62],[61],[43],[45],[42],[47],[37],[33],[40],[41],[123],[125],[91],[93],[44],[59],[58]]
def nextP (l:List UInt8):Int×Nat :=
 match l with
 | []=>(3,0)
 | c::_ =>
   if letterB c then (1,(l.takeWhile fun x=>letterB x || digitB x).length)
   else if digitB c then (2,(l.takeWhile digitB).length)
   else match markList.find? (fun m=>m.isPrefixOf l) with
    | some m=>(3,m.length)
    | none=>(3,0)
def blankB (c:UInt8):Bool:=c.toNat==32 || c.toNat==9 || c.toNat==10
def lexF:Nat→List UInt8→Nat→Nat→Option (Except (Int×Int) (List Tok))
 | 0,_,_,_=>none
 | f+1,l,p,n =>
   match l with
   | []=>some (.ok [⟨4,[],p⟩])
   | c::r =>
     if blankB c then lexF f r (p+1) n
     else if c.toNat==35 then
      lexF f (l.dropWhile fun x=>x.toNat != 10) (p+(l.takeWhile fun x=>x.toNat != 10).length) n
     else
      let k:=nextP l
      if k.2=0 then some (.error (3,p))
      else if n=1500 then some (.error (4,p))
      else match lexF f (l.drop k.2) (p+k.2) (n+1) with
       | some (.ok t)=>some (.ok (⟨k.1,l.take k.2,p⟩::t))
       | x=>x
inductive Ex where
 | num (at_ n:Int)
 | var (at_:Int) (s:List UInt8)
 | bin (at_:Int) (op:List UInt8) (l r:Ex)
 | un (at_:Int) (op:List UInt8) (x:Ex)
 | call (at_:Int) (f:List UInt8) (args:List Ex)
 | new (at_:Int) (x:Ex)
 | len (at_:Int) (x:Ex)
 | item (at_:Int) (x i:Ex)
 | input (at_:Int)
inductive St where
 | var (at_:Int) (s:List UInt8) (v:Ex)
 | set (at_:Int) (s:List UInt8) (v:Ex)
 | put (at_:Int) (s:List UInt8) (i v:Ex)
 | cond (at_:Int) (v:Ex) (t e:List St)
 | loop (at_:Int) (v:Ex) (t:List St)
 | ret (at_:Int) (v:Ex)
 | print (at_:Int) (v:Ex)
 | call (at_:Int) (v:Ex)
structure Fn where
 name:List UInt8
 at_:Int
 params:List (List UInt8×Int)
 body:List St
abbrev PR (α:Type):=Option (Except (Int×Int) (α×List Tok))
def failP {α:Type} (e:Int) (ts:List Tok):PR α:=some (.error (e,(ts.head?.map (·.at_)).getD 0))
def okP {α:Type} (a:α) (ts:List Tok):PR α:=some (.ok (a,ts))
def andThen {α β:Type} (x:PR α) (f:α→List Tok→PR β):PR β :=
 match x with
 | some (.ok (a,ts))=>f a ts
 | some (.error e)=>some (.error e)
 | none=>none
def headKind (ts:List Tok):Int:=(ts.head?.map (·.kind)).getD 4
def headText (ts:List Tok):List UInt8:=(ts.head?.map (·.text)).getD []
def headAt (ts:List Tok):Int:=(ts.head?.map (·.at_)).getD 0
def seeB (s:List UInt8) (ts:List Tok):Bool:=headText ts==s && headKind ts != 4
def must (s:List UInt8) (ts:List Tok):PR Unit:=if seeB s ts then okP () ts.tail else failP 3 ts
def kFn:List UInt8:=[102,110]
def kVar:List UInt8:=[118,97,114]
def kIf:List UInt8:=[105,102]
def kElse:List UInt8:=[101,108,115,101]
def kWhile:List UInt8:=[119,104,105,108,101]
def kReturn:List UInt8:=[114,101,116,117,114,110]
def kPrint:List UInt8:=[112,114,105,110,116]
def kNew:List UInt8:=[110,101,119]
def kLen:List UInt8:=[108,101,110]
def kInput:List UInt8:=[105,110,112,117,116]
def kInt:List UInt8:=[105,110,116]
def kArr:List UInt8:=[97,114,114]
def keptList:List (List UInt8):=[kFn,kVar,kIf,kElse,kWhile,kReturn,kPrint,kNew,kLen,kInput,kInt,kArr]
def keptB (s:List UInt8):Bool:=keptList.contains s
def nameP (ts:List Tok):PR (List UInt8) :=
 if headKind ts != 1 || keptB (headText ts) then failP 3 ts
 else if 12<(headText ts).length then failP 4 ts
 else okP (headText ts) ts.tail
def levelList:List (List (List UInt8)):=[[[124,124]],[[38,38]],[[61,61],[33,61]],[[60],[60,61],[62],[62,61]],[[43],[45]],[[42],[47],[37]]]
def opP (level:Nat) (ts:List Tok):List UInt8:=((levelList.getD level []).find? (fun m=>seeB m ts)).getD []
def numP (l:List UInt8):Nat:=l.foldl (fun n c=>n*10+(c.toNat-48)) 0
mutual
def exprF:Nat→Nat→Nat→List Tok→PR Ex
 | 0,_,_,_=>none
 | f+1,level,deep,ts =>
   if level=6 then unaryF f deep ts
   else andThen (exprF f (level+1) deep ts) fun x r=>binF f level deep (headAt ts) x r
def binF:Nat→Nat→Nat→Int→Ex→List Tok→PR Ex
 | 0,_,_,_,_,_=>none
 | f+1,level,deep,a,x,ts =>
   if opP level ts=[] then okP x ts
   else andThen (exprF f (level+1) deep ts.tail) fun y r=>binF f level deep a (.bin a (opP level ts) x y) r
def unaryF:Nat→Nat→List Tok→PR Ex
 | 0,_,_=>none
 | f+1,deep,ts =>
   if 12<deep then failP 4 ts
   else if seeB [45] ts then andThen (unaryF f (deep+1) ts.tail) fun x r=>okP (.un (headAt ts) [45] x) r
   else if seeB [33] ts then andThen (unaryF f (deep+1) ts.tail) fun x r=>okP (.un (headAt ts) [33] x) r
   else andThen (firstF f deep ts) fun x r=>itemF f deep (headAt ts) x r
def itemF:Nat→Nat→Int→Ex→List Tok→PR Ex
 | 0,_,_,_,_=>none
 | f+1,deep,a,x,ts =>
   if seeB [91] ts then andThen (exprF f 0 (deep+1) ts.tail) fun i r=>andThen (must [93] r) fun _ r2=>itemF f deep a (.item a x i) r2
   else okP x ts
def aloneF:Nat→Nat→List Tok→PR Ex
 | 0,_,_=>none
 | f+1,deep,ts=>andThen (must [40] ts) fun _ r=>andThen (exprF f 0 (deep+1) r) fun x r2=>andThen (must [41] r2) fun _ r3=>okP x r3
def firstF:Nat→Nat→List Tok→PR Ex
 | 0,_,_=>none
 | f+1,deep,ts =>
   if headKind ts=2 then
    (if numP (headText ts)<9223372036854775808 then okP (.num (headAt ts) (numP (headText ts))) ts.tail else failP 4 ts)
   else if seeB [40] ts then aloneF f deep ts
   else if seeB kNew ts then andThen (aloneF f deep ts.tail) fun x r=>okP (.new (headAt ts) x) r
   else if seeB kLen ts then andThen (aloneF f deep ts.tail) fun x r=>okP (.len (headAt ts) x) r
   else if seeB kInput ts then andThen (must [40] ts.tail) fun _ r=>andThen (must [41] r) fun _ r2=>okP (.input (headAt ts)) r2
   else andThen (nameP ts) fun n r =>
    if seeB [40] r then andThen (argsF f deep r) fun l r2=>okP (.call (headAt ts) n l) r2
    else okP (.var (headAt ts) n) r
def argsF:Nat→Nat→List Tok→PR (List Ex)
 | 0,_,_=>none
 | f+1,deep,ts=>andThen (must [40] ts) fun _ r=>restF f deep true [] r
def restF:Nat→Nat→Bool→List Ex→List Tok→PR (List Ex)
 | 0,_,_,_,_=>none
 | f+1,deep,first,l,ts =>
   if seeB [41] ts then okP l ts.tail
   else andThen (if first then okP () ts else must [44] ts) fun _ r=>andThen (exprF f 0 (deep+1) r) fun x r2=>restF f deep false (l++[x]) r2
end
mutual
def blockF:Nat→Nat→List Tok→PR (List St)
 | 0,_,_=>none
 | f+1,deep,ts=>if 12<deep then failP 4 ts else andThen (must [123] ts) fun _ r=>stmtsF f deep [] r
def stmtsF:Nat→Nat→List St→List Tok→PR (List St)
 | 0,_,_,_=>none
 | f+1,deep,l,ts=>if seeB [125] ts then okP l ts.tail else andThen (stmtF f deep ts) fun s r=>stmtsF f deep (l++[s]) r
def stmtF:Nat→Nat→List Tok→PR St
 | 0,_,_=>none
 | f+1,deep,ts =>
   if seeB kIf ts then
    andThen (aloneF f 0 ts.tail) fun v r=>andThen (blockF f (deep+1) r) fun t r2 =>
     if seeB kElse r2 then andThen (blockF f (deep+1) r2.tail) fun e r3=>okP (.cond (headAt ts) v t e) r3
     else okP (.cond (headAt ts) v t []) r2
   else if seeB kWhile ts then
    andThen (aloneF f 0 ts.tail) fun v r=>andThen (blockF f (deep+1) r) fun t r2=>okP (.loop (headAt ts) v t) r2
   else if seeB kVar ts then
    andThen (nameP ts.tail) fun n r=>andThen (must [61] r) fun _ r2=>andThen (exprF f 0 0 r2) fun v r3=>andThen (must [59] r3) fun _ r4=>okP (.var (headAt ts) n v) r4
   else if seeB kReturn ts then
    andThen (exprF f 0 0 ts.tail) fun v r=>andThen (must [59] r) fun _ r2=>okP (.ret (headAt ts) v) r2
   else if seeB kPrint ts then
    andThen (exprF f 0 0 ts.tail) fun v r=>andThen (must [59] r) fun _ r2=>okP (.print (headAt ts) v) r2
   else andThen (namedF f ts) fun s r=>andThen (must [59] r) fun _ r2=>okP s r2
def namedF:Nat→List Tok→PR St
 | 0,_=>none
 | f+1,ts =>
   andThen (nameP ts) fun n r =>
    if seeB [40] r then andThen (argsF f 0 r) fun l r2=>okP (.call (headAt ts) (.call (headAt ts) n l)) r2
    else if seeB [91] r then
     andThen (exprF f 0 1 r.tail) fun i r2=>andThen (must [93] r2) fun _ r3=>andThen (must [61] r3) fun _ r4=>andThen (exprF f 0 0 r4) fun v r5=>okP (.put (headAt ts) n i v) r5
    else andThen (must [61] r) fun _ r2=>andThen (exprF f 0 0 r2) fun v r3=>okP (.set (headAt ts) n v) r3
end
def paramsF:Nat→Bool→List (List UInt8×Int)→List Tok→PR (List (List UInt8×Int))
 | 0,_,_,_=>none
 | f+1,first,l,ts =>
   if seeB [41] ts then okP l ts.tail
   else andThen (if first then okP () ts else must [44] ts) fun _ r=>andThen (nameP r) fun n r2=>andThen (must [58] r2) fun _ r3 =>
    if seeB kArr r3 then paramsF f false (l++[(n,2)]) r3.tail
    else andThen (must kInt r3) fun _ r4=>paramsF f false (l++[(n,1)]) r4
def functionF:Nat→List Tok→PR Fn
 | 0,_=>none
 | f+1,ts =>
   andThen (must kFn ts) fun _ r=>andThen (nameP r) fun n r2=>andThen (must [40] r2) fun _ r3=>andThen (paramsF f true [] r3) fun ps r4=>andThen (blockF f 0 r4) fun b r5=>okP ⟨n,headAt ts,ps,b⟩ r5
def programF:Nat→List Fn→List Tok→PR (List Fn)
 | 0,_,_=>none
 | f+1,l,ts =>
   if headKind ts=4 then okP l ts
   else if l.length=12 then failP 4 ts
   else andThen (functionF f ts) fun x r=>programF f (l++[x]) r
end Go.Proofs.YtnicpmoanjddbaaGreatDoor.TreeP
namespace Go.Proofs.YtnicpmoanjddbaaGreatDoor.TreeP
set_option linter.unusedVariables false
set_option linter.unusedSimpArgs false
theorem andThen_ok {α β:Type} {x:PR α} {f:α→List Tok→PR β} {y:β×List Tok} (h:andThen x f=some (.ok y)):∃ a ts,x=some (.ok (a,ts))∧f a ts=some (.ok y):=by
 unfold andThen at h
 split at h
 · exact ⟨_,_,rfl,h⟩
 · cases h
 · cases h
theorem okP_ok {α:Type} {a x:α} {ts r:List Tok} (h:okP a ts=some (.ok (x,r))):x=a∧r=ts:=by
 simp only [okP,Option.some.injEq,Except.ok.injEq,Prod.mk.injEq] at h
 exact ⟨h.1.symm,h.2.symm⟩
theorem failP_ok {α:Type} {e:Int} {x:α} {ts r:List Tok} (h:failP e ts=some (.ok (x,r))):False:=by
 simp [failP] at h
theorem must_ok {s:List UInt8} {ts r:List Tok} {u:Unit} (h:must s ts=some (.ok (u,r))):r=ts.tail∧seeB s ts=true:=by
 unfold must at h
 split at h
 · exact ⟨(okP_ok h).2,‹_›⟩
 · exact (failP_ok h).elim
theorem nameP_ok {ts r:List Tok} {s:List UInt8} (h:nameP ts=some (.ok (s,r))):r=ts.tail∧s=headText ts:=by
 unfold nameP at h
 split at h
 · exact (failP_ok h).elim
 · split at h
   · exact (failP_ok h).elim
   · exact ⟨(okP_ok h).2,(okP_ok h).1⟩
theorem see_less {s:List UInt8} {ts:List Tok} (h:seeB s ts=true):ts.tail.length<ts.length:=by
 cases ts with
 | nil=>simp [seeB,headKind] at h
 | cons t r=>simp
theorem name_less {ts r:List Tok} {s:List UInt8} (h:nameP ts=some (.ok (s,r))):r.length<ts.length:=by
 have h1:=(nameP_ok h).1
 subst h1
 cases ts with
 | nil=>simp [nameP,headKind,failP] at h
 | cons t r=>simp
theorem must_less {s:List UInt8} {ts r:List Tok} {u:Unit} (h:must s ts=some (.ok (u,r))):r.length<ts.length:=by
 obtain ⟨rfl,h1⟩:=must_ok h
 exact see_less h1
theorem tail_le (ts:List Tok):ts.tail.length≤ts.length:=by simp
structure Lens (f:Nat):Prop where
 expr:∀ {level deep ts x r},exprF f level deep ts=some (.ok (x,r))→r.length<ts.length
 bin:∀ {level deep a y ts x r},binF f level deep a y ts=some (.ok (x,r))→r.length≤ts.length
 unary:∀ {deep ts x r},unaryF f deep ts=some (.ok (x,r))→r.length<ts.length
 item:∀ {deep a y ts x r},itemF f deep a y ts=some (.ok (x,r))→r.length≤ts.length
 alone:∀ {deep ts x r},aloneF f deep ts=some (.ok (x,r))→r.length<ts.length
 first:∀ {deep ts x r},firstF f deep ts=some (.ok (x,r))→r.length<ts.length
 args:∀ {deep ts x r},argsF f deep ts=some (.ok (x,r))→r.length<ts.length
 rest:∀ {deep b l ts x r},restF f deep b l ts=some (.ok (x,r))→r.length≤ts.length
theorem lens:(f:Nat)→Lens f
 | 0=>⟨fun h=>by simp [exprF] at h,fun h=>by simp [binF] at h,fun h=>by simp [unaryF] at h,fun h=>by simp [itemF] at h,fun h=>by simp [aloneF] at h,fun h=>by simp [firstF] at h,fun h=>by simp [argsF] at h,fun h=>by simp [restF] at h⟩
 | f+1=>by
   have ih:=lens f
   refine ⟨?_,?_,?_,?_,?_,?_,?_,?_⟩
   · intro level deep ts x r h
     simp only [exprF] at h
     split at h
     · exact ih.unary h
     · obtain ⟨a,t,h1,h2⟩:=andThen_ok h
       exact Nat.lt_of_le_of_lt (ih.bin h2) (ih.expr h1)
   · intro level deep a y ts x r h
     simp only [binF] at h
     split at h
     · rw [(okP_ok h).2];exact Nat.le_refl _
     · obtain ⟨a,t,h1,h2⟩:=andThen_ok h
       exact Nat.le_trans (ih.bin h2) (Nat.le_of_lt (Nat.lt_of_lt_of_le (ih.expr h1) (tail_le _)))
   · intro deep ts x r h
     simp only [unaryF] at h
     split at h
     · exact (failP_ok h).elim
     · split at h
       · obtain ⟨a,t,h1,h2⟩:=andThen_ok h
         rw [(okP_ok h2).2];exact Nat.lt_of_lt_of_le (ih.unary h1) (tail_le _)
       · split at h
         · obtain ⟨a,t,h1,h2⟩:=andThen_ok h
           rw [(okP_ok h2).2];exact Nat.lt_of_lt_of_le (ih.unary h1) (tail_le _)
         · obtain ⟨a,t,h1,h2⟩:=andThen_ok h
           exact Nat.lt_of_le_of_lt (ih.item h2) (ih.first h1)
   · intro deep a y ts x r h
     simp only [itemF] at h
     split at h
     · obtain ⟨i,t,h1,h2⟩:=andThen_ok h
       obtain ⟨u,t2,h3,h4⟩:=andThen_ok h2
       have:=ih.item h4
       have:=must_less h3
       have:=ih.expr h1
       have:=tail_le ts
       omega
     · rw [(okP_ok h).2];exact Nat.le_refl _
   · intro deep ts x r h
     simp only [aloneF] at h
     obtain ⟨u,t,h1,h2⟩:=andThen_ok h
     obtain ⟨y,t2,h3,h4⟩:=andThen_ok h2
     obtain ⟨u2,t3,h5,h6⟩:=andThen_ok h4
     have:=must_less h1
     have:=must_less h5
     have:=ih.expr h3
     rw [(okP_ok h6).2]
     omega
   · intro deep ts x r h
     simp only [firstF] at h
     split at h
     · split at h
       · rw [(okP_ok h).2]
         cases ts with
         | nil=>rename_i h1 _;simp [headKind] at h1
         | cons t r=>simp
       · exact (failP_ok h).elim
     · split at h
       · exact ih.alone h
       · split at h
         · obtain ⟨a,t,h1,h2⟩:=andThen_ok h
           rw [(okP_ok h2).2];exact Nat.lt_of_lt_of_le (ih.alone h1) (tail_le _)
         · split at h
           · obtain ⟨a,t,h1,h2⟩:=andThen_ok h
             rw [(okP_ok h2).2];exact Nat.lt_of_lt_of_le (ih.alone h1) (tail_le _)
           · split at h
             · obtain ⟨u,t,h1,h2⟩:=andThen_ok h
               obtain ⟨u2,t2,h3,h4⟩:=andThen_ok h2
               have:=must_less h1
               have:=must_less h3
               have:=tail_le ts
               rw [(okP_ok h4).2]
               omega
             · obtain ⟨n,t,h1,h2⟩:=andThen_ok h
               have h0:=name_less h1
               split at h2
               · obtain ⟨l,t2,h3,h4⟩:=andThen_ok h2
                 rw [(okP_ok h4).2];exact Nat.lt_trans (ih.args h3) h0
               · rw [(okP_ok h2).2];exact h0
   · intro deep ts x r h
     simp only [argsF] at h
     obtain ⟨u,t,h1,h2⟩:=andThen_ok h
     exact Nat.lt_of_le_of_lt (ih.rest h2) (must_less h1)
   · intro deep b l ts x r h
     simp only [restF] at h
     split at h
     · rw [(okP_ok h).2];exact tail_le _
     · obtain ⟨u,t,h1,h2⟩:=andThen_ok h
       have ht:t.length≤ts.length:=by
        split at h1
        · rw [(okP_ok h1).2];exact Nat.le_refl _
        · exact Nat.le_of_lt (must_less h1)
       obtain ⟨y,t2,h3,h4⟩:=andThen_ok h2
       exact Nat.le_trans (ih.rest h4) (Nat.le_trans (Nat.le_of_lt (ih.expr h3)) ht)
structure SLens (f:Nat):Prop where
 block:∀ {deep ts x r},blockF f deep ts=some (.ok (x,r))→r.length<ts.length
 stmts:∀ {deep l ts x r},stmtsF f deep l ts=some (.ok (x,r))→r.length≤ts.length
 stmt:∀ {deep ts x r},stmtF f deep ts=some (.ok (x,r))→r.length<ts.length
 named:∀ {ts x r},namedF f ts=some (.ok (x,r))→r.length<ts.length
theorem slens:(f:Nat)→SLens f
 | 0=>⟨fun h=>by simp [blockF] at h,fun h=>by simp [stmtsF] at h,fun h=>by simp [stmtF] at h,fun h=>by simp [namedF] at h⟩
 | f+1=>by
   have ih:=slens f
   have e:=lens f
   refine ⟨?_,?_,?_,?_⟩
   · intro deep ts x r h
     simp only [blockF] at h
     split at h
     · exact (failP_ok h).elim
     · obtain ⟨u,t,h1,h2⟩:=andThen_ok h
       exact Nat.lt_of_le_of_lt (ih.stmts h2) (must_less h1)
   · intro deep l ts x r h
     simp only [stmtsF] at h
     split at h
     · rw [(okP_ok h).2];exact tail_le _
     · obtain ⟨s,t,h1,h2⟩:=andThen_ok h
       exact Nat.le_trans (ih.stmts h2) (Nat.le_of_lt (ih.stmt h1))
   · intro deep ts x r h
     have h0:=tail_le ts
     simp only [stmtF] at h
     split at h
     · obtain ⟨v,t,h1,h2⟩:=andThen_ok h
       obtain ⟨b,t2,h3,h4⟩:=andThen_ok h2
       have a1:=e.alone h1
       have a2:=ih.block h3
       split at h4
       · obtain ⟨b2,t3,h5,h6⟩:=andThen_ok h4
         have a3:=ih.block h5
         have:=tail_le t2
         rw [(okP_ok h6).2]
         omega
       · rw [(okP_ok h4).2]
         omega
     · split at h
       · obtain ⟨v,t,h1,h2⟩:=andThen_ok h
         obtain ⟨b,t2,h3,h4⟩:=andThen_ok h2
         have a1:=e.alone h1
         have a2:=ih.block h3
         rw [(okP_ok h4).2]
         omega
       · split at h
         · obtain ⟨n,t,h1,h2⟩:=andThen_ok h
           obtain ⟨u,t2,h3,h4⟩:=andThen_ok h2
           obtain ⟨v,t3,h5,h6⟩:=andThen_ok h4
           obtain ⟨u2,t4,h7,h8⟩:=andThen_ok h6
           have a1:=name_less h1
           have a2:=must_less h3
           have a3:=e.expr h5
           have a4:=must_less h7
           rw [(okP_ok h8).2]
           omega
         · split at h
           · obtain ⟨v,t,h1,h2⟩:=andThen_ok h
             obtain ⟨u,t2,h3,h4⟩:=andThen_ok h2
             have a1:=e.expr h1
             have a2:=must_less h3
             rw [(okP_ok h4).2]
             omega
           · split at h
             · obtain ⟨v,t,h1,h2⟩:=andThen_ok h
               obtain ⟨u,t2,h3,h4⟩:=andThen_ok h2
               have a1:=e.expr h1
               have a2:=must_less h3
               rw [(okP_ok h4).2]
               omega
             · obtain ⟨v,t,h1,h2⟩:=andThen_ok h
               obtain ⟨u,t2,h3,h4⟩:=andThen_ok h2
               have a1:=ih.named h1
               have a2:=must_less h3
               rw [(okP_ok h4).2]
               omega
   · intro ts x r h
     simp only [namedF] at h
     obtain ⟨n,t,h1,h2⟩:=andThen_ok h
     have a1:=name_less h1
     split at h2
     · obtain ⟨l,t2,h3,h4⟩:=andThen_ok h2
       have a2:=e.args h3
       rw [(okP_ok h4).2]
       omega
     · split at h2
       · obtain ⟨i,t2,h3,h4⟩:=andThen_ok h2
         obtain ⟨u,t3,h5,h6⟩:=andThen_ok h4
         obtain ⟨u2,t4,h7,h8⟩:=andThen_ok h6
         obtain ⟨v,t5,h9,h10⟩:=andThen_ok h8
         have:=tail_le t
         have a2:=e.expr h3
         have a3:=must_less h5
         have a4:=must_less h7
         have a5:=e.expr h9
         rw [(okP_ok h10).2]
         omega
       · obtain ⟨u,t2,h3,h4⟩:=andThen_ok h2
         obtain ⟨v,t3,h5,h6⟩:=andThen_ok h4
         have a2:=must_less h3
         have a3:=e.expr h5
         rw [(okP_ok h6).2]
         omega
def foldN (acc:Nat) (l:List UInt8):Nat:=l.foldl (fun n c=>n*10+(c.toNat-48)) acc
theorem numP_eq (l:List UInt8):numP l=foldN 0 l:=rfl
theorem foldN_le:(l:List UInt8)→(acc:Nat)→acc≤foldN acc l
 | [],acc=>Nat.le_refl _
 | c::r,acc=>Nat.le_trans (by omega) (foldN_le r (acc*10+(c.toNat-48)))
theorem uint_digits:(l:List UInt8)→(acc:Nat)→l.all digitB=true→acc<18446744073709551616→Lib.parseUint10 acc l=if foldN acc l<18446744073709551616 then .ok (foldN acc l) else .range
 | [],acc,_,ha=>by
   have h:foldN acc []=acc:=rfl
   rw [h,if_pos ha]
   rfl
 | c::r,acc,hd,ha=>by
   simp only [List.all_cons,Bool.and_eq_true,digitB,decide_eq_true_eq] at hd
   simp only [Lib.parseUint10]
   have hf:foldN acc (c::r)=foldN (acc*10+(c.toNat-48)) r:=rfl
   rw [if_pos ⟨hd.1.1,hd.1.2⟩,hf]
   have hle:=foldN_le r (acc*10+(c.toNat-48))
   by_cases h1:1844674407370955162≤acc
   · rw [if_pos h1,if_neg (by omega)]
   · rw [if_neg h1]
     by_cases h2:18446744073709551616≤acc*10+(c.toNat-48)
     · rw [if_pos h2,if_neg (by omega)]
     · rw [if_neg h2]
       exact uint_digits r _ hd.2 (by omega)
theorem int_digits {l:List UInt8} (hne:l≠[]) (hd:l.all digitB=true):Lib.parseIntB 64 l=if numP l<9223372036854775808 then .ok (numP l:Int) else .range:=by
 rw [Lib.parseIntB_64,numP_eq]
 cases l with
 | nil=>exact absurd rfl hne
 | cons c r =>
   have hc:48≤c.toNat∧c.toNat≤57:=by
    simp only [List.all_cons,Bool.and_eq_true,digitB,decide_eq_true_eq] at hd
    exact hd.1
   have h43:¬ c.toNat=43:=by omega
   have h45:¬ c.toNat=45:=by omega
   simp only [Lib.atoiAll,h43,h45,or_self,if_false,Lib.parseMag,reduceCtorEq,not_false_eq_true,true_and,false_and]
   rw [uint_digits _ 0 hd (by omega)]
   by_cases h1:foldN 0 (c::r)<18446744073709551616
   · rw [if_pos h1]
     simp only
     by_cases h2:foldN 0 (c::r)<9223372036854775808
     · rw [if_pos h2,if_neg (by omega)]
     · rw [if_neg h2,if_pos (by omega)]
   · rw [if_neg h1,if_neg (by omega)]
def lvlFrom:List (List (List UInt8))→Nat→List UInt8→Nat
 | [],_,_=>0
 | l::r,i,op=>if l.contains op then i else lvlFrom r (i+1) op
def levelB:Ex→Nat
 | .bin _ op _ _=>lvlFrom levelList 0 op
 | _=>6
def isUn:Ex→Bool
 | .un ..=>true
 | _=>false
def sp:List UInt8:=[32,32]
def semi:List UInt8:=[59,10]
def dropRest:Except (Int×Int) (List Fn×List Tok)→Except (Int×Int) (List Fn)
 | .ok (l,_)=>.ok l
 | .error e=>.error e
theorem params_le:(f:Nat)→(first:Bool)→(l:List (List UInt8×Int))→(ts:List Tok)→{x:List (List UInt8×Int)}→{r:List Tok}→paramsF f first l ts=some (.ok (x,r))→r.length≤ts.length
 | 0,_,_,_,x,r,h=>by simp [paramsF] at h
 | f+1,first,l,ts,x,r,h=>by
   simp only [paramsF] at h
   split at h
   · rw [(okP_ok h).2];exact tail_le _
   · obtain ⟨u,t,h1,h2⟩:=andThen_ok h
     have ht:t.length≤ts.length:=by
      split at h1
      · rw [(okP_ok h1).2];exact Nat.le_refl _
      · exact Nat.le_of_lt (must_less h1)
     obtain ⟨n,t2,h3,h4⟩:=andThen_ok h2
     obtain ⟨u2,t3,h5,h6⟩:=andThen_ok h4
     have a1:=name_less h3
     have a2:=must_less h5
     split at h6
     · have:=params_le f _ _ _ h6
       have:=tail_le t3
       omega
     · obtain ⟨u3,t4,h7,h8⟩:=andThen_ok h6
       have a3:=must_less h7
       have:=params_le f _ _ _ h8
       omega
theorem function_less {f:Nat} {ts r:List Tok} {x:Fn} (h:functionF f ts=some (.ok (x,r))):r.length<ts.length:=by
 cases f with
 | zero=>simp [functionF] at h
 | succ f =>
   simp only [functionF] at h
   obtain ⟨u,t,h1,h2⟩:=andThen_ok h
   obtain ⟨n,t2,h3,h4⟩:=andThen_ok h2
   obtain ⟨u2,t3,h5,h6⟩:=andThen_ok h4
   obtain ⟨ps,t4,h7,h8⟩:=andThen_ok h6
   obtain ⟨b,t5,h9,h10⟩:=andThen_ok h8
   have a1:=must_less h1
   have a2:=name_less h3
   have a3:=must_less h5
   have a4:=params_le _ _ _ _ h7
   have a5:=(slens f).block h9
   rw [(okP_ok h10).2]
   omega
end Go.Proofs.YtnicpmoanjddbaaGreatDoor.TreeP

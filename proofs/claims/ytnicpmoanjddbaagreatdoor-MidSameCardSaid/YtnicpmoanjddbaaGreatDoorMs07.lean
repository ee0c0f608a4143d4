/- What a runner has, and what a part of it comes to, plainly. No program in sight. No conditions. How a program ends, plainly. No program in sight. No conditions. Plainly: what goes but one way; more rounds; more fuel; rounds enough: of parts and what follows them. No program in sight. No conditions. Plainly: as many calls wait behind a part as ahead of it. No conditions. Plainly: more fuel is no other road, and who asks for nothing does not hear; rounds enough. No program in sight. No conditions. Plainly: with more fuel, or with other numbers for who asks for none, it goes the same road. No program in sight. No conditions. Plainly: with rounds enough every program ends. No program in sight. No conditions. Programs as steps, plainly: which may be, and how they end. No program in sight. No conditions. -/
import Derived.WalkKit
import Derived.Test.YtnicpmoanjddbaaGreatDoorMs06
namespace Go.Proofs.YtnicpmoanjddbaaGreatDoor.TreeP
open Go.RowKit
set_option linter.unusedVariables false
set_option linter.unusedSimpArgs false
structure V where
 n:Int
 arr:Option Nat
 deriving DecidableEq
structure RS where
 inp:List Int
 fuel:Nat
 calls:Nat
 out:List Int
 arrs:List (List Int)
abbrev Fr:=List (List UInt8×V)
def Fr.get:Fr→List UInt8→V
 | [],_=>⟨0,none⟩
 | p::r,s=>if p.1==s then p.2 else Fr.get r s
def Fr.put:Fr→List UInt8→V→Fr
 | [],s,v=>[(s,v)]
 | p::r,s,v=>if p.1==s then (s,v)::r else p::Fr.put r s v
inductive Sig where
 | stop (way:Int)
 | ret (n:Int)
 deriving DecidableEq
abbrev RM (α:Type):=Option (Except Sig α×RS)
def bindR {α β:Type} (x:RM α) (f:α→RS→RM β):RM β:=match x with
 | some (.ok a,s)=>f a s
 | some (.error e,s)=>some (.error e,s)
 | none=>none
def okR {α:Type} (a:α) (s:RS):RM α:=some (.ok a,s)
def stopR {α:Type} (w:Int) (s:RS):RM α:=some (.error (.stop w),s)
def numV (n:Int):V:=⟨n,none⟩
def oneB (b:Bool):Int:=if b then 1 else 0
def stepR (s:RS):RM Unit:=if s.fuel=0 then stopR 6 s else okR () { s with fuel:=s.fuel-1 }
def twoP (op:List UInt8) (a b:Int):Option Int :=
 if op=[43] then some (wrap64 (a+b))
 else if op=[45] then some (wrap64 (a-b))
 else if op=[42] then some (wrap64 (a*b))
 else if op=[47]∨op=[37] then (if b=0 then none else if op=[47] then some (wrap64 (a.tdiv b)) else some (a.tmod b))
 else if op=[61,61] then some (oneB (a==b))
 else if op=[33,61] then some (oneB (a != b))
 else if op=[60] then some (oneB (decide (a<b)))
 else if op=[60,61] then some (oneB (decide (a≤b)))
 else if op=[62] then some (oneB (decide (a > b)))
 else some (oneB (decide (a≥b)))
def arrOf (s:RS) (v:V):List Int:=match v.arr with
 | some i=>s.arrs.getD i []
 | none=>[]
def placeR (s:RS) (v:V) (i:Int):RM Int:=if i<0∨i≥(arrOf s v).length then stopR 3 s else okR ((arrOf s v).getD i.toNat 0) s
def putArr (s:RS) (v:V) (i x:Int):RS:=match v.arr with
 | some k=>{ s with arrs:=s.arrs.set k ((s.arrs.getD k []).set i.toNat x) }
 | none=>s
def bindParams:Fr→List (List UInt8×Int)→List V→Fr
 | F,p::ps,v::vs=>bindParams (F.put p.1 v) ps vs
 | F,_,_=>F
def fnGet (L:List Fn) (s:List UInt8):Fn:=(fnOf L s).getD ⟨[],0,[],[]⟩
mutual
def evE (L:List Fn):Nat→RS→Fr→Ex→RM V
 | 0,_,_,_=>none
 | f+1,s,F,.num _ n=>okR (numV n) s
 | f+1,s,F,.var _ x=>okR (F.get x) s
 | f+1,s,F,.un _ op x=>bindR (evE L f s F x) fun v s=>okR (numV (if op=[45] then wrap64 (-v.n) else oneB (v.n==0))) s
 | f+1,s,F,.bin _ op l r=>bindR (evE L f s F l) fun a s =>
    if op=[38,38]∨op=[124,124] then
     (if (a.n != 0)=(op==[124,124]) then okR (numV (oneB (a.n != 0))) s
     else bindR (evE L f s F r) fun b s=>okR (numV (oneB (b.n != 0))) s)
    else bindR (evE L f s F r) fun b s=>match twoP op a.n b.n with
     | some n=>okR (numV n) s
     | none=>stopR 2 s
 | f+1,s,F,.call _ g args=>bindR (evA L f s F args []) fun vs s=>bindR (callR L f s g vs) fun n s=>okR (numV n) s
 | f+1,s,F,.new _ x=>bindR (evE L f s F x) fun v s=>if v.n<0∨v.n > 40 then stopR 4 s else okR ⟨0,some s.arrs.length⟩ { s with arrs:=s.arrs++[List.replicate v.n.toNat 0] }
 | f+1,s,F,.len _ x=>bindR (evE L f s F x) fun v s=>okR (numV (arrOf s v).length) s
 | f+1,s,F,.item _ x i=>bindR (evE L f s F x) fun v s=>bindR (evE L f s F i) fun k s=>bindR (placeR s v k.n) fun n s=>okR (numV n) s
 | f+1,s,F,.input _=>match s.inp with
   | []=>okR (numV 0) s
   | n::r=>okR (numV n) { s with inp:=r }
def evA (L:List Fn):Nat→RS→Fr→List Ex→List V→RM (List V)
 | 0,_,_,_,_=>none
 | f+1,s,F,[],vs=>okR vs s
 | f+1,s,F,e::r,vs=>bindR (evE L f s F e) fun v s=>evA L f s F r (vs++[v])
def callR (L:List Fn):Nat→RS→List UInt8→List V→RM Int
 | 0,_,_,_=>none
 | f+1,s,g,vs =>
   if s.calls=40 then stopR 5 s
   else match blockR L f { s with calls:=s.calls+1 } (bindParams [] (fnGet L g).params vs) (fnGet L g).body with
    | some (.ok _,t)=>okR 0 { t with calls:=t.calls-1 }
    | some (.error (.ret n),t)=>okR n { t with calls:=t.calls-1 }
    | some (.error (.stop w),t)=>stopR w t
    | none=>none
def blockR (L:List Fn):Nat→RS→Fr→List St→RM Fr
 | 0,_,_,_=>none
 | f+1,s,F,[]=>okR F s
 | f+1,s,F,x::r=>bindR (stmtR L f s F x) fun F s=>blockR L f s F r
def stmtR (L:List Fn):Nat→RS→Fr→St→RM Fr
 | 0,_,_,_=>none
 | f+1,s,F,x=>bindR (stepR s) fun _ s=>match x with
   | .var _ n v=>bindR (evE L f s F v) fun y s=>okR (F.put n y) s
   | .set _ n v=>bindR (evE L f s F v) fun y s=>okR (F.put n y) s
   | .put _ n i v=>bindR (evE L f s F i) fun k s=>bindR (evE L f s F v) fun y s=>bindR (placeR s (F.get n) k.n) fun _ s=>okR F (putArr s (F.get n) k.n y.n)
   | .cond _ v t e=>bindR (evE L f s F v) fun c s=>if c.n≠0 then blockR L f s F t else blockR L f s F e
   | .loop _ v t=>whileR L f s F v t
   | .ret _ v=>bindR (evE L f s F v) fun y s=>some (.error (.ret y.n),s)
   | .print _ v=>bindR (evE L f s F v) fun y s=>if s.out.length≥200 then stopR 7 s else okR F { s with out:=s.out++[y.n] }
   | .call _ v=>bindR (evE L f s F v) fun _ s=>okR F s
def whileR (L:List Fn):Nat→RS→Fr→Ex→List St→RM Fr
 | 0,_,_,_,_=>none
 | f+1,s,F,v,t=>bindR (evE L f s F v) fun c s=>if c.n≠0 then bindR (blockR L f s F t) fun F s=>bindR (stepR s) fun _ s=>whileR L f s F v t else okR F s
end
def runR (L:List Fn) (f:Nat) (given:List Int) (fuel:Nat):Option (Int×Int×List Int) :=
 match callR L f ⟨given,fuel,0,[],[]⟩ [109,97,105,110] [] with
 | some (.ok n,t)=>some (1,n,t.out)
 | some (.error (.stop w),t)=>some (w,0,t.out)
 | some (.error (.ret n),t)=>some (0,0,t.out)
 | none=>none
def KeptR {α:Type} (s:RS) (x:RM α):Prop:=∀ y,x=some y→(∃ w,y.1=.error (.stop w))∨y.2.calls=s.calls
theorem KeptR.ok {α:Type} {s s':RS} (a:α) (h:s'.calls=s.calls):KeptR s (okR a s'):=by
 intro y hy
 obtain rfl:=(Option.some.inj hy).symm
 exact Or.inr h
theorem KeptR.err {α:Type} {s s':RS} (g:Sig) (h:s'.calls=s.calls):KeptR s (some ((Except.error g:Except Sig α),s')):=by
 intro y hy
 obtain rfl:=(Option.some.inj hy).symm
 exact Or.inr h
theorem KeptR.bind {α β:Type} {s:RS} {x:RM α} {f:α→RS→RM β} (h:KeptR s x) (hf:∀ a t,t.calls=s.calls→KeptR s (f a t)):KeptR s (bindR x f):=by
 rcases x with _|⟨g|a,t⟩
 · intro y hy;cases hy
 · intro y hy
   obtain rfl:=(Option.some.inj hy).symm
   rcases h _ rfl with ⟨w,hw⟩|h
   · simp only [Except.error.injEq] at hw
     exact Or.inl ⟨w,by rw [hw]⟩
   · exact Or.inr h
 · rcases h _ rfl with ⟨w,hw⟩|h
   · cases hw
   · exact hf a t h
theorem KeptR.to {α:Type} {s t:RS} {x:RM α} (h:KeptR t x) (hs:t.calls=s.calls):KeptR s x:=fun y hy=>(h y hy).imp id (fun e=>e.trans hs)
theorem KeptR.none_ {α:Type} (s:RS):KeptR s (none:RM α):=by intro y hy;cases hy
theorem stepR_kept (s:RS):KeptR s (stepR s):=by
 unfold stepR
 split
 · exact KeptR.err _ (rfl)
 · exact KeptR.ok _ (rfl)
theorem placeR_kept (s:RS) (v:V) (i:Int):KeptR s (placeR s v i):=by
 unfold placeR
 split
 · exact KeptR.err _ (rfl)
 · exact KeptR.ok _ (rfl)
theorem putArr_calls (s:RS) (v:V) (i x:Int):(putArr s v i x).calls=s.calls:=by
 unfold putArr
 split <;> rfl
structure OneWay (R:RS→RS→Prop):Prop where
 refl:∀ s,R s s
 trans:∀ s t u,R s t→R t u→R s u
 step:∀ s:RS,R s { s with fuel:=s.fuel-1 }
 calls:∀ (s:RS) k,R s { s with calls:=k }
 inp:∀ (s:RS) r,R s { s with inp:=r }
 arrs:∀ (s:RS) a,s.arrs.length≤a.length→R s { s with arrs:=a }
 told:∀ (s:RS) n,R s { s with out:=s.out++[n] }
def Goes {α:Type} (R:RS→RS→Prop) (s:RS) (x:RM α):Prop:=∀ y,x=some y→R s y.2
section goes
variable {R:RS→RS→Prop}
theorem Goes.ok {α:Type} {s s':RS} (a:α) (h:R s s'):Goes R s (okR a s'):=by
 intro y hy
 obtain rfl:=(Option.some.inj hy).symm
 exact h
theorem Goes.err {α:Type} {s s':RS} (g:Sig) (h:R s s'):Goes R s (some ((Except.error g:Except Sig α),s')):=by
 intro y hy
 obtain rfl:=(Option.some.inj hy).symm
 exact h
theorem Goes.bind {α β:Type} (hR:OneWay R) {s:RS} {x:RM α} {f:α→RS→RM β} (h:Goes R s x) (hf:∀ a t,Goes R t (f a t)):Goes R s (bindR x f):=by
 rcases x with _|⟨g|a,t⟩
 · intro y hy;cases hy
 · intro y hy
   obtain rfl:=(Option.some.inj hy).symm
   exact h _ rfl
 · intro y hy
   exact hR.trans _ _ _ (h _ rfl) (hf a t y hy)
theorem Goes.none_ {α:Type} (s:RS):Goes R s (none:RM α):=by intro y hy;cases hy
theorem stepR_goes (hR:OneWay R) (s:RS):Goes R s (stepR s):=by
 unfold stepR
 split
 · exact Goes.err _ (hR.refl s)
 · exact Goes.ok _ (hR.step s)
theorem placeR_goes (hR:OneWay R) (s:RS) (v:V) (i:Int):Goes R s (placeR s v i):=by
 unfold placeR
 split
 · exact Goes.err _ (hR.refl s)
 · exact Goes.ok _ (hR.refl s)
theorem putArr_goes (hR:OneWay R) (s:RS) (v:V) (i x:Int):R s (putArr s v i x):=by
 unfold putArr
 split
 · exact hR.arrs s _ (by simp)
 · exact hR.refl s
end goes
def BurnsOn (s t:RS):Prop:=t.fuel≤s.fuel
theorem burns_way:OneWay BurnsOn:=⟨fun _=>Nat.le_refl _,fun _ _ _ h k=>Nat.le_trans k h,fun s=>Nat.sub_le _ _,fun _ _=>Nat.le_refl _,fun _ _=>Nat.le_refl _,fun _ _ _=>Nat.le_refl _,fun s n=>Nat.le_refl _⟩
/-! More rounds. -/
section more
variable {d:Nat} {p:Prop}
end more
def Soon {α:Type} (x:Nat→RM α):Prop:=∃ f y,∀ g,f≤g→x g=some y
theorem Soon.now {α:Type} (y:Except Sig α×RS):Soon (fun _=>some y):=⟨0,y,fun _ _=>rfl⟩
theorem Soon.next {α:Type} {x x':Nat→RM α} (h:Soon x) (hx:∀ f,x' (f+1)=x f):Soon x':=by
 obtain ⟨f,y,hy⟩:=h
 refine ⟨f+1,y,fun g hg=>?_⟩
 obtain ⟨k,rfl⟩:∃ k,g=k+1:=⟨g-1,by omega⟩
 rw [hx]
 exact hy k (by omega)
theorem Soon.bind {α β:Type} {x:Nat→RM α} {h:Nat→α→RS→RM β} (hx:Soon x) (hf:∀ a t,(∃ f,x f=some (.ok a,t))→Soon (fun f=>h f a t)):Soon (fun f=>bindR (x f) (h f)):=by
 obtain ⟨f,y,hy⟩:=hx
 obtain ⟨g|a,t⟩:=y
 · exact ⟨f,_,fun k hk=>by show bindR (x k) (h k)=_;rw [hy k hk];rfl⟩
 · obtain ⟨f',z,hz⟩:=hf a t ⟨f,hy f (Nat.le_refl _)⟩
   refine ⟨max f f',z,fun k hk=>?_⟩
   show bindR (x k) (h k)=_
   rw [hy k (by omega)]
   exact hz k (by omega)
theorem stepR_soon (s:RS):Soon (fun _=>stepR s):=by
 unfold stepR
 by_cases h:s.fuel=0
 · rw [if_pos h];exact Soon.now _
 · rw [if_neg h];exact Soon.now _
theorem placeR_soon (s:RS) (v:V) (i:Int):Soon (fun _=>placeR s v i):=by
 unfold placeR
 by_cases h:i<0∨i≥(arrOf s v).length
 · rw [if_pos h];exact Soon.now _
 · rw [if_neg h];exact Soon.now _
def endOf:Except Sig Int×RS→Int×Int×List Int
 | (.ok n,t)=>(1,n,t.out)
 | (.error (.stop w),t)=>(w,0,t.out)
 | (.error (.ret n),t)=>(0,0,t.out)
end Go.Proofs.YtnicpmoanjddbaaGreatDoor.TreeP
namespace Go.Proofs.YtnicpmoanjddbaaGreatDoor.TreeP
open Go.RowKit
set_option linter.unusedVariables false
set_option linter.unusedSimpArgs false
theorem kept_all (L:List Fn):∀ f,(∀ s F e,KeptR s (evE L f s F e))∧(∀ s F l vs,KeptR s (evA L f s F l vs))∧(∀ s g vs,KeptR s (callR L f s g vs))∧(∀ s F l,KeptR s (blockR L f s F l))∧(∀ s F x,KeptR s (stmtR L f s F x))∧(∀ s F v t,KeptR s (whileR L f s F v t)):=by
 intro f
 induction f with
 | zero=>refine ⟨fun s F e=>?_,fun s F l vs=>?_,fun s g vs=>?_,fun s F l=>?_,fun s F x=>?_,fun s F v t=>?_⟩ <;> simp only [evE,evA,callR,blockR,stmtR,whileR] <;> exact KeptR.none_ _
 | succ f ih =>
   obtain ⟨i1,i2,i3,i4,i5,i6⟩:=ih
   refine ⟨fun s F e=>?_,fun s F l vs=>?_,fun s g vs=>?_,fun s F l=>?_,fun s F x=>?_,fun s F v t=>?_⟩
   · cases e with
     | num a k=>simp only [evE];exact KeptR.ok _ (rfl)
     | var a x=>simp only [evE];exact KeptR.ok _ (rfl)
     | un a op x=>simp only [evE];exact (i1 s F x).bind fun v t ht=>KeptR.ok _ ht
     | bin a op x y =>
       simp only [evE]
       refine (i1 s F x).bind fun v t ht=>?_
       split
       · split
         · exact KeptR.ok _ ht
         · exact ((i1 t F y).to ht).bind fun v2 t2 ht2=>KeptR.ok _ ht2
       · refine ((i1 t F y).to ht).bind fun v2 t2 ht2=>?_
         split
         · exact KeptR.ok _ ht2
         · exact KeptR.err _ ht2
     | call a g l=>simp only [evE];exact (i2 s F l []).bind fun vs t ht=>((i3 t g vs).to ht).bind fun n t2 ht2=>KeptR.ok _ ht2
     | new a x =>
       simp only [evE]
       refine (i1 s F x).bind fun v t ht=>?_
       split
       · exact KeptR.err _ ht
       · exact KeptR.ok _ ht
     | len a x=>simp only [evE];exact (i1 s F x).bind fun v t ht=>KeptR.ok _ ht
     | item a x y=>simp only [evE];exact (i1 s F x).bind fun v t ht=>((i1 t F y).to ht).bind fun k t2 ht2=>((placeR_kept t2 v k.n).to ht2).bind fun n t3 ht3=>KeptR.ok _ ht3
     | input a =>
       simp only [evE]
       split
       · exact KeptR.ok _ (rfl)
       · exact KeptR.ok _ (rfl)
   · cases l with
     | nil=>simp only [evA];exact KeptR.ok _ (rfl)
     | cons e r=>simp only [evA];exact (i1 s F e).bind fun v t ht=>(i2 t F r _).to ht
   · simp only [callR]
     split
     · exact KeptR.err _ (rfl)
     · have hb:=i4 { s with calls:=s.calls+1 } (bindParams [] (fnGet L g).params vs) (fnGet L g).body
       split
       · rename_i hh
         rcases hb _ hh with ⟨w,hw⟩|h1
         · cases hw
         · exact KeptR.ok _ (by simp only at h1 ⊢;omega)
       · rename_i hh
         rcases hb _ hh with ⟨w,hw⟩|h1
         · cases hw
         · exact KeptR.ok _ (by simp only at h1 ⊢;omega)
       · intro y hy
         obtain rfl:=(Option.some.inj hy).symm
         exact Or.inl ⟨_,rfl⟩
       · exact KeptR.none_ _
   · cases l with
     | nil=>simp only [blockR];exact KeptR.ok _ (rfl)
     | cons x r=>simp only [blockR];exact (i5 s F x).bind fun F t ht=>(i4 t F r).to ht
   · simp only [stmtR]
     refine (stepR_kept s).bind fun _ t ht=>?_
     cases x with
     | var a n v=>exact ((i1 t F v).to ht).bind fun y t2 ht2=>KeptR.ok _ ht2
     | set a n v=>exact ((i1 t F v).to ht).bind fun y t2 ht2=>KeptR.ok _ ht2
     | put a n i v=>exact ((i1 t F i).to ht).bind fun k t2 ht2=>((i1 t2 F v).to ht2).bind fun y t3 ht3=>((placeR_kept t3 _ _).to ht3).bind fun _ t4 ht4=>KeptR.ok _ (by rw [putArr_calls];exact ht4)
     | cond a v t1 e1 =>
       refine ((i1 t F v).to ht).bind fun c t2 ht2=>?_
       split
       · exact (i4 t2 F t1).to ht2
       · exact (i4 t2 F e1).to ht2
     | loop a v t1=>exact (i6 t F v t1).to ht
     | ret a v=>exact ((i1 t F v).to ht).bind fun y t2 ht2=>KeptR.err _ ht2
     | print a v =>
       refine ((i1 t F v).to ht).bind fun y t2 ht2=>?_
       split
       · exact KeptR.err _ ht2
       · exact KeptR.ok _ ht2
     | call a v=>exact ((i1 t F v).to ht).bind fun _ t2 ht2=>KeptR.ok _ ht2
   · simp only [whileR]
     refine (i1 s F v).bind fun c t1 ht=>?_
     split
     · exact ((i4 t1 F t).to ht).bind fun F2 t2 ht2=>((stepR_kept t2).to ht2).bind fun _ t3 ht3=>(i6 t3 F2 v t).to ht3
     · exact KeptR.ok _ ht
section goes
variable {R:RS→RS→Prop}
theorem goes_all (hR:OneWay R) (L:List Fn):∀ f,(∀ s F e,Goes R s (evE L f s F e))∧(∀ s F l vs,Goes R s (evA L f s F l vs))∧(∀ s g vs,Goes R s (callR L f s g vs))∧(∀ s F l,Goes R s (blockR L f s F l))∧(∀ s F x,Goes R s (stmtR L f s F x))∧(∀ s F v t,Goes R s (whileR L f s F v t)):=by
 intro f
 induction f with
 | zero=>refine ⟨fun s F e=>?_,fun s F l vs=>?_,fun s g vs=>?_,fun s F l=>?_,fun s F x=>?_,fun s F v t=>?_⟩ <;> simp only [evE,evA,callR,blockR,stmtR,whileR] <;> exact Goes.none_ _
 | succ f ih =>
   obtain ⟨i1,i2,i3,i4,i5,i6⟩:=ih
   refine ⟨fun s F e=>?_,fun s F l vs=>?_,fun s g vs=>?_,fun s F l=>?_,fun s F x=>?_,fun s F v t=>?_⟩
   · cases e with
     | num a k=>simp only [evE];exact Goes.ok _ (hR.refl s)
     | var a x=>simp only [evE];exact Goes.ok _ (hR.refl s)
     | un a op x=>simp only [evE];exact (i1 s F x).bind hR fun v t=>Goes.ok _ (hR.refl t)
     | bin a op x y =>
       simp only [evE]
       refine (i1 s F x).bind hR fun v t=>?_
       split
       · split
         · exact Goes.ok _ (hR.refl t)
         · exact (i1 t F y).bind hR fun v2 t2=>Goes.ok _ (hR.refl t2)
       · refine (i1 t F y).bind hR fun v2 t2=>?_
         split
         · exact Goes.ok _ (hR.refl t2)
         · exact Goes.err _ (hR.refl t2)
     | call a g l=>simp only [evE];exact (i2 s F l []).bind hR fun vs t=>(i3 t g vs).bind hR fun n t2=>Goes.ok _ (hR.refl t2)
     | new a x =>
       simp only [evE]
       refine (i1 s F x).bind hR fun v t=>?_
       split
       · exact Goes.err _ (hR.refl t)
       · exact Goes.ok _ (hR.arrs t _ (by simp))
     | len a x=>simp only [evE];exact (i1 s F x).bind hR fun v t=>Goes.ok _ (hR.refl t)
     | item a x y=>simp only [evE];exact (i1 s F x).bind hR fun v t=>(i1 t F y).bind hR fun k t2=>(placeR_goes hR t2 v k.n).bind hR fun n t3=>Goes.ok _ (hR.refl t3)
     | input a =>
       simp only [evE]
       split
       · exact Goes.ok _ (hR.refl s)
       · exact Goes.ok _ (hR.inp s _)
   · cases l with
     | nil=>simp only [evA];exact Goes.ok _ (hR.refl s)
     | cons e r=>simp only [evA];exact (i1 s F e).bind hR fun v t=>i2 t F r _
   · simp only [callR]
     split
     · exact Goes.err _ (hR.refl s)
     · have hb:=i4 { s with calls:=s.calls+1 } (bindParams [] (fnGet L g).params vs) (fnGet L g).body
       split
       · rename_i hh
         exact Goes.ok _ (hR.trans _ _ _ (hR.trans _ _ _ (hR.calls s _) (hb _ hh)) (hR.calls _ _))
       · rename_i hh
         exact Goes.ok _ (hR.trans _ _ _ (hR.trans _ _ _ (hR.calls s _) (hb _ hh)) (hR.calls _ _))
       · rename_i hh
         exact Goes.err _ (hR.trans _ _ _ (hR.calls s _) (hb _ hh))
       · exact Goes.none_ _
   · cases l with
     | nil=>simp only [blockR];exact Goes.ok _ (hR.refl s)
     | cons x r=>simp only [blockR];exact (i5 s F x).bind hR fun F t=>i4 t F r
   · simp only [stmtR]
     refine (stepR_goes hR s).bind hR fun _ t=>?_
     cases x with
     | var a n v=>exact (i1 t F v).bind hR fun y t2=>Goes.ok _ (hR.refl t2)
     | set a n v=>exact (i1 t F v).bind hR fun y t2=>Goes.ok _ (hR.refl t2)
     | put a n i v=>exact (i1 t F i).bind hR fun k t2=>(i1 t2 F v).bind hR fun y t3=>(placeR_goes hR t3 _ _).bind hR fun _ t4=>Goes.ok _ (putArr_goes hR t4 _ _ _)
     | cond a v t1 e1 =>
       refine (i1 t F v).bind hR fun c t2=>?_
       split
       · exact i4 t2 F t1
       · exact i4 t2 F e1
     | loop a v t1=>exact i6 t F v t1
     | ret a v=>exact (i1 t F v).bind hR fun y t2=>Goes.err _ (hR.refl t2)
     | print a v =>
       refine (i1 t F v).bind hR fun y t2=>?_
       split
       · exact Goes.err _ (hR.refl t2)
       · exact Goes.ok _ (hR.told t2 _)
     | call a v=>exact (i1 t F v).bind hR fun _ t2=>Goes.ok _ (hR.refl t2)
   · simp only [whileR]
     refine (i1 s F v).bind hR fun c t1=>?_
     split
     · exact (i4 t1 F t).bind hR fun F2 t2=>(stepR_goes hR t2).bind hR fun _ t3=>i6 t3 F2 v t
     · exact Goes.ok _ (hR.refl t1)
end goes
end Go.Proofs.YtnicpmoanjddbaaGreatDoor.TreeP
namespace Go.Proofs.YtnicpmoanjddbaaGreatDoor.TreeP
open Go.RowKit
set_option linter.unusedVariables false
set_option linter.unusedSimpArgs false
section more
variable {d:Nat} {p:Prop}
end more
theorem callR_ends {L:List Fn} {f:Nat} {s:RS} {g:List UInt8} {vs:List V} {y:Except Sig Int×RS} (h:callR L f s g vs=some y):(∃ n,y.1=.ok n)∨∃ w,y.1=.error (.stop w):=by
 cases f with
 | zero=>simp only [callR] at h;cases h
 | succ f =>
   simp only [callR] at h
   split at h
   · obtain rfl:=(Option.some.inj h).symm
     exact Or.inr ⟨_,rfl⟩
   · split at h
     · obtain rfl:=(Option.some.inj h).symm
       exact Or.inl ⟨_,rfl⟩
     · obtain rfl:=(Option.some.inj h).symm
       exact Or.inl ⟨_,rfl⟩
     · obtain rfl:=(Option.some.inj h).symm
       exact Or.inr ⟨_,rfl⟩
     · cases h
theorem runR_eq (L:List Fn) (f:Nat) (given:List Int) (fuel:Nat):runR L f given fuel=(callR L f ⟨given,fuel,0,[],[]⟩ [109,97,105,110] []).map endOf:=by
 unfold runR
 cases callR L f ⟨given,fuel,0,[],[]⟩ [109,97,105,110] [] with
 | none=>rfl
 | some y =>
   obtain ⟨(w|n)|n,t⟩:=y <;> rfl
end Go.Proofs.YtnicpmoanjddbaaGreatDoor.TreeP
namespace Go.Proofs.YtnicpmoanjddbaaGreatDoor.TreeP
open Go.RowKit
set_option linter.unusedVariables false
set_option linter.unusedSimpArgs false
def CallSoon (L:List Fn) (c:Nat):Prop:=∀ s:RS,s.calls+c=40→∀ g vs,Soon (fun f=>callR L f s g vs)
section soon
variable {L:List Fn} {c:Nat}
theorem calls_same {α:Type} {s t:RS} {a:α} {x:Nat→RM α} (hk:∀ f,KeptR s (x f)) (h:∃ f,x f=some (.ok a,t)):t.calls=s.calls:=by
 obtain ⟨f,hf⟩:=h
 rcases hk f _ hf with ⟨w,hw⟩|h1
 · cases hw
 · exact h1
theorem burns {α:Type} {s t:RS} {a:α} {x:Nat→RM α} (hk:∀ f,Goes BurnsOn s (x f)) (h:∃ f,x f=some (.ok a,t)):t.fuel≤s.fuel:=by
 obtain ⟨f,hf⟩:=h
 exact hk f _ hf
mutual
theorem evE_soon (hc:CallSoon L c) (F:Fr):(e:Ex)→(s:RS)→s.calls+c=40→Soon (fun f=>evE L f s F e)
 | .num a k,s,h=>(Soon.now (.ok (numV k),s)).next fun f=>by rw [evE];rfl
 | .var a x,s,h=>(Soon.now (.ok (F.get x),s)).next fun f=>by rw [evE];rfl
 | .un a op x,s,h=>((evE_soon hc F x s h).bind (h:=fun _ (v:V) s=>okR (numV (if op=[45] then wrap64 (-v.n) else oneB (v.n==0))) s) fun v t _=>Soon.now _).next fun f=>by rw [evE]
 | .bin a op l r,s,h=>by
   refine ((evE_soon hc F l s h).bind (h:=fun f (a:V) s=>if op=[38,38]∨op=[124,124] then (if (a.n != 0)=(op==[124,124]) then okR (numV (oneB (a.n != 0))) s else bindR (evE L f s F r) fun b s=>okR (numV (oneB (b.n != 0))) s)
    else bindR (evE L f s F r) fun b s=>match twoP op a.n b.n with
        | some n=>okR (numV n) s
        | none=>stopR 2 s) fun v t ht=>?_).next fun f=>by first|(rw [evE];done)|(rw [evE];rfl)
   have hk:=calls_same (fun f=>(kept_all L f).1 s F l) ht
   have hr:=evE_soon hc F r t (by omega)
   split
   · split
     · exact Soon.now _
     · exact hr.bind (h:=fun _ (b:V) s=>okR (numV (oneB (b.n != 0))) s) fun _ _ _=>Soon.now _
   · refine hr.bind (h:=fun _ (b:V) s=>match twoP op v.n b.n with
        | some n=>okR (numV n) s
        | none=>stopR 2 s) fun b t2 _=>?_
     cases twoP op v.n b.n with
     | none=>exact Soon.now _
     | some n=>exact Soon.now _
 | .call a g l,s,h=>by
   refine ((evA_soon hc F l s [] h).bind (h:=fun f vs s=>bindR (callR L f s g vs) fun n s=>okR (numV n) s) fun vs t ht=>?_).next fun f=>by rw [evE]
   have hk:=calls_same (fun f=>(kept_all L f).2.1 s F l []) ht
   exact (hc t (by omega) g vs).bind (h:=fun _ (n:Int) s=>okR (numV n) s) fun _ _ _=>Soon.now _
 | .new a x,s,h=>by
   refine ((evE_soon hc F x s h).bind (h:=fun _ (v:V) s=>if v.n<0∨v.n > 40 then stopR 4 s else okR ⟨0,some s.arrs.length⟩ { s with arrs:=s.arrs++[List.replicate v.n.toNat 0] }) fun v t _=>?_).next fun f=>by rw [evE]
   by_cases hv:v.n<0∨v.n > 40
   · simp only [if_pos hv];exact Soon.now _
   · simp only [if_neg hv];exact Soon.now _
 | .len a x,s,h=>((evE_soon hc F x s h).bind (h:=fun _ (v:V) s=>okR (numV (arrOf s v).length) s) fun v t _=>Soon.now _).next fun f=>by rw [evE]
 | .item a x i,s,h=>by
   refine ((evE_soon hc F x s h).bind (h:=fun f (v:V) s=>bindR (evE L f s F i) fun k s=>bindR (placeR s v k.n) fun n s=>okR (numV n) s) fun v t ht=>?_).next fun f=>by rw [evE]
   have hk:=calls_same (fun f=>(kept_all L f).1 s F x) ht
   exact (evE_soon hc F i t (by omega)).bind (h:=fun _ (k:V) s=>bindR (placeR s v k.n) fun n s=>okR (numV n) s) fun k t2 _=>(placeR_soon t2 v k.n).bind (h:=fun _ (n:Int) s=>okR (numV n) s) fun _ _ _=>Soon.now _
 | .input a,s,h=>by
   cases hi:s.inp with
   | nil=>exact (Soon.now (.ok (numV 0),s)).next fun f=>by rw [evE,hi];rfl
   | cons n r=>exact (Soon.now (.ok (numV n),{ s with inp:=r })).next fun f=>by rw [evE,hi];rfl
theorem evA_soon (hc:CallSoon L c) (F:Fr):(l:List Ex)→(s:RS)→(vs:List V)→s.calls+c=40→Soon (fun f=>evA L f s F l vs)
 | [],s,vs,h=>(Soon.now (.ok vs,s)).next fun f=>by rw [evA];rfl
 | e::r,s,vs,h=>by
   refine ((evE_soon hc F e s h).bind (h:=fun f (v:V) s=>evA L f s F r (vs++[v])) fun v t ht=>?_).next fun f=>by rw [evA]
   have hk:=calls_same (fun f=>(kept_all L f).1 s F e) ht
   exact evA_soon hc F r t _ (by omega)
end
def BlkSoon (L:List Fn) (c n:Nat):Prop:=∀ s:RS,s.calls+c=40→s.fuel≤n→∀ F l,Soon (fun f=>blockR L f s F l)
def WhlSoon (L:List Fn) (c n:Nat):Prop:=∀ s:RS,s.calls+c=40→s.fuel≤n→∀ F v t,Soon (fun f=>whileR L f s F v t)
theorem step_soon {n:Nat} {s:RS} (h:s.calls+c=40) (hn:s.fuel≤n) {k:Nat→RS→RM Fr} (hk:∀ t:RS,t.calls+c=40→t.fuel<n→Soon (fun f=>k f t)):Soon (fun f=>bindR (stepR s) fun _ t=>k f t):=by
 refine (stepR_soon s).bind (h:=fun f (_:Unit) t=>k f t) fun _ t ht=>?_
 obtain ⟨_,ht⟩:=ht
 unfold stepR at ht
 split at ht
 · cases ht
 · have h3:=Option.some.inj ht
   simp only [Prod.mk.injEq] at h3
   obtain ⟨-,rfl⟩:=h3
   exact hk _ h (by simp only;omega)
theorem stmt_soon (hc:CallSoon L c) {n:Nat} (hb:∀ m,m<n→BlkSoon L c m∧WhlSoon L c m) (s:RS) (h:s.calls+c=40) (hn:s.fuel≤n) (F:Fr) (x:St):Soon (fun f=>stmtR L f s F x):=by
 have hev:=fun (t:RS) (h1:t.calls+c=40) e=>evE_soon hc F e t h1
 cases x with
 | var a m v=>exact (step_soon h hn (k:=fun f s=>bindR (evE L f s F v) fun y s=>okR (F.put m y) s) fun t h1 h2=>(hev t h1 v).bind (h:=fun _ (y:V) s=>okR (F.put m y) s) fun _ _ _=>Soon.now _).next fun f=>by simp only [stmtR]
 | set a m v=>exact (step_soon h hn (k:=fun f s=>bindR (evE L f s F v) fun y s=>okR (F.put m y) s) fun t h1 h2=>(hev t h1 v).bind (h:=fun _ (y:V) s=>okR (F.put m y) s) fun _ _ _=>Soon.now _).next fun f=>by simp only [stmtR]
 | put a m i v =>
   refine (step_soon h hn (k:=fun f s=>bindR (evE L f s F i) fun k s=>bindR (evE L f s F v) fun y s=>bindR (placeR s (F.get m) k.n) fun _ s=>okR F (putArr s (F.get m) k.n y.n)) fun t h1 h2=>?_).next fun f=>by simp only [stmtR]
   refine (hev t h1 i).bind (h:=fun f (k:V) s=>bindR (evE L f s F v) fun y s=>bindR (placeR s (F.get m) k.n) fun _ s=>okR F (putArr s (F.get m) k.n y.n)) fun k t2 ht2=>?_
   have hk:=calls_same (fun f=>(kept_all L f).1 t F i) ht2
   exact (hev t2 (by omega) v).bind (h:=fun _ (y:V) s=>bindR (placeR s (F.get m) k.n) fun _ s=>okR F (putArr s (F.get m) k.n y.n)) fun y t3 _=>(placeR_soon t3 _ _).bind (h:=fun _ (_:Int) s=>okR F (putArr s (F.get m) k.n y.n)) fun _ _ _=>Soon.now _
 | cond a v t1 e1 =>
   refine (step_soon h hn (k:=fun f s=>bindR (evE L f s F v) fun c s=>if c.n≠0 then blockR L f s F t1 else blockR L f s F e1) fun t h1 h2=>?_).next fun f=>by simp only [stmtR]
   refine (hev t h1 v).bind (h:=fun f (c:V) s=>if c.n≠0 then blockR L f s F t1 else blockR L f s F e1) fun k t2 ht2=>?_
   have hk:=calls_same (fun f=>(kept_all L f).1 t F v) ht2
   have hf:=burns (fun f=>(goes_all burns_way L f).1 t F v) ht2
   have hbb:=(hb t2.fuel (by omega)).1 t2 (by omega) (Nat.le_refl _) F
   by_cases hz:k.n≠0
   · simp only [if_pos hz];exact hbb t1
   · simp only [if_neg hz];exact hbb e1
 | loop a v t1=>exact (step_soon h hn (k:=fun f s=>whileR L f s F v t1) fun t h1 h2=>(hb t.fuel h2).2 t h1 (Nat.le_refl _) F v t1).next fun f=>by simp only [stmtR]
 | ret a v=>exact (step_soon h hn (k:=fun f s=>bindR (evE L f s F v) fun y s=>some (.error (.ret y.n),s)) fun t h1 h2=>(hev t h1 v).bind (h:=fun _ (y:V) s=>some (.error (.ret y.n),s)) fun _ _ _=>Soon.now _).next fun f=>by simp only [stmtR]
 | print a v =>
   refine (step_soon h hn (k:=fun f s=>bindR (evE L f s F v) fun y s=>if s.out.length≥200 then stopR 7 s else okR F { s with out:=s.out++[y.n] }) fun t h1 h2=>?_).next fun f=>by simp only [stmtR]
   refine (hev t h1 v).bind (h:=fun _ (y:V) s=>if s.out.length≥200 then stopR 7 s else okR F { s with out:=s.out++[y.n] }) fun y t2 _=>?_
   by_cases hz:t2.out.length≥200
   · simp only [if_pos hz];exact Soon.now _
   · simp only [if_neg hz];exact Soon.now _
 | call a v=>exact (step_soon h hn (k:=fun f s=>bindR (evE L f s F v) fun _ s=>okR F s) fun t h1 h2=>(hev t h1 v).bind (h:=fun _ (_:V) s=>okR F s) fun _ _ _=>Soon.now _).next fun f=>by simp only [stmtR]
theorem block_soon (hc:CallSoon L c) {n:Nat} (hb:∀ m,m<n→BlkSoon L c m∧WhlSoon L c m):BlkSoon L c n:=by
 intro s h hn F l
 induction l generalizing s F with
 | nil=>exact (Soon.now (.ok F,s)).next fun f=>by rw [blockR];rfl
 | cons x r ih =>
   refine ((stmt_soon hc hb s h hn F x).bind (h:=fun f F s=>blockR L f s F r) fun F2 t ht=>?_).next fun f=>by rw [blockR]
   have hk:=calls_same (fun f=>(kept_all L f).2.2.2.2.1 s F x) ht
   have hf:=burns (fun f=>(goes_all burns_way L f).2.2.2.2.1 s F x) ht
   exact ih t (by omega) (by omega) F2
theorem while_soon (hc:CallSoon L c) {n:Nat} (hb:∀ m,m<n→BlkSoon L c m∧WhlSoon L c m):WhlSoon L c n:=by
 intro s h hn F v t
 refine ((evE_soon hc F v s h).bind (h:=fun f (c:V) s=>if c.n≠0 then bindR (blockR L f s F t) fun F s=>bindR (stepR s) fun _ s=>whileR L f s F v t else okR F s) fun k t1 ht=>?_).next fun f=>by rw [whileR]
 have hk:=calls_same (fun f=>(kept_all L f).1 s F v) ht
 have hf:=burns (fun f=>(goes_all burns_way L f).1 s F v) ht
 by_cases hz:k.n≠0
 · simp only [if_pos hz]
   refine (block_soon hc hb t1 (by omega) (by omega) F t).bind (h:=fun f F s=>bindR (stepR s) fun _ s=>whileR L f s F v t) fun F2 t2 ht2=>?_
   have hk2:=calls_same (fun f=>(kept_all L f).2.2.2.1 t1 F t) ht2
   have hf2:=burns (fun f=>(goes_all burns_way L f).2.2.2.1 t1 F t) ht2
   refine (stepR_soon t2).bind (h:=fun f _ s=>whileR L f s F2 v t) fun _ t3 ht3=>?_
   obtain ⟨_,ht3⟩:=ht3
   unfold stepR at ht3
   split at ht3
   · cases ht3
   · have h3:=Option.some.inj ht3
     simp only [Prod.mk.injEq] at h3
     obtain ⟨-,rfl⟩:=h3
     exact (hb (t2.fuel-1) (by omega)).2 _ (by simp only;omega) (Nat.le_refl _) F2 v t
 · simp only [if_neg hz];exact Soon.now _
theorem all_soon (hc:CallSoon L c) (n:Nat):BlkSoon L c n∧WhlSoon L c n:=by
 induction n using Nat.strongRecOn with
 | ind n ih=>exact ⟨block_soon hc ih,while_soon hc ih⟩
end soon
theorem call_soon (L:List Fn):(c:Nat)→CallSoon L c
 | 0=>fun s h g vs=>(Soon.now (.error (.stop 5),s)).next fun f=>by simp only [callR];rw [if_pos (by omega)];rfl
 | c+1=>fun s h g vs=>by
   have hb:=(all_soon (call_soon L c) s.fuel).1 { s with calls:=s.calls+1 } (by simp only;omega) (Nat.le_refl _) (bindParams [] (fnGet L g).params vs) (fnGet L g).body
   obtain ⟨f,y,hy⟩:=hb
   refine ⟨f+1,(match y with
    | (.ok _,t)=>(.ok 0,{ t with calls:=t.calls-1 })
    | (.error (.ret n),t)=>(.ok n,{ t with calls:=t.calls-1 })
    | (.error (.stop w),t)=>(.error (.stop w),t)),fun k hk=>?_⟩
   obtain ⟨j,rfl⟩:∃ j,k=j+1:=⟨k-1,by omega⟩
   have h1:=hy j (by omega)
   simp only at h1
   simp only [callR]
   rw [if_neg (by omega),h1]
   obtain ⟨(w|n)|G,t⟩:=y <;> rfl
theorem run_soon (L:List Fn) (given:List Int) (fuel:Nat):∃ f x,∀ g,f≤g→runR L g given fuel=some x:=by
 obtain ⟨f,y,hy⟩:=call_soon L 40 ⟨given,fuel,0,[],[]⟩ rfl [109,97,105,110] []
 exact ⟨f,endOf y,fun g hg=>by have h1:=hy g hg;simp only at h1;rw [runR_eq,h1];rfl⟩
end Go.Proofs.YtnicpmoanjddbaaGreatDoor.TreeP
namespace Go.Proofs.YtnicpmoanjddbaaGreatDoor.MidP
open Go.RowKit Go.Proofs.YtnicpmoanjddbaaGreatDoor.TreeP
set_option linter.unusedVariables false
set_option linter.unusedSimpArgs false
structure Stp where
 code:Int
 dst:Int
 a:Int
 b:Int
 c:Int
 n:Int
 op:List UInt8
 label:Int
 name:List UInt8
 args:List Int
 deriving DecidableEq
structure Fm where
 name:List UInt8
 params:Int
 types:List Int
 steps:List Stp
 deriving DecidableEq
def opList:List (List UInt8):=[[43],[45],[42],[47],[37],[61,61],[33,61],[60],[60,61],[62],[62,61]]
def bothP (op:List UInt8) (a b:Int):Int×Int :=
 if op=[43] then (wrap64 (a+b),0)
 else if op=[45] then (wrap64 (a-b),0)
 else if op=[42] then (wrap64 (a*b),0)
 else if op=[47]∨op=[37] then (if b=0 then (0,2) else if op=[47] then (wrap64 (a.tdiv b),0) else (a.tmod b,0))
 else if op=[61,61] then (oneB (a==b),0)
 else if op=[33,61] then (oneB (a != b),0)
 else if op=[60] then (oneB (decide (a<b)),0)
 else if op=[60,61] then (oneB (decide (a≤b)),0)
 else if op=[62] then (oneB (decide (a > b)),0)
 else if op=[62,61] then (oneB (decide (a≥b)),0)
 else (0,0)
def kindP (f:Fm) (p:Int):Int:=if p<0∨p≥f.types.length then -1 else f.types.getD p.toNat 0
def formsP (code:Int):List Int :=
 if code=1 then [1,0,0,0]
 else if code=3 then [1,1,1,0]
 else if code=5 then [0,1,0,0]
 else if code=8 then [0,1,0,0]
 else if code=9 then [2,1,0,0]
 else if code=10 then [1,2,0,0]
 else if code=11 then [1,2,1,0]
 else if code=12 then [0,2,1,1]
 else if code=13 then [0,1,0,0]
 else if code=14 then [1,0,0,0]
 else [0,0,0,0]
def fitB (f:Fm) (t p:Int):Bool:=!(decide (t > 0) && kindP f p != t)
def hasLabel (f:Fm) (l:Int):Bool:=f.steps.any (fun s=>s.code==6 && s.label==l)
def rightB (L:List Fm) (f:Fm) (s:Stp):Bool :=
 if s.code=2 then decide (kindP f s.dst > 0) && kindP f s.dst==kindP f s.a
 else if s.code=7 then match L.find? (fun g=>g.name==s.name) with
    | none=>false
    | some g=>decide ((s.args.length:Int)=g.params) && kindP f s.dst==1 && (s.args.map (kindP f))==g.types.take s.args.length
 else if s.code<1∨s.code > 14 then false
 else fitB f ((formsP s.code).getD 0 0) s.dst && fitB f ((formsP s.code).getD 1 0) s.a && fitB f ((formsP s.code).getD 2 0) s.b && fitB f ((formsP s.code).getD 3 0) s.c
    && (!(s.code==4 || s.code==5) || hasLabel f s.label) && (!(s.code==3) || opList.contains s.op)
def onceB:List Int→List Stp→Bool
 | _,[]=>true
 | T,s::r=>if s.code=6 then (if T.contains s.label then false else onceB (T++[s.label]) r) else onceB T r
def fnB (L:List Fm) (f:Fm):Bool :=
 decide (f.types.length≤3000) && decide (1≤f.steps.length) && decide (f.steps.length≤6000)
    && (match f.steps.getLast? with|some s=>s.code==8 || s.code==4|none=>false)
    && f.types.all (fun t=>t==1 || t==2) && onceB [] f.steps && f.steps.all (rightB L f)
def headsB:List Fm→List Fm→Bool
 | _,[]=>true
 | ahead,f::r=>if f.params<0∨f.params > f.types.length∨ahead.any (fun g=>g.name==f.name) then false else headsB (ahead++[f]) r
def codeB (L:List Fm):Bool:=decide (L.length≤12) && headsB [] L && L.all (fnB L) && L.any (fun f=>f.name==[109,97,105,110] && f.params==0)
def fmOf (L:List Fm) (g:List UInt8):Option Fm:=L.find? (fun f=>f.name==g)
def fmGet (L:List Fm) (g:List UInt8):Fm:=(fmOf L g).getD ⟨[],0,[],[]⟩
def labelAt:List Stp→Int→Nat→Nat→Nat
 | [],_,_,k=>k
 | s::r,l,i,k=>labelAt r l (i+1) (if s.code=6∧s.label=l then i else k)
def atP (f:Fm) (l:Int):Nat:=labelAt f.steps l 0 0
abbrev Pl:=List V
def Pl.get (v:Pl) (p:Int):V:=v.getD p.toNat ⟨0,none⟩
def Pl.put (v:Pl) (p:Int) (x:V):Pl:=v.set p.toNat x
def stepM (v:Pl) (x:Stp) (s:RS):RM Pl :=
 if x.code=1 then okR (v.put x.dst (numV x.n)) s
 else if x.code=2 then okR (v.put x.dst (v.get x.a)) s
 else if x.code=3 then (if (bothP x.op (v.get x.a).n (v.get x.b).n).2≠0 then stopR (bothP x.op (v.get x.a).n (v.get x.b).n).2 s else okR (v.put x.dst (numV (bothP x.op (v.get x.a).n (v.get x.b).n).1)) s)
 else if x.code=9 then (if (v.get x.a).n<0∨(v.get x.a).n > 40 then stopR 4 s else okR (v.put x.dst ⟨0,some s.arrs.length⟩) { s with arrs:=s.arrs++[List.replicate (v.get x.a).n.toNat 0] })
 else if x.code=10 then okR (v.put x.dst (numV (arrOf s (v.get x.a)).length)) s
 else if x.code=11 then bindR (placeR s (v.get x.a) (v.get x.b).n) fun n s=>okR (v.put x.dst (numV n)) s
 else if x.code=12 then bindR (placeR s (v.get x.a) (v.get x.b).n) fun _ s=>okR v (putArr s (v.get x.a) (v.get x.b).n (v.get x.c).n)
 else if x.code=13 then (if s.out.length≥200 then stopR 7 s else okR v { s with out:=s.out++[(v.get x.a).n] })
 else if x.code=14 then (match s.inp with
    | []=>okR (v.put x.dst (numV 0)) s
    | n::r=>okR (v.put x.dst (numV n)) { s with inp:=r })
 else okR v s
def fillP (args:List V) (n:Nat):Pl:=(args.take n)++List.replicate (n-args.length) ⟨0,none⟩
mutual
def goM (L:List Fm):Nat→RS→Fm→Pl→Nat→RM Int
 | 0,_,_,_,_=>none
 | f+1,s,F,v,i=>match F.steps[i]? with
   | none=>okR 0 s
   | some x=>bindR (stepR s) fun _ s =>
     if x.code=4 then goM L f s F v (atP F x.label+1)
     else if x.code=5 then (if (v.get x.a).n=0 then goM L f s F v (atP F x.label+1) else goM L f s F v (i+1))
     else if x.code=7 then bindR (callM L f s x.name (x.args.map v.get)) fun n s=>goM L f s F (v.put x.dst (numV n)) (i+1)
     else if x.code=8 then okR (v.get x.a).n s
     else bindR (stepM v x s) fun v s=>goM L f s F v (i+1)
def callM (L:List Fm):Nat→RS→List UInt8→List V→RM Int
 | 0,_,_,_=>none
 | f+1,s,g,vs =>
   if s.calls=40 then stopR 5 s
   else bindR (goM L f { s with calls:=s.calls+1 } (fmGet L g) (fillP vs (fmGet L g).types.length) 0) fun n t=>okR n { t with calls:=t.calls-1 }
end
def runM (L:List Fm) (f:Nat) (given:List Int) (fuel:Nat):Option (Int×Int×List Int) :=
 match callM L f ⟨given,fuel,0,[],[]⟩ [109,97,105,110] [] with
 | some (.ok n,t)=>some (1,n,t.out)
 | some (.error (.stop w),t)=>some (w,0,t.out)
 | some (.error (.ret n),t)=>some (0,0,t.out)
 | none=>none
end Go.Proofs.YtnicpmoanjddbaaGreatDoor.MidP

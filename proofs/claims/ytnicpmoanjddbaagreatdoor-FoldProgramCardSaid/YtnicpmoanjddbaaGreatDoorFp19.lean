/- A part of what stands behind. -/
import Derived.Test.YtnicpmoanjddbaaGreatDoorFp17
set_option maxRecDepth 100000
set_option maxHeartbeats 4000000
set_option linter.all false
namespace Go.Proofs.YtnicpmoanjddbaaGreatDoor
namespace aW
open Go.RowKit aB Go.Proofs.Tryz
variable {L:List ar} {F G:ar} {x:ax} {v v':bp} {s:aC} {r l l2:List ax} {i f g k:Nat} {T:ar->ar} {p:Int} {vs:List V} {R:ar->List ax->bp->List ax->bp->Prop}
inductive Act where
 | go (l:List ax) (v:bp) (s:aC)
 | ret (n:Int) (s:aC)
 | stop (w:Int) (s:aC)
 | call (g:List UInt8) (vs:List V) (dst:Int) (l:List ax)
def jY (F:ar) (l:Int):List ax:=F.steps.drop (jD F l+1)
def Rz (r:List ax):cF bp->Act
 | some (.ok v,t)=>.go r v t
 | some (.error (.stop w),t)=>.stop w t
 | some (.error (.ret n),t)=>.stop 0 t
 | none=>.stop 0 ⟨[],0,0,[],[]⟩
def fE (F:ar) (v:bp) (x:ax) (r:List ax) (s:aC):Act :=
 if x.code=4 then .go (jY F x.label) v s
 else if x.code=5 then (if (v.get x.a).n=0 then .go (jY F x.label) v s else .go r v s)
 else if x.code=7 then .call x.name (x.args.map v.get) x.dst r
 else if x.code=8 then .ret (v.get x.a).n s
 else Rz r (cq v x s)
def Au (k:aC->bp->List ax->cF Int) (c:aC->List UInt8->List V->cF Int) (v:bp) (s:aC):Act->cF Int
 | .go l v2 s=>k s v2 l
 | .ret n s=>a6 n s
 | .stop w s=>eP w s
 | .call g vs d l=>aS (c s g vs) fun n s=>k s (v.put d (bN n)) l
def k9 (L:List ar):Nat->aC->ar->bp->List ax->cF Int
 | 0,_,_,_,_=>none
 | _+1,s,_,_,[]=>a6 0 s
 | f+1,s,F,v,x::r=>aS (eI s) fun _ s=>Au (fun s v l=>k9 L f s F v l) (dS L f) v s (fE F v x r s)
theorem CB (v:bp) (x:ax) (s:aC):(∃v2 t,cq v x s=some (.ok v2,t))\/(∃w t,cq v x s=some (.error (.stop w),t)):=by
 obtain⟨y,h⟩:∃y,cq v x s=y:=⟨_,rfl⟩;rw[h];unfold cq at h;split at h
 ·subst h;exact Or.inl ⟨_,_,rfl⟩
 split at h
 ·subst h;exact Or.inl ⟨_,_,rfl⟩
 split at h
 ·split at h
  ·subst h;exact Or.inr ⟨_,_,rfl⟩
  ·subst h;exact Or.inl ⟨_,_,rfl⟩
 split at h
 ·split at h
  ·subst h;exact Or.inr ⟨_,_,rfl⟩
  ·subst h;exact Or.inl ⟨_,_,rfl⟩
 split at h
 ·subst h;exact Or.inl ⟨_,_,rfl⟩
 split at h
 ·unfold cX at h
  split at h
  ·subst h;exact Or.inr ⟨_,_,rfl⟩
  ·subst h;exact Or.inl ⟨_,_,rfl⟩
 split at h
 ·unfold cX at h
  split at h
  ·subst h;exact Or.inr ⟨_,_,rfl⟩
  ·subst h;exact Or.inl ⟨_,_,rfl⟩
 split at h
 ·split at h
  ·subst h;exact Or.inr ⟨_,_,rfl⟩
  ·subst h;exact Or.inl ⟨_,_,rfl⟩
 split at h
 ·split at h
  ·subst h;exact Or.inl ⟨_,_,rfl⟩
  ·subst h;exact Or.inl ⟨_,_,rfl⟩
 ·subst h;exact Or.inl ⟨_,_,rfl⟩
theorem Mh (h:l.drop i=x::r):l[i]?=some x/\l.drop (i+1)=r:=by
 have h1:i<l.length:=by
  apply Decidable.byContradiction;intro hn;rw[List.drop_eq_nil_of_le (by omega)]at h;cases h
 rw[List.drop_eq_getElem_cons h1]at h;injection h with h2 h3
 exact⟨by rw[List.getElem?_eq_getElem h1,h2],h3⟩
theorem Fw (L:List ar):∀f s F v i,dw L f s F v i=k9 L f s F v (F.steps.drop i):=by
 intro f;induction f with
 | zero=>intro s F v i;rw[dw,k9]
 | succ f ih =>
   intro s F v i;rw[dw];cases hd:F.steps.drop i with
   | nil =>
     rw[k9];have:F.steps[i]?=none:=by
        rw[List.getElem?_eq_none_iff];exact List.drop_eq_nil_iff.1 hd
     rw[this]
   | cons x r =>
     obtain⟨h1,h2⟩:=Mh hd;rw[k9,h1];simp only
     congr 1
     funext _ t;unfold fE Au;by_cases e4:x.code=4
     ·simp only[if_pos e4];exact ih _ _ _ _
     simp only[if_neg e4];by_cases cG:x.code=5
     ·simp only[if_pos cG]
      by_cases e0:(v.get x.a).n=0
      ·simp only[if_pos e0];exact ih _ _ _ _
      ·simp only[if_neg e0];rw[ih,h2]
     simp only[if_neg cG];by_cases dv:x.code=7
     ·simp only[if_pos dv]
      congr 1
      funext n t2;rw[ih,h2]
     simp only[if_neg dv];by_cases dc:x.code=8
     ·simp only[if_pos dc]
     simp only[if_neg dc];rcases CB v x t with⟨v2,t2,h⟩|⟨w,t2,h⟩
     ·rw[h]
      simp only[aS,Rz];rw[ih,h2]
     ·rw[h];rfl
theorem Vz (h:f<=g):(∀s F v i,oK (dw L f s F v i) (dw L g s F v i))/\(∀s k vs,oK (dS L f s k vs) (dS L g s k vs)):=by
 obtain⟨k,rfl⟩:=Nat.exists_eq_add_of_le h;clear h;induction k with
 | zero=>exact⟨fun _ _ _ _=>oK.refl _,fun _ _ _=>oK.refl _⟩
 | succ k ih =>
   refine⟨fun s F v i y hy=>(VA L (f+k)).1 _ _ _ _ y (ih.1 _ _ _ _ y hy),fun s g vs y hy=>(VA L (f+k)).2 _ _ _ y (ih.2 _ _ _ y hy)⟩
def qL (t t':aC):Prop:=∃d,qK d True t t'
theorem qL.refl (t:aC):qL t t:=⟨0,rfl,rfl,rfl,rfl,fun _=>rfl⟩
theorem qL.trans {a b c:aC} (h:qL a b) (k:qL b c):qL a c:=by
 obtain⟨d,h1,h2,h3,h4,h5⟩:=h;obtain⟨e,k1,k2,k3,k4,gU⟩:=k;exact⟨d+e,by rw[k1,h1],by rw[k2,h2],by rw[k3,h3],by rw[k4,h4];omega,fun _=>by rw[gU trivial,h5 trivial]⟩
theorem Xg {m:List ax} (h:l <:+ m):∃i,l=m.drop i:=by
 obtain⟨p,rfl⟩:=h;exact⟨p.length,by simp⟩
theorem SX {s':aC} {r:Except cz Int} {t:aC} (hl:l <:+ F.steps) (h:k9 L f s F v l=some (r,t)) (hr:r≠.error (.stop 6)) (hs:qL s s'):∃t',k9 L f s' F v l=some (r,t')/\qL t t':=by
 obtain⟨i,rfl⟩:=Xg hl;obtain⟨d,hs⟩:=hs;rw[<-Fw]at h ⊢;rcases (ags (p:=True) trivial L f).1 s s' F v i hs _ h with⟨_,h1,_⟩|⟨t',h1,h2⟩
 ·exact absurd h1 hr
 ·exact⟨t',h1,d,h2⟩
theorem acG (h:f<=g) {y:Except cz Int×aC} (hl:l <:+ F.steps) (hy:k9 L f s F v l=some y):k9 L g s F v l=some y:=by
 obtain⟨i,rfl⟩:=Xg hl;rw[<-Fw]at hy ⊢;exact (Vz h).1 _ _ _ _ _ hy
def di (a:Int):Prop:=-9223372036854775808<=a/\a<=9223372036854775807
structure p4 (s:aC):Prop where
 bS:∀a∈s.bS,a.length<=40/\∀x∈a,di x
 inp:∀x∈s.inp,di x
structure oN (F:ar) (v:bp):Prop where
 len:v.length=F.types.length
 num:∀p,bO F p=1->(v.get p).arr=none/\di (v.get p).n
theorem agH (a:Int):di (wrap64 a):=by
 unfold di wrap64;omega
theorem rr (h:0<bO F p):0<=p/\p.toNat<F.types.length:=by
 unfold bO at h;split at h
 ·omega
 ·omega
theorem iY {q:Int} {x:V} (hp:0<=p/\p.toNat<v.length) (hq:0<=q):(v.put p x).get q=if q=p then x else v.get q:=by
 unfold bp.put bp.get;rw[List.getD_eq_getElem?_getD,List.getD_eq_getElem?_getD,List.getElem?_set];by_cases h:q=p
 ·subst h
  rw[if_pos rfl,if_pos rfl,if_pos hp.2];rfl
 ·rw[if_neg h,if_neg (by omega)]
theorem Kr (v:bp) (p:Int) (x:V):(v.put p x).length=v.length:=by
 unfold bp.put;rw[List.length_set]
theorem oN.put {F:ar} {v:bp} (h:oN F v) {p:Int} {x:V} (hp:0<bO F p) (hx:bO F p=1->x.arr=none/\di x.n):oN F (v.put p x):=by
 refine⟨by rw[Kr];exact h.len,fun q hq=>?_⟩;have h1:=rr hp;have h2:=rr (F:=F) (p:=q) (by omega);rw[iY (by rw[h.len];exact h1) h2.1];split
 ·rename_i e
  rw[e]at hq;exact hx hq
 ·exact h.num q hq
theorem L1 (h:p4 s) (v:V):(fF s v).length<=40/\∀x∈fF s v,di x:=by
 unfold fF;split
 ·rename_i i _
  rw[List.getD_eq_getElem?_getD];cases hg:s.bS[i]? with
  | none=>simp
  | some a=>exact h.bS a (List.mem_of_getElem? hg)
 ·simp
theorem ahG (h:p4 s) (v:V) (i x:Int) (hx:di x):p4 (ko s v i x):=by
 unfold ko;split
 ·rename_i k _
  refine⟨fun a ha=>?_,h.inp⟩;simp only at ha;rcases List.mem_or_eq_of_mem_set ha with ha|rfl
  ·exact h.bS a ha
  ·have h0:=L1 h ⟨0,some k⟩
   unfold fF at h0;simp only at h0;refine⟨by rw[List.length_set];exact h0.1,fun y hy=>?_⟩;rcases List.mem_or_eq_of_mem_set hy with hy|rfl
   ·exact h0.2 y hy
   ·exact hx
 ·exact h
structure H5 (F:ar) (x:ax):Prop where
 dst:(x.code=1\/x.code=3\/x.code=7\/x.code=10\/x.code=11\/x.code=14)->bO F x.dst=1
 Il:x.code=9->bO F x.dst=2
 copy:x.code=2->0<bO F x.dst/\bO F x.dst=bO F x.a
 a:(x.code=3\/x.code=5\/x.code=8\/x.code=9\/x.code=13)->bO F x.a=1
 C2:(x.code=10\/x.code=11\/x.code=12)->bO F x.a=2
 b:(x.code=3\/x.code=11\/x.code=12)->bO F x.b=1
 c:x.code=12->bO F x.c=1
 mH:(x.code=4\/x.code=5)->kf F x.label=true
 op:x.code=3->x.op∈ix
theorem Dh {t:Int} (h:bu F t p=true) (ht:0<t):bO F p=t:=by
 unfold bu at h;simp at h;omega
theorem uP (h:cx L F x=true):H5 F x/\(x.code=7->∃g,L.find? (fun g=>g.name==x.name)=some g/\(x.args.length:Int)=g.params/\x.args.map (bO F)=g.types.take x.args.length)/\1<=x.code/\x.code<=14:=by
 unfold cx at h;by_cases h2:x.code=2
 ·rw[if_pos h2]at h
  simp at h;exact⟨⟨by omega,by omega,fun _=>h,by omega,by omega,by omega,by omega,by omega,by omega⟩,by omega,by omega,by omega⟩
 rw[if_neg h2]at h;by_cases h7:x.code=7
 ·rw[if_pos h7]at h
  split at h
  ·cases h
  ·rename_i g hg
   simp at h;exact⟨⟨fun _=>h.1.2,by omega,by omega,by omega,by omega,by omega,by omega,by omega,by omega⟩,fun _=>⟨g,hg,h.1.1,h.2⟩,by omega,by omega⟩
 rw[if_neg h7]at h;split at h
 ·cases h
 rename_i hr;simp only[Bool.and_eq_true]at h;obtain⟨⟨⟨⟨⟨f0,f1⟩,f2⟩,f3⟩,hl⟩,ho⟩:=h;have hr:1<=x.code/\x.code<=14:=by omega
 have hl':(x.code=4\/x.code=5)->kf F x.label=true:=fun e=>by
  simp only[Bool.or_eq_true,Bool.not_eq_true',Bool.or_eq_false_iff,beq_eq_false_iff_ne,ne_eq]at hl;rcases hl with hl|hl
  ·omega
  ·exact hl
 have Gh:x.code=3->x.op∈ix:=fun e=>by
  rw[e]at ho;simpa using ho
 refine⟨⟨fun e=>?_,fun e=>?_,by omega,fun e=>?_,fun e=>?_,fun e=>?_,fun e=>?_,hl',Gh⟩,by omega,hr⟩
 ·exact Dh (t:=1) (by rcases e with e|e|e|e|e|e <;> first|omega|(rw[e]at f0;exact f0)) (by decide)
 ·exact Dh (t:=2) (by rw[e]at f0;exact f0) (by decide)
 ·exact Dh (t:=1) (by rcases e with e|e|e|e|e <;> (rw[e]at f1;exact f1)) (by decide)
 ·exact Dh (t:=2) (by rcases e with e|e|e <;> (rw[e]at f1;exact f1)) (by decide)
 ·exact Dh (t:=1) (by rcases e with e|e|e <;> (rw[e]at f2;exact f2)) (by decide)
 ·exact Dh (t:=1) (by rw[e]at f3;exact f3) (by decide)
theorem RY {op:List UInt8} {a b:Int} (ha:di a) (hb:di b):di (dA op a b).1:=by
 have h1:∀c:Bool,di (cj c):=fun c=>by unfold cj di;split <;> omega
 unfold dA
 repeat' split
 all_goals first|exact agH _|exact h1 _|skip
 ·unfold di;simp
 ·have h2:=Int.natAbs_tmod a b
  have h3:(a.tmod b).natAbs<=a.natAbs:=by rw[h2];exact Nat.mod_le _ _
  unfold di at *;rename_i hn _ _ _;have h4:(a.tmod b)≠9223372036854775808:=by
   intro e;by_cases hp:0<=a
   ·omega
   ·have h5:=Int.tmod_add_mul_tdiv a b
    have h6:a.tmod b=-((-a).tmod b):=(by rw[Int.neg_tmod];omega);have h7:=Int.tmod_nonneg b (show 0≤-a by omega);omega
  omega
 ·unfold di;simp
theorem PH {L:List ar} (hr:H5 F x) (hn:di x.n) (hv:oN F v) (hs:p4 s) {y:Except cz bp×aC} (h:cq v x s=some y):p4 y.2/\∀v2,y.1=.ok v2->oN F v2:=by
 unfold cq at h;have one:∀ {p:Int},bO F p=1->0<bO F p:=fun h=>by omega
 by_cases e:x.code=1
 ·rw[if_pos e]at h
  obtain rfl:=(Option.some.inj h).symm;exact⟨hs,fun v2 h2=>by cases h2;exact hv.put (one (hr.dst (Or.inl e))) fun _=>⟨rfl,hn⟩⟩
 rw[if_neg e]at h;clear e;by_cases e:x.code=2
 ·rw[if_pos e]at h
  obtain rfl:=(Option.some.inj h).symm;exact⟨hs,fun v2 h2=>by cases h2;exact hv.put (hr.copy e).1 fun hk=>hv.num _ (by rw[<-(hr.copy e).2];exact hk)⟩
 rw[if_neg e]at h;clear e;by_cases e:x.code=3
 ·rw[if_pos e]at h
  split at h
  ·obtain rfl:=(Option.some.inj h).symm
   exact⟨hs,fun v2 h2=>by cases h2⟩
  ·obtain rfl:=(Option.some.inj h).symm
   exact⟨hs,fun v2 h2=>by cases h2;exact hv.put (one (hr.dst (by omega))) fun _=>⟨rfl,RY (hv.num _ (hr.a (by omega))).2 (hv.num _ (hr.b (by omega))).2⟩⟩
 rw[if_neg e]at h;clear e;by_cases e:x.code=9
 ·rw[if_pos e]at h
  split at h
  ·obtain rfl:=(Option.some.inj h).symm
   exact⟨hs,fun v2 h2=>by cases h2⟩
  ·rename_i hb
   obtain rfl:=(Option.some.inj h).symm;refine⟨⟨fun a ha=>?_,hs.inp⟩,fun v2 h2=>by cases h2;exact hv.put (by have:=hr.Il e;omega) fun hk=>by have:=hr.Il e;omega⟩;simp only[List.mem_append,List.mem_singleton]at ha;rcases ha with ha|rfl
   ·exact hs.bS a ha
   ·refine⟨by rw[List.length_replicate];omega,fun y hy=>?_⟩
    rw[List.eq_of_mem_replicate hy];unfold di;omega
 rw[if_neg e]at h;clear e;by_cases e:x.code=10
 ·rw[if_pos e]at h
  obtain rfl:=(Option.some.inj h).symm;refine⟨hs,fun v2 h2=>?_⟩;cases h2;refine hv.put (one (hr.dst (by omega))) fun _=>⟨rfl,?_⟩
  have:=(L1 hs (v.get x.a)).1
  show di ((fF s (v.get x.a)).length:Int)
  unfold di;omega
 rw[if_neg e]at h;clear e;by_cases e:x.code=11
 ·rw[if_pos e]at h
  unfold cX at h;split at h
  ·obtain rfl:=(Option.some.inj h).symm
   exact⟨hs,fun v2 h2=>by cases h2⟩
  ·rename_i hb
   obtain rfl:=(Option.some.inj h).symm;refine⟨hs,fun v2 h2=>?_⟩;cases h2;refine hv.put (one (hr.dst (by omega))) fun _=>⟨rfl,?_⟩
   refine (L1 hs (v.get x.a)).2 _ ?_;rw[List.getD_eq_getElem?_getD,List.getElem?_eq_getElem (by omega)];exact List.getElem_mem _
 rw[if_neg e]at h;clear e;by_cases e:x.code=12
 ·rw[if_pos e]at h
  unfold cX at h;split at h
  ·obtain rfl:=(Option.some.inj h).symm
   exact⟨hs,fun v2 h2=>by cases h2⟩
  ·obtain rfl:=(Option.some.inj h).symm
   exact⟨ahG hs _ _ _ (hv.num _ (hr.c e)).2,fun v2 h2=>by cases h2;exact hv⟩
 rw[if_neg e]at h;clear e;by_cases e:x.code=13
 ·rw[if_pos e]at h
  split at h
  ·obtain rfl:=(Option.some.inj h).symm
   exact⟨hs,fun v2 h2=>by cases h2⟩
  ·obtain rfl:=(Option.some.inj h).symm
   exact⟨⟨hs.bS,hs.inp⟩,fun v2 h2=>by cases h2;exact hv⟩
 rw[if_neg e]at h;clear e;by_cases e:x.code=14
 ·rw[if_pos e]at h
  split at h
  ·obtain rfl:=(Option.some.inj h).symm
   exact⟨hs,fun v2 h2=>by cases h2;exact hv.put (one (hr.dst (by omega))) fun _=>⟨rfl,by show di 0;unfold di;omega⟩⟩
  ·rename_i n r hi
   obtain rfl:=(Option.some.inj h).symm;refine⟨⟨hs.bS,fun y hy=>hs.inp y (by rw[hi];exact List.mem_cons_of_mem _ hy)⟩,fun v2 h2=>by cases h2;exact hv.put (one (hr.dst (by omega))) fun _=>⟨rfl,hs.inp n (by rw[hi];exact List.mem_cons_self)⟩⟩
 rw[if_neg e]at h;obtain rfl:=(Option.some.inj h).symm;exact⟨hs,fun v2 h2=>by cases h2;exact hv⟩
structure Bi (L:List ar) (F:ar):Prop where
 ahs:0<=F.params/\F.params<=F.types.length
 steps:∀x∈F.steps,cx L F x=true
 uK:∀x∈F.steps,di x.n
def E_ (G:ar) (vs:List V):Prop:=(vs.length:Int)=G.params/\∀ (i:Nat) (y:V),vs[i]?=some y->G.types[i]?=some 1->y.arr=none/\di y.n
theorem Mp (hG:Bi L G) (h:E_ G vs):oN G (gR vs G.types.length):=by
 have hp:=hG.ahs;have hl:=h.1;have hle:vs.length<=G.types.length:=by omega
 unfold gR;rw[List.take_of_length_le hle];refine⟨by simp;omega,fun p hk=>?_⟩;have h1:=rr (F:=G) (p:=p) (by omega);unfold bO at hk;rw[if_neg (by omega),List.getD_eq_getElem?_getD,List.getElem?_eq_getElem h1.2]at hk;unfold bp.get;rw[List.getD_eq_getElem?_getD];by_cases hi:p.toNat<vs.length
 ·rw[List.getElem?_append_left hi,List.getElem?_eq_getElem hi]
  exact h.2 p.toNat _ (List.getElem?_eq_getElem hi) (by rw[List.getElem?_eq_getElem h1.2];exact congrArg some hk)
 ·rw[List.getElem?_append_right (by omega),List.getElem?_replicate]
  rw[if_pos (by omega)];exact⟨rfl,by show di 0;unfold di;omega⟩
theorem RM {L:List ar} (hl:(x.args.length:Int)=G.params) (hk:x.args.map (bO F)=G.types.take x.args.length) (hv:oN F v):E_ G (x.args.map v.get):=by
 refine⟨by rw[List.length_map];exact hl,fun i y hy ht=>?_⟩;rw[List.getElem?_map]at hy;cases ha:x.args[i]? with
 | none=>rw[ha]at hy;cases hy
 | some p =>
   rw[ha]at hy;obtain rfl:=(Option.some.inj hy).symm;refine hv.num p ?_;have hi:i<x.args.length:=(List.getElem?_eq_some_iff.1 ha).1;have h1:(x.args.map (bO F))[i]?=some (bO F p):=(by rw[List.getElem?_map,ha];rfl);rw[hk,List.getElem?_take_of_lt hi,ht]at h1;exact (Option.some.inj h1).symm
theorem SE {g:List UInt8} (h:L.find? (fun f=>f.name==g)=some G):kI L g=G/\G∈L:=by
 unfold kI oh;rw[h];exact⟨rfl,List.mem_of_find?_eq_some h⟩
theorem aax (hL:∀F∈L,Bi L F):∀f,(∀s F v l,F∈L->l <:+ F.steps->p4 s->oN F v->∀y,k9 L f s F v l=some y->p4 y.2/\∀n,y.1=.ok n->di n)/\(∀s g vs,p4 s->(∃G,L.find? (fun f=>f.name==g)=some G/\E_ G vs)->∀y,dS L f s g vs=some y->p4 y.2/\∀n,y.1=.ok n->di n):=by
 intro f;induction f with
 | zero=>exact⟨(fun s F v l _ _ _ _ y hy=>by rw[k9]at hy;cases hy),(fun s g vs _ _ y hy=>by rw[dS]at hy;cases hy)⟩
 | succ f ih =>
   obtain⟨i1,i2⟩:=ih;refine⟨fun s F v l hF hl hs hv y hy=>?_,fun s g vs hs hg y hy=>?_⟩
   ·cases l with
    | nil =>
      rw[k9]at hy;obtain rfl:=(Option.some.inj hy).symm;exact⟨hs,fun n hn=>by cases hn;unfold di;omega⟩
    | cons x r =>
      have fp:x∈F.steps:=hl.subset List.mem_cons_self;have uD:r <:+ F.steps:=List.IsSuffix.trans (List.suffix_cons x r) hl;have z6:∀k,jY F k <:+ F.steps:=fun k=>List.drop_suffix _ _
      obtain⟨hr,hc,-,-⟩:=uP ((hL F hF).steps x fp);rw[k9]at hy;unfold eI at hy;split at hy
      ·obtain rfl:=(Option.some.inj hy).symm
       exact⟨hs,fun n hn=>by cases hn⟩
      simp only[aS,a6]at hy;generalize hs1:({ s with fuel:=s.fuel-1 }:aC)=s1 at hy;have kM:p4 s1:=(by rw[<-hs1];exact⟨hs.bS,hs.inp⟩);unfold fE Au at hy;by_cases e:x.code=4
      ·simp only[if_pos e]at hy;exact i1 _ _ _ _ hF (z6 _) kM hv y hy
      simp only[if_neg e]at hy;clear e;by_cases e:x.code=5
      ·simp only[if_pos e]at hy
       by_cases e0:(v.get x.a).n=0
       ·simp only[if_pos e0]at hy;exact i1 _ _ _ _ hF (z6 _) kM hv y hy
       ·simp only[if_neg e0]at hy;exact i1 _ _ _ _ hF uD kM hv y hy
      simp only[if_neg e]at hy;clear e;by_cases e:x.code=7
      ·simp only[if_pos e]at hy
       obtain⟨G,hG,hlen,hk⟩:=hc e;have ha:=RM (L:=L) hlen hk hv;rcases oq:dS L f s1 x.name (x.args.map v.get) with _|⟨w|n,t⟩
       ·rw[oq]at hy;cases hy
       ·rw[oq]at hy
        obtain rfl:=(Option.some.inj hy).symm;exact⟨(i2 _ _ _ kM ⟨G,hG,ha⟩ _ oq).1,fun n hn=>by cases hn⟩
       ·rw[oq]at hy
        have h3:=i2 _ _ _ kM ⟨G,hG,ha⟩ _ oq;exact i1 _ _ _ _ hF uD h3.1 (hv.put (by have:=hr.dst (by omega);omega) fun _=>⟨rfl,h3.2 n rfl⟩) y hy
      simp only[if_neg e]at hy;clear e;by_cases e:x.code=8
      ·simp only[if_pos e]at hy
       obtain rfl:=(Option.some.inj hy).symm;exact⟨kM,fun n hn=>by cases hn;exact (hv.num _ (hr.a (by omega))).2⟩
      simp only[if_neg e]at hy;rcases CB v x s1 with⟨v2,t2,h⟩|⟨w,t2,h⟩
      ·have h4:=PH (L:=L) hr ((hL F hF).uK x fp) hv kM h
       rw[h]at hy;exact i1 _ _ _ _ hF uD h4.1 (h4.2 v2 rfl) y hy
      ·have h4:=PH (L:=L) hr ((hL F hF).uK x fp) hv kM h
       rw[h]at hy;obtain rfl:=(Option.some.inj hy).symm;exact⟨h4.1,fun n hn=>by cases hn⟩
   ·rw[dS]at hy
    split at hy
    ·obtain rfl:=(Option.some.inj hy).symm
     exact⟨hs,fun n hn=>by cases hn⟩
    obtain⟨G,hG,ha⟩:=hg;obtain⟨si,yu⟩:=SE hG;rw[si,Fw]at hy;have h3:=i1 { s with calls:=s.calls+1 } G (gR vs G.types.length) _ yu (List.drop_suffix 0 _) ⟨hs.bS,hs.inp⟩ (Mp (hL G yu) ha);rcases hb:k9 L f { s with calls:=s.calls+1 } G (gR vs G.types.length) (G.steps.drop 0) with _|⟨w|n,t⟩
    ·rw[hb]at hy;cases hy
    ·rw[hb]at hy
     obtain rfl:=(Option.some.inj hy).symm;exact⟨(h3 _ hb).1,fun n hn=>by cases hn⟩
    ·rw[hb]at hy
     obtain rfl:=(Option.some.inj hy).symm;exact⟨⟨(h3 _ hb).1.bS,(h3 _ hb).1.inp⟩,fun n' hn=>by cases hn;exact (h3 _ hb).2 n rfl⟩
inductive jl (R:List ax->bp->List ax->bp->Prop) (v v':bp):Act->Act->Prop where
 | go {l l':List ax} {v2 XD:bp} {s:aC}:R l v2 l' XD->jl R v v' (.go l v2 s) (.go l' XD s)
 | ret (n:Int) (s:aC):jl R v v' (.ret n s) (.ret n s)
 | stop (w:Int) (s:aC):jl R v v' (.stop w s) (.stop w s)
 | call {g:List UInt8} {vs:List V} {d d':Int} {l l':List ax}:(∀n,R l (v.put d (bN n)) l' (v'.put d' (bN n)))->jl R v v' (.call g vs d l) (.call g vs d' l')
structure Bk (F F':ar) (R:List ax->bp->List ax->bp->Prop):Prop where
 start:∀v,oN F v->R F.steps v F'.steps v
 nil:∀v l' v',R [] v l' v'->l'=[]
 step:∀x r v l' v' s,R (x::r) v l' v'->x::r <:+ F.steps->oN F v->p4 s ->
  (∃l2 v2,fE F v x r s=.go l2 v2 s/\R l2 v2 l' v')\/(∃x' r',l'=x'::r'/\jl R v v' (fE F v x r s) (fE F' v' x' r' s))
structure Pass (T:ar->ar):Prop where
 name:∀F,(T F).name=F.name
 types:∀F,(T F).types=F.types
 params:∀F,(T F).params=F.params
theorem Pass.find {T:ar->ar} (h:Pass T) (L:List ar) (g:List UInt8):(L.map T).find? (fun f=>f.name==g)=(L.find? (fun f=>f.name==g)).map T:=by
 rw[List.find?_map]
 congr 2
 funext f;simp[h.name]
theorem RE (hF:Bi L F) (hl:x::r <:+ F.steps) (hv:oN F v) (hs:p4 s) {v2:bp} {s2:aC} (h:fE F v x r s=.go l2 v2 s2):l2 <:+ F.steps/\oN F v2/\p4 s2:=by
 have fp:x∈F.steps:=hl.subset List.mem_cons_self;have uD:r <:+ F.steps:=List.IsSuffix.trans (List.suffix_cons x r) hl;have z6:∀k,jY F k <:+ F.steps:=fun k=>List.drop_suffix _ _
 obtain⟨hr,-,-,-⟩:=uP (hF.steps x fp);unfold fE at h;split at h
 ·injection h with h1 h2 h3;subst h1 h2 h3;exact⟨z6 _,hv,hs⟩
 split at h
 ·split at h
  ·injection h with h1 h2 h3;subst h1 h2 h3;exact⟨z6 _,hv,hs⟩
  ·injection h with h1 h2 h3;subst h1 h2 h3;exact⟨uD,hv,hs⟩
 split at h
 ·cases h
 split at h
 ·cases h
 rcases CB v x s with⟨v3,t3,h3⟩|⟨w,t3,h3⟩
 ·rw[h3]at h
  injection h with h1 h2 h4;subst h1 h2 h4
  have h5:=PH (L:=L) hr (hF.uK x fp) hv hs h3;exact⟨uD,h5.2 _ rfl,h5.1⟩
 ·rw[h3]at h;cases h
theorem RD (hl:x::r <:+ F.steps):(∀l2 v2 s2,fE F v x r s=.go l2 v2 s2->l2 <:+ F.steps)/\(∀g vs d l2,fE F v x r s=.call g vs d l2->l2 <:+ F.steps):=by
 have uD:r <:+ F.steps:=List.IsSuffix.trans (List.suffix_cons x r) hl;have z6:∀k,jY F k <:+ F.steps:=fun k=>List.drop_suffix _ _
 refine⟨fun l2 v2 s2 h=>?_,fun g vs d l2 h=>?_⟩
 ·unfold fE at h
  split at h
  ·injection h with h1 h2 h3;subst h1;exact z6 _
  split at h
  ·split at h
   ·injection h with h1 h2 h3;subst h1;exact z6 _
   ·injection h with h1 h2 h3;subst h1;exact uD
  split at h
  ·cases h
  split at h
  ·cases h
  rcases CB v x s with⟨v3,t3,h3⟩|⟨w,t3,h3⟩
  ·rw[h3]at h
   injection h with h1 h2 h4;subst h1;exact uD
  ·rw[h3]at h;cases h
 ·unfold fE at h
  split at h
  ·cases h
  split at h
  ·split at h <;> cases h
  split at h
  ·injection h with h1 h2 h3 h4;subst h4;exact uD
  split at h
  ·cases h
  rcases CB v x s with⟨v3,t3,h3⟩|⟨w,t3,h3⟩
  ·rw[h3]at h;cases h
  ·rw[h3]at h;cases h
theorem ZN (hF:Bi L F) (hl:x::r <:+ F.steps) (hv:oN F v) {g:List UInt8} {d:Int} (h:fE F v x r s=.call g vs d l2):l2 <:+ F.steps/\(∃G,L.find? (fun f=>f.name==g)=some G/\E_ G vs)/\∀n,di n->oN F (v.put d (bN n)):=by
 have fp:x∈F.steps:=hl.subset List.mem_cons_self;have uD:r <:+ F.steps:=List.IsSuffix.trans (List.suffix_cons x r) hl;obtain⟨hr,hc,-,-⟩:=uP (hF.steps x fp);unfold fE at h;split at h
 ·cases h
 split at h
 ·split at h <;> cases h
 split at h
 ·rename_i e
  injection h with h1 h2 h3 h4
  subst h1 h2 h3 h4;obtain⟨G,hG,hlen,hk⟩:=hc e;exact⟨uD,⟨G,hG,RM (L:=L) hlen hk hv⟩,fun n hn=>hv.put (by have:=hr.dst (by omega);omega) fun _=>⟨rfl,hn⟩⟩
 split at h
 ·cases h
 rcases CB v x s with⟨v3,t3,h3⟩|⟨w,t3,h3⟩
 ·rw[h3]at h;cases h
 ·rw[h3]at h;cases h
theorem aiS (hT:Pass T) (hL:∀F∈L,Bi L F) (hR:∀F∈L,Bk F (T F) (R F)):∀f,
 (∀s F v l v' l',F∈L->l <:+ F.steps->l' <:+ (T F).steps->p4 s->oN F v->R F l v l' v'->∀r t,k9 L f s F v l=some (r,t)->r≠.error (.stop 6)->∃f' t',k9 (L.map T) f' s (T F) v' l'=some (r,t')/\qL t t')/\
 (∀s g vs,p4 s->(∃G,L.find? (fun f=>f.name==g)=some G/\E_ G vs)->∀r t,dS L f s g vs=some (r,t)->r≠.error (.stop 6)->∃f' t',dS (L.map T) f' s g vs=some (r,t')/\qL t t'):=by
 intro f;induction f with
 | zero=>exact⟨(fun s F v l v' l' _ _ _ _ _ _ r t h=>by rw[k9]at h;cases h),(fun s g vs _ _ r t h=>by rw[dS]at h;cases h)⟩
 | succ f ih =>
   obtain⟨i1,i2⟩:=ih;refine⟨fun s F v l v' l' hF hl hl' hs hv Dm r t h hr=>?_,fun s g vs hs hg r t h hr=>?_⟩
   ·cases l with
    | nil =>
      rw[k9]at h;obtain rfl:=(hR F hF).nil _ _ _ Dm;injection h with h
      injection h with h1 h2
      subst h1 h2;exact⟨1,s,by rw[k9];rfl,qL.refl _⟩
    | cons x mL =>
      rw[k9]at h;unfold eI at h;split at h
      ·injection h with h
       injection h with h1 h2
       exact absurd h1.symm hr
      rename_i yy;simp only[aS,a6]at h;generalize hs1:({ s with fuel:=s.fuel-1 }:aC)=s1 at h;have kM:p4 s1:=(by rw[<-hs1];exact⟨hs.bS,hs.inp⟩);have hlk:qL s1 s:=⟨1,by rw[<-hs1],by rw[<-hs1],by rw[<-hs1],by rw[<-hs1];simp only;omega,fun _=>by rw[<-hs1]⟩;have hst:eI s=a6 () s1:=(by unfold eI;rw[if_neg yy,hs1]);rcases (hR F hF).step x mL v l' v' s1 Dm hl hv kM with⟨l2,v2,ha,h2⟩|⟨x',r',rfl,ha⟩
      ·obtain⟨hl2,hv2,-⟩:=RE (hL F hF) hl hv kM ha
       rw[ha]at h;simp only[Au]at h;obtain⟨f',t',h3,h4⟩:=i1 s1 F v2 l2 v' l' hF hl2 hl' kM hv2 h2 r t h hr;obtain⟨t2,h5,h6⟩:=SX hl' h3 hr hlk;exact⟨f',t2,h5,h4.trans h6⟩
      ·generalize hA:fE F v x mL s1=A at ha h
       generalize MC:fE (T F) v' x' r' s1=aK at ha;have hgo:∀f',k9 (L.map T) (f'+1) s (T F) v' (x'::r')=Au (fun s v l=>k9 (L.map T) f' s (T F) v l) (dS (L.map T) f') v' s1 aK:=fun f'=>by
          rw[k9];simp only[hst,a6,aS,MC]
       cases ha with
       | go hr2 =>
         obtain⟨hl2,hv2,hs2⟩:=RE (hL F hF) hl hv kM hA;obtain⟨f',t',h3,h4⟩:=i1 _ F _ _ _ _ hF hl2 ((RD hl').1 _ _ _ MC) hs2 hv2 hr2 r t h hr;exact⟨f'+1,t',by rw[hgo];exact h3,h4⟩
       | ret n s2=>exact⟨1,t,by rw[hgo];exact h,qL.refl _⟩
       | stop w s2=>exact⟨1,t,by rw[hgo];exact h,qL.refl _⟩
       | call hr2 =>
         obtain⟨hl2,hg,hn⟩:=ZN (hL F hF) hl hv hA;simp only[Au]at h;rename_i g vs d d' l2 amU;rcases hc:dS L f s1 g vs with _|⟨w|n,t2⟩
         ·rw[hc]at h;cases h
         ·rw[hc]at h
          injection h with h
          injection h with h1 h2
          subst h1 h2;obtain⟨f',t',h3,h4⟩:=i2 s1 g vs kM hg (.error w) t2 hc (fun e=>hr (by cases e;rfl));exact⟨f'+1,t',by rw[hgo];simp only[Au];rw[h3];rfl,h4⟩
         ·rw[hc]at h
          have hk:=(aax hL f).2 s1 g vs kM hg _ hc;obtain⟨f',t',h3,h4⟩:=i2 s1 g vs kM hg (.ok n) t2 hc (fun e=>by cases e);have N8:=(RD hl').2 _ _ _ _ MC;obtain⟨f2,t3,h5,h6⟩:=i1 t2 F _ _ _ _ hF hl2 N8 hk.1 (hn n (hk.2 n rfl)) (hr2 n) r t h hr;obtain⟨t4,h7,h8⟩:=SX N8 h5 hr h4;refine⟨max f' f2+1,t4,?_,h6.trans h8⟩;rw[hgo];simp only[Au];rw[(Vz (Nat.le_max_left f' f2)).2 _ _ _ _ h3];exact acG (Nat.le_max_right f' f2) N8 h7
   ·rw[dS]at h
    obtain⟨G,hG,ha⟩:=hg;obtain⟨si,yu⟩:=SE hG;have adM:kI (L.map T) g=T G:=by
        unfold kI oh;rw[hT.find,hG];rfl
    split at h
    ·rename_i oU
     injection h with h
     injection h with h1 h2
     subst h1 h2;exact⟨1,s,by rw[dS,if_pos oU];rfl,qL.refl _⟩
    ·rename_i oU
     rw[si,Fw]at h;have h3:=i1 { s with calls:=s.calls+1 } G (gR vs G.types.length) (G.steps.drop 0) (gR vs G.types.length) ((T G).steps.drop 0) yu (List.drop_suffix 0 _) (List.drop_suffix 0 _) ⟨hs.bS,hs.inp⟩ (Mp (hL G yu) ha) (by rw[List.drop_zero,List.drop_zero];exact (hR G yu).start _ (Mp (hL G yu) ha));have hgo:∀f',dS (L.map T) (f'+1) s g vs=aS (k9 (L.map T) f' { s with calls:=s.calls+1 } (T G) (gR vs G.types.length) ((T G).steps.drop 0)) fun n t=>a6 n { t with calls:=t.calls-1 }:=fun f'=>by
       rw[dS,if_neg oU,adM,hT.types,Fw]
     rcases hb:k9 L f { s with calls:=s.calls+1 } G (gR vs G.types.length) (G.steps.drop 0) with _|⟨w|n,t2⟩
     ·rw[hb]at h;cases h
     ·rw[hb]at h
      injection h with h
      injection h with h1 h2
      subst h1 h2;obtain⟨f',t',h5,h6⟩:=h3 _ _ hb (fun e=>hr (by cases e;rfl));exact⟨f'+1,t',by rw[hgo,h5];rfl,h6⟩
     ·rw[hb]at h
      injection h with h
      injection h with h1 h2
      subst h1 h2;obtain⟨f',t',h5,d,k1,k2,k3,k4,gU⟩:=h3 _ _ hb (fun e=>by cases e);exact⟨f'+1,{ t' with calls:=t'.calls-1 },by rw[hgo,h5];rfl,d,by simp only[k1],k2,k3,k4,gU⟩
theorem GU (hT:Pass T) (hL:∀F∈L,Bi L F) (hR:∀F∈L,Bk F (T F) (R F)) (hm:∃G,L.find? (fun f=>f.name==[109,97,105,110])=some G/\G.params=0)
 {given:List Int} (vS:∀x∈given,di x) {fuel:Nat} {x:Int×Int×List Int} (h:runM L f given fuel=some x) (h6:x.1≠6):∃f',runM (L.map T) f' given fuel=some x:=by
 rw[Pr]at h;obtain⟨G,hG,hp⟩:=hm;rcases hc:dS L f ⟨given,fuel,0,[],[]⟩ [109,97,105,110] [] with _|⟨r,t⟩
 ·rw[hc]at h;cases h
 ·rw[hc]at h
  obtain rfl:=(Option.some.inj h).symm;obtain⟨f',t',h1,d,h2⟩:=(aiS hT hL hR f).2 ⟨given,fuel,0,[],[]⟩ [109,97,105,110] [] ⟨(fun a ha=>by cases ha),vS⟩ ⟨G,hG,by rw[hp];rfl,fun i y hy=>by simp at hy⟩ r t hc (fun e=>by subst e;exact h6 rfl);refine⟨f',?_⟩;rw[Pr,h1];have:yh (r,t')=yh (r,t):=by
   rcases r with (w|n)|n <;> simp only[yh,h2.out]
  show some (yh (r,t'))=_
  rw[this]
def Oy (l:Int) (s:ax):Bool:=s.code==6 && s.label==l
def Be (l:Int) (m:List ax):Prop:=∀s∈m,Oy l s=false
def ct (m:List ax):List Int:=(m.filter (fun s=>s.code==6)).map (fun s=>s.label)
theorem o0 (a b:List ax):ct (a++b)=ct a++ct b:=by unfold ct;rw[List.filter_append,List.map_append]
theorem tE (s:ax) (r:List ax):ct (s::r)=(if s.code=6 then [s.label] else [])++ct r:=by
 unfold ct;rw[List.filter_cons];by_cases h:s.code=6 <;> simp[h]
theorem xF (l:Int) (m:List ax):Be l m↔l ∉ ct m:=by
 unfold Be ct Oy;simp only[List.mem_map,List.mem_filter,not_exists,not_and];constructor
 ·intro h s hs e
  have:=h s hs.1;simp at this;exact this (by simpa using hs.2) e
 ·intro h s hs
  have:=h s;simp only[Bool.and_eq_false_iff,beq_eq_false_iff_ne,ne_eq];by_cases h6:s.code=6
  ·exact Or.inr (this ⟨hs,by simp[h6]⟩)
  ·exact Or.inl h6
theorem M3 (F:ar) (l:Int):kf F l=true↔l∈ct F.steps:=by
 unfold kf ct;simp[List.any_eq_true,and_assoc]
theorem DZ {l:Int}:(m:List ax)->l∈ct m->∃pre x post,m=pre++x::post/\x.code=6/\x.label=l/\Be l post
 | [],h=>by simp[ct]at h
 | s::r,h=>by
   by_cases hr:l∈ct r
   ·obtain⟨pre,x,post,h1,h2⟩:=DZ r hr
    exact⟨s::pre,x,post,by rw[h1];rfl,h2⟩
   ·rw[tE]at h
    rcases List.mem_append.1 h with h|h
    ·split at h
     ·rename_i h6
      simp only[List.mem_singleton]at h;exact⟨[],s,r,rfl,h6,h.symm,(xF _ _).2 hr⟩
     ·cases h
    ·exact absurd h hr
theorem Vu {l:Int}:(m:List ax)->Be l m->∀i k,fq m l i k=k
 | [],_,_,_=>rfl
 | s::r,h,i,k=>by
   rw[fq];have h1:=h s List.mem_cons_self;unfold Oy at h1;rw[if_neg (by simpa using h1)];exact Vu r (fun t ht=>h t (List.mem_cons_of_mem _ ht)) _ _
theorem Vw {l:Int} {x:ax} {post:List ax} (hx:x.code=6/\x.label=l) (hp:Be l post):(pre:List ax)->∀i k,fq (pre++x::post) l i k=i+pre.length
 | [],i,k=>by
   rw[List.nil_append,fq,if_pos hx,Vu _ hp];rfl
 | s::r,i,k=>by
   rw[List.cons_append,fq,Vw hx hp r];simp only[List.length_cons];omega
theorem wu {l:Int} {pre post:List ax} (h:F.steps=pre++x::post) (hx:x.code=6/\x.label=l) (hp:Be l post):jD F l=pre.length/\jY F l=post:=by
 have h1:jD F l=pre.length:=by
  unfold jD;rw[h,Vw hx hp];omega
 refine⟨h1,?_⟩;unfold jY;rw[h1,h];have:pre++x::post=(pre++[x])++post:=by simp
 rw[this,List.drop_left' (by simp)]
theorem Ki:(m:List ax)->∀T,nU T m=true↔(∀l∈ct m,l ∉ T)/\(ct m).Nodup
 | [],T=>by simp[nU,ct]
 | s::r,T=>by
   rw[nU,tE];by_cases h6:s.code=6
   ·rw[if_pos h6,if_pos h6]
    by_cases hc:T.contains s.label=true
    ·rw[if_pos hc]
     simp only[Bool.false_eq_true,false_iff,not_and];intro h;exact absurd (by simpa using hc) (h s.label (by simp))
    ·rw[if_neg hc,Ki r]
     have hc2:s.label ∉ T:=fun e=>hc (by simpa using e)
     show (∀l∈ct r,l ∉ T++[s.label])/\(ct r).Nodup↔(∀l∈s.label::ct r,l ∉ T)/\(s.label::ct r).Nodup
     rw[List.nodup_cons];constructor
     ·rintro⟨h1,h2⟩
      refine⟨fun l hl=>?_,fun h=>h1 _ h (by simp),h2⟩;rcases List.mem_cons.1 hl with e|h
      ·rw[e];exact hc2
      ·exact fun e=>h1 l h (by simp[e])
     ·rintro⟨h1,h2,h3⟩
      refine⟨fun l hl e=>?_,h3⟩;rcases List.mem_append.1 e with e|e
      ·exact h1 l (List.mem_cons_of_mem _ hl) e
      ·rw[List.mem_singleton]at e
       exact h2 (e ▸ hl)
   ·rw[if_neg h6,if_neg h6,Ki r]
    simp
structure jZ (L:List ar) (F:ar):Prop where
 types:F.types.length<=3000
 pos:1<=F.steps.length
 len:F.steps.length<=6000
 last:∃s,F.steps.getLast?=some s/\(s.code=8\/s.code=4)
 kinds:∀t∈F.types,t=1\/t=2
 once:(ct F.steps).Nodup
 steps:∀x∈F.steps,cx L F x=true
theorem Ms (L:List ar) (F:ar):l4 L F=true↔jZ L F:=by
 unfold l4;simp only[Bool.and_eq_true,decide_eq_true_eq,List.all_eq_true,Bool.or_eq_true,beq_iff_eq];constructor
 ·rintro⟨⟨⟨⟨⟨⟨h1,h2⟩,h3⟩,h4⟩,h5⟩,h6⟩,h7⟩
  refine⟨h1,h2,h3,?_,h5,((Ki _ _).1 h6).2,h7⟩;split at h4
  ·rename_i s hs
   simp at h4;exact⟨s,hs,h4⟩
  ·cases h4
 ·rintro⟨h1,h2,h3,⟨s,hs,h4⟩,h5,h6,h7⟩
  refine⟨⟨⟨⟨⟨⟨h1,h2⟩,h3⟩,?_⟩,h5⟩,(Ki _ _).2 ⟨(fun l _ h=>by cases h),h6⟩⟩,h7⟩;rw[hs];simpa using h4
structure Good (L:List ar):Prop where
 right:p9 L=true
 uK:∀F∈L,∀x∈F.steps,di x.n
theorem TU:(L A:List ar)->jW A L=true->∀F∈L,0<=F.params/\F.params<=F.types.length
 | [],_,_,F,h=>by cases h
 | g::r,A,h,F,hF=>by
   rw[jW]at h;split at h
   ·cases h
   rename_i hn;rcases List.mem_cons.1 hF with rfl|hF
   ·simp only[not_or,Int.not_lt]at hn
    omega
   ·exact TU r _ h F hF
theorem TR:(L A:List ar)->jW A L=true->∀F∈L,∀g∈A,g.name≠F.name
 | [],_,_,F,h=>by cases h
 | g::r,A,h,F,hF=>by
   rw[jW]at h;split at h
   ·cases h
   rename_i hn;intro a ha;rcases List.mem_cons.1 hF with rfl|hF
   ·intro e
    exact hn (Or.inr (Or.inr (List.any_eq_true.2 ⟨a,ha,by simp[e]⟩)))
   ·exact TR r _ h F hF a (by simp[ha])
theorem TS:(L A:List ar)->jW A L=true->∀F∈L,L.find? (fun f=>f.name==F.name)=some F
 | [],_,_,F,h=>by cases h
 | g::r,A,h,F,hF=>by
   have h0:=h;rw[jW]at h;split at h
   ·cases h
   rcases List.mem_cons.1 hF with rfl|hF
   ·rw[List.find?_cons_of_pos (by simp)]
   ·rw[List.find?_cons_of_neg (by
        have:=TR r _ h F hF g (by simp);simp[this])]
    exact TS r _ h F hF
theorem Good.code (h:Good L):L.length<=12/\jW [] L=true/\(∀F∈L,jZ L F)/\∃F∈L,F.name=[109,97,105,110]/\F.params=0:=by
 have h1:=h.right;unfold p9 at h1;simp only[Bool.and_eq_true,decide_eq_true_eq,List.all_eq_true,List.any_eq_true,beq_iff_eq]at h1;exact⟨h1.1.1.1,h1.1.1.2,fun F hF=>(Ms L F).1 (h1.1.2 F hF),h1.2⟩
theorem Good.GZ (h:Good L):∀F∈L,Bi L F:=fun F hF=>⟨TU L [] h.code.2.1 F hF,(h.code.2.2.1 F hF).steps,h.uK F hF⟩
theorem Good.main (h:Good L):∃G,L.find? (fun f=>f.name==[109,97,105,110])=some G/\G.params=0:=by
 obtain⟨-,h2,-,F,hF,h4,h5⟩:=h.code;have:=TS L [] h2 F hF;rw[h4]at this;exact⟨F,this,h5⟩
theorem Wi (hT:Pass T) (F:ar):bO (T F)=bO F:=by
 funext p;unfold bO;rw[hT.types]
theorem Wj (hT:Pass T) (h:cx L F x=true) (hl:(x.code=4\/x.code=5)->kf (T F) x.label=true):cx (L.map T) (T F) x=true:=by
 have hf:∀t p,bu (T F) t p=bu F t p:=fun t p=>by unfold bu;rw[Wi hT]
 unfold cx at h ⊢;simp only[hf];rw[Wi hT,hT.find];by_cases h2:x.code=2
 ·rw[if_pos h2]at h ⊢;exact h
 rw[if_neg h2]at h ⊢;by_cases h7:x.code=7
 ·rw[if_pos h7]at h ⊢
  split at h
  ·cases h
  ·rename_i g hg
   rw[hg];simp only[Option.map_some,hT.params,hT.types];exact h
 rw[if_neg h7]at h ⊢;split at h
 ·cases h
 rename_i hr;rw[if_neg hr];simp only[Bool.and_eq_true]at h ⊢;obtain⟨⟨h0,h1⟩,h3⟩:=h;refine⟨⟨h0,?_⟩,h3⟩;by_cases e:x.code=4\/x.code=5
 ·rw[hl e];simp
 ·simp only[not_or]at e
  simp[e.1,e.2]
theorem TT {T:ar->ar} (hT:Pass T):(L A:List ar)->jW A L=true->jW (A.map T) (L.map T)=true
 | [],_,_=>rfl
 | g::r,A,h=>by
   rw[jW]at h;split at h
   ·cases h
   rename_i hn;rw[List.map_cons,jW,if_neg]
   ·have:=TT hT r _ h
    simpa using this
   ·rw[hT.params,hT.types,hT.name,List.any_map]
    intro e;apply hn;rcases e with e|e|e
    ·exact Or.inl e
    ·exact Or.inr (Or.inl e)
    ·refine Or.inr (Or.inr ?_)
     rw[List.any_eq_true]at e ⊢;obtain⟨a,ha,hb⟩:=e;exact⟨a,ha,by simpa [hT.name] using hb⟩
theorem GR (hT:Pass T) (h:Good L) (hf:∀F∈L,jZ (L.map T) (T F)/\∀x∈(T F).steps,di x.n):Good (L.map T):=by
 obtain⟨h1,h2,h3,F,hF,h4,h5⟩:=h.code;refine⟨?_,fun G hG=>?_⟩
 ·unfold p9
  simp only[Bool.and_eq_true,decide_eq_true_eq,List.all_eq_true,List.any_eq_true,beq_iff_eq];refine⟨⟨⟨by rw[List.length_map];exact h1,TT hT L [] h2⟩,fun G hG=>?_⟩,T F,List.mem_map_of_mem hF,by rw[hT.name];exact h4,by rw[hT.params];exact h5⟩;obtain⟨F',MJ,rfl⟩:=List.mem_map.1 hG;exact (Ms _ _).2 (hf F' MJ).1
 ·obtain⟨F',MJ,rfl⟩:=List.mem_map.1 hG
  exact (hf F' MJ).2
theorem Kp (hT:Pass T) (h:jZ L F) (hs:(T F).steps.Sublist F.steps) (hl:∃s,(T F).steps.getLast?=some s/\(s.code=8\/s.code=4)) (hj:∀x∈(T F).steps,(x.code=4\/x.code=5)->x.label∈ct (T F).steps):jZ (L.map T) (T F):=by
 have hsl:(ct (T F).steps).Sublist (ct F.steps):=(hs.filter _).map _;refine⟨by rw[hT.types];exact h.types,?_,Nat.le_trans hs.length_le h.len,hl,by rw[hT.types];exact h.kinds,h.once.sublist hsl,fun x hx=>Wj hT (h.steps x (hs.subset hx)) fun e=>(M3 _ _).2 (hj x hx e)⟩;obtain⟨s,h1,-⟩:=hl;cases he:(T F).steps with
 | nil=>rw[he]at h1;cases h1
 | cons a r=>simp
theorem jZ.jumps (h:jZ L F) (hx:x∈F.steps) (e:x.code=4\/x.code=5):x.label∈ct F.steps:=(M3 _ _).1 ((uP (h.steps x hx)).1.mH e)
theorem Pu {F':ar} {R:List ax->bp->List ax->bp->Prop} {r':List ax} (hr:(x.code≠4/\x.code≠8)->∀v,R r v r' v) (hj:(x.code=4\/x.code=5)->∀v,R (jY F x.label) v (jY F' x.label) v):jl R v v (fE F v x r s) (fE F' v x r' s):=by
 unfold fE;by_cases e4:x.code=4
 ·rw[if_pos e4,if_pos e4];exact jl.go (hj (Or.inl e4) v)
 rw[if_neg e4,if_neg e4];by_cases cG:x.code=5
 ·rw[if_pos cG,if_pos cG]
  by_cases e0:(v.get x.a).n=0
  ·rw[if_pos e0,if_pos e0];exact jl.go (hj (Or.inr cG) v)
  ·rw[if_neg e0,if_neg e0];exact jl.go (hr ⟨e4,by omega⟩ v)
 rw[if_neg cG,if_neg cG];by_cases dv:x.code=7
 ·rw[if_pos dv,if_pos dv];exact jl.call fun n=>hr ⟨e4,by omega⟩ _
 rw[if_neg dv,if_neg dv];by_cases dc:x.code=8
 ·rw[if_pos dc,if_pos dc];exact jl.ret _ _
 rw[if_neg dc,if_neg dc];rcases CB v x s with⟨v2,t2,h⟩|⟨w,t2,h⟩
 ·rw[h];exact jl.go (hr ⟨e4,dc⟩ _)
 ·rw[h];exact jl.stop _ _
def yZ (F:ar):ar:={ F with steps:=iI true F.steps }
theorem Kf:Pass yZ:=⟨fun _=>rfl,fun _=>rfl,fun _=>rfl⟩
theorem V8:(a:List ax)->∀on,∃Ke A,∀b,iI on (a++b)=A++iI Ke b
 | [],on=>⟨on,[],fun _=>rfl⟩
 | s::r,on=>by
   obtain⟨Ke,A,h⟩:=V8 r ((on || s.code==6) && !(s.code==4 || s.code==8));exact⟨Ke,(if on || s.code==6 then [s] else [])++A,fun b=>by rw[List.cons_append,iI,h,List.append_assoc]⟩
theorem Kg:(a:List ax)->∀on,ct (iI on a)=ct a
 | [],_=>rfl
 | s::r,on=>by
   rw[iI,o0,Kg r,tE]
   congr 1
   by_cases h:s.code=6
   ·simp[h,ct]
   ·split
    ·simp[h,ct]
    ·simp[h,ct]
theorem D8:(a:List ax)->∀on,(iI on a).Sublist a
 | [],_=>List.Sublist.slnil
 | s::r,on=>by
   rw[iI];split
   ·exact (D8 r _).cons_cons s
   ·exact (D8 r _).cons s
theorem V9:(a:List ax)->∀on,(∃s,a.getLast?=some s/\(s.code=8\/s.code=4))->(∃s,(iI on a).getLast?=some s/\(s.code=8\/s.code=4))\/(on=false/\iI on a=[])
 | [],_,⟨s,h,_⟩=>by cases h
 | [x],on,⟨s,h,h8⟩=>by
   obtain rfl:x=s:=(by simpa using h);rw[iI,iI];have h6:(x.code==6)=false:=by rcases h8 with e|e <;> simp[e]
   rw[h6];cases on with
   | true=>exact Or.inl ⟨x,by simp,h8⟩
   | false=>exact Or.inr ⟨rfl,by simp⟩
 | x::y::r,on,⟨s,h,h8⟩=>by
   rw[iI];rcases V9 (y::r) ((on || x.code==6) && !(x.code==4 || x.code==8)) ⟨s,by simpa using h,h8⟩ with⟨t,h1,h2⟩|⟨h1,h2⟩
   ·exact Or.inl ⟨t,by rw[List.getLast?_append,h1];rfl,h2⟩
   ·rw[h2]
    cases qf:(on || x.code==6) with
    | true =>
      rw[qf]at h1;refine Or.inl ⟨x,by simp,?_⟩;simp at h1;by_cases h4:x.code=4
      ·exact Or.inr h4
      ·exact Or.inl (h1 h4)
    | false =>
      refine Or.inr ⟨?_,by simp⟩;cases on with
      | false=>rfl
      | true=>simp at qf
theorem ag5 {l:Int} (h:l∈ct F.steps):jY (yZ F) l=iI true (jY F l):=by
 obtain⟨pre,x,post,h1,h2,h3,h4⟩:=DZ F.steps h;rw[(wu h1 ⟨h2,h3⟩ h4).2];obtain⟨Ke,A,hA⟩:=V8 pre true;have h5:(yZ F).steps=A++x::iI true post:=by
  show iI true F.steps=_
  rw[h1,hA,iI];simp[h2]
 exact (wu h5 ⟨h2,h3⟩ ((xF _ _).2 (by rw[Kg];exact (xF _ _).1 h4))).2
theorem ag6 (h:jZ L F):jZ (L.map yZ) (yZ F):=by
 refine Kp Kf h (D8 _ _) ?_ ?_
 ·rcases V9 F.steps true h.last with h1|⟨h1,_⟩
  ·exact h1
  ·cases h1
 ·intro x hx e
  show x.label∈ct (iI true F.steps)
  rw[Kg];exact h.jumps ((D8 _ _).subset hx) e
theorem ag7 (h:jZ L F):Bk F (yZ F) (fun l v l' v'=>v'=v/\l'=iI true l):=by
 refine⟨fun v _=>⟨rfl,rfl⟩,fun v l' v' h=>h.2,?_⟩;rintro x r v l' v' s ⟨rfl,rfl⟩ hl hv hs;refine Or.inr ⟨x,iI (!(x.code==4 || x.code==8)) r,by rw[iI];simp,?_⟩;refine Pu (fun e v=>⟨rfl,?_⟩) (fun e v=>⟨rfl,ag5 (h.jumps (hl.subset List.mem_cons_self) e)⟩);have h1:(x.code==4)=false:=by simpa using e.1
 have h2:(x.code==8)=false:=by simpa using e.2
 rw[h1,h2];rfl
def wo (F:ar):ar:={ F with steps:=i_ F.steps }
theorem JQ:Pass wo:=⟨fun _=>rfl,fun _=>rfl,fun _=>rfl⟩
theorem Vb {x:ax} {post:List ax}:(a:List ax)->∃A,i_ (a++x::post)=A++i_ (x::post)
 | []=>⟨[],rfl⟩
 | s::r=>by
   obtain⟨A,h⟩:=Vb (x:=x) (post:=post) r;exact⟨_,by rw[List.cons_append,wq,h,<-List.append_assoc]⟩
theorem PD {s:ax} (h:xK s r=true):s.code=4/\∃t r',r=t::r'/\t.code=6/\t.label=s.label:=by
 unfold xK at h;split at h
 ·cases h
 ·simp at h
  exact⟨h.1.1,_,_,rfl,h.1.2,h.2⟩
theorem JR:(a:List ax)->ct (i_ a)=ct a
 | []=>rfl
 | s::r=>by
   rw[wq,o0,JR r,tE]
   congr 1
   by_cases h:xK s r=true
   ·rw[if_pos h,if_neg (by rw[(PD h).1];decide)];rfl
   ·rw[if_neg h]
    by_cases h6:s.code=6 <;> simp[h6,ct]
theorem DV:(a:List ax)->(i_ a).Sublist a
 | []=>List.Sublist.slnil
 | s::r=>by
   rw[wq];split
   ·exact (DV r).cons s
   ·exact (DV r).cons_cons s
theorem Vd:(a:List ax)->(i_ a).getLast?=a.getLast?
 | []=>rfl
 | [x]=>rfl
 | x::y::r=>by
   have ih:=Vd (y::r);rw[wq,List.getLast?_append,ih,List.getLast?_cons_cons];cases h:(y::r).getLast? with
   | none=>simp at h
   | some s=>rfl
theorem Vc (h:x.code=6):i_ (x::r)=x::i_ r:=by
 rw[wq,if_neg]
 ·rfl
 ·intro e
  have:=(PD e).1;omega
theorem ae7 {l:Int} (h:l∈ct F.steps):jY (wo F) l=i_ (jY F l):=by
 obtain⟨pre,x,post,h1,h2,h3,h4⟩:=DZ F.steps h;rw[(wu h1 ⟨h2,h3⟩ h4).2];obtain⟨A,hA⟩:=Vb (x:=x) (post:=post) pre;have h5:(wo F).steps=A++x::i_ post:=by
  show i_ F.steps=_
  rw[h1,hA,Vc h2]
 exact (wu h5 ⟨h2,h3⟩ ((xF _ _).2 (by rw[JR];exact (xF _ _).1 h4))).2
theorem ae8 (h:jZ L F):jZ (L.map wo) (wo F):=by
 refine Kp JQ h (DV _) ?_ ?_
 ·show ∃s,(i_ F.steps).getLast?=some s/\_
  rw[Vd];exact h.last
 ·intro x hx e
  show x.label∈ct (i_ F.steps)
  rw[JR];exact h.jumps ((DV _).subset hx) e
theorem ae9 (h:jZ L F):Bk F (wo F) (fun l v l' v'=>v'=v/\l'=i_ l):=by
 refine⟨fun v _=>⟨rfl,rfl⟩,fun v l' v' h=>h.2,?_⟩;rintro x r v l' v' s ⟨rfl,rfl⟩ hl hv hs;have hj:(x.code=4\/x.code=5)->jY (wo F) x.label=i_ (jY F x.label):=fun e=>ae7 (h.jumps (hl.subset List.mem_cons_self) e)
 by_cases hk:xK x r=true
 ·obtain⟨h4,t,r',rfl,h6,gy⟩:=PD hk
  refine Or.inr ⟨t,i_ r',by rw[wq,if_pos hk,List.nil_append,Vc h6],?_⟩;obtain⟨p,hp⟩:=hl;have hno:Be x.label r':=by
   rw[xF];have h1:=h.once;rw[<-hp,o0,tE,tE,if_neg (by rw[h4];decide),if_pos h6,gy]at h1;have h2:=(List.nodup_append.1 h1).2.1;simp only[List.nil_append,List.singleton_append,List.nodup_cons]at h2;exact h2.1
  have Gp:jY F x.label=r':=(wu (pre:=p++[x]) (x:=t) (by rw[<-hp];simp) ⟨h6,gy⟩ hno).2;have a1:fE F v' x (t::r') s=.go r' v' s:=by unfold fE;rw[if_pos h4,Gp]
  have a2:fE (wo F) v' t (i_ r') s=.go (i_ r') v' s:=by
   unfold fE;rw[if_neg (by omega),if_neg (by omega),if_neg (by omega),if_neg (by omega)];unfold cq;rw[if_neg (by omega),if_neg (by omega),if_neg (by omega),if_neg (by omega),if_neg (by omega),if_neg (by omega),if_neg (by omega),if_neg (by omega),if_neg (by omega)];rfl
  rw[a1,a2];exact jl.go ⟨rfl,rfl⟩
 ·refine Or.inr ⟨x,i_ r,by rw[wq,if_neg hk];rfl,?_⟩
  exact Pu (fun e v=>⟨rfl,rfl⟩) (fun e v=>⟨rfl,hj e⟩)
def xM (F:ar):ar:={ F with steps:=F.steps.filter (fun s=>!ln F.steps s) }
theorem KB:Pass xM:=⟨fun _=>rfl,fun _=>rfl,fun _=>rfl⟩
theorem XC (hx:x∈l) (e:x.code=4\/x.code=5):mM l x.label=true:=by
 unfold mM;rw[List.any_eq_true];refine⟨x,hx,?_⟩;rcases e with e|e <;> simp[e]
theorem KC (h:x.code≠6\/mM l x.label=true):ln l x=false:=by
 unfold ln;rcases h with h|h <;> simp[h]
theorem W5 {l:Int} (h:l∈ct F.steps) (hu:mM F.steps l=true):jY (xM F) l=(jY F l).filter (fun s=>!ln F.steps s)/\l∈ct (xM F).steps:=by
 obtain⟨pre,x,post,h1,h2,h3,h4⟩:=DZ F.steps h;rw[(wu h1 ⟨h2,h3⟩ h4).2];have h5:(xM F).steps=pre.filter (fun s=>!ln F.steps s)++x::post.filter (fun s=>!ln F.steps s):=by
  show F.steps.filter _=_
  have e:∀m,m=F.steps->m.filter (fun s=>!ln F.steps s)=pre.filter (fun s=>!ln F.steps s)++x::post.filter (fun s=>!ln F.steps s):=by
   intro m hm;rw[hm.trans h1,List.filter_append,List.filter_cons_of_pos (by rw[KC (Or.inr (by rw[h3];exact hu))];rfl)]
  exact e _ rfl
 refine⟨(wu h5 ⟨h2,h3⟩ fun s hs=>h4 s (List.mem_filter.1 hs).1).2,?_⟩;rw[h5,o0,tE,if_pos h2,h3];simp
theorem ajf (h:jZ L F):jZ (L.map xM) (xM F):=by
 refine Kp KB h List.filter_sublist ?_ ?_
 ·obtain⟨s,h1,h2⟩:=h.last
  refine⟨s,?_,h2⟩;obtain⟨m,hm⟩:=List.getLast?_eq_some_iff.1 h1
  show (F.steps.filter _).getLast?=_
  have e:∀q,q=F.steps->(q.filter (fun s=>!ln F.steps s)).getLast?=some s:=by
   intro q hq;rw[hq.trans hm,List.filter_append,List.filter_cons_of_pos (by rw[KC (Or.inl (by omega))];rfl),List.filter_nil];simp
  exact e _ rfl
 ·intro x hx e
  have fp:x∈F.steps:=(List.mem_filter.1 hx).1;exact (W5 (h.jumps fp e) (XC fp e)).2
theorem ajg (h:jZ L F):Bk F (xM F) (fun l v l' v'=>v'=v/\l'=l.filter (fun s=>!ln F.steps s)):=by
 refine⟨fun v _=>⟨rfl,rfl⟩,fun v l' v' h=>h.2,?_⟩;rintro x r v l' v' s ⟨rfl,rfl⟩ hl hv hs;have fp:x∈F.steps:=hl.subset List.mem_cons_self;cases hk:ln F.steps x with
 | true =>
   have h6:x.code=6:=by
    unfold ln at hk;simp at hk;exact hk.1
   refine Or.inl ⟨r,v',?_,rfl,by rw[List.filter_cons_of_neg (by rw[hk];decide)]⟩;unfold fE;rw[if_neg (by omega),if_neg (by omega),if_neg (by omega),if_neg (by omega)];unfold cq;rw[if_neg (by omega),if_neg (by omega),if_neg (by omega),if_neg (by omega),if_neg (by omega),if_neg (by omega),if_neg (by omega),if_neg (by omega),if_neg (by omega)];rfl
 | false =>
   refine Or.inr ⟨x,r.filter (fun s=>!ln F.steps s),by rw[List.filter_cons_of_pos (by rw[hk];rfl)],?_⟩;exact Pu (fun e v=>⟨rfl,rfl⟩) (fun e v=>⟨rfl,(W5 (h.jumps fp e) (XC fp e)).1⟩)
theorem ahV (F:ar):xI F=xM (wo (yZ F)):=rfl
theorem Ij:Pass qQ:=⟨fun _=>rfl,fun _=>rfl,fun _=>rfl⟩
theorem L_ (F:ar):(a:List ax)->∀i b,eZ F i (a++b)=eZ F i a++eZ F (i+a.length) b
 | [],i,b=>rfl
 | s::r,i,b=>by
   rw[List.cons_append,eZ,eZ,L_ F r,List.length_cons,show i+1+r.length=i+(r.length+1) by omega];split <;> rfl
theorem Ks {s:ax} (h:nW s=true):s.code=1\/s.code=2\/s.code=10\/(s.code=3/\s.op≠[47]/\s.op≠[37]):=by
 unfold nW at h;simp at h;rcases h with ((h|h)|h)|⟨⟨h,h1⟩,h2⟩
 ·exact Or.inl h
 ·exact Or.inr (Or.inl h)
 ·exact Or.inr (Or.inr (Or.inl h))
 ·exact Or.inr (Or.inr (Or.inr ⟨h,h1,h2⟩))
theorem Ma (F:ar) (i:Nat) (s:ax) (r:List ax) (h:nW s=false):eZ F i (s::r)=s::eZ F (i+1) r:=by
 rw[eZ,if_pos (by rw[h];rfl)]
theorem Pl {s:ax} (h:s.code=4\/s.code=5\/s.code=6\/s.code=8\/s.code=7):nW s=false:=by
 cases hp:nW s with
 | false=>rfl
 | true=>have:=Ks hp;omega
theorem Fv (F:ar):(a:List ax)->∀i,ct (eZ F i a)=ct a
 | [],_=>rfl
 | s::r,i=>by
   rw[eZ];split
   ·rw[tE,tE,Fv F r]
   ·rename_i h
    have:nW s=true:=by
        cases hp:nW s with
        | true=>rfl
        | false=>rw[hp]at h;exact absurd rfl h
    have:=Ks this;rw[Fv F r,tE,if_neg (by omega)];rfl
theorem Dd (F:ar):(a:List ax)->∀i,(eZ F i a).Sublist a
 | [],_=>List.Sublist.slnil
 | s::r,i=>by
   rw[eZ];split
   ·exact (Dd F r _).cons_cons s
   ·exact (Dd F r _).cons s
theorem aaX (h:jZ L F):jZ (L.map qQ) (qQ F):=by
 refine Kp Ij h (Dd F _ _) ?_ ?_
 ·obtain⟨s,h1,h2⟩:=h.last
  refine⟨s,?_,h2⟩;obtain⟨m,hm⟩:=List.getLast?_eq_some_iff.1 h1
  show (eZ F 0 F.steps).getLast?=_
  rw[hm,L_,Ma _ _ _ _ (Pl (by omega))];simp[eZ]
 ·intro x hx e
  show x.label∈ct (eZ F 0 F.steps)
  rw[Fv];exact h.jumps ((Dd F _ _).subset hx) e
theorem aaW {l:Int} (h:l∈ct F.steps):jY F l=F.steps.drop (jD F l+1)/\jY (qQ F) l=eZ F (jD F l+1) (jY F l)/\∃x,F.steps[jD F l]?=some x/\x.code=6:=by
 refine⟨rfl,?_⟩;obtain⟨pre,x,post,h1,h2,h3,h4⟩:=DZ F.steps h;obtain⟨h6,h7⟩:=wu h1 ⟨h2,h3⟩ h4;rw[h7,h6];have h5:(qQ F).steps=eZ F 0 pre++x::eZ F (pre.length+1) post:=by
  show eZ F 0 F.steps=_
  have e:∀m,m=F.steps->eZ F 0 m=eZ F 0 pre++x::eZ F (pre.length+1) post:=by
   intro m hm;rw[hm.trans h1,L_,Ma _ _ _ _ (Pl (by omega)),Nat.zero_add]
  exact e _ rfl
 refine⟨(wu h5 ⟨h2,h3⟩ ((xF _ _).2 (by rw[Fv];exact (xF _ _).1 h4))).2,x,?_,h2⟩;rw[h1];simp
structure Alike (F:ar) (i:Nat) (v v':bp):Prop where
 len:v'.length=v.length
 get:∀p,0<=p->LL F i p->v.get p=v'.get p
theorem CF (h:x.code=4\/x.code=5\/x.code=6\/x.code=8\/x.code=12\/x.code=13):eJ x=-1:=by
 unfold eJ;rw[if_neg (by omega)]
theorem xO (h:x.code=1\/x.code=2\/x.code=3\/x.code=7\/x.code=9\/x.code=10\/x.code=11\/x.code=14):eJ x=x.dst:=by
 unfold eJ;rw[if_pos h]
section
variable {F:ar}
theorem agY (h:jZ L F) (hx:F.steps[i]?=some x) (hc:x.code≠8/\x.code≠4):i+1<F.steps.length:=by
 apply Decidable.byContradiction;intro hn;have hi:i<F.steps.length:=(List.getElem?_eq_some_iff.1 hx).1;obtain⟨s,h1,h2⟩:=h.last;rw[List.getLast?_eq_getElem?,show F.steps.length-1=i by omega,hx]at h1;have:=Option.some.inj h1;subst this;omega
theorem SN (h:jZ L F) (hx:F.steps[i]?=some x) (hc:x.code≠8/\x.code≠4):i+1∈ic F i:=by
 unfold ic;rw[hx];simp only;rw[if_pos (c:=x.code≠4/\x.code≠8/\i+1<F.steps.length) ⟨hc.2,hc.1,agY h hx hc⟩];simp
theorem acd (hx:F.steps[i]?=some x) (hc:x.code=4\/x.code=5):jD F x.label∈ic F i:=by
 unfold ic;rw[hx];simp only;rw[if_pos hc];simp
theorem Alike.to (h:jZ L F) (hx:F.steps[i]?=some x) (hk:k∈ic F i) (hw:eJ x=-1) (ha:Alike F i v v'):Alike F k v v' :=
 ⟨ha.len,fun p hp hn=>ha.get p hp ((yS F).keep i x p hx ((yS F).next i k p hk hn) (by omega))⟩
theorem Alike.put {L:List ar} (h:jZ L F) {i k:Nat} {x:ax} (hx:F.steps[i]?=some x) (hk:k∈ic F i) (hw:eJ x=x.dst) {v v':bp} (hd:0<=x.dst/\x.dst.toNat<v.length) (ha:Alike F i v v') (y:V):Alike F k (v.put x.dst y) (v'.put x.dst y):=by
 refine⟨by rw[Kr,Kr];exact ha.len,fun p hp hn=>?_⟩;rw[iY hd hp,iY (by rw[ha.len];exact hd) hp];split
 ·rfl
 ·rename_i hne
  exact ha.get p hp ((yS F).keep i x p hx ((yS F).next i k p hk hn) (by rw[hw];exact hne))
theorem Alike.skip (h:jZ L F) (hx:F.steps[i]?=some x) (hk:k∈ic F i) (hw:eJ x=x.dst) (hn:¬vt F i x.dst) (hd:0<=x.dst/\x.dst.toNat<v.length) (ha:Alike F i v v') (y:V):Alike F k (v.put x.dst y) v':=by
 refine⟨by rw[Kr];exact ha.len,fun p hp vX=>?_⟩;have h1:=(yS F).next i k p hk vX
 have hne:p≠x.dst:=fun e=>hn (e ▸ h1)
 rw[iY hd hp,if_neg hne];exact ha.get p hp ((yS F).keep i x p hx h1 (by rw[hw];exact hne))
end
theorem Xb (h:∀p∈jb x,v.get p=v'.get p) (hc:x.code≠7) :
 (∃w t,cq v x s=some (.error (.stop w),t)/\cq v' x s=some (.error (.stop w),t))\/(∃y t,(x.code=1\/x.code=2\/x.code=3\/x.code=9\/x.code=10\/x.code=11\/x.code=14)/\cq v x s=some (.ok (v.put x.dst y),t)/\cq v' x s=some (.ok (v'.put x.dst y),t))\/(∃t,eJ x=-1/\cq v x s=some (.ok v,t)/\cq v' x s=some (.ok v',t)):=by
 unfold jb at h;by_cases e:x.code=1
 ·have hw:x.code=1\/x.code=2\/x.code=3\/x.code=9\/x.code=10\/x.code=11\/x.code=14:=by omega
  unfold cq;rw[if_pos e,if_pos e];exact Or.inr (Or.inl ⟨_,_,hw,rfl,rfl⟩)
 by_cases e2:x.code=2
 ·have hw:x.code=1\/x.code=2\/x.code=3\/x.code=9\/x.code=10\/x.code=11\/x.code=14:=by omega
  rw[if_pos (by omega)]at h;have ha:=h x.a (by simp);unfold cq;rw[if_neg e,if_pos e2,if_neg e,if_pos e2,ha];exact Or.inr (Or.inl ⟨_,_,hw,rfl,rfl⟩)
 by_cases e3:x.code=3
 ·have hw:x.code=1\/x.code=2\/x.code=3\/x.code=9\/x.code=10\/x.code=11\/x.code=14:=by omega
  rw[if_neg (by omega),if_pos (by omega)]at h;have ha:=h x.a (by simp);have hb:=h x.b (by simp);unfold cq;rw[if_neg e,if_neg e2,if_pos e3,if_neg e,if_neg e2,if_pos e3,ha,hb];split
  ·exact Or.inl ⟨_,_,rfl,rfl⟩
  ·exact Or.inr (Or.inl ⟨_,_,hw,rfl,rfl⟩)
 by_cases fG:x.code=9
 ·have hw:x.code=1\/x.code=2\/x.code=3\/x.code=9\/x.code=10\/x.code=11\/x.code=14:=by omega
  rw[if_pos (by omega)]at h;have ha:=h x.a (by simp);unfold cq;rw[if_neg e,if_neg e2,if_neg e3,if_pos fG,if_neg e,if_neg e2,if_neg e3,if_pos fG,ha];split
  ·exact Or.inl ⟨_,_,rfl,rfl⟩
  ·exact Or.inr (Or.inl ⟨_,_,hw,rfl,rfl⟩)
 by_cases r7:x.code=10
 ·have hw:x.code=1\/x.code=2\/x.code=3\/x.code=9\/x.code=10\/x.code=11\/x.code=14:=by omega
  rw[if_pos (by omega)]at h;have ha:=h x.a (by simp);unfold cq;rw[if_neg e,if_neg e2,if_neg e3,if_neg fG,if_pos r7,if_neg e,if_neg e2,if_neg e3,if_neg fG,if_pos r7,ha];exact Or.inr (Or.inl ⟨_,_,hw,rfl,rfl⟩)
 by_cases e11:x.code=11
 ·have hw:x.code=1\/x.code=2\/x.code=3\/x.code=9\/x.code=10\/x.code=11\/x.code=14:=by omega
  rw[if_neg (by omega),if_pos (by omega)]at h;have ha:=h x.a (by simp);have hb:=h x.b (by simp);unfold cq;rw[if_neg e,if_neg e2,if_neg e3,if_neg fG,if_neg r7,if_pos e11,if_neg e,if_neg e2,if_neg e3,if_neg fG,if_neg r7,if_pos e11,ha,hb];unfold cX;split
  ·exact Or.inl ⟨_,_,rfl,rfl⟩
  ·exact Or.inr (Or.inl ⟨_,_,hw,rfl,rfl⟩)
 by_cases xg:x.code=12
 ·have hw:=CF (x:=x) (by omega)
  rw[if_neg (by omega),if_neg (by omega),if_pos xg]at h;have ha:=h x.a (by simp);have hb:=h x.b (by simp);have hc:=h x.c (by simp);unfold cq;rw[if_neg e,if_neg e2,if_neg e3,if_neg fG,if_neg r7,if_neg e11,if_pos xg,if_neg e,if_neg e2,if_neg e3,if_neg fG,if_neg r7,if_neg e11,if_pos xg,ha,hb,hc];unfold cX;split
  ·exact Or.inl ⟨_,_,rfl,rfl⟩
  ·exact Or.inr (Or.inr ⟨_,hw,rfl,rfl⟩)
 by_cases De:x.code=13
 ·have hw:=CF (x:=x) (by omega)
  rw[if_pos (by omega)]at h;have ha:=h x.a (by simp);unfold cq;rw[if_neg e,if_neg e2,if_neg e3,if_neg fG,if_neg r7,if_neg e11,if_neg xg,if_pos De,if_neg e,if_neg e2,if_neg e3,if_neg fG,if_neg r7,if_neg e11,if_neg xg,if_pos De,ha];split
  ·exact Or.inl ⟨_,_,rfl,rfl⟩
  ·exact Or.inr (Or.inr ⟨_,hw,rfl,rfl⟩)
 by_cases Im:x.code=14
 ·have hw:x.code=1\/x.code=2\/x.code=3\/x.code=9\/x.code=10\/x.code=11\/x.code=14:=by omega
  unfold cq;rw[if_neg e,if_neg e2,if_neg e3,if_neg fG,if_neg r7,if_neg e11,if_neg xg,if_neg De,if_pos Im,if_neg e,if_neg e2,if_neg e3,if_neg fG,if_neg r7,if_neg e11,if_neg xg,if_neg De,if_pos Im];cases s.inp with
  | nil=>exact Or.inr (Or.inl ⟨_,_,hw,rfl,rfl⟩)
  | cons n r=>exact Or.inr (Or.inl ⟨_,_,hw,rfl,rfl⟩)
 have hw:eJ x=-1:=by unfold eJ;rw[if_neg (by omega)]
 unfold cq;rw[if_neg e,if_neg e2,if_neg e3,if_neg fG,if_neg r7,if_neg e11,if_neg xg,if_neg De,if_neg Im,if_neg e,if_neg e2,if_neg e3,if_neg fG,if_neg r7,if_neg e11,if_neg xg,if_neg De,if_neg Im];exact Or.inr (Or.inr ⟨_,hw,rfl,rfl⟩)
theorem Wu {L:List ar} (hr:H5 F x) (h:nW x=true) (v:bp) (r:List ax) (s:aC):eJ x=x.dst/\0<bO F x.dst/\∃y,fE F v x r s=.go r (v.put x.dst y) s:=by
 have hc:=Ks h;refine⟨xO (by omega),?_,?_⟩
 ·by_cases e:x.code=2
  ·exact (hr.copy e).1
  ·have:=hr.dst (by omega)
   omega
 ·unfold fE
  rw[if_neg (by omega),if_neg (by omega),if_neg (by omega),if_neg (by omega)];unfold cq;rcases hc with e|e|e|⟨e,e1,e2⟩
  ·rw[if_pos e];exact⟨_,rfl⟩
  ·rw[if_neg (by omega),if_pos e];exact⟨_,rfl⟩
  ·rw[if_neg (by omega),if_neg (by omega),if_neg (by omega),if_neg (by omega),if_pos e];exact⟨_,rfl⟩
  ·rw[if_neg (by omega),if_neg (by omega),if_pos e,if_neg]
   ·exact⟨_,rfl⟩
   ·unfold dA
    split
    ·simp
    split
    ·simp
    split
    ·simp
    rw[if_neg (by simp[e1,e2])]
    repeat' split
    all_goals simp
theorem ZT (h:jZ L F) (hk:x.args.map (bO F)=G.types.take x.args.length) (hG:∀t∈G.types,t=1\/t=2):∀p∈x.args,0<=p:=by
 intro p hp;have h1:bO F p∈x.args.map (bO F):=List.mem_map_of_mem hp;rw[hk]at h1;have h2:=hG _ (List.take_subset _ _ h1);exact (rr (F:=F) (p:=p) (by omega)).1
theorem aaY (hL:∀F∈L,jZ L F) (hF:F∈L):Bk F (qQ F) (fun l v l' v'=>∃i,l=F.steps.drop i/\l'=eZ F i l/\Alike F i v v'):=by
 have h:=hL F hF;refine⟨fun v _=>⟨0,rfl,rfl,rfl,fun p _ _=>rfl⟩,fun v l' v' ⟨i,_,h2,_⟩=>h2,?_⟩;rintro x r v l' v' s ⟨i,hl,rfl,ha⟩ hsu hv hs;obtain⟨hx,hr2⟩:=Mh hl.symm;have fp:x∈F.steps:=hsu.subset List.mem_cons_self;obtain⟨jI,oq,z8,Ns⟩:=uP (h.steps x fp);have vW:=fun hc=>SN h hx hc
 by_cases hk:(!nW x || wB F i (eJ x))=true
 ·refine Or.inr ⟨x,eZ F (i+1) r,by rw[eZ,if_pos hk],?_⟩
  have JF:∀p∈jb x,0<=p->v.get p=v'.get p:=fun p hp h0=>ha.get p h0 ((yS F).use i x p hx hp)
  have Jz:x.code≠4/\x.code≠8->(∀w w',Alike F (i+1) w w'->∃k,r=F.steps.drop k/\eZ F (i+1) r=eZ F k r/\Alike F k w w'):=fun hc w w' hw=>⟨i+1,hr2.symm,rfl,hw⟩
  have F2:(x.code=4\/x.code=5)->∃k,jY F x.label=F.steps.drop k/\jY (qQ F) x.label=eZ F k (jY F x.label)/\Alike F k v v':=fun e=>by
   obtain⟨U_,Va,y,OB,ae6⟩:=aaW (h.jumps fp e);refine⟨_,U_,Va,?_⟩;have a1:=ha.to h hx (acd hx e) (CF (by omega));exact a1.to h OB (SN h OB (by omega)) (CF (by omega))
  unfold fE;by_cases e4:x.code=4
  ·rw[if_pos e4,if_pos e4];exact jl.go (F2 (Or.inl e4))
  rw[if_neg e4,if_neg e4];by_cases cG:x.code=5
  ·rw[if_pos cG,if_pos cG]
   have hu:=JF x.a (by unfold jb;rw[if_pos (by omega)];simp) (rr (F:=F) (by have:=jI.a (by omega);omega)).1;rw[<-hu];by_cases e0:(v.get x.a).n=0
   ·rw[if_pos e0,if_pos e0];exact jl.go (F2 (Or.inr cG))
   ·rw[if_neg e0,if_neg e0]
    exact jl.go (Jz ⟨e4,by omega⟩ v v' (ha.to h hx (vW (by omega)) (CF (by omega))))
  rw[if_neg cG,if_neg cG];by_cases dv:x.code=7
  ·rw[if_pos dv,if_pos dv]
   obtain⟨G,hG,hlen,vV⟩:=oq dv;have h0:=ZT h vV (hL G (List.mem_of_find?_eq_some hG)).kinds;have cC:x.args.map v.get=x.args.map v'.get:=List.map_congr_left fun p hp=>JF p (by unfold jb;rw[if_neg (by omega),if_neg (by omega),if_neg (by omega),if_pos dv];exact hp) (h0 p hp)
   rw[cC];exact jl.call fun n=>Jz ⟨e4,by omega⟩ _ _ (ha.put h hx (vW (by omega)) (xO (by omega)) (by rw[hv.len];exact rr (F:=F) (by have:=jI.dst (by omega);omega)) _)
  rw[if_neg dv,if_neg dv];by_cases dc:x.code=8
  ·rw[if_pos dc,if_pos dc]
   have hu:=JF x.a (by unfold jb;rw[if_pos (by omega)];simp) (rr (F:=F) (by have:=jI.a (by omega);omega)).1;rw[<-hu];exact jl.ret _ _
  rw[if_neg dc,if_neg dc];have B_:∀p∈jb x,v.get p=v'.get p:=fun p hp=>JF p hp (by
   refine (rr (F:=F) (p:=p) ?_).1;unfold jb at hp;split at hp
   ·obtain rfl:p=x.a:=by simpa using hp
    by_cases e2:x.code=2
    ·have:=jI.copy e2;omega
    ·by_cases r7:x.code=10
     ·have:=jI.C2 (by omega);omega
     ·have:=jI.a (by omega);omega
   split at hp
   ·rename_i e3
    simp only[List.mem_cons,List.not_mem_nil,or_false]at hp;rcases hp with rfl|rfl
    ·by_cases e11:x.code=11
     ·have:=jI.C2 (by omega);omega
     ·have:=jI.a (by omega);omega
    ·have:=jI.b (by omega);omega
   split at hp
   ·rename_i xg
    simp only[List.mem_cons,List.not_mem_nil,or_false]at hp;rcases hp with rfl|rfl|rfl
    ·have:=jI.C2 (by omega);omega
    ·have:=jI.b (by omega);omega
    ·have:=jI.c (by omega);omega
   cases hp)
  rcases Xb (s:=s) B_ dv with⟨w,t,h1,h2⟩|⟨y,t,hw,h1,h2⟩|⟨t,hw,h1,h2⟩
  ·rw[h1,h2];exact jl.stop _ _
  ·rw[h1,h2]
   refine jl.go (Jz ⟨e4,dc⟩ _ _ (ha.put h hx (vW ⟨dc,e4⟩) (xO (by omega)) ?_ y));rw[hv.len];refine rr (F:=F) ?_;by_cases e2:x.code=2
   ·exact (jI.copy e2).1
   ·by_cases fG:x.code=9
    ·have:=jI.Il fG;omega
    ·have:=jI.dst (by omega);omega
  ·rw[h1,h2]
   exact jl.go (Jz ⟨e4,dc⟩ _ _ (ha.to h hx (vW ⟨dc,e4⟩) hw))
 ·have hp:nW x=true:=by
   cases hp:nW x with
   | true=>rfl
   | false=>rw[hp]at hk;exact absurd rfl hk
  obtain⟨hw,hd,y,hy⟩:=Wu (L:=L) jI hp v r s;have hc:=Ks hp;have hn:¬vt F i x.dst:=fun e=>hk (by
   rw[hw];unfold wB;simp[e])
  exact Or.inl ⟨r,_,hy,i+1,hr2.symm,by rw[eZ,if_neg hk],ha.skip h hx (vW (by omega)) hw hn (by rw[hv.len];exact rr hd) y⟩
end aW
namespace aW
open Go.RowKit aB Go.Proofs.Tryz
variable {F:ar} {k:bn} {L:List ar} {x r t c:ax} {v:bp} {d p a:Int} {vals:List Int} {l:List ax} {s:aC} {A B:Option Int} {n i:Nat} {y:V}
theorem JW:Pass kQ:=⟨fun _=>rfl,fun _=>rfl,fun _=>rfl⟩
structure k0 (F:ar) (k:bn):Prop where
 num:∀p n,k.cL p=some n->bO F p=1/\di n
 same:∀p q,k.same p=some q->0<bO F p/\bO F p=bO F q
structure oc (k:bn) (v:bp):Prop where
 num:∀p n,k.cL p=some n->v.get p=bN n
 same:∀p q,k.same p=some q->v.get p=v.get q
theorem k0.none (F:ar):k0 F bn.none:=⟨(fun p n h=>by cases h),(fun p q h=>by cases h)⟩
theorem oc.none (v:bp):oc bn.none v:=⟨(fun p n h=>by cases h),(fun p q h=>by cases h)⟩
theorem k0.fresh (h:k0 F k) (x:ax):k0 F (fS k x):=by
 unfold fS;split
 ·exact k0.none F
 ·exact h
theorem oc.fresh (h:oc k v) (x:ax):oc (fS k x) v:=by
 unfold fS;split
 ·exact oc.none v
 ·exact h
theorem k0.of {F:ar} {k:bn} (h:k0 F k) (p:Int):bO F (k.of p)=bO F p:=by
 unfold bn.of;cases hs:k.same p with
 | none=>rfl
 | some q=>exact (h.same p q hs).2.symm
theorem oc.of {k:bn} {v:bp} (h:oc k v) (p:Int):v.get (k.of p)=v.get p:=by
 unfold bn.of;cases hs:k.same p with
 | none=>rfl
 | some q=>exact (h.same p q hs).symm
theorem ah1 (h:oc k v) (x:ax) (r:List ax) (s:aC):fE F v (k.reads x) r s=fE F v x r s:=by
 have cC:(x.args.map k.of).map v.get=x.args.map v.get:=by
  rw[List.map_map];exact List.map_congr_left fun p _=>h.of p
 unfold fE bn.reads;simp only[cC,h.of];by_cases e4:x.code=4
 ·rw[if_pos e4,if_pos e4]
 rw[if_neg e4,if_neg e4];by_cases cG:x.code=5
 ·rw[if_pos cG,if_pos cG]
 rw[if_neg cG,if_neg cG];by_cases dv:x.code=7
 ·rw[if_pos dv,if_pos dv]
 rw[if_neg dv,if_neg dv];by_cases dc:x.code=8
 ·rw[if_pos dc,if_pos dc]
 rw[if_neg dc,if_neg dc];unfold cq;simp only[h.of]
theorem WE (h:k0 F k) (hr:cx L F x=true):cx L F (k.reads x)=true:=by
 have cC:(x.args.map k.of).map (bO F)=x.args.map (bO F):=by
  rw[List.map_map];exact List.map_congr_left fun p _=>h.of p
 have hf:∀t p,bu F t (k.of p)=bu F t p:=fun t p=>by unfold bu;rw[h.of]
 unfold cx at hr ⊢;unfold bn.reads;simp only[hf,h.of,cC,List.length_map];exact hr
theorem KI (s:ax) (A B:Option Int) :
 (∃a,s.code=2/\A=some a/\gW s A B=vD s.dst a)\/(s.code=5/\A=some 0/\gW s A B=DU s.label)\/
 (∃a b,s.code=3/\A=some a/\B=some b/\(dA s.op a b).2=0/\gW s A B=vD s.dst (dA s.op a b).1)\/
 (s.code=3/\((B=some 0/\(s.op=[43]\/s.op=[45]))\/(B=some 1/\(s.op=[42]\/s.op=[47])))/\gW s A B=p_ s.dst s.a)\/
 (s.code=3/\((A=some 0/\s.op=[43])\/(A=some 1/\s.op=[42]))/\gW s A B=p_ s.dst s.b)\/gW s A B=s:=by
 obtain⟨t,ht⟩:∃t,t=gW s A B:=⟨_,rfl⟩;rw[<-ht];unfold gW at ht;split at ht
 ·rename_i h
  cases A with
  | none=>simp at h
  | some a=>exact Or.inl ⟨a,h.1,rfl,ht⟩
 split at ht
 ·rename_i h
  exact Or.inr (Or.inl ⟨h.1,h.2,ht⟩)
 split at ht
 ·rename_i h
  cases A with
  | none=>simp at h
  | some a =>
    cases B with
    | none=>simp at h
    | some b =>
      split at ht
      ·rename_i h2
       exact Or.inr (Or.inr (Or.inl ⟨a,b,h.1,rfl,rfl,h2,ht⟩))
      ·exact Or.inr (Or.inr (Or.inr (Or.inr (Or.inr ht))))
 split at ht
 ·rename_i h
  exact Or.inr (Or.inr (Or.inr (Or.inl ⟨h.1,h.2,ht⟩)))
 split at ht
 ·rename_i h
  exact Or.inr (Or.inr (Or.inr (Or.inr (Or.inl ⟨h.1,h.2,ht⟩))))
 ·exact Or.inr (Or.inr (Or.inr (Or.inr (Or.inr ht))))
theorem XH (h:di a):wrap64 a=a:=by
 unfold di at h;unfold wrap64;omega
theorem V3 (h:y.arr=none/\di y.n):y=bN y.n:=by
 obtain⟨n,a⟩:=y;obtain⟨h1,-⟩:=h;simp only at h1;subst h1;rfl
theorem RA {n:Int} {r:List ax}:fE F v (vD d n) r s=.go r (v.put d (bN n)) s:=by
 unfold fE vD cq;rfl
theorem RB {r:List ax}:fE F v (p_ d a) r s=.go r (v.put d (v.get a)) s:=by
 unfold fE p_ cq;rfl
theorem LV {r:List ax} (h:x.code=3) (hb:(dA x.op (v.get x.a).n (v.get x.b).n).2=0):fE F v x r s=.go r (v.put x.dst (bN (dA x.op (v.get x.a).n (v.get x.b).n).1)) s:=by
 unfold fE cq;rw[if_neg (by omega),if_neg (by omega),if_neg (by omega),if_neg (by omega),if_neg (by omega),if_neg (by omega),if_pos h,if_neg (by rw[hb];simp)];rfl
theorem aj8 {L:List ar} (hr:H5 F x) (hv:oN F v) (hA:∀a,A=some a->v.get x.a=bN a) (hB:∀b,B=some b->v.get x.b=bN b) (r:List ax) (s:aC):fE F v (gW x A B) r s=fE F v x r s:=by
 rcases KI x A B with⟨a,h1,h2,h3⟩|⟨h1,h2,h3⟩|⟨a,b,h1,h2,h3,h4,h5⟩|⟨h1,h2,h3⟩|⟨h1,h2,h3⟩|h3
 ·rw[h3,RA]
  unfold fE cq;rw[if_neg (by omega),if_neg (by omega),if_neg (by omega),if_neg (by omega),if_neg (by omega),if_pos h1,hA a h2];rfl
 ·rw[h3]
  unfold fE;rw[if_pos (show (DU x.label).code=4 from rfl),if_neg (by omega),if_pos h1,hA 0 h2,if_pos (show (bN 0).n=0 from rfl)];rfl
 ·rw[h5,RA,LV h1 (by rw[hA a h2,hB b h3];exact h4),hA a h2,hB b h3]
  rfl
 ·have ha:=hv.num _ (hr.a (by omega))
  have hb:v.get x.a=bN (dA x.op (v.get x.a).n (v.get x.b).n).1/\(dA x.op (v.get x.a).n (v.get x.b).n).2=0:=by
   have e:=V3 ha;have e2:=XH ha.2;generalize (v.get x.a).n=n at *;rcases h2 with⟨hb,ho|ho⟩|⟨hb,ho|ho⟩
   ·rw[hB _ hb,ho];exact⟨by rw[e];show _=bN (wrap64 (n+0));rw[Int.add_zero,e2],rfl⟩
   ·rw[hB _ hb,ho];exact⟨by rw[e];show _=bN (wrap64 (n-0));rw[Int.sub_zero,e2],rfl⟩
   ·rw[hB _ hb,ho];exact⟨by rw[e];show _=bN (wrap64 (n*1));rw[Int.mul_one,e2],rfl⟩
   ·rw[hB _ hb,ho];exact⟨by rw[e];show _=bN (wrap64 (n.tdiv 1));rw[Int.tdiv_one,e2],rfl⟩
  rw[h3,RB,LV h1 hb.2,<-hb.1]
 ·have ha:=hv.num _ (hr.b (by omega))
  have hb:v.get x.b=bN (dA x.op (v.get x.a).n (v.get x.b).n).1/\(dA x.op (v.get x.a).n (v.get x.b).n).2=0:=by
   have e:=V3 ha;have e2:=XH ha.2;generalize (v.get x.b).n=n at *;rcases h2 with⟨hb,ho⟩|⟨hb,ho⟩
   ·rw[hA _ hb,ho];exact⟨by rw[e];show _=bN (wrap64 (0+n));rw[Int.zero_add,e2],rfl⟩
   ·rw[hA _ hb,ho];exact⟨by rw[e];show _=bN (wrap64 (1*n));rw[Int.one_mul,e2],rfl⟩
  rw[h3,RB,LV h1 hb.2,<-hb.1]
 ·rw[h3]
theorem afj (hr:cx L F x=true) (hv:oN F v) (ht:k0 F k) (hk:oc k v) (r:List ax) (s:aC):fE F v (k.step x) r s=fE F v x r s:=by
 unfold bn.step;rw[aj8 (L:=L) (x:=k.reads x) (A:=k.cL (k.of x.a)) (B:=k.cL (k.of x.b)) (uP (WE ht hr)).1 hv (fun a h=>hk.num _ _ h) (fun b h=>hk.num _ _ h),ah1 hk]
theorem WK {n:Int} (h:bO F d=1):cx L F (vD d n)=true:=by
 have h0:bu F 0 0=true:=rfl;have h1:bu F 1 d=true:=by unfold bu;rw[h];rfl
 show (if (1:Int)=2 then _ else if (1:Int)=7 then _ else if (1:Int)<1\/(1:Int) > 14 then false else bu F 1 d && bu F 0 0 && bu F 0 0 && bu F 0 0 && true && true)=true
 rw[if_neg (by decide),if_neg (by decide),if_neg (by decide),h0,h1];rfl
theorem WL (h:0<bO F d) (h2:bO F d=bO F a):cx L F (p_ d a)=true:=by
 unfold cx p_;rw[if_pos rfl];simp only;rw[<-h2];simp;exact h
theorem aib {l:Int} (h:kf F l=true):cx L F (DU l)=true:=by
 have h0:bu F 0 0=true:=rfl
 show (if (4:Int)=2 then _ else if (4:Int)=7 then _ else if (4:Int)<1\/(4:Int) > 14 then false else bu F 0 0 && bu F 0 0 && bu F 0 0 && bu F 0 0 && (false || kf F l) && true)=true
 rw[if_neg (by decide),if_neg (by decide),if_neg (by decide),h0,h];rfl
theorem aj9 (hr:cx L F x=true) (hn:di x.n) (hA:∀a,A=some a->bO F x.a=1/\di a) (hB:∀b,B=some b->bO F x.b=1/\di b):cx L F (gW x A B)=true/\di (gW x A B).n:=by
 have hp:=(uP hr).1;have h0:di 0:=by unfold di;omega
 rcases KI x A B with⟨a,h1,h2,h3⟩|⟨h1,h2,h3⟩|⟨a,b,h1,h2,h3,h4,h5⟩|⟨h1,h2,h3⟩|⟨h1,h2,h3⟩|h3
 ·rw[h3];exact⟨WK (by rw[(hp.copy h1).2];exact (hA a h2).1),(hA a h2).2⟩
 ·rw[h3];exact⟨aib (hp.mH (by omega)),h0⟩
 ·rw[h5];exact⟨WK (hp.dst (by omega)),RY (hA a h2).2 (hB b h3).2⟩
 ·rw[h3];exact⟨WL (by rw[hp.dst (by omega)];decide) (by rw[hp.dst (by omega),hp.a (by omega)]),h0⟩
 ·rw[h3];exact⟨WL (by rw[hp.dst (by omega)];decide) (by rw[hp.dst (by omega),hp.b (by omega)]),h0⟩
 ·rw[h3];exact⟨hr,hn⟩
theorem Vn (hr:cx L F x=true) (hn:di x.n) (ht:k0 F k):cx L F (k.step x)=true/\di (k.step x).n:=by
 unfold bn.step;exact aj9 (WE ht hr) hn (fun a h=>ht.num _ _ h) (fun b h=>ht.num _ _ h)
theorem ach (h:k0 F k) (p:Int):k0 F (k.forget p):=by
 refine⟨fun q n e=>?_,fun q r e=>?_⟩
 ·unfold bn.forget oP at e
  simp only at e;split at e
  ·cases e
  ·exact h.num q n e
 ·unfold bn.forget vE oP at e
  simp only at e;split at e
  ·cases e
  split at e
  ·cases e
  ·exact h.same q r e
theorem VC (h:k0 F k) (hr:cx L F x=true) (hn:di x.n):k0 F (k.kR x):=by
 have hp:=(uP hr).1;have hf:=ach h (eJ x);unfold bn.kR;split
 ·exact h
 split
 ·rename_i e1
  have hw:eJ x=x.dst:=xO (by omega);refine⟨fun q n e=>?_,hf.same⟩;unfold qs at e;simp only at e;split at e
  ·rename_i hq
   rw[hq,hw];obtain rfl:=Option.some.inj e;exact⟨hp.dst (by omega),hn⟩
  ·exact hf.num q n e
 split
 ·rename_i e2
  have hw:eJ x=x.dst:=xO (by omega);refine⟨hf.num,fun q r e=>?_⟩;unfold qs at e;simp only at e;split at e
  ·rename_i hq
   rw[hq,hw];obtain rfl:=Option.some.inj e;exact hp.copy e2.1
  ·exact hf.same q r e
 ·exact hf
theorem acg (ht:k0 F k) (h:oc k v) (hp:0<=p/\p.toNat<v.length) (y:V):oc (k.forget p) (v.put p y):=by
 refine⟨fun q n e=>?_,fun q r e=>?_⟩
 ·unfold bn.forget oP at e
  simp only at e;split at e
  ·cases e
  ·rename_i hq
   rw[iY hp (rr (F:=F) (by have:=(ht.num q n e).1;omega)).1,if_neg hq];exact h.num q n e
 ·unfold bn.forget vE oP at e
  simp only at e;by_cases hq:q=p
  ·rw[if_pos hq,if_neg (by simp)]at e
   cases e
  ·rw[if_neg hq]at e
   split at e
   ·cases e
   rename_i hd;rw[e]at hd;have hk:=ht.same q r e;rw[iY hp (rr (F:=F) (by omega)).1,if_neg hq,iY hp (rr (F:=F) (by omega)).1,if_neg (fun c=>hd (by rw[c]))];exact h.same q r e
theorem VB (h:eJ x=-1):k.kR x=k:=by
 unfold bn.kR;rw[if_pos (by omega)]
theorem J3 (ht:k0 F k) (h:oc k v) (hv:oN F v) (hr:cx L F x=true) (hd:0<bO F x.dst) (hc:x.code=1\/x.code=2\/x.code=3\/x.code=7\/x.code=9\/x.code=10\/x.code=11\/x.code=14) (DO:x.code=1->y=bN x.n) (j6:x.code=2->y=v.get x.a):oc (k.kR x) (v.put x.dst y):=by
 have hp:=(uP hr).1;have hw:eJ x=x.dst:=xO hc;have ki:=rr hd;have Jc:0<=x.dst/\x.dst.toNat<v.length:=by rw[hv.len];exact ki
 have hf:=acg ht h Jc y;unfold bn.kR;rw[hw,if_neg (by omega)];split
 ·rename_i e1
  refine⟨fun q n e=>?_,hf.same⟩;unfold qs at e;simp only at e;split at e
  ·rename_i hq
   obtain rfl:=Option.some.inj e;rw[hq,iY Jc ki.1,if_pos rfl,DO e1]
  ·exact hf.num q n e
 split
 ·rename_i e2
  refine⟨hf.num,fun q r e=>?_⟩;unfold qs at e;simp only at e;split at e
  ·rename_i hq
   obtain rfl:=Option.some.inj e;have hk:=hp.copy e2.1;rw[hq,iY Jc ki.1,if_pos rfl,iY Jc (rr (F:=F) (p:=x.a) (by omega)).1,if_neg e2.2,j6 e2.1]
  ·exact hf.same q r e
 ·exact hf
theorem Aq (h:idle k t=true):t.code=5/\∃a,k.cL t.a=some a/\a≠0:=by
 unfold idle at h;simp only[Bool.and_eq_true,beq_iff_eq]at h;refine⟨h.1,?_⟩;have h2:=h.2;cases hn:k.cL t.a with
 | none=>rw[hn]at h2;cases h2
 | some a=>rw[hn]at h2;exact⟨a,rfl,by simpa using h2⟩
theorem G5:((k.step x).code=6↔x.code=6)/\(x.code=6->(k.step x).label=x.label)/\((k.step x).code=8↔x.code=8)/\(x.code=4->(k.step x).code=4)/\((k.step x).code=4\/(k.step x).code=5->(x.code=4\/x.code=5)/\(k.step x).label=x.label):=by
 unfold bn.step;have hc:(k.reads x).code=x.code:=rfl;have hl:(k.reads x).label=x.label:=rfl;rcases KI (k.reads x) (k.cL (k.of x.a)) (k.cL (k.of x.b)) with⟨a,h1,h2,h3⟩|⟨h1,h2,h3⟩|⟨a,b,h1,h2,h3,h4,h3⟩|⟨h1,h2,h3⟩|⟨h1,h2,h3⟩|h3
 all_goals rw[h3]
 all_goals simp only[vD,DU,p_,hc,hl]at *
 all_goals refine⟨by omega,by first|omega|(intro;first|rfl|omega),by omega,by omega,by first|omega|(intro e;exact⟨by omega,by first|rfl|omega⟩)⟩
theorem JY:(a:List ax)->∀k,∃k' A,∀b,eM k (a++b)=A++eM k' b
 | [],k=>⟨k,[],fun _=>rfl⟩
 | s::r,k=>by
   by_cases h:idle (fS k s) ((fS k s).step s)=true
   ·obtain⟨k',A,hA⟩:=JY r (fS k s)
    exact⟨k',A,fun b=>by rw[List.cons_append,eM,if_pos h,hA]⟩
   ·obtain⟨k',A,hA⟩:=JY r ((fS k s).kR ((fS k s).step s))
    exact⟨k',(fS k s).step s::A,fun b=>by rw[List.cons_append,eM,if_neg h,hA];rfl⟩
theorem DY:(a:List ax)->∀k,ct (eM k a)=ct a
 | [],_=>rfl
 | s::r,k=>by
   rw[eM];have h6:=(G5 (k:=fS k s) (x:=s));split
   ·rename_i h
    have:=(Aq h).1;rw[DY r,tE,if_neg (fun e=>by have:=h6.1.2 e;omega)];rfl
   ·rw[tE,tE,DY r]
    congr 1
    by_cases e:s.code=6
    ·rw[if_pos (h6.1.2 e),if_pos e,h6.2.1 e]
    ·rw[if_neg (fun c=>e (h6.1.1 c)),if_neg e]
theorem afl (k:bn) {r:List ax} (h:x.code=6):eM k (x::r)=x::eM bn.none r:=by
 have hf:fS k x=bn.none:=by unfold fS;rw[if_pos h]
 have ad9:bn.none.of=id:=by funext p;rfl
 have hs:bn.none.step x=x:=by
  unfold bn.step;have hr:bn.none.reads x=x:=by
   unfold bn.reads;rw[ad9];simp
  rw[hr];unfold gW;rw[if_neg (by omega),if_neg (by omega),if_neg (by omega),if_neg (by omega),if_neg (by omega)]
 rw[eM,hf,hs,if_neg,VB (CF (by omega))];intro e;have:=(Aq e).1;omega
theorem afg {l:Int} (h:l∈ct F.steps):jY (kQ F) l=eM bn.none (jY F l):=by
 obtain⟨pre,x,post,h1,h2,h3,h4⟩:=DZ F.steps h;rw[(wu h1 ⟨h2,h3⟩ h4).2];obtain⟨k',A,hA⟩:=JY pre bn.none;have h5:(kQ F).steps=A++x::eM bn.none post:=by
  show eM bn.none F.steps=_
  rw[h1,hA,afl _ h2]
 exact (wu h5 ⟨h2,h3⟩ ((xF _ _).2 (by rw[DY];exact (xF _ _).1 h4))).2
theorem Vo {L:List ar} {F:ar}:(l:List ax)->(∀x∈l,cx L F x=true/\di x.n)->∀k,k0 F k->∀y∈eM k l,cx L F y=true/\di y.n/\((y.code=4\/y.code=5)->∃x∈l,(x.code=4\/x.code=5)/\y.label=x.label)
 | [],_,_,_,y,hy=>by cases hy
 | s::r,hl,k,hk,y,hy=>by
   have hs:=hl s List.mem_cons_self;have DA:=Vn hs.1 hs.2 (hk.fresh s);rw[eM]at hy;have up:∀ {k'},k0 F k'->y∈eM k' r->cx L F y=true/\di y.n/\((y.code=4\/y.code=5)->∃x∈s::r,(x.code=4\/x.code=5)/\y.label=x.label):=fun uw Ak=>by
    obtain⟨h1,h2,h3⟩:=Vo r (fun x hx=>hl x (List.mem_cons_of_mem _ hx)) _ uw y Ak;exact⟨h1,h2,fun e=>by obtain⟨x,hx,h⟩:=h3 e;exact⟨x,List.mem_cons_of_mem _ hx,h⟩⟩
   split at hy
   ·exact up (hk.fresh s) hy
   ·rcases List.mem_cons.1 hy with rfl|hy
    ·exact⟨DA.1,DA.2,fun e=>⟨s,List.mem_cons_self,(G5.2.2.2.2 e)⟩⟩
    ·exact up (VC (hk.fresh s) DA.1 DA.2) hy
theorem JX:(l:List ax)->∀k,(eM k l).length<=l.length
 | [],_=>Nat.le_refl _
 | s::r,k=>by
   rw[eM];split
   ·have:=JX r (fS k s)
    rw[List.length_cons];omega
   ·have:=JX r ((fS k s).kR ((fS k s).step s))
    rw[List.length_cons,List.length_cons];omega
theorem afh (h:jZ L F) (hn:∀x∈F.steps,di x.n):jZ (L.map kQ) (kQ F)/\∀x∈(kQ F).steps,di x.n:=by
 have hst:=Vo (L:=L) (F:=F) F.steps (fun x hx=>⟨h.steps x hx,hn x hx⟩) bn.none (k0.none F);have yz:∃s,(eM bn.none F.steps).getLast?=some s/\(s.code=8\/s.code=4):=by
  obtain⟨s,h1,h2⟩:=h.last;obtain⟨m,hm⟩:=List.getLast?_eq_some_iff.1 h1;obtain⟨k',A,hA⟩:=JY m bn.none;rw[hm,hA,eM,if_neg,eM]
  ·refine⟨(fS k' s).step s,by simp,?_⟩
   have h6:=G5 (k:=fS k' s) (x:=s);rcases h2 with e|e
   ·exact Or.inl (h6.2.2.1.2 e)
   ·exact Or.inr (h6.2.2.2.1 e)
  ·intro e
   have h6:=G5 (k:=fS k' s) (x:=s);have h7:=(Aq e).1;rcases h2 with e|e
   ·have:=h6.2.2.1.2 e;omega
   ·have:=h6.2.2.2.1 e;omega
 refine⟨⟨h.types,?_,Nat.le_trans (JX _ _) h.len,yz,h.kinds,?_,fun x hx=>?_⟩,fun x hx=>(hst x hx).2.1⟩
 ·obtain⟨s,h1,-⟩:=yz
  show 1<=(eM bn.none F.steps).length
  cases he:eM bn.none F.steps with
  | nil=>rw[he]at h1;cases h1
  | cons a r=>simp
 ·show (ct (eM bn.none F.steps)).Nodup
  rw[DY];exact h.once
 ·refine Wj JW (hst x hx).1 fun e=>(M3 _ _).2 ?_
  show x.label∈ct (eM bn.none F.steps)
  obtain⟨y,hy,h1,h2⟩:=(hst x hx).2.2 e;rw[DY,h2];exact h.jumps hy h1
theorem afi (h:jZ L F) (hn:∀x∈F.steps,di x.n):Bk F (kQ F) (fun l v l' v'=>v'=v/\∃k,k0 F k/\oc k v/\l'=eM k l):=by
 refine⟨fun v _=>⟨rfl,bn.none,k0.none F,oc.none v,rfl⟩,fun v l' v' ⟨_,k,_,_,h⟩=>h,?_⟩;rintro x r v l' v' s ⟨rfl,ja,aeq,rf,rfl⟩ hsu hv hs;have fp:x∈F.steps:=hsu.subset List.mem_cons_self;have hr:=h.steps x fp;have ht:=aeq.fresh x;have hk:=rf.fresh x;have adg:=afj hr hv ht hk r s;have DA:=Vn hr (hn x fp) ht;rw[eM];generalize fS ja x=k at *;rw[<-adg];by_cases hi:idle k (k.step x)=true
 ·rw[if_pos hi]
  obtain⟨h5,a,ha,ha0⟩:=Aq hi;refine Or.inl ⟨r,v',?_,rfl,k,ht,hk,rfl⟩;unfold fE;rw[if_neg (by omega),if_pos h5,hk.num _ _ ha,if_neg (show ¬(bN a).n=0 from ha0)]
 ·rw[if_neg hi]
  have iE:((k.step x).code=4\/(k.step x).code=5)->jY (kQ F) (k.step x).label=eM bn.none (jY F (k.step x).label):=fun e=>by
   obtain⟨h1,h2⟩:=G5.2.2.2.2 e;rw[h2];exact afg (h.jumps fp h1)
  refine Or.inr ⟨k.step x,_,rfl,?_⟩;generalize k.step x=t at *;obtain⟨hrt,B1⟩:=DA;have hp:=(uP hrt).1;have hlt:=VC ht hrt B1;have F2:(t.code=4\/t.code=5)->v'=v'/\∃k,k0 F k/\oc k v'/\jY (kQ F) t.label=eM k (jY F t.label):=fun e=>⟨rfl,bn.none,k0.none F,oc.none v',iE e⟩
  have UO:eJ t=-1->v'=v'/\∃k',k0 F k'/\oc k' v'/\eM (k.kR t) r=eM k' r:=fun e=>⟨rfl,k,ht,hk,by rw[VB e]⟩
  unfold fE;by_cases e4:t.code=4
  ·rw[if_pos e4,if_pos e4];exact jl.go (F2 (Or.inl e4))
  rw[if_neg e4,if_neg e4];by_cases cG:t.code=5
  ·rw[if_pos cG,if_pos cG]
   by_cases e0:(v'.get t.a).n=0
   ·rw[if_pos e0,if_pos e0];exact jl.go (F2 (Or.inr cG))
   ·rw[if_neg e0,if_neg e0];exact jl.go (UO (CF (by omega)))
  rw[if_neg cG,if_neg cG];by_cases dv:t.code=7
  ·rw[if_pos dv,if_pos dv]
   exact jl.call fun n=>⟨rfl,_,hlt,J3 ht hk hv hrt (by have:=hp.dst (by omega);omega) (by omega) (by omega) (by omega),rfl⟩
  rw[if_neg dv,if_neg dv];by_cases dc:t.code=8
  ·rw[if_pos dc,if_pos dc];exact jl.ret _ _
  rw[if_neg dc,if_neg dc];have hd:(t.code=1\/t.code=2\/t.code=3\/t.code=9\/t.code=10\/t.code=11\/t.code=14)->0<bO F t.dst:=fun e=>by
   by_cases e2:t.code=2
   ·exact (hp.copy e2).1
   ·by_cases fG:t.code=9
    ·have:=hp.Il fG;omega
    ·have:=hp.dst (by omega);omega
  by_cases e1:t.code=1
  ·unfold cq
   rw[if_pos e1];exact jl.go ⟨rfl,_,hlt,J3 ht hk hv hrt (hd (by omega)) (by omega) (fun _=>rfl) (by omega),rfl⟩
  by_cases e2:t.code=2
  ·unfold cq
   rw[if_neg e1,if_pos e2];exact jl.go ⟨rfl,_,hlt,J3 ht hk hv hrt (hd (by omega)) (by omega) (by omega) (fun _=>rfl),rfl⟩
  rcases Xb (s:=s) (v:=v') (v':=v') (x:=t) (fun _ _=>rfl) dv with⟨w,t',h1,-⟩|⟨y,t',hw,h1,-⟩|⟨t',hw,h1,-⟩
  ·rw[h1];exact jl.stop _ _
  ·rw[h1];exact jl.go ⟨rfl,_,hlt,J3 ht hk hv hrt (hd hw) (by omega) (by omega) (by omega),rfl⟩
  ·rw[h1];exact jl.go (UO hw)
structure sY (T:ar->ar):Prop where
 pass:Pass T
 good:∀L,Good L->Good (L.map T)
 run:∀L,Good L->∀given,(∀x∈given,di x)->∀f fuel x,runM L f given fuel=some x->x.1≠6->∃f',runM (L.map T) f' given fuel=some x
 len:∀F,(T F).steps.length<=F.steps.length
 mH:∀F,ct (T F).steps ⊆ ct F.steps
theorem sY.comp {T U:ar->ar} (hT:sY T) (hU:sY U):sY (fun F=>U (T F)):=by
 have e:∀L:List ar,L.map (fun F=>U (T F))=(L.map T).map U:=fun L=>by rw[List.map_map];rfl
 refine⟨⟨fun F=>by rw[hU.pass.name,hT.pass.name],fun F=>by rw[hU.pass.types,hT.pass.types],fun F=>by rw[hU.pass.params,hT.pass.params]⟩,fun L h=>by rw[e];exact hU.good _ (hT.good _ h),fun L h given hg f fuel x hx h6=>?_,fun F=>Nat.le_trans (hU.len _) (hT.len _),fun F=>List.Subset.trans (hU.mH _) (hT.mH _)⟩;obtain⟨f1,h1⟩:=hT.run L h given hg f fuel x hx h6;rw[e];exact hU.run _ (hT.good _ h) given hg f1 fuel x h1 h6
theorem Vl:sY kQ :=
 ⟨JW,fun L h=>GR JW h fun F hF=>afh (h.code.2.2.1 F hF) (h.uK F hF),fun L h given hg f fuel x hx h6=>GU JW h.GZ (fun F hF=>afi (h.code.2.2.1 F hF) (h.uK F hF)) h.main hg hx h6,fun F=>JX _ _,fun F=>by
  show ct (eM bn.none F.steps) ⊆ _
  rw[DY];exact List.Subset.refl _⟩
theorem Sm:sY qQ :=
 ⟨Ij,fun L h=>GR Ij h fun F hF=>⟨aaX (h.code.2.2.1 F hF),fun x hx=>h.uK F hF x ((Dd F _ _).subset hx)⟩,fun L h given hg f fuel x hx h6=>GU Ij h.GZ (fun F hF=>aaY h.code.2.2.1 hF) h.main hg hx h6,fun F=>(Dd F _ _).length_le,fun F=>by
  show ct (eZ F 0 F.steps) ⊆ _
  rw[Fv];exact List.Subset.refl _⟩
theorem ag8:sY yZ :=
 ⟨Kf,fun L h=>GR Kf h fun F hF=>⟨ag6 (h.code.2.2.1 F hF),fun x hx=>h.uK F hF x ((D8 _ _).subset hx)⟩,fun L h given hg f fuel x hx h6=>GU Kf h.GZ (fun F hF=>ag7 (h.code.2.2.1 F hF)) h.main hg hx h6,fun F=>(D8 _ _).length_le,fun F=>by
  show ct (iI true F.steps) ⊆ _
  rw[Kg];exact List.Subset.refl _⟩
theorem afa:sY wo :=
 ⟨JQ,fun L h=>GR JQ h fun F hF=>⟨ae8 (h.code.2.2.1 F hF),fun x hx=>h.uK F hF x ((DV _).subset hx)⟩,fun L h given hg f fuel x hx h6=>GU JQ h.GZ (fun F hF=>ae9 (h.code.2.2.1 F hF)) h.main hg hx h6,fun F=>(DV _).length_le,fun F=>by
  show ct (i_ F.steps) ⊆ _
  rw[JR];exact List.Subset.refl _⟩
theorem ajh:sY xM :=
 ⟨KB,fun L h=>GR KB h fun F hF=>⟨ajf (h.code.2.2.1 F hF),fun x hx=>h.uK F hF x (List.mem_filter.1 hx).1⟩,fun L h given hg f fuel x hx h6=>GU KB h.GZ (fun F hF=>ajg (h.code.2.2.1 F hF)) h.main hg hx h6,fun F=>List.length_filter_le _ _,fun F=>by
  show ct (F.steps.filter _) ⊆ _
  exact ((List.filter_sublist.filter _).map _).subset⟩
theorem WC:sY xI:=by
 have e:xI=fun F=>xM ((fun F=>wo (yZ F)) F):=by funext F;exact ahV F
 rw[e];exact (ag8.comp afa).comp ajh
theorem Kj:sY om:=by
 have e:om=fun F=>xI ((fun F=>qQ (kQ F)) F):=by funext F;rw[om]
 rw[e];exact (Vl.comp Sm).comp WC
theorem ym:sY jH:=by
 have e:jH=fun F=>om ((fun F=>om ((fun F=>om (om F)) F)) F):=by funext F;rw[jH]
 rw[e];exact ((Kj.comp Kj).comp Kj).comp Kj
structure E7 (l:List ax) (vals:List Int):Prop where
 len:l.length=vals.length
 uK:∀v∈vals,di v
 step:∀ (i:Nat) (s:ax),l[i]?=some s->s.dst=(i:Int)/\di s.n/\s.args=[]/\
  ((s.code=1/\vals[i]?=some s.n)\/(∃a:Nat,s.code=2/\s.a=(a:Int)/\a<i/\vals[i]?=vals[a]?)\/
    (∃ (a b:Nat) (x y z:Int),s.code=3/\s.op∈ix/\s.a=(a:Int)/\s.b=(b:Int)/\a<i/\b<i/\vals[a]?=some x/\vals[b]?=some y/\vals[i]?=some z/\dA s.op x y=(z,0)))
structure x7 (vals:List Int) (i:Nat) (k:bn):Prop where
 num:∀a:Nat,a<i->k.cL (a:Int)=vals[a]?
 same:∀p,k.same p=none
theorem x7.of {vals:List Int} {i:Nat} {k:bn} (h:x7 vals i k) (p:Int):k.of p=p:=by
 unfold bn.of;rw[h.same];rfl
theorem x7.reads {vals:List Int} {i:Nat} {k:bn} (h:x7 vals i k) (s:ax):k.reads s=s:=by
 have:k.of=id:=by funext p;exact h.of p
 unfold bn.reads;rw[this];simp
theorem KJ {s:ax} (h:s.code=1\/s.code=8):gW s A B=s:=by
 unfold gW;rw[if_neg (by omega),if_neg (by omega),if_neg (by omega),if_neg (by omega),if_neg (by omega)]
theorem afu (h:x7 vals i k) (h1:t.code=1) (h2:t.dst=(i:Int)) (h3:vals[i]?=some t.n):x7 vals (i+1) (k.kR t):=by
 have hw:eJ t=t.dst:=xO (by omega);unfold bn.kR;rw[hw,if_neg (by omega),if_pos h1];refine⟨fun a ha=>?_,fun p=>?_⟩
 ·show qs _ _ _ _=_
  unfold qs;split
  ·rename_i e
   have:a=i:=(by omega);rw[this,h3]
  ·rename_i e
   have ha2:a<i:=by omega
   show oP k.cL t.dst a=_
   unfold oP;rw[if_neg e];exact h.num a ha2
 ·show vE (oP k.same t.dst) t.dst p=_
  unfold vE oP;rw[h.same];simp
def PW (vals:List Int) (i:Nat) (l:List ax):Prop:=∀ (j:Nat) (t:ax),l[j]?=some t->t.code=1/\t.dst=((i+j:Nat):Int)/\vals[i+j]?=some t.n
theorem Vm {vals:List Int} {all:List ax} (hl:E7 all vals) {r:ax} (hr:r.code=8):(m:List ax)->∀i k,m=all.drop i->x7 vals i k->∃ts,eM k (m++[r])=ts++[r]/\ts.length=m.length/\PW vals i ts
 | [],i,k,hm,hk=>by
   refine⟨[],?_,rfl,fun j t h=>by simp at h⟩;have hf:fS k r=k:=(by unfold fS;rw[if_neg (by omega)]);have hs:k.step r=r:=(by unfold bn.step;rw[hk.reads,KJ (Or.inr hr)]);have NL:¬idle k r=true:=fun e=>by have:=(Aq e).1;omega
   rw[List.nil_append,eM,hf,hs,if_neg NL,eM]
 | s::m,i,k,hm,hk=>by
   obtain⟨hs,hd⟩:=Mh hm.symm;obtain⟨BM,hn,cC,hc⟩:=hl.step i s hs;have hi:i<vals.length:=by
    rw[<-hl.len];exact (List.getElem?_eq_some_iff.1 hs).1
   have hf:fS k s=k:=by
    unfold fS;rw[if_neg (by rcases hc with⟨h,_⟩|⟨_,h,_⟩|⟨_,_,_,_,_,h,_⟩ <;> omega)]
   have ht:(k.step s).code=1/\(k.step s).dst=(i:Int)/\vals[i]?=some (k.step s).n:=by
    unfold bn.step;rw[hk.reads,hk.of,hk.of];rcases hc with⟨h1,h2⟩|⟨a,h1,h2,h3,h4⟩|⟨a,b,x,y,z,h1,ho,h2,h3,h4,h5,h6,h7,h8,dJ⟩
    ·rw[KJ (Or.inl h1)]
     exact⟨h1,BM,h2⟩
    ·have hA:k.cL s.a=some (vals[i]'hi):=by rw[h2,hk.num a h3,<-h4,List.getElem?_eq_getElem hi]
     unfold gW;rw[if_pos ⟨h1,by rw[hA];rfl⟩,hA];exact⟨rfl,BM,by rw[List.getElem?_eq_getElem hi];rfl⟩
    ·have hA:k.cL s.a=some x:=by rw[h2,hk.num a h4,h6]
     have hB:k.cL s.b=some y:=(by rw[h3,hk.num b h5,h7]);unfold gW;rw[if_neg (by omega),if_neg (by omega),if_pos ⟨h1,by rw[hA];rfl,by rw[hB];rfl⟩,hA,hB];simp only[Option.getD_some];rw[dJ,if_pos rfl];exact⟨rfl,BM,h8⟩
   have NL:¬idle k (k.step s)=true:=fun e=>by have:=(Aq e).1;omega
   obtain⟨ts,h1,h2,h3⟩:=Vm hl hr m (i+1) (k.kR (k.step s)) hd.symm (afu hk ht.1 ht.2.1 ht.2.2);refine⟨k.step s::ts,?_,by rw[List.length_cons,List.length_cons,h2],fun j t hj=>?_⟩
   ·rw[List.cons_append,eM,hf,if_neg NL,h1]
    rfl
   ·cases j with
    | zero =>
      obtain rfl:=Option.some.inj hj;exact ht
    | succ j =>
      have:=h3 j t hj;rw[show i+(j+1)=i+1+j by omega];exact this
theorem VW {ts:List ax} (hF:F.steps=ts++[r]) (ht:∀t∈ts,t.code=1) (hr:r.code=8) (ha:r.a=p):(∀i q,vt F i q->q=p)/\(1<=ts.length->vt F (ts.length-1) p):=by
 have nj:∀i s,F.steps[i]?=some s->s∈ts\/s=r:=fun i s h=>by
  have:=List.mem_of_getElem? h;rw[hF]at this;simpa using this
 refine⟨fun i q h=>h (fun _ q=>q=p) (fun _ q=>q=p) ⟨fun _ _ _ _ h=>h,fun _ _ _ _ h _=>h,fun i s q hs hq=>?_⟩,fun h1=>?_⟩
 ·rcases nj i s hs with h|rfl
  ·have:=ht s h
   unfold jb at hq;rw[if_neg (by omega),if_neg (by omega),if_neg (by omega),if_neg (by omega)]at hq;cases hq
  ·unfold jb at hq
   rw[if_pos (by omega)]at hq;rw[List.mem_singleton]at hq;rw[hq,ha]
 ·have aej:F.steps[ts.length]?=some r:=by rw[hF];simp
  have hu:LL F ts.length p:=(yS F).use ts.length r p aej (by unfold jb;rw[if_pos (by omega),ha];simp);refine (yS F).next _ ts.length p ?_ hu
  obtain⟨t,xz⟩:∃t,F.steps[ts.length-1]?=some t:=⟨_,List.getElem?_eq_getElem (by rw[hF];simp;omega)⟩;have amw:t.code=1:=by
   rw[hF,List.getElem?_append_left (by omega)]at xz;exact ht t (List.mem_of_getElem? xz)
  unfold ic;rw[xz];simp only;rw[if_neg (by omega),if_pos ⟨by omega,by omega,by rw[hF];simp;omega⟩];simp;omega
def Told (F:ar) (p v:Int):Prop:=∃c r,F.steps=[c,r]/\c.code=1/\c.dst=p/\c.n=v/\r.code=8/\r.a=p
theorem WD (h:l=[c,r]) (hc:c.code=1) (hr:r.code=8):y2 l=[c,r]:=by
 have h1:iI true l=[c,r]:=by
  rw[h,iI,iI,iI];simp[hc,hr]
 have h2:i_ [c,r]=[c,r]:=by
  rw[wq,wq];unfold xK;simp[hc,hr,i_]
 unfold y2;rw[h1,h2,List.filter_cons_of_pos (by rw[KC (Or.inl (by omega))];rfl),List.filter_cons_of_pos (by rw[KC (Or.inl (by omega))];rfl)];rfl
theorem ahC (h:t.code=1):nW t=true:=by
 unfold nW;simp[h]
theorem Sn (hc:c.code=1) (hn:vt F i c.dst) (hr:r.code=8):eZ F i [c,r]=[c,r]:=by
 rw[eZ,if_pos,Ma _ _ _ _ (Pl (by omega))]
 ·rfl
 ·rw[xO (by omega)]
  unfold wB;simp[hn]
theorem Sp {F:ar} {vals:List Int} {p:Int} (hn:∀i q,vt F i q->q=p) {c r:ax} (hc:c.code=1) (TG:c.dst=p) (hr:r.code=8):(m:List ax)->∀i,PW vals i m->((i+m.length:Nat):Int)=p->vt F (i+m.length) p->eZ F i (m++[c,r])=[c,r]
 | [],i,_,_,hne=>Sn hc (by rw[TG];exact hne) hr
 | t::m,i,h,hp,hne=>by
   obtain⟨h1,h2,-⟩:=h 0 t rfl;rw[List.cons_append,eZ,if_neg]
   ·refine Sp (vals:=vals) hn hc TG hr m (i+1) (fun j t hj=>?_) (by rw[<-hp,List.length_cons];congr 1;omega) (by rw[List.length_cons]at hne;rw[show i+1+m.length=i+(m.length+1) by omega];exact hne)
    have:=h (j+1) t hj;rw[show i+1+j=i+(j+1) by omega];exact this
   ·rw[xO (by omega),ahC h1]
    unfold wB;have:¬vt F i t.dst:=fun e=>by
        have:=hn i _ e;rw[h2,<-hp,List.length_cons]at this;omega
    simp[this]
theorem afC {v:Int} (hl:E7 l vals) (hF:F.steps=l++[r]) (hr:r.code=8) (hlen:vals.length=n+1) (ha:r.a=(n:Int)) (hv:vals[n]?=some v):Told (om F) n v:=by
 obtain⟨ts,h1,h2,h3⟩:=Vm hl hr l 0 bn.none rfl ⟨fun a h=>absurd h (by omega),fun p=>rfl⟩;have hk:(kQ F).steps=ts++[r]:=by
  show eM bn.none F.steps=_
  rw[hF,h1]
 have jv:ts.length=n+1:=by rw[h2,hl.len,hlen]
 obtain⟨c,hc⟩:∃c,ts[n]?=some c:=⟨_,List.getElem?_eq_getElem (by omega)⟩;obtain⟨c1,c2,c3⟩:=h3 n c hc;rw[Nat.zero_add]at c2 c3;have adA:c.n=v:=by rw[hv]at c3;exact (Option.some.inj c3).symm
 have kO:ts=ts.take n++[c]:=by
  have:=List.take_append_getElem (l:=ts) (i:=n) (by omega);rw[(List.getElem?_eq_some_iff.1 hc).2]at this;rw[this,List.take_of_length_le (by omega)]
 obtain⟨n1,n2⟩:=VW hk (fun t ht=>by obtain⟨j,hj⟩:=List.getElem?_of_mem ht;exact (h3 j t hj).1) hr ha;have hd:eZ (kQ F) 0 (ts.take n++[c,r])=[c,r]:=by
  refine Sp (vals:=vals) n1 c1 c2 hr (ts.take n) 0 (fun j t hj=>?_) ?_ ?_
  ·rw[List.getElem?_take]at hj
   split at hj
   ·exact h3 j t hj
   ·cases hj
  ·rw[List.length_take];congr 1;omega
  ·rw[List.length_take,show 0+min n ts.length=ts.length-1 by omega]
   exact n2 (by omega)
 have hdd:(qQ (kQ F)).steps=[c,r]:=by
  show eZ (kQ F) 0 (kQ F).steps=_
  have e:(kQ F).steps=ts.take n++[c,r]:=by
   rw[hk];have:ts++[r]=(ts.take n++[c])++[r]:=(by rw[<-kO]);rw[this,List.append_assoc];rfl
  rw[e];exact hd
 exact⟨c,r,WD hdd c1 hr,c1,c2,adA,hr,ha⟩
theorem PL {v:Int} (hp:0<=p) (h:Told F p v):Told (om F) p v:=by
 obtain⟨c,r,hF,h1,h2,h3,h4,h5⟩:=h;have hk:(kQ F).steps=[c,r]:=by
  show eM bn.none F.steps=_
  have hn:x7 [] 0 bn.none:=⟨fun a h=>absurd h (by omega),fun p=>rfl⟩;have hs:bn.none.step c=c:=by unfold bn.step;rw[hn.reads,KJ (Or.inl h1)]
  have hf:∀k,fS k c=k:=fun k=>by unfold fS;rw[if_neg (by omega)]
  have hf2:∀k,fS k r=k:=fun k=>by unfold fS;rw[if_neg (by omega)]
  have hl:x7 [] 0 (bn.none.kR c):=by
   refine⟨fun a h=>absurd h (by omega),fun q=>?_⟩;unfold bn.kR;rw[xO (by omega),if_neg (by omega),if_pos h1]
   show vE (oP bn.none.same _) _ q=none
   unfold vE oP bn.none;simp
  have hs2:(bn.none.kR c).step r=r:=by unfold bn.step;rw[hl.reads,KJ (Or.inr h4)]
  rw[hF,eM,hf,hs,if_neg,eM,hf2,hs2,if_neg,eM]
  ·intro e;have:=(Aq e).1;omega
  ·intro e;have:=(Aq e).1;omega
 obtain⟨n1,n2⟩:=VW (F:=kQ F) (ts:=[c]) (r:=r) (p:=p) hk (fun t ht=>by rw[List.mem_singleton]at ht;rw[ht];exact h1) h4 h5;have hdd:(qQ (kQ F)).steps=[c,r]:=by
  show eZ (kQ F) 0 (kQ F).steps=_
  rw[hk];exact Sn h1 (by rw[h2];exact n2 (Nat.le_refl _)) h4
 exact⟨c,r,WD hdd h1 h4,h1,h2,h3,h4,h5⟩
theorem afA {v:Int} (hl:E7 l vals) (hF:F.steps=l++[r]) (hr:r.code=8) (hlen:vals.length=n+1) (ha:r.a=(n:Int)) (hv:vals[n]?=some v):Told (jH F) n v :=
 PL (by omega) (PL (by omega) (PL (by omega) (afC hl hF hr hlen ha hv)))
theorem afB (hl:E7 l vals) (hr:r.code=8) (Gl:di r.n) (hlen:vals.length=n+1) (ha:r.a=(n:Int)) (alv:n<3000):Good [⟨[109,97,105,110],0,List.replicate (n+1) 1,l++[r]⟩]:=by
 obtain⟨F,hF⟩:∃F:ar,F=⟨[109,97,105,110],0,List.replicate (n+1) 1,l++[r]⟩:=⟨_,rfl⟩;rw[<-hF];have hk:∀a:Nat,a<n+1->bO F (a:Int)=1:=fun a h=>by
  unfold bO;rw[hF];simp only[List.length_replicate];rw[if_neg (by omega),List.getD_eq_getElem?_getD,List.getElem?_replicate,if_pos (by omega)];rfl
 have BQ:∀p,bu F 0 p=true:=fun p=>rfl
 have js:∀a:Nat,a<n+1->bu F 1 (a:Int)=true:=fun a h=>by unfold bu;rw[hk a h];rfl
 have hst:∀x∈F.steps,cx [F] F x=true/\di x.n/\x.code≠6:=fun x hx=>by
  have hx2:x∈l++[r]:=by rw[hF]at hx;exact hx
  rcases List.mem_append.1 hx2 with hx2|hx2
  ·obtain⟨i,hi⟩:=List.getElem?_of_mem hx2
   have bm:i<n+1:=by
        have:=(List.getElem?_eq_some_iff.1 hi).1;have:=hl.len;omega
   obtain⟨hd,hn,-,hc⟩:=hl.step i x hi;refine⟨?_,hn,by rcases hc with⟨h,_⟩|⟨_,h,_⟩|⟨_,_,_,_,_,h,_⟩ <;> omega⟩;unfold cx;rcases hc with⟨h1,-⟩|⟨a,h1,h2,h3,-⟩|⟨a,b,_,_,_,h1,ho,h2,h3,h4,h5,-⟩
   ·rw[if_neg (by omega),if_neg (by omega),if_neg (by omega),h1,hd]
    show (bu F 1 (i:Int) && bu F 0 _ && bu F 0 _ && bu F 0 _ && true && true)=true
    rw[js i bm,BQ,BQ,BQ];rfl
   ·rw[if_pos h1,hd,h2,hk i bm,hk a (by omega)]
    rfl
   ·rw[if_neg (by omega),if_neg (by omega),if_neg (by omega),h1,hd,h2,h3]
    show (bu F 1 (i:Int) && bu F 1 (a:Int) && bu F 1 (b:Int) && bu F 0 _ && true && (false || ix.contains x.op))=true
    rw[js i bm,js a (by omega),js b (by omega),BQ];simpa using ho
  ·rw[List.mem_singleton]at hx2
   subst hx2;refine⟨?_,Gl,by omega⟩;unfold cx;rw[if_neg (by omega),if_neg (by omega),if_neg (by omega),hr,ha]
   show (bu F 0 _ && bu F 1 (n:Int) && bu F 0 _ && bu F 0 _ && true && true)=true
   rw[js n (by omega),BQ,BQ,BQ];rfl
 refine⟨?_,fun G hG x hx=>?_⟩
 ·unfold p9
  have h1:l4 [F] F=true:=by
   rw[Ms];refine⟨by rw[hF];simp;omega,by rw[hF];simp,by rw[hF];simp;have:=hl.len;omega,⟨r,by rw[hF];simp,Or.inl hr⟩,fun t ht=>?_,?_,fun x hx=>(hst x hx).1⟩
   ·rw[hF]at ht
    exact Or.inl (List.eq_of_mem_replicate ht)
   ·have:ct F.steps=[]:=by
     unfold ct;rw[List.filter_eq_nil_iff.2 fun x hx=>by simpa using (hst x hx).2.2];rfl
    rw[this];exact List.nodup_nil
  have h2:jW [] [F]=true:=by
   rw[jW,if_neg,jW];rw[hF];simp;omega
  rw[h2];simp only[List.all_cons,h1,List.all_nil,List.any_cons,List.any_nil];rw[hF];rfl
 ·rw[List.mem_singleton]at hG
  subst hG;exact (hst x hx).2.1
theorem aj6 {v:Int} (hn:F.name=[109,97,105,110]) (hp:0<=p/\p.toNat<F.types.length) (h:Told F p v) (fuel:Nat):runM [F] 4 [] (fuel+2)=some (1,v,[]):=by
 obtain⟨c,r,hF,h1,h2,h3,h4,h5⟩:=h;have hg:kI [F] [109,97,105,110]=F:=by
  unfold kI oh;rw[List.find?_cons_of_pos (by simp[hn])];rfl
 have e0:F.steps[0]?=some c:=by rw[hF];rfl
 have e1:F.steps[1]?=some r:=by rw[hF];rfl
 have hgo:∀w:bp,w.length=F.types.length->dw [F] 3 ⟨[],fuel+2,1,[],[]⟩ F w 0=some (.ok v,⟨[],fuel,1,[],[]⟩):=fun w hw=>by
  rw[dw,e0];simp only[eI,aS,a6];rw[if_neg (by omega)];simp only;rw[if_neg (by omega),if_neg (by omega),if_neg (by omega),if_neg (by omega)];unfold cq;rw[if_pos h1];simp only[a6];rw[dw,e1];simp only[eI,aS,a6];rw[if_neg (by omega)];simp only;rw[if_neg (by omega),if_neg (by omega),if_neg (by omega),if_pos h4,h5,h2,h3,iY (by rw[hw];exact hp) hp.1,if_pos rfl];rfl
 unfold runM;rw[dS,if_neg (show ¬(0:Nat)=40 by decide),hg];simp only[Nat.zero_add];rw[hgo _ (by unfold gR;simp)];rfl

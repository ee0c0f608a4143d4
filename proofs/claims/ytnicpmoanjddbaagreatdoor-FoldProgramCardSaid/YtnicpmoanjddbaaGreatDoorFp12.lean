/- A part of what stands behind. -/
import Derived.Test.YtnicpmoanjddbaaGreatDoorFp11
set_option maxRecDepth 100000
set_option maxHeartbeats 4000000
set_option linter.all false
namespace Go.Proofs.YtnicpmoanjddbaaGreatDoor
namespace aW.iP
open Go.RowKit aB aW Go.Proofs.Tryz
variable {w w' w2 w1:Lw} {v v':bp} {F:ar} {s s1:aC} {k C c1 c2:Nat} {x i:aL} {L:List ar} {kd a b:Int} {r:Except cz V×aC} {st:ax} {op:List UInt8}
def ct (l:List ax):List Int:=l.filterMap (fun s=>if s.code=6 then some s.label else none)
theorem o0 (a b:List ax):ct (a++b)=ct a++ct b:=by simp[ct]
theorem wz (s:ax):ct [s]=if s.code=6 then [s.label] else []:=by
 by_cases h:s.code=6 <;> simp[ct,h]
theorem afp {l:List ax} {i:Nat} {x:ax} (hx:l[i]?=some x) (hc:x.code=6):x.label∈ct l:=by
 simp only[ct,List.mem_filterMap];exact⟨x,List.mem_of_getElem? hx,by rw[if_pos hc]⟩
theorem Vr:(l:List ax)->(ct l).Nodup->w5 l
 | [],_=>fun i j x y hx=>by simp at hx
 | a::r,h=>by
   have hr:(ct r).Nodup:=by
    have h2:ct (a::r)=ct [a]++ct r:=o0 [a] r;rw[h2]at h;exact (List.nodup_append.1 h).2.1
   have ih:=Vr r hr;have key:a.code=6->∀ (j:Nat) (y:ax),r[j]?=some y->y.code=6->a.label≠y.label:=by
    intro hc j y hy Ao e;have h2:ct (a::r)=ct [a]++ct r:=o0 [a] r;rw[h2,wz,if_pos hc]at h;exact (List.nodup_append.1 h).2.2 a.label (by simp) y.label (afp hy Ao) e
   intro i j x y hx hy wj Ao he;cases i with
   | zero =>
     obtain rfl:a=x:=(by simpa using hx);cases j with
     | zero=>rfl
     | succ j=>exact (key wj j y (by simpa using hy) Ao he).elim
   | succ i =>
     cases j with
     | zero =>
       obtain rfl:a=y:=(by simpa using hy);exact (key Ao i x (by simpa using hx) wj he.symm).elim
     | succ j=>rw[ih i j x y (by simpa using hx) (by simpa using hy) wj Ao he]
def k5 (w w':Lw):Prop:=∃d,w'.steps=w.steps++d/\w.labels<=w'.labels/\(∀l∈ct d,(w.labels:Int)<l/\l<=(w'.labels:Int))/\(ct d).Nodup
theorem k5.refl (w:Lw):k5 w w:=⟨[],by simp,Nat.le_refl _,(fun l h=>by simp[ct]at h),by simp[ct]⟩
theorem k5.trans {a b c:Lw} (h:k5 a b) (k:k5 b c):k5 a c:=by
 obtain⟨d,h1,h2,h3,h4⟩:=h;obtain⟨e,k1,k2,k3,k4⟩:=k;refine⟨d++e,by rw[k1,h1,List.append_assoc],by omega,fun l hl=>?_,?_⟩
 ·rw[o0,List.mem_append]at hl
  rcases hl with hl|hl
  ·have:=h3 l hl;omega
  ·have:=k3 l hl;omega
 ·rw[o0]
  refine List.nodup_append.2 ⟨h4,k4,fun x hx y hy e=>?_⟩;have:=h3 x hx;have:=k3 y hy;omega
theorem k5.of_steps {s:ax} (hs:w'.steps=w.steps++[s]) (hl:w'.labels=w.labels) (hc:s.code≠6):k5 w w' :=
 ⟨[s],hs,by omega,(fun l h=>by rw[wz,if_neg hc]at h;cases h),(by rw[wz,if_neg hc];exact List.nodup_nil)⟩
theorem wC (s:ax) (w:Lw) (hc:s.code≠6):k5 w (a8 s w):=.of_steps rfl rfl hc
theorem wD (k:Int) (s:ax) (w:Lw) (hc:s.code≠6):k5 w (bC k s w).2:=.of_steps rfl rfl hc
theorem VZ (a:Int) (w:Lw):k5 w (lR a w).2:=wD _ _ _ (by simp)
theorem agN (x:List UInt8) (k:Int) (w:Lw):k5 w (fU x k w).2:=⟨[],by simp[fU],Nat.le_refl _,(fun l h=>by simp[ct]at h),by simp[ct]⟩
theorem VX (op:List UInt8) (a:Int) (w:Lw):k5 w (iz op a w).2.2:=by
 unfold iz;split
 ·exact (wD _ _ _ (by simp)).trans (VZ _ _)
 ·exact wD _ _ _ (by simp)
theorem agM (h:k5 (b7 w).2 w2) (s:ax) (hc:s.code=6) (hl:s.label=((b7 w).1:Int)):k5 w (a8 s w2):=by
 obtain⟨d,h1,h2,h3,h4⟩:=h;simp only[b7]at h1 h2 h3 hl;refine⟨d++[s],by simp[a8,h1],by simp only[a8];omega,fun l hm=>?_,?_⟩
 ·rw[o0,List.mem_append,wz,if_pos hc]at hm
  simp only[a8];rcases hm with hm|hm
  ·have:=h3 l hm;omega
  ·simp only[List.mem_singleton]at hm
   omega
 ·rw[o0,wz,if_pos hc]
  refine List.nodup_append.2 ⟨h4,by simp,fun x hx y hy e=>?_⟩;have:=h3 x hx;simp only[List.mem_singleton]at hy;omega
theorem VY {w3:Lw} (h:k5 (b7 (b7 w).2).2 w2) (s:ax) (hc:s.code=6) (hl:s.label=((b7 w).1:Int)) (k:k5 (a8 s w2) w3) (t:ax) (hc2:t.code=6) (hl2:t.label=((b7 (b7 w).2).1:Int)):k5 w (a8 t w3):=by
 obtain⟨d,h1,h2,h3,h4⟩:=h;obtain⟨e,k1,k2,k3,k4⟩:=k;simp only[b7,a8]at h1 h2 h3 hl hl2 k1 k2 k3;refine⟨d++([s]++(e++[t])),by simp[a8,h1,k1],by simp only[a8];omega,fun l hm=>?_,?_⟩
 ·simp only[o0,wz,if_pos hc,if_pos hc2,List.mem_append,List.mem_singleton]at hm
  simp only[a8];rcases hm with hm|hm|hm|hm
  ·have:=h3 l hm;omega
  ·omega
  ·have:=k3 l hm;omega
  ·omega
 ·simp only[o0,wz,if_pos hc,if_pos hc2]
  refine List.nodup_append.2 ⟨h4,List.nodup_append.2 ⟨by simp,List.nodup_append.2 ⟨k4,by simp,fun x hx y hy e=>?_⟩,fun x hx y hy e=>?_⟩,fun x hx y hy e=>?_⟩
  ·have:=k3 x hx
   simp only[List.mem_singleton]at hy;omega
  ·simp only[List.mem_singleton]at hx
   simp only[List.mem_append,List.mem_singleton]at hy;rcases hy with hy|hy
   ·have:=k3 y hy;omega
   ·omega
  ·have:=h3 x hx
   simp only[List.mem_append,List.mem_singleton]at hy;rcases hy with hy|hy|hy
   ·omega
   ·have:=k3 y hy;omega
   ·omega
mutual
theorem jF:(e:aL)->(w:Lw)->k5 w (au e w).2
 | .num _ _,w=>by simp only[au];exact wD _ _ _ (by simp)
 | .var _ _,w=>by simp only[au];exact .refl _
 | .un _ op x,w=>by
   have h:=jF x w;simp only[au];split
   ·exact h.trans (VZ _ _)
   ·exact h.trans (wD _ _ _ (by simp))
 | .bin _ op l r,w=>by
   simp only[au];split
   ·refine agM (w:=w) ?_ _ rfl rfl
    exact ((((jF l _).trans (VX _ _ _)).trans (wC _ _ (by simp))).trans (jF r _)).trans (wC _ _ (by simp))
   ·exact ((jF l w).trans (jF r _)).trans (wD _ _ _ (by simp))
 | .call _ g l,w=>by
   simp only[au];exact (H8 l w).trans (wD _ _ _ (by simp))
 | .new _ x,w=>by simp only[au];exact (jF x w).trans (wD _ _ _ (by simp))
 | .len _ x,w=>by simp only[au];exact (jF x w).trans (wD _ _ _ (by simp))
 | .item _ x i,w=>by simp only[au];exact ((jF x w).trans (jF i _)).trans (wD _ _ _ (by simp))
 | .input _,w=>by simp only[au];exact wD _ _ _ (by simp)
theorem H8:(l:List aL)->(w:Lw)->k5 w (eu l w).2
 | [],w=>.refl _
 | e::r,w=>by simp only[eu];exact (jF e w).trans (H8 r _)
end
mutual
theorem ajG:(s:St)->(w:Lw)->k5 w (bW s w)
 | .var _ x v,w=>by simp only[bW];exact ((jF v w).trans (agN _ _ _)).trans (wC _ _ (by simp))
 | .set _ x v,w=>by simp only[bW];exact (jF v w).trans (wC _ _ (by simp))
 | .put _ x i v,w=>by simp only[bW];exact ((jF i w).trans (jF v _)).trans (wC _ _ (by simp))
 | .cond _ v t e,w=>by
   simp only[bW];refine VY (w:=w) (w2:=_) ?_ _ rfl rfl (po e _) _ rfl rfl;exact (((jF v _).trans (wC _ _ (by simp))).trans (po t _)).trans (wC _ _ (by simp))
 | .loop _ v t,w=>by
   simp only[bW];refine VY (w:=w) (w2:=(b7 (b7 w).2).2) (.refl _) { aM with code:=6,label:=((b7 w).1:Int) } rfl rfl ?_ _ rfl rfl;exact (((jF v _).trans (wC _ _ (by simp))).trans (po t _)).trans (wC _ _ (by simp))
 | .ret _ v,w=>by simp only[bW];exact (jF v w).trans (wC _ _ (by simp))
 | .print _ v,w=>by simp only[bW];exact (jF v w).trans (wC _ _ (by simp))
 | .call _ v,w=>by simp only[bW];exact jF v w
theorem po:(l:List St)->(w:Lw)->k5 w (cZ l w)
 | [],w=>.refl _
 | s::r,w=>by simp only[cZ];exact (ajG s w).trans (po r _)
end
theorem k5.pre (h:k5 w w'):w.steps <+: w'.steps:=by
 obtain⟨d,h1,-⟩:=h;exact⟨d,h1.symm⟩
def wf (s:aC) (k:Nat):aC:={ s with fuel:=k }
theorem sD (s:aC) (k:Nat):less (wf s (k+1))=wf s k:=rfl
theorem iY {p:Nat} (hp:p<v.length) (x:V) (q:Nat):(v.put (p:Int) x).get (q:Int)=if q=p then x else v.get (q:Int):=by
 simp only[bp.put,bp.get,Int.toNat_natCast,List.getD_eq_getElem?_getD];by_cases h:q=p
 ·subst h
  rw[if_pos rfl,List.getElem?_set_self hp];rfl
 ·rw[if_neg h,List.getElem?_set_ne (fun e=>h e.symm)]
theorem nv (v:bp) (p:Int) (x:V):(v.put p x).length=v.length:=by simp[bp.put]
structure In (w:Lw) (F:ar) (v:bp):Prop where
 steps:w.steps <+: F.steps
 types:w.types.length<=v.length
def pW (L:List ar) (F:ar) (C:Nat) (w w':Lw) (a:Int) (v:bp) (s:aC) (k c:Nat):Except cz V×aC->Prop
 | (.ok x,s1)=>∃v' k',Reach L F w.steps.length v (wf s k) w'.steps.length v' (wf s1 k')/\k+C*s1.fuel<=k'+C*s.fuel+c/\v'.get a=x/\(∀p:Nat,p<w.types.length->v'.get (p:Int)=v.get (p:Int))/\v'.length=v.length
 | (.error e,s1)=>e=.stop 6\/((∃dO,e=.stop dO)/\∃k',Ends L F w.steps.length v (wf s k) (.error e,wf s1 k'))
theorem Eo {x:ax} (h:In (bC kd x w).2 F v):F.steps[w.steps.length]?=some { x with dst:=(w.types.length:Int) }/\w.types.length<v.length:=by
 obtain⟨⟨t,ht⟩,h2⟩:=h;refine⟨?_,by simp[bC]at h2;omega⟩;rw[<-ht];simp[bC]
theorem yY {x:ax} {y:V} (h:In (bC kd x w).2 F v) (hc:x.code≠4/\x.code≠5/\x.code≠7/\x.code≠8) (hs:s1.fuel=s.fuel)
 (hm:∀k,cq v { x with dst:=(w.types.length:Int) } (wf s k)=some (.ok (v.put (w.types.length:Int) y),wf s1 k)) (hk:1<=k):pW L F C w (bC kd x w).2 (bC kd x w).1 v s k 1 (.ok y,s1):=by
 obtain⟨h1,h2⟩:=Eo h;obtain⟨j,rfl⟩:∃j,k=j+1:=⟨k-1,by omega⟩;refine⟨v.put (w.types.length:Int) y,j,?_,by rw[hs];omega,?_,fun p hp=>?_,nv _ _ _⟩
 ·have:=Ay (L:=L) (F:=F) (i:=w.steps.length) (v:=v) (s:=wf s (j+1)) h1 hc (by simp[wf]) (hm j)
  simpa [bC] using this
 ·show (v.put (w.types.length:Int) y).get (w.types.length:Int)=y
  rw[iY h2,if_pos rfl]
 ·rw[iY h2,if_neg (by omega)]
theorem O9 {x:ax} {dO:Int} (h:In (bC kd x w).2 F v) (hc:x.code≠4/\x.code≠5/\x.code≠7/\x.code≠8)
 (hm:∀k,cq v { x with dst:=(w.types.length:Int) } (wf s k)=some (.error (.stop dO),wf s1 k)) (hk:1<=k):pW L F C w (bC kd x w).2 (bC kd x w).1 v s k 1 (.error (.stop dO),s1):=by
 obtain⟨h1,h2⟩:=Eo h;obtain⟨j,rfl⟩:∃j,k=j+1:=⟨k-1,by omega⟩;exact Or.inr ⟨⟨dO,rfl⟩,j,Mk (L:=L) (F:=F) (i:=w.steps.length) (v:=v) (s:=wf s (j+1)) h1 hc (by simp[wf]) (hm j)⟩
theorem V7 {x:V} (h:pW L F C w w1 a v s k c1 (.ok x,s1)) (hw:w.types.length<=w1.types.length)
 (h2:∀v' k',v'.get a=x->(∀p:Nat,p<w.types.length->v'.get (p:Int)=v.get (p:Int))->v'.length=v.length->k+C*s1.fuel<=k'+C*s.fuel+c1->pW L F C w1 w2 b v' s1 k' c2 r):pW L F C w w2 b v s k (c1+c2) r:=by
 obtain⟨v1,k1,e1,e2,e3,e4,cG⟩:=h;have h3:=h2 v1 k1 e3 e4 cG e2;obtain⟨r,t⟩:=r;cases r with
 | ok y =>
   obtain⟨v2,k2,g1,g2,g3,g4,g5⟩:=h3;exact⟨v2,k2,e1.trans g1,by omega,g3,fun p hp=>(g4 p (by omega)).trans (e4 p hp),g5.trans cG⟩
 | error e =>
   rcases h3 with h3|⟨⟨dO,h3⟩,k',h4⟩
   ·exact Or.inl h3
   ·exact Or.inr ⟨⟨dO,h3⟩,k',e1.ends h4⟩
theorem V6 {e:cz} (h:pW L F C w w1 a v s k c1 (.error e,s1)):pW L F C w w2 b v s k c2 (.error e,s1):=h
structure Rel (w:Lw) (aH:List (List UInt8)) (Fr:Fr) (v:bp):Prop where
 names:∀x∈aH,∃p:Nat,fl w.names x=(p:Int)/\p<w.types.length/\v.get (p:Int)=Fr.get x
 none:∃p:Nat,w.none=(p:Int)/\p<w.types.length/\v.get (p:Int)=⟨0,.none⟩
 inj:∀x∈aH,∀y∈aH,fl w.names x=fl w.names y->x=y
 apart:∀x∈aH,fl w.names x≠w.none
theorem Rel.next {aH:List (List UInt8)} {Fr:Fr} (h:Rel w aH Fr v) (hn:w'.names=w.names) (h0:w'.none=w.none) (ht:w.types.length<=w'.types.length) (hv:∀p:Nat,p<w.types.length->v'.get (p:Int)=v.get (p:Int)):Rel w' aH Fr v':=by
 refine⟨fun x hx=>?_,?_,fun x hx y hy e=>h.inj x hx y hy (by rw[<-hn];exact e),fun x hx e=>h.apart x hx (by rw[<-hn,<-h0];exact e)⟩
 ·obtain⟨p,h1,h2,h3⟩:=h.names x hx
  exact⟨p,by rw[hn];exact h1,by omega,(hv p h2).trans h3⟩
 ·obtain⟨p,h1,h2,h3⟩:=h.none
  exact⟨p,by rw[h0];exact h1,by omega,(hv p h2).trans h3⟩
mutual
def fj (Lt:List aB.Fn) (aH:List (List UInt8)):aL->Prop
 | .num _ _=>True
 | .var _ x=>x∈aH
 | .un _ op x=>(op=[33]\/op=[45])/\fj Lt aH x
 | .bin _ op l r=>(op∈ix\/op=[38,38]\/op=[124,124])/\fj Lt aH l/\fj Lt aH r
 | .call _ g l=>(∃fn,il Lt g=some fn/\l.length=fn.params.length)/\Bj Lt aH l
 | .new _ x=>fj Lt aH x
 | .len _ x=>fj Lt aH x
 | .item _ x i=>fj Lt aH x/\fj Lt aH i
 | .input _=>True
def Bj (Lt:List aB.Fn) (aH:List (List UInt8)):List aL->Prop
 | []=>True
 | e::r=>fj Lt aH e/\Bj Lt aH r
end
def gp (Lt:List aB.Fn) (C:Nat) (F:ar) (aH:List (List UInt8)) (f:Nat) (e:aL):Prop:=∀ (w:Lw) (Fr:Fr) (v:bp) (s:aC) (r:Except cz V×aC) (k:Nat),bk Lt f s Fr e=some r->fj Lt aH e->In (au e w).2 F v->Rel w aH Fr v->C*s.fuel+8*bK e<=k->pW (cI Lt) F C w (au e w).2 (au e w).1 v s k (8*bK e) r
theorem yX {c c':Nat} (h:pW L F C w w1 a v s k c r) (hc:c<=c'):pW L F C w w1 a v s k c' r:=by
 obtain⟨r,t⟩:=r;cases r with
 | ok y =>
   obtain⟨v2,k2,g1,g2,g3,g4,g5⟩:=h;exact⟨v2,k2,g1,by omega,g3,g4,g5⟩
 | error e=>exact h
theorem In.less (h:In w' F v) (hs:w.steps <+: w'.steps) (ht:w.types.length<=w'.types.length):In w F v:=⟨hs.trans h.steps,Nat.le_trans ht h.types⟩
theorem In.len (h:In w F v) (hl:v'.length=v.length):In w F v':=⟨h.steps,by rw[hl];exact h.types⟩
mutual
theorem fz:(e:aL)->(w:Lw)->(au e w).2.names=w.names/\(au e w).2.none=w.none
 | .num _ _,w=>⟨rfl,rfl⟩
 | .var _ _,w=>⟨rfl,rfl⟩
 | .un _ op x,w=>by
   have h:=fz x w;simp only[au];split
   ·exact h
   ·exact h
 | .bin _ op l r,w=>by
   simp only[au];split
   ·have h1:=fz l (b7 w).2
    unfold iz;split
    ·exact⟨(fz r _).1.trans h1.1,(fz r _).2.trans h1.2⟩
    ·exact⟨(fz r _).1.trans h1.1,(fz r _).2.trans h1.2⟩
   ·exact⟨(fz r _).1.trans (fz l w).1,(fz r _).2.trans (fz l w).2⟩
 | .call _ g l,w=>LZ l w
 | .new _ x,w=>fz x w
 | .len _ x,w=>fz x w
 | .item _ x i,w=>⟨(fz i _).1.trans (fz x w).1,(fz i _).2.trans (fz x w).2⟩
 | .input _,w=>⟨rfl,rfl⟩
theorem LZ:(l:List aL)->(w:Lw)->(eu l w).2.names=w.names/\(eu l w).2.none=w.none
 | [],w=>⟨rfl,rfl⟩
 | e::r,w=>⟨(LZ r _).1.trans (fz e w).1,(LZ r _).2.trans (fz e w).2⟩
end
section
variable {Lt:List aB.Fn} {C:Nat} {F:ar} {aH:List (List UInt8)} {f:Nat}
theorem ai1 (a n:Int):gp Lt C F aH (f+1) (.num a n):=by
 intro w Fr v s r k hr hs hi hrel hk;simp only[bk,a6,Option.some.injEq]at hr;subst hr;simp only[au,bK]at hi hk ⊢;exact yX (yY hi (by simp) rfl (fun k=>by simp[cq,a6]) (by omega)) (by omega)
theorem aiX (a:Int):gp Lt C F aH (f+1) (.input a):=by
 intro w Fr v s r k hr hs hi hrel hk;simp only[au,bK]at hi hk ⊢;simp only[bk]at hr;cases hp:s.inp with
 | nil =>
   rw[hp]at hr;simp only[a6,Option.some.injEq]at hr;subst hr;exact yX (yY hi (by simp) rfl (fun k=>by simp[cq,a6,wf,hp]) (by omega)) (by omega)
 | cons n t =>
   rw[hp]at hr;simp only[a6,Option.some.injEq]at hr;subst hr;exact yX (yY hi (by simp) rfl (fun k=>by simp[cq,a6,wf,hp]) (by omega)) (by omega)
theorem ai4 (a:Int) (x:List UInt8):gp Lt C F aH (f+1) (.var a x):=by
 intro w Fr v s r k hr hs hi hrel hk;simp only[bk,a6,Option.some.injEq]at hr;subst hr;simp only[au,bK,fj]at hi hk hs ⊢;obtain⟨p,h1,h2,h3⟩:=hrel.names x hs;exact⟨v,k,Reach.refl _ _ _ _ _,by omega,by rw[h1];exact h3,fun p hp=>rfl,rfl⟩
theorem G2 (ih:gp Lt C F aH f x) {Fr:Fr} {g:V->aC->cF V}
 (hr:aS (bk Lt f s Fr x) g=some r) (hs:fj Lt aH x) (hi:In (bC kd st (au x w).2).2 F v) (hrel:Rel w aH Fr v) (hk:C*s.fuel+8*bK x+8<=k)
 (hg:∀y t v' k',g y t=some r->v'.get (au x w).1=y->Rel (au x w).2 aH Fr v'->In (bC kd st (au x w).2).2 F v'->1<=k'->(∀p:Nat,p<w.types.length->v'.get (p:Int)=v.get (p:Int))->pW (cI Lt) F C (au x w).2 (bC kd st (au x w).2).2 (bC kd st (au x w).2).1 v' t k' 1 r) :
 pW (cI Lt) F C w (bC kd st (au x w).2).2 (bC kd st (au x w).2).1 v s k (8*bK x+1) r:=by
 have ki:In (au x w).2 F v:=hi.less ⟨[_],rfl⟩ (by simp[bC]);have l8:=gu x w;have hsm:=fz x w;cases hx:bk Lt f s Fr x with
 | none=>rw[hx]at hr;cases hr
 | some z =>
   rw[hx]at hr;have h1:=ih w Fr v s z k hx hs ki hrel (by omega);obtain⟨z,t⟩:=z;cases z with
   | error e =>
     simp only[aS,Option.some.injEq]at hr;subst hr;exact V6 h1
   | ok y =>
     simp only[aS]at hr;refine V7 h1 l8 (fun v' k' e1 e2 e3 e4=>?_);exact hg y t v' k' hr e1 (hrel.next hsm.1 hsm.2 l8 e2) (hi.len e3) (by omega) e2
theorem aiZ (a:Int) (ih:gp Lt C F aH f x):gp Lt C F aH (f+1) (.len a x):=by
 intro w Fr v s r k hr hs hi hrel hk;simp only[au,bK,fj,bk]at hi hk hs hr ⊢;refine yX (G2 ih hr hs hi hrel (by omega) (fun y t v' k' h1 h2 h3 h4 h5 h6=>?_)) (by omega);simp only[a6,Option.some.injEq]at h1;subst h1;exact yY h4 (by simp) rfl (fun k=>by simp[cq,a6,h2,wf,fF]) h5
theorem ai0 (a:Int) (ih:gp Lt C F aH f x):gp Lt C F aH (f+1) (.new a x):=by
 intro w Fr v s r k hr hs hi hrel hk;simp only[au,bK,fj,bk]at hi hk hs hr ⊢;refine yX (G2 ih hr hs hi hrel (by omega) (fun y t v' k' h1 h2 h3 h4 h5 h6=>?_)) (by omega);by_cases hn:y.n<0\/y.n > 40
 ·rw[if_pos hn]at h1
  simp only[eP,Option.some.injEq]at h1;subst h1;exact O9 h4 (by simp) (fun k=>by simp only[cq,h2];simp[eP,hn]) h5
 ·rw[if_neg hn]at h1
  simp only[a6,Option.some.injEq]at h1;subst h1;exact yY h4 (by simp) rfl (fun k=>by simp only[cq,h2];simp[a6,hn,wf]) h5
theorem ai3 (a:Int) (ih:gp Lt C F aH f x):gp Lt C F aH (f+1) (.un a op x):=by
 intro w Fr v s r k hr hs hi hrel hk;simp only[au,bK,fj,bk]at hi hk hs hr ⊢;obtain⟨hop,hs⟩:=hs;by_cases Fy:op=[33]
 ·subst Fy
  rw[if_pos rfl]at hi ⊢;unfold lR at hi ⊢;refine yX (G2 ih hr hs hi hrel (by omega) (fun y t v' k' h1 h2 h3 h4 h5 h6=>?_)) (by omega);simp only[a6,Option.some.injEq]at h1;subst h1;obtain⟨p,n1,n2,n3⟩:=h3.none;exact yY h4 (by simp) rfl (fun k=>by simp[cq,a6,h2,n1,n3,dA]) h5
 ·have zO:op=[45]:=hop.elim (fun e=>(Fy e).elim) id
  subst zO;rw[if_neg (by decide)]at hi ⊢;refine yX (G2 ih hr hs hi hrel (by omega) (fun y t v' k' h1 h2 h3 h4 h5 h6=>?_)) (by omega);simp only[a6,Option.some.injEq]at h1;subst h1;obtain⟨p,n1,n2,n3⟩:=h3.none;exact yY h4 (by simp) rfl (fun k=>by simp[cq,a6,h2,n1,n3,dA]) h5
theorem WZ (ih:gp Lt C F aH f x) (np:gp Lt C F aH f i) {Fr:Fr} {g:V->V->aC->cF V}
 (hr:(aS (bk Lt f s Fr x) fun y s=>aS (bk Lt f s Fr i) (g y))=some r) (hs:fj Lt aH x) (hs2:fj Lt aH i) (hi:In (bC kd st (au i (au x w).2).2).2 F v) (hrel:Rel w aH Fr v) (hb:(au x w).1<((au x w).2.types.length:Int)/\0<=(au x w).1) (hk:C*s.fuel+8*bK x+8*bK i+8<=k)
 (hg:∀y z t v' k',g y z t=some r->v'.get (au x w).1=y->v'.get (au i (au x w).2).1=z->Rel (au i (au x w).2).2 aH Fr v'->In (bC kd st (au i (au x w).2).2).2 F v'->1<=k'->pW (cI Lt) F C (au i (au x w).2).2 (bC kd st (au i (au x w).2).2).2 (bC kd st (au i (au x w).2).2).1 v' t k' 1 r) :
 pW (cI Lt) F C w (bC kd st (au i (au x w).2).2).2 (bC kd st (au i (au x w).2).2).1 v s k (8*bK x+(8*bK i+1)) r:=by
 have JE:=gu i (au x w).2;have ki:In (au x w).2 F v:=(hi.less (w:=(au i (au x w).2).2) ⟨[_],rfl⟩ (by simp[bC])).less (jF i _).pre JE;have l8:=gu x w;have hsm:=fz x w;cases hx:bk Lt f s Fr x with
 | none=>rw[hx]at hr;cases hr
 | some z =>
   rw[hx]at hr;have h1:=ih w Fr v s z k hx hs ki hrel (by omega);obtain⟨z,t⟩:=z;cases z with
   | error e =>
     simp only[aS,Option.some.injEq]at hr;subst hr;exact V6 h1
   | ok y =>
     simp only[aS]at hr;refine V7 h1 l8 (fun v' k' e1 e2 e3 e4=>?_);refine G2 np hr hs2 (hi.len e3) (hrel.next hsm.1 hsm.2 l8 e2) (by omega) ?_;intro z t2 v2 k2 g1 g2 g3 g4 g5 g6;refine hg y z t2 v2 k2 g1 ?_ g2 g3 g4 g5;obtain⟨p,hp⟩:∃p:Nat,(au x w).1=(p:Int):=⟨(au x w).1.toNat,by have:=hb.2;omega⟩;rw[hp]at e1 hb ⊢;rw[g6 p (by have:=hb.1;omega)];exact e1
theorem aah (ho:op∈ix) (a b:Int):(∃n,h_ op a b=some n/\dA op a b=(n,0))\/(h_ op a b=none/\(dA op a b).2=2):=by
 simp only[ix,List.mem_cons,List.not_mem_nil,or_false]at ho;rcases ho with rfl|rfl|rfl|rfl|rfl|rfl|rfl|rfl|rfl|rfl|rfl
 all_goals
  by_cases hb:b=0
  ·simp[h_,dA,hb]
  ·simp[h_,dA,hb]
theorem aiU (a:Int) (hop:¬(op=[38,38]\/op=[124,124])) (hb:∀w Fr v,Rel w aH Fr v->fj Lt aH x->(au x w).1<((au x w).2.types.length:Int)/\0<=(au x w).1) (ih:gp Lt C F aH f x) (np:gp Lt C F aH f i):gp Lt C F aH (f+1) (.bin a op x i):=by
 intro w Fr v s r k hr hs hi hrel hk;simp only[au,bK,fj,bk,if_neg hop]at hi hk hs hr ⊢;obtain⟨ho,hs1,hs2⟩:=hs;have ho:op∈ix:=ho.elim id (fun e=>(hop e).elim);refine yX (WZ (g:=fun a b s=>match h_ op a.n b.n with|some n=>a6 (bN n) s|none=>eP 2 s) ih np hr hs1 hs2 hi hrel (hb w Fr v hrel hs1) (by omega) (fun y z t v' k' h1 h2 h3 h4 h5 h6=>?_)) (by omega);rcases aah ho y.n z.n with⟨n,e1,e2⟩|⟨e1,e2⟩
 ·simp only[e1,a6,Option.some.injEq]at h1
  subst h1;exact yY h5 (by simp) rfl (fun k=>by simp[cq,a6,h2,h3,e2]) h6
 ·simp only[e1,eP,Option.some.injEq]at h1
  subst h1;exact O9 h5 (by simp) (fun k=>by simp[cq,eP,h2,h3,e2]) h6
theorem aiY (a:Int) (hb:∀w Fr v,Rel w aH Fr v->fj Lt aH x->(au x w).1<((au x w).2.types.length:Int)/\0<=(au x w).1) (ih:gp Lt C F aH f x) (np:gp Lt C F aH f i):gp Lt C F aH (f+1) (.item a x i):=by
 intro w Fr v s r k hr hs hi hrel hk;simp only[au,bK,fj,bk]at hi hk hs hr ⊢;refine yX (WZ (g:=fun v k s=>aS (cX s v k.n) fun n s=>a6 (bN n) s) ih np hr hs.1 hs.2 hi hrel (hb w Fr v hrel hs.1) (by omega) (fun y z t v' k' h1 h2 h3 h4 h5 h6=>?_)) (by omega);by_cases hn:z.n<0\/z.n>=(fF t y).length
 ·simp only[cX,if_pos hn,eP,aS,Option.some.injEq]at h1
  subst h1;refine O9 h5 (by simp) (fun k=>?_) h6;have yE:z.n<0\/z.n>=((fF (wf t k) y).length:Int):=hn;simp only[cq,h2,h3,cX,if_pos yE,eP,aS];simp
 ·simp only[cX,if_neg hn,a6,aS,Option.some.injEq]at h1
  subst h1;refine yY h5 (by simp) rfl (fun k=>?_) h6;have yE:¬(z.n<0\/z.n>=((fF (wf t k) y).length:Int)):=hn;simp only[cq,h2,h3,cX,if_neg yE,a6,aS];simp[fF,wf]
theorem y8 (kd:Int) (st:ax) (w:Lw):(bC kd st w).1<((bC kd st w).2.types.length:Int)/\0<=(bC kd st w).1:=by
 simp only[bC,List.length_append,List.length_singleton];omega
theorem Io (e:aL) (w:Lw) (Fr:Fr) (v:bp) (h:Rel w aH Fr v) (hs:fj Lt aH e):(au e w).1<((au e w).2.types.length:Int)/\0<=(au e w).1:=by
 cases e with
 | num a n=>simp only[au];exact y8 _ _ _
 | var a x =>
   simp only[au,fj]at hs ⊢;obtain⟨p,h1,h2,h3⟩:=h.names x hs;rw[h1];omega
 | un a op x =>
   simp only[au];split
   ·exact y8 _ _ _
   ·exact y8 _ _ _
 | bin a op l r =>
   simp only[au];split
   ·unfold iz
    split
    ·refine⟨?_,Int.natCast_nonneg _⟩
     refine Int.ofNat_lt.2 (Nat.lt_of_lt_of_le ?_ (gu r _));simp[a8,lR,bC]
     try omega
    ·refine⟨?_,Int.natCast_nonneg _⟩
     refine Int.ofNat_lt.2 (Nat.lt_of_lt_of_le ?_ (gu r _));simp[a8,bC]
     try omega
   ·exact y8 _ _ _
 | call a g l=>simp only[au];exact y8 _ _ _
 | new a x=>simp only[au];exact y8 _ _ _
 | len a x=>simp only[au];exact y8 _ _ _
 | item a x i=>simp only[au];exact y8 _ _ _
 | input a=>simp only[au];exact y8 _ _ _
theorem D7 (h:In (a8 st w) F v) (hc:st.code≠4/\st.code≠5/\st.code≠7/\st.code≠8)
 (hm:∀k,cq v st (wf s k)=some (.ok v',wf s1 k)):Reach L F w.steps.length v (wf s (k+1)) (w.steps.length+1) v' (wf s1 k):=by
 obtain⟨t,ht⟩:=h.steps;refine Ay (L:=L) (F:=F) (i:=w.steps.length) (v:=v) (s:=wf s (k+1)) (x:=st) ?_ hc (by simp[wf]) (hm k);rw[<-ht];simp[a8]
end
end aW.iP
namespace aW.iP
open Go.RowKit aB aW Go.Proofs.Tryz
variable {v:bp} {r l:aL} {w:Lw} {st:ax}
section
variable {Lt:List aB.Fn} {C:Nat} {F:ar} {aH:List (List UInt8)} {f:Nat}
theorem In.eo (h:In (a8 st w) F v):In w F v:=h.less ⟨[st],rfl⟩ (Nat.le_refl _)
theorem In.sK {kd:Int} (h:In (bC kd st w).2 F v):In w F v:=h.less ⟨[_],rfl⟩ (by simp[bC])
def Zz (L:List ar) (F:ar) (C:Nat) (w w':Lw) (p:Nat) (v:bp) (s:aC) (k c:Nat):Except cz V×aC->Prop
 | (.ok y,s1)=>∃v' k',Reach L F w.steps.length v (wf s k) w'.steps.length v' (wf s1 k')/\k+C*s1.fuel<=k'+C*s.fuel+c/\v'.get (p:Int)=y/\(∀q:Nat,q<w.types.length->q≠p->v'.get (q:Int)=v.get (q:Int))/\v'.length=v.length
 | (.error e,s1)=>e=.stop 6\/((∃dO,e=.stop dO)/\∃k',Ends L F w.steps.length v (wf s k) (.error e,wf s1 k'))
theorem WX (np:gp Lt C F aH f r) {aJ r2 a7 fg:Lw} {r1:Int} {bf p:Nat} {Fr:Fr} {s:aC} {x:Except cz V×aC} {k:Nat} (h6:au r aJ=(r1,r2)) (h7:a8 { aM with code:=3,op:=[33,61],dst:=(p:Int),a:=r1,b:=r2.none } r2=a7) (h8:a8 { aM with code:=6,label:=(bf:Int) } a7=fg)
 (hi:In fg F v) (hrel:Rel aJ aH Fr v) (hs:fj Lt aH r) (hp:p<aJ.types.length) (hk:C*s.fuel+8*bK r+2<=k) (hr:(aS (bk Lt f s Fr r) fun b s=>a6 (bN (cj (b.n != 0))) s)=some x) :
 Zz (cI Lt) F C aJ fg p v s k (8*bK r+2) x:=by
 subst h8;subst h7;have oW:=hi.eo;have hE:=oW.eo;have e2:r2=(au r aJ).2:=by rw[h6]
 have e1:r1=(au r aJ).1:=by rw[h6]
 have l8:=gu r aJ;have hsm:=fz r aJ;rw[e2]at hE;cases hx:bk Lt f s Fr r with
 | none=>rw[hx]at hr;cases hr
 | some z =>
   rw[hx]at hr;have h1:=np aJ Fr v s z k hx hs hE hrel (by omega);obtain⟨z,t⟩:=z;cases z with
   | error e =>
     simp only[aS,Option.some.injEq]at hr;subst hr;exact h1
   | ok y =>
     simp only[aS,a6,Option.some.injEq]at hr;subst hr;obtain⟨v1,k1,g1,g2,g3,g4,g5⟩:=h1;rw[<-e2]at g1 hsm l8;rw[<-e1]at g3;have ju:=hrel.next hsm.1 hsm.2 l8 g4;obtain⟨q,n1,n2,n3⟩:=ju.none;have hpl:p<v1.length:=(by have:=hi.types;simp only[a8]at this;rw[g5];omega);obtain⟨k2,rfl⟩:∃k2,k1=k2+1+1:=⟨k1-2,by omega⟩;have a1:=D7 (L:=cI Lt) (s:=t) (s1:=t) (v:=v1) (v':=v1.put (p:Int) (bN (cj (y.n != 0)))) (k:=k2+1) (oW.len g5) (by simp) (fun k=>by simp[cq,a6,g3,n1,n3,dA]);have a2:=D7 (L:=cI Lt) (s:=t) (s1:=t) (v:=v1.put (p:Int) (bN (cj (y.n != 0)))) (v':=v1.put (p:Int) (bN (cj (y.n != 0)))) (k:=k2) (hi.len (by rw[nv,g5])) (by simp) (fun k=>by simp[cq,a6]);refine⟨v1.put (p:Int) (bN (cj (y.n != 0))),k2,g1.trans (a1.trans ?_),by omega,by rw[iY hpl,if_pos rfl],fun q hq v_=>by rw[iY hpl,if_neg v_,g4 q hq],by rw[nv,g5]⟩;simpa [a8] using a2
theorem aiT (a:Int) (hU:w5 F.steps) (ih:gp Lt C F aH f l) (np:gp Lt C F aH f r):gp Lt C F aH (f+1) (.bin a [38,38] l r):=by
 intro w Fr v s x k hr hs hi hrel hk;obtain⟨bf,w1,h1⟩:∃x y,b7 w=(x,y):=⟨_,_,rfl⟩;obtain⟨c1,c2,h2⟩:∃x y,au l w1=(x,y):=⟨_,_,rfl⟩;obtain⟨t1,t2,h3⟩:∃x y,bC 1 { aM with code:=3,op:=[33,61],a:=c1,b:=c2.none } c2=(x,y):=⟨_,_,rfl⟩;obtain⟨aJ,h5⟩:∃x,a8 { aM with code:=5,a:=t1,label:=(bf:Int) } t2=x:=⟨_,rfl⟩;obtain⟨r1,r2,h6⟩:∃x y,au r aJ=(x,y):=⟨_,_,rfl⟩;obtain⟨a7,h7⟩:∃x,a8 { aM with code:=3,op:=[33,61],dst:=t1,a:=r1,b:=r2.none } r2=x:=⟨_,rfl⟩;obtain⟨fg,h8⟩:∃x,a8 { aM with code:=6,label:=(bf:Int) } a7=x:=⟨_,rfl⟩;have hall:au (.bin a [38,38] l r) w=(t1,fg):=by
  simp only[au,iz,h1,h2,h3,h5,h6,h7,h8];simp[h5,h6,h7,h8]
 rw[hall]at hi ⊢;simp only[bK,fj,bk]at hk hs hr ⊢;have kM:t1=(c2.types.length:Int):=by rw[show t1=(bC 1 { aM with code:=3,op:=[33,61],a:=c1,b:=c2.none } c2).1 by rw[h3]];rfl
 subst kM;have df:w1.types=w.types/\w1.steps=w.steps/\w1.names=w.names/\w1.none=w.none:=by rw[show w1=(b7 w).2 by rw[h1]];exact⟨rfl,rfl,rfl,rfl⟩
 have Gq:=gu r aJ;rw[h6]at Gq;have oW:In a7 F v:=by rw[<-h8]at hi;exact hi.eo
 have Nu:In r2 F v:=by rw[<-h7]at oW;exact oW.eo
 have Gf:=(jF r aJ).pre;rw[h6]at Gf;have BS:In aJ F v:=Nu.less Gf Gq;have hit:In t2 F v:=by rw[<-h5]at BS;exact BS.eo
 have e3:t2=(bC 1 { aM with code:=3,op:=[33,61],a:=c1,b:=c2.none } c2).2:=by rw[h3]
 have Ja:In c2 F v:=by rw[e3]at hit;exact hit.sK
 have jv:=gu l w1;have hsm:=fz l w1;rw[h2]at jv hsm;have ju:Rel w1 aH Fr v:=hrel.next df.2.2.1 df.2.2.2 (by rw[df.1];exact Nat.le_refl _) (fun p hp=>rfl);obtain⟨hs1,hs2⟩:=hs.2;cases hx:bk Lt f s Fr l with
 | none=>rw[hx]at hr;cases hr
 | some z =>
   rw[hx]at hr;have g0:=ih w1 Fr v s z k hx hs1 (by rw[h2];exact Ja) ju (by omega);rw[h2]at g0;obtain⟨z,t⟩:=z;cases z with
   | error e =>
     simp only[aS,Option.some.injEq]at hr;subst hr;unfold pW at g0 ⊢;rw[df.2.1]at g0;exact g0
   | ok y =>
     simp only[aS]at hr;obtain⟨v1,k1,g1,g2,g3,g4,g5⟩:=g0;rw[df.2.1]at g1;rw[df.1]at g4;have Gk:Rel c2 aH Fr v1:=ju.next hsm.1 hsm.2 jv (by rw[df.1];exact g4);obtain⟨q,n1,n2,n3⟩:=Gk.none;have hlen:c2.types.length<v1.length:=by
        have:=hit.types;rw[e3]at this;simp only[bC,List.length_append,List.length_singleton]at this;omega
     obtain⟨k2,rfl⟩:∃k2,k1=k2+1+1:=⟨k1-2,by omega⟩;have Gp:=(Eo (v:=v1) (by rw[<-e3];exact hit.len g5)).1;have a1:=Ay (L:=cI Lt) (F:=F) (i:=c2.steps.length) (v:=v1) (s:=wf t (k2+1+1)) (v':=v1.put (c2.types.length:Int) (bN (cj (y.n != 0)))) (s':=wf t (k2+1)) Gp (by simp) (by simp[wf]) (by simp only[sD];simp[cq,a6,g3,n1,n3,dA]);have hst:t2.steps.length=c2.steps.length+1:=(by rw[e3];simp[bC]);rw[<-hst]at a1;have Fz:F.steps[t2.steps.length]?=some { aM with code:=5,a:=(c2.types.length:Int),label:=(bf:Int) }:=by
        obtain⟨d,hd⟩:=BS.steps;rw[<-hd,<-h5];simp[a8]
     have MB:F.steps[a7.steps.length]?=some { aM with code:=6,label:=(bf:Int) }:=by
        obtain⟨d,hd⟩:=hi.steps;rw[<-hd,<-h8];simp[a8]
     have hat:=C5 hU MB rfl;have zZ:(v1.put (c2.types.length:Int) (bN (cj (y.n != 0)))).get (c2.types.length:Int)=bN (cj (y.n != 0)):=(by rw[iY hlen,if_pos rfl]);have hold:∀p:Nat,p<w.types.length->(v1.put (c2.types.length:Int) (bN (cj (y.n != 0)))).get (p:Int)=v.get (p:Int):=fun p hp=>by
        rw[iY hlen,if_neg (by rw[df.1]at jv;simp only at jv;omega)];exact g4 p hp
     by_cases hy:y.n=0
     ·rw[if_pos (by simp),if_pos (by simp[hy])]at hr
      simp only[a6,Option.some.injEq]at hr;subst hr;have a2:=Kw (L:=cI Lt) (F:=F) (i:=t2.steps.length) (v:=v1.put (c2.types.length:Int) (bN (cj (y.n != 0)))) (s:=wf t (k2+1)) Fz rfl (by simp[wf]) (by rw[zZ];simp[bN,cj,hy]);rw[sD]at a2;simp only at a2;rw[hat]at a2;have N5:fg.steps.length=a7.steps.length+1:=(by rw[<-h8];simp[a8]);rw[<-N5]at a2;exact⟨_,k2,g1.trans (a1.trans a2),by omega,zZ,hold,by rw[nv,g5]⟩
     ·rw[if_pos (by simp),if_neg (by simp[hy])]at hr
      have a2:=Kv (L:=cI Lt) (F:=F) (i:=t2.steps.length) (v:=v1.put (c2.types.length:Int) (bN (cj (y.n != 0)))) (s:=wf t (k2+1)) Fz rfl (by simp[wf]) (by rw[zZ];simp[bN,cj,hy]);rw[sD]at a2;have hs5:aJ.steps.length=t2.steps.length+1:=(by rw[<-h5];simp[a8]);rw[<-hs5]at a2;have BZ:aJ.names=c2.names/\aJ.none=c2.none/\aJ.types.length=c2.types.length+1:=(by rw[<-h5,e3];exact⟨rfl,rfl,by simp[a8,bC]⟩);have N0:Rel aJ aH Fr (v1.put (c2.types.length:Int) (bN (cj (y.n != 0)))):=Gk.next BZ.1 BZ.2.1 (by omega) (fun p hp=>by rw[iY hlen,if_neg (by omega)]);have hend:=WX np h6 h7 h8 (hi.len (by rw[nv,g5])) N0 hs2 (by omega) (s:=t) (k:=k2) (by omega) hr;obtain⟨x,t3⟩:=x;cases x with
      | error e =>
        rcases hend with e1|⟨e1,k',e2⟩
        ·exact Or.inl e1
        ·exact Or.inr ⟨e1,k',g1.ends (a1.ends (a2.ends e2))⟩
      | ok z =>
        obtain⟨v3,k3,b1,b2,b3,b4,oO⟩:=hend;refine⟨v3,k3,g1.trans (a1.trans (a2.trans b1)),by omega,b3,fun p hp=>?_,by rw[oO,nv,g5]⟩;rw[b4 p (by rw[df.1]at jv;simp only at jv;omega) (by rw[df.1]at jv;simp only at jv;omega)];exact hold p hp
theorem ai2 (a:Int) (hU:w5 F.steps) (ih:gp Lt C F aH f l) (np:gp Lt C F aH f r):gp Lt C F aH (f+1) (.bin a [124,124] l r):=by
 intro w Fr v s x k hr hs hi hrel hk;obtain⟨bf,w1,h1⟩:∃x y,b7 w=(x,y):=⟨_,_,rfl⟩;obtain⟨c1,c2,h2⟩:∃x y,au l w1=(x,y):=⟨_,_,rfl⟩;obtain⟨t1,t2,h3⟩:∃x y,bC 1 { aM with code:=3,op:=[33,61],a:=c1,b:=c2.none } c2=(x,y):=⟨_,_,rfl⟩;obtain⟨cS,z2,h4⟩:∃x y,lR t1 t2=(x,y):=⟨_,_,rfl⟩;obtain⟨aJ,h5⟩:∃x,a8 { aM with code:=5,a:=cS,label:=(bf:Int) } z2=x:=⟨_,rfl⟩;obtain⟨r1,r2,h6⟩:∃x y,au r aJ=(x,y):=⟨_,_,rfl⟩;obtain⟨a7,h7⟩:∃x,a8 { aM with code:=3,op:=[33,61],dst:=t1,a:=r1,b:=r2.none } r2=x:=⟨_,rfl⟩;obtain⟨fg,h8⟩:∃x,a8 { aM with code:=6,label:=(bf:Int) } a7=x:=⟨_,rfl⟩;have hall:au (.bin a [124,124] l r) w=(t1,fg):=by
  simp only[au,iz,h1,h2,h3,h4,h5,h6,h7,h8];simp only[h4,h5,h6,h7,h8,if_true,or_true]
 rw[hall]at hi ⊢;simp only[bK,fj,bk]at hk hs hr ⊢;have kM:t1=(c2.types.length:Int):=by rw[show t1=(bC 1 { aM with code:=3,op:=[33,61],a:=c1,b:=c2.none } c2).1 by rw[h3]];rfl
 subst kM;have df:w1.types=w.types/\w1.steps=w.steps/\w1.names=w.names/\w1.none=w.none:=by rw[show w1=(b7 w).2 by rw[h1]];exact⟨rfl,rfl,rfl,rfl⟩
 have Gq:=gu r aJ;rw[h6]at Gq;have oW:In a7 F v:=by rw[<-h8]at hi;exact hi.eo
 have Nu:In r2 F v:=by rw[<-h7]at oW;exact oW.eo
 have Gf:=(jF r aJ).pre;rw[h6]at Gf;have BS:In aJ F v:=Nu.less Gf Gq;have FZ:In z2 F v:=by rw[<-h5]at BS;exact BS.eo
 have e4:z2=(lR (c2.types.length:Int) t2).2:=by rw[h4]
 have abJ:cS=(t2.types.length:Int):=by rw[show cS=(lR (c2.types.length:Int) t2).1 by rw[h4]];rfl
 subst abJ;have hit:In t2 F v:=by rw[e4]at FZ;exact In.sK (st:={ aM with code:=3,op:=[61,61],a:=(c2.types.length:Int),b:=t2.none }) FZ
 have e3:t2=(bC 1 { aM with code:=3,op:=[33,61],a:=c1,b:=c2.none } c2).2:=by rw[h3]
 have Ja:In c2 F v:=by rw[e3]at hit;exact hit.sK
 have jv:=gu l w1;have hsm:=fz l w1;rw[h2]at jv hsm;have ju:Rel w1 aH Fr v:=hrel.next df.2.2.1 df.2.2.2 (by rw[df.1];exact Nat.le_refl _) (fun p hp=>rfl);obtain⟨hs1,hs2⟩:=hs.2;cases hx:bk Lt f s Fr l with
 | none=>rw[hx]at hr;cases hr
 | some z =>
   rw[hx]at hr;have g0:=ih w1 Fr v s z k hx hs1 (by rw[h2];exact Ja) ju (by omega);rw[h2]at g0;obtain⟨z,t⟩:=z;cases z with
   | error e =>
     simp only[aS,Option.some.injEq]at hr;subst hr;unfold pW at g0 ⊢;rw[df.2.1]at g0;exact g0
   | ok y =>
     simp only[aS]at hr;obtain⟨v1,k1,g1,g2,g3,g4,g5⟩:=g0;rw[df.2.1]at g1;rw[df.1]at g4;have Gk:Rel c2 aH Fr v1:=ju.next hsm.1 hsm.2 jv (by rw[df.1];exact g4);obtain⟨q,n1,n2,n3⟩:=Gk.none;have hlen:c2.types.length<v1.length:=by
        have:=hit.types;rw[e3]at this;simp only[bC,List.length_append,List.length_singleton]at this;omega
     obtain⟨k2,rfl⟩:∃k2,k1=k2+1+1+1:=⟨k1-3,by omega⟩;have Gp:=(Eo (v:=v1) (by rw[<-e3];exact hit.len g5)).1;have a1:=Ay (L:=cI Lt) (F:=F) (i:=c2.steps.length) (v:=v1) (s:=wf t (k2+1+1+1)) (v':=v1.put (c2.types.length:Int) (bN (cj (y.n != 0)))) (s':=wf t (k2+1+1)) Gp (by simp) (by simp[wf]) (by simp only[sD];simp[cq,a6,g3,n1,n3,dA]);have hst:t2.steps.length=c2.steps.length+1:=(by rw[e3];simp[bC]);rw[<-hst]at a1;have T4:(v1.put (c2.types.length:Int) (bN (cj (y.n != 0)))).get (c2.types.length:Int)=bN (cj (y.n != 0)):=(by rw[iY hlen,if_pos rfl]);have aer:t2.names=c2.names/\t2.none=c2.none/\t2.types.length=c2.types.length+1:=(by rw[e3];exact⟨rfl,rfl,by simp[bC]⟩);obtain⟨v2,hv2⟩:∃v2,v2=(v1.put (c2.types.length:Int) (bN (cj (y.n != 0)))).put (t2.types.length:Int) (bN (cj (!(y.n != 0)))):=⟨_,rfl⟩;have fc:(v1.put (c2.types.length:Int) (bN (cj (y.n != 0)))).length=v.length:=(by rw[nv,g5]);have Jj:t2.types.length<(v1.put (c2.types.length:Int) (bN (cj (y.n != 0)))).length:=by
        have:=FZ.types;rw[e4]at this;simp only[lR,bC,List.length_append,List.length_singleton]at this;omega
     have aev:=(Eo (v:=v1.put (c2.types.length:Int) (bN (cj (y.n != 0)))) (w:=t2) (kd:=1) (x:={ aM with code:=3,op:=[61,61],a:=(c2.types.length:Int),b:=t2.none }) (by rw[e4]at FZ;exact FZ.len fc)).1;have cH:(v1.put (c2.types.length:Int) (bN (cj (y.n != 0)))).get t2.none=⟨0,.none⟩:=by
        rw[aer.2.1,n1,iY hlen,if_neg (by omega)];exact n3
     have RO:=Ay (L:=cI Lt) (F:=F) (i:=t2.steps.length) (v:=v1.put (c2.types.length:Int) (bN (cj (y.n != 0)))) (s:=wf t (k2+1+1)) (v':=v2) (s':=wf t (k2+1)) aev (by simp) (by simp[wf]) (by
        simp only[sD,hv2];simp only[cq,T4,cH];by_cases Ok:y.n=0 <;> simp[a6,bN,cj,dA,Ok])
     have hsz:z2.steps.length=t2.steps.length+1:=(by rw[e4];simp[lR,bC]);rw[<-hsz]at RO;have a1:=a1.trans RO;have Fz:F.steps[z2.steps.length]?=some { aM with code:=5,a:=(t2.types.length:Int),label:=(bf:Int) }:=by
        obtain⟨d,hd⟩:=BS.steps;rw[<-hd,<-h5];simp[a8]
     have MB:F.steps[a7.steps.length]?=some { aM with code:=6,label:=(bf:Int) }:=by
        obtain⟨d,hd⟩:=hi.steps;rw[<-hd,<-h8];simp[a8]
     have hat:=C5 hU MB rfl;have zZ:v2.get (c2.types.length:Int)=bN (cj (y.n != 0)):=(by rw[hv2,iY Jj,if_neg (by omega)];exact T4);have T5:v2.get (t2.types.length:Int)=bN (cj (!(y.n != 0))):=(by rw[hv2,iY Jj,if_pos rfl]);have hl2:v2.length=v.length:=(by rw[hv2,nv,fc]);have hold:∀p:Nat,p<w.types.length->v2.get (p:Int)=v.get (p:Int):=fun p hp=>by
        rw[hv2,iY Jj,if_neg (by rw[df.1]at jv;simp only at jv;omega),iY hlen,if_neg (by rw[df.1]at jv;simp only at jv;omega)];exact g4 p hp
     by_cases hy:y.n≠0
     ·rw[if_pos (by simp),if_pos (by simp[hy])]at hr
      simp only[a6,Option.some.injEq]at hr;subst hr;have a2:=Kw (L:=cI Lt) (F:=F) (i:=z2.steps.length) (v:=v2) (s:=wf t (k2+1)) Fz rfl (by simp[wf]) (by rw[T5];simp[bN,cj,hy]);rw[sD]at a2;simp only at a2;rw[hat]at a2;have N5:fg.steps.length=a7.steps.length+1:=(by rw[<-h8];simp[a8]);rw[<-N5]at a2;exact⟨_,k2,g1.trans (a1.trans a2),by omega,zZ,hold,hl2⟩
     ·rw[if_pos (by simp),if_neg (by simp[hy])]at hr
      have a2:=Kv (L:=cI Lt) (F:=F) (i:=z2.steps.length) (v:=v2) (s:=wf t (k2+1)) Fz rfl (by simp[wf]) (by rw[T5];simp[bN,cj,hy]);rw[sD]at a2;have hs5:aJ.steps.length=z2.steps.length+1:=(by rw[<-h5];simp[a8]);rw[<-hs5]at a2;have BZ:aJ.names=c2.names/\aJ.none=c2.none/\aJ.types.length=c2.types.length+2:=(by rw[<-h5,e4,e3];exact⟨rfl,rfl,by simp[a8,lR,bC]⟩);have N0:Rel aJ aH Fr v2:=Gk.next BZ.1 BZ.2.1 (by omega) (fun p hp=>by rw[hv2,iY Jj,if_neg (by omega),iY hlen,if_neg (by omega)]);have hend:=WX np h6 h7 h8 (hi.len hl2) N0 hs2 (by omega) (s:=t) (k:=k2) (by omega) hr;obtain⟨x,t3⟩:=x;cases x with
      | error e =>
        rcases hend with e1|⟨e1,k',e2⟩
        ·exact Or.inl e1
        ·exact Or.inr ⟨e1,k',g1.ends (a1.ends (a2.ends e2))⟩
      | ok z =>
        obtain⟨v3,k3,b1,b2,b3,b4,oO⟩:=hend;refine⟨v3,k3,g1.trans (a1.trans (a2.trans b1)),by omega,b3,fun p hp=>?_,by rw[oO,hl2]⟩;rw[b4 p (by rw[df.1]at jv;simp only at jv;omega) (by rw[df.1]at jv;simp only at jv;omega)];exact hold p hp
end
end aW.iP
namespace aW.iP
open Go.RowKit aB aW Go.Proofs.Tryz
def XS (Lt:List aB.Fn) (C:Nat) (g:List UInt8) (vs:List V) (s:aC) (k:Nat):Except cz Int×aC->Prop
 | (.ok m,s1)=>∃k',dr (fun n=>dS (cI Lt) n (wf s k) g vs) (.ok m,wf s1 k')/\k+C*s1.fuel<=k'+C*s.fuel+3
 | (.error e,s1)=>e=.stop 6\/((∃dO,e=.stop dO)/\∃k',dr (fun n=>dS (cI Lt) n (wf s k) g vs) (.error e,wf s1 k'))
def Hi (Lt:List aB.Fn) (C f:Nat):Prop:=∀ (g:List UInt8) (vs:List V) (s:aC) (r:Except cz Int×aC) (k:Nat),(∃fn,il Lt g=some fn/\vs.length=fn.params.length)->jE Lt f s g vs=some r->C*s.fuel+3<=k->XS Lt C g vs s k r
def Zy (L:List ar) (F:ar) (C:Nat) (w w':Lw) (ZX:List Int) (acc:List V) (v:bp) (s:aC) (k c:Nat):Except cz (List V)×aC->Prop
 | (.ok vs,s1)=>∃v' k',Reach L F w.steps.length v (wf s k) w'.steps.length v' (wf s1 k')/\k+C*s1.fuel<=k'+C*s.fuel+c/\vs=acc++ZX.map v'.get/\(∀p:Nat,p<w.types.length->v'.get (p:Int)=v.get (p:Int))/\v'.length=v.length
 | (.error e,s1)=>e=.stop 6\/((∃dO,e=.stop dO)/\∃k',Ends L F w.steps.length v (wf s k) (.error e,wf s1 k'))
theorem LY:(l:List aL)->(w:Lw)->(eu l w).1.length=l.length
 | [],w=>rfl
 | a::l,w=>by simp only[eu,List.length_cons,LY l]
section
variable {Lt:List aB.Fn} {C:Nat} {F:ar} {aH:List (List UInt8)}
theorem WY:(l:List aL)->(f:Nat)->(∀j,j<f->∀e∈l,gp Lt C F aH j e)->∀ (w:Lw) (Fr:Fr) (v:bp) (s:aC) (r:Except cz (List V)×aC) (k:Nat) (acc:List V),jT Lt f s Fr l acc=some r->Bj Lt aH l->In (eu l w).2 F v->Rel w aH Fr v->C*s.fuel+8*mA l<=k->Zy (cI Lt) F C w (eu l w).2 (eu l w).1 acc v s k (8*mA l) r
 | [],0,ih,w,Fr,v,s,r,k,acc,hr,hs,hi,hrel,hk=>by simp only[jT]at hr;cases hr
 | [],f+1,ih,w,Fr,v,s,r,k,acc,hr,hs,hi,hrel,hk=>by
   simp only[jT,a6,Option.some.injEq]at hr;subst hr;simp only[eu,mA];exact⟨v,k,Reach.refl _ _ _ _ _,by omega,by simp,fun p hp=>rfl,rfl⟩
 | e::l,0,ih,w,Fr,v,s,r,k,acc,hr,hs,hi,hrel,hk=>by simp only[jT]at hr;cases hr
 | e::l,f+1,ih,w,Fr,v,s,r,k,acc,hr,hs,hi,hrel,hk=>by
   simp only[jT,eu,mA,Bj]at hr hi hk hs ⊢;have l8:=gu e w;have hsm:=fz e w;have ki:In (au e w).2 F v:=hi.less (H8 l _).pre (H_ l _);have hpl:=Io e w Fr v hrel hs.1;cases hx:bk Lt f s Fr e with
   | none=>rw[hx]at hr;cases hr
   | some z =>
     rw[hx]at hr;have h1:=ih f (Nat.lt_succ_self f) e List.mem_cons_self w Fr v s z k hx hs.1 ki hrel (by omega);obtain⟨z,t⟩:=z;cases z with
     | error lH =>
       simp only[aS,Option.some.injEq]at hr;subst hr;exact h1
     | ok y =>
       simp only[aS]at hr;obtain⟨v1,k1,g1,g2,g3,g4,g5⟩:=h1;have h2:=WY l f (fun j hj e' adC=>ih j (by omega) e' (List.mem_cons_of_mem _ adC)) (au e w).2 Fr v1 t r k1 (acc++[y]) hr hs.2 (hi.len g5) (hrel.next hsm.1 hsm.2 l8 g4) (by omega);obtain⟨r,t2⟩:=r;cases r with
       | error lH =>
         rcases h2 with h2|⟨h2,k',h3⟩
         ·exact Or.inl h2
         ·exact Or.inr ⟨h2,k',g1.ends h3⟩
       | ok vs =>
         obtain⟨v2,k2,b1,b2,b3,b4,oO⟩:=h2;refine⟨v2,k2,g1.trans b1,by omega,?_,fun p hp=>(b4 p (by omega)).trans (g4 p hp),oO.trans g5⟩;obtain⟨p,hp⟩:∃p:Nat,(au e w).1=(p:Int):=⟨(au e w).1.toNat,by have:=hpl.2;omega⟩;have:v2.get (au e w).1=y:=by
          rw[hp]at g3 hpl ⊢;rw[b4 p (by have:=hpl.1;omega)];exact g3
         rw[b3];simp[this]
theorem aiV (f:Nat) (a:Int) (g:List UInt8) {l:List aL} (ih:∀j,j<f->∀e∈l,gp Lt C F aH j e) (hc:Hi Lt C f):gp Lt C F aH (f+1) (.call a g l):=by
 intro w Fr v s r k hr hs hi hrel hk;simp only[au,bK,fj,bk]at hi hk hs hr ⊢;obtain⟨⟨fn,adH,hf2⟩,hs⟩:=hs;have adQ:In (eu l w).2 F v:=hi.sK;have l8:=H_ l w;cases hx:jT Lt f s Fr l [] with
 | none=>rw[hx]at hr;cases hr
 | some z =>
   rw[hx]at hr;have h1:=WY l f ih w Fr v s z k [] hx hs adQ hrel (by omega);obtain⟨z,t⟩:=z;cases z with
   | error e =>
     simp only[aS,Option.some.injEq]at hr;subst hr;exact h1
   | ok vs =>
     simp only[aS]at hr;obtain⟨v1,k1,g1,g2,g3,g4,g5⟩:=h1;simp only[List.nil_append]at g3;obtain⟨q1,q2⟩:=Eo (hi.len g5);obtain⟨k2,rfl⟩:∃k2,k1=k2+1:=⟨k1-1,by omega⟩;have hlen:vs.length=fn.params.length:=(by rw[g3,List.length_map,<-hf2];exact LY l w);cases hy:jE Lt f t g vs with
     | none=>rw[hy]at hr;cases hr
     | some y =>
       rw[hy]at hr;have h2:=hc g vs t y k2 ⟨fn,adH,hlen⟩ hy (by omega);obtain⟨y,t2⟩:=y;cases y with
       | error e =>
         simp only[aS,Option.some.injEq]at hr;subst hr;rcases h2 with h2|⟨h2,k',h3⟩
         ·exact Or.inl h2
         ·refine Or.inr ⟨h2,k',g1.ends (abd (s:=wf t (k2+1)) q1 rfl (by simp[wf]) ?_)⟩
          rw[sD];simp only;rw[<-g3];exact h3
       | ok m =>
         simp only[aS,a6,Option.some.injEq]at hr;subst hr;obtain⟨k',h3,h4⟩:=h2;have a1:=ahU (L:=cI Lt) (F:=F) (i:=(eu l w).2.steps.length) (v:=v1) (s:=wf t (k2+1)) (s':=wf t2 k') (m:=m) q1 rfl (by simp[wf]) (by
           rw[sD];simp only;rw[<-g3];exact h3)
         refine⟨v1.put ((eu l w).2.types.length:Int) (bN m),k',g1.trans ?_,by omega,?_,fun p hp=>?_,by rw[nv,g5]⟩
         ·simpa [bC] using a1
         ·show (v1.put ((eu l w).2.types.length:Int) (bN m)).get ((eu l w).2.types.length:Int)=_
          rw[iY q2,if_pos rfl]
         ·rw[iY q2,if_neg (by omega)]
          exact g4 p hp
theorem aiW (hU:w5 F.steps):(f:Nat)->(∀j,j<f->Hi Lt C j)->(e:aL)->gp Lt C F aH f e:=by
 intro f;induction f using Nat.strongRecOn with
 | ind f ih =>
   intro hc e;cases f with
   | zero =>
     intro w Fr v s r k hr;simp only[bk]at hr;cases hr
   | succ f =>
     have hx:∀e,gp Lt C F aH f e:=ih f (Nat.lt_succ_self f) (fun j hj=>hc j (by omega));cases e with
     | num a n=>exact ai1 a n
     | var a x=>exact ai4 a x
     | un a op x=>exact ai3 a (hx x)
     | bin a op l r =>
       by_cases h1:op=[38,38]
       ·subst h1
        exact aiT a hU (hx l) (hx r)
       ·by_cases h2:op=[124,124]
        ·subst h2
         exact ai2 a hU (hx l) (hx r)
        ·exact aiU a (fun e=>e.elim h1 h2) (fun w Fr v h hs=>Io l w Fr v h hs) (hx l) (hx r)
     | call a g l=>exact aiV f a g (fun j hj e he=>ih j (by omega) (fun i hi=>hc i (by omega)) e) (hc f (Nat.lt_succ_self f))
     | new a x=>exact ai0 a (hx x)
     | len a x=>exact aiZ a (hx x)
     | item a x i=>exact aiY a (fun w Fr v h hs=>Io x w Fr v h hs) (hx x) (hx i)
     | input a=>exact aiX a
end
end aW.iP
namespace aW.iP
open Go.RowKit aB aW Go.Proofs.Tryz
variable {e:aL} {Lt:List aB.Fn} {s:aC}
theorem Di:(F:Fr)->(s:List UInt8)->(v:V)->(x:List UInt8)->(F.put s v).get x=if x=s then v else F.get x
 | [],s,v,x=>by
   simp only[Fr.put,Fr.get];by_cases h:x=s
   ·subst h;simp
   ·rw[if_neg h]
    have:(s==x)=false:=(by simpa using fun e=>h e.symm);simp[this]
 | p::r,s,v,x=>by
   simp only[Fr.put];by_cases hp:(p.1==s)=true
   ·rw[if_pos hp]
    have vZ:p.1=s:=(by simpa using hp);simp only[Fr.get];by_cases h:x=s
    ·subst h;simp
    ·rw[if_neg h]
     have h1:(s==x)=false:=(by simpa using fun e=>h e.symm);have h2:(p.1==x)=false:=(by rw[vZ];exact h1);simp[h1,h2]
   ·rw[if_neg hp]
    simp only[Fr.get];by_cases h:x=s
    ·subst h
     have h2:(p.1==x)=false:=(by simpa using hp);simp only[h2,if_true];have:=Di r x v x;rw[if_pos rfl]at this;simpa using this
    ·rw[if_neg h]
     have:=Di r s v x;rw[if_neg h]at this;rw[this]
mutual
def lF (Lt:List aB.Fn) (aH:List (List UInt8)):St->Prop
 | .var _ x v=>x ∉ aH/\fj Lt aH v
 | .set _ x v=>x∈aH/\fj Lt aH v
 | .put _ x i v=>x∈aH/\fj Lt aH i/\fj Lt aH v
 | .cond _ v t e=>fj Lt aH v/\qN Lt aH t/\qN Lt aH e
 | .loop _ v t=>fj Lt aH v/\qN Lt aH t
 | .ret _ v=>fj Lt aH v
 | .print _ v=>fj Lt aH v
 | .call _ v=>fj Lt aH v
def qN (Lt:List aB.Fn) (aH:List (List UInt8)):List St->Prop
 | []=>True
 | x::r=>lF Lt aH x/\qN Lt (match x with|.var _ n _=>n::aH|_=>aH) r
end
def mN (aH:List (List UInt8)):St->List (List UInt8)
 | .var _ n _=>n::aH
 | _=>aH
mutual
theorem ajF:(s:St)->(aH:List (List UInt8))->lF Lt aH s->(w:Lw)->(∀x∈aH,fl (bW s w).names x=fl w.names x)/\(bW s w).none=w.none
 | .var _ n v,aH,h,w=>by
   have hs:=fz v w;simp only[lF]at h;simp only[bW,a8,fU];refine⟨fun x hx=>?_,hs.2⟩;rw[zL,if_neg (fun e:x=n=>h.1 (by rw[<-e];exact hx)),hs.1]
 | .set _ n v,aH,h,w=>by
   have hs:=fz v w;simp only[bW,a8];exact⟨fun x hx=>by rw[hs.1],hs.2⟩
 | .put _ n i v,aH,h,w=>by
   have hs:=fz i w;have hs2:=fz v (au i w).2;simp only[bW,a8];exact⟨fun x hx=>by rw[hs2.1,hs.1],hs2.2.trans hs.2⟩
 | .cond _ v t e,aH,h,w=>by
   simp only[lF]at h;simp only[bW];have h1:=fz v (b7 (b7 w).2).2;refine⟨fun x hx=>?_,?_⟩
   ·refine ((w9 e aH h.2.2 _).1 x hx).trans ?_
    refine ((w9 t aH h.2.1 _).1 x hx).trans ?_
    show fl (au v (b7 (b7 w).2).2).2.names x=_
    rw[h1.1];rfl
   ·refine ((w9 e aH h.2.2 _).2).trans ?_
    refine ((w9 t aH h.2.1 _).2).trans ?_;exact h1.2
 | .loop _ v t,aH,h,w=>by
   simp only[lF]at h;simp only[bW];refine⟨fun x hx=>?_,?_⟩
   ·refine ((w9 t aH h.2 _).1 x hx).trans ?_
    exact congrArg (fun n=>fl n x) (fz v _).1
   ·refine ((w9 t aH h.2 _).2).trans ?_
    exact (fz v _).2
 | .ret _ v,aH,h,w=>by
   have hs:=fz v w;simp only[bW,a8];exact⟨fun x hx=>by rw[hs.1],hs.2⟩
 | .print _ v,aH,h,w=>by
   have hs:=fz v w;simp only[bW,a8];exact⟨fun x hx=>by rw[hs.1],hs.2⟩
 | .call _ v,aH,h,w=>by
   have hs:=fz v w;simp only[bW];exact⟨fun x hx=>by rw[hs.1],hs.2⟩
theorem w9:(l:List St)->(aH:List (List UInt8))->qN Lt aH l->(w:Lw)->(∀x∈aH,fl (cZ l w).names x=fl w.names x)/\(cZ l w).none=w.none
 | [],aH,h,w=>⟨fun x hx=>rfl,rfl⟩
 | s::r,aH,h,w=>by
   simp only[qN]at h;simp only[cZ];have h1:=ajF s aH h.1 w;have h2:=w9 r _ h.2 (bW s w);refine⟨fun x hx=>(h2.1 x ?_).trans (h1.1 x hx),h2.2.trans h1.2⟩;split
   ·exact List.mem_cons_of_mem _ hx
   ·exact hx
end
def Rm (L:List ar) (F:ar) (C:Nat) (w w':Lw) (aH:List (List UInt8)) (v:bp) (s:aC) (k:Nat):Except cz Fr×aC->Prop
 | (.ok G,s1)=>∃v' k',Reach L F w.steps.length v (wf s k) w'.steps.length v' (wf s1 k')/\k+C*s1.fuel<=k'+C*s.fuel/\Rel w' aH G v'/\v'.length=v.length
 | (.error (.ret n),s1)=>∃k',Ends L F w.steps.length v (wf s k) (.ok n,wf s1 k')/\k+C*s1.fuel<=k'+C*s.fuel
 | (.error (.stop dO),s1)=>dO=6\/∃k',Ends L F w.steps.length v (wf s k) (.error (.stop dO),wf s1 k')
def w7 (Lt:List aB.Fn) (C:Nat) (F:ar) (f:Nat) (x:St):Prop:=∀ (aH:List (List UInt8)) (w:Lw) (Fr:Fr) (v:bp) (s:aC) (r:Except cz aB.Fr×aC) (k:Nat),eO Lt f s Fr x=some r->lF Lt aH x->In (bW x w) F v->Rel w aH Fr v->C*s.fuel<=k->Rm (cI Lt) F C w (bW x w) (mN aH x) v s k r
section
variable {Lt:List aB.Fn} {C:Nat} {F:ar} {f:Nat}
theorem y6 (h:s.fuel≠0):(less s).fuel+1=s.fuel:=by simp only[less];omega
theorem yf {α:Type} {g:Unit->aC->cF α} {r:Except cz α×aC} (h:aS (eI s) g=some r):(s.fuel=0/\r=(.error (.stop 6),s))\/(s.fuel≠0/\g () (less s)=some r):=by
 by_cases h0:s.fuel=0
 ·unfold eI at h
  rw[if_pos h0]at h;simp only[eP,aS,Option.some.injEq]at h;exact Or.inl ⟨h0,h.symm⟩
 ·rw[ox h0]at h
  exact Or.inr ⟨h0,h⟩
theorem ai6 (a:Int) (hx:∀aH,gp Lt C F aH f e) (hC:8*bK e+8<=C):w7 Lt C F (f+1) (.call a e):=by
 intro aH w Fr v s r k hr hs hi hrel hk;simp only[eO]at hr;simp only[lF,bW,mN]at hs hi ⊢;rcases yf hr with⟨h0,rfl⟩|⟨h0,hr⟩
 ·exact Or.inl rfl
 have hl:=y6 h0;have hm:C*s.fuel=C*(less s).fuel+C:=by rw[<-hl,Nat.mul_add,Nat.mul_one]
 have l8:=gu e w;have hsm:=fz e w;cases hy:bk Lt f (less s) Fr e with
 | none=>rw[hy]at hr;cases hr
 | some z =>
   rw[hy]at hr;have h1:=hx aH w Fr v (less s) z k hy hs hi hrel (by omega);obtain⟨z,t⟩:=z;cases z with
   | error lH =>
     simp only[aS,Option.some.injEq]at hr;subst hr;rcases h1 with h1|⟨⟨dO,h1⟩,k',h2⟩
     ·subst h1
      exact Or.inl rfl
     ·subst h1
      exact Or.inr ⟨k',h2⟩
   | ok y =>
     simp only[aS,a6,Option.some.injEq]at hr;subst hr;obtain⟨v1,k1,g1,g2,g3,g4,g5⟩:=h1;exact⟨v1,k1,g1,by omega,hrel.next hsm.1 hsm.2 l8 g4,g5⟩
theorem ajc (a:Int) (n:List UInt8) (hx:∀aH,gp Lt C F aH f e) (hC:8*bK e+8<=C):w7 Lt C F (f+1) (.set a n e):=by
 intro aH w Fr v s r k hr hs hi hrel hk;simp only[eO]at hr;simp only[lF,bW,mN]at hs hi ⊢;rcases yf hr with⟨h0,rfl⟩|⟨h0,hr⟩
 ·exact Or.inl rfl
 have hl:=y6 h0;have hm:C*s.fuel=C*(less s).fuel+C:=by rw[<-hl,Nat.mul_add,Nat.mul_one]
 have l8:=gu e w;have hsm:=fz e w;cases hy:bk Lt f (less s) Fr e with
 | none=>rw[hy]at hr;cases hr
 | some z =>
   rw[hy]at hr;have h1:=hx aH w Fr v (less s) z k hy hs.2 hi.eo hrel (by omega);obtain⟨z,t⟩:=z;cases z with
   | error lH =>
     simp only[aS,Option.some.injEq]at hr;subst hr;rcases h1 with h1|⟨⟨dO,h1⟩,k',h2⟩
     ·subst h1
      exact Or.inl rfl
     ·subst h1
      exact Or.inr ⟨k',h2⟩
   | ok y =>
     simp only[aS,a6,Option.some.injEq]at hr;subst hr;obtain⟨v1,k1,g1,g2,g3,g4,g5⟩:=h1;have ju:=hrel.next hsm.1 hsm.2 l8 g4;obtain⟨p,n1,n2,n3⟩:=ju.names n hs.1;have hpl:p<v1.length:=(by have:=(hi.len g5).types;simp only[a8]at this;omega);obtain⟨k2,rfl⟩:∃k2,k1=k2+1:=⟨k1-1,by omega⟩;have a1:=D7 (L:=cI Lt) (s:=t) (s1:=t) (v:=v1) (v':=v1.put (p:Int) y) (k:=k2) (hi.len g5) (by simp) (fun k=>by simp[cq,a6,g3,n1]);refine⟨v1.put (p:Int) y,k2,g1.trans ?_,by omega,⟨fun x b5=>?_,?_,ju.inj,ju.apart⟩,by rw[nv,g5]⟩
     ·simpa [a8] using a1
     ·obtain⟨q,m1,m2,m3⟩:=ju.names x b5
      refine⟨q,m1,m2,?_⟩;rw[Di,iY hpl];by_cases dM:x=n
      ·subst dM
       have:q=p:=(by have:=m1.symm.trans n1;omega);rw[if_pos rfl,if_pos this]
      ·rw[if_neg dM,if_neg (fun e2=>dM (ju.inj x b5 n hs.1 (by rw[m1,n1,e2])))]
       exact m3
     ·obtain⟨q,m1,m2,m3⟩:=ju.none
      refine⟨q,m1,m2,?_⟩;rw[iY hpl,if_neg (fun e2=>ju.apart n hs.1 (by rw[n1,m1,e2]))];exact m3
theorem ajb (a:Int) (hx:∀aH,gp Lt C F aH f e) (hC:8*bK e+8<=C):w7 Lt C F (f+1) (.ret a e):=by
 intro aH w Fr v s r k hr hs hi hrel hk;simp only[eO]at hr;simp only[lF,bW,mN]at hs hi ⊢;rcases yf hr with⟨h0,rfl⟩|⟨h0,hr⟩
 ·exact Or.inl rfl
 have hl:=y6 h0;have hm:C*s.fuel=C*(less s).fuel+C:=by rw[<-hl,Nat.mul_add,Nat.mul_one]
 have l8:=gu e w;have hsm:=fz e w;cases hy:bk Lt f (less s) Fr e with
 | none=>rw[hy]at hr;cases hr
 | some z =>
   rw[hy]at hr;have h1:=hx aH w Fr v (less s) z k hy hs hi.eo hrel (by omega);obtain⟨z,t⟩:=z;cases z with
   | error lH =>
     simp only[aS,Option.some.injEq]at hr;subst hr;rcases h1 with h1|⟨⟨dO,h1⟩,k',h2⟩
     ·subst h1
      exact Or.inl rfl
     ·subst h1
      exact Or.inr ⟨k',h2⟩
   | ok y =>
     simp only[aS,Option.some.injEq]at hr;subst hr;obtain⟨v1,k1,g1,g2,g3,g4,g5⟩:=h1;obtain⟨k2,rfl⟩:∃k2,k1=k2+1:=⟨k1-1,by omega⟩;have hat:F.steps[(au e w).2.steps.length]?=some { aM with code:=8,a:=(au e w).1 }:=by
        obtain⟨d,hd⟩:=hi.steps;rw[<-hd];simp[a8]
     have a1:=Ss (L:=cI Lt) (F:=F) (v:=v1) (s:=wf t (k2+1)) hat rfl (by simp[wf]);simp only at a1;rw[g3]at a1;exact⟨k2,g1.ends a1,by omega⟩
theorem ai9 (a:Int) (hx:∀aH,gp Lt C F aH f e) (hC:8*bK e+8<=C):w7 Lt C F (f+1) (.print a e):=by
 intro aH w Fr v s r k hr hs hi hrel hk;simp only[eO]at hr;simp only[lF,bW,mN]at hs hi ⊢;rcases yf hr with⟨h0,rfl⟩|⟨h0,hr⟩
 ·exact Or.inl rfl
 have hl:=y6 h0;have hm:C*s.fuel=C*(less s).fuel+C:=by rw[<-hl,Nat.mul_add,Nat.mul_one]
 have l8:=gu e w;have hsm:=fz e w;cases hy:bk Lt f (less s) Fr e with
 | none=>rw[hy]at hr;cases hr
 | some z =>
   rw[hy]at hr;have h1:=hx aH w Fr v (less s) z k hy hs hi.eo hrel (by omega);obtain⟨z,t⟩:=z;cases z with
   | error lH =>
     simp only[aS,Option.some.injEq]at hr;subst hr;rcases h1 with h1|⟨⟨dO,h1⟩,k',h2⟩
     ·subst h1
      exact Or.inl rfl
     ·subst h1
      exact Or.inr ⟨k',h2⟩
   | ok y =>
     simp only[aS]at hr;obtain⟨v1,k1,g1,g2,g3,g4,g5⟩:=h1;obtain⟨k2,rfl⟩:∃k2,k1=k2+1:=⟨k1-1,by omega⟩;by_cases ho:t.out.length>=200
     ·rw[if_pos ho]at hr
      simp only[eP,Option.some.injEq]at hr;subst hr;have hat:F.steps[(au e w).2.steps.length]?=some { aM with code:=13,a:=(au e w).1 }:=by
       obtain⟨d,hd⟩:=hi.steps;rw[<-hd];simp[a8]
      have a1:=Mk (L:=cI Lt) (F:=F) (v:=v1) (s:=wf t (k2+1)) (s':=wf t k2) (e:=.stop 7) hat (by simp) (by simp[wf]) (by
       have Gh:(wf t k2).out.length>=200:=ho;simp only[sD,cq];simp[Gh,eP])
      exact Or.inr ⟨k2,g1.ends a1⟩
     ·rw[if_neg ho]at hr
      simp only[a6,Option.some.injEq]at hr;subst hr;have a1:=D7 (L:=cI Lt) (s:=t) (s1:={ t with out:=t.out++[y.n] }) (v:=v1) (v':=v1) (k:=k2) (hi.len g5) (by simp) (fun k=>by
       have Gh:¬(wf t k).out.length>=200:=ho;simp only[cq,g3];simp[Gh,a6];simp[wf])
      refine⟨v1,k2,g1.trans ?_,by simp only;omega,(hrel.next hsm.1 hsm.2 l8 g4).next rfl rfl (Nat.le_refl _) (fun p hp=>rfl),g5⟩;simpa [a8] using a1
theorem aja (a:Int) (n:List UInt8) {i:aL} (hx:∀aH,gp Lt C F aH f i) (hx2:∀aH,gp Lt C F aH f e) (hC:8*bK i+8*bK e+8<=C):w7 Lt C F (f+1) (.put a n i e):=by
 intro aH w Fr v s r k hr hs hi hrel hk;simp only[eO]at hr;simp only[lF,bW,mN]at hs hi ⊢;rcases yf hr with⟨h0,rfl⟩|⟨h0,hr⟩
 ·exact Or.inl rfl
 have hl:=y6 h0;have hm:C*s.fuel=C*(less s).fuel+C:=by rw[<-hl,Nat.mul_add,Nat.mul_one]
 have l8:=gu i w;have hsm:=fz i w;have JE:=gu e (au i w).2;have UM:=fz e (au i w).2;have T8:=hi.eo;cases hy:bk Lt f (less s) Fr i with
 | none=>rw[hy]at hr;cases hr
 | some z =>
   rw[hy]at hr;have h1:=hx aH w Fr v (less s) z k hy hs.2.1 (T8.less (jF e _).pre JE) hrel (by omega);obtain⟨z,t⟩:=z;cases z with
   | error lH =>
     simp only[aS,Option.some.injEq]at hr;subst hr;rcases h1 with h1|⟨⟨dO,h1⟩,k',h2⟩
     ·subst h1
      exact Or.inl rfl
     ·subst h1
      exact Or.inr ⟨k',h2⟩
   | ok y =>
     simp only[aS]at hr;obtain⟨v1,k1,g1,g2,g3,g4,g5⟩:=h1;have ju:=hrel.next hsm.1 hsm.2 l8 g4;have hpl:=Io i w Fr v hrel hs.2.1;cases hz:bk Lt f t Fr e with
     | none=>rw[hz]at hr;cases hr
     | some z2 =>
       rw[hz]at hr;have h2:=hx2 aH (au i w).2 Fr v1 t z2 k1 hz hs.2.2 (T8.len g5) ju (by omega);obtain⟨z2,t2⟩:=z2;cases z2 with
       | error lH =>
         simp only[Option.some.injEq]at hr;subst hr;rcases h2 with h2|⟨⟨dO,h2⟩,k',h3⟩
         ·subst h2
          exact Or.inl rfl
         ·subst h2
          exact Or.inr ⟨k',g1.ends h3⟩
       | ok fB =>
         simp only at hr;obtain⟨v2,k2,b1,b2,b3,b4,oO⟩:=h2;have Jy:=ju.next UM.1 UM.2 JE b4;obtain⟨p,n1,n2,n3⟩:=Jy.names n hs.1;have Nt:v2.get (au i w).1=y:=by
          obtain⟨q,hq⟩:∃q:Nat,(au i w).1=(q:Int):=⟨(au i w).1.toNat,by have:=hpl.2;omega⟩;rw[hq]at g3 hpl ⊢;rw[b4 q (by have:=hpl.1;omega)];exact g3
         obtain⟨k3,rfl⟩:∃k3,k2=k3+1:=⟨k2-1,by omega⟩;have hat:F.steps[(au e (au i w).2).2.steps.length]?=some { aM with code:=12,a:=fl (au e (au i w).2).2.names n,b:=(au i w).1,c:=(au e (au i w).2).1 }:=by
          obtain⟨d,hd⟩:=hi.steps;rw[<-hd];simp[a8]
         by_cases hn:y.n<0\/y.n>=(fF t2 (Fr.get n)).length
         ·simp only[cX,if_pos hn,eP,Option.some.injEq]at hr
          subst hr;have a1:=Mk (L:=cI Lt) (F:=F) (v:=v2) (s:=wf t2 (k3+1)) (s':=wf t2 k3) (e:=.stop 3) hat (by simp) (by simp[wf]) (by
           have yE:y.n<0\/y.n>=((fF (wf t2 k3) (Fr.get n)).length:Int):=hn;simp only[sD,cq,n1,n3,Nt,cX,if_pos yE,eP,aS];simp)
          exact Or.inr ⟨k3,g1.ends (b1.ends a1)⟩
         ·simp only[cX,if_neg hn,a6,Option.some.injEq]at hr
          subst hr;have yy:(ko t2 (Fr.get n) y.n fB.n).fuel=t2.fuel:=(by unfold ko;split <;> rfl);have a1:=D7 (L:=cI Lt) (s:=t2) (s1:=ko t2 (Fr.get n) y.n fB.n) (v:=v2) (v':=v2) (k:=k3) (hi.len (oO.trans g5)) (by simp) (fun k=>by
           have yE:¬(y.n<0\/y.n>=((fF (wf t2 k) (Fr.get n)).length:Int)):=hn;simp only[cq,n1,n3,Nt,b3,cX,if_neg yE,a6,aS];have hp:ko (wf t2 k) (Fr.get n) y.n fB.n=wf (ko t2 (Fr.get n) y.n fB.n) k:=by
               unfold ko;cases (Fr.get n).arr <;> rfl
           rw[hp];simp)
          refine⟨v2,k3,g1.trans (b1.trans ?_),by rw[yy];omega,Jy.next rfl rfl (Nat.le_refl _) (fun p hp=>rfl),oO.trans g5⟩;simpa [a8] using a1
theorem ajd (a:Int) (n:List UInt8) (hx:∀aH,gp Lt C F aH f e) (hC:8*bK e+8<=C):w7 Lt C F (f+1) (.var a n e):=by
 intro aH w Fr v s r k hr hs hi hrel hk;simp only[eO]at hr;simp only[lF,bW,mN]at hs hi ⊢;rcases yf hr with⟨h0,rfl⟩|⟨h0,hr⟩
 ·exact Or.inl rfl
 have hl:=y6 h0;have hm:C*s.fuel=C*(less s).fuel+C:=by rw[<-hl,Nat.mul_add,Nat.mul_one]
 have l8:=gu e w;have hsm:=fz e w;obtain⟨kd,vV⟩:∃kd,(au e w).2.types.getD (au e w).1.toNat 0=kd:=⟨_,rfl⟩;rw[vV]at hi ⊢;have T9:In (fU n kd (au e w).2).2 F v:=hi.eo;have ki:In (au e w).2 F v:=T9.less ⟨[],by simp[fU]⟩ (by simp[fU]);cases hy:bk Lt f (less s) Fr e with
 | none=>rw[hy]at hr;cases hr
 | some z =>
   rw[hy]at hr;have h1:=hx aH w Fr v (less s) z k hy hs.2 ki hrel (by omega);obtain⟨z,t⟩:=z;cases z with
   | error lH =>
     simp only[aS,Option.some.injEq]at hr;subst hr;rcases h1 with h1|⟨⟨dO,h1⟩,k',h2⟩
     ·subst h1
      exact Or.inl rfl
     ·subst h1
      exact Or.inr ⟨k',h2⟩
   | ok y =>
     simp only[aS,a6,Option.some.injEq]at hr;subst hr;obtain⟨v1,k1,g1,g2,g3,g4,g5⟩:=h1;have ju:=hrel.next hsm.1 hsm.2 l8 g4;have hpl:(au e w).2.types.length<v1.length:=(by have:=(T9.len g5).types;simp only[fU,List.length_append,List.length_singleton]at this;omega);obtain⟨k2,rfl⟩:∃k2,k1=k2+1:=⟨k1-1,by omega⟩;have a1:=D7 (L:=cI Lt) (s:=t) (s1:=t) (v:=v1) (v':=v1.put ((au e w).2.types.length:Int) y) (k:=k2) (hi.len g5) (by simp) (fun k=>by simp[cq,a6,g3,fU]);have gz:∀x,fl (fU n kd (au e w).2).2.names x=if x=n then ((au e w).2.types.length:Int) else fl (au e w).2.names x:=fun x=>by simp only[fU,zL]
     have jv:(fU n kd (au e w).2).2.types.length=(au e w).2.types.length+1:=(by simp[fU]);refine⟨v1.put ((au e w).2.types.length:Int) y,k2,g1.trans ?_,by omega,⟨fun x b5=>?_,?_,fun x b5 z DR he=>?_,fun x b5 he=>?_⟩,by rw[nv,g5]⟩
     ·simpa [a8,fU] using a1
     ·show ∃p:Nat,fl (fU n kd (au e w).2).2.names x=(p:Int)/\p<(fU n kd (au e w).2).2.types.length/\_
      rw[gz,jv,Di];by_cases dM:x=n
      ·rw[if_pos dM,if_pos dM]
       exact⟨_,rfl,by omega,by rw[iY hpl,if_pos rfl]⟩
      ·rw[if_neg dM,if_neg dM]
       obtain⟨q,m1,m2,m3⟩:=ju.names x ((List.mem_cons.1 b5).resolve_left dM);exact⟨q,m1,by omega,by rw[iY hpl,if_neg (by omega)];exact m3⟩
     ·obtain⟨q,m1,m2,m3⟩:=ju.none
      refine⟨q,m1,?_,by rw[iY hpl,if_neg (by omega)];exact m3⟩
      show q<(fU n kd (au e w).2).2.types.length
      omega
     ·have he:fl (fU n kd (au e w).2).2.names x=fl (fU n kd (au e w).2).2.names z:=he
      rw[gz,gz]at he;by_cases dM:x=n
      ·by_cases wk:z=n
       ·rw[dM,wk]
       ·rw[if_pos dM,if_neg wk]at he
        obtain⟨q,m1,m2,m3⟩:=ju.names z ((List.mem_cons.1 DR).resolve_left wk);omega
      ·by_cases wk:z=n
       ·rw[if_neg dM,if_pos wk]at he
        obtain⟨q,m1,m2,m3⟩:=ju.names x ((List.mem_cons.1 b5).resolve_left dM);omega
       ·rw[if_neg dM,if_neg wk]at he
        exact ju.inj x ((List.mem_cons.1 b5).resolve_left dM) z ((List.mem_cons.1 DR).resolve_left wk) he
     ·have he:fl (fU n kd (au e w).2).2.names x=(au e w).2.none:=he
      rw[gz]at he;by_cases dM:x=n
      ·rw[if_pos dM]at he
       obtain⟨q,m1,m2,m3⟩:=ju.none;omega
      ·rw[if_neg dM]at he
       exact ju.apart x ((List.mem_cons.1 b5).resolve_left dM) he
end
end aW.iP
namespace aW.iP
open Go.RowKit aB aW Go.Proofs.Tryz
variable {aH:List (List UInt8)}
theorem Rel.sub {w:Lw} {Rv:List (List UInt8)} {Fr:Fr} {v:bp} (h:Rel w Rv Fr v) (hs:∀x∈aH,x∈Rv):Rel w aH Fr v :=
 ⟨fun x hx=>h.names x (hs x hx),h.none,fun x hx y hy=>h.inj x (hs x hx) y (hs y hy),fun x hx=>h.apart x (hs x hx)⟩
theorem akv (aH:List (List UInt8)) (x:St):∀y∈aH,y∈mN aH x:=by
 intro y hy;cases x <;> simp only[mN] <;> first|exact hy|exact List.mem_cons_of_mem _ hy
theorem aiI {Lt:List aB.Fn} {x:St} {l:List St} (h:qN Lt aH (x::l)):lF Lt aH x/\qN Lt (mN aH x) l:=by
 simp only[qN]at h;refine⟨h.1,?_⟩;cases x <;> exact h.2
def CZ (Lt:List aB.Fn) (C:Nat) (F:ar) (f:Nat) (l:List St):Prop:=∀ (aH:List (List UInt8)) (w:Lw) (Fr:Fr) (v:bp) (s:aC) (r:Except cz aB.Fr×aC) (k:Nat),fk Lt f s Fr l=some r->qN Lt aH l->In (cZ l w) F v->Rel w aH Fr v->C*s.fuel<=k->Rm (cI Lt) F C w (cZ l w) aH v s k r
mutual
theorem ajL:(x:St)->(w:Lw)->w.types.length<=(bW x w).types.length
 | .var _ n v,w=>by
   have h:=gu v w;simp only[bW,a8,fU,List.length_append,List.length_singleton];omega
 | .set _ n v,w=>by simp only[bW,a8];exact gu v w
 | .put _ n i v,w=>by simp only[bW,a8];exact Nat.le_trans (gu i w) (gu v _)
 | .cond _ v t e,w=>by
   simp only[bW];refine Nat.le_trans ?_ (show _<=(a8 _ (cZ e _)).types.length from r5 e _);refine Nat.le_trans ?_ (show _<=(a8 _ (a8 _ (cZ t _))).types.length from r5 t _);exact gu v (b7 (b7 w).2).2
 | .loop _ v t,w=>by
   simp only[bW];refine Nat.le_trans ?_ (show _<=(a8 _ (a8 _ (cZ t _))).types.length from r5 t _);exact gu v (a8 _ (b7 (b7 w).2).2)
 | .ret _ v,w=>by simp only[bW,a8];exact gu v w
 | .print _ v,w=>by simp only[bW,a8];exact gu v w
 | .call _ v,w=>by simp only[bW];exact gu v w
theorem r5:(l:List St)->(w:Lw)->w.types.length<=(cZ l w).types.length
 | [],w=>Nat.le_refl _
 | x::r,w=>by simp only[cZ];exact Nat.le_trans (ajL x w) (r5 r _)
end
section
variable {Lt:List aB.Fn} {C:Nat} {F:ar}
theorem PC:(l:List St)->(f:Nat)->(∀j,j<f->∀x∈l,w7 Lt C F j x)->CZ Lt C F f l
 | [],0,ih=>fun aH w Fr v s r k hr=>by simp only[fk]at hr;cases hr
 | x::l,0,ih=>fun aH w Fr v s r k hr=>by simp only[fk]at hr;cases hr
 | [],f+1,ih=>fun aH w Fr v s r k hr hs hi hrel hk=>by
   simp only[fk,a6,Option.some.injEq]at hr;subst hr;exact⟨v,k,Reach.refl _ _ _ _ _,by omega,hrel,rfl⟩
 | x::l,f+1,ih=>fun aH w Fr v s r k hr hs hi hrel hk=>by
   simp only[fk]at hr;obtain⟨hs1,hs2⟩:=aiI hs;simp only[cZ]at hi ⊢;cases hy:eO Lt f s Fr x with
   | none=>rw[hy]at hr;cases hr
   | some z =>
     rw[hy]at hr;have h1:=ih f (Nat.lt_succ_self f) x List.mem_cons_self aH w Fr v s z k hy hs1 (hi.less (po l _).pre (r5 l _)) hrel hk;obtain⟨z,t⟩:=z;cases z with
     | error lH =>
       simp only[aS,Option.some.injEq]at hr;subst hr;cases lH with
       | stop dO=>exact h1
       | ret n=>exact h1
     | ok G =>
       simp only[aS]at hr;obtain⟨v1,k1,g1,g2,g3,g4⟩:=h1;have h2:=PC l f (fun j hj y hy=>ih j (by omega) y (List.mem_cons_of_mem _ hy)) (mN aH x) (bW x w) G v1 t r k1 hr hs2 (hi.len g4) g3 (by omega);obtain⟨r,t2⟩:=r;cases r with
       | ok uT =>
         obtain⟨v2,k2,b1,b2,b3,b4⟩:=h2;exact⟨v2,k2,g1.trans b1,by omega,b3.sub (akv aH x),b4.trans g4⟩
       | error lH =>
         cases lH with
         | stop dO =>
           rcases h2 with h2|⟨k',h2⟩
           ·exact Or.inl h2
           ·exact Or.inr ⟨k',g1.ends h2⟩
         | ret n =>
           obtain⟨k',h2,h3⟩:=h2;exact⟨k',g1.ends h2,by omega⟩
end
end aW.iP
namespace aW.iP
open Go.RowKit aB aW Go.Proofs.Tryz
variable {e:aL} {t:List St} {w:Lw} {aH:List (List UInt8)} {v:bp}
theorem Rel.yR {w':Lw} {Fr:Fr} (h:Rel w aH Fr v) (hn:∀x∈aH,fl w'.names x=fl w.names x) (h0:w'.none=w.none) (ht:w.types.length<=w'.types.length):Rel w' aH Fr v:=by
 refine⟨fun x hx=>?_,?_,fun x hx y hy e=>h.inj x hx y hy (by rw[<-hn x hx,<-hn y hy];exact e),fun x hx e=>h.apart x hx (by rw[<-hn x hx,<-h0];exact e)⟩
 ·obtain⟨p,h1,h2,h3⟩:=h.names x hx
  exact⟨p,by rw[hn x hx];exact h1,by omega,h3⟩
 ·obtain⟨p,h1,h2,h3⟩:=h.none
  exact⟨p,by rw[h0];exact h1,by omega,h3⟩
theorem ye {st:ax} {F:ar} (h:In (a8 st w) F v):F.steps[w.steps.length]?=some st:=by
 obtain⟨d,hd⟩:=h.steps;rw[<-hd];simp[a8]
theorem Bo (st:ax) (w:Lw):(a8 st w).steps.length=w.steps.length+1:=by simp[a8]
section
variable {Lt:List aB.Fn} {C:Nat} {F:ar} {f:Nat}
theorem ai7 (a:Int) {u:List St} (hU:w5 F.steps) (hx:∀aH,gp Lt C F aH f e) (ht:CZ Lt C F f t) (hu:CZ Lt C F f u) (hC:8*bK e+8<=C):w7 Lt C F (f+1) (.cond a e t u):=by
 intro aH w Fr v s r k hr hs hi hrel hk;simp only[eO]at hr;simp only[lF,bW,mN]at hs hi ⊢;obtain⟨l1,fc⟩:∃l1,(b7 w).1=l1:=⟨_,rfl⟩;obtain⟨l2,hl2⟩:∃l2,(b7 (b7 w).2).1=l2:=⟨_,rfl⟩;obtain⟨w0,hw0⟩:∃w0,(b7 (b7 w).2).2=w0:=⟨_,rfl⟩;rw[fc,hl2,hw0]at hi ⊢;have JC:w0.steps=w.steps:=by rw[<-hw0];rfl
 have Jx:Rel w0 aH Fr v:=hrel.yR (fun x hx=>by rw[<-hw0];rfl) (by rw[<-hw0];rfl) (by rw[<-hw0];exact Nat.le_refl _);obtain⟨eA,h9⟩:∃eA,a8 { aM with code:=5,a:=(au e w0).1,label:=(l1:Int) } (au e w0).2=eA:=⟨_,rfl⟩;rw[h9]at hi ⊢;obtain⟨w1,df⟩:∃w1,cZ t eA=w1:=⟨_,rfl⟩;rw[df]at hi ⊢;obtain⟨mO,lM⟩:∃mO,a8 { aM with code:=4,label:=(l2:Int) } w1=mO:=⟨_,rfl⟩;rw[lM]at hi ⊢;obtain⟨oz,wh⟩:∃oz,a8 { aM with code:=6,label:=(l1:Int) } mO=oz:=⟨_,rfl⟩;rw[wh]at hi ⊢;obtain⟨w2,hw2⟩:∃w2,cZ u oz=w2:=⟨_,rfl⟩;rw[hw2]at hi ⊢;obtain⟨we,uE⟩:∃we,a8 { aM with code:=6,label:=(l2:Int) } w2=we:=⟨_,rfl⟩;rw[uE]at hi ⊢;have i2:In w2 F v:=by rw[<-uE]at hi;exact hi.eo
 have Ch:In oz F v:=by rw[<-hw2]at i2;exact i2.less (po u _).pre (r5 u _)
 have tB:In mO F v:=by rw[<-wh]at Ch;exact Ch.eo
 have i1:In w1 F v:=by rw[<-lM]at tB;exact tB.eo
 have oZ:In eA F v:=by rw[<-df]at i1;exact i1.less (po t _).pre (r5 t _)
 have ou:In (au e w0).2 F v:=by rw[<-h9]at oZ;exact oZ.eo
 have Fh:F.steps[(au e w0).2.steps.length]?=some { aM with code:=5,a:=(au e w0).1,label:=(l1:Int) }:=ye (by rw[h9];exact oZ);have C4:F.steps[w1.steps.length]?=some { aM with code:=4,label:=(l2:Int) }:=ye (by rw[lM];exact tB);have ZY:F.steps[mO.steps.length]?=some { aM with code:=6,label:=(l1:Int) }:=ye (by rw[wh];exact Ch);have Ia:F.steps[w2.steps.length]?=some { aM with code:=6,label:=(l2:Int) }:=ye (by rw[uE];exact hi);have p1:jD F (l1:Int)+1=oz.steps.length:=by rw[<-wh,Bo];exact congrArg (·+1) (C5 hU ZY rfl)
 have p2:jD F (l2:Int)+1=we.steps.length:=by rw[<-uE,Bo];exact congrArg (·+1) (C5 hU Ia rfl)
 have lb:eA.steps.length=(au e w0).2.steps.length+1:=by rw[<-h9,Bo]
 have PN:=gu e w0;have xL:=fz e w0;have tG:=w9 (Lt:=Lt) t aH hs.2.1 eA;have O8:=w9 (Lt:=Lt) u aH hs.2.2 oz;have tt:=r5 t eA;have PO:=r5 u oz;rw[df]at tG tt;rw[hw2]at O8 PO;have nb:eA.names=(au e w0).2.names/\eA.none=(au e w0).2.none/\eA.types=(au e w0).2.types:=by rw[<-h9];exact⟨rfl,rfl,rfl⟩
 have D5:oz.names=w1.names/\oz.none=w1.none/\oz.types=w1.types:=by rw[<-wh,<-lM];exact⟨rfl,rfl,rfl⟩
 have ne:we.names=w2.names/\we.none=w2.none/\we.types=w2.types:=by rw[<-uE];exact⟨rfl,rfl,rfl⟩
 rcases yf hr with⟨h0,rfl⟩|⟨h0,hr⟩
 ·exact Or.inl rfl
 have hl:=y6 h0;have hm:C*s.fuel=C*(less s).fuel+C:=by rw[<-hl,Nat.mul_add,Nat.mul_one]
 cases hy:bk Lt f (less s) Fr e with
 | none=>rw[hy]at hr;cases hr
 | some z =>
   rw[hy]at hr;have h1:=hx aH w0 Fr v (less s) z k hy hs.1 ou Jx (by omega);obtain⟨z,pI⟩:=z;cases z with
   | error lH =>
     simp only[aS,Option.some.injEq]at hr;subst hr;rcases h1 with h1|⟨⟨dO,h1⟩,k',h2⟩
     ·subst h1
      exact Or.inl rfl
     ·subst h1
      rw[JC]at h2;exact Or.inr ⟨k',h2⟩
   | ok y =>
     simp only[aS]at hr;obtain⟨v1,k1,g1,g2,g3,g4,g5⟩:=h1;rw[JC]at g1;obtain⟨k2,rfl⟩:∃k2,k1=k2+1:=⟨k1-1,by omega⟩;have ju:Rel (au e w0).2 aH Fr v1:=Jx.next xL.1 xL.2 PN g4;by_cases hz:y.n=0
     ·rw[if_neg (fun h=>h hz)]at hr
      have a1:Reach (cI Lt) F (au e w0).2.steps.length v1 (wf pI (k2+1)) (jD F (l1:Int)+1) v1 (wf pI k2):=Kw (L:=cI Lt) (F:=F) (v:=v1) (s:=wf pI (k2+1)) Fh rfl (by simp[wf]) (by simp only[g3];exact hz);rw[p1]at a1;have h2:=hu aH oz Fr v1 pI r k2 hr hs.2.2 (by rw[hw2];exact i2.len g5) (ju.yR (fun x hx=>by rw[D5.1,tG.1 x hx,nb.1]) (by rw[D5.2.1,tG.2,nb.2.1]) (by rw[D5.2.2];rw[nb.2.2]at tt;exact tt)) (by omega);rw[hw2]at h2;obtain⟨r,t2⟩:=r;cases r with
      | ok G =>
        obtain⟨v2,k3,b1,b2,b3,b4⟩:=h2;obtain⟨k4,rfl⟩:∃k4,k3=k4+1:=⟨k3-1,by omega⟩;have a2:=Ay (L:=cI Lt) (F:=F) (v:=v2) (v':=v2) (s:=wf t2 (k4+1)) (s':=wf t2 k4) Ia (by simp) (by simp[wf]) (by simp[cq,a6,sD]);rw[show w2.steps.length+1=we.steps.length by rw[<-uE,Bo]]at a2;exact⟨v2,k4,g1.trans (a1.trans (b1.trans a2)),by omega,b3.yR (fun x hx=>by rw[ne.1]) ne.2.1 (by rw[ne.2.2];exact Nat.le_refl _),b4.trans g5⟩
      | error lH =>
        cases lH with
        | stop dO =>
          rcases h2 with h2|⟨k',h2⟩
          ·exact Or.inl h2
          ·exact Or.inr ⟨k',g1.ends (a1.ends h2)⟩
        | ret n =>
          obtain⟨k',h2,h3⟩:=h2;exact⟨k',g1.ends (a1.ends h2),by omega⟩
     ·rw[if_pos hz]at hr
      have a1:Reach (cI Lt) F (au e w0).2.steps.length v1 (wf pI (k2+1)) ((au e w0).2.steps.length+1) v1 (wf pI k2):=Kv (L:=cI Lt) (F:=F) (v:=v1) (s:=wf pI (k2+1)) Fh rfl (by simp[wf]) (by simp only[g3];exact hz);rw[<-lb]at a1;have h2:=ht aH eA Fr v1 pI r k2 hr hs.2.1 (by rw[df];exact i1.len g5) (ju.yR (fun x hx=>by rw[nb.1]) nb.2.1 (by rw[nb.2.2];exact Nat.le_refl _)) (by omega);rw[df]at h2;obtain⟨r,t2⟩:=r;cases r with
      | ok G =>
        obtain⟨v2,k3,b1,b2,b3,b4⟩:=h2;obtain⟨k4,rfl⟩:∃k4,k3=k4+1:=⟨k3-1,by omega⟩;have a2:Reach (cI Lt) F w1.steps.length v2 (wf t2 (k4+1)) (jD F (l2:Int)+1) v2 (wf t2 k4):=WB (L:=cI Lt) (F:=F) (v:=v2) (s:=wf t2 (k4+1)) C4 rfl (by simp[wf]);rw[p2]at a2;exact⟨v2,k4,g1.trans (a1.trans (b1.trans a2)),by omega,b3.yR (fun x hx=>by rw[ne.1,O8.1 x hx,D5.1]) (by rw[ne.2.1,O8.2,D5.2.1]) (by rw[ne.2.2];rw[D5.2.2]at PO;exact PO),b4.trans g5⟩
      | error lH =>
        cases lH with
        | stop dO =>
          rcases h2 with h2|⟨k',h2⟩
          ·exact Or.inl h2
          ·exact Or.inr ⟨k',g1.ends (a1.ends h2)⟩
        | ret n =>
          obtain⟨k',h2,h3⟩:=h2;exact⟨k',g1.ends (a1.ends h2),by omega⟩
def OkW (L:List ar) (F:ar) (C:Nat) (fh we:Lw) (aH:List (List UInt8)) (v:bp) (s:aC) (k c:Nat):Except cz Fr×aC->Prop
 | (.ok G,s1)=>∃v' k',Reach L F fh.steps.length v (wf s k) we.steps.length v' (wf s1 k')/\k+C*s1.fuel<=k'+C*s.fuel+c/\Rel we aH G v'/\v'.length=v.length
 | (.error (.ret n),s1)=>∃k',Ends L F fh.steps.length v (wf s k) (.ok n,wf s1 k')/\k+C*s1.fuel<=k'+C*s.fuel+c
 | (.error (.stop dO),s1)=>dO=6\/∃k',Ends L F fh.steps.length v (wf s k) (.error (.stop dO),wf s1 k')
theorem W4 {fh eA w1 we:Lw} {l1 l2 n:Nat} (hC:8*bK e+8<=C) (UL:fj Lt aH e) (hst:qN Lt aH t)
 (h9:a8 { aM with code:=5,a:=(au e fh).1,label:=(l2:Int) } (au e fh).2=eA) (df:cZ t eA=w1)
 (C4:F.steps[w1.steps.length]?=some { aM with code:=4,label:=(l1:Int) }) (p1:jD F (l1:Int)+1=fh.steps.length) (p2:jD F (l2:Int)+1=we.steps.length)
 (ne:we.names=w1.names/\we.none=w1.none/\we.types=w1.types) (hx:∀j,j<n->∀aH,gp Lt C F aH j e) (hb:∀j,j<n->CZ Lt C F j t) :
 (f:Nat)->f<=n->∀ (Fr:Fr) (v:bp) (s:aC) (r:Except cz aB.Fr×aC) (k:Nat),lp Lt f s Fr e t=some r->In w1 F v->Rel fh aH Fr v->C*s.fuel+8*bK e+2<=k->OkW (cI Lt) F C fh we aH v s k (8*bK e+1) r
 | 0,_,Fr,v,s,r,k,hr,i1,hrel,hk=>by simp only[lp]at hr;cases hr
 | f+1,hf,Fr,v,s,r,k,hr,i1,hrel,hk=>by
   have oZ:In eA F v:=(by rw[<-df]at i1;exact i1.less (po t _).pre (r5 t _));have ou:In (au e fh).2 F v:=(by rw[<-h9]at oZ;exact oZ.eo);have Fh:F.steps[(au e fh).2.steps.length]?=some { aM with code:=5,a:=(au e fh).1,label:=(l2:Int) }:=ye (by rw[h9];exact oZ);have lb:eA.steps.length=(au e fh).2.steps.length+1:=(by rw[<-h9,Bo]);have PN:=gu e fh;have xL:=fz e fh;have tG:=w9 (Lt:=Lt) t aH hst eA;have tt:=r5 t eA;rw[df]at tG tt;have nb:eA.names=(au e fh).2.names/\eA.none=(au e fh).2.none/\eA.types=(au e fh).2.types:=(by rw[<-h9];exact⟨rfl,rfl,rfl⟩);simp only[lp]at hr;cases hy:bk Lt f s Fr e with
   | none=>rw[hy]at hr;cases hr
   | some z =>
     rw[hy]at hr;have h1:=hx f (by omega) aH fh Fr v s z k hy UL ou hrel (by omega);obtain⟨z,pI⟩:=z;cases z with
     | error lH =>
       simp only[aS,Option.some.injEq]at hr;subst hr;rcases h1 with h1|⟨⟨dO,h1⟩,k',h2⟩
       ·subst h1
        exact Or.inl rfl
       ·subst h1
        exact Or.inr ⟨k',h2⟩
     | ok y =>
       simp only[aS]at hr;obtain⟨v1,k1,g1,g2,g3,g4,g5⟩:=h1;obtain⟨k2,rfl⟩:∃k2,k1=k2+1:=⟨k1-1,by omega⟩;have ju:Rel (au e fh).2 aH Fr v1:=hrel.next xL.1 xL.2 PN g4;by_cases hz:y.n=0
       ·rw[if_neg (fun h=>h hz)]at hr
        simp only[a6,Option.some.injEq]at hr;subst hr;have a1:Reach (cI Lt) F (au e fh).2.steps.length v1 (wf pI (k2+1)) (jD F (l2:Int)+1) v1 (wf pI k2):=Kw (L:=cI Lt) (F:=F) (v:=v1) (s:=wf pI (k2+1)) Fh rfl (by simp[wf]) (by simp only[g3];exact hz);rw[p2]at a1;exact⟨v1,k2,g1.trans a1,by omega,ju.yR (fun x hx=>by rw[ne.1,tG.1 x hx,nb.1]) (by rw[ne.2.1,tG.2,nb.2.1]) (by rw[ne.2.2];rw[nb.2.2]at tt;exact tt),g5⟩
       ·rw[if_pos hz]at hr
        have a1:Reach (cI Lt) F (au e fh).2.steps.length v1 (wf pI (k2+1)) ((au e fh).2.steps.length+1) v1 (wf pI k2):=Kv (L:=cI Lt) (F:=F) (v:=v1) (s:=wf pI (k2+1)) Fh rfl (by simp[wf]) (by simp only[g3];exact hz);rw[<-lb]at a1;cases j6:fk Lt f pI Fr t with
        | none=>rw[j6]at hr;cases hr
        | some z2 =>
          rw[j6]at hr;have h2:=hb f (by omega) aH eA Fr v1 pI z2 k2 j6 hst (by rw[df];exact i1.len g5) (ju.yR (fun x hx=>by rw[nb.1]) nb.2.1 (by rw[nb.2.2];exact Nat.le_refl _)) (by omega);rw[df]at h2;obtain⟨z2,t2⟩:=z2;cases z2 with
          | error lH =>
            simp only[Option.some.injEq]at hr;subst hr;cases lH with
            | stop dO =>
              rcases h2 with h2|⟨k',h2⟩
              ·exact Or.inl h2
              ·exact Or.inr ⟨k',g1.ends (a1.ends h2)⟩
            | ret n =>
              obtain⟨k',h2,h3⟩:=h2;exact⟨k',g1.ends (a1.ends h2),by omega⟩
          | ok G =>
            obtain⟨v2,k3,b1,b2,b3,b4⟩:=h2;rcases yf hr with⟨h0,rfl⟩|⟨h0,hr⟩
            ·exact Or.inl rfl
            have hl:=y6 h0;have hm:C*t2.fuel=C*(less t2).fuel+C:=(by rw[<-hl,Nat.mul_add,Nat.mul_one]);obtain⟨k4,rfl⟩:∃k4,k3=k4+1:=⟨k3-1,by omega⟩;have a2:Reach (cI Lt) F w1.steps.length v2 (wf t2 (k4+1)) (jD F (l1:Int)+1) v2 (wf t2 k4):=WB (L:=cI Lt) (F:=F) (v:=v2) (s:=wf t2 (k4+1)) C4 rfl (by simp[wf]);rw[p1]at a2;have Jy:Rel fh aH G v2:=by
             refine⟨fun x b5=>?_,?_,fun x b5 y dm he=>b3.inj x b5 y dm (by rw[tG.1 x b5,tG.1 y dm,nb.1,xL.1];exact he),fun x b5 he=>b3.apart x b5 (by rw[tG.1 x b5,tG.2,nb.1,nb.2.1,xL.1,xL.2];exact he)⟩
             ·obtain⟨p,m1,m2,m3⟩:=hrel.names x b5
              obtain⟨q,n1,n2,n3⟩:=b3.names x b5;rw[tG.1 x b5,nb.1,xL.1,m1]at n1;have:p=q:=(by omega);subst this;exact⟨p,m1,m2,n3⟩
             ·obtain⟨p,m1,m2,m3⟩:=hrel.none
              obtain⟨q,n1,n2,n3⟩:=b3.none;rw[tG.2,nb.2.1,xL.2,m1]at n1;have:p=q:=(by omega);subst this;exact⟨p,m1,m2,n3⟩
            have h3:=W4 hC UL hst h9 df C4 p1 p2 ne hx hb f (by omega) G v2 (less t2) r k4 hr (i1.len (b4.trans g5)) Jy (by omega);have cQ:Reach (cI Lt) F fh.steps.length v (wf s k) fh.steps.length v2 (wf t2 k4):=g1.trans (a1.trans (b1.trans a2));obtain⟨r,t3⟩:=r;cases r with
            | ok uT =>
              obtain⟨v3,gU,d1,d2,d3,d4⟩:=h3;exact⟨v3,gU,cQ.trans d1,by omega,d3,d4.trans (b4.trans g5)⟩
            | error lH =>
              cases lH with
              | stop dO =>
                rcases h3 with h3|⟨k',h3⟩
                ·exact Or.inl h3
                ·exact Or.inr ⟨k',cQ.ends h3⟩
              | ret n =>
                obtain⟨k',h3,h4⟩:=h3;exact⟨k',cQ.ends h3,by omega⟩
theorem ai8 (a:Int) (hU:w5 F.steps) (hx:∀j,j<f+1->∀aH,gp Lt C F aH j e) (hb:∀j,j<f+1->CZ Lt C F j t) (hC:8*bK e+8<=C):w7 Lt C F (f+1) (.loop a e t):=by
 intro aH w Fr v s r k hr hs hi hrel hk;simp only[eO]at hr;simp only[lF,bW,mN]at hs hi ⊢;obtain⟨l1,fc⟩:∃l1,(b7 w).1=l1:=⟨_,rfl⟩;obtain⟨l2,hl2⟩:∃l2,(b7 (b7 w).2).1=l2:=⟨_,rfl⟩;obtain⟨w0,hw0⟩:∃w0,(b7 (b7 w).2).2=w0:=⟨_,rfl⟩;rw[fc,hl2,hw0]at hi ⊢;have JC:w0.steps=w.steps:=by rw[<-hw0];rfl
 have Jx:Rel w0 aH Fr v:=hrel.yR (fun x hx=>by rw[<-hw0];rfl) (by rw[<-hw0];rfl) (by rw[<-hw0];exact Nat.le_refl _);obtain⟨fh,uF⟩:∃fh,a8 { aM with code:=6,label:=(l1:Int) } w0=fh:=⟨_,rfl⟩;rw[uF]at hi ⊢;obtain⟨eA,h9⟩:∃eA,a8 { aM with code:=5,a:=(au e fh).1,label:=(l2:Int) } (au e fh).2=eA:=⟨_,rfl⟩;rw[h9]at hi ⊢;obtain⟨w1,df⟩:∃w1,cZ t eA=w1:=⟨_,rfl⟩;rw[df]at hi ⊢;obtain⟨mO,lM⟩:∃mO,a8 { aM with code:=4,label:=(l1:Int) } w1=mO:=⟨_,rfl⟩;rw[lM]at hi ⊢;obtain⟨we,uE⟩:∃we,a8 { aM with code:=6,label:=(l2:Int) } mO=we:=⟨_,rfl⟩;rw[uE]at hi ⊢;have tB:In mO F v:=by rw[<-uE]at hi;exact hi.eo
 have i1:In w1 F v:=by rw[<-lM]at tB;exact tB.eo
 have oZ:In eA F v:=by rw[<-df]at i1;exact i1.less (po t _).pre (r5 t _)
 have ou:In (au e fh).2 F v:=by rw[<-h9]at oZ;exact oZ.eo
 have ih:In fh F v:=ou.less (jF e fh).pre (gu e fh);have RN:F.steps[w0.steps.length]?=some { aM with code:=6,label:=(l1:Int) }:=ye (by rw[uF];exact ih);have C4:F.steps[w1.steps.length]?=some { aM with code:=4,label:=(l1:Int) }:=ye (by rw[lM];exact tB);have Ia:F.steps[mO.steps.length]?=some { aM with code:=6,label:=(l2:Int) }:=ye (by rw[uE];exact hi);have VD:w0.steps.length+1=fh.steps.length:=by rw[<-uF,Bo]
 have p1:jD F (l1:Int)+1=fh.steps.length:=by rw[<-VD];exact congrArg (·+1) (C5 hU RN rfl)
 have p2:jD F (l2:Int)+1=we.steps.length:=by rw[<-uE,Bo];exact congrArg (·+1) (C5 hU Ia rfl)
 rcases yf hr with⟨h0,rfl⟩|⟨h0,hr⟩
 ·exact Or.inl rfl
 have hl:=y6 h0;have hm:C*s.fuel=C*(less s).fuel+C:=by rw[<-hl,Nat.mul_add,Nat.mul_one]
 obtain⟨k2,rfl⟩:∃k2,k=k2+1:=⟨k-1,by omega⟩;have a1:Reach (cI Lt) F w0.steps.length v (wf s (k2+1)) (w0.steps.length+1) v (wf s k2):=Ay (L:=cI Lt) (F:=F) (v:=v) (v':=v) (s:=wf s (k2+1)) (s':=wf s k2) RN (by simp) (by simp[wf]) (by simp[cq,a6,sD]);rw[VD,JC]at a1;have h3:=W4 hC hs.1 hs.2 h9 df C4 p1 p2 (by rw[<-uE,<-lM];exact⟨rfl,rfl,rfl⟩) hx hb f (Nat.le_succ f) Fr v (less s) r k2 hr i1 (Jx.yR (fun x hx=>by rw[<-uF];rfl) (by rw[<-uF];rfl) (by rw[<-uF];exact Nat.le_refl _)) (by omega);obtain⟨r,t3⟩:=r;cases r with
 | ok uT =>
   obtain⟨v3,gU,d1,d2,d3,d4⟩:=h3;exact⟨v3,gU,a1.trans d1,by omega,d3,d4⟩
 | error lH =>
   cases lH with
   | stop dO =>
     rcases h3 with h3|⟨k',h3⟩
     ·exact Or.inl h3
     ·exact Or.inr ⟨k',a1.ends h3⟩
   | ret n =>
     obtain⟨k',h3,h4⟩:=h3;exact⟨k',a1.ends h3,by omega⟩
theorem ai5 (hU:w5 F.steps):(f:Nat)->(∀j,j<f->Hi Lt C j)->(x:St)->8*dH x+8<=C->w7 Lt C F f x:=by
 intro f;induction f using Nat.strongRecOn with
 | _ f ih =>
   intro hc x hC;cases f with
   | zero=>intro aH w Fr v s r k hr;simp only[eO]at hr;cases hr
   | succ f =>
     have he:∀j,j<f+1->∀e aH,gp Lt C F aH j e:=fun j hj e aH=>aiW hU j (fun i hi=>hc i (by omega)) e
     have hbl:∀j,j<f+1->∀l:List St,8*jz l+8<=C->CZ Lt C F j l:=fun j hj l hl=>PC l j (fun i hi y hy=>ih i (by omega) (fun m hm=>hc m (by omega)) y (by
       have:∀ (l:List St) (y:St),y∈l->dH y<=jz l:=by
        intro l;induction l with
        | nil=>intro y hy;cases hy
        | cons b r Oq =>
          intro y hy;simp only[jz];rcases List.mem_cons.1 hy with rfl|hy
          ·omega
          ·have:=Oq y hy;omega
       have:=this l y hy;omega))
     cases x with
     | var a n e=>exact ajd a n (fun aH=>he f (by omega) e aH) (by simp only[dH]at hC;omega)
     | set a n e=>exact ajc a n (fun aH=>he f (by omega) e aH) (by simp only[dH]at hC;omega)
     | put a n i e=>exact aja a n (fun aH=>he f (by omega) i aH) (fun aH=>he f (by omega) e aH) (by simp only[dH]at hC;omega)
     | cond a e t u=>simp only[dH]at hC;exact ai7 a hU (fun aH=>he f (by omega) e aH) (hbl f (by omega) t (by omega)) (hbl f (by omega) u (by omega)) (by omega)
     | loop a e t=>simp only[dH]at hC;exact ai8 a hU (fun j hj aH=>he j hj e aH) (fun j hj=>hbl j hj t (by omega)) (by omega)
     | ret a e=>exact ajb a (fun aH=>he f (by omega) e aH) (by simp only[dH]at hC;omega)
     | print a e=>exact ai9 a (fun aH=>he f (by omega) e aH) (by simp only[dH]at hC;omega)
     | call a e=>exact ai6 a (fun aH=>he f (by omega) e aH) (by simp only[dH]at hC;omega)
end

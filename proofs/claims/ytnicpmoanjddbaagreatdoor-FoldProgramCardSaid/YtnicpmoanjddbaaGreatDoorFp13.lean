/- A part of what stands behind. -/
import Derived.Test.YtnicpmoanjddbaaGreatDoorFp12
set_option maxRecDepth 100000
set_option maxHeartbeats 4000000
set_option linter.all false
namespace Go.Proofs.YtnicpmoanjddbaaGreatDoor
namespace aW.iP
open Go.RowKit aB aW Go.Proofs.Tryz
variable {w w':Lw} {N N':Nm} {a t k:Int} {L Lt:List aB.Fn} {s:ax} {F:ar} {fn:aB.Fn} {vs:List V} {n C:Nat} {e:aL} {op:List UInt8} {u:Unit} {aH:List (List UInt8)}
theorem GO:(l:List (List UInt8×Int))->(w:Lw)->(l.map (·.1)).Nodup->(∀x,x ∉ l.map (·.1)->fl (iy l w).names x=fl w.names x)/\(∀ (i:Nat) (p:List UInt8×Int),l[i]?=some p->fl (iy l w).names p.1=((w.types.length+i:Nat):Int))/\(iy l w).types=w.types++l.map (·.2)/\(iy l w).steps=w.steps/\(iy l w).labels=w.labels
 | [],w,_=>⟨fun x _=>rfl,fun i p h=>by simp at h,by simp[iy],rfl,rfl⟩
 | a::l,w,h=>by
   simp only[List.map_cons,List.nodup_cons]at h;obtain⟨h1,h2,h3,h4,h5⟩:=GO l { w with types:=w.types++[a.2],names:=xH w.names a.1 (w.types.length:Int) } h.2;simp only[iy];refine⟨fun x hx=>?_,fun i p hp=>?_,by rw[h3];simp,h4,h5⟩
   ·simp only[List.map_cons,List.mem_cons,not_or]at hx
    rw[h1 x hx.2,zL,if_neg hx.1]
   ·cases i with
    | zero =>
      obtain rfl:a=p:=(by simpa using hp);rw[h1 a.1 h.1,zL,if_pos rfl];rfl
    | succ i =>
      rw[h2 i p (by simpa using hp)];simp only[List.length_append,List.length_singleton];omega
theorem RQ:(l:List (List UInt8×Int))->(vs:List V)->(F:Fr)->(l.map (·.1)).Nodup->vs.length=l.length->(∀x,x ∉ l.map (·.1)->(pj F l vs).get x=F.get x)/\(∀ (i:Nat) (p:List UInt8×Int),l[i]?=some p->(pj F l vs).get p.1=vs.getD i ⟨0,none⟩)
 | [],vs,F,_,hl=>⟨fun x _=>by simp[pj],fun i p h=>by simp at h⟩
 | a::l,[],F,_,hl=>by simp at hl
 | a::l,b::vs,F,h,hl=>by
   simp only[List.map_cons,List.nodup_cons]at h;obtain⟨h1,h2⟩:=RQ l vs (F.put a.1 b) h.2 (by simpa using hl);simp only[pj];refine⟨fun x hx=>?_,fun i p hp=>?_⟩
   ·simp only[List.map_cons,List.mem_cons,not_or]at hx
    rw[h1 x hx.2,Di,if_neg hx.1]
   ·cases i with
    | zero =>
      obtain rfl:a=p:=(by simpa using hp);rw[h1 a.1 h.1,Di,if_pos rfl];rfl
    | succ i =>
      rw[h2 i p (by simpa using hp)];simp
structure E9 (Lt:List aB.Fn) (C:Nat) (fn:aB.Fn):Prop where
 once:(fn.params.map (·.1)).Nodup
 body:qN Lt (fn.params.map (·.1)) fn.body
 cost:8*jz fn.body+8<=C
theorem head_eq (fn:aB.Fn):ey fn={ (bC 1 { aM with code:=1 } (iy fn.params iJ)).2 with none:=((iy fn.params iJ).types.length:Int) }:=rfl
theorem TN (fn:aB.Fn) (h:(fn.params.map (·.1)).Nodup):ct (ey fn).steps=[]:=by
 obtain⟨-,-,-,h4,-⟩:=GO fn.params iJ h;rw[head_eq];simp only[bC,h4];rfl
theorem afF (fn:aB.Fn) (h:(fn.params.map (·.1)).Nodup):w5 (pC fn).steps:=by
 refine Vr _ ?_;obtain⟨d,h1,h2,h3,h4⟩:=po fn.body (ey fn);simp only[pC,a8];rw[h1,o0,o0,TN fn h,wz,if_neg (by simp)];simpa using h4
theorem ab0 {g:List UInt8} (h:il Lt g=some fn):kI (cI Lt) g=gV fn:=by
 have key:∀l:List aB.Fn,(cI l).find? (fun f=>f.name==g)=(l.find? (fun f=>f.name==g)).map gV:=by
  intro l;induction l with
  | nil=>rfl
  | cons a r ih =>
    show ((gV a)::cI r).find? _=_
    simp only[List.find?_cons]
    show (match a.name==g with|true=>_|false=>_)=_
    cases a.name==g with
    | true=>rfl
    | false=>exact ih
 have:=key Lt;unfold kI oh;rw[this];unfold il at h;rw[h];rfl
theorem abM (h:vs.length<=n) (i:Nat) (hi:i<vs.length):(gR vs n).get (i:Int)=vs.getD i ⟨0,none⟩:=by
 simp only[gR,bp.get,Int.toNat_natCast,List.take_of_length_le h,List.getD_eq_getElem?_getD,List.getElem?_append_left hi]
theorem SC (h:vs.length<=n) (i:Nat) (hi:vs.length<=i):(gR vs n).get (i:Int)=⟨0,none⟩:=by
 simp only[gR,bp.get,Int.toNat_natCast,List.take_of_length_le h,List.getD_eq_getElem?_getD,List.getElem?_append_right hi,List.getElem?_replicate];split <;> rfl
theorem abN (h:vs.length<=n):(gR vs n).length=n:=by
 simp only[gR,List.take_of_length_le h,List.length_append,List.length_replicate];omega
theorem TP (h:E9 Lt C fn) (hv:vs.length=fn.params.length) (hn:vs.length<n):Rel (ey fn) (fn.params.map (·.1)) (pj [] fn.params vs) (gR vs n)/\(ey fn).steps=[{ aM with code:=1,dst:=(fn.params.length:Int) }]/\(ey fn).types.length=fn.params.length+1:=by
 obtain⟨h1,h2,h3,h4,h5⟩:=GO fn.params iJ h.once;obtain⟨b1,b2⟩:=RQ fn.params vs [] h.once hv;have hl:(iy fn.params iJ).types.length=fn.params.length:=by rw[h3];simp[iJ]
 have oX:(ey fn).names=(iy fn.params iJ).names:=rfl;have hno:(ey fn).none=(fn.params.length:Int):=by rw[head_eq];simp only[hl]
 have hat:∀x∈fn.params.map (·.1),∃ (i:Nat) (p:List UInt8×Int),fn.params[i]?=some p/\p.1=x/\i<fn.params.length:=by
  intro x hx;obtain⟨p,hp,rfl⟩:=List.mem_map.1 hx;obtain⟨i,hi,he⟩:=List.getElem_of_mem hp;exact⟨i,p,by rw[List.getElem?_eq_getElem hi,he],rfl,hi⟩
 have jv:(ey fn).types.length=fn.params.length+1:=by rw[head_eq];simp[bC,hl]
 refine⟨⟨fun x hx=>?_,?_,fun x hx y hy he=>?_,fun x hx he=>?_⟩,?_,jv⟩
 ·obtain⟨i,p,hp,rfl,hi⟩:=hat x hx
  refine⟨i,by rw[oX,h2 i p hp];simp[iJ],by rw[jv];omega,?_⟩;rw[abM (by omega) i (by omega),b2 i p hp]
 ·exact⟨fn.params.length,hno,by rw[jv];omega,SC (by omega) _ (by omega)⟩
 ·obtain⟨i,p,hp,rfl,hi⟩:=hat x hx
  obtain⟨j,q,hq,rfl,hj⟩:=hat y hy;rw[oX,h2 i p hp,h2 j q hq]at he;have:i=j:=by omega
  subst this;rw[hp]at hq;cases hq;rfl
 ·obtain⟨i,p,hp,rfl,hi⟩:=hat x hx
  rw[oX,h2 i p hp,hno]at he;simp only[iJ,List.length_nil]at he;omega
 ·rw[head_eq]
  simp only[bC,hl,h4];rfl
theorem aaz (hS:∀fn∈Lt,E9 Lt C fn):(f:Nat)->Hi Lt C f:=by
 intro f;induction f using Nat.strongRecOn with
 | _ f ih =>
   intro g vs s r k ⟨fn,hg,hv⟩ hr hk;cases f with
   | zero=>simp only[jE]at hr;cases hr
   | succ f =>
     simp only[jE]at hr;have hF:=hS fn (List.mem_of_find?_eq_some hg);have adN:r9 Lt g=fn:=(by unfold r9;rw[hg];rfl);have hm:=ab0 hg;rw[adN]at hr;by_cases oU:s.calls=40
     ·rw[if_pos oU]at hr
      simp only[eP,Option.some.injEq]at hr;subst hr;exact Or.inr ⟨⟨5,rfl⟩,k,aav (s:=wf s k) oU⟩
     rw[if_neg oU]at hr;have MA:(wf s k).calls≠40:=oU;obtain⟨F,Dk⟩:∃F,gV fn=F:=⟨_,rfl⟩;have hst:F.steps=(pC fn).steps:=(by rw[<-Dk];rfl);have hZ:F.types=(pC fn).types:=(by rw[<-Dk];rfl);have hU:w5 F.steps:=(by rw[hst];exact afF fn hF.once);have l8:(ey fn).types.length<=F.types.length:=(by rw[hZ];exact r5 fn.body (ey fn));have adP:(ey fn).types.length=fn.params.length+1:=(TP hF hv (n:=fn.params.length+1) (by omega)).2.2;obtain⟨hrel,FY,-⟩:=TP hF hv (n:=F.types.length) (by omega);have hlen:(gR vs F.types.length).length=F.types.length:=abN (by omega);have ki:In (a8 { aM with code:=8,a:=(cZ fn.body (ey fn)).none } (cZ fn.body (ey fn))) F (gR vs F.types.length):=⟨by rw[hst];exact List.prefix_refl _,by rw[hlen,hZ];exact Nat.le_refl _⟩;have hib:In (cZ fn.body (ey fn)) F (gR vs F.types.length):=ki.eo;have Dy:=hib.less (po fn.body (ey fn)).pre (r5 fn.body (ey fn));have adl:F.steps[0]?=some { aM with code:=1,dst:=(fn.params.length:Int) }:=by
       obtain⟨d,hd⟩:=Dy.steps;rw[<-hd,FY];rfl
     have adn:=ye ki;obtain⟨k1,rfl⟩:∃k1,k=k1+1:=⟨k-1,by omega⟩;have hput:(gR vs F.types.length).put (fn.params.length:Int) (bN 0)=gR vs F.types.length:=by
       refine List.ext_getElem? (fun i=>?_);simp only[bp.put,Int.toNat_natCast,List.getElem?_set];split
       ·rename_i hi
        subst hi;split
        ·have hz:=SC (vs:=vs) (n:=F.types.length) (by omega) fn.params.length (by omega)
         simp only[bp.get,Int.toNat_natCast,List.getD_eq_getElem?_getD]at hz;rename_i hl;rw[List.getElem?_eq_getElem hl]at hz ⊢;simp only[Option.getD_some]at hz;rw[hz];rfl
        ·rename_i hl
         rw[List.getElem?_eq_none (by omega)]
       ·rfl
     have a0:Reach (cI Lt) F 0 (gR vs F.types.length) (wf { s with calls:=s.calls+1 } (k1+1)) 1 (gR vs F.types.length) (wf { s with calls:=s.calls+1 } k1) :=
       Ay (L:=cI Lt) (F:=F) (v:=gR vs F.types.length) (s:=wf { s with calls:=s.calls+1 } (k1+1)) adl (by simp) (by simp[wf]) (by simp only[cq,sD];simp only[if_true,a6];rw[show aM.n=0 from rfl,hput])
     have hb:=PC (Lt:=Lt) (C:=C) (F:=F) fn.body f (fun j hj x hx=>ai5 hU j (fun i hi=>ih i (by omega)) x (by
       have key:∀ (l:List St) (y:St),y∈l->dH y<=jz l:=by
        intro l;induction l with
        | nil=>intro y hy;cases hy
        | cons b r Oq =>
          intro y hy;simp only[jz];rcases List.mem_cons.1 hy with rfl|hy
          ·omega
          ·have:=Oq y hy;omega
       have:=key fn.body x hx;have:=hF.cost;omega))
     cases hy:fk Lt f { s with calls:=s.calls+1 } (pj [] fn.params vs) fn.body with
     | none=>rw[hy]at hr;cases hr
     | some z =>
       rw[hy]at hr;have h1:=hb (fn.params.map (·.1)) (ey fn) (pj [] fn.params vs) (gR vs F.types.length) { s with calls:=s.calls+1 } z k1 hy hF.body hib hrel (by show C*s.fuel<=k1;omega);have fc:(ey fn).steps.length=1:=(by rw[FY];rfl);have hgo:∀ (x:Except cz Int) (t:aC),Ends (cI Lt) F 1 (gR vs F.types.length) (wf { s with calls:=s.calls+1 } k1) (x,t)->Ends (cI Lt) (kI (cI Lt) g) 0 (gR vs (kI (cI Lt) g).types.length) { wf s (k1+1) with calls:=(wf s (k1+1)).calls+1 } (x,t):=by
        intro x t hx;rw[hm,Dk];exact a0.ends hx
       obtain⟨z,t⟩:=z;cases z with
       | ok G =>
         simp only[a6,Option.some.injEq]at hr;subst hr;obtain⟨v1,k2,g1,g2,g3,g4⟩:=h1;rw[fc]at g1;simp only at g2;obtain⟨k3,rfl⟩:∃k3,k2=k3+1:=⟨k2-1,by omega⟩;have a2:=Ss (L:=cI Lt) (F:=F) (v:=v1) (s:=wf t (k3+1)) adn rfl (by simp[wf]);obtain⟨p,m1,m2,m3⟩:=g3.none;simp only[m1,m3]at a2;exact⟨k3,R2 (s:=wf s (k1+1)) MA (hgo _ _ (g1.ends a2)),by show k1+1+C*t.fuel<=k3+C*s.fuel+3;omega⟩
       | error e =>
         cases e with
         | ret n =>
           simp only[a6,Option.some.injEq]at hr;subst hr;obtain⟨k2,g1,g2⟩:=h1;rw[fc]at g1;simp only at g2;exact⟨k2,R2 (s:=wf s (k1+1)) MA (hgo _ _ g1),by show k1+1+C*t.fuel<=k2+C*s.fuel+3;omega⟩
         | stop dO =>
           simp only[eP,Option.some.injEq]at hr;subst hr;rcases h1 with h1|⟨k2,h1⟩
           ·exact Or.inl (by rw[h1])
           ·rw[fc]at h1
            exact Or.inr ⟨⟨dO,rfl⟩,k2,aaA (s:=wf s (k1+1)) MA (hgo _ _ h1)⟩
theorem aix (hS:∀fn∈Lt,E9 Lt C fn) (hm:il Lt [109,97,105,110]=some fn) (hp:fn.params=[]) {f fuel big:Nat} {given:List Int} {r:Int×Int×List Int} (adq:C*fuel+3<=big) (h:y5 Lt f given fuel=some r) (h6:r.1≠6):dr (fun n=>runM (cI Lt) n given big) r:=by
 have hc:=aaz hS f [109,97,105,110] [] ⟨given,fuel,0,[],[]⟩;unfold y5 at h;cases hy:jE Lt f ⟨given,fuel,0,[],[]⟩ [109,97,105,110] [] with
 | none=>rw[hy]at h;cases h
 | some z =>
   rw[hy]at h;have h1:=hc z big ⟨fn,hm,by rw[hp];rfl⟩ hy adq;obtain⟨z,t⟩:=z;cases z with
   | ok n =>
     simp only[Option.some.injEq]at h;subst h;obtain⟨k',⟨n0,g1⟩,g2⟩:=h1;refine⟨n0,fun m hm=>?_⟩;have:=g1 m hm;simp only[wf]at this;simp only[runM,this]
   | error e =>
     rcases h1 with h1|⟨⟨dO,h1⟩,k',⟨n0,g1⟩⟩
     ·subst h1
      simp only[Option.some.injEq]at h;subst h;exact (h6 rfl).elim
     ·subst h1
      simp only[Option.some.injEq]at h;subst h;refine⟨n0,fun m hm=>?_⟩;have:=g1 m hm;simp only[wf]at this;simp only[runM,this]
theorem cJ {α β:Type} {x:e6 α} {f:α->e6 β} {y:β} (h:cn x f=.ok y):∃a,x=.ok a/\f a=.ok y:=by
 cases x with
 | ok a=>exact⟨a,rfl,h⟩
 | error e=>simp[cn]at h
theorem y_ (h:tO e k t=.ok u):t=k:=by
 unfold tO at h;split at h
 ·assumption
 ·cases h
theorem qx (h:ia L N e k=.ok u):dI L N e=.ok k:=by
 unfold ia at h;obtain⟨t,h1,h2⟩:=cJ h;rw[h1,y_ h2]
theorem aaR (e:aL) (r:List aL):cnt e+p8 r<=p8 (e::r):=by
 cases r with
 | nil=>simp[p8]
 | cons a r=>simp only[p8];omega
mutual
theorem pw:(e:aL)->bK e<=cnt e
 | .num _ _=>Nat.le_refl _
 | .var _ _=>Nat.le_refl _
 | .un _ _ x=>by have:=pw x;simp only[bK,cnt];omega
 | .bin _ _ l r=>by have:=pw l;have:=pw r;simp only[bK,cnt];omega
 | .call _ _ l=>by have:=Sy l;simp only[bK,cnt];omega
 | .new _ x=>by have:=pw x;simp only[bK,cnt];omega
 | .len _ x=>by have:=pw x;simp only[bK,cnt];omega
 | .item _ x i=>by have:=pw x;have:=pw i;simp only[bK,cnt];omega
 | .input _=>by simp[bK,cnt]
theorem Sy:(l:List aL)->mA l<=p8 l
 | []=>Nat.le_refl _
 | e::r=>by
   have:=pw e;have:=Sy r;have:=aaR e r;simp only[mA];omega
end
mutual
theorem aji:(s:St)->dH s<=mv s
 | .var _ _ v=>by have:=pw v;simp only[dH,mv];omega
 | .set _ _ v=>by have:=pw v;simp only[dH,mv];omega
 | .put _ _ i v=>by have:=pw i;have:=pw v;simp only[dH,mv];omega
 | .cond _ v t e=>by
   have:=pw v;have:=El t;have:=El e;simp only[dH,mv];split
   ·rename_i h
    cases e with
    | nil=>simp only[jz];omega
    | cons a r=>simp at h
   ·omega
 | .loop _ v t=>by have:=pw v;have:=El t;simp only[dH,mv];omega
 | .ret _ v=>by have:=pw v;simp only[dH,mv];omega
 | .print _ v=>by have:=pw v;simp only[dH,mv];omega
 | .call _ v=>by have:=pw v;simp only[dH,mv];omega
theorem El:(l:List St)->jz l<=p7 l
 | []=>Nat.le_refl _
 | s::r=>by have:=aji s;have:=El r;simp only[jz,p7];omega
end
theorem aiO (op:List UInt8) (a:Int) (w:Lw):(iz op a w).2.2.steps.length<=w.steps.length+2/\(iz op a w).2.2.types.length<=w.types.length+2:=by
 unfold iz;split <;> simp[lR,bC] <;> omega
mutual
theorem og:(e:aL)->(w:Lw)->(au e w).2.steps.length+2<=w.steps.length+3*bK e/\(au e w).2.types.length+1<=w.types.length+2*bK e
 | .num _ _,w=>by simp[au,bC,bK]
 | .var _ _,w=>by simp[au,bK]
 | .un _ op x,w=>by
   have h:=og x w;simp only[au,bK];split
   ·simp only[lR,bC,List.length_append,List.length_singleton];omega
   ·simp only[bC,List.length_append,List.length_singleton];omega
 | .bin _ op l r,w=>by
   simp only[au,bK];split
   ·generalize hw0:(b7 w).2=w0
    have e0:w0.steps.length=w.steps.length/\w0.types.length=w.types.length:=(by rw[<-hw0];exact⟨rfl,rfl⟩);have h1:=og l w0;have h2:=aiO op (au l w0).1 (au l w0).2;generalize iz op (au l w0).1 (au l w0).2=s at h2 ⊢;generalize df:a8 { aM with code:=5,a:=s.2.1,label:=((b7 w).1:Int) } s.2.2=w1;have e1:w1.steps.length=s.2.2.steps.length+1/\w1.types.length=s.2.2.types.length:=(by rw[<-df];simp[a8]);have h3:=og r w1;simp only[a8,List.length_append,List.length_singleton];omega
   ·have h1:=og l w
    have h2:=og r (au l w).2;simp only[bC,List.length_append,List.length_singleton];omega
 | .call _ _ l,w=>by
   have h:=RK l w;simp only[au,bK,bC,List.length_append,List.length_singleton];omega
 | .new _ x,w=>by have h:=og x w;simp only[au,bK,bC,List.length_append,List.length_singleton];omega
 | .len _ x,w=>by have h:=og x w;simp only[au,bK,bC,List.length_append,List.length_singleton];omega
 | .item _ x i,w=>by
   have h:=og x w;have h2:=og i (au x w).2;simp only[au,bK,bC,List.length_append,List.length_singleton];omega
 | .input _,w=>by simp[au,bC,bK]
theorem RK:(l:List aL)->(w:Lw)->(eu l w).2.steps.length<=w.steps.length+3*mA l/\(eu l w).2.types.length<=w.types.length+2*mA l
 | [],w=>by simp[eu,mA]
 | e::r,w=>by
   have h:=og e w;have h2:=RK r (au e w).2;simp only[eu,mA];omega
end
mutual
theorem ajE:(s:St)->(w:Lw)->(bW s w).steps.length<=w.steps.length+3*dH s/\(bW s w).types.length<=w.types.length+2*dH s
 | .var _ x v,w=>by have h:=og v w;simp only[bW,dH,a8,fU,List.length_append,List.length_singleton];omega
 | .set _ x v,w=>by have h:=og v w;simp only[bW,dH,a8,List.length_append,List.length_singleton];omega
 | .put _ x i v,w=>by
   have h:=og i w;have h2:=og v (au i w).2;simp only[bW,dH,a8,List.length_append,List.length_singleton];omega
 | .cond _ v t e,w=>by
   simp only[bW,dH];generalize hw0:(b7 (b7 w).2).2=w0;have e0:w0.steps.length=w.steps.length/\w0.types.length=w.types.length:=(by rw[<-hw0];exact⟨rfl,rfl⟩);have h1:=og v w0;generalize df:a8 { aM with code:=5,a:=(au v w0).1,label:=((b7 w).1:Int) } (au v w0).2=w1;have e1:w1.steps.length=(au v w0).2.steps.length+1/\w1.types.length=(au v w0).2.types.length:=(by rw[<-df];simp[a8]);have h2:=Fm t w1;generalize hw2:a8 { aM with code:=6,label:=((b7 w).1:Int) } (a8 { aM with code:=4,label:=((b7 (b7 w).2).1:Int) } (cZ t w1))=w2;have e2:w2.steps.length=(cZ t w1).steps.length+2/\w2.types.length=(cZ t w1).types.length:=(by rw[<-hw2];simp[a8]);have h3:=Fm e w2;simp only[a8,List.length_append,List.length_singleton];omega
 | .loop _ v t,w=>by
   simp only[bW,dH];generalize hw0:a8 { aM with code:=6,label:=((b7 w).1:Int) } (b7 (b7 w).2).2=w0;have e0:w0.steps.length=w.steps.length+1/\w0.types.length=w.types.length:=(by rw[<-hw0];simp[a8,b7]);have h1:=og v w0;generalize df:a8 { aM with code:=5,a:=(au v w0).1,label:=((b7 (b7 w).2).1:Int) } (au v w0).2=w1;have e1:w1.steps.length=(au v w0).2.steps.length+1/\w1.types.length=(au v w0).2.types.length:=(by rw[<-df];simp[a8]);have h2:=Fm t w1;simp only[a8,List.length_append,List.length_singleton];omega
 | .ret _ v,w=>by have h:=og v w;simp only[bW,dH,a8,List.length_append,List.length_singleton];omega
 | .print _ v,w=>by have h:=og v w;simp only[bW,dH,a8,List.length_append,List.length_singleton];omega
 | .call _ v,w=>by have h:=og v w;simp only[bW,dH];omega
theorem Fm:(l:List St)->(w:Lw)->(cZ l w).steps.length<=w.steps.length+3*jz l/\(cZ l w).types.length<=w.types.length+2*jz l
 | [],w=>by simp[cZ,jz]
 | s::r,w=>by
   have h:=ajE s w;have h2:=Fm r (bW s w);simp only[cZ,jz];omega
end
def oM (N:Nm):Prop:=∀p∈N,p.2=1\/p.2=2
theorem SD (h:oM N) (x:List UInt8):e9 N x=0\/e9 N x=1\/e9 N x=2:=by
 unfold e9;cases hf:N.find? (fun p=>p.1==x) with
 | none=>exact Or.inl rfl
 | some p=>exact Or.inr (h p (List.mem_of_find?_eq_some hf))
theorem Dg (h:oM N) (s:List UInt8) (t:Int) (x:List UInt8):e9 (N++[(s,t)]) x=if e9 N x≠0 then e9 N x else if x=s then t else 0:=by
 unfold e9;rw[List.find?_append];cases hf:N.find? (fun p=>p.1==x) with
 | none =>
   simp only[Option.none_or,List.find?_cons,List.find?_nil];by_cases hx:x=s
   ·subst hx;simp
   ·have:(s==x)=false:=by simpa using fun e=>hx e.symm
    simp[this,hx]
 | some p =>
   have:=h p (List.mem_of_find?_eq_some hf);simp only[Option.some_or];rw[if_pos (by omega)]
def kq (N N':Nm):Prop:=∀x,e9 N x≠0->e9 N' x=e9 N x
theorem kq.refl (N:Nm):kq N N:=fun _ _=>rfl
theorem kq.trans {M K:Nm} (h:kq N M) (k:kq M K):kq N K:=fun x hx=>by
 have h1:=h x hx;rw[k x (by rw[h1];exact hx),h1]
theorem LX {m m':Nat} {p:List UInt8×Int} (h:pg N m p a=.ok (N',m')):e9 N p.1=0/\N'=N++[p]:=by
 unfold pg at h;split at h
 ·cases h
 ·rename_i h1
  split at h
  ·cases h
  ·simp only[Except.ok.injEq,Prod.mk.injEq]at h
   exact⟨by omega,h.1.symm⟩
mutual
theorem Sw (hN:oM N):(e:aL)->{t:Int}->dI L N e=.ok t->t=1\/t=2
 | .num _ _,t,h=>by simp only[dI,Except.ok.injEq]at h;omega
 | .var _ x,t,h=>by
   simp only[dI]at h;split at h
   ·cases h
   ·have:=SD hN x
    simp only[Except.ok.injEq]at h;omega
 | .bin _ _ l r,t,h=>by
   simp only[dI]at h;obtain⟨_,_,h⟩:=cJ h;obtain⟨_,_,h⟩:=cJ h;obtain⟨_,_,h⟩:=cJ h;obtain⟨_,_,h⟩:=cJ h;simp only[Except.ok.injEq]at h;omega
 | .un _ _ x,t,h=>by
   simp only[dI]at h;obtain⟨_,_,h⟩:=cJ h;obtain⟨_,_,h⟩:=cJ h;simp only[Except.ok.injEq]at h;omega
 | .call _ g l,t,h=>by
   simp only[dI]at h;split at h
   ·cases h
   ·split at h
    ·obtain⟨_,_,h⟩:=cJ h
     simp only[Except.ok.injEq]at h;omega
    ·cases h
 | .new _ x,t,h=>by
   simp only[dI]at h;obtain⟨_,_,h⟩:=cJ h;obtain⟨_,_,h⟩:=cJ h;simp only[Except.ok.injEq]at h;omega
 | .len _ x,t,h=>by
   simp only[dI]at h;obtain⟨_,_,h⟩:=cJ h;obtain⟨_,_,h⟩:=cJ h;simp only[Except.ok.injEq]at h;omega
 | .item _ x i,t,h=>by
   simp only[dI]at h;obtain⟨_,_,h⟩:=cJ h;obtain⟨_,_,h⟩:=cJ h;obtain⟨_,_,h⟩:=cJ h;obtain⟨_,_,h⟩:=cJ h;simp only[Except.ok.injEq]at h;omega
 | .input _,t,h=>by simp only[dI,Except.ok.injEq]at h;omega
end
theorem V_ (h:∃k,k<6/\op∈ky.getD k []):op∈ix\/op=[38,38]\/op=[124,124]:=by
 have key:∀k,k<6->∀o∈ky.getD k [],o∈ix\/o=[38,38]\/o=[124,124]:=by decide
 obtain⟨k,hk,h⟩:=h;exact key k hk op h
theorem yj {c:Prop} [Decidable c] {d:Nat} (h:if c then d<=12/\Fit e (d+1) else Fit e d):∃d',Fit e d':=by
 split at h
 ·exact⟨_,h.2⟩
 ·exact⟨_,h⟩
mutual
theorem pH (hV:∀x,e9 N x≠0->x∈aH):(e:aL)->(d:Nat)->{t:Int}->Fit e d->dI L N e=.ok t->fj L aH e
 | .num _ _,d,t,hf,h=>by simp only[fj]
 | .var _ x,d,t,hf,h=>by
   simp only[dI]at h;simp only[fj];split at h
   ·cases h
   ·exact hV x (by assumption)
 | .bin _ op l r,d,t,hf,h=>by
   simp only[dI]at h;simp only[Fit]at hf;obtain⟨_,h1,h⟩:=cJ h;obtain⟨_,_,h⟩:=cJ h;obtain⟨_,h2,h⟩:=cJ h;obtain⟨d1,f1⟩:=yj hf.2.1;obtain⟨d2,f2⟩:=yj hf.2.2;simp only[fj];exact⟨V_ hf.1,pH hV l d1 f1 h1,pH hV r d2 f2 h2⟩
 | .un _ op x,d,t,hf,h=>by
   simp only[dI]at h;simp only[Fit]at hf;obtain⟨_,h1,h⟩:=cJ h;obtain⟨d1,f1⟩:∃d',Fit x d':=by
    have:=hf.2.2;split at this
    ·exact⟨_,this.2⟩
    ·exact⟨_,this⟩
   simp only[fj];exact⟨hf.2.1.symm,pH hV x d1 f1 h1⟩
 | .call _ g l,d,t,hf,h=>by
   simp only[dI]at h;simp only[Fit]at hf;simp only[fj];split at h
   ·cases h
   ·rename_i fn hfn
    split at h
    ·rename_i hl
     obtain⟨_,h1,h⟩:=cJ h;exact⟨⟨fn,hfn,hl⟩,WS hV l _ (by rw[List.length_map];exact hl) hf.2.2 h1⟩
    ·cases h
 | .new _ x,d,t,hf,h=>by
   simp only[dI]at h;simp only[Fit]at hf;obtain⟨_,h1,h⟩:=cJ h;simp only[fj];exact pH hV x _ hf.2 h1
 | .len _ x,d,t,hf,h=>by
   simp only[dI]at h;simp only[Fit]at hf;obtain⟨_,h1,h⟩:=cJ h;simp only[fj];exact pH hV x _ hf.2 h1
 | .item _ x i,d,t,hf,h=>by
   simp only[dI]at h;simp only[Fit]at hf;obtain⟨_,h1,h⟩:=cJ h;obtain⟨_,_,h⟩:=cJ h;obtain⟨_,h2,h⟩:=cJ h;obtain⟨d1,f1⟩:∃d',Fit x d':=by
    have:=hf.2.1;split at this
    ·exact⟨_,this⟩
    ·exact yj this
   simp only[fj];exact⟨pH hV x d1 f1 h1,pH hV i _ hf.2.2 h2⟩
 | .input _,d,t,hf,h=>by simp only[fj]
theorem WS (hV:∀x,e9 N x≠0->x∈aH):(l:List aL)->(ks:List Int)->{d:Nat}->{u:Unit}->l.length=ks.length->Fits l d->od L N l ks=.ok u->Bj L aH l
 | [],ks,d,u,hl,hf,h=>by simp only[Bj]
 | e::r,[],d,u,hl,hf,h=>by simp at hl
 | e::r,k::ks,d,u,hl,hf,h=>by
   simp only[od]at h;simp only[Fits]at hf;obtain⟨_,h1,h⟩:=cJ h;obtain⟨_,h2,h⟩:=cJ h;simp only[Bj];exact⟨pH hV e d hf.1 h1,WS hV r ks (by simpa using hl) hf.2 h⟩
end
mutual
theorem aiH:(x:St)->(d:Nat)->{N N':Nm}->{m m':Nat}->{aH:List (List UInt8)}->eQ x d->eN L N m x=.ok (N',m')->oM N->(∀y,y∈aH↔e9 N y≠0)->lF L aH x/\oM N'/\(∀y,y∈mN aH x↔e9 N' y≠0)/\kq N N'
 | .var _ s v,d,N,N',m,m',aH,hf,h,hN,hV=>by
   simp only[eN]at h;simp only[eQ]at hf;obtain⟨t,h1,h⟩:=cJ h;obtain⟨h2,rfl⟩:=LX h;have ht:=Sw hN v h1;simp only[lF,mN];refine⟨⟨fun hs=>(hV s).1 hs h2,pH (fun x hx=>(hV x).2 hx) v 0 hf.2 h1⟩,fun p hp=>?_,fun y=>?_,fun x hx=>?_⟩
   ·rw[List.mem_append,List.mem_singleton]at hp
    rcases hp with hp|rfl
    ·exact hN p hp
    ·exact ht
   ·rw[Dg hN,List.mem_cons,hV y]
    by_cases hy:e9 N y≠0
    ·rw[if_pos hy];simp[hy]
    ·rw[if_neg hy]
     by_cases Ap:y=s
     ·rw[if_pos Ap];simp only[Ap,true_or,true_iff];omega
     ·rw[if_neg Ap];simp[Ap];omega
   ·rw[Dg hN,if_pos hx]
 | .set _ s v,d,N,N',m,m',aH,hf,h,hN,hV=>by
   simp only[eN]at h;simp only[eQ]at hf;split at h
   ·cases h
   ·rename_i h0
    obtain⟨_,h1,h⟩:=cJ h;simp only[Except.ok.injEq,Prod.mk.injEq]at h;obtain⟨rfl,rfl⟩:=h;simp only[lF,mN];exact⟨⟨(hV s).2 h0,pH (fun x hx=>(hV x).2 hx) v 0 hf.2 (qx h1)⟩,hN,hV,kq.refl _⟩
 | .put _ s i v,d,N,N',m,m',aH,hf,h,hN,hV=>by
   simp only[eN]at h;simp only[eQ]at hf;split at h
   ·cases h
   ·rename_i h0
    split at h
    ·cases h
    ·obtain⟨_,h1,h⟩:=cJ h
     obtain⟨_,h2,h⟩:=cJ h;simp only[Except.ok.injEq,Prod.mk.injEq]at h;obtain⟨rfl,rfl⟩:=h;simp only[lF,mN];exact⟨⟨(hV s).2 h0,pH (fun x hx=>(hV x).2 hx) i 1 hf.2.1 (qx h1),pH (fun x hx=>(hV x).2 hx) v 0 hf.2.2 (qx h2)⟩,hN,hV,kq.refl _⟩
 | .cond _ v t e,d,N,N',m,m',aH,hf,h,hN,hV=>by
   simp only[eN]at h;simp only[eQ]at hf;obtain⟨_,h1,h⟩:=cJ h;obtain⟨x,h2,h⟩:=cJ h;obtain⟨y,h3,h⟩:=cJ h;simp only[Except.ok.injEq,Prod.mk.injEq]at h;obtain⟨rfl,rfl⟩:=h;simp only[lF,mN];exact⟨⟨pH (fun x hx=>(hV x).2 hx) v 1 hf.1 (qx h1),(G1 t _ hf.2.2.1 h2 hN hV).1,(G1 e _ hf.2.2.2 h3 hN hV).1⟩,hN,hV,kq.refl _⟩
 | .loop _ v t,d,N,N',m,m',aH,hf,h,hN,hV=>by
   simp only[eN]at h;simp only[eQ]at hf;obtain⟨_,h1,h⟩:=cJ h;obtain⟨x,h2,h⟩:=cJ h;simp only[Except.ok.injEq,Prod.mk.injEq]at h;obtain⟨rfl,rfl⟩:=h;simp only[lF,mN];exact⟨⟨pH (fun x hx=>(hV x).2 hx) v 1 hf.1 (qx h1),(G1 t _ hf.2.2 h2 hN hV).1⟩,hN,hV,kq.refl _⟩
 | .ret _ v,d,N,N',m,m',aH,hf,h,hN,hV=>by
   simp only[eN]at h;simp only[eQ]at hf;obtain⟨_,h1,h⟩:=cJ h;simp only[Except.ok.injEq,Prod.mk.injEq]at h;obtain⟨rfl,rfl⟩:=h;simp only[lF,mN];exact⟨pH (fun x hx=>(hV x).2 hx) v 0 hf (qx h1),hN,hV,kq.refl _⟩
 | .print _ v,d,N,N',m,m',aH,hf,h,hN,hV=>by
   simp only[eN]at h;simp only[eQ]at hf;obtain⟨_,h1,h⟩:=cJ h;simp only[Except.ok.injEq,Prod.mk.injEq]at h;obtain⟨rfl,rfl⟩:=h;simp only[lF,mN];exact⟨pH (fun x hx=>(hV x).2 hx) v 0 hf (qx h1),hN,hV,kq.refl _⟩
 | .call _ v,d,N,N',m,m',aH,hf,h,hN,hV=>by
   simp only[eN]at h;simp only[eQ]at hf;obtain⟨_,h1,h⟩:=cJ h;simp only[Except.ok.injEq,Prod.mk.injEq]at h;obtain⟨rfl,rfl⟩:=h;simp only[lF,mN];exact⟨pH (fun x hx=>(hV x).2 hx) v 0 hf.2 (qx h1),hN,hV,kq.refl _⟩
theorem G1:(l:List St)->(d:Nat)->{N:Nm}->{y:Nm×Nat}->{m:Nat}->{aH:List (List UInt8)}->lu l d->lO L N m l=.ok y->oM N->(∀z,z∈aH↔e9 N z≠0)->qN L aH l/\oM y.1/\kq N y.1
 | [],d,N,y,m,aH,hf,h,hN,hV=>by
   simp only[lO,Except.ok.injEq]at h;subst h;exact⟨by simp only[qN],hN,kq.refl _⟩
 | x::r,d,N,y,m,aH,hf,h,hN,hV=>by
   simp only[lO]at h;simp only[lu]at hf;obtain⟨⟨H2,m1⟩,h1,h⟩:=cJ h;obtain⟨a1,a2,a3,a4⟩:=aiH x d hf.1 h1 hN hV;obtain⟨b1,b2,b3⟩:=G1 r d hf.2 h a2 a3;refine⟨?_,b2,a4.trans b3⟩;simp only[qN];refine⟨a1,?_⟩;cases x <;> exact b1
end
theorem Pe:(l:List (List UInt8×Int))->(N:Nm)->(m:Nat)->{N':Nm}->{m':Nat}->(∀p∈l,p.2=1\/p.2=2)->oM N->sG N m a l=.ok (N',m')->N'=N++l/\(l.map (·.1)).Nodup/\(∀p∈l,e9 N p.1=0)
 | [],N,m,N',m',hl,hN,h=>by
   simp only[sG,Except.ok.injEq,Prod.mk.injEq]at h;exact⟨by simp[h.1],by simp,fun p hp=>by cases hp⟩
 | p::r,N,m,N',m',hl,hN,h=>by
   simp only[sG]at h;obtain⟨⟨H2,m1⟩,h1,h⟩:=cJ h;obtain⟨h2,rfl⟩:=LX h1;have MT:oM (N++[p]):=fun q hq=>by
    rw[List.mem_append,List.mem_singleton]at hq;rcases hq with hq|rfl
    ·exact hN q hq
    ·exact hl q List.mem_cons_self
   obtain⟨a1,a2,a3⟩:=Pe r _ _ (fun q hq=>hl q (List.mem_cons_of_mem _ hq)) MT h;have tx:=hl p List.mem_cons_self;refine⟨by rw[a1];simp,?_,fun q hq=>?_⟩
   ·rw[List.map_cons,List.nodup_cons]
    refine⟨fun hm=>?_,a2⟩;obtain⟨q,hq,he⟩:=List.mem_map.1 hm;have:=a3 q hq;obtain⟨ps,pt⟩:=p;rw[Dg hN,he,if_neg (by simpa using h2),if_pos rfl]at this;simp only at tx;omega
   ·rcases List.mem_cons.1 hq with rfl|hq
    ·exact h2
    ·have:=a3 q hq
     obtain⟨ps,pt⟩:=p;rw[Dg hN]at this;by_cases h0:e9 N q.1=0
     ·exact h0
     ·rw[if_pos h0]at this;exact absurd this h0
theorem Xx:oM []:=fun p hp=>by cases hp
theorem aiG (hf:AQ fn) (hk:ur L fn=.ok ()) (hC:8*p7 fn.body+8<=C):E9 L C fn:=by
 unfold ur at hk;obtain⟨⟨H2,m1⟩,h1,hk⟩:=cJ hk;obtain⟨y,h2,-⟩:=cJ hk;obtain⟨a1,a2,a3⟩:=Pe fn.params [] 0 (fun p hp=>(hf.2.1 p hp).2) Xx h1;simp only[List.nil_append]at a1;subst a1;have hZ:oM fn.params:=fun p hp=>(hf.2.1 p hp).2
 refine⟨a2,(G1 fn.body 0 hf.2.2 h2 hZ (fun z=>?_)).1,?_⟩
 ·constructor
  ·intro hz
   obtain⟨p,hp,rfl⟩:=List.mem_map.1 hz;unfold e9;cases hq:fn.params.find? (fun q=>q.1==p.1) with
   | none=>exact absurd (List.find?_eq_none.1 hq p hp) (by simp)
   | some q =>
     have:=hZ q (List.mem_of_find?_eq_some hq);simp only;omega
  ·intro hz
   unfold e9 at hz;cases hq:fn.params.find? (fun q=>q.1==z) with
   | none=>rw[hq]at hz;exact absurd rfl hz
   | some q =>
     refine List.mem_map.2 ⟨q,List.mem_of_find?_eq_some hq,?_⟩;have:=List.find?_some hq;simpa using this
 ·have:=El fn.body
  omega
theorem rF (k:Int) (s:ax) (w:Lw):w.types <+: (bC k s w).2.types:=⟨[k],rfl⟩
theorem PB (op:List UInt8) (a:Int) (w:Lw):w.types <+: (iz op a w).2.2.types:=by
 unfold iz;split
 ·exact (rF _ _ _).trans (rF _ _ _)
 ·exact rF _ _ _
mutual
theorem jG:(e:aL)->(w:Lw)->w.types <+: (au e w).2.types
 | .num _ _,w=>rF _ _ _
 | .var _ _,w=>List.prefix_refl _
 | .un _ op x,w=>by
   simp only[au];split
   ·exact (jG x w).trans (rF _ _ _)
   ·exact (jG x w).trans (rF _ _ _)
 | .bin _ op l r,w=>by
   simp only[au];split
   ·exact ((jG l (b7 w).2).trans (PB _ _ _)).trans (jG r (a8 _ _))
   ·exact ((jG l w).trans (jG r _)).trans (rF _ _ _)
 | .call _ g l,w=>(L0 l w).trans (rF _ _ _)
 | .new _ x,w=>(jG x w).trans (rF _ _ _)
 | .len _ x,w=>(jG x w).trans (rF _ _ _)
 | .item _ x i,w=>((jG x w).trans (jG i _)).trans (rF _ _ _)
 | .input _,w=>rF _ _ _
theorem L0:(l:List aL)->(w:Lw)->w.types <+: (eu l w).2.types
 | [],w=>List.prefix_refl _
 | e::r,w=>(jG e w).trans (L0 r _)
end
mutual
theorem ajM:(s:St)->(w:Lw)->w.types <+: (bW s w).types
 | .var _ x v,w=>(jG v w).trans ⟨[_],rfl⟩
 | .set _ x v,w=>jG v w
 | .put _ x i v,w=>(jG i w).trans (jG v _)
 | .cond _ v t e,w=>by
   simp only[bW];exact ((jG v (b7 (b7 w).2).2).trans (vC t (a8 _ _))).trans (vC e (a8 _ (a8 _ _)))
 | .loop _ v t,w=>by
   simp only[bW];exact (jG v (a8 _ (b7 (b7 w).2).2)).trans (vC t (a8 _ _))
 | .ret _ v,w=>jG v w
 | .print _ v,w=>jG v w
 | .call _ v,w=>jG v w
theorem vC:(l:List St)->(w:Lw)->w.types <+: (cZ l w).types
 | [],w=>List.prefix_refl _
 | s::r,w=>(ajM s w).trans (vC r _)
end
structure cT (w:Lw) (F:ar):Prop where
 types:w.types <+: F.types
 steps:w.steps <+: F.steps
 labels:w.labels<=1000000
theorem cT.less (h:cT w' F) (hn:k5 w w') (ht:w.types <+: w'.types):cT w F :=
 ⟨ht.trans h.types,hn.pre.trans h.steps,by obtain⟨d,_,h2,_⟩:=hn;have:=h.labels;omega⟩
theorem cT.sK (h:cT (bC k s w).2 F):cT w F:=⟨(rF k s w).trans h.types,(show w.steps <+: (bC k s w).2.steps from ⟨[_],rfl⟩).trans h.steps,h.labels⟩
theorem cT.eo (h:cT (a8 s w) F):cT w F:=⟨h.types,(show w.steps <+: (a8 s w).steps from ⟨[s],rfl⟩).trans h.steps,h.labels⟩
def kG (w:Lw) (a t:Int):Prop:=∃p:Nat,a=(p:Int)/\w.types[p]?=some t
theorem Pj {l m:List Int} (h:l <+: m) {p:Nat} (hp:l[p]?=some t):m[p]?=some t:=by
 obtain⟨d,rfl⟩:=h;obtain⟨hl,-⟩:=List.getElem?_eq_some_iff.1 hp;rw[List.getElem?_append_left hl];exact hp
theorem kG.grow (h:kG w a t) (ht:w.types <+: w'.types):kG w' a t:=by
 obtain⟨p,h1,h2⟩:=h;exact⟨p,h1,Pj ht h2⟩
theorem kG.kind (h:kG w a t) (hF:cT w F):bO F a=t:=by
 obtain⟨p,rfl,h2⟩:=h;have h3:=Pj hF.types h2;obtain⟨hl,-⟩:=List.getElem?_eq_some_iff.1 h3;unfold bO;rw[if_neg (by omega)];simp only[Int.toNat_natCast,List.getD_eq_getElem?_getD,h3,Option.getD_some]
def Fair (x:Int):Prop:=-9223372036854775808<=x/\x<=9223372036854775807
theorem kG.fair (h:kG w a t) (hF:cT w F) (h3:F.types.length<=3000):Fair a:=by
 obtain⟨p,rfl,h2⟩:=h;obtain⟨hl,-⟩:=List.getElem?_eq_some_iff.1 (Pj hF.types h2);unfold Fair;omega
theorem rE (k:Int) (s:ax) (w:Lw):kG (bC k s w).2 (bC k s w).1 k:=⟨w.types.length,rfl,by simp[bC]⟩
structure C1 (s:ax):Prop where
 code:Fair s.code
 dst:Fair s.dst
 a:Fair s.a
 b:Fair s.b
 c:Fair s.c
 n:Fair s.n
 label:Fair s.label
 op:s.op.length<=1000
 name:s.name.length<=1000
 args:∀x∈s.args,Fair x
 many:s.code=7\/s.args=[]
theorem cK:Fair 0:=by unfold Fair;omega
structure e5 (Lt:List aB.Fn) (F:ar) (w:Lw):Prop where
 steps:∀s∈w.steps,cx (cI Lt) F s=true/\C1 s
 types:∀t∈w.types,t=1\/t=2
section
variable {Lt:List aB.Fn} {F:ar}
theorem e5.add (h:e5 Lt F w) (h1:cx (cI Lt) F s=true) (h2:C1 s):e5 Lt F (a8 s w):=by
 refine⟨fun x hx=>?_,h.types⟩;simp only[a8,List.mem_append,List.mem_singleton]at hx;rcases hx with hx|rfl
 ·exact h.steps x hx
 ·exact⟨h1,h2⟩
theorem e5.to (h:e5 Lt F w) (hk:k=1\/k=2) (h1:cx (cI Lt) F { s with dst:=(w.types.length:Int) }=true) (h2:C1 { s with dst:=(w.types.length:Int) }):e5 Lt F (bC k s w).2:=by
 refine⟨fun x hx=>?_,fun t ht=>?_⟩
 ·simp only[bC,List.mem_append,List.mem_singleton]at hx
  rcases hx with hx|rfl
  ·exact h.steps x hx
  ·exact⟨h1,h2⟩
 ·simp only[bC,List.mem_append,List.mem_singleton]at ht
  rcases ht with ht|rfl
  ·exact h.types t ht
  ·exact hk
theorem gv (p:Int):bu F 0 p=true:=by simp[bu]
theorem lZ {p:Int} (h:bO F p=t):bu F t p=true:=by simp[bu,h]
theorem qq {L:List ar} (hc:1<=s.code/\s.code<=14) (hc2:s.code≠2) (adv:s.code≠7) (hd:bu F ((cp s.code).getD 0 0) s.dst=true) (ha:bu F ((cp s.code).getD 1 0) s.a=true) (hb:bu F ((cp s.code).getD 2 0) s.b=true) (hcc:bu F ((cp s.code).getD 3 0) s.c=true)
 (hl:s.code=4\/s.code=5->kf F s.label=true) (ho:s.code=3->s.op∈ix):cx L F s=true:=by
 unfold cx;rw[if_neg hc2,if_neg adv,if_neg (by omega),hd,ha,hb,hcc];simp only[Bool.and_true,Bool.true_and,Bool.and_eq_true,Bool.or_eq_true,Bool.not_eq_true'];constructor
 ·by_cases h:s.code=4\/s.code=5
  ·exact Or.inr (hl h)
  ·left;simp only[Bool.or_eq_false_iff,beq_eq_false_iff_ne];omega
 ·by_cases h:s.code=3
  ·right;simpa using ho h
  ·left;simp only[beq_eq_false_iff_ne];exact h
theorem Gu (h:cT w F) (hm:s∈w.steps) (hc:s.code=6):kf F s.label=true:=by
 unfold kf;rw[List.any_eq_true];refine⟨s,?_,by simp[hc]⟩;obtain⟨d,hd⟩:=h.steps;rw[<-hd];exact List.mem_append_left _ hm
structure jn (w:Lw) (N:Nm):Prop where
 names:∀x,e9 N x≠0->kG w (fl w.names x) (e9 N x)
 none:kG w w.none 1
theorem jn.next (h:jn w N) (hn:w'.names=w.names) (h0:w'.none=w.none) (ht:w.types <+: w'.types):jn w' N :=
 ⟨fun x hx=>by rw[hn];exact (h.names x hx).grow ht,by rw[h0];exact h.none.grow ht⟩
theorem jn.less (h:jn w N') (he:kq N N'):jn w N:=⟨fun x hx=>by
 have:=h.names x (by rw[he x hx];exact hx);rw[he x hx]at this;exact this,h.none⟩
theorem jn.expr (h:jn w N) (e:aL):jn (au e w).2 N:=h.next (fz e w).1 (fz e w).2 (jG e w)
theorem Hb (h3:F.types.length<=3000) {b:Int} (hop:op∈ix) (hA:e5 Lt F w) (ha:kG w a 1) (hb:kG w b 1) (hF:cT (bC 1 { aM with code:=3,op:=op,a:=a,b:=b } w).2 F):e5 Lt F (bC 1 { aM with code:=3,op:=op,a:=a,b:=b } w).2:=by
 have hp:=rE 1 { aM with code:=3,op:=op,a:=a,b:=b } w;have hw:=hF.sK;have hlen:op.length<=1000:=by
  have:∀o∈ix,o.length<=1000:=by decide
  exact this op hop
 refine hA.to (Or.inl rfl) (qq ?_ ?_ ?_ (lZ (hp.kind hF)) (lZ (ha.kind hw)) (lZ (hb.kind hw)) (gv _) ?_ (fun _=>hop)) ⟨?_,hp.fair hF h3,ha.fair hw h3,hb.fair hw h3,cK,cK,cK,hlen,by simp[aM],fun x hx=>by simp[aM]at hx,Or.inr rfl⟩ <;> simp[Fair]
theorem O7:([33,61]:List UInt8)∈ix:=by decide
theorem abf:([61,61]:List UInt8)∈ix:=by decide
theorem XN (h3:F.types.length<=3000) (hA:e5 Lt F w) (ha:kG w a 1) (hn:kG w w.none 1) (hF:cT (lR a w).2 F):e5 Lt F (lR a w).2:=Hb h3 abf hA ha hn hF
theorem aiN (h3:F.types.length<=3000) (hA:e5 Lt F w) (ha:kG w a 1) (hn:kG w w.none 1) (hF:cT (iz op a w).2.2 F) :
 e5 Lt F (iz op a w).2.2/\kG (iz op a w).2.2 (iz op a w).1 1/\kG (iz op a w).2.2 (iz op a w).2.1 1/\(iz op a w).2.2.names=w.names/\(iz op a w).2.2.none=w.none:=by
 unfold iz at hF ⊢;split
 ·rename_i h
  rw[if_pos h]at hF;have h1:e5 Lt F (bC 1 { aM with code:=3,op:=[33,61],a:=a,b:=w.none } w).2:=Hb h3 O7 hA ha hn (cT.sK hF);have hp:=rE 1 { aM with code:=3,op:=[33,61],a:=a,b:=w.none } w;exact⟨XN h3 h1 hp (hn.grow (rF _ _ _)) hF,hp.grow (rF _ _ _),rE _ _ _,rfl,rfl⟩
 ·rename_i h
  rw[if_neg h]at hF;exact⟨Hb h3 O7 hA ha hn hF,rE _ _ _,rE _ _ _,rfl,rfl⟩
theorem abQ (Lt:List aB.Fn) (g:List UInt8):(cI Lt).find? (fun f=>f.name==g)=(il Lt g).map gV:=by
 unfold il;induction Lt with
 | nil=>rfl
 | cons a r ih =>
   show ((gV a)::cI r).find? _=_
   simp only[List.find?_cons]
   show (match a.name==g with|true=>_|false=>_)=_
   cases a.name==g with
   | true=>rfl
   | false=>exact ih
theorem GQ:(l:List (List UInt8×Int))->(w:Lw)->(iy l w).types=w.types++l.map (·.2)
 | [],w=>by simp[iy]
 | a::l,w=>by simp only[iy,GQ l,List.map_cons,List.append_assoc,List.singleton_append]
theorem afM (fn:aB.Fn):(gV fn).types.take fn.params.length=fn.params.map (·.2):=by
 obtain⟨d,hd⟩:=vC fn.body (ey fn);have h1:(gV fn).types=(cZ fn.body (ey fn)).types:=rfl;have h2:(ey fn).types=fn.params.map (·.2)++[1]:=by
  show (iy fn.params iJ).types++[1]=_
  rw[GQ];rfl
 rw[h1,<-hd,h2,List.append_assoc,List.take_left' (by simp)]
mutual
theorem nK (h3:F.types.length<=3000) (hN:oM N):(e:aL)->(d:Nat)->(w:Lw)->{t:Int}->Fit e d->dI Lt N e=.ok t->cT (au e w).2 F->jn w N->e5 Lt F w->e5 Lt F (au e w).2/\kG (au e w).2 (au e w).1 t
 | .num _ n,d,w,t,hf,h,hF,hT,hA=>by
   simp only[dI,Except.ok.injEq]at h;subst h;simp only[Fit]at hf;simp only[au]at hF ⊢;have hp:=rE 1 { aM with code:=1,n:=n } w;refine⟨hA.to (Or.inl rfl) (qq ?_ ?_ ?_ (lZ (hp.kind hF)) (gv _) (gv _) (gv _) ?_ ?_) ⟨?_,hp.fair hF h3,cK,cK,cK,⟨?_,?_⟩,cK,?_,?_,fun x hx=>by simp[aM]at hx,Or.inr rfl⟩,hp⟩ <;> simp[Fair,aM] <;> omega
 | .input _,d,w,t,hf,h,hF,hT,hA=>by
   simp only[dI,Except.ok.injEq]at h;subst h;simp only[au]at hF ⊢;have hp:=rE 1 { aM with code:=14 } w;refine⟨hA.to (Or.inl rfl) (qq ?_ ?_ ?_ (lZ (hp.kind hF)) (gv _) (gv _) (gv _) ?_ ?_) ⟨?_,hp.fair hF h3,cK,cK,cK,cK,cK,?_,?_,fun x hx=>by simp[aM]at hx,Or.inr rfl⟩,hp⟩ <;> simp[Fair,aM]
 | .var _ x,d,w,t,hf,h,hF,hT,hA=>by
   simp only[dI]at h;split at h
   ·cases h
   ·rename_i hx
    simp only[Except.ok.injEq]at h;subst h;exact⟨hA,hT.names x hx⟩
 | .un _ op x,d,w,t,hf,h,hF,hT,hA=>by
   simp only[dI]at h;obtain⟨t1,h1,h⟩:=cJ h;obtain⟨_,h2,h⟩:=cJ h;rw[y_ h2]at h1;simp only[Except.ok.injEq]at h;subst h;simp only[Fit]at hf;obtain⟨d1,f1⟩:∃d',Fit x d':=by
    have:=hf.2.2;split at this
    ·exact⟨_,this.2⟩
    ·exact⟨_,this⟩
   simp only[au]at hF ⊢;split at hF
   ·rename_i hop
    rw[if_pos hop];have iq:cT (au x w).2 F:=cT.sK hF;obtain⟨a1,a2⟩:=nK h3 hN x d1 w f1 h1 iq hT hA;exact⟨XN h3 a1 a2 (hT.expr x).none hF,rE _ _ _⟩
   ·rename_i hop
    rw[if_neg hop];have iq:cT (au x w).2 F:=cT.sK hF;obtain⟨a1,a2⟩:=nK h3 hN x d1 w f1 h1 iq hT hA;exact⟨Hb h3 (by decide) a1 (hT.expr x).none a2 hF,rE _ _ _⟩
 | .bin _ op l r,d,w,t,hf,h,hF,hT,hA=>by
   simp only[dI]at h;obtain⟨t1,h1,h⟩:=cJ h;obtain⟨_,h2,h⟩:=cJ h;rw[y_ h2]at h1;obtain⟨t2,h4,h⟩:=cJ h;obtain⟨_,h5,h⟩:=cJ h;rw[y_ h5]at h4;simp only[Except.ok.injEq]at h;subst h;simp only[Fit]at hf;obtain⟨d1,f1⟩:=yj hf.2.1;obtain⟨d2,f2⟩:=yj hf.2.2;simp only[au]at hF ⊢;split at hF
   ·rename_i hop
    rw[if_pos hop];obtain⟨bf,fo⟩:∃bf,(b7 w).1=bf:=⟨_,rfl⟩;have BV:bf=w.labels+1:=(by rw[<-fo];rfl);obtain⟨w0,hw0⟩:∃w0,(b7 w).2=w0:=⟨_,rfl⟩;rw[fo,hw0]at hF ⊢;have qZ:jn w0 N:=hT.next (by rw[<-hw0];rfl) (by rw[<-hw0];rfl) (by rw[<-hw0];exact List.prefix_refl _);have yr:e5 Lt F w0:=(by rw[<-hw0];exact⟨hA.steps,hA.types⟩);have gy:bf<=w0.labels:=(by rw[<-hw0,BV];exact Nat.le_refl _);obtain⟨w2,hw2⟩:∃w2,a8 { aM with code:=5,a:=(iz op (au l w0).1 (au l w0).2).2.1,label:=(bf:Int) } (iz op (au l w0).1 (au l w0).2).2.2=w2:=⟨_,rfl⟩;rw[hw2]at hF ⊢;obtain⟨w4,hw4⟩:∃w4,a8 { aM with code:=3,op:=[33,61],dst:=(iz op (au l w0).1 (au l w0).2).1,a:=(au r w2).1,b:=(au r w2).2.none } (au r w2).2=w4:=⟨_,rfl⟩;rw[hw4]at hF ⊢;have S9:cT w4 F:=hF.eo;have qW:cT (au r w2).2 F:=(by rw[<-hw4]at S9;exact S9.eo);have hF2:cT w2 F:=qW.less (jF r w2) (jG r w2);have II:cT (iz op (au l w0).1 (au l w0).2).2.2 F:=(by rw[<-hw2]at hF2;exact hF2.eo);have iq:cT (au l w0).2 F:=II.less (VX _ _ _) (PB _ _ _);obtain⟨a1,a2⟩:=nK h3 hN l d1 w0 f1 h1 iq qZ yr;obtain⟨b1,b2,b3,b4,oO⟩:=aiN h3 (op:=op) a1 a2 (qZ.expr l).none II;have iE:kf F (bf:Int)=true:=Gu (s:={ aM with code:=6,label:=(bf:Int) }) hF (by simp[a8]) rfl;have Uj:Fair (bf:Int):=by
        have e1:w0.labels<=(au l w0).2.labels:=(by obtain⟨_,_,h2,_⟩:=jF l w0;exact h2);have:=iq.labels;unfold Fair;omega
    have c1:e5 Lt F w2:=by
        rw[<-hw2];refine b1.add (qq ?_ ?_ ?_ (gv _) (lZ (b3.kind II)) (gv _) (gv _) (fun _=>iE) ?_) ⟨?_,cK,b3.fair II h3,cK,cK,cK,Uj,?_,?_,fun x hx=>by simp[aM]at hx,Or.inr rfl⟩ <;> simp[Fair,aM]
    have kO:(iz op (au l w0).1 (au l w0).2).2.2.types <+: w2.types:=(by rw[<-hw2];exact List.prefix_refl _);have uv:jn w2 N:=by
        refine (qZ.expr l).next ?_ ?_ ((PB op _ _).trans kO)
        ·rw[<-hw2];exact b4
        ·rw[<-hw2];exact oO
    obtain⟨e1,e2⟩:=nK h3 hN r d2 w2 f2 h4 qW uv c1;have BM:=(b2.grow kO).grow (jG r w2);have g1:e5 Lt F w4:=by
        rw[<-hw4];refine e1.add (qq ?_ ?_ ?_ (lZ (BM.kind qW)) (lZ (e2.kind qW)) (lZ ((uv.expr r).none.kind qW)) (gv _) ?_ (fun _=>O7)) ⟨?_,BM.fair qW h3,e2.fair qW h3,(uv.expr r).none.fair qW h3,cK,cK,cK,?_,?_,fun x hx=>by simp[aM]at hx,Or.inr rfl⟩ <;> simp[Fair,aM]
    refine⟨g1.add (qq ?_ ?_ ?_ (gv _) (gv _) (gv _) (gv _) ?_ ?_) ⟨?_,cK,cK,cK,cK,cK,Uj,?_,?_,fun x hx=>by simp[aM]at hx,Or.inr rfl⟩,BM.grow (by rw[<-hw4];exact List.prefix_refl _)⟩ <;> simp[Fair,aM]
   ·rename_i hop
    rw[if_neg hop];have hF2:cT (au r (au l w).2).2 F:=cT.sK hF;have iq:cT (au l w).2 F:=hF2.less (jF r _) (jG r _);obtain⟨a1,a2⟩:=nK h3 hN l d1 w f1 h1 iq hT hA;obtain⟨b1,b2⟩:=nK h3 hN r d2 (au l w).2 f2 h4 hF2 (hT.expr l) a1;exact⟨Hb h3 ((V_ hf.1).resolve_right hop) b1 (a2.grow (jG r _)) b2 hF,rE _ _ _⟩
 | .call _ g l,d,w,t,hf,h,hF,hT,hA=>by
   simp only[dI]at h;simp only[Fit]at hf;split at h
   ·cases h
   ·rename_i fn hfn
    split at h
    ·rename_i hl
     obtain⟨_,h1,h⟩:=cJ h;simp only[Except.ok.injEq]at h;subst h;simp only[au]at hF ⊢;have iq:cT (eu l w).2 F:=cT.sK hF;obtain⟨a1,a2,a4⟩:=RJ h3 hN l (fn.params.map (·.2)) w (by rw[List.length_map];exact hl) hf.2.2 h1 iq hT hA;have hp:=rE 1 { aM with code:=7,name:=g,args:=(eu l w).1 } w;have hp:=rE 1 { aM with code:=7,name:=g,args:=(eu l w).1 } (eu l w).2;refine⟨a1.to (Or.inl rfl) ?_ ⟨?_,hp.fair hF h3,cK,cK,cK,cK,cK,?_,?_,a4,Or.inl rfl⟩,hp⟩
     ·unfold cx
      rw[if_neg (by simp),if_pos rfl];simp only;rw[abQ,hfn];simp only[Option.map_some,Bool.and_eq_true,decide_eq_true_eq,beq_iff_eq];have mD:(eu l w).1.length=fn.params.length:=(by rw[LY l w,hl]);refine⟨⟨?_,hp.kind hF⟩,?_⟩
      ·show ((eu l w).1.length:Int)=(fn.params.length:Int)
       rw[mD]
      ·rw[a2,mD,afM]
     ·simp[Fair]
     ·simp[aM]
     ·have:=hf.2.1.2.2.2
      show g.length<=1000
      omega
    ·cases h
 | .new _ x,d,w,t,hf,h,hF,hT,hA=>by
   simp only[dI]at h;obtain⟨t1,h1,h⟩:=cJ h;obtain⟨_,h2,h⟩:=cJ h;rw[y_ h2]at h1;simp only[Except.ok.injEq]at h;subst h;simp only[Fit]at hf;simp only[au]at hF ⊢;have iq:cT (au x w).2 F:=cT.sK hF;obtain⟨a1,a2⟩:=nK h3 hN x _ w hf.2 h1 iq hT hA;have hp:=rE 2 { aM with code:=9,a:=(au x w).1 } (au x w).2;refine⟨a1.to (Or.inr rfl) (qq ?_ ?_ ?_ (lZ (hp.kind hF)) (lZ (a2.kind iq)) (gv _) (gv _) ?_ ?_) ⟨?_,hp.fair hF h3,a2.fair iq h3,cK,cK,cK,cK,?_,?_,fun x hx=>by simp[aM]at hx,Or.inr rfl⟩,hp⟩ <;> simp[Fair,aM]
 | .len _ x,d,w,t,hf,h,hF,hT,hA=>by
   simp only[dI]at h;obtain⟨t1,h1,h⟩:=cJ h;obtain⟨_,h2,h⟩:=cJ h;rw[y_ h2]at h1;simp only[Except.ok.injEq]at h;subst h;simp only[Fit]at hf;simp only[au]at hF ⊢;have iq:cT (au x w).2 F:=cT.sK hF;obtain⟨a1,a2⟩:=nK h3 hN x _ w hf.2 h1 iq hT hA;have hp:=rE 1 { aM with code:=10,a:=(au x w).1 } (au x w).2;refine⟨a1.to (Or.inl rfl) (qq ?_ ?_ ?_ (lZ (hp.kind hF)) (lZ (a2.kind iq)) (gv _) (gv _) ?_ ?_) ⟨?_,hp.fair hF h3,a2.fair iq h3,cK,cK,cK,cK,?_,?_,fun x hx=>by simp[aM]at hx,Or.inr rfl⟩,hp⟩ <;> simp[Fair,aM]
 | .item _ x i,d,w,t,hf,h,hF,hT,hA=>by
   simp only[dI]at h;obtain⟨t1,h1,h⟩:=cJ h;obtain⟨_,h2,h⟩:=cJ h;rw[y_ h2]at h1;obtain⟨t2,h4,h⟩:=cJ h;obtain⟨_,h5,h⟩:=cJ h;rw[y_ h5]at h4;simp only[Except.ok.injEq]at h;subst h;simp only[Fit]at hf;obtain⟨d1,f1⟩:∃d',Fit x d':=by
    have:=hf.2.1;split at this
    ·exact⟨_,this⟩
    ·exact yj this
   simp only[au]at hF ⊢;have hF2:cT (au i (au x w).2).2 F:=cT.sK hF;have iq:cT (au x w).2 F:=hF2.less (jF i _) (jG i _);obtain⟨a1,a2⟩:=nK h3 hN x d1 w f1 h1 iq hT hA;obtain⟨b1,b2⟩:=nK h3 hN i _ (au x w).2 hf.2.2 h4 hF2 (hT.expr x) a1;have a3:=a2.grow (jG i _);have hp:=rE 1 { aM with code:=11,a:=(au x w).1,b:=(au i (au x w).2).1 } (au i (au x w).2).2;refine⟨b1.to (Or.inl rfl) (qq ?_ ?_ ?_ (lZ (hp.kind hF)) (lZ (a3.kind hF2)) (lZ (b2.kind hF2)) (gv _) ?_ ?_) ⟨?_,hp.fair hF h3,a3.fair hF2 h3,b2.fair hF2 h3,cK,cK,cK,?_,?_,fun x hx=>by simp[aM]at hx,Or.inr rfl⟩,hp⟩ <;> simp[Fair,aM]
theorem RJ (h3:F.types.length<=3000) (hN:oM N):(l:List aL)->(ks:List Int)->(w:Lw)->{d:Nat}->{u:Unit}->l.length=ks.length->Fits l d->od Lt N l ks=.ok u->cT (eu l w).2 F->jn w N->e5 Lt F w->e5 Lt F (eu l w).2/\(eu l w).1.map (bO F)=ks/\∀x∈(eu l w).1,Fair x
 | [],ks,w,d,u,hl,hf,h,hF,hT,hA=>by
   cases ks with
   | nil=>exact⟨hA,rfl,fun x hx=>by simp[eu]at hx⟩
   | cons _ _=>simp at hl
 | e::r,[],w,d,u,hl,hf,h,hF,hT,hA=>by simp at hl
 | e::r,k::ks,w,d,u,hl,hf,h,hF,hT,hA=>by
   simp only[od]at h;simp only[Fits]at hf;obtain⟨t1,h1,h⟩:=cJ h;obtain⟨_,h2,h⟩:=cJ h;rw[y_ h2]at h1;simp only[eu]at hF ⊢;have iq:cT (au e w).2 F:=hF.less (H8 r _) (L0 r _);obtain⟨a1,a2⟩:=nK h3 hN e d w hf.1 h1 iq hT hA;obtain⟨b1,b2,b3⟩:=RJ h3 hN r ks (au e w).2 (by simpa using hl) hf.2 h hF (hT.expr e) a1;refine⟨b1,by rw[List.map_cons,b2,a2.kind iq],fun x hx=>?_⟩;rcases List.mem_cons.1 hx with rfl|hx
   ·exact a2.fair iq h3
   ·exact b3 x hx
end
end
end aW.iP
namespace aW.iP
open Go.RowKit aB aW Go.Proofs.Tryz
variable {w:Lw} {n:Nat} {a:Int} {L:List aB.Fn} {N:Nm} {fn:aB.Fn}
section
variable {Lt:List aB.Fn} {F:ar}
theorem J1 (h:cT w F) (hn:n<=w.labels):Fair (n:Int):=by
 have:=h.labels;unfold Fair;omega
theorem J0 (hA:e5 Lt F w) (hf:Fair (n:Int)):e5 Lt F (a8 { aM with code:=6,label:=(n:Int) } w):=by
 refine hA.add (qq ?_ ?_ ?_ (gv _) (gv _) (gv _) (gv _) ?_ ?_) ⟨?_,cK,cK,cK,cK,cK,hf,?_,?_,fun x hx=>by simp[aM]at hx,Or.inr rfl⟩ <;> simp[Fair,aM]
theorem Ve (hA:e5 Lt F w) (hl:kf F (n:Int)=true) (hf:Fair (n:Int)):e5 Lt F (a8 { aM with code:=4,label:=(n:Int) } w):=by
 refine hA.add (qq ?_ ?_ ?_ (gv _) (gv _) (gv _) (gv _) (fun _=>hl) ?_) ⟨?_,cK,cK,cK,cK,cK,hf,?_,?_,fun x hx=>by simp[aM]at hx,Or.inr rfl⟩ <;> simp[Fair,aM]
theorem RZ (h3:F.types.length<=3000) (hA:e5 Lt F w) (ha:kG w a 1) (hF:cT w F) (hl:kf F (n:Int)=true) (hf:Fair (n:Int)):e5 Lt F (a8 { aM with code:=5,a:=a,label:=(n:Int) } w):=by
 refine hA.add (qq ?_ ?_ ?_ (gv _) (lZ (ha.kind hF)) (gv _) (gv _) (fun _=>hl) ?_) ⟨?_,cK,ha.fair hF h3,cK,cK,cK,hf,?_,?_,fun x hx=>by simp[aM]at hx,Or.inr rfl⟩ <;> simp[Fair,aM]
theorem Pb (h3:F.types.length<=3000) (k:Int) (hk:k=8\/k=13) (hA:e5 Lt F w) (ha:kG w a 1) (hF:cT w F):e5 Lt F (a8 { aM with code:=k,a:=a } w):=by
 rcases hk with rfl|rfl
 ·refine hA.add (qq ?_ ?_ ?_ (gv _) (lZ (ha.kind hF)) (gv _) (gv _) ?_ ?_) ⟨?_,cK,ha.fair hF h3,cK,cK,cK,cK,?_,?_,fun x hx=>by simp[aM]at hx,Or.inr rfl⟩ <;> simp[Fair,aM]
 ·refine hA.add (qq ?_ ?_ ?_ (gv _) (lZ (ha.kind hF)) (gv _) (gv _) ?_ ?_) ⟨?_,cK,ha.fair hF h3,cK,cK,cK,cK,?_,?_,fun x hx=>by simp[aM]at hx,Or.inr rfl⟩ <;> simp[Fair,aM]
theorem VR (h3:F.types.length<=3000) {d t:Int} (ht:t=1\/t=2) (hA:e5 Lt F w) (ha:kG w a t) (hd:kG w d t) (hF:cT w F):e5 Lt F (a8 { aM with code:=2,dst:=d,a:=a } w):=by
 refine hA.add ?_ ⟨?_,hd.fair hF h3,ha.fair hF h3,cK,cK,cK,cK,?_,?_,fun x hx=>by simp[aM]at hx,Or.inr rfl⟩
 ·unfold cx
  rw[if_pos rfl];simp only;rw[hd.kind hF,ha.kind hF];rcases ht with rfl|rfl <;> decide
 all_goals simp[Fair,aM]
theorem jn.label (h:jn w N):jn (b7 w).2 N:=⟨h.names,h.none⟩
theorem jn.eo (h:jn w N) (s:ax):jn (a8 s w) N:=⟨h.names,h.none⟩
theorem e5.label (h:e5 Lt F w):e5 Lt F (b7 w).2:=⟨h.steps,h.types⟩
mutual
theorem ajC (h3:F.types.length<=3000):(x:St)->(d:Nat)->{N N':Nm}->{m m':Nat}->(w:Lw)->eQ x d->eN Lt N m x=.ok (N',m')->oM N->cT (bW x w) F->jn w N->e5 Lt F w->e5 Lt F (bW x w)/\jn (bW x w) N'/\oM N'/\kq N N'
 | .var _ s v,d,N,N',m,m',w,hf,h,hN,hF,hT,hA=>by
   simp only[eN]at h;simp only[eQ]at hf;obtain⟨t,h1,h⟩:=cJ h;obtain⟨h2,rfl⟩:=LX h;have ht:=Sw hN v h1;simp only[bW]at hF ⊢;obtain⟨kd,vV⟩:∃kd,(au v w).2.types.getD (au v w).1.toNat 0=kd:=⟨_,rfl⟩;rw[vV]at hF ⊢;have hF2:cT (fU s kd (au v w).2).2 F:=hF.eo;have dL:(au v w).2.types <+: (fU s kd (au v w).2).2.types:=⟨[kd],rfl⟩;have iq:cT (au v w).2 F:=⟨dL.trans hF2.types,hF2.steps,hF2.labels⟩;obtain⟨a1,a2⟩:=nK h3 hN v 0 w hf.2 h1 iq hT hA;have adV:kd=t:=by
    obtain⟨p,e1,e2⟩:=a2;rw[<-vV,e1,Int.toNat_natCast,List.getD_eq_getElem?_getD,e2];rfl
   subst adV;have IB:e5 Lt F (fU s kd (au v w).2).2:=by
    refine⟨a1.steps,fun y hy=>?_⟩;simp only[fU,List.mem_append,List.mem_singleton]at hy;rcases hy with hy|rfl
    ·exact a1.types y hy
    ·exact ht
   have gz:kG (fU s kd (au v w).2).2 ((au v w).2.types.length:Int) kd:=⟨_,rfl,by simp[fU]⟩;have uv:jn (fU s kd (au v w).2).2 (N++[(s,kd)]):=by
    refine⟨fun y hy=>?_,((hT.expr v).none.grow dL)⟩;rw[Dg hN]at hy ⊢
    show kG _ (fl (xH (au v w).2.names s ((au v w).2.types.length:Int)) y) _
    rw[zL];by_cases Ap:y=s
    ·subst Ap
     rw[if_neg (show ¬e9 N y≠0 by simpa using h2),if_pos rfl,if_pos rfl];exact gz
    ·rw[if_neg Ap]
     rw[if_neg Ap]at hy ⊢;by_cases h0:e9 N y≠0
     ·rw[if_pos h0]
      exact ((hT.expr v).names y h0).grow dL
     ·rw[if_neg h0]at hy;exact absurd rfl hy
   refine⟨VR h3 ht IB (a2.grow dL) gz hF2,uv.eo _,fun p hp=>?_,fun x hx=>?_⟩
   ·rw[List.mem_append,List.mem_singleton]at hp
    rcases hp with hp|rfl
    ·exact hN p hp
    ·exact ht
   ·rw[Dg hN,if_pos hx]
 | .set _ s v,d,N,N',m,m',w,hf,h,hN,hF,hT,hA=>by
   simp only[eN]at h;simp only[eQ]at hf;split at h
   ·cases h
   ·rename_i h0
    obtain⟨_,h1,h⟩:=cJ h;simp only[Except.ok.injEq,Prod.mk.injEq]at h;obtain⟨rfl,rfl⟩:=h;simp only[bW]at hF ⊢;have iq:cT (au v w).2 F:=hF.eo;obtain⟨a1,a2⟩:=nK h3 hN v 0 w hf.2 (qx h1) iq hT hA;have ht:=SD hN s;exact⟨VR h3 (by omega) a1 a2 ((hT.expr v).names s h0) iq,(hT.expr v).eo _,hN,kq.refl _⟩
 | .put _ s i v,d,N,N',m,m',w,hf,h,hN,hF,hT,hA=>by
   simp only[eN]at h;simp only[eQ]at hf;split at h
   ·cases h
   ·rename_i h0
    split at h
    ·cases h
    ·rename_i als
     obtain⟨_,h1,h⟩:=cJ h;obtain⟨_,h2,h⟩:=cJ h;simp only[Except.ok.injEq,Prod.mk.injEq]at h;obtain⟨rfl,rfl⟩:=h;simp only[bW]at hF ⊢;have hF2:cT (au v (au i w).2).2 F:=hF.eo;have iq:cT (au i w).2 F:=hF2.less (jF v _) (jG v _);obtain⟨a1,a2⟩:=nK h3 hN i 1 w hf.2.1 (qx h1) iq hT hA;obtain⟨b1,b2⟩:=nK h3 hN v 0 (au i w).2 hf.2.2 (qx h2) hF2 (hT.expr i) a1;have uv:=(hT.expr i).expr v;have hp:=uv.names s h0;rw[show e9 N s=2 by omega]at hp;have a3:=a2.grow (jG v _);refine⟨b1.add (qq ?_ ?_ ?_ (gv _) (lZ (hp.kind hF2)) (lZ (a3.kind hF2)) (lZ (b2.kind hF2)) ?_ ?_) ⟨?_,cK,hp.fair hF2 h3,a3.fair hF2 h3,b2.fair hF2 h3,cK,cK,?_,?_,fun x hx=>by simp[aM]at hx,Or.inr rfl⟩,uv.eo _,hN,kq.refl _⟩ <;> simp[Fair,aM]
 | .cond _ v t e,d,N,N',m,m',w,hf,h,hN,hF,hT,hA=>by
   simp only[eN]at h;simp only[eQ]at hf;obtain⟨_,h1,h⟩:=cJ h;obtain⟨x,h2,h⟩:=cJ h;obtain⟨y,h4,h⟩:=cJ h;simp only[Except.ok.injEq,Prod.mk.injEq]at h;obtain⟨rfl,rfl⟩:=h;simp only[bW]at hF ⊢;obtain⟨l1,fc⟩:∃l1,(b7 w).1=l1:=⟨_,rfl⟩;obtain⟨l2,hl2⟩:∃l2,(b7 (b7 w).2).1=l2:=⟨_,rfl⟩;obtain⟨w0,hw0⟩:∃w0,(b7 (b7 w).2).2=w0:=⟨_,rfl⟩;have q1:l1<=w0.labels/\l2<=w0.labels:=(by rw[<-fc,<-hl2,<-hw0];simp[b7]);have qZ:jn w0 N:=(by rw[<-hw0];exact hT.label.label);have yr:e5 Lt F w0:=(by rw[<-hw0];exact hA.label.label);rw[fc,hl2,hw0]at hF ⊢;obtain⟨eA,h9⟩:∃eA,a8 { aM with code:=5,a:=(au v w0).1,label:=(l1:Int) } (au v w0).2=eA:=⟨_,rfl⟩;rw[h9]at hF ⊢;obtain⟨w1,df⟩:∃w1,cZ t eA=w1:=⟨_,rfl⟩;rw[df]at hF ⊢;obtain⟨mO,lM⟩:∃mO,a8 { aM with code:=4,label:=(l2:Int) } w1=mO:=⟨_,rfl⟩;rw[lM]at hF ⊢;obtain⟨oz,wh⟩:∃oz,a8 { aM with code:=6,label:=(l1:Int) } mO=oz:=⟨_,rfl⟩;rw[wh]at hF ⊢;obtain⟨w2,hw2⟩:∃w2,cZ e oz=w2:=⟨_,rfl⟩;rw[hw2]at hF ⊢;have i2:cT w2 F:=hF.eo;have Ch:cT oz F:=(by rw[<-hw2]at i2;exact i2.less (po e _) (vC e _));have tB:cT mO F:=(by rw[<-wh]at Ch;exact Ch.eo);have i1:cT w1 F:=(by rw[<-lM]at tB;exact tB.eo);have oZ:cT eA F:=(by rw[<-df]at i1;exact i1.less (po t _) (vC t _));have ou:cT (au v w0).2 F:=(by rw[<-h9]at oZ;exact oZ.eo);have i0:cT w0 F:=ou.less (jF v _) (jG v _);have f1:=J1 i0 q1.1;have f2:=J1 i0 q1.2;have tj:kf F (l1:Int)=true:=Gu (s:={ aM with code:=6,label:=(l1:Int) }) Ch (by rw[<-wh];simp[a8]) rfl;have hL2:kf F (l2:Int)=true:=Gu (s:={ aM with code:=6,label:=(l2:Int) }) hF (by simp[a8]) rfl;obtain⟨a1,a2⟩:=nK h3 hN v 1 w0 hf.1 (qx h1) ou qZ yr;have c1:e5 Lt F eA:=(by rw[<-h9];exact RZ h3 a1 a2 ou tj f1);have c2:jn eA N:=(by rw[<-h9];exact (qZ.expr v).eo _);obtain⟨e1,e2,e3,e4⟩:=Fk h3 t _ eA hf.2.2.1 h2 hN (by rw[df];exact i1) c2 c1;rw[df]at e1 e2;have g1:e5 Lt F oz:=(by rw[<-wh,<-lM];exact J0 (Ve e1 hL2 f2) f1);have g2:jn oz N:=(by rw[<-wh,<-lM];exact ((e2.less e4).eo _).eo _);obtain⟨k1,k2,k3,k4⟩:=Fk h3 e _ oz hf.2.2.2 h4 hN (by rw[hw2];exact i2) g2 g1;rw[hw2]at k1 k2;exact⟨J0 k1 f2,(k2.less k4).eo _,hN,kq.refl _⟩
 | .loop _ v t,d,N,N',m,m',w,hf,h,hN,hF,hT,hA=>by
   simp only[eN]at h;simp only[eQ]at hf;obtain⟨_,h1,h⟩:=cJ h;obtain⟨x,h2,h⟩:=cJ h;simp only[Except.ok.injEq,Prod.mk.injEq]at h;obtain⟨rfl,rfl⟩:=h;simp only[bW]at hF ⊢;obtain⟨l1,fc⟩:∃l1,(b7 w).1=l1:=⟨_,rfl⟩;obtain⟨l2,hl2⟩:∃l2,(b7 (b7 w).2).1=l2:=⟨_,rfl⟩;obtain⟨w0,hw0⟩:∃w0,(b7 (b7 w).2).2=w0:=⟨_,rfl⟩;have q1:l1<=w0.labels/\l2<=w0.labels:=(by rw[<-fc,<-hl2,<-hw0];simp[b7]);have qZ:jn w0 N:=(by rw[<-hw0];exact hT.label.label);have yr:e5 Lt F w0:=(by rw[<-hw0];exact hA.label.label);rw[fc,hl2,hw0]at hF ⊢;obtain⟨fh,uF⟩:∃fh,a8 { aM with code:=6,label:=(l1:Int) } w0=fh:=⟨_,rfl⟩;rw[uF]at hF ⊢;obtain⟨eA,h9⟩:∃eA,a8 { aM with code:=5,a:=(au v fh).1,label:=(l2:Int) } (au v fh).2=eA:=⟨_,rfl⟩;rw[h9]at hF ⊢;obtain⟨w1,df⟩:∃w1,cZ t eA=w1:=⟨_,rfl⟩;rw[df]at hF ⊢;obtain⟨mO,lM⟩:∃mO,a8 { aM with code:=4,label:=(l1:Int) } w1=mO:=⟨_,rfl⟩;rw[lM]at hF ⊢;have tB:cT mO F:=hF.eo;have i1:cT w1 F:=(by rw[<-lM]at tB;exact tB.eo);have oZ:cT eA F:=(by rw[<-df]at i1;exact i1.less (po t _) (vC t _));have ou:cT (au v fh).2 F:=(by rw[<-h9]at oZ;exact oZ.eo);have ih:cT fh F:=ou.less (jF v _) (jG v _);have i0:cT w0 F:=(by rw[<-uF]at ih;exact ih.eo);have f1:=J1 i0 q1.1;have f2:=J1 i0 q1.2;have tj:kf F (l1:Int)=true:=Gu (s:={ aM with code:=6,label:=(l1:Int) }) ih (by rw[<-uF];simp[a8]) rfl;have hL2:kf F (l2:Int)=true:=Gu (s:={ aM with code:=6,label:=(l2:Int) }) hF (by simp[a8]) rfl;have FN:jn fh N:=(by rw[<-uF];exact qZ.eo _);have ME:e5 Lt F fh:=(by rw[<-uF];exact J0 yr f1);obtain⟨a1,a2⟩:=nK h3 hN v 1 fh hf.1 (qx h1) ou FN ME;have c1:e5 Lt F eA:=(by rw[<-h9];exact RZ h3 a1 a2 ou hL2 f2);have c2:jn eA N:=(by rw[<-h9];exact (FN.expr v).eo _);obtain⟨e1,e2,e3,e4⟩:=Fk h3 t _ eA hf.2.2 h2 hN (by rw[df];exact i1) c2 c1;rw[df]at e1 e2;have g1:e5 Lt F mO:=(by rw[<-lM];exact Ve e1 tj f1);have g2:jn mO N:=(by rw[<-lM];exact (e2.less e4).eo _);exact⟨J0 g1 f2,g2.eo _,hN,kq.refl _⟩
 | .ret _ v,d,N,N',m,m',w,hf,h,hN,hF,hT,hA=>by
   simp only[eN]at h;simp only[eQ]at hf;obtain⟨_,h1,h⟩:=cJ h;simp only[Except.ok.injEq,Prod.mk.injEq]at h;obtain⟨rfl,rfl⟩:=h;simp only[bW]at hF ⊢;have iq:cT (au v w).2 F:=hF.eo;obtain⟨a1,a2⟩:=nK h3 hN v 0 w hf (qx h1) iq hT hA;exact⟨Pb h3 8 (Or.inl rfl) a1 a2 iq,(hT.expr v).eo _,hN,kq.refl _⟩
 | .print _ v,d,N,N',m,m',w,hf,h,hN,hF,hT,hA=>by
   simp only[eN]at h;simp only[eQ]at hf;obtain⟨_,h1,h⟩:=cJ h;simp only[Except.ok.injEq,Prod.mk.injEq]at h;obtain⟨rfl,rfl⟩:=h;simp only[bW]at hF ⊢;have iq:cT (au v w).2 F:=hF.eo;obtain⟨a1,a2⟩:=nK h3 hN v 0 w hf (qx h1) iq hT hA;exact⟨Pb h3 13 (Or.inr rfl) a1 a2 iq,(hT.expr v).eo _,hN,kq.refl _⟩
 | .call _ v,d,N,N',m,m',w,hf,h,hN,hF,hT,hA=>by
   simp only[eN]at h;simp only[eQ]at hf;obtain⟨_,h1,h⟩:=cJ h;simp only[Except.ok.injEq,Prod.mk.injEq]at h;obtain⟨rfl,rfl⟩:=h;simp only[bW]at hF ⊢;exact⟨(nK h3 hN v 0 w hf.2 (qx h1) hF hT hA).1,hT.expr v,hN,kq.refl _⟩
theorem Fk (h3:F.types.length<=3000):(l:List St)->(d:Nat)->{N:Nm}->{y:Nm×Nat}->{m:Nat}->(w:Lw)->lu l d->lO Lt N m l=.ok y->oM N->cT (cZ l w) F->jn w N->e5 Lt F w->e5 Lt F (cZ l w)/\jn (cZ l w) y.1/\oM y.1/\kq N y.1
 | [],d,N,y,m,w,hf,h,hN,hF,hT,hA=>by
   simp only[lO,Except.ok.injEq]at h;subst h;exact⟨hA,hT,hN,kq.refl _⟩
 | x::r,d,N,y,m,w,hf,h,hN,hF,hT,hA=>by
   simp only[lO]at h;simp only[lu]at hf;obtain⟨⟨H2,m1⟩,h1,h⟩:=cJ h;simp only[cZ]at hF ⊢;obtain⟨a1,a2,a3,a4⟩:=ajC h3 x d w hf.1 h1 hN (hF.less (po r _) (vC r _)) hT hA;obtain⟨b1,b2,b3,b4⟩:=Fk h3 r d (bW x w) hf.2 h a3 hF a2 a1;exact⟨b1,b2,b3,a4.trans b4⟩
end
end
theorem O_:(l:List ax)->(T:List Int)->(ct l).Nodup->(∀x∈ct l,x ∉ T)->nU T l=true
 | [],T,_,_=>rfl
 | s::r,T,h,hT=>by
   have h2:ct (s::r)=ct [s]++ct r:=o0 [s] r;simp only[nU];by_cases hc:s.code=6
   ·rw[if_pos hc]
    rw[h2,wz,if_pos hc]at h hT;rw[if_neg (by simpa using hT s.label (by simp))];have h3:=List.nodup_append.1 h;refine O_ r _ h3.2.1 (fun x hx hm=>?_);rw[List.mem_append,List.mem_singleton]at hm;rcases hm with hm|rfl
    ·exact hT x (by simp[hx]) hm
    ·exact h3.2.2 s.label (by simp) s.label hx rfl
   ·rw[if_neg hc]
    rw[h2,wz,if_neg hc,List.nil_append]at h hT;exact O_ r T h hT
theorem ahd {op:List UInt8} (h:∃k,k<6/\op∈ky.getD k []):mJ op:=by
 have key:∀k,k<6->∀o∈ky.getD k [],o.length<=2:=by decide
 obtain⟨k,hk,h⟩:=h;have:=key k hk op h;unfold mJ;omega
theorem GC {x:List UInt8} (h:sZ x):mJ x:=by
 have:=h.2.2.2;unfold mJ;omega
theorem SB:(l:List aL)->l.length<=mA l
 | []=>Nat.le_refl _
 | e::r=>by
   have:=SB r;have:1<=bK e:=(by cases e <;> simp only[bK] <;> omega);simp only[mA,List.length_cons];omega
mutual
theorem pE:(e:aL)->(d:Nat)->Fit e d->bK e<=1000000->gl e
 | .num _ _,d,hf,hn=>by simp only[gl]
 | .var _ x,d,hf,hn=>by simp only[gl,Fit]at hf ⊢;exact GC hf.2
 | .un _ op x,d,hf,hn=>by
   simp only[Fit]at hf;simp only[bK]at hn;obtain⟨d1,f1⟩:∃d',Fit x d':=by
    have:=hf.2.2;split at this
    ·exact⟨_,this.2⟩
    ·exact⟨_,this⟩
   simp only[gl];refine⟨?_,pE x d1 f1 (by omega)⟩;rcases hf.2.1 with rfl|rfl <;> simp[mJ]
 | .bin _ op l r,d,hf,hn=>by
   simp only[Fit]at hf;simp only[bK]at hn;obtain⟨d1,f1⟩:=yj hf.2.1;obtain⟨d2,f2⟩:=yj hf.2.2;simp only[gl];exact⟨ahd hf.1,pE l d1 f1 (by omega),pE r d2 f2 (by omega)⟩
 | .call _ g l,d,hf,hn=>by
   simp only[Fit]at hf;simp only[bK]at hn;have:=SB l;simp only[gl];exact⟨GC hf.2.1,by omega,V1 l _ hf.2.2 (by omega)⟩
 | .new _ x,d,hf,hn=>by simp only[Fit]at hf;simp only[bK]at hn;simp only[gl];exact pE x _ hf.2 (by omega)
 | .len _ x,d,hf,hn=>by simp only[Fit]at hf;simp only[bK]at hn;simp only[gl];exact pE x _ hf.2 (by omega)
 | .item _ x i,d,hf,hn=>by
   simp only[Fit]at hf;simp only[bK]at hn;obtain⟨d1,f1⟩:∃d',Fit x d':=by
    have:=hf.2.1;split at this
    ·exact⟨_,this⟩
    ·exact yj this
   simp only[gl];exact⟨pE x d1 f1 (by omega),pE i _ hf.2.2 (by omega)⟩
 | .input _,d,hf,hn=>by simp only[gl]
theorem V1:(l:List aL)->(d:Nat)->Fits l d->mA l<=1000000->vv l
 | [],d,hf,hn=>by simp only[vv]
 | e::r,d,hf,hn=>by
   simp only[Fits]at hf;simp only[mA]at hn;simp only[vv];exact⟨pE e d hf.1 (by omega),V1 r d hf.2 (by omega)⟩
end
mutual
theorem agW:(s:St)->(d:Nat)->eQ s d->dH s<=1000000->mY s
 | .var _ x v,d,hf,hn=>by simp only[eQ]at hf;simp only[dH]at hn;simp only[mY];exact⟨GC hf.1,pE v _ hf.2 (by omega)⟩
 | .set _ x v,d,hf,hn=>by simp only[eQ]at hf;simp only[dH]at hn;simp only[mY];exact⟨GC hf.1,pE v _ hf.2 (by omega)⟩
 | .put _ x i v,d,hf,hn=>by simp only[eQ]at hf;simp only[dH]at hn;simp only[mY];exact⟨GC hf.1,pE i _ hf.2.1 (by omega),pE v _ hf.2.2 (by omega)⟩
 | .cond _ v t e,d,hf,hn=>by simp only[eQ]at hf;simp only[dH]at hn;simp only[mY];exact⟨pE v _ hf.1 (by omega),GF t _ hf.2.2.1 (by omega),GF e _ hf.2.2.2 (by omega)⟩
 | .loop _ v t,d,hf,hn=>by simp only[eQ]at hf;simp only[dH]at hn;simp only[mY];exact⟨pE v _ hf.1 (by omega),GF t _ hf.2.2 (by omega)⟩
 | .ret _ v,d,hf,hn=>by simp only[eQ]at hf;simp only[dH]at hn;simp only[mY];exact pE v _ hf (by omega)
 | .print _ v,d,hf,hn=>by simp only[eQ]at hf;simp only[dH]at hn;simp only[mY];exact pE v _ hf (by omega)
 | .call _ v,d,hf,hn=>by simp only[eQ]at hf;simp only[dH]at hn;simp only[mY];exact pE v _ hf.2 (by omega)
theorem GF:(l:List St)->(d:Nat)->lu l d->jz l<=1000000->pV l
 | [],d,hf,hn=>by simp only[pV]
 | s::r,d,hf,hn=>by
   simp only[lu]at hf;simp only[jz]at hn;simp only[pV];exact⟨agW s d hf.1 (by omega),GF r d hf.2 (by omega)⟩
end
theorem ab8 {Lt:List aB.Fn} (hf:AQ fn) (hk:ur Lt fn=.ok ()) (hc:xd fn<=1200):l4 (cI Lt) (gV fn)=true/\(∀s∈(gV fn).steps,C1 s)/\(gV fn).types.length<=3000/\(∀t∈(gV fn).types,t=1\/t=2)/\fn.params.length<=(gV fn).types.length/\LJ fn:=by
 unfold ur at hk;obtain⟨⟨H2,m1⟩,h1,hk⟩:=cJ hk;obtain⟨y,h2,-⟩:=cJ hk;obtain⟨a1,a2,a3⟩:=Pe fn.params [] 0 (fun p hp=>(hf.2.1 p hp).2) Xx h1;simp only[List.nil_append]at a1;subst a1;have hZ:oM fn.params:=fun p hp=>(hf.2.1 p hp).2
 have hst:=El fn.body;have vZ:∀l:List (List UInt8×Int),l.length<=pq l:=by
  intro l;induction l with
  | nil=>exact Nat.le_refl _
  | cons a r ih =>
    cases r with
    | nil=>simp[pq]
    | cons b r=>simp only[pq,List.length_cons]at ih ⊢;omega
 have hpl:=vZ fn.params;unfold xd at hc;have jr:=Fm fn.body (ey fn);have I9:(ey fn).types=fn.params.map (·.2)++[1]:=by
  show (iy fn.params iJ).types++[1]=_
  rw[GQ];rfl
 obtain⟨-,-,-,ahj,am2⟩:=GO fn.params iJ a2;have FY:(ey fn).steps=[{ aM with code:=1,dst:=(fn.params.length:Int) }]:=by
  rw[head_eq];simp only[bC,ahj];have:=GQ fn.params iJ;rw[this];simp[iJ]
 have adP:(ey fn).types.length=fn.params.length+1:=by rw[I9];simp
 have e1:(gV fn).types=(cZ fn.body (ey fn)).types:=rfl;have e2:(gV fn).steps=(pC fn).steps:=rfl;have kN:(gV fn).types.length<=3000:=by rw[e1];omega
 have hsl:(gV fn).steps.length=(cZ fn.body (ey fn)).steps.length+1:=by rw[e2];simp[pC,a8]
 have Jg:cT (pC fn) (gV fn):=by
  refine⟨List.prefix_refl _,List.prefix_refl _,?_⟩;have b1:=w_ fn.body (ey fn);have b2:=Nf fn;have b3:(pC fn).labels=(cZ fn.body (ey fn)).labels:=rfl;have b4:(cZ fn.body (ey fn)).labels<=(cZ fn.body (ey fn)).sz:=by unfold Lw.sz;omega
  omega
 have hib:cT (cZ fn.body (ey fn)) (gV fn):=cT.eo (s:={ aM with code:=8,a:=(cZ fn.body (ey fn)).none }) Jg;have Dy:cT (ey fn) (gV fn):=hib.less (po _ _) (vC _ _);have hnone:(ey fn).none=(fn.params.length:Int):=by
  rw[head_eq,GQ];simp[iJ]
 have FN:jn (ey fn) fn.params:=by
  obtain⟨-,r2,-,-,-⟩:=GO fn.params iJ a2;refine⟨fun x hx=>?_,fn.params.length,hnone,by rw[I9];simp⟩;unfold e9 at hx ⊢;cases hq:fn.params.find? (fun q=>q.1==x) with
  | none=>rw[hq]at hx;exact absurd rfl hx
  | some q =>
    simp only;have Jt:=List.mem_of_find?_eq_some hq;have aeh:q.1=x:=(by have:=List.find?_some hq;simpa using this);obtain⟨i,hi,he⟩:=List.getElem_of_mem Jt;have hE:fn.params[i]?=some q:=(by rw[List.getElem?_eq_getElem hi,he]);refine⟨i,?_,?_⟩
    ·show fl (iy fn.params iJ).names x=_
     rw[<-aeh,r2 i q hE];simp[iJ]
    ·rw[I9,List.getElem?_append_left (by simpa using hi),List.getElem?_map,hE]
     rfl
 have ME:e5 Lt (gV fn) (ey fn):=by
  have fe:kG (ey fn) (fn.params.length:Int) 1:=by have:=FN.none;rw[hnone]at this;exact this
  refine⟨fun s hs=>?_,fun t ht=>?_⟩
  ·rw[FY,List.mem_singleton]at hs
   subst hs;refine⟨qq ?_ ?_ ?_ (lZ (fe.kind Dy)) (gv _) (gv _) (gv _) ?_ ?_,⟨?_,fe.fair Dy kN,cK,cK,cK,cK,cK,?_,?_,fun x hx=>by simp[aM]at hx,Or.inr rfl⟩⟩ <;> simp[Fair,aM]
  ·rw[I9,List.mem_append,List.mem_singleton]at ht
   rcases ht with ht|rfl
   ·obtain⟨p,hp,rfl⟩:=List.mem_map.1 ht
    exact hZ p hp
   ·exact Or.inl rfl
 obtain⟨g1,g2,g3,g4⟩:=Fk (F:=gV fn) kN fn.body 0 (ey fn) hf.2.2 h2 hZ hib FN ME;have IC:e5 Lt (gV fn) (pC fn):=Pb kN 8 (Or.inl rfl) g1 g2.none hib;refine⟨?_,fun s hs=>(IC.steps s hs).2,kN,IC.types,?_,?_⟩
 ·unfold l4
  simp only[Bool.and_eq_true,decide_eq_true_eq];refine⟨⟨⟨⟨⟨⟨kN,by omega⟩,?_⟩,?_⟩,?_⟩,?_⟩,?_⟩
  ·rw[hsl]
   rw[FY]at jr;simp only[List.length_singleton]at jr;omega
  ·rw[e2]
   simp[pC,a8]
  ·rw[List.all_eq_true]
   intro t ht;have:=IC.types t ht;rcases this with rfl|rfl <;> decide
  ·refine O_ _ [] ?_ (fun x _=>by simp)
   obtain⟨d,q1,q2,q3,q4⟩:=po fn.body (ey fn);rw[e2];simp only[pC,a8];rw[q1,o0,o0,TN fn a2,wz,if_neg (by simp)];simpa using q4
  ·rw[List.all_eq_true]
   exact fun s hs=>(IC.steps s hs).1
 ·rw[e1]
  have:=(vC fn.body (ey fn)).length_le;omega
 ·refine⟨fun p hp=>?_,?_,by omega⟩
  ·have:=(hf.2.1 p hp).1.2.2.2
   unfold mJ;omega
  ·exact GF fn.body 0 hf.2.2 (by omega)
theorem Sb (h:fn∈L):xd fn<=p6 L:=by
 induction L with
 | nil=>cases h
 | cons a r ih =>
   simp only[p6];rcases List.mem_cons.1 h with rfl|h
   ·omega
   ·have:=ih h;omega
theorem FV:(L A:List aB.Fn)->{u:Unit}->nZ A L=.ok u->(∀fn∈L,fn.params.length<=(gV fn).types.length)->jW (A.map gV) (L.map gV)=true
 | [],A,u,_,_=>rfl
 | f::r,A,u,h,hp=>by
   simp only[nZ]at h;split at h
   ·cases h
   ·rename_i h1
    have h2:=FV r (A++[f]) h (fun fn hfn=>hp fn (List.mem_cons_of_mem _ hfn));simp only[List.map_append,List.map_cons,List.map_nil]at h2;simp only[List.map_cons,jW];rw[if_neg,h2];have h3:=hp f List.mem_cons_self;intro hc;rcases hc with hc|hc|hc
    ·have:(gV f).params=(f.params.length:Int):=rfl
     omega
    ·have:(gV f).params=(f.params.length:Int):=rfl
     omega
    ·refine h1 ?_
     rw[List.any_eq_true]at hc ⊢;obtain⟨x,hx,he⟩:=hc;obtain⟨y,hy,rfl⟩:=List.mem_map.1 hx;exact⟨y,hy,he⟩
structure zh (L:List aB.Fn):Prop where
 seen:∀fn∈L,E9 L 10000 fn
 low:∀fn∈L,LJ fn
 code:p9 (cI L)=true
 steps:∀F∈cI L,(∀s∈F.steps,C1 s)/\F.types.length<=3000/\(∀t∈F.types,t=1\/t=2)/\0<F.steps.length/\F.name.length<=1000/\0<=F.params/\F.params<=3000
 main:∃fn,il L [109,97,105,110]=some fn/\fn.params=[]
theorem abR (js:∀x∈L,AQ x) (adI:L.length<=12) (adB:p6 L<=1200) (h1:nZ [] L=.ok ()) (h2:∀fn∈L,ur L fn=.ok ()) (h3:L.any nR=true):zh L:=by
 have hg:=fun fn (hm:fn∈L)=>ab8 (Lt:=L) (js fn hm) (h2 fn hm) (Nat.le_trans (Sb hm) adB)
 refine⟨fun fn hm=>aiG (js fn hm) (h2 fn hm) ?_,fun fn hm=>(hg fn hm).2.2.2.2.2,?_,fun F hF=>?_,?_⟩
 ·have:=Sb hm
  unfold xd at this;omega
 ·unfold p9
  simp only[Bool.and_eq_true,decide_eq_true_eq];refine⟨⟨⟨by simpa [cI] using adI,FV L [] h1 (fun fn hm=>(hg fn hm).2.2.2.2.1)⟩,?_⟩,?_⟩
  ·rw[List.all_eq_true]
   intro F hF;obtain⟨fn,hm,rfl⟩:=List.mem_map.1 hF;exact (hg fn hm).1
  ·rw[List.any_eq_true]at h3 ⊢
   obtain⟨fn,hm,he⟩:=h3;refine⟨gV fn,List.mem_map_of_mem hm,?_⟩;unfold nR at he;simp only[Bool.and_eq_true,beq_iff_eq]at he ⊢;refine⟨he.1,?_⟩
   show ((fn.params.length:Nat):Int)=0
   omega
 ·obtain⟨fn,hm,rfl⟩:=List.mem_map.1 hF
  obtain⟨g1,g2,g3,g4,g5,g6⟩:=hg fn hm;refine⟨g2,g3,g4,?_,?_,?_,?_⟩
  ·show 0<(pC fn).steps.length
   simp[pC,a8]
  ·have:=(js fn hm).1.2.2.2
   show fn.name.length<=1000
   omega
  ·show 0<=((fn.params.length:Nat):Int)
   omega
  ·show ((fn.params.length:Nat):Int)<=3000
   omega
 ·obtain⟨fn,hm,he⟩:=List.any_eq_true.1 h3
  have l7:∀ (l A:List aB.Fn) (u:Unit),nZ A l=.ok u->(∀x∈l,∀y∈A,y.name≠x.name)/\∀x∈l,il l x.name=some x:=by
   intro l;induction l with
   | nil=>intro A u _;exact⟨fun x hx=>(by cases hx),fun x hx=>(by cases hx)⟩
   | cons a r ih =>
     intro A u h;simp only[nZ]at h;split at h
     ·cases h
     ·rename_i hno
      obtain⟨i1,i2⟩:=ih (A++[a]) u h;have ad8:∀y∈A,y.name≠a.name:=fun y hy e=>hno (List.any_eq_true.2 ⟨y,hy,by simpa using e⟩)
      refine⟨fun x hx y hy=>?_,fun x hx=>?_⟩
      ·rcases List.mem_cons.1 hx with rfl|hx
       ·exact ad8 y hy
       ·exact i1 x hx y (List.mem_append_left _ hy)
      ·unfold il
       rcases List.mem_cons.1 hx with rfl|hx
       ·simp[List.find?_cons]
       ·have hne:=i1 x hx a (by simp)
        rw[List.find?_cons];have:(a.name==x.name)=false:=(by simpa using hne);rw[this];exact i2 x hx
  unfold nR at he;simp only[Bool.and_eq_true,beq_iff_eq,List.length_eq_zero_iff]at he;have:=(l7 L [] () h1).2 fn hm;rw[he.1]at this;exact⟨fn,this,he.2⟩
theorem zh.same (h:zh L) {f:Nat} {given:List Int} {r:Int×Int×List Int} (hr:y5 L f given 150=some r) (h6:r.1≠6):dr (fun n=>runM (cI L) n given 1510000) r:=by
 obtain⟨fn,hm,hp⟩:=h.main;exact aix (C:=10000) h.seen hm hp (by decide) hr h6
end aW.iP
namespace aW
open Go.RowKit bB Go.Maps aB Go.Proofs.Tryz
def Ea (p:Int×Int):Value:=.tuple #[.int .i64 p.1,.int .i64 p.2]
theorem VO (op:List UInt8) (a b:Int) (W:World) :
 Calls prog 83 #[str op,a,b] W fun e w=>e=.returned (Ea (dA op a b))/\W=w:=by
 unfold str;by_cases h0:op=[43]
 ·subst h0
  have ht:dA [43] a b=(wrap64 (a+b),0):=by unfold dA;rfl
  rw[ht];clear ht;go_in;go_wp2;go_ret2;exact⟨rfl,rfl⟩
 by_cases h1:op=[45]
 ·subst h1
  have ht:dA [45] a b=(wrap64 (a-b),0):=by unfold dA;rfl
  rw[ht];clear ht;go_in;go_wp2;go_ret2;exact⟨rfl,rfl⟩
 by_cases h2:op=[42]
 ·subst h2
  have ht:dA [42] a b=(wrap64 (a*b),0):=by unfold dA;rfl
  rw[ht];clear ht;go_in;go_wp2;go_ret2;exact⟨rfl,rfl⟩
 by_cases h3:op=[47]
 ·subst h3
  by_cases hz:b=0
  ·subst hz
   have ht:dA [47] a 0=(0,2):=(by unfold dA;rfl);rw[ht];clear ht;go_in;go_wp2;go_ret2;exact⟨rfl,rfl⟩
  ·have hb0:(b==0)=false:=by simpa using hz
   have ht:dA [47] a b=(wrap64 (a.tdiv b),0):=(by unfold dA;rw[if_neg (by decide),if_neg (by decide),if_neg (by decide),if_pos (by decide),if_neg hz];rfl);rw[ht];clear ht;go_in;go_wp2;go_ret2;exact⟨by first|rfl|simp[Ea,wrap64,IntKind.wrap_i64],rfl⟩
 by_cases h4:op=[37]
 ·subst h4
  by_cases hz:b=0
  ·subst hz
   have ht:dA [37] a 0=(0,2):=(by unfold dA;rfl);rw[ht];clear ht;go_in;go_wp2;go_ret2;exact⟨rfl,rfl⟩
  ·have hb0:(b==0)=false:=by simpa using hz
   have ht:dA [37] a b=(a.tmod b,0):=(by unfold dA;rw[if_neg (by decide),if_neg (by decide),if_neg (by decide),if_pos (by decide),if_neg hz];rfl);rw[ht];clear ht;go_in;go_wp2;go_ret2;exact⟨by first|rfl|simp[Ea,wrap64,IntKind.wrap_i64],rfl⟩
 by_cases h5:op=[61,61]
 ·subst h5
  have ht:dA [61,61] a b=(cj (a==b),0):=by unfold dA;rfl
  by_cases h:a=b
  ·have hv:cj (a==b)=1:=by simp[cj];omega
   have hd:(a==b)=true:=(by simpa using h);have kh:(a != b)=false:=(by simpa using h);rw[ht,hv];clear ht hv h;go_in;go_wp2;go_ret2;exact⟨rfl,rfl⟩
  ·have hv:cj (a==b)=0:=by simp[cj];omega
   have hd:(a==b)=false:=(by simpa using h);have kh:(a != b)=true:=(by simpa using h);rw[ht,hv];clear ht hv h;go_in;go_wp2;go_ret2;exact⟨rfl,rfl⟩
 by_cases h6:op=[33,61]
 ·subst h6
  have ht:dA [33,61] a b=(cj (a != b),0):=by unfold dA;rfl
  by_cases h:a=b
  ·have hv:cj (a != b)=0:=by simp[cj];omega
   have hd:(a==b)=true:=(by simpa using h);have kh:(a != b)=false:=(by simpa using h);rw[ht,hv];clear ht hv h;go_in;go_wp2;go_ret2;exact⟨rfl,rfl⟩
  ·have hv:cj (a != b)=1:=by simp[cj];omega
   have hd:(a==b)=false:=(by simpa using h);have kh:(a != b)=true:=(by simpa using h);rw[ht,hv];clear ht hv h;go_in;go_wp2;go_ret2;exact⟨rfl,rfl⟩
 by_cases h7:op=[60]
 ·subst h7
  have ht:dA [60] a b=(cj (decide (a<b)),0):=by unfold dA;rfl
  by_cases h:a<b
  ·have hv:cj (decide (a<b))=1:=by simp[cj];omega
   have hd:decide (a<b)=true:=(by simpa using h);have j4:(a<b):=h;rw[ht,hv];clear ht hv h;go_in;go_wp2;go_ret2;exact⟨rfl,rfl⟩
  ·have hv:cj (decide (a<b))=0:=by simp[cj];omega
   have hd:decide (a<b)=false:=(by simpa using h);have j4:¬(a<b):=h;rw[ht,hv];clear ht hv h;go_in;go_wp2;go_ret2;exact⟨rfl,rfl⟩
 by_cases h8:op=[60,61]
 ·subst h8
  have ht:dA [60,61] a b=(cj (decide (a<=b)),0):=by unfold dA;rfl
  by_cases h:a<=b
  ·have hv:cj (decide (a<=b))=1:=by simp[cj];omega
   have hd:decide (a<=b)=true:=(by simpa using h);have j4:(a<=b):=h;rw[ht,hv];clear ht hv h;go_in;go_wp2;go_ret2;exact⟨rfl,rfl⟩
  ·have hv:cj (decide (a<=b))=0:=by simp[cj];omega
   have hd:decide (a<=b)=false:=(by simpa using h);have j4:¬(a<=b):=h;rw[ht,hv];clear ht hv h;go_in;go_wp2;go_ret2;exact⟨rfl,rfl⟩
 by_cases dJ:op=[62]
 ·subst dJ
  have ht:dA [62] a b=(cj (decide (a > b)),0):=by unfold dA;rfl
  by_cases h:b<a
  ·have hv:cj (decide (a > b))=1:=by simp[cj];omega
   have hd:decide (b<a)=true:=(by simpa using h);have j4:(b<a):=h;rw[ht,hv];clear ht hv h;go_in;go_wp2;go_ret2;exact⟨rfl,rfl⟩
  ·have hv:cj (decide (a > b))=0:=by simp[cj];omega
   have hd:decide (b<a)=false:=(by simpa using h);have j4:¬(b<a):=h;rw[ht,hv];clear ht hv h;go_in;go_wp2;go_ret2;exact⟨rfl,rfl⟩
 by_cases h10:op=[62,61]
 ·subst h10
  have ht:dA [62,61] a b=(cj (decide (a>=b)),0):=by unfold dA;rfl
  by_cases h:b<=a
  ·have hv:cj (decide (a>=b))=1:=by simp[cj];omega
   have hd:decide (b<=a)=true:=(by simpa using h);have j4:(b<=a):=h;rw[ht,hv];clear ht hv h;go_in;go_wp2;go_ret2;exact⟨rfl,rfl⟩
  ·have hv:cj (decide (a>=b))=0:=by simp[cj];omega
   have hd:decide (b<=a)=false:=(by simpa using h);have j4:¬(b<=a):=h;rw[ht,hv];clear ht hv h;go_in;go_wp2;go_ret2;exact⟨rfl,rfl⟩
 have ht:dA op a b=(0,0):=by
  unfold dA;rw[if_neg h0,if_neg h1,if_neg h2,if_neg (fun e=>e.elim h3 h4),if_neg h5,if_neg h6,if_neg h7,if_neg h8,if_neg dJ,if_neg h10]
 rw[ht];clear ht;have ja:((⟨op.toArray⟩:ByteArray)==⟨#[43]⟩)=false:=by rw[show (⟨#[43]⟩:ByteArray)=⟨([43]:List UInt8).toArray⟩ from rfl,qu];simpa using h0
 have amD:(op==[43])=false:=by simpa using h0
 have k1:((⟨op.toArray⟩:ByteArray)==⟨#[45]⟩)=false:=by rw[show (⟨#[45]⟩:ByteArray)=⟨([45]:List UInt8).toArray⟩ from rfl,qu];simpa using h1
 have U_:(op==[45])=false:=by simpa using h1
 have k2:((⟨op.toArray⟩:ByteArray)==⟨#[42]⟩)=false:=by rw[show (⟨#[42]⟩:ByteArray)=⟨([42]:List UInt8).toArray⟩ from rfl,qu];simpa using h2
 have Va:(op==[42])=false:=by simpa using h2
 have k3:((⟨op.toArray⟩:ByteArray)==⟨#[47]⟩)=false:=by rw[show (⟨#[47]⟩:ByteArray)=⟨([47]:List UInt8).toArray⟩ from rfl,qu];simpa using h3
 have OB:(op==[47])=false:=by simpa using h3
 have k4:((⟨op.toArray⟩:ByteArray)==⟨#[37]⟩)=false:=by rw[show (⟨#[37]⟩:ByteArray)=⟨([37]:List UInt8).toArray⟩ from rfl,qu];simpa using h4
 have ae6:(op==[37])=false:=by simpa using h4
 have gU:((⟨op.toArray⟩:ByteArray)==⟨#[61,61]⟩)=false:=by rw[show (⟨#[61,61]⟩:ByteArray)=⟨([61,61]:List UInt8).toArray⟩ from rfl,qu];simpa using h5
 have amF:(op==[61,61])=false:=by simpa using h5
 have tD:((⟨op.toArray⟩:ByteArray)==⟨#[33,61]⟩)=false:=by rw[show (⟨#[33,61]⟩:ByteArray)=⟨([33,61]:List UInt8).toArray⟩ from rfl,qu];simpa using h6
 have amG:(op==[33,61])=false:=by simpa using h6
 have OC:((⟨op.toArray⟩:ByteArray)==⟨#[60]⟩)=false:=by rw[show (⟨#[60]⟩:ByteArray)=⟨([60]:List UInt8).toArray⟩ from rfl,qu];simpa using h7
 have amH:(op==[60])=false:=by simpa using h7
 have amS:((⟨op.toArray⟩:ByteArray)==⟨#[60,61]⟩)=false:=by rw[show (⟨#[60,61]⟩:ByteArray)=⟨([60,61]:List UInt8).toArray⟩ from rfl,qu];simpa using h8
 have amI:(op==[60,61])=false:=by simpa using h8
 have amT:((⟨op.toArray⟩:ByteArray)==⟨#[62]⟩)=false:=by rw[show (⟨#[62]⟩:ByteArray)=⟨([62]:List UInt8).toArray⟩ from rfl,qu];simpa using dJ
 have amJ:(op==[62])=false:=by simpa using dJ
 have amN:((⟨op.toArray⟩:ByteArray)==⟨#[62,61]⟩)=false:=by rw[show (⟨#[62,61]⟩:ByteArray)=⟨([62,61]:List UInt8).toArray⟩ from rfl,qu];simpa using h10
 have amE:(op==[62,61])=false:=by simpa using h10
 clear h0 h1 h2 h3 h4 h5 h6 h7 h8 dJ h10;go_in;go_wp2;go_ret2;exact⟨rfl,rfl⟩

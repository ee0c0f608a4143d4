/- A part of what stands behind. -/
import Derived.Test.YtnicpmoanjddbaaGreatDoorFp10
import Derived.KernelRfl
set_option maxRecDepth 100000
set_option maxHeartbeats 4000000
set_option linter.all false
namespace Go.Proofs.YtnicpmoanjddbaaGreatDoor
namespace aB
open Go.Proofs.Tryz
variable {ts r:List Tok} {s:List UInt8} {d lv f:Nat} {e:aL}
def sZ (s:List UInt8):Prop:=(∃c r,s=c::r/\mI c=true)/\s.all (fun x=>mI x || ik x)=true/\DW s=false/\s.length<=12
def LS (t:Tok):Prop :=
 (t.kind=1->(∃c r,t.text=c::r/\mI c=true)/\t.text.all (fun x=>mI x || ik x)=true)/\(t.kind=1\/t.kind=2\/t.kind=3\/t.kind=4)/\(t.kind=4->t.text=[])
def Zq (ts:List Tok):Prop:=∃a,ts.getLast?=some ⟨4,[],a⟩
def fy (ts:List Tok):Prop:=(∀t∈ts,LS t)/\Zq ts
theorem fy.tail (h:fy ts) (hk:headKind ts≠4):fy ts.tail:=by
 refine⟨fun t ht=>h.1 t (List.mem_of_mem_tail ht),?_⟩;obtain⟨a,ha⟩:=h.2;cases ts with
 | nil=>simp at ha
 | cons t r =>
   cases r with
   | nil =>
     simp only[List.getLast?_singleton,Option.some.injEq]at ha;subst ha;exact absurd rfl hk
   | cons t2 r2=>exact⟨a,by simpa [List.getLast?_cons_cons] using ha⟩
theorem WR (h:cR s ts=true):headKind ts≠4:=by
 simp only[cR,Bool.and_eq_true,bne_iff_ne]at h;exact h.2
mutual
def Fit:aL->Nat->Prop
 | .num _ n,d=>d<=12/\0<=n/\n<9223372036854775808
 | .var _ s,d=>d<=12/\sZ s
 | .bin _ op l r,d=>(∃k,k<6/\op∈ky.getD k [])/\(if uI l<Cm ky 0 op then d<=12/\Fit l (d+1) else Fit l d)/\(if uI r<Cm ky 0 op+1 then d<=12/\Fit r (d+1) else Fit r d)
 | .un _ op x,d=>d<=12/\(op=[45]\/op=[33])/\(if uI x<6 then d+1<=12/\Fit x (d+2) else Fit x (d+1))
 | .call _ f args,d=>d<=12/\sZ f/\Fits args (d+1)
 | .new _ x,d=>d<=12/\Fit x (d+1)
 | .len _ x,d=>d<=12/\Fit x (d+1)
 | .item _ x i,d=>d<=12/\(if OA x then Fit x (d+1) else if uI x<6 then d<=12/\Fit x (d+1) else Fit x d)/\Fit i (d+1)
 | .input _,d=>d<=12
def Fits:List aL->Nat->Prop
 | [],_=>True
 | e::r,d=>Fit e d/\Fits r d
end
def mR (lv:Nat) (e:aL) (d:Nat):Prop:=if uI e<lv then d<=12/\Fit e (d+1) else Fit e d
mutual
theorem Fit.less:(e:aL)->(d:Nat)->Fit e (d+1)->Fit e d
 | .num _ n,d,h=>by simp only[Fit]at h ⊢;omega
 | .var _ s,d,h=>by simp only[Fit]at h ⊢;exact⟨by omega,h.2⟩
 | .bin _ op l r,d,h=>by
   simp only[Fit]at h ⊢;refine⟨h.1,?_,?_⟩
   ·have h2:=h.2.1
    split
    ·rename_i hc;rw[if_pos hc]at h2;exact⟨by omega,Fit.less l _ h2.2⟩
    ·rename_i hc;rw[if_neg hc]at h2;exact Fit.less l _ h2
   ·have h2:=h.2.2
    split
    ·rename_i hc;rw[if_pos hc]at h2;exact⟨by omega,Fit.less r _ h2.2⟩
    ·rename_i hc;rw[if_neg hc]at h2;exact Fit.less r _ h2
 | .un _ op x,d,h=>by
   simp only[Fit]at h ⊢;refine⟨by omega,h.2.1,?_⟩;have h2:=h.2.2;split
   ·rename_i hc;rw[if_pos hc]at h2;exact⟨by omega,Fit.less x _ h2.2⟩
   ·rename_i hc;rw[if_neg hc]at h2;exact Fit.less x _ h2
 | .call _ f args,d,h=>by simp only[Fit]at h ⊢;exact⟨by omega,h.2.1,Fits.less args _ h.2.2⟩
 | .new _ x,d,h=>by simp only[Fit]at h ⊢;exact⟨by omega,Fit.less x _ h.2⟩
 | .len _ x,d,h=>by simp only[Fit]at h ⊢;exact⟨by omega,Fit.less x _ h.2⟩
 | .item _ x i,d,h=>by
   simp only[Fit]at h ⊢;refine⟨by omega,?_,Fit.less i _ h.2.2⟩;have h2:=h.2.1;split
   ·rename_i hc;rw[if_pos hc]at h2;exact Fit.less x _ h2
   ·rename_i hc
    rw[if_neg hc]at h2;split
    ·rename_i hc2;rw[if_pos hc2]at h2;exact⟨by omega,Fit.less x _ h2.2⟩
    ·rename_i hc2;rw[if_neg hc2]at h2;exact Fit.less x _ h2
 | .input _,d,h=>by simp only[Fit]at h ⊢;omega
theorem Fits.less:(l:List aL)->(d:Nat)->Fits l (d+1)->Fits l d
 | [],d,h=>trivial
 | e::r,d,h=>by simp only[Fits]at h ⊢;exact⟨Fit.less e d h.1,Fits.less r d h.2⟩
end
theorem abY (hd:d<=12) (h:Fit e (d+1)):mR lv e d:=by
 unfold mR;split
 ·exact⟨hd,h⟩
 ·exact Fit.less e d h
theorem mR.down (h:mR (lv+1) e d):mR lv e d:=by
 unfold mR at h ⊢;split
 ·rw[if_pos (by omega)]at h;exact h
 ·split at h
  ·exact Fit.less e d h.2
  ·exact h
def lh (lv:Nat) (e:aL):Nat:=if uI e<lv then 2 else 0
mutual
def cnt:aL->Nat
 | .num ..=>1
 | .var ..=>1
 | .bin _ op l r=>cnt l+lh (Cm ky 0 op) l+1+cnt r+lh (Cm ky 0 op+1) r
 | .un _ _ x=>1+cnt x+lh 6 x
 | .call _ _ args=>1+2+p8 args
 | .new _ x=>3+cnt x
 | .len _ x=>3+cnt x
 | .item _ x i=>(cnt x+if OA x then 2 else lh 6 x)+2+cnt i
 | .input ..=>3
def p8:List aL->Nat
 | []=>0
 | e::r=>cnt e+(match r with|[]=>0|_::_=>1+p8 r)
end
theorem Sf:(l:List aL)->(e:aL)->p8 (l++[e])=p8 l+(if l=[] then 0 else 1)+cnt e
 | [],e=>by simp[p8]
 | [a],e=>by simp[p8];omega
 | a::b::r,e=>by
   have:=Sf (b::r) e;simp only[List.cons_append,p8]at this ⊢;simp only[List.cons_append,reduceCtorEq,if_false]at this ⊢;omega
theorem Fits.append:(l:List aL)->(e:aL)->(d:Nat)->Fits l d->Fit e d->Fits (l++[e]) d
 | [],e,d,h,he=>⟨he,trivial⟩
 | a::r,e,d,h,he=>by simp only[List.cons_append,Fits]at h ⊢;exact⟨h.1,Fits.append r e d h.2 he⟩
theorem afy {k:Nat} {op:List UInt8} (hk:k<6) (h:op∈ky.getD k []):Cm ky 0 op=k:=by
 obtain rfl|rfl|rfl|rfl|rfl|rfl:k=0\/k=1\/k=2\/k=3\/k=4\/k=5:=by omega
 all_goals
  simp only[ky,List.getD_cons_zero,List.getD_cons_succ,List.mem_cons,List.not_mem_nil,or_false]at h;rcases h with rfl|rfl|rfl|rfl <;> decide
theorem ag9 {level:Nat} (h:lf level r≠[]):lf level r∈ky.getD level []:=by
 unfold lf at h ⊢;cases hf:(ky.getD level []).find? (fun m=>cR m r) with
 | none=>rw[hf]at h;exact absurd rfl h
 | some m=>exact List.mem_of_find?_eq_some hf
def EB (e:aL) (d c:Nat):Prop:=(uI e=6/\OA e=false/\Fit e d/\c=cnt e)\/(Fit e (d+1)/\c=cnt e+2)
theorem GB (hk:fy ts) (h:nu ts=some (.ok (s,r))):sZ s/\1+r.length<=ts.length/\fy r:=by
 obtain⟨hr,hs⟩:=VT h;have hl:=nT h;unfold nu at h;split at h
 ·exact (uq h).elim
 ·rename_i h1
  split at h
  ·exact (uq h).elim
  ·rename_i h2
   simp only[Bool.or_eq_true,bne_iff_ne,ne_eq,not_or,Decidable.not_not,Bool.not_eq_true]at h1;cases ts with
   | nil=>simp[headKind]at h1
   | cons t mL =>
     have ht:=(hk.1 t List.mem_cons_self).1 h1.1;rw[hr,hs];exact⟨⟨ht.1,ht.2,h1.2,by simpa [headText] using h2⟩,by simp;omega,hk.tail (by rw[h1.1];decide)⟩
theorem nt {u:Unit} (hk:fy ts) (h:must s ts=some (.ok (u,r))):1+r.length<=ts.length/\fy r:=by
 have:=iH h;have hs:=(J9 h).2;rw[(J9 h).1]at this ⊢;exact⟨by omega,hk.tail (WR hs)⟩
structure Zv (f:Nat):Prop where
 expr:∀ {lv d ts e r},lv<=6->fy ts->jU f lv d ts=some (.ok (e,r))->mR lv e d/\cnt e+lh lv e+r.length<=ts.length/\fy r
 bin:∀ {lv d a x ts e r},lv<6->fy ts->mR lv x d->s6 f lv d a x ts=some (.ok (e,r))->mR lv e d/\cnt e+lh lv e+r.length<=cnt x+lh lv x+ts.length/\fy r
 unary:∀ {d ts e r},fy ts->rG f d ts=some (.ok (e,r))->mR 6 e d/\cnt e+lh 6 e+r.length<=ts.length/\fy r
 item:∀ {d a x c ts e r},d<=12->fy ts->EB x d c->tC f d a x ts=some (.ok (e,r))->∃c',EB e d c'/\c'+r.length<=c+ts.length/\fy r
 alone:∀ {d ts e r},d<=12->fy ts->p5 f d ts=some (.ok (e,r))->Fit e (d+1)/\cnt e+2+r.length<=ts.length/\fy r
 first:∀ {d ts e r},d<=12->fy ts->qT f d ts=some (.ok (e,r))->∃c,EB e d c/\c+r.length<=ts.length/\fy r
 args:∀ {d ts l r},d<=12->fy ts->s5 f d ts=some (.ok (l,r))->Fits l (d+1)/\2+p8 l+r.length<=ts.length/\fy r
 rest:∀ {d b l ts l' r},d<=12->fy ts->Fits l (d+1)->(b=true↔l=[])->rz f d b l ts=some (.ok (l',r))->Fits l' (d+1)/\1+p8 l'+r.length<=p8 l+ts.length/\fy r
theorem ahn (lv:Nat) (e:aL):lh lv e<=2:=by unfold lh;split <;> omega
theorem first_par {c:Nat} (hd:d<=12) (h:EB e d c):mR 6 e d/\cnt e+lh 6 e<=c:=by
 rcases h with⟨h1,h2,h3,rfl⟩|⟨h1,rfl⟩
 ·unfold mR lh
  rw[if_neg (by omega),if_neg (by omega)];exact⟨h3,Nat.le_refl _⟩
 ·exact⟨abY hd h1,by have:=ahn 6 e;omega⟩
theorem aho (e:aL):lh lv e<=lh (lv+1) e:=by unfold lh;split <;> split <;> omega
theorem pG (hk:fy ts) (h:cR s ts=true):1+ts.tail.length<=ts.length/\fy ts.tail:=⟨by have:=rA h;omega,hk.tail (WR h)⟩
theorem made:(f:Nat)->Zv f
 | 0=>⟨fun _ _ h=>by simp[jU]at h,fun _ _ _ h=>by simp[s6]at h,fun _ h=>by simp[rG]at h,fun _ _ _ h=>by simp[tC]at h,fun _ _ h=>by simp[p5]at h,fun _ _ h=>by simp[qT]at h,fun _ _ h=>by simp[s5]at h,fun _ _ _ _ h=>by simp[rz]at h⟩
 | f+1=>by
   have ih:=made f;refine⟨?_,?_,?_,?_,?_,?_,?_,?_⟩
   ·intro lv d ts e r hlv hk h
    simp only[jU]at h;split at h
    ·rename_i h6
     subst h6;exact ih.unary hk h
    ·rename_i h6
     obtain⟨x,t,h1,h2⟩:=andThen_ok h;obtain⟨a1,a2,a3⟩:=ih.expr (by omega) hk h1;obtain⟨b1,b2,b3⟩:=ih.bin (by omega) a3 a1.down h2;have:=aho (lv:=lv) x;exact⟨b1,by omega,b3⟩
   ·intro lv d a x ts e r hlv hk hx h
    simp only[s6]at h;split at h
    ·obtain⟨rfl,rfl⟩:=dN h
     exact⟨hx,Nat.le_refl _,hk⟩
    ·rename_i hop
     obtain⟨y,t,h1,h2⟩:=andThen_ok h;have hs:=(show cR (lf lv ts) ts=true from by
      unfold lf at hop ⊢;cases hf:(ky.getD lv []).find? (fun m=>cR m ts) with
      | none=>rw[hf]at hop;exact absurd rfl hop
      | some m=>exact List.find?_some (p:=fun m=>cR m ts) hf)
     obtain⟨s1,s2⟩:=pG hk hs;obtain⟨a1,a2,a3⟩:=ih.expr (by omega) s2 h1;have nj:=ag9 hop;have Ui:=afy hlv nj;have js:Fit (.bin a (lf lv ts) x y) d:=by
      simp only[Fit];rw[Ui];exact⟨⟨lv,hlv,nj⟩,hx,a1⟩
     have adK:mR lv (.bin a (lf lv ts) x y) d:=by
      unfold mR;rw[if_neg (by simp only[uI];omega)];exact js
     obtain⟨b1,b2,b3⟩:=ih.bin hlv a3 adK h2;have hc:cnt (.bin a (lf lv ts) x y)=cnt x+lh lv x+1+cnt y+lh (lv+1) y:=(by simp only[cnt];rw[Ui]);have hp:lh lv (.bin a (lf lv ts) x y)=0:=by
      unfold lh;rw[if_neg (by simp only[uI];omega)]
     exact⟨b1,by omega,b3⟩
   ·intro d ts e r hk h
    simp only[rG]at h;split at h
    ·exact (uq h).elim
    ·rename_i hd
     have un:∀ (op:List UInt8),(op=[45]\/op=[33])->cR op ts=true->∀ {x t},rG f (d+1) ts.tail=some (.ok (x,t))->fV (aL.un (iu ts) op x) t=some (.ok (e,r))->mR 6 e d/\cnt e+lh 6 e+r.length<=ts.length/\fy r:=by
      intro op hop hs x t h1 h2;obtain⟨rfl,rfl⟩:=dN h2;obtain⟨s1,s2⟩:=pG hk hs;obtain⟨a1,a2,a3⟩:=ih.unary s2 h1;refine⟨?_,?_,a3⟩
      ·unfold mR
       rw[if_neg (by simp[uI])];simp only[Fit];refine⟨by omega,hop,?_⟩;unfold mR at a1;exact a1
      ·simp only[cnt]
       unfold lh at a2 ⊢;rw[if_neg (by simp[uI]:¬uI (aL.un (iu ts) op x)<6)];omega
     split at h
     ·rename_i hs
      obtain⟨x,t,h1,h2⟩:=andThen_ok h;exact un [45] (Or.inl rfl) hs h1 h2
     ·split at h
      ·rename_i hs
       obtain⟨x,t,h1,h2⟩:=andThen_ok h;exact un [33] (Or.inr rfl) hs h1 h2
      ·obtain⟨x,t,h1,h2⟩:=andThen_ok h
       obtain⟨c,a1,a2,a3⟩:=ih.first (by omega) hk h1;obtain⟨c',b1,b2,b3⟩:=ih.item (by omega) a3 a1 h2;obtain⟨p1,p2⟩:=first_par (by omega) b1;exact⟨p1,by omega,b3⟩
   ·intro d a x c ts e r hd hk hx h
    simp only[tC]at h;split at h
    ·rename_i hs
     obtain⟨s1,s2⟩:=pG hk hs;obtain⟨i,t,h1,h2⟩:=andThen_ok h;obtain⟨u,t2,h3,h4⟩:=andThen_ok h2;obtain⟨a1,a2,a3⟩:=ih.expr (by omega) s2 h1;obtain⟨m1,m2⟩:=nt a3 h3;have hi:Fit i (d+1):=by
      unfold mR at a1;rwa [if_neg (by omega)]at a1
     have cA:lh 0 i=0:=(by unfold lh;rw[if_neg (by omega)]);obtain⟨p1,p2⟩:=first_par hd hx;have js:EB (.item a x i) d (cnt (.item a x i)):=by
      refine Or.inl ⟨rfl,rfl,?_,rfl⟩;simp only[Fit];refine⟨hd,?_,hi⟩;split
      ·rename_i hu
       rcases hx with⟨_,dJ,_⟩|⟨dJ,_⟩
       ·rw[dJ]at hu;cases hu
       ·exact dJ
      ·exact p1
     obtain⟨c',b1,b2,b3⟩:=ih.item hd m2 js h4;refine⟨c',b1,?_,b3⟩;have hc:cnt (.item a x i)<=c+2+cnt i:=by
      simp only[cnt];split
      ·rename_i hu
       rcases hx with⟨_,dJ,_⟩|⟨dJ,rfl⟩
       ·rw[dJ]at hu;cases hu
       ·omega
      ·omega
     omega
    ·obtain⟨rfl,rfl⟩:=dN h
     exact⟨c,hx,Nat.le_refl _,hk⟩
   ·intro d ts e r hd hk h
    simp only[p5]at h;obtain⟨u,t,h1,h2⟩:=andThen_ok h;obtain⟨y,t2,h3,h4⟩:=andThen_ok h2;obtain⟨qw,t3,h5,h6⟩:=andThen_ok h4;obtain⟨rfl,rfl⟩:=dN h6;obtain⟨m1,m2⟩:=nt hk h1;obtain⟨a1,a2,a3⟩:=ih.expr (by omega) m2 h3;obtain⟨n1,n2⟩:=nt a3 h5;unfold mR at a1;rw[if_neg (by omega)]at a1;exact⟨a1,by omega,n2⟩
   ·intro d ts e r hd hk h
    simp only[qT]at h;split at h
    ·rename_i S4
     split at h
     ·rename_i hn
      obtain⟨rfl,rfl⟩:=dN h;have hl:1+ts.tail.length<=ts.length:=by
          cases ts with
          | nil=>simp[headKind]at S4
          | cons t r=>simp;omega
      exact⟨1,Or.inl ⟨rfl,rfl,by simp only[Fit];omega,rfl⟩,hl,hk.tail (by rw[S4];decide)⟩
     ·exact (uq h).elim
    ·split at h
     ·obtain⟨a1,a2,a3⟩:=ih.alone hd hk h
      exact⟨cnt e+2,Or.inr ⟨a1,rfl⟩,by omega,a3⟩
     ·split at h
      ·rename_i hs
       obtain⟨s1,s2⟩:=pG hk hs;obtain⟨x,t,h1,h2⟩:=andThen_ok h;obtain⟨rfl,rfl⟩:=dN h2;obtain⟨a1,a2,a3⟩:=ih.alone hd s2 h1;exact⟨_,Or.inl ⟨rfl,rfl,by simp only[Fit];exact⟨hd,a1⟩,rfl⟩,by simp only[cnt];omega,a3⟩
      ·split at h
       ·rename_i hs
        obtain⟨s1,s2⟩:=pG hk hs;obtain⟨x,t,h1,h2⟩:=andThen_ok h;obtain⟨rfl,rfl⟩:=dN h2;obtain⟨a1,a2,a3⟩:=ih.alone hd s2 h1;exact⟨_,Or.inl ⟨rfl,rfl,by simp only[Fit];exact⟨hd,a1⟩,rfl⟩,by simp only[cnt];omega,a3⟩
       ·split at h
        ·rename_i hs
         obtain⟨s1,s2⟩:=pG hk hs;obtain⟨u,t,h1,h2⟩:=andThen_ok h;obtain⟨qw,t2,h3,h4⟩:=andThen_ok h2;obtain⟨rfl,rfl⟩:=dN h4;obtain⟨m1,m2⟩:=nt s2 h1;obtain⟨n1,n2⟩:=nt m2 h3;exact⟨3,Or.inl ⟨rfl,rfl,by simp only[Fit];exact hd,rfl⟩,by omega,n2⟩
        ·obtain⟨n,t,h1,h2⟩:=andThen_ok h
         obtain⟨m1,m2,m3⟩:=GB hk h1;split at h2
         ·obtain⟨l,t2,h3,h4⟩:=andThen_ok h2
          obtain⟨rfl,rfl⟩:=dN h4;obtain⟨a1,a2,a3⟩:=ih.args hd m3 h3;exact⟨_,Or.inl ⟨rfl,rfl,by simp only[Fit];exact⟨hd,m1,a1⟩,rfl⟩,by simp only[cnt];omega,a3⟩
         ·obtain⟨rfl,rfl⟩:=dN h2
          exact⟨1,Or.inl ⟨rfl,rfl,by simp only[Fit];exact⟨hd,m1⟩,rfl⟩,by omega,m3⟩
   ·intro d ts l r hd hk h
    simp only[s5]at h;obtain⟨u,t,h1,h2⟩:=andThen_ok h;obtain⟨m1,m2⟩:=nt hk h1;obtain⟨a1,a2,a3⟩:=ih.rest hd m2 (by simp only[Fits]) (by simp) h2;exact⟨a1,by simp only[p8]at a2;omega,a3⟩
   ·intro d b l ts l' r hd hk hl hb h
    simp only[rz]at h;split at h
    ·rename_i hs
     obtain⟨s1,s2⟩:=pG hk hs;obtain⟨rfl,rfl⟩:=dN h;exact⟨hl,by omega,s2⟩
    ·obtain⟨u,t,h1,h2⟩:=andThen_ok h
     obtain⟨y,t2,h3,h4⟩:=andThen_ok h2;have ht:(if l=[] then 0 else 1)+t.length<=ts.length/\fy t:=by
      split at h1
      ·rename_i M_
       rw[(dN h1).2,if_pos (hb.1 M_)];exact⟨by omega,hk⟩
      ·obtain⟨m1,m2⟩:=nt hk h1
       exact⟨by split <;> omega,m2⟩
     obtain⟨a1,a2,a3⟩:=ih.expr (by omega) ht.2 h3;have hy:Fit y (d+1):=by
      unfold mR at a1;rwa [if_neg (by omega)]at a1
     have amm:lh 0 y=0:=(by unfold lh;rw[if_neg (by omega)]);obtain⟨b1,b2,b3⟩:=ih.rest hd a3 (Fits.append l y (d+1) hl hy) (by simp) h4;rw[Sf]at b2;exact⟨b1,by have:=ht.1;omega,b3⟩
mutual
def eQ:St->Nat->Prop
 | .var _ s v,_=>sZ s/\Fit v 0
 | .set _ s v,_=>sZ s/\Fit v 0
 | .put _ s i v,_=>sZ s/\Fit i 1/\Fit v 0
 | .cond _ v t e,d=>Fit v 1/\d+1<=12/\lu t (d+1)/\lu e (d+1)
 | .loop _ v t,d=>Fit v 1/\d+1<=12/\lu t (d+1)
 | .ret _ v,_=>Fit v 0
 | .print _ v,_=>Fit v 0
 | .call _ v,_=>(∃a f l,v=.call a f l)/\Fit v 0
def lu:List St->Nat->Prop
 | [],_=>True
 | s::r,d=>eQ s d/\lu r d
end
mutual
def mv:St->Nat
 | .var _ s v=>4+cnt v
 | .set _ s v=>3+cnt v
 | .put _ s i v=>5+cnt i+cnt v
 | .cond _ v t e=>5+cnt v+p7 t+(if e.isEmpty then 0 else 3+p7 e)
 | .loop _ v t=>5+cnt v+p7 t
 | .ret _ v=>2+cnt v
 | .print _ v=>2+cnt v
 | .call _ v=>1+cnt v
def p7:List St->Nat
 | []=>0
 | s::r=>mv s+p7 r
end
theorem Se:(l:List St)->(s:St)->p7 (l++[s])=p7 l+mv s
 | [],s=>by simp[p7]
 | a::r,s=>by simp only[List.cons_append,p7,Se r s];omega
theorem lu.append:(l:List St)->(s:St)->(d:Nat)->lu l d->eQ s d->lu (l++[s]) d
 | [],s,d,h,hs=>⟨hs,trivial⟩
 | a::r,s,d,h,hs=>by simp only[List.cons_append,lu]at h ⊢;exact⟨h.1,lu.append r s d h.2 hs⟩
theorem Df (hk:fy ts) (h:jU f 0 d ts=some (.ok (e,r))):Fit e d/\cnt e+r.length<=ts.length/\fy r:=by
 obtain⟨a1,a2,a3⟩:=(made f).expr (by omega) hk h;unfold mR at a1;rw[if_neg (by omega)]at a1;exact⟨a1,by omega,a3⟩
structure Zw (f:Nat):Prop where
 block:∀ {d ts l r},fy ts->pk f d ts=some (.ok (l,r))->d<=12/\lu l d/\2+p7 l+r.length<=ts.length/\fy r
 stmts:∀ {d l ts l' r},fy ts->lu l d->tN f d l ts=some (.ok (l',r))->lu l' d/\1+p7 l'+r.length<=p7 l+ts.length/\fy r
 stmt:∀ {d ts s r},fy ts->uR f d ts=some (.ok (s,r))->eQ s d/\mv s+r.length<=ts.length/\fy r
 named:∀ {d ts s r},fy ts->uL f ts=some (.ok (s,r))->eQ s d/\mv s+r.length<=ts.length+1/\fy r
theorem VL:(f:Nat)->Zw f
 | 0=>⟨fun _ h=>by simp[pk]at h,fun _ _ h=>by simp[tN]at h,fun _ h=>by simp[uR]at h,fun _ h=>by simp[uL]at h⟩
 | f+1=>by
   have ih:=VL f;have e:=made f;refine⟨?_,?_,?_,?_⟩
   ·intro d ts l r hk h
    simp only[pk]at h;split at h
    ·exact (uq h).elim
    ·obtain⟨u,t,h1,h2⟩:=andThen_ok h
     obtain⟨m1,m2⟩:=nt hk h1;obtain⟨a1,a2,a3⟩:=ih.stmts (d:=d) m2 (by simp only[lu]) h2;simp only[p7]at a2;exact⟨by omega,a1,by omega,a3⟩
   ·intro d l ts l' r hk hl h
    simp only[tN]at h;split at h
    ·rename_i hs
     obtain⟨s1,s2⟩:=pG hk hs;obtain⟨rfl,rfl⟩:=dN h;exact⟨hl,by omega,s2⟩
    ·obtain⟨s,t,h1,h2⟩:=andThen_ok h
     obtain⟨a1,a2,a3⟩:=ih.stmt (d:=d) hk h1;obtain⟨b1,b2,b3⟩:=ih.stmts a3 (lu.append l s d hl a1) h2;rw[Se]at b2;exact⟨b1,by omega,b3⟩
   ·intro d ts s r hk h
    simp only[uR]at h;split at h
    ·rename_i hs
     obtain⟨s1,s2⟩:=pG hk hs;obtain⟨v,t,h1,h2⟩:=andThen_ok h;obtain⟨b,t2,h3,h4⟩:=andThen_ok h2;obtain⟨a1,a2,a3⟩:=e.alone (by omega) s2 h1;obtain⟨b0,b1,b2,b3⟩:=ih.block a3 h3;split at h4
     ·rename_i he
      obtain⟨e1,e2⟩:=pG b3 he;obtain⟨b',t3,h5,h6⟩:=andThen_ok h4;obtain⟨rfl,rfl⟩:=dN h6;obtain⟨c0,c1,c2,c3⟩:=ih.block e2 h5;refine⟨by simp only[eQ];exact⟨a1,b0,b1,c1⟩,?_,c3⟩;simp only[mv];split <;> omega
     ·obtain⟨rfl,rfl⟩:=dN h4
      refine⟨by simp only[eQ,lu];exact⟨a1,b0,b1,trivial⟩,?_,b3⟩;simp only[mv,List.isEmpty_nil,if_true];omega
    ·split at h
     ·rename_i hs
      obtain⟨s1,s2⟩:=pG hk hs;obtain⟨v,t,h1,h2⟩:=andThen_ok h;obtain⟨b,t2,h3,h4⟩:=andThen_ok h2;obtain⟨a1,a2,a3⟩:=e.alone (by omega) s2 h1;obtain⟨b0,b1,b2,b3⟩:=ih.block a3 h3;obtain⟨rfl,rfl⟩:=dN h4;exact⟨by simp only[eQ];exact⟨a1,b0,b1⟩,by simp only[mv];omega,b3⟩
     ·split at h
      ·rename_i hs
       obtain⟨s1,s2⟩:=pG hk hs;obtain⟨n,t,h1,h2⟩:=andThen_ok h;obtain⟨u,t2,h3,h4⟩:=andThen_ok h2;obtain⟨v,t3,h5,h6⟩:=andThen_ok h4;obtain⟨qw,t4,h7,h8⟩:=andThen_ok h6;obtain⟨rfl,rfl⟩:=dN h8;obtain⟨n1,n2,n3⟩:=GB s2 h1;obtain⟨m1,m2⟩:=nt n3 h3;obtain⟨a1,a2,a3⟩:=Df m2 h5;obtain⟨p1,p2⟩:=nt a3 h7;exact⟨by simp only[eQ];exact⟨n1,a1⟩,by simp only[mv];omega,p2⟩
      ·split at h
       ·rename_i hs
        obtain⟨s1,s2⟩:=pG hk hs;obtain⟨v,t,h1,h2⟩:=andThen_ok h;obtain⟨u,t2,h3,h4⟩:=andThen_ok h2;obtain⟨rfl,rfl⟩:=dN h4;obtain⟨a1,a2,a3⟩:=Df s2 h1;obtain⟨p1,p2⟩:=nt a3 h3;exact⟨by simp only[eQ];exact a1,by simp only[mv];omega,p2⟩
       ·split at h
        ·rename_i hs
         obtain⟨s1,s2⟩:=pG hk hs;obtain⟨v,t,h1,h2⟩:=andThen_ok h;obtain⟨u,t2,h3,h4⟩:=andThen_ok h2;obtain⟨rfl,rfl⟩:=dN h4;obtain⟨a1,a2,a3⟩:=Df s2 h1;obtain⟨p1,p2⟩:=nt a3 h3;exact⟨by simp only[eQ];exact a1,by simp only[mv];omega,p2⟩
        ·obtain⟨v,t,h1,h2⟩:=andThen_ok h
         obtain⟨u,t2,h3,h4⟩:=andThen_ok h2;obtain⟨rfl,rfl⟩:=dN h4;obtain⟨a1,a2,a3⟩:=ih.named (d:=d) hk h1;obtain⟨p1,p2⟩:=nt a3 h3;exact⟨a1,by omega,p2⟩
   ·intro d ts s r hk h
    simp only[uL]at h;obtain⟨n,t,h1,h2⟩:=andThen_ok h;obtain⟨n1,n2,n3⟩:=GB hk h1;split at h2
    ·obtain⟨l,t2,h3,h4⟩:=andThen_ok h2
     obtain⟨rfl,rfl⟩:=dN h4;obtain⟨a1,a2,a3⟩:=e.args (by omega) n3 h3;exact⟨by simp only[eQ,Fit];exact⟨⟨_,_,_,rfl⟩,by omega,n1,a1⟩,by simp only[mv,cnt];omega,a3⟩
    ·split at h2
     ·rename_i hs
      obtain⟨s1,s2⟩:=pG n3 hs;obtain⟨i,t2,h3,h4⟩:=andThen_ok h2;obtain⟨u,t3,h5,h6⟩:=andThen_ok h4;obtain⟨qw,t4,h7,h8⟩:=andThen_ok h6;obtain⟨v,t5,dJ,h10⟩:=andThen_ok h8;obtain⟨rfl,rfl⟩:=dN h10;obtain⟨a1,a2,a3⟩:=Df s2 h3;obtain⟨m1,m2⟩:=nt a3 h5;obtain⟨k1,k2⟩:=nt m2 h7;obtain⟨b1,b2,b3⟩:=Df k2 dJ;exact⟨by simp only[eQ];exact⟨n1,a1,b1⟩,by simp only[mv];omega,b3⟩
     ·obtain⟨u,t2,h3,h4⟩:=andThen_ok h2
      obtain⟨v,t3,h5,h6⟩:=andThen_ok h4;obtain⟨rfl,rfl⟩:=dN h6;obtain⟨m1,m2⟩:=nt n3 h3;obtain⟨a1,a2,a3⟩:=Df m2 h5;exact⟨by simp only[eQ];exact⟨n1,a1⟩,by simp only[mv];omega,a3⟩
def AQ (x:Fn):Prop:=sZ x.name/\(∀p∈x.params,sZ p.1/\(p.2=1\/p.2=2))/\lu x.body 0
def pq:List (List UInt8×Int)->Nat
 | []=>0
 | _::r=>3+(match r with|[]=>0|_::_=>1+pq r)
theorem L6:(l:List (List UInt8×Int))->(p:List UInt8×Int)->pq (l++[p])=pq l+(if l=[] then 0 else 1)+3
 | [],p=>by simp[pq]
 | [a],p=>by simp[pq]
 | a::b::r,p=>by
   have:=L6 (b::r) p;simp only[List.cons_append,pq,reduceCtorEq,if_false]at this ⊢;omega
def xd (x:Fn):Nat:=6+pq x.params+p7 x.body
def p6:List Fn->Nat
 | []=>0
 | x::r=>xd x+p6 r
theorem Sa:(l:List Fn)->(x:Fn)->p6 (l++[x])=p6 l+xd x
 | [],x=>by simp[p6]
 | a::r,x=>by simp only[List.cons_append,p6,Sa r x];omega
theorem Pf:(f:Nat)->(b:Bool)->(l:List (List UInt8×Int))->(ts:List Tok)->{l':List (List UInt8×Int)}->{r:List Tok}->fy ts->(∀p∈l,sZ p.1/\(p.2=1\/p.2=2))->(b=true↔l=[])->mK f b l ts=some (.ok (l',r))->(∀p∈l',sZ p.1/\(p.2=1\/p.2=2))/\1+pq l'+r.length<=pq l+ts.length/\fy r
 | 0,_,_,_,l',r,_,_,_,h=>by simp[mK]at h
 | f+1,b,l,ts,l',r,hk,hl,hb,h=>by
   simp only[mK]at h;split at h
   ·rename_i hs
    obtain⟨s1,s2⟩:=pG hk hs;obtain⟨rfl,rfl⟩:=dN h;exact⟨hl,by omega,s2⟩
   ·obtain⟨u,t,h1,h2⟩:=andThen_ok h
    have ht:(if l=[] then 0 else 1)+t.length<=ts.length/\fy t:=by
     split at h1
     ·rename_i M_
      rw[(dN h1).2,if_pos (hb.1 M_)];exact⟨by omega,hk⟩
     ·obtain⟨m1,m2⟩:=nt hk h1
      exact⟨by split <;> omega,m2⟩
    obtain⟨n,t2,h3,h4⟩:=andThen_ok h2;obtain⟨qw,t3,h5,h6⟩:=andThen_ok h4;obtain⟨n1,n2,n3⟩:=GB ht.2 h3;obtain⟨m1,m2⟩:=nt n3 h5;have app:∀ (t:Int),(t=1\/t=2)->∀p∈l++[(n,t)],sZ p.1/\(p.2=1\/p.2=2):=by
     intro t ht p hp;rw[List.mem_append,List.mem_singleton]at hp;rcases hp with hp|rfl
     ·exact hl p hp
     ·exact⟨n1,ht⟩
    split at h6
    ·rename_i hs
     obtain⟨s1,s2⟩:=pG m2 hs;obtain⟨b1,b2,b3⟩:=Pf f false _ _ s2 (app 2 (Or.inr rfl)) (by simp) h6;rw[L6]at b2;exact⟨b1,by have:=ht.1;omega,b3⟩
    ·obtain⟨KM,t4,h7,h8⟩:=andThen_ok h6
     obtain⟨k1,k2⟩:=nt m2 h7;obtain⟨b1,b2,b3⟩:=Pf f false _ _ k2 (app 1 (Or.inl rfl)) (by simp) h8;rw[L6]at b2;exact⟨b1,by have:=ht.1;omega,b3⟩
theorem acx {x:Fn} (hk:fy ts) (h:uu f ts=some (.ok (x,r))):AQ x/\xd x+r.length<=ts.length/\fy r:=by
 cases f with
 | zero=>simp[uu]at h
 | succ f =>
   simp only[uu]at h;obtain⟨u,t,h1,h2⟩:=andThen_ok h;obtain⟨n,t2,h3,h4⟩:=andThen_ok h2;obtain⟨qw,t3,h5,h6⟩:=andThen_ok h4;obtain⟨ps,t4,h7,h8⟩:=andThen_ok h6;obtain⟨b,t5,dJ,h10⟩:=andThen_ok h8;obtain⟨rfl,rfl⟩:=dN h10;obtain⟨m1,m2⟩:=nt hk h1;obtain⟨n1,n2,n3⟩:=GB m2 h3;obtain⟨k1,k2⟩:=nt n3 h5;obtain⟨p1,p2,ahi⟩:=Pf f true [] t3 k2 (fun _ h=>nomatch h) (by simp) h7;obtain⟨b0,b1,b2,b3⟩:=(VL f).block ahi dJ;simp only[pq]at p2;exact⟨⟨n1,p1,b1⟩,by simp only[xd];omega,b3⟩
theorem Pk:(f:Nat)->(l:List Fn)->(ts:List Tok)->{l':List Fn}->{r:List Tok}->fy ts->(∀x∈l,AQ x)->l.length<=12->uN f l ts=some (.ok (l',r))->(∀x∈l',AQ x)/\l'.length<=12/\p6 l'+r.length<=p6 l+ts.length/\headKind r=4/\fy r
 | 0,_,_,l',r,_,_,_,h=>by simp[uN]at h
 | f+1,l,ts,l',r,hk,hl,fM,h=>by
   simp only[uN]at h;split at h
   ·rename_i h4
    obtain⟨rfl,rfl⟩:=dN h;exact⟨hl,fM,Nat.le_refl _,h4,hk⟩
   ·split at h
    ·exact (uq h).elim
    ·rename_i hn
     obtain⟨x,t,h1,h2⟩:=andThen_ok h;obtain⟨a1,a2,a3⟩:=acx hk h1;obtain⟨b1,b2,b3,b4⟩:=Pk f _ _ a3 (fun y hy=>by
      rw[List.mem_append,List.mem_singleton]at hy;rcases hy with hy|rfl
      ·exact hl y hy
      ·exact a1) (by simp;omega) h2
     rw[Sa]at b3;exact⟨b1,b2,by omega,b4⟩
def key (t:Tok):Int×List UInt8:=(t.kind,t.text)
def par (k:List (Int×List UInt8)):List (Int×List UInt8):=(3,[40])::k++[(3,[41])]
section eqs
variable {g d:Nat} {t:Tok} {R:List Tok}
end eqs
end aB
namespace aB
open Go.Proofs.Tryz
section eqs
variable {g d:Nat} {t:Tok} {R:List Tok}
end eqs
section eqs
variable {g:Nat} {t:Tok} {R:List Tok}
end eqs
end aB
namespace aB
open Go.Proofs.Tryz
section parts
variable {l m:List UInt8} {ks:List (Int×List UInt8)}
end parts
end aB
namespace aB
open Go.Proofs.Tryz
variable {α:Type} {ts:List Tok} {s:List UInt8} {l:List Fn}
theorem Mg (p:UInt8->Bool):(l:List UInt8)->(l.dropWhile p).length<=l.length
 | []=>Nat.le_refl _
 | c::r=>by
   rw[List.dropWhile_cons];split
   ·exact Nat.le_trans (Mg p r) (by simp)
   ·exact Nat.le_refl _
theorem J6:(f:Nat)->(l:List UInt8)->(p n:Nat)->l.length<f->kS f l p n≠none
 | 0,l,p,n,h=>by omega
 | f+1,[],p,n,h=>by simp[kS]
 | f+1,c::r,p,n,h=>by
   simp only[List.length_cons]at h;simp only[kS];split
   ·exact J6 f r _ _ (by omega)
   ·split
    ·rename_i hb hc
     have:((c::r).dropWhile fun x=>x.toNat != 10)=(r.dropWhile fun x=>x.toNat != 10):=by
      rw[List.dropWhile_cons,if_pos];rw[beq_iff_eq]at hc;simp[hc]
     rw[this];exact J6 f _ _ _ (Nat.lt_of_le_of_lt (Mg _ r) (by omega))
    ·split
     ·simp
     ·split
      ·simp
      ·rename_i h0 hn
       have:=J6 f ((c::r).drop (kA (c::r)).2) (p+(kA (c::r)).2) (n+1) (by simp;omega);split
       ·simp
       ·assumption
theorem agT {c:UInt8} {r:List UInt8} (h0:¬(kA (c::r)).2=0) (p:Nat):LS ⟨(kA (c::r)).1,(c::r).take (kA (c::r)).2,p⟩:=by
 unfold LS;simp only;by_cases h1:mI c=true
 ·have hn:kA (c::r)=(1,((c::r).takeWhile fun x=>mI x || ik x).length):=by simp only[kA];rw[if_pos h1]
  have ht:(c::r).take ((c::r).takeWhile fun x=>mI x || ik x).length=(c::r).takeWhile fun x=>mI x || ik x:=by
   have h2:=List.takeWhile_append_dropWhile (p:=fun x=>mI x || ik x) (l:=c::r)
   conv=>lhs;arg 2;rw[<-h2]
   exact List.take_left' rfl
  rw[hn];simp only;rw[ht];refine⟨fun _=>⟨⟨c,r.takeWhile fun x=>mI x || ik x,?_,h1⟩,?_⟩,Or.inl trivial,fun h=>by omega⟩
  ·rw[List.takeWhile_cons,if_pos (by rw[h1];rfl)]
  ·exact List.all_takeWhile
 ·by_cases h2:ik c=true
  ·have hn:kA (c::r)=(2,((c::r).takeWhile ik).length):=by simp only[kA];rw[if_neg h1,if_pos h2]
   rw[hn];exact⟨fun h=>by omega,Or.inr (Or.inl rfl),fun h=>by omega⟩
  ·have hn:(kA (c::r)).1=3:=by
        simp only[kA];rw[if_neg h1,if_neg h2];split <;> rfl
   rw[hn];exact⟨fun h=>by omega,Or.inr (Or.inr (Or.inl rfl)),fun h=>by omega⟩
theorem Gv:(f:Nat)->(l:List UInt8)->(p n:Nat)->(ts:List Tok)->n<=1500->kS f l p n=some (.ok ts)->fy ts/\ts.length+n<=1501
 | 0,l,p,n,ts,hn,h=>by simp[kS]at h
 | f+1,[],p,n,ts,hn,h=>by
   simp only[kS,Option.some.injEq,Except.ok.injEq]at h;subst h;refine⟨⟨fun t ht=>?_,⟨_,rfl⟩⟩,by simp;omega⟩;rw[List.mem_singleton]at ht;subst ht;exact⟨fun h=>by simp at h,Or.inr (Or.inr (Or.inr rfl)),fun _=>rfl⟩
 | f+1,c::r,p,n,ts,hn,h=>by
   simp only[kS]at h;split at h
   ·exact Gv f _ _ _ ts hn h
   ·split at h
    ·exact Gv f _ _ _ ts hn h
    ·split at h
     ·simp at h
     ·rename_i h0
      split at h
      ·simp at h
      ·rename_i nd
       split at h
       ·rename_i t ht
        simp only[Option.some.injEq,Except.ok.injEq]at h;subst h;obtain⟨⟨a1,a2⟩,a3⟩:=Gv f _ _ _ t (by omega) ht;refine⟨⟨fun u hu=>?_,?_⟩,by simp only[List.length_cons];omega⟩
        ·rw[List.mem_cons]at hu
         rcases hu with rfl|hu
         ·exact agT h0 p
         ·exact a1 u hu
        ·obtain⟨a,ha⟩:=a2
         refine⟨a,?_⟩;cases t with
         | nil=>simp at ha
         | cons u q=>rw[List.getLast?_cons_cons];exact ha
       ·rename_i hx
        exact absurd h (hx ts)
structure ZG (f:Nat):Prop where
 expr:∀ {lv d ts},lv<=6->12*ts.length+10-lv<=f->jU f lv d ts≠none
 bin:∀ {lv d a x ts},lv<6->12*ts.length+1<=f->s6 f lv d a x ts≠none
 unary:∀ {d ts},12*ts.length+3<=f->rG f d ts≠none
 item:∀ {d a x ts},12*ts.length+1<=f->tC f d a x ts≠none
 alone:∀ {d ts},12*ts.length+1<=f->p5 f d ts≠none
 first:∀ {d ts},12*ts.length+2<=f->qT f d ts≠none
 args:∀ {d ts},12*ts.length+1<=f->s5 f d ts≠none
 rest:∀ {d b l ts},12*ts.length+11<=f->rz f d b l ts≠none
theorem eE {β:Type} {x:gm α} {k:α->List Tok->gm β} (h:x≠none) (hk:∀a r,x=some (.ok (a,r))->k a r≠none):andThen x k≠none:=by
 unfold andThen;split
 ·exact hk _ _ rfl
 ·simp
 ·exact absurd rfl h
theorem nS (s:List UInt8) (ts:List Tok):must s ts≠none:=by
 unfold must;split <;> simp[fV,oQ]
theorem GD (ts:List Tok):nu ts≠none:=by
 unfold nu;split
 ·simp[oQ]
 ·split <;> simp[fV,oQ]
theorem kB (a:α) (ts:List Tok):fV a ts≠none:=by simp[fV]
theorem Ip (n:Int) (ts:List Tok):(oQ n ts:gm α)≠none:=by simp[oQ]
theorem ahc {lv:Nat} (h:¬lf lv ts=[]):ts.tail.length<ts.length:=by
 refine rA (s:=lf lv ts) ?_;unfold lf at h ⊢;cases hf:(ky.getD lv []).find? (fun m=>cR m ts) with
 | none=>rw[hf]at h;exact absurd rfl h
 | some m=>exact List.find?_some (p:=fun m=>cR m ts) hf
theorem runs:(f:Nat)->ZG f
 | 0=>⟨fun _ h=>by omega,fun _ h=>by omega,fun h=>by omega,fun h=>by omega,fun h=>by omega,fun h=>by omega,fun h=>by omega,fun h=>by omega⟩
 | f+1=>by
   have ih:=runs f;have L:=lens f;refine⟨?_,?_,?_,?_,?_,?_,?_,?_⟩
   ·intro lv d ts hl h
    simp only[jU];split
    ·exact ih.unary (by omega)
    ·refine eE (ih.expr (by omega) (by omega)) fun x r hx=>ih.bin (by omega) ?_
     have:=L.expr hx;omega
   ·intro lv d a x ts hl h
    simp only[s6];split
    ·exact kB _ _
    ·rename_i ho
     have:=ahc ho;refine eE (ih.expr (by omega) (by omega)) fun x r hx=>ih.bin hl ?_
     have:=L.expr hx;omega
   ·intro d ts h
    simp only[rG];split
    ·exact Ip _ _
    ·split
     ·rename_i hs
      have:=rA hs;exact eE (ih.unary (by omega)) fun x r hx=>kB _ _
     ·split
      ·rename_i hs
       have:=rA hs;exact eE (ih.unary (by omega)) fun x r hx=>kB _ _
      ·refine eE (ih.first (by omega)) fun x r hx=>ih.item ?_
       have:=L.first hx;omega
   ·intro d a x ts h
    simp only[tC];split
    ·rename_i hs
     have:=rA hs;refine eE (ih.expr (by omega) (by omega)) fun x r hx=>eE (nS _ _) fun u r2 hu=>ih.item ?_
     have:=L.expr hx;have:=iH hu;omega
    ·exact kB _ _
   ·intro d ts h
    simp only[p5];refine eE (nS _ _) fun u r hu=>eE (ih.expr (by omega) ?_) fun x r2 hx=>eE (nS _ _) fun _ _ _=>kB _ _
    have:=iH hu;omega
   ·intro d ts h
    simp only[qT];split
    ·split
     ·exact kB _ _
     ·exact Ip _ _
    ·split
     ·exact ih.alone (by omega)
     ·split
      ·rename_i hs
       have:=rA hs;exact eE (ih.alone (by omega)) fun x r hx=>kB _ _
      ·split
       ·rename_i hs
        have:=rA hs;exact eE (ih.alone (by omega)) fun x r hx=>kB _ _
       ·split
        ·exact eE (nS _ _) fun u r hu=>eE (nS _ _) fun _ _ _=>kB _ _
        ·refine eE (GD _) fun n r hn=>?_
         have:=nT hn;split
         ·exact eE (ih.args (by omega)) fun _ _ _=>kB _ _
         ·exact kB _ _
   ·intro d ts h
    simp only[s5];refine eE (nS _ _) fun u r hu=>ih.rest ?_
    have:=iH hu;omega
   ·intro d b l ts h
    simp only[rz];split
    ·exact kB _ _
    ·refine eE (by split;exact kB _ _;exact nS _ _) fun u r hu=>?_
     have hr:r.length<=ts.length:=by
      split at hu
      ·rw[(dN hu).2];exact Nat.le_refl _
      ·exact Nat.le_of_lt (iH hu)
     refine eE (ih.expr (by omega) (by omega)) fun x r2 hx=>ih.rest ?_
     have:=L.expr hx;omega
structure ZH (f:Nat):Prop where
 block:∀ {d ts},12*ts.length+1<=f->pk f d ts≠none
 stmts:∀ {d l ts},12*ts.length+3<=f->tN f d l ts≠none
 stmt:∀ {d ts},12*ts.length+2<=f->uR f d ts≠none
 named:∀ {ts},12*ts.length+1<=f->uL f ts≠none
theorem WO:(f:Nat)->ZH f
 | 0=>⟨fun h=>by omega,fun h=>by omega,fun h=>by omega,fun h=>by omega⟩
 | f+1=>by
   have ih:=WO f;have e:=runs f;have L:=lens f;have S:=G3 f;refine⟨?_,?_,?_,?_⟩
   ·intro d ts h
    simp only[pk];split
    ·exact Ip _ _
    ·refine eE (nS _ _) fun u r hu=>ih.stmts ?_
     have:=iH hu;omega
   ·intro d l ts h
    simp only[tN];split
    ·exact kB _ _
    ·refine eE (ih.stmt (by omega)) fun x r hx=>ih.stmts ?_
     have:=S.stmt hx;omega
   ·intro d ts h
    simp only[uR];have semi:∀ {α:Type} (mk:aL->α) {s:List UInt8},cR s ts=true->(andThen (jU f 0 0 ts.tail) fun v r=>andThen (must [59] r) fun _ r2=>fV (mk v) r2)≠none:=by
     intro α mk s hs;have:=rA hs;exact eE (e.expr (by omega) (by omega)) fun v r hv=>eE (nS _ _) fun _ _ _=>kB _ _
    split
    ·rename_i hs
     have:=rA hs;refine eE (e.alone (by omega)) fun v r hv=>?_
     have:=L.alone hv;refine eE (ih.block (by omega)) fun t r2 ht=>?_
     have:=S.block ht;split
     ·rename_i hs2
      have:=rA hs2;exact eE (ih.block (by omega)) fun _ _ _=>kB _ _
     ·exact kB _ _
    ·split
     ·rename_i hs
      have:=rA hs;refine eE (e.alone (by omega)) fun v r hv=>?_
      have:=L.alone hv;exact eE (ih.block (by omega)) fun _ _ _=>kB _ _
     ·split
      ·rename_i hs
       have:=rA hs;refine eE (GD _) fun n r hn=>eE (nS _ _) fun u r2 hu=>?_
       have:=nT hn;have:=iH hu;exact eE (e.expr (by omega) (by omega)) fun v r hv=>eE (nS _ _) fun _ _ _=>kB _ _
      ·split
       ·rename_i hs
        exact semi _ hs
       ·split
        ·rename_i hs
         exact semi _ hs
        ·exact eE (ih.named (by omega)) fun _ _ _=>eE (nS _ _) fun _ _ _=>kB _ _
   ·intro ts h
    simp only[uL];refine eE (GD _) fun n r hn=>?_
    have:=nT hn;split
    ·exact eE (e.args (by omega)) fun _ _ _=>kB _ _
    ·split
     ·rename_i hs
      have:=rA hs;refine eE (e.expr (by omega) (by omega)) fun i r2 hi=>eE (nS _ _) fun u r3 hu=>eE (nS _ _) fun qw eY B_=>?_
      have:=L.expr hi;have:=iH hu;have:=iH B_;exact eE (e.expr (by omega) (by omega)) fun _ _ _=>kB _ _
     ·refine eE (nS _ _) fun u r2 hu=>?_
      have:=iH hu;exact eE (e.expr (by omega) (by omega)) fun _ _ _=>kB _ _
theorem Pg:(f:Nat)->(b:Bool)->(l:List (List UInt8×Int))->(ts:List Tok)->ts.length<f->mK f b l ts≠none
 | 0,_,_,_,h=>by omega
 | f+1,b,l,ts,h=>by
   simp only[mK];split
   ·exact kB _ _
   ·refine eE (by split;exact kB _ _;exact nS _ _) fun u r hu=>?_
    have hr:r.length<=ts.length:=by
     split at hu
     ·rw[(dN hu).2];exact Nat.le_refl _
     ·exact Nat.le_of_lt (iH hu)
    refine eE (GD _) fun n r2 hn=>eE (nS _ _) fun qw r3 B_=>?_
    have:=nT hn;have:=iH B_;split
    ·exact Pg f _ _ _ (by have:=rC r3;omega)
    ·refine eE (nS _ _) fun u4 eY aex=>Pg f _ _ _ ?_
     have:=iH aex;omega
theorem acz {f:Nat} (h:12*ts.length+1<=f):uu f ts≠none:=by
 cases f with
 | zero=>omega
 | succ f =>
   simp only[uu];refine eE (nS _ _) fun u r hu=>eE (GD _) fun n r2 hn=>eE (nS _ _) fun KM r3 aew=>?_
   have:=iH hu;have:=nT hn;have:=iH aew;refine eE (Pg _ _ _ _ (by omega)) fun ps eY hp=>?_
   have:=Kn _ _ _ _ hp;exact eE ((WO f).block (by omega)) fun _ _ _=>kB _ _
theorem Ws:(f:Nat)->(l:List Fn)->(ts:List Tok)->12*ts.length+2<=f->uN f l ts≠none
 | 0,_,_,h=>by omega
 | f+1,l,ts,h=>by
   simp only[uN];split
   ·exact kB _ _
   ·split
    ·exact Ip _ _
    ·refine eE (acz (by omega)) fun x r hx=>Ws f _ _ ?_
     have:=SU hx;omega
def zB (s:List UInt8) (x:Except (Int×Int) (List Fn)):Prop:=(∃f n a,kS f s 0 0=some (.error (n,a))/\x=.error (n,a))\/(∃f qU ts y,kS f s 0 0=some (.ok ts)/\uN qU [] ts=some y/\x=Sq y)
theorem ahZ (s:List UInt8):∃x,zB s x:=by
 have h1:=J6 (s.length+1) s 0 0 (by omega);cases hx:kS (s.length+1) s 0 0 with
 | none=>exact absurd hx h1
 | some y =>
   cases y with
   | error e=>exact⟨_,Or.inl ⟨_,e.1,e.2,hx,rfl⟩⟩
   | ok ts =>
     have h2:=Ws (12*ts.length+2) [] ts (Nat.le_refl _);cases hy:uN (12*ts.length+2) [] ts with
     | none=>exact absurd hy h2
     | some y=>exact⟨_,Or.inr ⟨_,_,ts,y,hx,hy,rfl⟩⟩
structure Prog (l:List Fn):Prop where
 fit:∀x∈l,AQ x
 few:l.length<=12
 cnt:p6 l<=1500
theorem Pn (h:zB s (.ok l)):Prog l:=by
 rcases h with⟨f,n,a,h1,h2⟩|⟨f,qU,ts,y,h1,h2,h3⟩
 ·cases h2
 ·cases y with
  | error e=>cases h3
  | ok p =>
    obtain⟨l',r⟩:=p;cases h3;obtain⟨a1,a2⟩:=Gv f s 0 0 ts (by omega) h1;obtain⟨b1,b2,b3,b4,oO⟩:=Pk qU [] ts a1 (fun _ h=>nomatch h) (by simp) h2;refine⟨b1,b2,?_⟩;have hr:1<=r.length:=by
        obtain⟨a,ha⟩:=oO.2;cases r with
        | nil=>simp at ha
        | cons _ _=>simp
    simp only[p6]at b3;omega
theorem J5:(f:Nat)->(l:List UInt8)->(p n:Nat)->(ts:List Tok)->kS f l p n=some (.ok ts)->ts.length<=l.length+1
 | 0,l,p,n,ts,h=>by simp[kS]at h
 | f+1,[],p,n,ts,h=>by
   simp only[kS,Option.some.injEq,Except.ok.injEq]at h;subst h;simp
 | f+1,c::r,p,n,ts,h=>by
   simp only[kS]at h;split at h
   ·have:=J5 f _ _ _ ts h
    simp only[List.length_cons];omega
   ·split at h
    ·have:=J5 f _ _ _ ts h
     have h2:=Mg (fun x=>x.toNat != 10) (c::r);omega
    ·split at h
     ·simp at h
     ·rename_i h0
      split at h
      ·simp at h
      ·rename_i nd
       split at h
       ·rename_i t ht
        simp only[Option.some.injEq,Except.ok.injEq]at h;subst h;have:=J5 f _ _ _ t ht;simp only[List.length_drop,List.length_cons]at this ⊢;omega
       ·rename_i hx
        exact absurd h (hx ts)
theorem ah0 (h:zB s (.ok l)):p6 l<=s.length:=by
 rcases h with⟨f,n,a,h1,h2⟩|⟨f,qU,ts,y,h1,h2,h3⟩
 ·cases h2
 ·cases y with
  | error e=>cases h3
  | ok p =>
    obtain⟨l',r⟩:=p;cases h3;obtain⟨a1,a2⟩:=Gv f s 0 0 ts (by omega) h1;have a3:=J5 f s 0 0 ts h1;obtain⟨b1,b2,b3,b4,oO⟩:=Pk qU [] ts a1 (fun _ h=>nomatch h) (by simp) h2;have hr:1<=r.length:=by
        obtain⟨a,ha⟩:=oO.2;cases r with
        | nil=>simp at ha
        | cons _ _=>simp
    simp only[p6]at b3;omega
end aB
namespace aB
open Go.RowKit Go.Proofs.Tryz
variable {L:List Fn}
theorem Co {s:List UInt8} (h:sZ s):s.length<=10000000:=by have:=h.2.2.2;omega
def EA (L:List Fn):Prop:=∀g fn,il L g=some fn->fn.params.length<=1000000
mutual
theorem qV (dZ:EA L) (N:Nm):(e:aL)->(d:Nat)->(t:Int)->Fit e d->dI L N e=.ok t->gX L e
 | .num _ n,d,t,hf,hk=>trivial
 | .var _ s,d,t,hf,hk=>by simp only[Fit]at hf;exact Co hf.2
 | .bin _ op l r,d,t,hf,hk=>by
   simp only[Fit]at hf;simp only[dI]at hk;obtain⟨t1,k1,hk⟩:=gq hk;obtain⟨_,_,hk⟩:=gq hk;obtain⟨t2,k2,hk⟩:=gq hk;refine⟨?_,?_⟩
   ·have h2:=hf.2.1
    split at h2
    ·exact qV dZ N l _ _ h2.2 k1
    ·exact qV dZ N l _ _ h2 k1
   ·have h2:=hf.2.2
    split at h2
    ·exact qV dZ N r _ _ h2.2 k2
    ·exact qV dZ N r _ _ h2 k2
 | .un _ op x,d,t,hf,hk=>by
   simp only[Fit]at hf;simp only[dI]at hk;obtain⟨t1,k1,hk⟩:=gq hk;simp only[gX];have h2:=hf.2.2;split at h2
   ·exact qV dZ N x _ _ h2.2 k1
   ·exact qV dZ N x _ _ h2 k1
 | .call _ f args,d,t,hf,hk=>by
   simp only[Fit]at hf;simp only[dI]at hk;cases hfn:il L f with
   | none=>rw[hfn]at hk;cases hk
   | some g =>
     rw[hfn]at hk;simp only at hk;split at hk
     ·rename_i hl
      obtain⟨_,k1,hk⟩:=gq hk;have:=dZ f g hfn;exact⟨Co hf.2.1,by omega,⟨g,hfn,hl⟩,S0 dZ N args _ _ hf.2.2 (by simp[hl]) k1⟩
     ·cases hk
 | .new _ x,d,t,hf,hk=>by
   simp only[Fit]at hf;simp only[dI]at hk;obtain⟨t1,k1,hk⟩:=gq hk;exact qV dZ N x _ _ hf.2 k1
 | .len _ x,d,t,hf,hk=>by
   simp only[Fit]at hf;simp only[dI]at hk;obtain⟨t1,k1,hk⟩:=gq hk;exact qV dZ N x _ _ hf.2 k1
 | .item _ x i,d,t,hf,hk=>by
   simp only[Fit]at hf;simp only[dI]at hk;obtain⟨t1,k1,hk⟩:=gq hk;obtain⟨_,_,hk⟩:=gq hk;obtain⟨t2,k2,hk⟩:=gq hk;refine⟨?_,qV dZ N i _ _ hf.2.2 k2⟩;have h2:=hf.2.1;split at h2
   ·exact qV dZ N x _ _ h2 k1
   ·split at h2
    ·exact qV dZ N x _ _ h2.2 k1
    ·exact qV dZ N x _ _ h2 k1
 | .input _,d,t,hf,hk=>trivial
theorem S0 (dZ:EA L) (N:Nm):(l:List aL)->(d:Nat)->(ks:List Int)->Fits l d->l.length=ks.length->od L N l ks=.ok ()->CL L l
 | [],d,ks,hf,hl,hk=>trivial
 | e::r,d,[],hf,hl,hk=>by simp at hl
 | e::r,d,k::ks,hf,hl,hk=>by
   simp only[Fits]at hf;simp only[od]at hk;obtain⟨t1,k1,hk⟩:=gq hk;obtain⟨_,_,hk⟩:=gq hk;exact⟨qV dZ N e _ _ hf.1 k1,S0 dZ N r _ _ hf.2 (by simpa using hl) hk⟩
end
theorem zM (dZ:EA L) {N:Nm} {e:aL} {d:Nat} {k:Int} {u:Unit} (hf:Fit e d) (h:ia L N e k=.ok u):gX L e:=by
 unfold ia at h;obtain⟨t,h1,_⟩:=gq h;exact qV dZ N e d t hf h1
mutual
theorem acJ (dZ:EA L):(x:St)->(N:Nm)->(m d:Nat)->(y:Nm×Nat)->eQ x d->eN L N m x=.ok y->nC L x
 | .var _ s v,N,m,d,y,hf,hk=>by
   simp only[eQ]at hf;simp only[eN]at hk;obtain⟨t,h1,_⟩:=gq hk;exact⟨Co hf.1,qV dZ N v _ _ hf.2 h1⟩
 | .set _ s v,N,m,d,y,hf,hk=>by
   simp only[eQ]at hf;simp only[eN]at hk;split at hk
   ·cases hk
   ·obtain⟨t,h1,_⟩:=gq hk
    exact⟨Co hf.1,zM dZ hf.2 h1⟩
 | .put _ s i v,N,m,d,y,hf,hk=>by
   simp only[eQ]at hf;simp only[eN]at hk;split at hk
   ·cases hk
   ·split at hk
    ·cases hk
    ·obtain⟨t,h1,hk⟩:=gq hk
     obtain⟨t2,h2,hk⟩:=gq hk;exact⟨Co hf.1,zM dZ hf.2.1 h1,zM dZ hf.2.2 h2⟩
 | .cond _ v t e,N,m,d,y,hf,hk=>by
   simp only[eQ]at hf;simp only[eN]at hk;obtain⟨_,h1,hk⟩:=gq hk;obtain⟨_,h2,hk⟩:=gq hk;obtain⟨_,h3,hk⟩:=gq hk;exact⟨zM dZ hf.1 h1,Fx dZ t _ _ _ _ hf.2.2.1 h2,Fx dZ e _ _ _ _ hf.2.2.2 h3⟩
 | .loop _ v t,N,m,d,y,hf,hk=>by
   simp only[eQ]at hf;simp only[eN]at hk;obtain⟨_,h1,hk⟩:=gq hk;obtain⟨_,h2,hk⟩:=gq hk;exact⟨zM dZ hf.1 h1,Fx dZ t _ _ _ _ hf.2.2 h2⟩
 | .ret _ v,N,m,d,y,hf,hk=>by
   simp only[eQ]at hf;simp only[eN]at hk;obtain⟨_,h1,hk⟩:=gq hk;exact zM dZ hf h1
 | .print _ v,N,m,d,y,hf,hk=>by
   simp only[eQ]at hf;simp only[eN]at hk;obtain⟨_,h1,hk⟩:=gq hk;exact zM dZ hf h1
 | .call _ v,N,m,d,y,hf,hk=>by
   simp only[eQ]at hf;simp only[eN]at hk;obtain⟨_,h1,hk⟩:=gq hk;exact zM dZ hf.2 h1
theorem Fx (dZ:EA L):(l:List St)->(N:Nm)->(m d:Nat)->(y:Nm×Nat)->lu l d->lO L N m l=.ok y->wO L l
 | [],N,m,d,y,hf,hk=>trivial
 | x::r,N,m,d,y,hf,hk=>by
   simp only[lu]at hf;simp only[lO]at hk;obtain⟨_,h1,hk⟩:=gq hk;exact⟨acJ dZ x _ _ _ _ hf.1 h1,Fx dZ r _ _ _ _ hf.2 hk⟩
end
theorem Sd:(l:List (List UInt8×Int))->l.length<=pq l
 | []=>Nat.le_refl _
 | [p]=>by simp[pq]
 | p::q::r=>by
   have h1:pq (p::q::r)=3+(1+pq (q::r)):=rfl;have:=Sd (q::r);simp only[List.length_cons]at *;omega
theorem Sc:{L:List Fn}->{x:Fn}->x∈L->xd x<=p6 L
 | a::r,x,h=>by
   simp only[p6];rcases List.mem_cons.1 h with rfl|h
   ·omega
   ·have:=Sc h
    omega
theorem acK (hp:Prog L) (hc:uo L):ED L:=by
 have dZ:∀g fn,il L g=some fn->fn∈L/\fn.params.length<=1000000:=by
  intro g fn hfn;have hm:=((SI hc.1 g fn).1 hfn).1;refine⟨hm,?_⟩;have h1:=Sd fn.params;have h2:=Sc hm;have h3:=hp.cnt;unfold xd at h2;omega
 intro g fn hfn;obtain⟨hm,hl⟩:=dZ g fn hfn;have hk:=hc.2.1 fn hm;have hf:=hp.fit fn hm;unfold ur at hk;obtain⟨_,h1,hk⟩:=gq hk;obtain⟨_,h2,hk⟩:=gq hk;exact⟨Fx (fun g fn h=>(dZ g fn h).2) fn.body _ _ _ _ hf.2.2 h2,fun p hp=>Co (hf.2.1 p hp).1,hl⟩
theorem af8 (hc:uo L):∃fn,il L [109,97,105,110]=some fn/\fn.params=[]:=by
 obtain⟨x,hx,hp⟩:=List.any_eq_true.1 hc.2.2;unfold nR at hp;simp only[Bool.and_eq_true,beq_iff_eq,List.length_eq_zero_iff]at hp;exact⟨x,(SI hc.1 _ x).2 ⟨hx,hp.1⟩,hp.2⟩
end aB
namespace aB
open Go.RowKit bB Go.Proofs.Tryz
variable {L l N:List Fn} {W w:World} {i:Nat} {S:Nat->Prop} {v:Value} {x:Fn} {s:List UInt8} {tmps:Array Value}
theorem ajR (a:Int) (s:List UInt8) (v:aL) (b:Nat) (N:Nm) (m:Nat) (bq:Value) (W:World) (r:e6 (Nm×Nat)) (hC:kU W b L N m) (hv:aX W (·=b) v bq) (hr:eN L N m (.var a s v)=r) :
 Calls prog 68 #[.pointer (some ⟨b,0,none⟩),.agg (dt 1 a s cV bq bV bV).toArray] W (mQ W b L r):=by
 obtain⟨iA,rfl⟩:=hv.ptr;obtain⟨W1,hW1⟩:=aq (W.alloc (.cells (dt 1 a s cV (.pointer (some ⟨iA,0,none⟩)) bV bV).toArray 143));have bR:Hid (ag ai W W1):=af (by rw[hW1];exact ay.alloc _);have bD:Hid (aw W1 W.heap.size (dt 1 a s cV (.pointer (some ⟨iA,0,none⟩)) bV bV) 143):=af (by rw[hW1];exact aw.new W _ _);have tZ:Hid (ag (·=b) W W1):=af (bR.mono fun _ _ f=>f.elim);have aU:=af (hC.mods bR);have aj:Hid (cn (dI L N v) (fun t=>pg N m (s,t) a)=r):=af (by rw[<-hr];simp only[eN]);have a_:=af (fun (w:World) (hm:ag ai W w)=>xj L N v b m _ w _ (hC.mods hm) (hv.mods (hm.mono fun _ _ f=>f.elim)) rfl);have hbl:b<W1.heap.size:=by obtain⟨_,_,_,_,hb,_⟩:=aU.out;exact hb.lt
 clear hC hv hr;have HD:Hid (ag ai W W1.drew):=af bR.drew;have CO:Hid (∀w,ag ai W1.drew w->aw w W.heap.size (dt 1 a s cV (.pointer (some ⟨iA,0,none⟩)) bV bV) 143):=af (fun w hm=>bD.mods (((ag.refl ai W1).drew).trans hm) id);have cO:=af (a_ W1.drew HD);cases hx:dI L N v with
 | error q =>
   obtain⟨qn,bg⟩:=q;rw[hx]at aj cO;obtain rfl:r=.error (qn,bg):=aj.symm;have d2:W1.cell? ⟨W.heap.size,2,none⟩=some (str s):=bD.cell rfl;have d4:W1.cell? ⟨W.heap.size,4,none⟩=some (.pointer (some ⟨iA,0,none⟩)):=bD.cell rfl;have d1:W1.cell? ⟨W.heap.size,1,none⟩=some (.int .i64 a):=bD.cell rfl;clear hx aj a_;unfold dt cV bV str mQ at *;go_in;go_wp2_with fail;rw[<-hW1];clear hW1
   go_region_with (first|(go_at_call 100;refine cO.mono ?_;rintro e w3 ⟨⟨g3,rfl,hb3⟩,aR⟩;refine yT prog w3 ⟨rfl,⟨g3,rfl,hb3⟩,(HD.trans aR).mono fun _ _ f=>f.elim⟩ ?_))
   all_goals trivial
 | ok t =>
   rw[hx]at aj cO;have d2:W1.cell? ⟨W.heap.size,2,none⟩=some (str s):=bD.cell rfl;have d4:W1.cell? ⟨W.heap.size,4,none⟩=some (.pointer (some ⟨iA,0,none⟩)):=bD.cell rfl;have d1:W1.cell? ⟨W.heap.size,1,none⟩=some (.int .i64 a):=bD.cell rfl;have vo:Hid (pg N m (s,t) a=r):=af aj;have CM:=af (fun (w:World) (hm:ag ai W1.drew w)=>(by
    have:=Fg b L N m (s,t) a w (aU.mods (((ag.refl ai W1).drew).trans hm));rw[vo.out]at this;exact this:Calls prog 40 #[.pointer (some ⟨b,0,none⟩),.agg #[str s,t],a] w (mQ w b L r)))
   clear hx aj a_ vo;cases r with
   | error q =>
     obtain⟨qn,bg⟩:=q;unfold dt cV bV str mQ at *;go_in;go_wp2_with fail;rw[<-hW1];clear hW1
     go_region_with (first|(go_at_call 100;refine cO.mono ?_;rintro e w3 ⟨rfl,aR⟩;have e2:=(CO w3 aR).ah 2;have e4:=(CO w3 aR).ah 4;have e1:=(CO w3 aR).ah 1;have cv:=af aR)|(go_at_call 40;refine (CM _ cv).mono ?_;rintro e w4 ⟨⟨g3,rfl,hb3⟩,bX⟩;refine yT prog w4 ⟨rfl,⟨g3,rfl,hb3⟩,((HD.trans cv).mono fun _ _ f=>f.elim).trans bX⟩ ?_))
     all_goals trivial
   | ok y =>
     unfold dt cV bV str mQ at *;go_in;go_wp2_with fail;rw[<-hW1];clear hW1
     go_region_with (first|(go_at_call 100;refine cO.mono ?_;rintro e w3 ⟨rfl,aR⟩;have e2:=(CO w3 aR).ah 2;have e4:=(CO w3 aR).ah 4;have e1:=(CO w3 aR).ah 1;have cv:=af aR)|(go_at_call 40;refine (CM _ cv).mono ?_;rintro e w4 ⟨rfl,hk4,bX⟩))
     all_goals
        have Lb:=af hk4;have dV:=af (((HD.trans cv).mono fun _ _ f=>f.elim).trans bX);clear hk4 bX;go_wp2_with fail;go_end0;exact⟨rfl,Lb,dV⟩
theorem RT (L:List Fn) (N:Nm) (m:Nat):pn L N m []=.ok (N,m):=by simp only[pn,lO,cn]
theorem Bt (L:List Fn):Ex L []:=Fl (fun s h=>nomatch h)
theorem Pp {N:Nm} {m:Nat} {v:aL} {r:e6 (Nm×Nat)} (h:cn (ia L N v 1) (fun _=>.ok (N,m))=r):GY L N m v [] []=r:=by
 rw[<-h];unfold GY;simp only[RT];rfl
theorem CD (W:World) (S:Nat->Prop):cE W S [] []:=by simp only[cE]
mutual
theorem ajO (L:List Fn):(s:St)->LP L s
 | .var a s v=>fun b N m cs W r hC hs hr=>by
   simp only[cy]at hs;obtain⟨x,rfl,hx⟩:=hs;exact ajR a s v b N m x W r hC hx hr
 | .set a s v=>fun b N m cs W r hC hs hr=>by
   simp only[cy]at hs;obtain⟨x,rfl,hx⟩:=hs;exact ajQ a s v b N m x W r hC hx hr
 | .put a s i v=>fun b N m cs W r hC hs hr=>by
   simp only[cy]at hs;obtain⟨x,y,rfl,hx,hy⟩:=hs;exact ajP a s i v b N m x y W r hC hx hy hr
 | .cond a v t e=>fun b N m cs W r hC hs hr=>by
   simp only[cy]at hs;obtain⟨x,p,jM,q,dQ,rfl,hx,h1,h2,h3,h4⟩:=hs;refine G6 4 a (by simp) (Fl (G7 L t)) (Fl (G7 L e)) b N m x p q jM dQ W r hC hx h1 h2 h3 h4 ?_;rw[<-hr];simp only[eN,GY,pn,w8];rfl
 | .loop a v t=>fun b N m cs W r hC hs hr=>by
   simp only[cy]at hs;obtain⟨x,p,jM,rfl,hx,h1,h2⟩:=hs;refine G6 5 a (by simp) (Fl (G7 L t)) (Bt L) b N m x p bV jM [] W r hC hx h1 h2 (Cw _ _ _ _) (CD _ _) ?_;rw[<-hr];simp only[eN,GY,RT];simp only[pn,w8];rfl
 | .ret a v=>fun b N m cs W r hC hs hr=>by
   simp only[cy]at hs;obtain⟨x,rfl,hx⟩:=hs;exact G6 6 a (by simp) (Bt L) (Bt L) b N m x bV bV [] [] W r hC hx (Cw _ _ _ _) (CD _ _) (Cw _ _ _ _) (CD _ _) (Pp (by rw[<-hr];simp only[eN]))
 | .print a v=>fun b N m cs W r hC hs hr=>by
   simp only[cy]at hs;obtain⟨x,rfl,hx⟩:=hs;exact G6 7 a (by simp) (Bt L) (Bt L) b N m x bV bV [] [] W r hC hx (Cw _ _ _ _) (CD _ _) (Cw _ _ _ _) (CD _ _) (Pp (by rw[<-hr];simp only[eN]))
 | .call a v=>fun b N m cs W r hC hs hr=>by
   simp only[cy]at hs;obtain⟨x,rfl,hx⟩:=hs;exact G6 8 a (by simp) (Bt L) (Bt L) b N m x bV bV [] [] W r hC hx (Cw _ _ _ _) (CD _ _) (Cw _ _ _ _) (CD _ _) (Pp (by rw[<-hr];simp only[eN]))
theorem G7 (L:List Fn):(l:List St)->∀s∈l,LP L s
 | []=>fun s h=>nomatch h
 | a::r=>fun s h=>(anW.1 h).elim (fun h1=>h1 ▸ ajO L a) (G7 L r s)
end
theorem L3 (L:List Fn) (l:List St):Ex L l:=Fl (G7 L l)
theorem abi (s:List UInt8) (a:List UInt8) (t:Int) (aG ob:Option Addr) (on aF eX eW:Nat) (q:Nat) (W:World) (hq:W.cell? ⟨q,0,none⟩=some (str s)) :
 Calls prog 38 #[.agg #[str a,t,.slice aG on aF,.slice ob eX eW],.pointer (some ⟨q,0,none⟩)] W fun e w=>e=.returned (.bool (a==s))/\ag ai W w:=by
 have hlt:q<W.heap.size:=World.block_lt_of_cell? W _ hq;have hne:q≠W.heap.size:=by omega
 unfold str at *;go_in;go_wp2;go_ret;refine⟨?_,ay.alloc _⟩;simp
def Oz (a:List UInt8) (n:Nat):Bool:=a==[109,97,105,110] && n==0
theorem abg (a:List UInt8) (t:Int) (aG ob:Option Addr) (on aF eX eW:Nat) (W:World) :
 Calls prog 42 #[.agg #[str a,t,.slice aG on aF,.slice ob eX eW]] W fun e w=>e=.returned (.bool (Oz a on))/\ag ai W w:=by
 unfold str Oz;rcases hb:(a==[109,97,105,110]) with _|_
 ·go_in
  go_wp2;go_ret;exact⟨rfl,ay.alloc _⟩
 ·rcases hn:(on==0) with _|_
  ·have sr:((on:Int)==0)=false:=by simp at hn ⊢;omega
   go_in;go_wp2;go_ret;exact⟨rfl,ay.alloc _⟩
  ·obtain rfl:on=0:=by simpa using hn
   go_in;go_wp2;go_ret;exact⟨rfl,ay.alloc _⟩
def ow:List Fn->Option Nat
 | []=>none
 | p::r=>if nR p then some 0 else (ow r).map (·+1)
theorem aeN (h:ow (N.take i)=none) {p:Fn} (hp:N[i]?=some p):ow (N.take (i+1))=if nR p then some i else none:=by
 induction N generalizing i with
 | nil=>simp at hp
 | cons a r ih =>
   cases i with
   | zero =>
     simp only[anO,anG]at hp;subst hp;simp[ow]
   | succ i =>
     simp only[an4,ow]at h ⊢;split at h
     ·cases h
     ·rename_i hn
      rw[if_neg hn];simp only[aoF]at h;rw[ih h (by simpa using hp)];split <;> rfl
theorem aeM {j:Nat} (h:ow (N.take i)=some j):ow N=some j:=by
 induction N generalizing i j with
 | nil=>simp[ow]at h
 | cons a r ih =>
   cases i with
   | zero=>simp[ow]at h
   | succ i =>
     simp only[an4,ow]at h ⊢;split at h
     ·rename_i hy
      rw[if_pos hy];exact h
     ·rename_i hn
      rw[if_neg hn];obtain⟨k,hk,rfl⟩:=an7.1 h;rw[ih hk];rfl
theorem aeL (L:List Fn):(ow L).isSome=L.any nR:=by
 induction L with
 | nil=>rfl
 | cons a r ih =>
   simp only[ow,List.any_cons];split
   ·rename_i h;rw[h];rfl
   ·rename_i h
    rw[aoB]at h;rw[h,Option.isSome_map,ih];rfl
theorem aeK (L:List Fn) (s:List UInt8):(jJ L s).isSome=L.any (fun g=>g.name==s):=by
 induction L with
 | nil=>rfl
 | cons a r ih =>
   simp only[jJ,List.any_cons];split
   ·rename_i h;rw[h];rfl
   ·rename_i h
    rw[aoB]at h;rw[h,Option.isSome_map,ih];rfl
theorem lU.take {a:Option Addr} {n c:Nat} (h:lU W S (.slice a n c) L) (hi:i<=n) (ha:a≠none):lU W S (.slice a i c) (L.take i):=by
 obtain⟨a',n',c',e,h2,h3,h4,h5,h6⟩:=h;obtain⟨rfl,rfl,rfl⟩:=Value.slice.inj e;refine⟨a,i,c,rfl,by rw[anP];omega,by omega,h4,fun h=>absurd h ha,fun j f hj=>?_⟩;rw[List.getElem?_take]at hj;split at hj
 ·exact h6 j f hj
 ·cases hj
theorem Ow (s:List UInt8) (L:List Fn) (S:Nat->Prop) (v:Value) (q:Nat) (W:World) (hq:W.cell? ⟨q,0,none⟩=some (str s)) (hL:lU W S v L) :
 Calls prog 65 #[v,.func (.func 38) #[] #[.pointer (some ⟨q,0,none⟩)]] W fun e w=>e=.returned (.int .i64 (jy (jJ L s)))/\ag ai W w:=by
 obtain⟨a,n,c,rfl,hn,iZ,hcm,h0,hcell⟩:=hL;have aT:=af hn;have aU:=af (fun (w:World) (hm:ag ai W w) (i:Nat) (hi:i<n)=>(by
  have hE:i<L.length:=by omega
  obtain⟨g,o,p,q,dQ,e1,e2,e3,e4,cG,ew,dv,dc,fG⟩:=hcell i L[i] (anx hE);obtain⟨pa,bz,ck,rfl⟩:=dv.form;obtain⟨bg,qn,br,rfl⟩:=dc.form;exact⟨L[i],g,o,pa,bz,ck,bg,qn,br,e1,anx hE,hm.cellOf e3 id,hm.cellOf e4 id,hm.cellOf cG id,hm.cellOf ew id⟩:∃x g o pa bz ck bg qn br,a=some ⟨g,o,none⟩/\L[i]?=some x/\w.cell? ⟨g,o+i*4,none⟩=some (str x.name)/\w.cell? ⟨g,o+i*4+1,none⟩=some (.int .i64 x.at_)/\w.cell? ⟨g,o+i*4+2,none⟩=some (.slice pa bz ck)/\w.cell? ⟨g,o+i*4+3,none⟩=some (.slice bg qn br)))
 have dy:=af (fun (w:World) (hm:ag ai W w)=>(hm.cellOf hq id:w.cell? ⟨q,0,none⟩=some (str s)));unfold maxLen at hcm;clear hn hcell hq;unfold str at *;go_in;go_wp2_with fail
 go_loopw [5,8] (fun _ iv wr=>∃i:Nat,i<=n/\iv=.int .i64 i/\Hid (jJ (L.take i) s=none)/\Hid (ag ai W wr)) (fun _ iv _=>(n-intOf iv).toNat)
 case atStart=>exact⟨0,anC _,rfl,af (by simp[jJ]),af ay⟩
 case round =>
  obtain⟨i,hi,rfl,aI,az⟩:=hrel;by_cases hlt:i<n
  ·obtain⟨x,yo,o,pa,bz,ck,bg,qn,br,rfl,hx,c1,c2,c3,c4⟩:=aU.out wr az i hlt
   have cA:(i:Int)<(n:Int):=(by omega);have bA:=af (U7 aI hx);have a_:=af (abi s x.name x.at_ pa bg bz ck qn br q wr (dy wr az));clear hx;unfold str at *;go_wp2_with fail;refine a_.mono ?_;rintro e w1 ⟨rfl,aO⟩;have aD:=af (az.trans aO);clear aO;rcases hb:(x.name==s) with _|_
   ·have cW:Hid (jJ (L.take (i+1)) s=none):=af (by rw[bA.out];simp only[hb];rfl)
    clear hb;go_wp2_with fail;exact⟨⟨i+1,by omega,by go_num,cW,aD⟩,by simp[intOf];omega⟩
   ·have cW:Hid (jJ L s=some i):=af (U6 (i:=i+1) (by rw[bA.out];simp only[hb];rfl))
    clear hb;go_wp2_with fail;go_ret;refine⟨?_,aD⟩;rw[cW.out];rfl
  ·obtain rfl:i=n:=by omega
   have cA:¬(i:Int)<(i:Int):=(by omega);have cW:Hid (jJ L s=none):=af (by
        have:=aI.out;rw[aT.out,aob]at this;exact this)
   go_wp2_with fail;go_ret;refine⟨?_,az⟩;rw[cW.out];rfl
theorem Ov (L:List Fn) (S:Nat->Prop) (v:Value) (W:World) (hL:lU W S v L) :
 Calls prog 65 #[v,.func (.func 42) #[] #[]] W fun e w=>e=.returned (.int .i64 (jy (ow L)))/\ag ai W w:=by
 obtain⟨a,n,c,rfl,hn,iZ,hcm,h0,hcell⟩:=hL;have aT:=af hn;have aU:=af (fun (w:World) (hm:ag ai W w) (i:Nat) (hi:i<n)=>(by
  have hE:i<L.length:=by omega
  obtain⟨g,o,p,q,dQ,e1,e2,e3,e4,cG,ew,dv,dc,fG⟩:=hcell i L[i] (anx hE);obtain⟨pa,ck,rfl,_⟩:=o6 dv.1;obtain⟨bg,qn,br,rfl⟩:=dc.form;exact⟨L[i],g,o,pa,L[i].params.length,ck,bg,qn,br,rfl,e1,anx hE,hm.cellOf e3 id,hm.cellOf e4 id,hm.cellOf cG id,hm.cellOf ew id⟩:∃x g o pa bz ck bg qn br,Oz x.name bz=nR x/\a=some ⟨g,o,none⟩/\L[i]?=some x/\w.cell? ⟨g,o+i*4,none⟩=some (str x.name)/\w.cell? ⟨g,o+i*4+1,none⟩=some (.int .i64 x.at_)/\w.cell? ⟨g,o+i*4+2,none⟩=some (.slice pa bz ck)/\w.cell? ⟨g,o+i*4+3,none⟩=some (.slice bg qn br)))
 unfold maxLen at hcm;clear hn hcell;unfold str at *;go_in;go_wp2_with fail
 go_loopw [5,8] (fun _ iv wr=>∃i:Nat,i<=n/\iv=.int .i64 i/\Hid (ow (L.take i)=none)/\Hid (ag ai W wr)) (fun _ iv _=>(n-intOf iv).toNat)
 case atStart=>exact⟨0,anC _,rfl,af (by simp[ow]),af ay⟩
 case round =>
  obtain⟨i,hi,rfl,aI,az⟩:=hrel;by_cases hlt:i<n
  ·obtain⟨x,yo,o,pa,bz,ck,bg,qn,br,yD,rfl,hx,c1,c2,c3,c4⟩:=aU.out wr az i hlt
   have cA:(i:Int)<(n:Int):=(by omega);have bA:=af (aeN aI hx);have he:=abg x.name x.at_ pa bg bz ck qn br wr;rw[yD]at he;have a_:=af he;clear he;clear hx yD;unfold str at *;go_wp2_with fail;refine a_.mono ?_;rintro e w1 ⟨rfl,aO⟩;have aD:=af (az.trans aO);clear aO;rcases hb:nR x with _|_
   ·have cW:Hid (ow (L.take (i+1))=none):=af (by rw[bA.out];simp only[hb];rfl)
    clear hb;go_wp2_with fail;exact⟨⟨i+1,by omega,by go_num,cW,aD⟩,by simp[intOf];omega⟩
   ·have cW:Hid (ow L=some i):=af (aeM (i:=i+1) (by rw[bA.out];simp only[hb];rfl))
    clear hb;go_wp2_with fail;go_ret;refine⟨?_,aD⟩;rw[cW.out];rfl
  ·obtain rfl:i=n:=by omega
   have cA:¬(i:Int)<(i:Int):=(by omega);have cW:Hid (ow L=none):=af (by
        have:=aI.out;rw[aT.out,aob]at this;exact this)
   go_wp2_with fail;go_ret;refine⟨?_,az⟩;rw[cW.out];rfl
theorem M5 (s:List UInt8) (L:List Fn) (S:Nat->Prop) (v:Value) (q:Nat) (W:World) (hq:W.cell? ⟨q,0,none⟩=some (str s)) (hL:lU W S v L) :
 Calls prog 37 #[v,.func (.func 38) #[] #[.pointer (some ⟨q,0,none⟩)]] W fun e w=>e=.returned (.bool (L.any (fun g=>g.name==s)))/\ag ai W w:=by
 have aI:=af (Ow s L S v q W hq hL);rw[<-aeK L s];clear hL hq;generalize jJ L s=o at aI ⊢;go_in;go_wp2_with fail;refine aI.mono ?_;rintro e w2 ⟨rfl,aN⟩;cases o with
 | none =>
   simp only[jy,Option.isSome_none];go_wp2_with fail;go_ret;exact⟨rfl,aN⟩
 | some i =>
   simp only[jy,Option.isSome_some];have hi:(decide ((0:Int)<=(i:Int)))=true:=(by simp);go_wp2_with fail;go_ret;refine⟨?_,aN⟩
   first|rfl|(simp)
theorem M4  (L:List Fn) (S:Nat->Prop) (v:Value) (W:World) (hL:lU W S v L) :
 Calls prog 37 #[v,.func (.func 42) #[] #[]] W fun e w=>e=.returned (.bool (L.any nR))/\ag ai W w:=by
 have aI:=af (Ov L S v W hL);rw[<-aeL L];clear hL;generalize ow L=o at aI ⊢;go_in;go_wp2_with fail;refine aI.mono ?_;rintro e w2 ⟨rfl,aN⟩;cases o with
 | none =>
   simp only[jy,Option.isSome_none];go_wp2_with fail;go_ret;exact⟨rfl,aN⟩
 | some i =>
   simp only[jy,Option.isSome_some];have hi:(decide ((0:Int)<=(i:Int)))=true:=(by simp);go_wp2_with fail;go_ret;refine⟨?_,aN⟩
   first|rfl|(simp)
theorem rM.afv {cs:List Value} (h:rM W S x cs):cs.length=4:=by
 obtain⟨p,q,dQ,rfl,_⟩:=h;rfl
theorem mg.get:{l:List Fn}->{vs:List Value}->mg W S l vs->(i:Nat)->(x:Fn)->l[i]?=some x->∃cs,rM W S x cs/\∀j,j<4->vs[i*4+j]?=cs[j]?
 | [],vs,h,i,x,hx=>by simp at hx
 | a::l,vs,h,i,x,hx=>by
   obtain⟨cs,r,rfl,h1,h2⟩:=h;have h4:=h1.afv;cases i with
   | zero =>
     simp only[anO,anG]at hx;subst hx;refine⟨cs,h1,fun j hj=>?_⟩;rw[anI (by omega)]
     congr 1
     omega
   | succ i =>
     obtain⟨ds,h3,h5⟩:=mg.get h2 i x (by simpa using hx);refine⟨ds,h3,fun j hj=>?_⟩;rw[anH (by omega),h4,<-h5 j hj]
     congr 1
     omega
theorem acu {B:Nat} {vs:List Value} (h:W.ownsRow B 84 4 v l.length vs) (hf:mg W S l vs) (hS:∀k,v.ownBlock=some k->¬S k):lU W S v l:=by
 rcases h.2 with⟨rfl,h0⟩|⟨g,cap,cur,rfl,_,hg,h3,h4,_⟩
 ·have hl:l=[]:=anJ h0
  subst hl;exact⟨none,0,0,rfl,rfl,anD _,by decide,fun _=>rfl,fun i p hp=>by simp at hp⟩
 ·have hc:=h.cells (g:=g) rfl
  refine⟨some ⟨g,0,none⟩,l.length,cap,rfl,rfl,h3,h4,(fun h=>by cases h),fun i x hx=>?_⟩;obtain⟨cs,h5,h6⟩:=hf.get i x hx;obtain⟨p,q,dQ,rfl,h7,h8,dJ⟩:=h5;have e0:=hc _ _ (h6 0 (by omega));have e1:=hc _ _ (h6 1 (by omega));have e2:=hc _ _ (h6 2 (by omega));have e3:=hc _ _ (h6 3 (by omega));refine⟨g,0,p,q,dQ,rfl,hS g rfl,?_,?_,?_,?_,h7,h8,dJ⟩
  ·simpa [Addr.add_lit] using e0
  ·simpa [Addr.add_lit] using e1
  ·simpa [Addr.add_lit] using e2
  ·simpa [Addr.add_lit] using e3
theorem aaI (p:Addr) (w:World) :
 CallsD prog 36 #[.pointer (some p)] .returning w fun e u' w'=>e=.returned (.tuple #[])/\u'=.returning/\w'=w:=by
 refine callsD_of_wpS func36 rfl fun my cs hu=>?_
 apply wpS_seq;apply wpS_region;simp[wpOpsS,go_sem,recoverD,hu,ntmps36,Exit.thenS];refine wpS_of_wp ?_;change Code.wp _ _ _ { tmps:=#[.pointer (some p),.nilIface,undef,undef,.nilIface,undef,undef,undef,undef,undef,undef,undef,undef,undef,undef,undef,undef],defers:=[] } w;go_wp2;cases my
 simp_all [bodyPostS,results,results36]
theorem ae3 (v:Value) (w:World):Sem.run prog (Instr.typeAssert (.iface 97 v) 20 97 true) w=.ok (.tuple #[v,.bool true]) w:=by
 simp[Instr.typeAssert,run_underlying underlying97]
theorem aaJ (p g:Nat) (jM:Value) (aV:List PanicEntry) (w:World) (hp:w.cell? ⟨p,0,none⟩=some jM) (qU:w.frozen? ⟨p,0,none⟩=false) :
 CallsD prog 36 #[.pointer (some ⟨p,0,none⟩)] (.panicking ({ v:=za g,recovered:=false }::aV)) w fun e u' w' =>
  e=.returned (.tuple #[])/\u'=.panicking ({ v:=za g,recovered:=true }::aV)/\w'=(w.setCell ⟨p,0,none⟩ (.iface 134 (.pointer (some ⟨g,0,none⟩)))).alloc (.cells #[.iface 134 (.pointer (some ⟨g,0,none⟩))] 97):=by
 refine callsD_of_wpS func36 rfl fun my cs hu=>?_
 apply wpS_seq;apply wpS_region;unfold za at hu;simp[wpOpsS,go_sem,recoverD,hu,ntmps36,Exit.thenS];refine wpS_of_wp ?_;change Code.wp _ _ _ { tmps:=#[.pointer (some ⟨p,0,none⟩),.iface 97 (.agg #[.iface 134 (.pointer (some ⟨g,0,none⟩))]),undef,undef,.iface 97 (.agg #[.iface 134 (.pointer (some ⟨g,0,none⟩))]),undef,undef,undef,undef,undef,undef,undef,undef,undef,undef,undef,undef],defers:=[] } w;have iw:=ae3 (.agg #[.iface 134 (.pointer (some ⟨g,0,none⟩))]) w;have NC:p<w.heap.size:=World.block_lt_of_cell? w _ hp;have vX:p≠w.heap.size:=by omega
 go_wp2;clear iw NC vX hp qU;cases my
 simp_all [bodyPostS,results,results36,za]
def Checked (W:World):e6 Bool->Ending->World->Prop
 | .error (n,a)=>fun e w=>∃g,e=.returned (.iface 134 (.pointer (some ⟨g,0,none⟩)))/\aw w g [n,a] 136/\ag ai W w
 | .ok true=>fun e w=>e=.returned .nilIface/\ag ai W w
 | .ok false=>fun e w=>e=.returned (.iface 44 (.int .i64 8))/\ag ai W w
def Ih (L:List Fn):e6 Bool:=cn (nZ [] L) fun _=>cn (qa L L) fun _=>.ok (L.any nR)
theorem L5 {g:Nat} {n a:Int} {u:Value} (h2:tmps[2]?.getD undef=.pointer (some ⟨W.heap.size,0,none⟩))
 (hA:aw w W.heap.size [u] 38) (bT:aw w g [n,a] 136) (hM:ag ai W w) :
 Leaves prog Tryz.f15 tmps (Checked W (.error (n,a))) [{ target:=Target.fn (Go.Fn.func 36) #[.pointer (some ⟨W.heap.size,0,none⟩)],args:=#[] }] (.panicking [{ v:=za g,recovered:=false }]) w:=by
 refine leaves_cons (f:=36) (args:=#[.pointer (some ⟨W.heap.size,0,none⟩)]) (by simp) (by simp[go_sem]) ?_;refine (aaJ W.heap.size g u [] w (hA.ah 0) (hA.free 0)).mono ?_;rintro e u' w'' ⟨rfl,rfl,rfl⟩;have vH:=(iC (ds:=[.iface 134 (.pointer (some ⟨g,0,none⟩))]) hA 0 (.iface 134 (.pointer (some ⟨g,0,none⟩))) rfl).alloc (.cells #[.iface 134 (.pointer (some ⟨g,0,none⟩))] 97);have aR:=(cm w W.heap.size 0 (.iface 134 (.pointer (some ⟨g,0,none⟩)))).alloc (.cells #[.iface 134 (.pointer (some ⟨g,0,none⟩))] 97);have vI:=bT.mods aR (by
  intro h;rw[h]at bT;unfold aw at bT hA;rw[hA]at bT;simp at bT)
 have vK:=hM.trans' aR (by rintro k rfl hk;omega);obtain⟨wf,wg⟩:=aq ((w.setCell ⟨W.heap.size,0,none⟩ (.iface 134 (.pointer (some ⟨g,0,none⟩)))).alloc (.cells #[.iface 134 (.pointer (some ⟨g,0,none⟩))] 97));rw[<-wg]at vH vI vK ⊢;have ra:wf.cell? ⟨W.heap.size,0,none⟩=some (.iface 134 (.pointer (some ⟨g,0,none⟩))):=vH.ah 0;have bb:=af (show Checked W (.error (n,a)) (.returned (.iface 134 (.pointer (some ⟨g,0,none⟩)))) wf from ⟨g,rfl,vI,vK⟩);clear vH vI vK aR wg hA bT;simp[Leaves,settle,results,results15,go_sem,h2,ra];exact bb
theorem R6 {R:Ending->World->Prop} (h2:tmps[2]?.getD undef=.pointer (some ⟨W.heap.size,0,none⟩))
 (hA:w.cell? ⟨W.heap.size,0,none⟩=some v) (h:R (.returned v) w) :
 Leaves prog Tryz.f15 tmps R [{ target:=Target.fn (Go.Fn.func 36) #[.pointer (some ⟨W.heap.size,0,none⟩)],args:=#[] }] .returning w:=by
 refine leaves_cons (f:=36) (args:=#[.pointer (some ⟨W.heap.size,0,none⟩)]) (by simp) (by simp[go_sem]) ?_;refine (aaI ⟨W.heap.size,0,none⟩ _).mono ?_;rintro e u' w'' ⟨rfl,rfl,rfl⟩;have H:=af h;clear h;simp[Leaves,settle,results,results15,go_sem,h2,hA];exact H
theorem akb (hx:L[i]?=some x):nZ (L.take i) (L.drop i)=if (L.take i).any (fun g=>g.name==x.name) then .error (9,x.at_) else nZ (L.take (i+1)) (L.drop (i+1)):=by
 have hi:i<L.length:=(anA.1 hx).1;have he:L[i]=x:=(anA.1 hx).2;rw[anL hi,he];simp only[nZ];rw[aod,hx];rfl
theorem ab9 (M:List Fn) (hx:L[i]?=some x):qa M (L.drop i)=cn (ur M x) fun _=>qa M (L.drop (i+1)):=by
 have hi:i<L.length:=(anA.1 hx).1;have he:L[i]=x:=(anA.1 hx).2;rw[anL hi,he];simp only[qa]
theorem ahq (N:Nm) (m:Nat) (a:Int) {P:List (List UInt8×Int)} {x:List UInt8×Int} (hx:P[i]?=some x):sG N m a (P.drop i)=cn (pg N m x a) fun y=>sG y.1 y.2 a (P.drop (i+1)):=by
 have hi:i<P.length:=(anA.1 hx).1;have he:P[i]=x:=(anA.1 hx).2;rw[anL hi,he];simp only[sG]
theorem ab5 (L:List Fn) (f:Fn):ur L f=cn (sG [] 0 f.at_ f.params) fun x=>cn (pn L x.1 x.2 f.body) fun _=>.ok ():=by
 unfold ur pn;simp only[w8];rfl
def ZA (W:World) (a:Option Addr) (i:Nat) (x:Fn) (pa:Option Addr) (ck:Nat) (bg:Option Addr) (br:Nat) (g o:Nat):Prop :=
 a=some ⟨g,o,none⟩/\W.cell? ⟨g,o+i*4,none⟩=some (str x.name)/\W.cell? ⟨g,o+i*4+1,none⟩=some (.int .i64 x.at_)/\W.cell? ⟨g,o+i*4+2,none⟩=some (.slice pa x.params.length ck)/\W.cell? ⟨g,o+i*4+3,none⟩=some (.slice bg x.body.length br)
theorem aaK (L:List Fn) (v:Value) (W:World) (hL:lU W ai v L) :
 Calls prog 15 #[v] W (Checked W (Ih L)):=by
 have k_:∀ (fn:Go.Fn) (first cap:Array Value) (w:World),(Instr.makeFunc fn first cap).run prog w=.ok (.func fn first cap) w:=fun _ _ _ _=>rfl
 obtain⟨r,hr⟩:=aq (Ih L);obtain⟨r1,hr1⟩:=aq (nZ [] L);have HZ:Hid (cn r1 (fun _=>cn (qa L L) fun _=>.ok (L.any nR))=r):=af (by rw[hr1,hr];rfl);have ek:Hid (nZ (L.take 0) (L.drop 0)=r1):=af hr1.symm;rw[<-hr];clear hr hr1;have zq:=af hL;obtain⟨a,n,c,rfl,hn,iZ,hcm,h0,hcell⟩:=hL;have aT:=af hn;have QQ:=af (fun (w:World) (hm:ag ai W w) (i:Nat) (hi:i<n)=>(by
  have hE:i<L.length:=by omega
  obtain⟨g,o,p,q,dQ,e1,e2,e3,e4,cG,ew,dv,dc,fG⟩:=hcell i L[i] (anx hE);obtain⟨pa,ck,rfl,k1,k2,k3⟩:=o6 dv.1;obtain⟨bg,br,rfl,k4,gU,tD⟩:=o6 dc.1;exact⟨L[i],g,o,pa,ck,bg,br,dQ,anx hE,⟨e1,hm.cellOf e3 id,hm.cellOf e4 id,hm.cellOf cG id,hm.cellOf ew id⟩,dv.mods hm (fun _ _ k=>k),dc.mods hm (fun _ _ k=>k),cE.b8 hm (fun _ _ k=>k) _ _ fG,k1,k2⟩ :
  ∃x g o pa ck bg br dQ,L[i]?=some x/\ZA w a i x pa ck bg br g o/\fL w ai 91 2 (.slice pa x.params.length ck) x.params.length (kn x.params)/\fL w ai 143 7 (.slice bg x.body.length br) x.body.length dQ/\cE w ai x.body dQ/\x.params.length<=ck/\ck<=maxLen))
 obtain⟨W1,hW1⟩:=aq (W.alloc (.cells #[.nilIface] 38));have aD:Hid (ag ai W W1):=af (by rw[hW1];exact ay.alloc _);have jd:Hid (aw W1 W.heap.size [.nilIface] 38):=af (by rw[hW1];exact aw.new W _ _);unfold maxLen at hcm;clear hn hcell
 go_enter_defers func15,ntmps15
 go_wp2_with fail;rw[<-hW1];clear hW1
 go_loopw [3,4,13] (fun _ _ iv wr=>∃i:Nat,i<=n/\iv=.int .i64 i/\Hid (nZ (L.take i) (L.drop i)=r1)/\Hid (aw wr W.heap.size [.nilIface] 38)/\Hid (ag ai W wr)) (fun _ _ iv _=>(n-intOf iv).toNat)
 case atStart=>exact⟨0,anC _,rfl,ek,jd,aD⟩
 case round =>
  clear ek jd aD;obtain⟨i,hi,rfl,ek,bH,az⟩:=hrel;by_cases hlt:i<n
  ·obtain⟨x,g,o,pa,ck,bg,br,dQ,hx,⟨rfl,c0,c1,c2,c3⟩,_⟩:=QQ.out wr az i hlt
   have cA:(i:Int)<(n:Int):=(by omega);have hstep:=akb hx;obtain⟨bz,fe⟩:=aq (x.params.length);obtain⟨qn,yG⟩:=aq (x.body.length);rw[<-fe]at c2;rw[<-yG]at c3;obtain⟨W2,hW2⟩:=aq (wr.alloc (.cells #[str x.name,x.at_,.slice pa bz ck,.slice bg qn br] 84));have bJ:Hid (ag ai wr W2):=af (by rw[hW2];exact ay.alloc _);have bY:Hid (aw W2 wr.heap.size [str x.name,x.at_,.slice pa bz ck,.slice bg qn br] 84):=af (by rw[hW2];exact aw.new wr _ _);have aU:=af (M5 x.name (L.take i) ai (.slice (some ⟨g,o,none⟩) i c) wr.heap.size W2 (bY.cell rfl) ((zq.mods (az.trans bJ) (fun _ _ k=>k)).take (by omega) (by simp)));clear hx fe yG;unfold str at *;go_wp2_with fail;rw[<-hW2];clear hW2;go_at_call 37;refine aU.mono ?_;rintro e w3 ⟨rfl,aR⟩;have cv:=af (bJ.trans aR);have d1:w3.cell? ⟨wr.heap.size,1,none⟩=some (.int .i64 x.at_):=aR.cellOf (bY.cell rfl) id;have eK:=af (bH.mods cv id);have hx1:=ek.out;rw[hstep]at hx1;clear aR hstep ek c0 c1 c2 c3;rcases hb:(L.take i).any (fun g=>g.name==x.name) with _|_
   ·rw[hb]at hx1
    have bh:Hid (nZ (L.take (i+1)) (L.drop (i+1))=r1):=af hx1;clear hx1 hb;go_wp2_with fail;exact⟨⟨i+1,by omega,by go_num,bh,eK,af (az.trans cv)⟩,by simp[intOf];omega⟩
   ·rw[hb]at hx1
    obtain rfl:r=.error (9,x.at_):=(by rw[<-HZ.out,<-hx1];rfl);clear hx1 hb HZ;go_wp2_with fail;refine (xc 9 x.at_ w3).mono ?_;rintro e w4 ⟨⟨g4,rfl,hb4⟩,bX⟩;have kV:=af hb4;have dV:=af bX;clear hb4 bX;go_wp2;exact L5 rfl (eK.mods dV id) kV (az.trans (cv.trans dV))
  ·obtain rfl:n=i:=by omega
   have cA:¬(n:Int)<(n:Int):=(by omega);have hx1:=ek.out;rw[aT.out,anZ]at hx1;simp only[nZ]at hx1;have bh:Hid (cn (qa L (L.drop 0)) (fun _=>.ok (L.any nR))=r):=af (by rw[<-HZ.out,<-hx1];rfl);clear HZ ek hx1;go_wp2_with fail;clear cA hi;have xR:=bH;have tX:=az;clear bH az
   go_loopw [29] (fun iv w1=>∃i:Nat,i<=n/\iv=.int .i64 i/\Hid (cn (qa L (L.drop i)) (fun _=>.ok (L.any nR))=r)/\Hid (aw w1 W.heap.size [.nilIface] 38)/\Hid (ag ai W w1)) (fun iv _=>(n-intOf iv).toNat)
   case atStart=>exact⟨0,anC _,rfl,bh,xR,tX⟩
   case round =>
        clear bh xR tX;obtain⟨i,hi,rfl,aj,bH,az⟩:=hrel;obtain⟨w1,rfl⟩:=aq wr;by_cases hlt:i<n
        ·obtain⟨x,g,o,pa,ck,bg,br,dQ,hx,⟨rfl,c0,c1,c2,c3⟩,jI,UG,hst,Ad,Js⟩:=QQ.out _ az i hlt
         have cA:(i:Int)<(n:Int):=(by omega);obtain⟨r3,hr3⟩:=aq (sG [] 0 x.at_ (x.params.drop 0));have dW:Hid (cn r3 (fun y=>cn (pn L y.1 y.2 x.body) fun _=>cn (qa L (L.drop (i+1))) (fun _=>.ok (L.any nR)))=r):=af (by
          rw[hr3,<-aj.out,ab9 L hx,ab5];simp only[w8,List.drop_zero];rfl)
         have dp:Hid (sG [] 0 x.at_ (x.params.drop 0)=r3):=af hr3.symm;obtain⟨bz,fe⟩:=aq (x.params.length);obtain⟨qn,yG⟩:=aq (x.body.length);obtain⟨fv,nN⟩:∃fv:Value,fv=.slice (some ⟨g,o,none⟩) n c:=⟨_,rfl⟩;obtain⟨W2,hW2⟩:=aq (w1.alloc (.cells #[str x.name,x.at_,.slice pa bz ck,.slice bg qn br] 84));obtain⟨W3,hW3⟩:=aq (W2.alloc (.cells #[.slice (some ⟨g,o,none⟩) n c,.slice none 0 0,.int .i64 0] 104));have hs2:W2.heap.size=w1.heap.size+1:=(by rw[hW2];simp);have bJ:Hid (ag ai w1 W2):=af (by rw[hW2];exact ay.alloc _);have ES:Hid (ag ai W2 W3):=af (by rw[hW3];exact ay.alloc _);have bY:Hid (aw W3 w1.heap.size [str x.name,x.at_,.slice pa bz ck,.slice bg qn br] 84):=af (by rw[hW3,hW2];exact (aw.new w1 _ _).alloc _);have cv:Hid (ag ai W W3):=af (az.trans (bJ.trans ES));have hbl:W.heap.size<w1.heap.size:=bH.lt;have V2:∀ {w:World} k,k<w.heap.size->w=W->k=w1.heap.size+1->ai k:=fun k h1 h2 h3=>by rw[h2]at h1;omega
         have HK:Hid (kU W3 (w1.heap.size+1) L [] 0):=af (by
          refine⟨by omega,by simp,.slice (some ⟨g,o,none⟩) n c,.slice none 0 0,?_,zq.mods cv (fun k h1 h2=>V2 k h1 rfl h2),⟨none,0,0,rfl,rfl,anD _,by decide,fun _=>rfl,fun i p hp=>by simp at hp⟩⟩;rw[hW3,<-hs2];exact aw.new W2 _ _)
         have Dr:∀k,k<w1.heap.size->k=w1.heap.size+1->ai k:=fun k h1 h2=>by omega
         have Ls:=af (jI.mods (bJ.trans ES) (T:=(·=w1.heap.size+1)) Dr);have Y2:=af (UG.mods (bJ.trans ES) (T:=(·=w1.heap.size+1)) Dr);have HST:=af (cE.b8 (bJ.trans ES) (T:=(·=w1.heap.size+1)) Dr _ _ hst);have eK:=af (bH.mods (bJ.trans ES) id);have cH:w1.heap.size≠w1.heap.size+1:=(by omega);have zR:Hid (W.heap.size<w1.heap.size):=af hbl;have akT:=af Ad;rw[<-fe]at c2 Ad;rw[<-yG]at c3;have vd:=af fe;have YZ:=af yG;have d2:W3.cell? ⟨w1.heap.size,2,none⟩=some (.slice pa bz ck):=bY.cell rfl;have Y9:=af (fun (w:World) (hm:ag (·=w1.heap.size+1) W3 w) (j:Nat) (hj:j<x.params.length)=>(by
          have e2:x.params[j]?=some x.params[j]:=anx hj;obtain⟨q1,q2⟩:=D4 x.params j x.params[j] e2;obtain⟨ahl,ahw,e3,_,_,lI⟩:=o6 Ls.1;obtain⟨rfl,-,rfl⟩:=Value.slice.inj e3;obtain⟨nV,jh,ho,d1⟩:=lI _ _ q1;obtain⟨GV,Ae,_,d2⟩:=lI _ _ q2;obtain rfl:nV=GV:=(by rw[jh]at Ae;simpa using Ae);exact⟨nV,x.params[j].1,x.params[j].2,jh,e2,hm.cellOf d1 (Ls.2 _ ho),hm.cellOf d2 (Ls.2 _ ho)⟩ :
          ∃nV nm ty,pa=some ⟨nV,0,none⟩/\x.params[j]?=some (nm,ty)/\w.cell? ⟨nV,j*2,none⟩=some (str nm)/\w.cell? ⟨nV,j*2+1,none⟩=some (.int .i64 ty)))
         have tY:Hid (ag (·=w1.heap.size+1) W3 W3):=af ay;unfold maxLen at Js;clear hx hr3 fe yG jI UG hst aj Dr V2 nN;unfold str at *;go_wp2_with fail;rw[<-hW2,<-hW3];clear hW2 hW3 c0 c1 c2 c3 d2 hs2
         go_loopw [39] (fun jw w3=>∃ (j:Nat) (N:Nm) (m:Nat),j<=bz/\jw=.int .i64 j/\Hid (sG N m x.at_ (x.params.drop j)=r3)/\Hid (kU w3 (w1.heap.size+1) L N m)/\Hid (ag (·=w1.heap.size+1) W3 w3)) (fun jw _=>(bz-intOf jw).toNat)
         case atStart=>exact⟨0,[],0,anC _,rfl,dp,HK,tY⟩
         case round =>
          clear dp HK tY;obtain⟨j,N,m,hj,rfl,dp,HK,tY⟩:=hrel;obtain⟨w3,rfl⟩:=aq wr;have alz:Hid (ag ai W w3):=af (cv.trans' tY (by have:=zR.out;rintro k rfl hk;omega));have EE:=af (eK.mods tY (by have:=zR.out;omega));by_cases ux:j<bz
          ·obtain⟨nV,nm,ty,rfl,hp,p0,p1⟩:=Y9.out w3 tY j (by rw[<-vd.out];exact ux)
           have NT:(j:Int)<(bz:Int):=(by omega);have kV:=af (bY.mods tY (by omega));obtain⟨dz,g_⟩:=aq (w3.alloc (.cells #[.string ⟨nm.toArray⟩,ty] 91));have dV:Hid (ag ai w3 dz):=af (by rw[g_];exact ay.alloc _);have YD:Hid (ag (·=w1.heap.size+1) W3 dz):=af (tY.trans (dV.mono fun _ _ f=>f.elim));have gi:Hid (cn (pg N m (nm,ty) x.at_) (fun y=>sG y.1 y.2 x.at_ (x.params.drop (j+1)))=r3):=af (by rw[<-dp.out,ahq N m x.at_ hp]);have CM:=af (Fg (w1.heap.size+1) L N m (nm,ty) x.at_ dz (HK.mods dV));have d1:w3.cell? ⟨w1.heap.size,1,none⟩=some (.int .i64 x.at_):=kV.cell rfl;have l1:w1.heap.size<w3.heap.size:=kV.lt;have n1:w1.heap.size≠w3.heap.size:=(by omega);clear hp dp;unfold str at *;go_wp2_with fail;rw[<-g_];clear g_ p0 p1;go_at_call 40;refine Ff (b:=w1.heap.size+1) YD gi CM ?_ ?_
           ·rintro q1 q2 aei g5 aJ cM dx
            obtain rfl:r=.error (q1,q2):=(by rw[<-dW.out,aei];rfl);clear dW gi CM d1;go_wp2;exact L5 rfl (eK.mods dx (by have:=zR.out;omega)) cM (cv.trans' dx (by have:=zR.out;rintro k rfl hk;omega))
           ·intro y _ oa aJ Qx _ dx
            clear gi CM d1;go_wp2_with fail;exact⟨⟨j+1,y.1,y.2,by omega,by go_num,oa,Qx,dx⟩,by simp[intOf];omega⟩
          ·obtain rfl:bz=j:=by omega
           have NT:¬(bz:Int)<(bz:Int):=(by omega);have hx3:=dp.out;rw[vd.out,anZ]at hx3;simp only[sG]at hx3;have gi:Hid (cn (pn L N m x.body) (fun _=>cn (qa L (L.drop (i+1))) (fun _=>.ok (L.any nR)))=r):=af (by rw[<-dW.out,<-hx3];rfl);have kV:=af (bY.mods tY (by omega));have d3:w3.cell? ⟨w1.heap.size,3,none⟩=some (.slice bg qn br):=kV.cell rfl;have MG:=L3 L x.body (w1.heap.size+1) N m _ dQ w3 _ HK (Y2.mods tY (fun _ _ k=>k)) (cE.b8 tY (fun _ _ k=>k) _ _ HST) rfl;rw[<-YZ.out]at MG;have KY:=af MG;clear hx3 dp dW MG;go_wp2_with fail;refine Ff (b:=w1.heap.size+1) tY gi KY ?_ ?_
           ·rintro q1 q2 rfl g5 aJ cM dx
            clear gi KY d3;go_wp2;exact L5 rfl (eK.mods dx (by have:=zR.out;omega)) cM (cv.trans' dx (by have:=zR.out;rintro k rfl hk;omega))
           ·intro y _ oa aJ Qx _ dx
            have eL:Hid (ag ai W aJ):=af (cv.trans' dx (by have:=zR.out;rintro k rfl hk;omega));have mh:=af (eK.mods dx (by have:=zR.out;omega));clear gi KY d3;go_wp2_with fail;exact⟨⟨i+1,by omega,by go_num,oa,mh,eL⟩,by simp[intOf];omega⟩
        ·obtain rfl:n=i:=by omega
         have cA:¬(n:Int)<(n:Int):=(by omega);have hx:=aj.out;rw[aT.out,anZ]at hx;simp only[qa,cn]at hx;have HF:=af (M4 L ai _ _ (zq.mods az (fun _ _ k=>k)));rcases hb:L.any nR with _|_
         ·rw[hb]at hx HF
          subst hx;have hl0:=bH.lt;clear aj hb;go_wp2_with fail;refine HF.mono ?_;rintro e aJ ⟨rfl,bM⟩;have jP:=af (bH.mods bM id);have dx:=af (az.trans bM);have d0:=jP.ah 0;have f0:=jP.free 0;clear bM;go_wp2;refine R6 rfl ((iC (ds:=[.iface 44 (.int .i64 8)]) jP 0 _ rfl).ah 0) ?_;exact⟨rfl,dx.trans' (cm _ _ _ _) (by rintro k rfl hk;omega)⟩
         ·rw[hb]at hx HF
          subst hx;clear aj hb;go_wp2_with fail;refine HF.mono ?_;rintro e aJ ⟨rfl,bM⟩;have jP:=af (bH.mods bM id);have dx:=af (az.trans bM);have d0:=jP.ah 0;have f0:=jP.free 0;clear bM;go_wp2;refine R6 rfl ((iC (ds:=[.nilIface]) jP 0 _ rfl).ah 0) ?_;exact⟨rfl,dx.trans' (cm _ _ _ _) (by rintro k rfl hk;omega)⟩
def Bg (W:World) (l:List Fn) (v:Value):Prop:=∃vs,fL W ai 84 4 v l.length vs/\mg W ai l vs
theorem Bg.next {W':World} (h:Bg W l v) (hm:ag ai W W'):Bg W' l v:=by
 obtain⟨vs,h1,h2⟩:=h;exact⟨vs,h1.mods hm (fun _ _ f=>f),h2.b8 hm (fun _ _ f=>f)⟩
theorem Wh {x:Except (Int×Int) (List Fn)} (W:World) (hL:Laid W) (hlen:s.length<=10000000) (h:zB s x):Calls prog 13 #[str s] W (CY W x):=by
 rcases h with⟨f,n,a,h1,rfl⟩|⟨f,qU,ts,y,h1,h2,rfl⟩
 ·exact aht s f n a W hL hlen h1
 ·exact ahv s f qU ts y W hL hlen h1 h2
theorem ahu (W:World) (hL:Laid W) (hlen:s.length<=10000000) (h:zB s (.ok l)):Calls prog 13 #[str s] W fun e w=>∃a c,e=.returned (.tuple #[.slice a l.length c,.nilIface])/\Bg w l (.slice a l.length c)/\ag ai W w:=by
 refine (Wh W hL hlen h).mono ?_;rintro e w ⟨v,vs,rfl,h1,h2,hm⟩;obtain⟨a,c,rfl⟩:=nQ h1.1;exact⟨a,c,rfl,⟨vs,h1,h2⟩,hm⟩
theorem Bg.fs (h:Bg W l v):lU W ai v l:=by
 obtain⟨vs,h1,h2⟩:=h;exact acu h1.1 h2 (fun _ _ f=>f)
theorem R8 (L:List Fn) (v:Value) (W:World) (hL:lU W ai v L) :
 Calls prog 15 #[v] W fun e w=>((uo L/\e=.returned .nilIface)\/(¬uo L/\∃t p,e=.returned (.iface t p)))/\ag ai W w:=by
 refine (aaK L v W hL).mono ?_;intro e w h;have hi:=R7 L;have hr:Ih L=cn (nZ [] L) (fun _=>cn (qa L L) fun _=>.ok (L.any nR)):=rfl;rw[<-hr]at hi;cases hx:Ih L with
 | error q =>
   obtain⟨n,a⟩:=q;rw[hx]at h hi;obtain⟨g,rfl,_,hm⟩:=h;exact⟨Or.inr ⟨(fun h=>by cases hi.2 h),_,_,rfl⟩,hm⟩
 | ok b =>
   rw[hx]at h hi;cases b
   ·obtain⟨rfl,hm⟩:=h
    exact⟨Or.inr ⟨(fun h=>by cases hi.2 h),_,_,rfl⟩,hm⟩
   ·obtain⟨rfl,hm⟩:=h
    exact⟨Or.inl ⟨hi.1 rfl,rfl⟩,hm⟩
theorem aiw (hr:zB s (.ok L)) (hc:uo L) (f:Nat) (given:List Int) (fuel:Int) (x:Int×Int×List Int) (hx:y5 L f given fuel.toNat=some x) (v iv:Value) (W:World) (hv:lU W ai v L) (hi:ij W ai iv given) (gw:∀n c,iv=.slice none n c->c=0) (hl:given.length<=1000000) (hf:fuel<=4000000000000000000) (hf2:-9223372036854775808<=fuel) :
 Calls prog 17 #[v,iv,fuel] W fun e w=>∃u,e=.returned u/\sO w x u/\ag ai W w:=by
 have hp:=Pn hr;refine aiq (acK hp hc) hc.1 (af8 hc) (fun x hx=>Co (hp.fit x hx).1) (by have:=hp.few;omega) f given fuel x hx v iv W hv hi gw hl hf hf2
def ZF (s:List UInt8) (W:World) (e:Ending) (w:World):Prop :=
 ((∃L a c,e=.returned (.tuple #[.slice a L.length c,.bool true])/\s.length<=1200/\zB s (.ok L)/\uo L/\lU w ai (.slice a L.length c) L/\Bg w L (.slice a L.length c))\/(∃a n c,e=.returned (.tuple #[.slice a n c,.bool false])))/\ag ai W w
theorem R9 (hc:uo L) (v:Value) (W:World) (hL:lU W ai v L):Calls prog 15 #[v] W fun e w=>e=.returned .nilIface/\ag ai W w :=
 (R8 L v W hL).mono fun e w h=>⟨h.1.elim (fun k=>k.2) (fun k=>absurd hc k.1),h.2⟩
theorem aaL (hc:¬uo L) (v:Value) (W:World) (hL:lU W ai v L):Calls prog 15 #[v] W fun e w=>(∃t p,e=.returned (.iface t p))/\ag ai W w :=
 (R8 L v W hL).mono fun e w h=>⟨h.1.elim (fun k=>absurd k.1 hc) (fun k=>k.2),h.2⟩
theorem aic (s:List UInt8) (W:World) (hL:Laid W) (hs:s.length<=9223372036854775807) :
 Calls prog 20 #[str s] W (ZF s W):=by
 by_cases fM:1200<s.length
 ·unfold str
  have My:(1200:Int)<(s.length:Int):=by omega
  go_in;go_wp2_with fail;go_ret2;exact⟨Or.inr ⟨_,_,_,rfl⟩,ag.refl _ _⟩
 ·have My:¬(1200:Int)<(s.length:Int):=by omega
  obtain⟨x,hx⟩:=ahZ s;cases x with
  | error p =>
    have bP:=af (Wh W hL (by omega) hx);obtain⟨bz,pa⟩:=p;clear hL hx;unfold str at *;go_in;go_wp2_with fail;refine bP.mono ?_;rintro e w1 ⟨g,rfl,hb,aO⟩;have aD:=af aO;clear hb aO;go_wp2_with fail
    go_quiet (fail)
    go_wp2;go_ret2;exact⟨Or.inr ⟨_,_,_,rfl⟩,aD.drewN _⟩
  | ok L =>
    have bP:=af (ahu W hL (by omega) hx);have aj:=af hx;clear hL hx;unfold str at *;go_in;go_wp2_with fail;refine bP.mono ?_;rintro e w1 ⟨a,c,rfl,hv,aO⟩;have aD:=af aO;have bQ:=af hv;have bb:=af hv.fs;clear hv aO;by_cases FT:uo L
    ·have aU:=af (fun (w:World) (hm:ag ai w1 w)=>R9 FT _ w (bb.mods hm (fun _ _ f=>f)))
     have pO:=af FT;clear FT;go_wp2_with fail
     go_region_with (first|(go_at_call 15;refine (aU _ ay.drew).mono ?_;rintro e w2 ⟨rfl,aN⟩;have bJ:=af aN;clear aN))
     go_wp2;go_ret2;have hm:ag ai w1 w2:=(ag.refl ai w1).drew.trans bJ;exact⟨Or.inl ⟨L,_,_,rfl,by omega,aj,pO,bb.mods hm (fun _ _ f=>f),bQ.next hm⟩,aD.trans hm⟩
    ·have aU:=af (fun (w:World) (hm:ag ai w1 w)=>aaL FT _ w (bb.mods hm (fun _ _ f=>f)))
     clear FT;go_wp2_with fail
     go_region_with (first|(go_at_call 15;refine (aU _ ay.drew).mono ?_;rintro e w2 ⟨⟨pt,pp,rfl⟩,aN⟩;have bJ:=af aN;clear aN))
     go_wp2;go_ret2;exact⟨Or.inr ⟨_,_,_,rfl⟩,aD.trans ((ag.refl ai w1).drew.trans bJ)⟩
end aB
namespace aW.iP
open Go.RowKit aB aW Go.Proofs.Tryz
variable {F:ar} {s t:aC} {e:cz} {g:List UInt8} {vs:List V} {L:List ar} {i j:Nat} {u v:bp} {α:Type} {m:Int}
def dr {α:Type} (g:Nat->Option α) (r:α):Prop:=∃n0,∀n,n0<=n->g n=some r
def Reach (L:List ar) (F:ar) (i:Nat) (v:bp) (s:aC) (i':Nat) (v':bp) (s':aC):Prop:=∀r,dr (fun n=>dw L n s' F v' i') r->dr (fun n=>dw L n s F v i) r
def Ends (L:List ar) (F:ar) (i:Nat) (v:bp) (s:aC) (r:Except cz Int×aC):Prop:=dr (fun n=>dw L n s F v i) r
theorem Reach.refl (L:List ar) (F:ar) (i:Nat) (v:bp) (s:aC):Reach L F i v s i v s:=fun r h=>h
theorem Reach.trans {k:Nat} {w:bp} {z:aC} (h:Reach L F i u s j v t) (h2:Reach L F j v t k w z):Reach L F i u s k w z:=fun r hr=>h r (h2 r hr)
theorem Reach.ends {r:Except cz Int×aC} (h:Reach L F i u s j v t) (h2:Ends L F j v t r):Ends L F i u s r:=h r h2
def less (s:aC):aC:={ s with fuel:=s.fuel-1 }
theorem ox (h:s.fuel≠0):eI s=some (.ok (),less s):=by
 unfold eI;rw[if_neg h];rfl
section
variable {L:List ar} {F:ar} {i:Nat} {v v':bp} {s s':aC} {x:ax}
theorem Ei {g g':Nat->Option α} {r:α} (h:dr g r) (hg:∀n,g' (n+1)=g n):dr g' r:=by
 obtain⟨n0,h⟩:=h;refine⟨n0+1,fun n hn=>?_⟩;obtain⟨m,rfl⟩:∃m,n=m+1:=⟨n-1,by omega⟩;rw[hg];exact h m (by omega)
theorem PE {g:Nat->Option α} {r:α} (h:∀n,g (n+1)=some r):dr g r:=by
 refine⟨1,fun n hn=>?_⟩;obtain⟨m,rfl⟩:∃m,n=m+1:=⟨n-1,by omega⟩;exact h m
theorem Ay (hx:F.steps[i]?=some x) (hc:x.code≠4/\x.code≠5/\x.code≠7/\x.code≠8) (hf:s.fuel≠0) (hm:cq v x (less s)=some (.ok v',s')):Reach L F i v s (i+1) v' s':=by
 intro r h;refine Ei h (fun n=>?_);simp only[dw,hx,ox hf,aS,if_neg hc.1,if_neg hc.2.1,if_neg hc.2.2.1,if_neg hc.2.2.2,hm]
theorem Mk (hx:F.steps[i]?=some x) (hc:x.code≠4/\x.code≠5/\x.code≠7/\x.code≠8) (hf:s.fuel≠0) (hm:cq v x (less s)=some (.error e,s')):Ends L F i v s (.error e,s'):=by
 refine PE (fun n=>?_);simp only[dw,hx,ox hf,aS,if_neg hc.1,if_neg hc.2.1,if_neg hc.2.2.1,if_neg hc.2.2.2,hm]
theorem WB (hx:F.steps[i]?=some x) (hc:x.code=4) (hf:s.fuel≠0):Reach L F i v s (jD F x.label+1) v (less s):=by
 intro r h;refine Ei h (fun n=>?_);simp only[dw,hx,ox hf,aS,if_pos hc]
theorem Kw (hx:F.steps[i]?=some x) (hc:x.code=5) (hf:s.fuel≠0) (hz:(v.get x.a).n=0):Reach L F i v s (jD F x.label+1) v (less s):=by
 intro r h;refine Ei h (fun n=>?_);simp only[dw,hx,ox hf,aS,if_neg (show ¬x.code=4 by omega),if_pos hc,if_pos hz]
theorem Kv (hx:F.steps[i]?=some x) (hc:x.code=5) (hf:s.fuel≠0) (hz:(v.get x.a).n≠0):Reach L F i v s (i+1) v (less s):=by
 intro r h;refine Ei h (fun n=>?_);simp only[dw,hx,ox hf,aS,if_neg (show ¬x.code=4 by omega),if_pos hc,if_neg hz]
theorem Ss (hx:F.steps[i]?=some x) (hc:x.code=8) (hf:s.fuel≠0):Ends L F i v s (.ok (v.get x.a).n,less s):=by
 refine PE (fun n=>?_);simp only[dw,hx,ox hf,aS,if_neg (show ¬x.code=4 by omega),if_neg (show ¬x.code=5 by omega),if_neg (show ¬x.code=7 by omega),if_pos hc,a6]
theorem ahU (hx:F.steps[i]?=some x) (hc:x.code=7) (hf:s.fuel≠0) (hm:dr (fun n=>dS L n (less s) x.name (x.args.map v.get)) (.ok m,s')):Reach L F i v s (i+1) (v.put x.dst (bN m)) s':=by
 intro r h;obtain⟨n1,h1⟩:=hm;obtain⟨n2,h2⟩:=h;refine⟨max n1 n2+1,fun n hn=>?_⟩;obtain⟨k,rfl⟩:∃k,n=k+1:=⟨n-1,by omega⟩;simp only[dw,hx,ox hf,aS,if_neg (show ¬x.code=4 by omega),if_neg (show ¬x.code=5 by omega),if_pos hc,h1 k (by omega)];exact h2 k (by omega)
theorem abd (hx:F.steps[i]?=some x) (hc:x.code=7) (hf:s.fuel≠0) (hm:dr (fun n=>dS L n (less s) x.name (x.args.map v.get)) (.error e,s')):Ends L F i v s (.error e,s'):=by
 obtain⟨n1,h1⟩:=hm;refine⟨n1+1,fun n hn=>?_⟩;obtain⟨k,rfl⟩:∃k,n=k+1:=⟨n-1,by omega⟩;simp only[dw,hx,ox hf,aS,if_neg (show ¬x.code=4 by omega),if_neg (show ¬x.code=5 by omega),if_pos hc,h1 k (by omega)]
theorem R2 (hs:s.calls≠40) (h:Ends L (kI L g) 0 (gR vs (kI L g).types.length) { s with calls:=s.calls+1 } (.ok m,s')):dr (fun n=>dS L n s g vs) (.ok m,{ s' with calls:=s'.calls-1 }):=by
 refine Ei (g:=fun n=>aS (dw L n { s with calls:=s.calls+1 } (kI L g) (gR vs (kI L g).types.length) 0) fun n t=>a6 n { t with calls:=t.calls-1 }) ?_ (fun n=>by simp only[dS,if_neg hs]);obtain⟨n0,h⟩:=h;exact⟨n0,fun n hn=>by simp only[h n hn,aS,a6]⟩
theorem aaA (hs:s.calls≠40) (h:Ends L (kI L g) 0 (gR vs (kI L g).types.length) { s with calls:=s.calls+1 } (.error e,s')):dr (fun n=>dS L n s g vs) (.error e,s'):=by
 refine Ei (g:=fun n=>aS (dw L n { s with calls:=s.calls+1 } (kI L g) (gR vs (kI L g).types.length) 0) fun n t=>a6 n { t with calls:=t.calls-1 }) ?_ (fun n=>by simp only[dS,if_neg hs]);obtain⟨n0,h⟩:=h;exact⟨n0,fun n hn=>by simp only[h n hn,aS]⟩
theorem aav (hs:s.calls=40):dr (fun n=>dS L n s g vs) (.error (.stop 5),s) :=
 PE (fun n=>by simp only[dS,if_pos hs,eP])
end
def w5 (l:List ax):Prop:=∀ (i j:Nat) (x y:ax),l[i]?=some x->l[j]?=some y->x.code=6->y.code=6->x.label=y.label->i=j
theorem Vv:(l:List ax)->(mH:Int)->(i k p:Nat)->(∀ (j:Nat) (y:ax),l[j]?=some y->y.code=6->y.label=mH->i+j=p)->(∃ (j:Nat) (y:ax),l[j]?=some y/\y.code=6/\y.label=mH)->fq l mH i k=p
 | [],mH,i,k,p,h,⟨j,y,hy,_⟩=>by simp at hy
 | a::r,mH,i,k,p,h,⟨j,y,hy,DO,j6⟩=>by
   simp only[fq];by_cases hr:∃ (j:Nat) (y:ax),r[j]?=some y/\y.code=6/\y.label=mH
   ·exact Vv r mH (i+1) _ p (fun j y e1 e2 e3=>by have:=h (j+1) y (by simpa using e1) e2 e3;omega) hr
   ·have h0:∀ (l:List ax) (i k:Nat),(¬∃ (j:Nat) (y:ax),l[j]?=some y/\y.code=6/\y.label=mH)->fq l mH i k=k:=by
        intro l;induction l with
        | nil=>intro i k _;rfl
        | cons b t ih =>
          intro i k hn;simp only[fq];rw[if_neg (fun e=>hn ⟨0,b,rfl,e⟩)];exact ih _ _ (fun ⟨j,y,e1,e2⟩=>hn ⟨j+1,y,by simpa using e1,e2⟩)
    rw[h0 r _ _ hr];cases j with
    | zero =>
      obtain rfl:a=y:=(by simpa using hy);rw[if_pos ⟨DO,j6⟩];exact h 0 a rfl DO j6
    | succ j=>exact (hr ⟨j,y,by simpa using hy,DO,j6⟩).elim
theorem C5 (hU:w5 F.steps) {p:Nat} {x:ax} (hx:F.steps[p]?=some x) (hc:x.code=6):jD F x.label=p :=
 Vv F.steps x.label 0 0 p (fun j y e1 e2 e3=>by have:=hU p j x y hx e1 hc e2 e3.symm;omega) ⟨p,x,hx,hc,rfl⟩

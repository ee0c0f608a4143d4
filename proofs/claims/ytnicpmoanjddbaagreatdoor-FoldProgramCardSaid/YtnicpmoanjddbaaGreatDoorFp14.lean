/- A part of what stands behind. -/
import Derived.Test.YtnicpmoanjddbaaGreatDoorFp13
import Derived.Laws.CopyOwn
set_option maxRecDepth 100000
set_option maxHeartbeats 4000000
set_option linter.all false
namespace Go.Proofs.YtnicpmoanjddbaaGreatDoor
namespace aW
open Go.RowKit bB Go.Maps aB Go.Proofs.Tryz
variable {L:List ar} {F f:ar} {x:ax} {P M M':Nat->Prop} {g b ak:Nat} {W w:World} {A aK:List (Nat×Nat)} {s:aC} {v:bp} {p:Int}
theorem GX (h:bO f p > 0):∃n:Nat,p=n/\n<f.types.length:=by
 unfold bO at h;split at h
 ·omega
 ·rename_i h2
  exact⟨p.toNat,by omega,by omega⟩
theorem oT {t:Int} (ht:t > 0) (h:bu f t p=true):∃n:Nat,p=n/\n<f.types.length:=by
 apply GX;unfold bu at h;simp only[ht,decide_true,Bool.true_and,Bool.not_eq_true',bne_eq_false_iff_eq]at h;rw[h];exact ht
def nX (g:Nat) (P:Nat->Prop):bp->(Nat->Prop)->List (Nat×Nat)->Ending->World->Prop:=fun v M A e w=>e=.returned (.tuple #[])/\pd w P M A g v
def vy (L:List ar) (F:ar) (x:ax):Prop:=∀ (v:bp) (b ak g c:Nat) (P M:Nat->Prop) (A:List (Nat×Nat)) (s:aC) (W:World) (bq:Value) (r:Except cz bp×aC),bt W b ak L P M A s->pd W P M A g v->v.length=F.types.length->v.length<=c->c<=1000000->dF W (fun k=>¬P k) x bq->cx L F x=true->cq v x s=some r ->
 Calls prog 52 #[.pointer (some ⟨b,0,none⟩),.slice (some ⟨g,0,none⟩) v.length c,bq] W (dP W b ak L P (·=g) M A (nX g P) r)
structure eD (W0 w:World) (P M:Nat->Prop) (g q:Nat) (cs:List Value):Prop where
 blk:aw w q cs 57
 nm:¬M q/\¬P q
 cQ:q≠g
 at_:W0.heap.size<=q
theorem eD.step {W0 w':World} {T:Nat->Prop} {q:Nat} {cs:List Value} (h:eD W0 w P M g q cs) (bT:Ext T M M' w w') (hT:¬T q):eD W0 w' P M' g q cs :=
 ⟨(nr h.blk bT h.nm.1 hT).1,⟨(nr h.blk bT h.nm.1 hT).2,h.nm.2⟩,h.cQ,h.at_⟩
theorem eD.new (h:bt W b ak L P M A s) (hv:pd W P M A g v) (cs:List Value):eD W (W.alloc (.cells cs.toArray 57)) P M g W.heap.size cs:=by
 refine⟨?_,⟨fun hm=>absurd (h.old _ hm) (an5 _),fun hp=>absurd (h.given _ hp) (an5 _)⟩,?_,anD _⟩
 ·have:=aw.new W cs.toArray 57
  simpa using this
 ·obtain⟨L9,k1,_⟩:=hv
  have:=k1.lt;omega
theorem ajk (hc:x.code=1):vy L F x:=by
 intro v b ak g c P M A s W bq r h hv fA kP hc1 hx aZ hr;obtain⟨aa,ac,rfl,cC⟩:=hx;have hf:bu F 1 x.dst=true:=by
  unfold cx at aZ;simp only[hc,cp]at aZ;simp at aZ;exact aZ.1.1.1
 obtain⟨p,hp,hpl⟩:=oT (by omega) hf;unfold cq at hr;rw[if_pos hc]at hr;obtain rfl:=(anz hr).symm;obtain⟨ba,kD,bL,ib,fY,xn,d_,fJ,fO,xs⟩:=x;simp only at hc hp;subst hc hp;simp only;obtain⟨W1,hW1⟩:=aq (W.alloc (.cells (aY ⟨1,(p:Int),bL,ib,fY,xn,d_,fJ,fO,xs⟩ (.slice aa xs.length ac)).toArray 57));have az:ag ai W W1:=by rw[hW1];exact ay.alloc _
 have HS:Hid (eD W W1 P M g W.heap.size (aY ⟨1,(p:Int),bL,ib,fY,xn,d_,fJ,fO,xs⟩ (.slice aa xs.length ac))):=af (by rw[hW1];exact eD.new h hv _);have aP:=af (h.quiet az);have bQ:=af (hv.ext (Ext.quiet (T:=ai) az) id (anB A));have c0:W1.cell? ⟨W.heap.size,0,none⟩=some (.int .i64 1):=HS.blk.ah 0;have c1:W1.cell? ⟨W.heap.size,1,none⟩=some (.int .i64 (p:Int)):=HS.blk.ah 1;have c5:W1.cell? ⟨W.heap.size,5,none⟩=some (.int .i64 xn):=HS.blk.ah 5;obtain⟨u,w,d0,d1,-⟩:=bQ.get (p:=p) (by omega);have z0:W1.frozen? ⟨g,p*2,none⟩=false:=by obtain⟨cs,h1,_⟩:=bQ.out;exact h1.free _
 have cS:W1.frozen? ⟨g,p*2+1,none⟩=false:=by obtain⟨cs,h1,_⟩:=bQ.out;exact h1.free _
 have B5:(p:Int)<(v.length:Int):=by omega
 obtain⟨n,hn⟩:=aq (v.length);have aT:=af hn;have a_:Hid (Ext (·=g) M M W W1):=af (Ext.quiet az);have HP:=af (show p<v.length by omega);rw[<-hn]at B5 kP ⊢;clear h hv hr aZ hf az fA hpl cC hn;unfold aY str at *;unfold dP nX;go_in;go_upto_region 1 with (fail)
 rw[<-hW1];clear hW1;go_wp2_with fail;go_end0;have hput:=bQ.put (p:=p) HP (x:=bN xn) (u:=.int .i64 xn) (w:=.slice none 0 0) (Or.inl ⟨rfl,rfl⟩);exact⟨M,A,⟨rfl,hput.1⟩,aP.aside hput.2 (fun k hk=>by obtain⟨cs,_,_,_,k4,gU⟩:=bQ.out;rw[hk];exact⟨k4,gU⟩),a_.trans (Ext.aside hput.2 (fun _ _ f=>f)),anB _⟩
theorem Ax {w2:World} {p:Nat} {x:V} {u y:Value} (aP:bt w b ak L P M' aK s) (bQ:pd w P M' aK g v) (a_:Ext (·=g) M M' W w) (hA:A <+: aK) (hp:p<v.length) (hx:iW aK x (.agg #[u,y])) (hm:ag ai ((w.setCell ⟨g,p*2,none⟩ u).setCell ⟨g,p*2+1,none⟩ y) w2) :
 dP W b ak L P (·=g) M A (nX g P) (.ok (v.put (p:Int) x),s) (.returned (.tuple #[])) w2:=by
 have hput:=bQ.put hp (x:=x) (u:=u) (w:=y) hx;have yx:¬M' g/\¬P g:=by obtain⟨cs,_,_,_,k4,gU⟩:=bQ;exact⟨k4,gU⟩
 exact⟨M',aK,⟨rfl,hput.1.ext (Ext.quiet (T:=ai) hm) id (anB _)⟩,(aP.aside hput.2 (fun k hk=>by rw[hk];exact yx)).quiet hm,a_.trans ((Ext.aside hput.2 (fun _ _ f=>f)).trans (Ext.quiet hm)),hA⟩
theorem Po (aP:bt w b ak L P M' aK s) (bQ:pd w P M' aK g v) (a_:Ext (·=g) M M' W w) (hA:A <+: aK) :
 dP W b ak L P (·=g) M A (nX g P) (.ok v,s) (.returned (.tuple #[])) w:=⟨M',aK,⟨rfl,bQ⟩,aP,a_,hA⟩
theorem y3 {B:Nat} {e:TypeId} {size n:Nat} {v:Value} {vs:List Value} (h:W.ownsRow B e size v n vs):∃aG aF,v=.slice aG n aF:=by
 rcases h.2 with⟨hv,h0⟩|⟨g,cap,cur,hv,_⟩
 ·exact⟨_,_,by rw[hv,h0]⟩
 ·exact⟨_,_,hv⟩
theorem ajl (hc:x.code=2):vy L F x:=by
 intro v b ak g c P M A s W bq r h hv fA kP hc1 hx aZ hr;obtain⟨aa,ac,rfl,cC⟩:=hx;unfold cx at aZ;rw[if_pos hc]at aZ;simp only[anX,decide_eq_true_eq,beq_iff_eq]at aZ;obtain⟨dD,nk,sy⟩:=GX aZ.1;obtain⟨pa,jt,ot⟩:=GX (by rw[<-aZ.2];exact aZ.1);unfold cq at hr;rw[if_neg (by omega),if_pos hc]at hr;obtain rfl:=(anz hr).symm;obtain⟨ba,kD,bL,ib,fY,xn,d_,fJ,fO,xs⟩:=x;simp only at hc nk jt hr;subst hc nk jt;simp only at hr ⊢;obtain⟨W1,hW1⟩:=aq (W.alloc (.cells (aY ⟨2,(dD:Int),(pa:Int),ib,fY,xn,d_,fJ,fO,xs⟩ (.slice aa xs.length ac)).toArray 57));have az:ag ai W W1:=by rw[hW1];exact ay.alloc _
 have HS:Hid (eD W W1 P M g W.heap.size (aY ⟨2,(dD:Int),(pa:Int),ib,fY,xn,d_,fJ,fO,xs⟩ (.slice aa xs.length ac))):=af (by rw[hW1];exact eD.new h hv _);have aP:=af (h.quiet az);have bQ:=af (hv.ext (Ext.quiet (T:=ai) az) id (anB A));have a_:Hid (Ext (·=g) M M W W1):=af (Ext.quiet az);have c0:W1.cell? ⟨W.heap.size,0,none⟩=some (.int .i64 2):=HS.blk.ah 0;have kd:W1.cell? ⟨W.heap.size,1,none⟩=some (.int .i64 (dD:Int)):=HS.blk.ah 1;obtain⟨Es,wd,Db,Dc,Fb⟩:=bQ.get (p:=dD) (by omega);have ql:(dD:Int)<(v.length:Int):=by omega
 have s3:=af (show dD<v.length by omega);clear sy;have ka:W1.cell? ⟨W.heap.size,2,none⟩=some (.int .i64 (pa:Int)):=HS.blk.ah 2;obtain⟨AJ,sL,s7,xf,j0⟩:=bQ.get (p:=pa) (by omega);have bg:(pa:Int)<(v.length:Int):=by omega
 have CX:=af (show pa<v.length by omega);clear ot;have z0:W1.frozen? ⟨g,dD*2,none⟩=false:=by obtain⟨cs,h1,_⟩:=bQ.out;exact h1.free _
 have cS:W1.frozen? ⟨g,dD*2+1,none⟩=false:=by obtain⟨cs,h1,_⟩:=bQ.out;exact h1.free _
 have Ze:=af j0;obtain⟨k,pK,tQ,hy,Ol,Al⟩:=j0.len aP;simp only[Value.agg.injEq,Array.mk.injEq,List.cons.injEq,and_true]at hy;obtain⟨rfl,rfl⟩:=hy;clear Ol j0;obtain⟨n,hn⟩:=aq (v.length);have aT:=af hn;rw[<-hn]at ql bg kP ⊢;clear h hv aZ az fA cC hn;unfold aY str at *;unfold dP nX;go_in;go_upto_region 1 with (fail)
 rw[<-hW1];clear hW1;go_wp2_with fail;go_region;go_end0;exact Ax aP bQ a_ (anB A) s3 (x:=v.get (pa:Int)) (u:=.int .i64 k) (y:=.slice pK tQ tQ) Ze (by first|exact ag.refl _ _|exact ay.drew|exact ay.drew.drew|exact ay.drewN _)
theorem ajo (hc:x.code=10):vy L F x:=by
 intro v b ak g c P M A s W bq r h hv fA kP hc1 hx aZ hr;obtain⟨aa,ac,rfl,cC⟩:=hx;have hf:bu F ((cp x.code).getD 0 0) x.dst=true/\bu F ((cp x.code).getD 1 0) x.a=true/\bu F ((cp x.code).getD 2 0) x.b=true/\bu F ((cp x.code).getD 3 0) x.c=true:=by
  unfold cx at aZ;rw[if_neg (by omega),if_neg (by omega),if_neg (by omega)]at aZ;simp only[anX]at aZ;exact⟨aZ.1.1.1.1.1,aZ.1.1.1.1.2,aZ.1.1.1.2,aZ.1.1.2⟩
 rw[hc]at hf;obtain⟨dD,nk,sy⟩:=oT (t:=1) (by omega) (by simpa [cp] using hf.1);obtain⟨pa,jt,ot⟩:=oT (t:=2) (by omega) (by simpa [cp] using hf.2.1);clear hf;unfold cq at hr;rw[if_neg (by omega),if_neg (by omega),if_neg (by omega),if_neg (by omega),if_pos hc]at hr;obtain rfl:=(anz hr).symm;obtain⟨ba,kD,bL,ib,fY,xn,d_,fJ,fO,xs⟩:=x;simp only at hc nk jt hr;subst hc nk jt;simp only at hr ⊢;obtain⟨W1,hW1⟩:=aq (W.alloc (.cells (aY ⟨10,(dD:Int),(pa:Int),ib,fY,xn,d_,fJ,fO,xs⟩ (.slice aa xs.length ac)).toArray 57));have az:ag ai W W1:=by rw[hW1];exact ay.alloc _
 have HS:Hid (eD W W1 P M g W.heap.size (aY ⟨10,(dD:Int),(pa:Int),ib,fY,xn,d_,fJ,fO,xs⟩ (.slice aa xs.length ac))):=af (by rw[hW1];exact eD.new h hv _);have aP:=af (h.quiet az);have bQ:=af (hv.ext (Ext.quiet (T:=ai) az) id (anB A));have a_:Hid (Ext (·=g) M M W W1):=af (Ext.quiet az);have c0:W1.cell? ⟨W.heap.size,0,none⟩=some (.int .i64 10):=HS.blk.ah 0;have kd:W1.cell? ⟨W.heap.size,1,none⟩=some (.int .i64 (dD:Int)):=HS.blk.ah 1;obtain⟨Es,wd,Db,Dc,Fb⟩:=bQ.get (p:=dD) (by omega);have ql:(dD:Int)<(v.length:Int):=by omega
 have s3:=af (show dD<v.length by omega);clear sy;have ka:W1.cell? ⟨W.heap.size,2,none⟩=some (.int .i64 (pa:Int)):=HS.blk.ah 2;obtain⟨AJ,sL,s7,xf,j0⟩:=bQ.get (p:=pa) (by omega);have bg:(pa:Int)<(v.length:Int):=by omega
 have CX:=af (show pa<v.length by omega);clear ot;have z0:W1.frozen? ⟨g,dD*2,none⟩=false:=by obtain⟨cs,h1,_⟩:=bQ.out;exact h1.free _
 have cS:W1.frozen? ⟨g,dD*2+1,none⟩=false:=by obtain⟨cs,h1,_⟩:=bQ.out;exact h1.free _
 obtain⟨k,pK,tQ,hy,Ol,Al⟩:=j0.len aP;simp only[Value.agg.injEq,Array.mk.injEq,List.cons.injEq,and_true]at hy;obtain⟨rfl,rfl⟩:=hy;rw[Ol];obtain⟨n,hn⟩:=aq (v.length);have aT:=af hn;rw[<-hn]at ql bg kP ⊢;clear h hv aZ az fA cC hn;unfold aY str at *;unfold dP nX;go_in;go_upto_region 1 with (fail)
 rw[<-hW1];clear hW1;go_wp2_with fail;go_region;go_end0;exact Ax aP bQ a_ (anB A) s3 (x:=bN (tQ:Int)) (u:=.int .i64 (tQ:Int)) (y:=.slice none 0 0) (Or.inl ⟨rfl,rfl⟩) (by first|exact ag.refl _ _|exact ay.drew|exact ay.drew.drew|exact ay.drewN _)
theorem ajt (hc:x.code=3):vy L F x:=by
 intro v b ak g c P M A s W bq r h hv fA kP hc1 hx aZ hr;obtain⟨aa,ac,rfl,cC⟩:=hx;have hf:bu F ((cp x.code).getD 0 0) x.dst=true/\bu F ((cp x.code).getD 1 0) x.a=true/\bu F ((cp x.code).getD 2 0) x.b=true/\bu F ((cp x.code).getD 3 0) x.c=true:=by
  unfold cx at aZ;rw[if_neg (by omega),if_neg (by omega),if_neg (by omega)]at aZ;simp only[anX]at aZ;exact⟨aZ.1.1.1.1.1,aZ.1.1.1.1.2,aZ.1.1.1.2,aZ.1.1.2⟩
 rw[hc]at hf;obtain⟨dD,nk,sy⟩:=oT (t:=1) (by omega) (by simpa [cp] using hf.1);obtain⟨pa,jt,ot⟩:=oT (t:=1) (by omega) (by simpa [cp] using hf.2.1);obtain⟨pb,j5,Ac⟩:=oT (t:=1) (by omega) (by simpa [cp] using hf.2.2.1);clear hf;unfold cq at hr;rw[if_neg (by omega),if_neg (by omega),if_pos hc]at hr;obtain⟨ba,kD,bL,ib,fY,xn,d_,fJ,fO,xs⟩:=x;simp only at hc nk jt j5 hr;subst hc nk jt j5;simp only at hr ⊢;obtain⟨W1,hW1⟩:=aq (W.alloc (.cells (aY ⟨3,(dD:Int),(pa:Int),(pb:Int),fY,xn,d_,fJ,fO,xs⟩ (.slice aa xs.length ac)).toArray 57));have az:ag ai W W1:=by rw[hW1];exact ay.alloc _
 have HS:Hid (eD W W1 P M g W.heap.size (aY ⟨3,(dD:Int),(pa:Int),(pb:Int),fY,xn,d_,fJ,fO,xs⟩ (.slice aa xs.length ac))):=af (by rw[hW1];exact eD.new h hv _);have aP:=af (h.quiet az);have bQ:=af (hv.ext (Ext.quiet (T:=ai) az) id (anB A));have a_:Hid (Ext (·=g) M M W W1):=af (Ext.quiet az);have c0:W1.cell? ⟨W.heap.size,0,none⟩=some (.int .i64 3):=HS.blk.ah 0;have kd:W1.cell? ⟨W.heap.size,1,none⟩=some (.int .i64 (dD:Int)):=HS.blk.ah 1;obtain⟨Es,wd,Db,Dc,Fb⟩:=bQ.get (p:=dD) (by omega);have ql:(dD:Int)<(v.length:Int):=by omega
 have s3:=af (show dD<v.length by omega);clear sy;have ka:W1.cell? ⟨W.heap.size,2,none⟩=some (.int .i64 (pa:Int)):=HS.blk.ah 2;obtain⟨AJ,sL,s7,xf,j0⟩:=bQ.get (p:=pa) (by omega);have bg:(pa:Int)<(v.length:Int):=by omega
 have CX:=af (show pa<v.length by omega);clear ot;have kb:W1.cell? ⟨W.heap.size,3,none⟩=some (.int .i64 (pb:Int)):=HS.blk.ah 3;obtain⟨AK,eA,Fu,Sl,yb⟩:=bQ.get (p:=pb) (by omega);have wH:(pb:Int)<(v.length:Int):=by omega
 have Ro:=af (show pb<v.length by omega);clear Ac;have z0:W1.frozen? ⟨g,dD*2,none⟩=false:=by obtain⟨cs,h1,_⟩:=bQ.out;exact h1.free _
 have cS:W1.frozen? ⟨g,dD*2+1,none⟩=false:=by obtain⟨cs,h1,_⟩:=bQ.out;exact h1.free _
 obtain⟨pK,sB⟩:=j0.num;simp only[Value.agg.injEq,Array.mk.injEq,List.cons.injEq,and_true]at sB;obtain⟨rfl,rfl⟩:=sB;obtain⟨XJ,Am⟩:=yb.num;simp only[Value.agg.injEq,Array.mk.injEq,List.cons.injEq,and_true]at Am;obtain⟨rfl,rfl⟩:=Am;obtain⟨eV,oX⟩:=aq ((v.get (pa:Int)).n);rw[<-oX]at s7 j0 hr;clear oX;obtain⟨nb,xy⟩:=aq ((v.get (pb:Int)).n);rw[<-xy]at Fu yb hr;clear xy;have c6:W1.cell? ⟨W.heap.size,6,none⟩=some (str d_):=HS.blk.ah 6;obtain⟨k,w,F6⟩:∃k w,dA d_ eV nb=(k,w):=⟨_,_,rfl⟩;have zk:=af (fun (n:Nat)=>(VO d_ eV nb (W1.drewN n)).mono fun (e:Ending) (w:World) ⟨h1,h2⟩=>(⟨h1,n,h2.symm⟩:e=Ending.returned (Ea (dA d_ eV nb))/\∃m,w=W1.drewN m));rw[F6]at hr zk;unfold Ea str at zk;simp only at hr;have aj:=af hr;clear hr F6 j0 yb;obtain⟨n,hn⟩:=aq (v.length);have aT:=af hn;rw[<-hn]at ql bg wH kP ⊢;clear h hv aZ az fA cC hn;unfold aY str at *;unfold dP nX;go_in;go_upto_region 1 with (fail)
 rw[<-hW1];clear hW1;go_wp2_with fail
 go_quiet ((go_at_call 83;exact zk _))
 by_cases hw:w=0
 ·have hX:=aj.out
  rw[if_neg (by omega)]at hX;obtain rfl:=(anz hX).symm;have hw0:(w != 0)=false:=by simp[hw]
  clear hX aj hw;go_wp2_with fail;go_end0;exact Ax aP bQ a_ (anB A) s3 (x:=bN k) (u:=.int .i64 k) (y:=.slice none 0 0) (Or.inl ⟨rfl,rfl⟩) (by first|exact ag.refl _ _|exact ay.drew|exact ay.drew.drew|exact ay.drewN _)
 ·have hX:=aj.out
  rw[if_pos hw]at hX;obtain rfl:=(anz hX).symm;have hw0:(w != 0)=true:=by simp[hw]
  clear hX aj hw;go_wp2_with fail;refine (kT w _).mono ?_;rintro e bw ⟨⟨aV,rfl⟩,rfl⟩;go_wp2;exact⟨rfl,⟨aV,rfl⟩,M,A,aP.quiet (ay.drewN _),a_.trans (Ext.quiet (ay.drewN _)),anB _⟩
theorem ajr (hc:x.code=13):vy L F x:=by
 intro v b ak g c P M A s W bq r h hv fA kP hc1 hx aZ hr;obtain⟨aa,ac,rfl,cC⟩:=hx;have hf:bu F ((cp x.code).getD 0 0) x.dst=true/\bu F ((cp x.code).getD 1 0) x.a=true/\bu F ((cp x.code).getD 2 0) x.b=true/\bu F ((cp x.code).getD 3 0) x.c=true:=by
  unfold cx at aZ;rw[if_neg (by omega),if_neg (by omega),if_neg (by omega)]at aZ;simp only[anX]at aZ;exact⟨aZ.1.1.1.1.1,aZ.1.1.1.1.2,aZ.1.1.1.2,aZ.1.1.2⟩
 rw[hc]at hf;obtain⟨pa,jt,ot⟩:=oT (t:=1) (by omega) (by simpa [cp] using hf.2.1);clear hf;unfold cq at hr;rw[if_neg (by omega),if_neg (by omega),if_neg (by omega),if_neg (by omega),if_neg (by omega),if_neg (by omega),if_neg (by omega),if_pos hc]at hr;obtain⟨ba,kD,bL,ib,fY,xn,d_,fJ,fO,xs⟩:=x;simp only at hc jt hr;subst hc jt;simp only at hr ⊢;obtain⟨W1,hW1⟩:=aq (W.alloc (.cells (aY ⟨13,kD,(pa:Int),ib,fY,xn,d_,fJ,fO,xs⟩ (.slice aa xs.length ac)).toArray 57));have az:ag ai W W1:=by rw[hW1];exact ay.alloc _
 have HS:Hid (eD W W1 P M g W.heap.size (aY ⟨13,kD,(pa:Int),ib,fY,xn,d_,fJ,fO,xs⟩ (.slice aa xs.length ac))):=af (by rw[hW1];exact eD.new h hv _);have aP:=af (h.quiet az);have bQ:=af (hv.ext (Ext.quiet (T:=ai) az) id (anB A));have a_:Hid (Ext (·=g) M M W W1):=af (Ext.quiet az);have c0:W1.cell? ⟨W.heap.size,0,none⟩=some (.int .i64 13):=HS.blk.ah 0;have ka:W1.cell? ⟨W.heap.size,2,none⟩=some (.int .i64 (pa:Int)):=HS.blk.ah 2;obtain⟨AJ,sL,s7,xf,j0⟩:=bQ.get (p:=pa) (by omega);have bg:(pa:Int)<(v.length:Int):=by omega
 have CX:=af (show pa<v.length by omega);clear ot;obtain⟨pK,sB⟩:=j0.num;simp only[Value.agg.injEq,Array.mk.injEq,List.cons.injEq,and_true]at sB;obtain⟨rfl,rfl⟩:=sB;obtain⟨eV,oX⟩:=aq ((v.get (pa:Int)).n);rw[<-oX]at s7 j0 hr;clear oX;obtain⟨iv,ov,hb,-,hown,-⟩:=aP.blk;obtain⟨aG,aF,rfl⟩:=y3 hown;obtain⟨i0,hi,hz0,hz1,hz2⟩:=info_parts DS;have aI:=af (anw hi (anw hz0 (anw hz1 hz2)));have b4:W1.cell? ⟨b,4,none⟩=some (.slice aG s.out.length aF):=hb.cell rfl;have Fp:=hb.free 4;have hbl:=aP.old b aP.has;obtain⟨on,qf⟩:=aq (s.out.length);have oG:=af qf;rw[<-qf]at b4 hown hr;have Lo:=af hown;have aj:=af hr;clear hi hz0 hz1 hz2 hb hown qf hr j0;obtain⟨n,hn⟩:=aq (v.length);have aT:=af hn;rw[<-hn]at bg kP ⊢;clear h hv aZ az fA cC hn;unfold aY str at *;unfold dP nX;go_in;go_upto_region 1 with (fail)
 rw[<-hW1];clear hW1;by_cases hz:on>=200
 ·have jq:=aj.out
  rw[if_pos hz]at jq;obtain rfl:=(anz jq).symm;have hz1:(200:Int)<=(on:Int):=by omega
  clear jq aj hz;go_wp2_with fail;refine (kT 7 _).mono ?_;rintro e bw ⟨⟨aV,rfl⟩,rfl⟩;go_wp2;exact⟨rfl,⟨aV,rfl⟩,M,A,aP,a_,anB _⟩
 ·have jq:=aj.out
  rw[if_neg hz]at jq;obtain rfl:=(anz jq).symm;have hz1:¬(200:Int)<=(on:Int):=by omega
  have hz2:(on:Int)<200:=by omega
  have bF:=af hz;have bR:Hid (ag ai W1 (W1.alloc (.cells #[eV] 2)).drew):=af (ay.alloc _).drew;have fR:=af (bR.ownsRow Lo (fun k hk f=>f));have BI:b≠W1.heap.size:=by omega
  have FR:(W1.alloc (.cells #[eV] 2)).drew.cell? ⟨b,4,none⟩=some (.slice aG on aF):=bR.cellOf b4 id;have EL:=af FR;have XR:=af b4;clear jq aj hz FR;clear Fp BI b4;have c4:W1.cell? ⟨b,4,none⟩=some (.slice aG on aF):=XR.out;go_wp2_with fail
  go_region_law (refine G4 rfl (.tmp 158) (.tmp 165) 23 rfl 0 2 i0 _ 1 8 underlying23 aI.1 aI.2.1 aI.2.2.1 aI.2.2.2 rfl (by decide) (.slice aG on aF) on (s.out.map (Value.int .i64)) (by simp[Act.eval,Act.put]) fR ⟨W1.heap.size,0,none⟩ 1 1 [eV] (by simp[Act.eval,Act.put]) rfl (Cu _ _ _) (ints_oneCell .i64 [eV]) (by have:=bF.out;unfold maxLen;omega) (by have:=bF.out;omega) (anC _) ?_;intro v' a7 hown cr hloc;have b6:=af hown;have bZ:=af (py cr hloc);obtain⟨aao,akD⟩:=(aP.quiet bR).Pc EL bZ;clear hown cr hloc;obtain⟨bg,br,rfl⟩:=y3 b6)
  all_goals
   have hsz:s.out.length<200:=(by have h1:=bF.out;have h2:=oG.out;omega);obtain⟨IU,IG⟩:=(aP.quiet bR).told EL eV hsz (by rw[<-oG.out];exact b6) bZ;have kE:=af IU;have nE:=af ((Ext.quiet (T:=ai) bR).trans IG);go_wp2_with fail;go_end0;exact Po kE (bQ.ext nE id (anB _)) (a_.trans (nE.more fun _ _ f=>f.elim)) (anB _)
theorem ajq (hc:x.code=9):vy L F x:=by
 intro v b ak g c P M A s W bq r h hv fA kP hc1 hx aZ hr;obtain⟨aa,ac,rfl,cC⟩:=hx;have hf:bu F ((cp x.code).getD 0 0) x.dst=true/\bu F ((cp x.code).getD 1 0) x.a=true/\bu F ((cp x.code).getD 2 0) x.b=true/\bu F ((cp x.code).getD 3 0) x.c=true:=by
  unfold cx at aZ;rw[if_neg (by omega),if_neg (by omega),if_neg (by omega)]at aZ;simp only[anX]at aZ;exact⟨aZ.1.1.1.1.1,aZ.1.1.1.1.2,aZ.1.1.1.2,aZ.1.1.2⟩
 rw[hc]at hf;obtain⟨dD,nk,sy⟩:=oT (t:=2) (by omega) (by simpa [cp] using hf.1);obtain⟨pa,jt,ot⟩:=oT (t:=1) (by omega) (by simpa [cp] using hf.2.1);clear hf;unfold cq at hr;rw[if_neg (by omega),if_neg (by omega),if_neg (by omega),if_pos hc]at hr;obtain⟨ba,kD,bL,ib,fY,xn,d_,fJ,fO,xs⟩:=x;simp only at hc nk jt hr;subst hc nk jt;simp only at hr ⊢;obtain⟨W1,hW1⟩:=aq (W.alloc (.cells (aY ⟨9,(dD:Int),(pa:Int),ib,fY,xn,d_,fJ,fO,xs⟩ (.slice aa xs.length ac)).toArray 57));have az:ag ai W W1:=by rw[hW1];exact ay.alloc _
 have HS:Hid (eD W W1 P M g W.heap.size (aY ⟨9,(dD:Int),(pa:Int),ib,fY,xn,d_,fJ,fO,xs⟩ (.slice aa xs.length ac))):=af (by rw[hW1];exact eD.new h hv _);have aP:=af (h.quiet az);have bQ:=af (hv.ext (Ext.quiet (T:=ai) az) id (anB A));have a_:Hid (Ext (·=g) M M W W1):=af (Ext.quiet az);have c0:W1.cell? ⟨W.heap.size,0,none⟩=some (.int .i64 9):=HS.blk.ah 0;have kd:W1.cell? ⟨W.heap.size,1,none⟩=some (.int .i64 (dD:Int)):=HS.blk.ah 1;obtain⟨Es,wd,Db,Dc,Fb⟩:=bQ.get (p:=dD) (by omega);have ql:(dD:Int)<(v.length:Int):=by omega
 have s3:=af (show dD<v.length by omega);clear sy;have ka:W1.cell? ⟨W.heap.size,2,none⟩=some (.int .i64 (pa:Int)):=HS.blk.ah 2;obtain⟨AJ,sL,s7,xf,j0⟩:=bQ.get (p:=pa) (by omega);have bg:(pa:Int)<(v.length:Int):=by omega
 have CX:=af (show pa<v.length by omega);clear ot;have z0:W1.frozen? ⟨g,dD*2,none⟩=false:=by obtain⟨cs,h1,_⟩:=bQ.out;exact h1.free _
 have cS:W1.frozen? ⟨g,dD*2+1,none⟩=false:=by obtain⟨cs,h1,_⟩:=bQ.out;exact h1.free _
 obtain⟨pK,sB⟩:=j0.num;simp only[Value.agg.injEq,Array.mk.injEq,List.cons.injEq,and_true]at sB;obtain⟨rfl,rfl⟩:=sB;obtain⟨eV,oX⟩:=aq ((v.get (pa:Int)).n);rw[<-oX]at s7 j0 hr;clear oX;have aj:=af hr;obtain⟨i0,hi,hz0,hz1,hz2⟩:=info_parts DS;have aI:=af (anw hi (anw hz0 (anw hz1 hz2)));clear hr j0 hi hz0 hz1 hz2;obtain⟨n,hn⟩:=aq (v.length);have aT:=af hn;rw[<-hn]at ql bg kP ⊢;clear h hv aZ az fA cC hn;unfold aY str at *;unfold dP nX;go_in;go_upto_region 1 with (fail)
 rw[<-hW1];clear hW1;by_cases rf:eV<0
 ·have jq:=aj.out
  rw[if_pos (Or.inl rf:eV<0\/eV > 40)]at jq;obtain rfl:=(anz jq).symm;clear jq aj;go_wp2_with fail;refine (kT 4 _).mono ?_;rintro e bw ⟨⟨aV,rfl⟩,rfl⟩;go_wp2;exact⟨rfl,⟨aV,rfl⟩,M,A,aP,a_,anB _⟩
 ·by_cases vT:eV > 40
  ·have jq:=aj.out
   rw[if_pos (Or.inr vT:eV<0\/eV > 40)]at jq;obtain rfl:=(anz jq).symm;clear jq aj;go_wp2_with fail;refine (kT 4 _).mono ?_;rintro e bw ⟨⟨aV,rfl⟩,rfl⟩;go_wp2;exact⟨rfl,⟨aV,rfl⟩,M,A,aP,a_,anB _⟩
  ·have jq:=aj.out
   rw[if_neg (by omega)]at jq;obtain⟨dU,rfl⟩:=aoh (by omega:0<=eV);have hx:(Int.toNat (dU:Int))=dU:=(by simp);rw[hx]at jq;obtain rfl:=(anz jq).symm;clear jq aj hx;have l6:∀w,(Instr.makeSlice 23 (.int .i64 (dU:Int)) (.int .i64 (dU:Int))).run prog w=.ok (.slice (some ⟨w.heap.size,0,none⟩) dU dU) (w.alloc (.cells ((List.replicate dU (0:Int)).map (Value.int .i64)).toArray 2)):=by
        intro w;have h:=Ef (P:=prog) 23 2 i0 (.int .i64 0) underlying23 aI.1 aI.2.1 .i64 .i64 dU (by rw[aI.2.2.2];omega) (by omega) w;rw[h,aI.2.2.1,OY]
   obtain⟨xl,zQ⟩:=aP.O5 dU (by omega);have dp:=af xl;have sQ:=af zQ;have jg:=af (bQ.ext zQ id (List.prefix_append A [(W1.heap.size,dU)]));have LF:Hid (iW (A++[(W1.heap.size,dU)]) ⟨0,some s.bS.length⟩ (.agg #[.int .i64 0,.slice (some ⟨W1.heap.size,0,none⟩) dU dU])):=af (Or.inr ⟨_,W1.heap.size,dU,rfl,by rw[<-aP.bS];simp,rfl⟩);have gS:g<W1.heap.size:=(by obtain⟨cs,k1,_⟩:=bQ.out;exact k1.lt);have Tw:W.heap.size<W1.heap.size:=HS.blk.lt;clear xl zQ;go_wp2_with fail;go_region;go_end0;refine Ax (dp) (jg) (a_.trans (sQ.more fun _ _ f=>f.elim)) (List.prefix_append A [(W1.heap.size,dU)]) s3 LF ?_;rw[World.setCell_alloc_past _ _ _ _ gS,World.setCell_alloc_past _ _ _ _ (by simpa [World.setCell] using gS),List.map_replicate,List.toArray_replicate];exact ay.drew
theorem ajm (hc:x.code=14):vy L F x:=by
 intro v b ak g c P M A s W bq r h hv fA kP hc1 hx aZ hr;obtain⟨aa,ac,rfl,cC⟩:=hx;have hf:bu F ((cp x.code).getD 0 0) x.dst=true/\bu F ((cp x.code).getD 1 0) x.a=true/\bu F ((cp x.code).getD 2 0) x.b=true/\bu F ((cp x.code).getD 3 0) x.c=true:=by
  unfold cx at aZ;rw[if_neg (by omega),if_neg (by omega),if_neg (by omega)]at aZ;simp only[anX]at aZ;exact⟨aZ.1.1.1.1.1,aZ.1.1.1.1.2,aZ.1.1.1.2,aZ.1.1.2⟩
 rw[hc]at hf;obtain⟨dD,nk,sy⟩:=oT (t:=1) (by omega) (by simpa [cp] using hf.1);clear hf;unfold cq at hr;rw[if_neg (by omega),if_neg (by omega),if_neg (by omega),if_neg (by omega),if_neg (by omega),if_neg (by omega),if_neg (by omega),if_neg (by omega),if_pos hc]at hr;obtain⟨ba,kD,bL,ib,fY,xn,d_,fJ,fO,xs⟩:=x;simp only at hc nk hr;subst hc nk;simp only at hr ⊢;obtain⟨W1,hW1⟩:=aq (W.alloc (.cells (aY ⟨14,(dD:Int),bL,ib,fY,xn,d_,fJ,fO,xs⟩ (.slice aa xs.length ac)).toArray 57));have az:ag ai W W1:=by rw[hW1];exact ay.alloc _
 have HS:Hid (eD W W1 P M g W.heap.size (aY ⟨14,(dD:Int),bL,ib,fY,xn,d_,fJ,fO,xs⟩ (.slice aa xs.length ac))):=af (by rw[hW1];exact eD.new h hv _);have aP:=af (h.quiet az);have bQ:=af (hv.ext (Ext.quiet (T:=ai) az) id (anB A));have a_:Hid (Ext (·=g) M M W W1):=af (Ext.quiet az);have c0:W1.cell? ⟨W.heap.size,0,none⟩=some (.int .i64 14):=HS.blk.ah 0;have kd:W1.cell? ⟨W.heap.size,1,none⟩=some (.int .i64 (dD:Int)):=HS.blk.ah 1;obtain⟨Es,wd,Db,Dc,Fb⟩:=bQ.get (p:=dD) (by omega);have ql:(dD:Int)<(v.length:Int):=by omega
 have s3:=af (show dD<v.length by omega);clear sy;have z0:W1.frozen? ⟨g,dD*2,none⟩=false:=by obtain⟨cs,h1,_⟩:=bQ.out;exact h1.free _
 have cS:W1.frozen? ⟨g,dD*2+1,none⟩=false:=by obtain⟨cs,h1,_⟩:=bQ.out;exact h1.free _
 obtain⟨iv,ov,hb,⟨Ce,Ou,ou,rfl,sr,hc0,lJ,hcell⟩,-⟩:=aP.blk;have b1:W1.cell? ⟨b,1,none⟩=some (.slice Ce Ou ou):=hb.cell rfl;have Fp:=hb.free 1;have hbl:=aP.old b aP.has;have akS:=af (aP.off b aP.has);have alC:b≠W.heap.size:=fun e=>by have:=h.old b h.has;omega
 have hbg:b≠g:=fun e=>by obtain⟨cs,_,_,_,k4,gU⟩:=hv;exact k4 (e ▸ h.has)
 clear hb;cases ki:s.inp with
 | nil =>
   rw[ki]at hr sr;simp only[anY]at sr;subst sr;obtain rfl:=(anz hr).symm;clear hr hcell ki hc0 lJ;obtain⟨n,hn⟩:=aq (v.length);have aT:=af hn;rw[<-hn]at ql kP ⊢;clear h hv aZ az fA cC hn;unfold aY str at *;unfold dP nX;go_in;go_upto_region 1 with (fail)
   rw[<-hW1];clear hW1;go_wp2_with fail;go_end0;exact Ax aP bQ a_ (anB A) s3 (x:=bN 0) (u:=.int .i64 0) (y:=.slice none 0 0) (Or.inl ⟨rfl,rfl⟩) (by first|exact ag.refl _ _|exact ay.drew|exact ay.drew.drew|exact ay.drewN _)
 | cons k t =>
   rw[ki]at hr sr hcell;obtain rfl:=(anz hr).symm;obtain⟨nc,oi,rfl,z1,Ds⟩:=hcell 0 k rfl;have z1:P nc:=Classical.not_not.1 z1;simp only[anK]at sr;obtain⟨m,hm⟩:=aq (t.length);have hgb:nc≠b:=fun e=>h.off b h.has (e ▸ z1)
   have Nk:nc≠g:=fun e=>by obtain⟨cs,_,_,_,k4,gU⟩:=hv;exact gU (e ▸ z1)
   rw[<-hm]at sr;subst sr;have aI:Hid (ij W1 (fun k=>¬P k) (.slice (some ⟨nc,oi+1,none⟩) m (ou-1)) t):=af ⟨_,_,_,rfl,hm,by omega,by omega,fun i x hx=>by
    obtain⟨g2,o2,e1,e2,e3⟩:=hcell (i+1) x hx;simp only[anG,Addr.mk.injEq,and_true]at e1;obtain⟨rfl,rfl⟩:=e1
    exact⟨_,_,rfl,e2,by have:oi+1+i=oi+(i+1):=by omega
                        rw[this];exact e3⟩⟩
   have hs1:(0:Int)<(m:Int)+1:=(by omega);have hs2:(((m+1:Nat):Int)==0)=false:=(by simp;omega);have hs3:((m:Int)+1==0)=false:=(by simp;omega);simp only[aou]at Ds;have bA:=af hm;have aU:=af (anw hc0 lJ);have gg:=af (fun (iv:Value)=>aP.ext ai 1 iv);have Ql:Hid (∀iv,ij W1 (fun k=>¬P k) iv t->bt (W1.setCell ⟨b,1,none⟩ iv) b ak L P M A { s with inp:=t }):=af fun iv hi=>aP.taken t iv hi
   clear hr hcell ki hm;obtain⟨n,hn⟩:=aq (v.length);have aT:=af hn;rw[<-hn]at ql kP ⊢;clear h hv aZ az fA cC hn;unfold aY str at *;unfold dP nX;go_in;go_upto_region 1 with (fail)
   rw[<-hW1];clear hW1;go_wp2_with fail
   all_goals
    try go_region
   all_goals
    try go_wp2_with fail
   all_goals
    go_end0
    first
    | exact Ax (Ql _ aI) (bQ.ext (gg _) id (anB _)) (a_.trans ((gg _).more fun _ _ f=>f.elim)) (anB A) s3 (x:=bN k) (u:=.int .i64 k) (y:=.slice none 0 0) (Or.inl ⟨rfl,rfl⟩) (by first|exact ag.refl _ _|exact ay.drew|exact ay.drew.drew|exact ay.drewN _)
    | (have Yq:ij W1 (fun k=>¬P k) (.slice (some ⟨nc,oi,none⟩) m 0) t:=by
          have h1:=aU.1;have h2:=bA.out;obtain rfl:m=0:=(by omega);obtain rfl:t=[]:=anJ h2.symm;exact⟨_,_,_,rfl,rfl,anD _,anC _,fun i x hx=>by simp at hx⟩
       exact Ax (Ql _ Yq) (bQ.ext (gg _) id (anB _)) (a_.trans ((gg _).more fun _ _ f=>f.elim)) (anB A) s3 (x:=bN k) (u:=.int .i64 k) (y:=.slice none 0 0) (Or.inl ⟨rfl,rfl⟩) (by first|exact ag.refl _ _|exact ay.drew|exact ay.drew.drew|exact ay.drewN _))
theorem ajp (hc:x.code=11):vy L F x:=by
 intro v b ak g c P M A s W bq r h hv fA kP hc1 hx aZ hr;obtain⟨aa,ac,rfl,cC⟩:=hx;have hf:bu F ((cp x.code).getD 0 0) x.dst=true/\bu F ((cp x.code).getD 1 0) x.a=true/\bu F ((cp x.code).getD 2 0) x.b=true/\bu F ((cp x.code).getD 3 0) x.c=true:=by
  unfold cx at aZ;rw[if_neg (by omega),if_neg (by omega),if_neg (by omega)]at aZ;simp only[anX]at aZ;exact⟨aZ.1.1.1.1.1,aZ.1.1.1.1.2,aZ.1.1.1.2,aZ.1.1.2⟩
 rw[hc]at hf;obtain⟨dD,nk,sy⟩:=oT (t:=1) (by omega) (by simpa [cp] using hf.1);obtain⟨pa,jt,ot⟩:=oT (t:=2) (by omega) (by simpa [cp] using hf.2.1);obtain⟨pb,j5,Ac⟩:=oT (t:=1) (by omega) (by simpa [cp] using hf.2.2.1);clear hf;unfold cq at hr;rw[if_neg (by omega),if_neg (by omega),if_neg (by omega),if_neg (by omega),if_neg (by omega),if_pos hc]at hr;obtain⟨ba,kD,bL,ib,fY,xn,d_,fJ,fO,xs⟩:=x;simp only at hc nk jt j5 hr;subst hc nk jt j5;simp only at hr ⊢;obtain⟨W1,hW1⟩:=aq (W.alloc (.cells (aY ⟨11,(dD:Int),(pa:Int),(pb:Int),fY,xn,d_,fJ,fO,xs⟩ (.slice aa xs.length ac)).toArray 57));have az:ag ai W W1:=by rw[hW1];exact ay.alloc _
 have HS:Hid (eD W W1 P M g W.heap.size (aY ⟨11,(dD:Int),(pa:Int),(pb:Int),fY,xn,d_,fJ,fO,xs⟩ (.slice aa xs.length ac))):=af (by rw[hW1];exact eD.new h hv _);have aP:=af (h.quiet az);have bQ:=af (hv.ext (Ext.quiet (T:=ai) az) id (anB A));have a_:Hid (Ext (·=g) M M W W1):=af (Ext.quiet az);have c0:W1.cell? ⟨W.heap.size,0,none⟩=some (.int .i64 11):=HS.blk.ah 0;have kd:W1.cell? ⟨W.heap.size,1,none⟩=some (.int .i64 (dD:Int)):=HS.blk.ah 1;obtain⟨Es,wd,Db,Dc,Fb⟩:=bQ.get (p:=dD) (by omega);have ql:(dD:Int)<(v.length:Int):=by omega
 have s3:=af (show dD<v.length by omega);clear sy;have ka:W1.cell? ⟨W.heap.size,2,none⟩=some (.int .i64 (pa:Int)):=HS.blk.ah 2;obtain⟨AJ,sL,s7,xf,j0⟩:=bQ.get (p:=pa) (by omega);have bg:(pa:Int)<(v.length:Int):=by omega
 have CX:=af (show pa<v.length by omega);clear ot;have kb:W1.cell? ⟨W.heap.size,3,none⟩=some (.int .i64 (pb:Int)):=HS.blk.ah 3;obtain⟨AK,eA,Fu,Sl,yb⟩:=bQ.get (p:=pb) (by omega);have wH:(pb:Int)<(v.length:Int):=by omega
 have Ro:=af (show pb<v.length by omega);clear Ac;have z0:W1.frozen? ⟨g,dD*2,none⟩=false:=by obtain⟨cs,h1,_⟩:=bQ.out;exact h1.free _
 have cS:W1.frozen? ⟨g,dD*2+1,none⟩=false:=by obtain⟨cs,h1,_⟩:=bQ.out;exact h1.free _
 obtain⟨XJ,Am⟩:=yb.num;simp only[Value.agg.injEq,Array.mk.injEq,List.cons.injEq,and_true]at Am;obtain⟨rfl,rfl⟩:=Am;obtain⟨nb,xy⟩:=aq ((v.get (pb:Int)).n);rw[<-xy]at Fu yb hr;clear xy;obtain⟨m,hm⟩:=aq (v.get (pa:Int));rw[<-hm]at j0 hr;clear hm;have bE:=af hr;clear hr;have hr:=True.intro;rcases j0 with⟨iR,hy⟩|⟨i,q,an,iR,hv2,hy⟩
 ·simp only[Value.agg.injEq,Array.mk.injEq,List.cons.injEq,and_true]at hy
  obtain⟨rfl,rfl⟩:=hy;have hX:=bE.out;rw[show cX s m nb=eP 3 s by unfold cX;rw[if_pos];simp only[fF,iR,anY];omega]at hX;obtain rfl:=(anz hX).symm;clear hX bE iR;obtain⟨n,hn⟩:=aq (v.length);have aT:=af hn;rw[<-hn]at ql bg wH kP ⊢;clear h hv aZ az fA cC hn;unfold aY str at *;unfold dP nX;go_in;go_upto_region 1 with (fail)
  rw[<-hW1];clear hW1;by_cases rf:nb<0
  ·go_wp2_with fail
   go_region;go_wp2_with fail;refine (kT 3 _).mono ?_;rintro e bw ⟨⟨aV,rfl⟩,rfl⟩;go_wp2;exact⟨rfl,⟨aV,rfl⟩,M,A,aP.quiet ay.drew,a_.trans (Ext.quiet ay.drew),anB _⟩
  ·have vT:(0:Int)<=nb:=by omega
   go_wp2_with fail;go_region;go_wp2_with fail;refine (kT 3 _).mono ?_;rintro e bw ⟨⟨aV,rfl⟩,rfl⟩;go_wp2;exact⟨rfl,⟨aV,rfl⟩,M,A,aP.quiet ay.drew,a_.trans (Ext.quiet ay.drew),anB _⟩
 ·simp only[Value.agg.injEq,Array.mk.injEq,List.cons.injEq,and_true]at hy
  obtain⟨rfl,rfl⟩:=hy;obtain⟨l,fc,rfl,hl2,kL⟩:=aP.row hv2;have mD:fF s m=l:=by simp[fF,iR,fc,anM]
  obtain⟨al,vQ⟩:=aq (l.length);have rN:=af vQ;have cu:=af (anw iR (anw hv2 (anw fc (anw hl2 mD))));rw[<-vQ]at kL xf;have adh:(al:Int)<=40:=by omega
  have adi:(0:Int)<=(al:Int):=by omega
  clear mD vQ iR hv2 fc hl2 kL;by_cases rf:nb<0
  ·have hX:=bE.out
   rw[show cX s m nb=eP 3 s by unfold cX;rw[if_pos (Or.inl rf)]]at hX;obtain rfl:=(anz hX).symm;clear hX bE;obtain⟨n,hn⟩:=aq (v.length);have aT:=af hn;rw[<-hn]at ql bg wH kP ⊢;clear h hv aZ az fA cC hn;unfold aY str at *;unfold dP nX;go_in;go_upto_region 1 with (fail)
   rw[<-hW1];clear hW1;go_wp2_with fail;go_region;go_wp2_with fail;refine (kT 3 _).mono ?_;rintro e bw ⟨⟨aV,rfl⟩,rfl⟩;go_wp2;exact⟨rfl,⟨aV,rfl⟩,M,A,aP.quiet ay.drew,a_.trans (Ext.quiet ay.drew),anB _⟩
  ·by_cases vT:(al:Int)<=nb
   ·have hX:=bE.out
    rw[show cX s m nb=eP 3 s by unfold cX;rw[if_pos];rw[cu.2.2.2.2,<-rN.out];omega]at hX;obtain rfl:=(anz hX).symm;clear hX bE;obtain⟨n,hn⟩:=aq (v.length);have aT:=af hn;rw[<-hn]at ql bg wH kP ⊢;clear h hv aZ az fA cC hn;unfold aY str at *;unfold dP nX;go_in;go_upto_region 1 with (fail)
    rw[<-hW1];clear hW1;go_wp2_with fail;go_region;go_wp2_with fail;refine (kT 3 _).mono ?_;rintro e bw ⟨⟨aV,rfl⟩,rfl⟩;go_wp2;exact⟨rfl,⟨aV,rfl⟩,M,A,aP.quiet ay.drew,a_.trans (Ext.quiet ay.drew),anB _⟩
   ·obtain⟨j,rfl⟩:=aoh (by omega:0<=nb)
    have ep:j<l.length:=(by rw[<-rN.out];omega);have hX:=bE.out;rw[show cX s m (j:Int)=a6 (l.getD j 0) s by unfold cX;rw[cu.2.2.2.2,if_neg (by rw[<-rN.out];omega)];simp]at hX;have hcell:W1.cell? ⟨q,j,none⟩=some (.int .i64 (l[j]'ep)):=cu.2.2.2.1.cell (by simp[anx ep]);obtain⟨uJ,ux⟩:=aq (l[j]'ep);have hgd:l.getD j 0=uJ:=(by rw[ux,anM,anx ep];rfl);rw[<-ux]at hcell;rw[hgd]at hX;have hk2:(j:Int)<(al:Int):=(by omega);have hk3:¬(j:Int)<0:=(by omega);obtain rfl:=(anz hX).symm;clear hX bE ux hgd ep rf vT;obtain⟨n,hn⟩:=aq (v.length);have aT:=af hn;rw[<-hn]at ql bg wH kP ⊢;clear h hv aZ az fA cC hn;unfold aY str at *;unfold dP nX;go_in;go_upto_region 1 with (fail)
    rw[<-hW1];clear hW1;go_wp2_with fail;go_region;go_wp2_with fail;go_region;go_end0;exact Ax aP bQ a_ (anB A) s3 (x:=bN uJ) (u:=.int .i64 uJ) (y:=.slice none 0 0) (Or.inl ⟨rfl,rfl⟩) (by first|exact ag.refl _ _|exact ay.drew|exact ay.drew.drew|exact ay.drewN _)
theorem ajs (hc:x.code=12):vy L F x:=by
 intro v b ak g c P M A s W bq r h hv fA kP hc1 hx aZ hr;obtain⟨aa,ac,rfl,cC⟩:=hx;have hf:bu F ((cp x.code).getD 0 0) x.dst=true/\bu F ((cp x.code).getD 1 0) x.a=true/\bu F ((cp x.code).getD 2 0) x.b=true/\bu F ((cp x.code).getD 3 0) x.c=true:=by
  unfold cx at aZ;rw[if_neg (by omega),if_neg (by omega),if_neg (by omega)]at aZ;simp only[anX]at aZ;exact⟨aZ.1.1.1.1.1,aZ.1.1.1.1.2,aZ.1.1.1.2,aZ.1.1.2⟩
 rw[hc]at hf;obtain⟨pa,jt,ot⟩:=oT (t:=2) (by omega) (by simpa [cp] using hf.2.1);obtain⟨pb,j5,Ac⟩:=oT (t:=1) (by omega) (by simpa [cp] using hf.2.2.1);obtain⟨ck,Ad,aee⟩:=oT (t:=1) (by omega) (by simpa [cp] using hf.2.2.2);clear hf;unfold cq at hr;rw[if_neg (by omega),if_neg (by omega),if_neg (by omega),if_neg (by omega),if_neg (by omega),if_neg (by omega),if_pos hc]at hr;obtain⟨ba,kD,bL,ib,fY,xn,d_,fJ,fO,xs⟩:=x;simp only at hc jt j5 Ad hr;subst hc jt j5 Ad;simp only at hr ⊢;obtain⟨W1,hW1⟩:=aq (W.alloc (.cells (aY ⟨12,kD,(pa:Int),(pb:Int),(ck:Int),xn,d_,fJ,fO,xs⟩ (.slice aa xs.length ac)).toArray 57));have az:ag ai W W1:=by rw[hW1];exact ay.alloc _
 have HS:Hid (eD W W1 P M g W.heap.size (aY ⟨12,kD,(pa:Int),(pb:Int),(ck:Int),xn,d_,fJ,fO,xs⟩ (.slice aa xs.length ac))):=af (by rw[hW1];exact eD.new h hv _);have aP:=af (h.quiet az);have bQ:=af (hv.ext (Ext.quiet (T:=ai) az) id (anB A));have a_:Hid (Ext (·=g) M M W W1):=af (Ext.quiet az);have c0:W1.cell? ⟨W.heap.size,0,none⟩=some (.int .i64 12):=HS.blk.ah 0;have ka:W1.cell? ⟨W.heap.size,2,none⟩=some (.int .i64 (pa:Int)):=HS.blk.ah 2;obtain⟨AJ,sL,s7,xf,j0⟩:=bQ.get (p:=pa) (by omega);have bg:(pa:Int)<(v.length:Int):=by omega
 have CX:=af (show pa<v.length by omega);clear ot;have kb:W1.cell? ⟨W.heap.size,3,none⟩=some (.int .i64 (pb:Int)):=HS.blk.ah 3;obtain⟨AK,eA,Fu,Sl,yb⟩:=bQ.get (p:=pb) (by omega);have wH:(pb:Int)<(v.length:Int):=by omega
 have Ro:=af (show pb<v.length by omega);clear Ac;have kc:W1.cell? ⟨W.heap.size,4,none⟩=some (.int .i64 (ck:Int)):=HS.blk.ah 4;obtain⟨uc,wc,aaV,ald,Ru⟩:=bQ.get (p:=ck) (by omega);have br:(ck:Int)<(v.length:Int):=by omega
 have akX:=af (show ck<v.length by omega);clear aee;obtain⟨XJ,Am⟩:=yb.num;simp only[Value.agg.injEq,Array.mk.injEq,List.cons.injEq,and_true]at Am;obtain⟨rfl,rfl⟩:=Am;obtain⟨nb,xy⟩:=aq ((v.get (pb:Int)).n);rw[<-xy]at Fu yb hr;clear xy;obtain⟨Hd,Ao⟩:=Ru.num;simp only[Value.agg.injEq,Array.mk.injEq,List.cons.injEq,and_true]at Ao;obtain⟨rfl,rfl⟩:=Ao;obtain⟨o5,iZ⟩:=aq ((v.get (ck:Int)).n);rw[<-iZ]at aaV Ru hr;clear iZ;obtain⟨m,hm⟩:=aq (v.get (pa:Int));rw[<-hm]at j0 hr;clear hm;have bE:=af hr;clear hr;have hr:=True.intro;rcases j0 with⟨iR,hy⟩|⟨i,q,an,iR,hv2,hy⟩
 ·simp only[Value.agg.injEq,Array.mk.injEq,List.cons.injEq,and_true]at hy
  obtain⟨rfl,rfl⟩:=hy;have hX:=bE.out;rw[show cX s m nb=eP 3 s by unfold cX;rw[if_pos];simp only[fF,iR,anY];omega]at hX;obtain rfl:=(anz hX).symm;clear hX bE iR;obtain⟨n,hn⟩:=aq (v.length);have aT:=af hn;rw[<-hn]at bg wH br kP ⊢;clear h hv aZ az fA cC hn;unfold aY str at *;unfold dP nX;go_in;go_upto_region 1 with (fail)
  rw[<-hW1];clear hW1;by_cases rf:nb<0
  ·go_wp2_with fail
   go_region;go_wp2_with fail;refine (kT 3 _).mono ?_;rintro e bw ⟨⟨aV,rfl⟩,rfl⟩;go_wp2;exact⟨rfl,⟨aV,rfl⟩,M,A,aP.quiet ay.drew,a_.trans (Ext.quiet ay.drew),anB _⟩
  ·have vT:(0:Int)<=nb:=by omega
   go_wp2_with fail;go_region;go_wp2_with fail;refine (kT 3 _).mono ?_;rintro e bw ⟨⟨aV,rfl⟩,rfl⟩;go_wp2;exact⟨rfl,⟨aV,rfl⟩,M,A,aP.quiet ay.drew,a_.trans (Ext.quiet ay.drew),anB _⟩
 ·simp only[Value.agg.injEq,Array.mk.injEq,List.cons.injEq,and_true]at hy
  obtain⟨rfl,rfl⟩:=hy;obtain⟨l,fc,rfl,hl2,kL⟩:=aP.row hv2;have mD:fF s m=l:=by simp[fF,iR,fc,anM]
  obtain⟨al,vQ⟩:=aq (l.length);have rN:=af vQ;have cu:=af (anw iR (anw hv2 (anw fc (anw hl2 mD))));rw[<-vQ]at kL xf;have adh:(al:Int)<=40:=by omega
  have adi:(0:Int)<=(al:Int):=by omega
  clear mD vQ iR hv2 fc hl2 kL;by_cases rf:nb<0
  ·have hX:=bE.out
   rw[show cX s m nb=eP 3 s by unfold cX;rw[if_pos (Or.inl rf)]]at hX;obtain rfl:=(anz hX).symm;clear hX bE;obtain⟨n,hn⟩:=aq (v.length);have aT:=af hn;rw[<-hn]at bg wH br kP ⊢;clear h hv aZ az fA cC hn;unfold aY str at *;unfold dP nX;go_in;go_upto_region 1 with (fail)
   rw[<-hW1];clear hW1;go_wp2_with fail;go_region;go_wp2_with fail;refine (kT 3 _).mono ?_;rintro e bw ⟨⟨aV,rfl⟩,rfl⟩;go_wp2;exact⟨rfl,⟨aV,rfl⟩,M,A,aP.quiet ay.drew,a_.trans (Ext.quiet ay.drew),anB _⟩
  ·by_cases vT:(al:Int)<=nb
   ·have hX:=bE.out
    rw[show cX s m nb=eP 3 s by unfold cX;rw[if_pos];rw[cu.2.2.2.2,<-rN.out];omega]at hX;obtain rfl:=(anz hX).symm;clear hX bE;obtain⟨n,hn⟩:=aq (v.length);have aT:=af hn;rw[<-hn]at bg wH br kP ⊢;clear h hv aZ az fA cC hn;unfold aY str at *;unfold dP nX;go_in;go_upto_region 1 with (fail)
    rw[<-hW1];clear hW1;go_wp2_with fail;go_region;go_wp2_with fail;refine (kT 3 _).mono ?_;rintro e bw ⟨⟨aV,rfl⟩,rfl⟩;go_wp2;exact⟨rfl,⟨aV,rfl⟩,M,A,aP.quiet ay.drew,a_.trans (Ext.quiet ay.drew),anB _⟩
   ·obtain⟨j,rfl⟩:=aoh (by omega:0<=nb)
    have ep:j<l.length:=(by rw[<-rN.out];omega);have hX:=bE.out;rw[show cX s m (j:Int)=a6 (l.getD j 0) s by unfold cX;rw[cu.2.2.2.2,if_neg (by rw[<-rN.out];omega)];simp]at hX;have hcell:W1.cell? ⟨q,j,none⟩=some (.int .i64 (l[j]'ep)):=cu.2.2.2.1.cell (by simp[anx ep]);obtain⟨uJ,ux⟩:=aq (l[j]'ep);have hgd:l.getD j 0=uJ:=(by rw[ux,anM,anx ep];rfl);rw[<-ux]at hcell;rw[hgd]at hX;have hk2:(j:Int)<(al:Int):=(by omega);have hk3:¬(j:Int)<0:=(by omega);have jt:ko s m (j:Int) o5={ s with bS:=s.bS.set i (l.set j o5) }:=(by simp[ko,cu.1,cu.2.2.1,anM]);have hr2:r=(.ok v,{ s with bS:=s.bS.set i (l.set j o5) }):=by
     have:=(anz hX).symm;rw[jt]at this;exact this
    subst hr2;have Ni:=cu.2.2.2.1.free j;obtain⟨zT,FE⟩:=aP.Py (by have h:=cu.2.1;exact h) cu.2.2.1 j o5;have wX:=af zT;have wQ:=af FE;clear hX bE ux hgd ep rf vT jt zT FE;obtain⟨n,hn⟩:=aq (v.length);have aT:=af hn;rw[<-hn]at bg wH br kP ⊢;clear h hv aZ az fA cC hn;unfold aY str at *;unfold dP nX;go_in;go_upto_region 1 with (fail)
    rw[<-hW1];clear hW1;go_wp2_with fail;go_region;go_wp2_with fail;go_end0;exact Po (wX.quiet ay.drew) ((bQ.ext wQ id (anB _)).ext (Ext.quiet (T:=ai) ay.drew) id (anB _)) ((a_.trans (wQ.more fun _ _ f=>f.elim)).trans (Ext.quiet ay.drew)) (anB _)
theorem ajn (hc:x.code=6):vy L F x:=by
 intro v b ak g c P M A s W bq r h hv fA kP hc1 hx aZ hr;obtain⟨aa,ac,rfl,cC⟩:=hx;have hf:bu F ((cp x.code).getD 0 0) x.dst=true/\bu F ((cp x.code).getD 1 0) x.a=true/\bu F ((cp x.code).getD 2 0) x.b=true/\bu F ((cp x.code).getD 3 0) x.c=true:=by
  unfold cx at aZ;rw[if_neg (by omega),if_neg (by omega),if_neg (by omega)]at aZ;simp only[anX]at aZ;exact⟨aZ.1.1.1.1.1,aZ.1.1.1.1.2,aZ.1.1.1.2,aZ.1.1.2⟩
 rw[hc]at hf;clear hf;unfold cq at hr;rw[if_neg (by omega),if_neg (by omega),if_neg (by omega),if_neg (by omega),if_neg (by omega),if_neg (by omega),if_neg (by omega),if_neg (by omega),if_neg (by omega)]at hr;obtain rfl:=(anz hr).symm;obtain⟨ba,kD,bL,ib,fY,xn,d_,fJ,fO,xs⟩:=x;simp only at hc;subst hc;simp only;obtain⟨W1,hW1⟩:=aq (W.alloc (.cells (aY ⟨6,kD,bL,ib,fY,xn,d_,fJ,fO,xs⟩ (.slice aa xs.length ac)).toArray 57));have az:ag ai W W1:=by rw[hW1];exact ay.alloc _
 have HS:Hid (eD W W1 P M g W.heap.size (aY ⟨6,kD,bL,ib,fY,xn,d_,fJ,fO,xs⟩ (.slice aa xs.length ac))):=af (by rw[hW1];exact eD.new h hv _);have aP:=af (h.quiet az);have bQ:=af (hv.ext (Ext.quiet (T:=ai) az) id (anB A));have a_:Hid (Ext (·=g) M M W W1):=af (Ext.quiet az);have c0:W1.cell? ⟨W.heap.size,0,none⟩=some (.int .i64 6):=HS.blk.ah 0;obtain⟨n,hn⟩:=aq (v.length);have aT:=af hn;rw[<-hn]at kP ⊢;clear h hv aZ az fA cC hn;unfold aY str at *;unfold dP nX;go_in;go_upto_region 1 with (fail)
 rw[<-hW1];clear hW1;go_wp2_with fail;go_end0;exact Po aP bQ a_ (anB A)
theorem ajj (aZ:cx L F x=true) (h4:x.code≠4) (h5:x.code≠5) (h7:x.code≠7) (h8:x.code≠8):vy L F x:=by
 by_cases h2:x.code=2
 ·exact ajl h2
 have hc:1<=x.code/\x.code<=14:=by
  unfold cx at aZ;rw[if_neg h2,if_neg h7]at aZ;split at aZ
  ·cases aZ
  ·omega
 have:x.code=1\/x.code=3\/x.code=6\/x.code=9\/x.code=10\/x.code=11\/x.code=12\/x.code=13\/x.code=14:=by omega
 rcases this with h|h|h|h|h|h|h|h|h
 ·exact ajk h
 ·exact ajt h
 ·exact ajn h
 ·exact ajq h
 ·exact ajo h
 ·exact ajp h
 ·exact ajs h
 ·exact ajr h
 ·exact ajm h
end aW
namespace bB
open Go.Proofs.Tryz
theorem aiu (P:Program) (w:World) (xe Cy ty elem:TypeId) (k g o r6 Bx:Nat) (a:Addr) (sI Cx:Nat) (cur:Array Value) (t:TypeId) (cs:List Value)
 (hu:P.underlying xe=some (.slice elem)) (hs:(P.info? elem).map (·.size)=some k)
 (hg:w.heap[g]?=some (.cells cur t (0,0))) (hn:cs.length=Nat.min sI r6*k)
 (B9:∀j v,cs[j]?=some v->w.cell? (a.add j)=some v) (js:o+cs.length<=cur.size) (h1:∀v∈cs,v.oneCell'=true) :
 (Builtin.copy_ #[xe,Cy] ty #[.slice (some ⟨g,o,none⟩) r6 Bx,.slice (some a) sI Cx]).run P w =
  .ok (goInt (Nat.min sI r6)) (w.setRow g (cur.toList.take o++cs++cur.toList.drop (o+cs.length)).toArray):=by
 have hl:=run_loadCells_list (P:=P) w a cs B9;have hst:=run_storeCells_at P g o t cs 0 cur w hg (by simpa using js) h1;cases hq:P.info? elem with
 | none=>simp[hq]at hs
 | some i =>
   have hi:i.size=k:=(by simpa [hq] using hs);rw[hn]at hl;simp[Builtin.copy_,run_underlying hu,Builtin.lenOf,Builtin.firstCells,sizeOf,typeInfo,hq,hi,hl,hst]
theorem ait (P:Program) (w:World) (xe Cy ty elem:TypeId) (k:Nat) (d a:Option Addr) (r6 Bx sI Cx:Nat) (hu:P.underlying xe=some (.slice elem)) (hs:(P.info? elem).map (·.size)=some k) (hn:Nat.min sI r6=0) :
 (Builtin.copy_ #[xe,Cy] ty #[.slice d r6 Bx,.slice a sI Cx]).run P w=.ok (goInt 0) w:=by
 cases hq:P.info? elem with
 | none=>simp[hq]at hs
 | some i =>
   have hl:∀ (x:Addr),(loadCells x 0).run P w=.ok #[] w:=fun x=>by simpa using run_loadCells_list (P:=P) w x [] (by simp)
   cases d <;> cases a <;> simp[Builtin.copy_,run_underlying hu,Builtin.lenOf,Builtin.firstCells,sizeOf,typeInfo,hq,hn,storeCells,hl]
open Go.RowKit in
theorem akB {P:Program} {w:World} {ops:Array Oper} {rest:List Oper} {o:Oper} {a:Act} {Q:Exit->Act->World->Prop} (hgd:o.guard=none) (d s:Operand) (xe Cy:TypeId)
 (ho:o.op=.call { callee:=.builtin .copy,args:=#[d,s],argTypes:=#[xe,Cy] }) (elem:TypeId) (k:Nat) (hu:P.underlying xe=some (.slice elem)) (hsz:(P.info? elem).map (·.size)=some k)
 (Mf sp:Option Addr) (r6 Bx sI Cx:Nat) (hd:a.eval d=.slice Mf r6 Bx) (hs:a.eval s=.slice sp sI Cx)
 (g off:Nat) (cur:List Value) (t:TypeId) (hg:w.heap[g]?=some (.cells cur.toArray t (0,0))) (cs:List Value) (hn:cs.length=Nat.min sI r6*k)
 (qh:0<Nat.min sI r6->Mf=some ⟨g,off,none⟩/\∃ad,sp=some ad/\∀j v,cs[j]?=some v->w.cell? (ad.add j)=some v)
 (js:off+cs.length<=cur.length) (h1:∀v∈cs,v.oneCell'=true) (B:Nat) (w0:World) (hb:Below B w0 w) (acX:B<=g)
 (h:∀w',Hid (w'.heap[g]?=some (.cells (splice cur off cs).toArray t (0,0)))->Below B w0 w'->wpList P ops Q rest (a.put o.dst (goInt (Nat.min sI r6))) w') :
 wpList P ops Q (o::rest) a w:=by
 by_cases h0:Nat.min sI r6=0
 ·obtain rfl:cs=[]:=anJ (by rw[hn,h0,Nat.zero_mul])
  have hh:=h w (show _=_ by simpa [splice] using hg) hb;refine wpList_plain hgd fun K hK=>?_
  have hrun:=ait P w xe Cy o.type elem k Mf sp r6 Bx sI Cx hu hsz h0;unfold Oper.wp;simp[execOp,ho,resolve,invoke,builtin,hd,hs,hrun,Result.andThen];rw[h0]at hh;exact hK _ _ hh
 ·obtain⟨rfl,ad,rfl,B9⟩:=qh (by omega)
  have hh:=h _ (show _=_ by simpa [splice] using setRow_heap w g cur.toArray _ t _ hg) (below_setRow hb acX _);refine wpList_plain hgd fun K hK=>?_
  have hrun:=aiu P w xe Cy o.type elem k g off r6 Bx ad sI Cx cur.toArray t cs hu hsz hg hn B9 (by simpa using js) h1;unfold Oper.wp;simp[execOp,ho,resolve,invoke,builtin,hd,hs,hrun,Result.andThen];refine hK _ _ ?_;simpa [splice] using hh
end bB
namespace aW
open Go.RowKit aB Go.Proofs.Tryz
section goes
variable {R:aC->aC->Prop}
theorem PF (hR:x9 R) (v:bp) (x:ax) (s:aC):Goes R s (cq v x s):=by
 unfold cq;split
 ·exact Goes.ok _ (hR.refl s)
 split
 ·exact Goes.ok _ (hR.refl s)
 split
 ·split
  ·exact Goes.err _ (hR.refl s)
  ·exact Goes.ok _ (hR.refl s)
 split
 ·split
  ·exact Goes.err _ (hR.refl s)
  ·exact Goes.ok _ (hR.bS s _ (by simp))
 split
 ·exact Goes.ok _ (hR.refl s)
 split
 ·exact (Kq hR s _ _).bind hR fun _ t=>Goes.ok _ (hR.refl t)
 split
 ·exact (Kq hR s _ _).bind hR fun _ t=>Goes.ok _ (Pm hR t _ _ _)
 split
 ·split
  ·exact Goes.err _ (hR.refl s)
  ·exact Goes.ok _ (hR.told s _)
 split
 ·split
  ·exact Goes.ok _ (hR.refl s)
  ·exact Goes.ok _ (hR.inp s _)
 ·exact Goes.ok _ (hR.refl s)
theorem SY (hR:x9 R) (L:List ar):∀f,(∀s F v i,Goes R s (dw L f s F v i))/\(∀s g vs,Goes R s (dS L f s g vs)):=by
 intro f;induction f with
 | zero=>exact⟨fun s F v i=>by simp only[dw];exact Goes.none_ _,fun s g vs=>by simp only[dS];exact Goes.none_ _⟩
 | succ f ih =>
   obtain⟨i1,i2⟩:=ih;refine⟨fun s F v i=>?_,fun s g vs=>?_⟩
   ·simp only[dw]
    split
    ·exact Goes.ok _ (hR.refl s)
    ·refine (PG hR s).bind hR fun _ t=>?_
     split
     ·exact i1 _ _ _ _
     split
     ·split
      ·exact i1 _ _ _ _
      ·exact i1 _ _ _ _
     split
     ·exact (i2 t _ _).bind hR fun n t2=>i1 _ _ _ _
     split
     ·exact Goes.ok _ (hR.refl t)
     ·exact (PF hR v _ t).bind hR fun v2 t2=>i1 _ _ _ _
   ·simp only[dS]
    split
    ·exact Goes.err _ (hR.refl s)
    ·intro y hy
     have h1:Goes R { s with calls:=s.calls+1 } (aS (dw L f { s with calls:=s.calls+1 } (kI L g) (gR vs (kI L g).types.length) 0) fun n t=>a6 n { t with calls:=t.calls-1 }):=(i1 _ _ _ _).bind hR fun n t=>Goes.ok _ (hR.calls t _)
     exact hR.trans _ _ _ (hR.calls s _) (h1 y hy)
end goes
def gj {α:Type} (s:aC) (x:cF α):Prop:=∀y,x=some y->(∃w,y.1=.error (.stop w))\/((∃a,y.1=.ok a)/\y.2.calls=s.calls)
theorem gj.ok {α:Type} {s s':aC} (a:α) (h:s'.calls=s.calls):gj s (a6 a s'):=by
 intro y hy;obtain rfl:=(Option.some.inj hy).symm;exact Or.inr ⟨⟨a,rfl⟩,h⟩
theorem gj.stop {α:Type} {s s':aC} (w:Int):gj s (eP w s':cF α):=by
 intro y hy;obtain rfl:=(Option.some.inj hy).symm;exact Or.inl ⟨w,rfl⟩
theorem gj.bind {α β:Type} {s:aC} {x:cF α} {f:α->aC->cF β} (h:gj s x) (hf:∀a t,t.calls=s.calls->gj s (f a t)):gj s (aS x f):=by
 rcases x with _|⟨g|a,t⟩
 ·intro y hy;cases hy
 ·intro y hy
  obtain rfl:=(Option.some.inj hy).symm;rcases h _ rfl with⟨w,hw⟩|⟨⟨a,ha⟩,h⟩
  ·simp only[Except.error.injEq]at hw
   exact Or.inl ⟨w,by rw[hw]⟩
  ·cases ha
 ·rcases h _ rfl with⟨w,hw⟩|⟨_,h⟩
  ·cases hw
  ·exact hf a t h
theorem gj.to {α:Type} {s t:aC} {x:cF α} (h:gj t x) (hs:t.calls=s.calls):gj s x:=fun y hy=>(h y hy).imp id (fun e=>⟨e.1,e.2.trans hs⟩)
theorem gj.none_ {α:Type} (s:aC):gj s (none:cF α):=by intro y hy;cases hy
theorem ajw (s:aC):gj s (eI s):=by
 unfold eI;split
 ·exact gj.stop _
 ·exact gj.ok _ rfl
theorem Wl (s:aC) (v:V) (i:Int):gj s (cX s v i):=by
 unfold cX;split
 ·exact gj.stop _
 ·exact gj.ok _ rfl
theorem W7 (v:bp) (x:ax) (s:aC):gj s (cq v x s):=by
 unfold cq;split
 ·exact gj.ok _ rfl
 split
 ·exact gj.ok _ rfl
 split
 ·split
  ·exact gj.stop _
  ·exact gj.ok _ rfl
 split
 ·split
  ·exact gj.stop _
  ·exact gj.ok _ rfl
 split
 ·exact gj.ok _ rfl
 split
 ·exact (Wl s _ _).bind fun _ t ht=>gj.ok _ ht
 split
 ·exact (Wl s _ _).bind fun _ t ht=>gj.ok _ (by rw[Ww];exact ht)
 split
 ·split
  ·exact gj.stop _
  ·exact gj.ok _ rfl
 split
 ·split
  ·exact gj.ok _ rfl
  ·exact gj.ok _ rfl
 ·exact gj.ok _ rfl
theorem Vh (L:List ar):∀f,(∀s F v i,gj s (dw L f s F v i))/\(∀s g vs,gj s (dS L f s g vs)):=by
 intro f;induction f with
 | zero=>exact⟨fun s F v i=>by simp only[dw];exact gj.none_ _,fun s g vs=>by simp only[dS];exact gj.none_ _⟩
 | succ f ih =>
   obtain⟨i1,i2⟩:=ih;refine⟨fun s F v i=>?_,fun s g vs=>?_⟩
   ·simp only[dw]
    split
    ·exact gj.ok _ rfl
    ·refine (ajw s).bind fun _ t ht=>?_
     split
     ·exact (i1 _ _ _ _).to ht
     split
     ·split
      ·exact (i1 _ _ _ _).to ht
      ·exact (i1 _ _ _ _).to ht
     split
     ·exact ((i2 t _ _).to ht).bind fun n t2 cP=>(i1 _ _ _ _).to cP
     split
     ·exact gj.ok _ ht
     ·exact ((W7 v _ t).to ht).bind fun v2 t2 cP=>(i1 _ _ _ _).to cP
   ·simp only[dS]
    split
    ·exact gj.stop _
    ·intro y hy
     rcases hx:dw L f { s with calls:=s.calls+1 } (kI L g) (gR vs (kI L g).types.length) 0 with _|⟨e|n,t⟩
     ·rw[hx]at hy;cases hy
     ·rw[hx]at hy
      obtain rfl:=(Option.some.inj hy).symm;rcases i1 _ _ _ _ _ hx with⟨w,hw⟩|⟨⟨a,ha⟩,_⟩
      ·simp only at hw
       exact Or.inl ⟨w,by rw[Except.error.inj hw]⟩
      ·cases ha
     ·rw[hx]at hy
      obtain rfl:=(Option.some.inj hy).symm;rcases i1 _ _ _ _ _ hx with⟨w,hw⟩|⟨_,h1⟩
      ·cases hw
      ·exact Or.inr ⟨⟨n,rfl⟩,by simp only at h1 ⊢;omega⟩
theorem VA (L:List ar):∀f,(∀s F v i,oK (dw L f s F v i) (dw L (f+1) s F v i))/\(∀s g vs,oK (dS L f s g vs) (dS L (f+1) s g vs)):=by
 intro f;induction f with
 | zero =>
   refine⟨fun s F v i=>?_,fun s g vs=>?_⟩
   ·intro y hy;rw[dw]at hy;cases hy
   ·intro y hy;rw[dS]at hy;cases hy
 | succ f ih =>
   obtain⟨i1,i2⟩:=ih;refine⟨fun s F v i=>?_,fun s g vs=>?_⟩
   ·rw[dw,dw]
    split
    ·exact oK.refl _
    ·refine (oK.refl (eI s)).bind fun _ t=>?_
     split
     ·exact i1 _ _ _ _
     split
     ·split
      ·exact i1 _ _ _ _
      ·exact i1 _ _ _ _
     split
     ·exact (i2 t _ _).bind fun n t2=>i1 _ _ _ _
     split
     ·exact oK.refl _
     ·exact (oK.refl (cq v _ t)).bind fun v2 t2=>i1 _ _ _ _
   ·rw[dS,dS]
    split
    ·exact oK.refl _
    ·exact (i1 _ _ _ _).bind fun n t=>oK.refl _
section more
variable {d:Nat} {p:Prop}
theorem ajv {s s':aC} (hp:p) (h:qK d p s s') (v:bp) (x:ax):More d p (cq v x s) (cq v x s'):=by
 unfold cq;by_cases h1:x.code=1
 ·rw[if_pos h1,if_pos h1];exact More.ok _ h
 rw[if_neg h1,if_neg h1];by_cases h1:x.code=2
 ·rw[if_pos h1,if_pos h1];exact More.ok _ h
 rw[if_neg h1,if_neg h1];by_cases h1:x.code=3
 ·rw[if_pos h1,if_pos h1]
  split
  ·exact More.err _ h
  ·exact More.ok _ h
 rw[if_neg h1,if_neg h1];by_cases h1:x.code=9
 ·rw[if_pos h1,if_pos h1]
  split
  ·exact More.err _ h
  ·rw[h.bS]
   exact More.ok _ ⟨h.calls,h.out,rfl,h.fuel,h.inp⟩
 rw[if_neg h1,if_neg h1];by_cases h1:x.code=10
 ·rw[if_pos h1,if_pos h1,h.fF];exact More.ok _ h
 rw[if_neg h1,if_neg h1];by_cases h1:x.code=11
 ·rw[if_pos h1,if_pos h1]
  exact (Wn h _ _).bind (fun n t t' ht=>More.ok _ ht) (fun _ _=>Sr _ _)
 rw[if_neg h1,if_neg h1];by_cases h1:x.code=12
 ·rw[if_pos h1,if_pos h1]
  exact (Wn h _ _).bind (fun n t t' ht=>More.ok _ (ahF ht _ _ _)) (fun _ t=>Goes.ok _ (Pm CE t _ _ _))
 rw[if_neg h1,if_neg h1];by_cases h1:x.code=13
 ·rw[if_pos h1,if_pos h1,h.out]
  split
  ·exact More.err _ h
  ·exact More.ok _ ⟨h.calls,rfl,h.bS,h.fuel,h.inp⟩
 rw[if_neg h1,if_neg h1];by_cases h1:x.code=14
 ·rw[if_pos h1,if_pos h1,h.inp hp]
  split
  ·exact More.ok _ h
  ·exact More.ok _ ⟨h.calls,h.out,h.bS,h.fuel,fun _=>rfl⟩
 rw[if_neg h1,if_neg h1];exact More.ok _ h
theorem ags (hp:p) (L:List ar):∀f,(∀s s' F v i,qK d p s s'->More d p (dw L f s F v i) (dw L f s' F v i))/\(∀s s' g vs,qK d p s s'->More d p (dS L f s g vs) (dS L f s' g vs)):=by
 intro f;induction f with
 | zero=>exact⟨fun s s' F v i _=>by simp only[dw];exact More.none_ _,fun s s' g vs _=>by simp only[dS];exact More.none_ _⟩
 | succ f ih =>
   obtain⟨i1,i2⟩:=ih;obtain⟨g1,g2⟩:=SY CE L f;refine⟨fun s s' F v i h=>?_,fun s s' g vs h=>?_⟩
   ·rw[dw,dw]
    split
    ·exact More.ok _ h
    ·rename_i x _
     have hg:∀ (t:aC),Goes H6 t (if x.code=4 then dw L f t F v (jD F x.label+1)
       else if x.code=5 then (if (v.get x.a).n=0 then dw L f t F v (jD F x.label+1) else dw L f t F v (i+1))
       else if x.code=7 then aS (dS L f t x.name (x.args.map v.get)) fun n s=>dw L f s F (v.put x.dst (bN n)) (i+1)
       else if x.code=8 then a6 (v.get x.a).n t
       else aS (cq v x t) fun v s=>dw L f s F v (i+1)):=by
       intro t;split
       ·exact g1 _ _ _ _
       split
       ·split
        ·exact g1 _ _ _ _
        ·exact g1 _ _ _ _
       split
       ·exact (g2 t _ _).bind CE fun n t2=>g1 _ _ _ _
       split
       ·exact Sr _ _
       ·exact (PF CE v _ t).bind CE fun v2 t2=>g1 _ _ _ _
     refine (ajx h).bind (fun _ t t' ht=>?_) (fun _ t'=>hg t');by_cases h1:x.code=4
     ·rw[if_pos h1,if_pos h1];exact i1 _ _ _ _ _ ht
     rw[if_neg h1,if_neg h1];by_cases h1:x.code=5
     ·rw[if_pos h1,if_pos h1]
      split
      ·exact i1 _ _ _ _ _ ht
      ·exact i1 _ _ _ _ _ ht
     rw[if_neg h1,if_neg h1];by_cases h1:x.code=7
     ·rw[if_pos h1,if_pos h1]
      exact (i2 t t' _ _ ht).bind (fun n t2 aj0 cP=>i1 _ _ _ _ _ cP) (fun n t2=>g1 _ _ _ _)
     rw[if_neg h1,if_neg h1];by_cases h1:x.code=8
     ·rw[if_pos h1,if_pos h1];exact More.ok _ ht
     rw[if_neg h1,if_neg h1];exact (ajv hp ht v x).bind (fun v2 t2 aj0 cP=>i1 _ _ _ _ _ cP) (fun v2 t2=>g1 _ _ _ _)
   ·rw[dS,dS,h.calls]
    split
    ·exact More.err _ h
    ·have hk:qK d p { s with calls:=s.calls+1 } { s' with calls:=s.calls+1 }:=⟨rfl,h.out,h.bS,h.fuel,h.inp⟩
     exact (i1 _ _ _ _ _ hk).bind (fun n t t' ht=>More.ok _ ⟨by simp only[ht.calls],ht.out,ht.bS,ht.fuel,ht.inp⟩) (fun n t=>Goes.ok _ (CE.calls t _))
end more
section soon
variable {L:List ar} {c:Nat}
end soon
theorem Pr (L:List ar) (f:Nat) (given:List Int) (fuel:Nat):runM L f given fuel=(dS L f ⟨given,fuel,0,[],[]⟩ [109,97,105,110] []).map yh:=by
 unfold runM;cases dS L f ⟨given,fuel,0,[],[]⟩ [109,97,105,110] [] with
 | none=>rfl
 | some y =>
   obtain⟨(w|n)|n,t⟩:=y <;> rfl
end aW
namespace aW
open Go.RowKit bB Go.ChangeShapes Go.WideShapes Go.Proofs.Tryz
structure qO (s:ax):Prop where
 cL:b9 s.code/\b9 s.dst/\b9 s.a/\b9 s.b/\b9 s.c/\b9 s.n/\b9 s.label
 texts:s.op.length<=maxLen/\s.name.length<=maxLen
 args:∀x∈s.args,b9 x
structure tS (f:ar):Prop where
 name:f.name.length<=maxLen
 params:b9 f.params
 types:∀x∈f.types,b9 x
 steps:∀s∈f.steps,qO s
section
variable {H:Type} {enc:TypeId×Value->H} {P:Program} {W:World}
end
section
variable {H:Type} {enc:TypeId×Value->H} {W:World}
end
end aW
namespace aW
open Go.RowKit bB Go.Maps aB Go.Proofs.Tryz
variable {P M M' T:Nat->Prop} {A aK:List (Nat×Nat)} {W w:World} {vs:List V} {L:List ar} {base b ak g:Nat} {lv:Value} {cs:List Value} {f:ar} {v v2:bp}
def j1 (W:World) (base:Nat) (P M:Nat->Prop) (A:List (Nat×Nat)) (lv:Value) (vs:List V):Prop :=
 ∃cs,W.ownsRow base 123 2 lv vs.length cs/\(∀k,lv.ownBlock=some k->¬M k/\¬P k)/\∀j x,vs[j]?=some x->∃u v,cs[j*2]?=some u/\cs[j*2+1]?=some v/\iW A x (.agg #[u,v])
theorem j1.none_ (W:World) (base:Nat) (P M:Nat->Prop) (A:List (Nat×Nat)):j1 W base P M A (.slice none 0 0) [] :=
 ⟨[],World.ownsRow_nil _ _ _ _,fun k hk=>(by cases hk),fun j x hx=>(by simp at hx)⟩
theorem j1.ext (h:j1 W base P M A lv vs) (bT:Ext ai M M' W w) (hA:A <+: aK):j1 w base P M' aK lv vs:=by
 obtain⟨cs,h1,h2,h3⟩:=h;refine⟨cs,bT.mods.ownsRow h1 (fun k hk hs=>hs.elim (fun f=>f.elim) (h2 k hk).1),fun k hk=>⟨fun hm=>(h2 k hk).1 (bT.back k (h1.lt k hk).2 hm),(h2 k hk).2⟩,fun j x hx=>?_⟩;obtain⟨u,v,e1,e2,e3⟩:=h3 j x hx;exact⟨u,v,e1,e2,e3.more hA⟩
theorem j1.grow {w4 aJ:World} {v':Value} {x:V} {u v:Value} (h1:w4.ownsRow base 123 2 lv vs.length cs) (h2:∀k,lv.ownBlock=some k->¬M k/\¬P k) (h3:∀j x,vs[j]?=some x->∃u v,cs[j*2]?=some u/\cs[j*2+1]?=some v/\iW A x (.agg #[u,v]))
 (hown:aJ.ownsRow base 123 2 v' (vs.length+1) (cs++[u,v])) (hloc:v'.ownBlock=lv.ownBlock\/v'.ownBlock=some w4.heap.size) (hM:∀k,M k->k<w4.heap.size) (dZ:∀k,P k->k<w4.heap.size) (hv:iW A x (.agg #[u,v])):j1 aJ base P M A v' (vs++[x]):=by
 refine⟨cs++[u,v],by simpa using hown,fun k hk=>?_,fun j y hy=>?_⟩
 ·rcases hloc with hl|hl
  ·exact h2 k (by rw[<-hl];exact hk)
  ·rw[hl]at hk
   obtain rfl:=anz hk;exact⟨fun hm=>absurd (hM _ hm) (an5 _),fun hp=>absurd (dZ _ hp) (an5 _)⟩
 ·have hlen:=h1.1
  rcases aov j vs.length with hj|hj
  ·rw[anI hj]at hy
   obtain⟨u',v',e1,e2,e3⟩:=h3 j y hy;exact⟨u',v',by rw[anI (by omega)];exact e1,by rw[anI (by omega)];exact e2,e3⟩
  ·rw[anH hj]at hy
   obtain⟨BU,hy⟩:=anA.1 hy;simp only[an0]at BU;obtain rfl:j=vs.length:=(by omega);simp only[aog,aop]at hy;subst hy;refine⟨u,v,?_,?_,hv⟩
   ·rw[anH (by omega),hlen,aog];rfl
   ·rw[anH (by omega),hlen,show vs.length*2+1-vs.length*2=1 by omega];rfl
structure zj (L:List ar):Prop where
 code:p9 L=true
 ok:∀f∈L,tS f
theorem zj.fn (h:zj L) (hf:f∈L):l4 L f=true:=by
 have:=h.code;unfold p9 at this;simp only[anX,aoC]at this;exact this.1.2 f hf
theorem zj.sizes (h:zj L) (hf:f∈L):f.types.length<=3000/\f.steps.length<=6000/\∀s∈f.steps,cx L f s=true:=by
 have:=h.fn hf;unfold l4 at this;simp only[anX,decide_eq_true_eq,aoC]at this;exact⟨this.1.1.1.1.1.1,this.1.1.1.1.2,this.2⟩
def sN (L:List ar) (f:Nat):Prop:=∀ (g:List UInt8) (vs:List V) (b ak base:Nat) (P M:Nat->Prop) (A:List (Nat×Nat)) (s:aC) (W:World) (lv:Value) (r:Except cz Int×aC),bt W b ak L P M A s->j1 W base P M A lv vs->g.length<=maxLen->(∃h,oh L g=some h/\vs.length<=h.types.length)->dS L f s g vs=some r ->
 Calls prog 23 #[.pointer (some ⟨b,0,none⟩),str g,lv] W (dP W b ak L P ai M A Ed r)
theorem agz:(prog.info? 123).map (fun i=>(i.zero,i.size,i.bytes))=some (some rL,2,32):=by kernel_rfl
theorem agA:(prog.info? 123).map (·.size)=some 2:=by kernel_rfl
theorem akH (w:World):(zeroValue 55).run prog w=.ok xP w:=by kernel_rfl
structure EC (W:World) (P M:Nat->Prop) (A:List (Nat×Nat)) (b ak g q aQ:Nat) (L:List ar) (F:ar) (ta sa:Option Addr) (tc sc c0:Nat) (r:Except cz Int×aC) (k i:Nat) (v:bp) (M':Nat->Prop) (aK:List (Nat×Nat)) (s':aC) (wr:World):Prop where
 run:aS (dw L k s' F v i) (fun n t=>a6 n { t with calls:=t.calls-1 })=some r
 rat:bt wr b ak L P M' aK s'
 pl:pd wr P M' aK g v
 len:v.length=F.types.length
 ext:Ext ai M M' W wr
 pre:A <+: aK
 box:aw wr q [str F.name,F.params,.slice ta F.types.length tc,.slice sa F.steps.length sc] 55
 nq:¬M' q/\¬P q
 mH:∃n,fw wr aQ n (.int .i64 0) (fun l=>.int .i64 (fq F.steps l 0 0))
 nb:¬M' aQ/\¬P aQ
 AG:jS wr (fun k=>¬P k) (.slice sa F.steps.length sc) F.steps
 base:W.heap.size<=g/\W.heap.size<=q/\W.heap.size<=aQ/\g≠q/\g≠aQ
 calls:s'.calls=c0+1
theorem EC.next {wr:World} {q aQ:Nat} {F:ar} {ta sa:Option Addr} {tc sc c0:Nat} {r:Except cz Int×aC} {k i:Nat} {M2:Nat->Prop} {kp:List (Nat×Nat)} {s' s2:aC} {k2 i2:Nat}
 (h:EC W P M A b ak g q aQ L F ta sa tc sc c0 r k i v M' aK s' wr) (hrun:aS (dw L k2 s2 F v2 i2) (fun n t=>a6 n { t with calls:=t.calls-1 })=some r) (hR:bt w b ak L P M2 kp s2) (hv:pd w P M2 kp g v2) (hl:v2.length=F.types.length) (bT:Ext T M' M2 wr w) (hT:∀j,T j->j=g) (hA:aK <+: kp) (hc:s2.calls=c0+1) :
 EC W P M A b ak g q aQ L F ta sa tc sc c0 r k2 i2 v2 M2 kp s2 w:=by
 obtain⟨h1,h2,h3,h4,h5,h6,h7,h8,⟨n,dJ⟩,h10,h11,fM,nM⟩:=h;have hq:¬T q:=fun e=>fM.2.2.2.1 (hT q e).symm
 have jr:¬T aQ:=fun e=>fM.2.2.2.2 (hT aQ e).symm
 have hbl:aQ<wr.heap.size:=dJ.lt;refine⟨hrun,hR,hv,hl,?_,h6.trans hA,(nr h7 bT h8.1 hq).1,⟨(nr h7 bT h8.1 hq).2,h8.2⟩,⟨n,dJ.mods bT.mods (fun f=>f.elim jr h10.1)⟩,⟨fun hm=>h10.1 (bT.back aQ hbl hm),h10.2⟩,h11.mods (bT.mods.mono ?_) (fun _ _ k=>k),fM,hc⟩
 ·exact h5.Ep bT (fun j hj MY=>by have:=hT j MY;have:=fM.1;omega)
 ·intro j hj MY
  obtain⟨_,_,_,_,_,gU⟩:=h3;exact MY.elim (fun e=>by rw[hT j e];exact gU) (h2.off j)
theorem akG:rL.cells=#[.int .i64 0,.slice none 0 0]:=rfl
theorem af6 (n j:Nat) (h:j<n):(madeCells rL.cells (n*2)).toList[j*2]?=some (.int .i64 0)/\(madeCells rL.cells (n*2)).toList[j*2+1]?=some (.slice none 0 0):=by
 rw[akG];have h1:j*2<n*2:=by omega
 have h2:j*2+1<n*2:=by omega
 have e1:j*2 % 2=0:=by omega
 have e2:(j*2+1) % 2=1:=by omega
 constructor
 ·simp[madeCells,h1,e1]
 ·simp[madeCells,h2,e2]
theorem ahy {n:Nat} (hb:aw w g (splice (madeCells rL.cells (n*2)).toList 0 cs) 123) (hl:vs.length<=n) (hc:cs.length=vs.length*2) (hv:∀j x,vs[j]?=some x->∃u v,cs[j*2]?=some u/\cs[j*2+1]?=some v/\iW A x (.agg #[u,v])) (hM:¬M g) (dZ:¬P g):pd w P M A g (gR vs n)/\(gR vs n).length=n:=by
 have hlen:(gR vs n).length=n:=by unfold gR;simp;omega
 have uz:(madeCells rL.cells (n*2)).toList.length=n*2:=by simp[madeCells]
 refine⟨⟨_,hb,?_,fun j x hx=>?_,hM,dZ⟩,hlen⟩
 ·rw[length_splice _ _ _ (by omega),uz,hlen]
 ·unfold splice
  simp only[List.take_zero,aom,an9];unfold gR at hx;rw[anN hl]at hx;rcases aov j vs.length with hj|hj
  ·rw[anI hj]at hx
   obtain⟨u,v,e1,e2,e3⟩:=hv j x hx;exact⟨u,v,by rw[anI (by omega)];exact e1,by rw[anI (by omega)];exact e2,e3⟩
  ·rw[anH hj]at hx
   obtain⟨BU,hx⟩:=anA.1 hx;simp only[List.length_replicate]at BU;simp only[List.getElem_replicate]at hx;subst hx;obtain⟨m1,m2⟩:=af6 n j (by omega);refine⟨_,_,?_,?_,Or.inl ⟨rfl,rfl⟩⟩
   ·rw[anH (by omega),aor,hc,show vs.length*2+(j*2-vs.length*2)=j*2 by omega];exact m1
   ·rw[anH (by omega),aor,hc,show vs.length*2+(j*2+1-vs.length*2)=j*2+1 by omega];exact m2
theorem j1.at_ (h:j1 W base P M A lv vs):∃ (jx:Option Addr) (lc:Nat) (cs:List Value),lv=.slice jx vs.length lc/\cs.length=vs.length*2/\(0<vs.length->∃ad,jx=some ad/\∀j v,cs[j]?=some v->W.cell? (ad.add j)=some v)/\(∀j x,vs[j]?=some x->∃u v,cs[j*2]?=some u/\cs[j*2+1]?=some v/\iW A x (.agg #[u,v]))/\∀v∈cs,v.oneCell'=true:=by
 obtain⟨cs,h1,h2,h3⟩:=h;obtain⟨jx,lc,rfl⟩:=y3 h1;refine⟨jx,lc,cs,rfl,h1.1,fun hp=>?_,h3,fun v hv=>?_⟩
 ·rcases h1.2 with⟨hv,h0⟩|⟨g,cap,cur,hv,_⟩
  ·omega
  ·simp only[Value.slice.injEq]at hv
   obtain⟨rfl,-,-⟩:=hv;exact⟨_,rfl,fun j v hj=>h1.cells (g:=g) rfl j v hj⟩
 ·obtain⟨j,hj⟩:=aoH.1 hv
  have ep:=(anA.1 hj).1;have hl:=h1.1;obtain⟨x,hx⟩:∃x,vs[j / 2]?=some x:=⟨_,anx (by omega)⟩;obtain⟨u,w,e1,e2,e3⟩:=h3 _ x hx;have BU:j=j / 2*2\/j=j / 2*2+1:=by omega
  rcases e3 with⟨-,e⟩|⟨_,_,_,-,-,e⟩ <;> simp only[Value.agg.injEq,Array.mk.injEq,List.cons.injEq,and_true]at e <;> obtain⟨rfl,rfl⟩:=e <;> rcases BU with k|k <;> rw[k]at hj <;> (first|(rw[e1]at hj;obtain rfl:=anz hj;rfl)|(rw[e2]at hj;obtain rfl:=anz hj;rfl))
theorem agd {α β:Type} {W0:World} {T0 b_:Nat->Prop} {jk:List (Nat×Nat)} {x:cF α} {f:α->aC->cF β} {r:Except cz β×aC} {F:FuncId} {args:Array Value} {ok:α->(Nat->Prop)->List (Nat×Nat)->Ending->World->Prop} {Q:Ending->World->Prop}
 (hT:∀k,T k->T0 k) (bT:Hid (Ext T0 b_ M W0 W)) (hA:Hid (jk <+: A)) (hx:Hid (aS x f=some r)) (hc:∀y,x=some y->Calls prog F args W (dP W b ak L P T M A ok y))
 (l5:∀g s',r=(.error g,s')->∀ (aV:Old) w,Hid (∃M' aK,bt w b ak L P M' aK s'/\Ext T0 b_ M' W0 w/\jk <+: aK)->Q (.panicked ({ v:=AD g,recovered:=false }::aV.1)) w)
 (aZ:∀a s',Hid (x=some (.ok a,s'))->Hid (f a s'=some r)->∀e w M' aK,ok a M' aK e w->Hid (bt w b ak L P M' aK s')->Hid (Ext T M M' W w)->Hid (Ext T0 b_ M' W0 w)->Hid (A <+: aK)->Hid (jk <+: aK)->Q e w) :
 Calls prog F args W Q:=by
 have hx:=hx.out;cases hp:x with
 | none=>rw[hp]at hx;cases hx
 | some y =>
   refine (hc y hp).mono ?_;intro e w h;rw[hp]at hx;obtain⟨y,s'⟩:=y;cases y with
   | error g =>
     obtain⟨⟨aV,rfl⟩,M',aK,h1,h2,h3⟩:=h;exact l5 g s' (anz hx).symm aV w (af ⟨M',aK,h1,bT.out.trans (h2.more fun k _ hk=>hT k hk),hA.out.trans h3⟩)
   | ok a =>
     obtain⟨M',aK,h0,h1,h2,h3⟩:=h;exact aZ a s' (af hp) (af hx) e w M' aK h0 (af h1) (af h2) (af (bT.out.trans (h2.more fun k _ hk=>hT k hk))) (af h3) (af (hA.out.trans h3))
theorem nv (v:bp) (p:Int) (x:V):(v.put p x).length=v.length:=by unfold bp.put;simp
theorem aju {x:ax} {s t:aC} (h:cq v x s=some (.ok v2,t)):v2.length=v.length:=by
 have ok:∀ {a:bp} {s:aC},a6 a s=some (.ok v2,t)->a.length=v.length->v2.length=v.length:=by
  intro a s h k;unfold a6 at h;simp only[anG,an8,Except.ok.injEq]at h;rw[<-h.1,k]
 have bad:∀ {w:Int} {s:aC},¬(eP w s:cF bp)=some (.ok v2,t):=by
  intro w s h;unfold eP at h;cases h
 unfold cq at h;split at h
 ·exact ok h (nv _ _ _)
 split at h
 ·exact ok h (nv _ _ _)
 split at h
 ·split at h
  ·exact (bad h).elim
  ·exact ok h (nv _ _ _)
 split at h
 ·split at h
  ·exact (bad h).elim
  ·exact ok h (nv _ _ _)
 split at h
 ·exact ok h (nv _ _ _)
 split at h
 ·unfold cX at h
  split at h
  ·exact (bad h).elim
  ·exact ok h (nv _ _ _)
 split at h
 ·unfold cX at h
  split at h
  ·exact (bad h).elim
  ·exact ok h rfl
 split at h
 ·split at h
  ·exact (bad h).elim
  ·exact ok h rfl
 split at h
 ·split at h
  ·exact ok h (nv _ _ _)
  ·exact ok h (nv _ _ _)
 ·exact ok h rfl

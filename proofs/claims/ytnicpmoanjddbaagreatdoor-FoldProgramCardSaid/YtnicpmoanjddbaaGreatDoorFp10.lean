/- A part of what stands behind. -/
import Derived.Test.YtnicpmoanjddbaaGreatDoorFp09
import Derived.Lib.MinMax
set_option maxRecDepth 100000
set_option maxHeartbeats 4000000
set_option linter.all false
namespace Go.Proofs.YtnicpmoanjddbaaGreatDoor
namespace aB
open Go.RowKit bB Go.Proofs.Tryz
variable {L:List Fn} {b q6 f q3 aF m q7 on B:Nat} {w W W0:World} {R Q:Ending->World->Prop} {tmps args:Array Value} {S M T M' P:Nat->Prop} {u:Value} {β α:Type} {n k w1 w2:Int} {aG:Option Addr} {F:FuncId} {l:List St}
def pn (L:List Fn) (N:Nm) (m:Nat) (l:List St):e6 (Nm×Nat):=cn (lO L N m l) fun x=>.ok (N,x.2)
theorem ZO {N N':Nm} {m':Nat} {p:List UInt8×Int} {a:Int} (h:pg N m p a=.ok (N',m')):m<=m':=by
 unfold pg at h;split at h
 ·cases h
 ·split at h
  ·cases h
  ·cases h;omega
theorem gq {x:e6 α} {f:α->e6 β} {y:β} (h:cn x f=.ok y):∃a,x=.ok a/\f a=.ok y:=by
 cases x with
 | error e=>cases h
 | ok a=>exact⟨a,rfl,h⟩
mutual
theorem Xe (L:List Fn):(s:St)->(N N':Nm)->(m m':Nat)->eN L N m s=.ok (N',m')->m<=m'
 | .var a s v,N,N',m,m',h=>by
   simp only[eN]at h;obtain⟨t,_,h2⟩:=gq h;exact ZO h2
 | .set a s v,N,N',m,m',h=>by
   simp only[eN]at h;split at h
   ·cases h
   ·obtain⟨t,_,h2⟩:=gq h
    cases h2;omega
 | .put a s i v,N,N',m,m',h=>by
   simp only[eN]at h;split at h
   ·cases h
   ·split at h
    ·cases h
    ·obtain⟨t,_,h2⟩:=gq h
     obtain⟨t,_,h2⟩:=gq h2;cases h2;omega
 | .cond a v t e,N,N',m,m',h=>by
   simp only[eN]at h;obtain⟨_,_,h2⟩:=gq h;obtain⟨x,h3,h4⟩:=gq h2;obtain⟨y,h5,h6⟩:=gq h4;cases h6;have:=KE L t N x.1 m x.2 h3;have:=KE L e N y.1 x.2 y.2 h5;omega
 | .loop a v t,N,N',m,m',h=>by
   simp only[eN]at h;obtain⟨_,_,h2⟩:=gq h;obtain⟨x,h3,h4⟩:=gq h2;cases h4;exact KE L t N x.1 m x.2 h3
 | .ret a v,N,N',m,m',h=>by
   simp only[eN]at h;obtain⟨_,_,h2⟩:=gq h;cases h2;omega
 | .print a v,N,N',m,m',h=>by
   simp only[eN]at h;obtain⟨_,_,h2⟩:=gq h;cases h2;omega
 | .call a v,N,N',m,m',h=>by
   simp only[eN]at h;obtain⟨_,_,h2⟩:=gq h;cases h2;omega
theorem KE (L:List Fn):(l:List St)->(N N':Nm)->(m m':Nat)->lO L N m l=.ok (N',m')->m<=m'
 | [],N,N',m,m',h=>by
   simp only[lO]at h;cases h;omega
 | s::r,N,N',m,m',h=>by
   simp only[lO]at h;obtain⟨x,h1,h2⟩:=gq h;have:=Xe L s N x.1 m x.2 h1;have:=KE L r x.1 N' x.2 m' h2;omega
end
theorem JV {x:e6 α} {f:α->e6 β} {r:e6 β} {ret:α->Value}
 (hM:Hid (ag (·=b) W0 W)) (hx:Hid (cn x f=r)) (hc:Calls prog F args W (rX W ret x))
 (l5:∀n a,r=.error (n,a)->∀g w,Hid (aw w g [.int .i64 n,.int .i64 a] 136)->Hid (ag (·=b) W0 w)->Q (.panicked [{ v:=za g,recovered:=false }]) w)
 (aZ:∀y,Hid (x=.ok y)->Hid (f y=r)->∀w,Hid (ag ai W w)->Hid (ag (·=b) W0 w)->Q (.returned (ret y)) w) :
 Calls prog F args W Q:=by
 have hx:=hx.out;refine hc.mono ?_;intro e w h;cases x with
 | error q =>
   obtain⟨n,a⟩:=q;obtain⟨⟨g,rfl,hb⟩,hm⟩:=h;exact l5 n a hx.symm g w (af hb) (af (hM.out.trans (hm.mono fun _ _ f=>f.elim)))
 | ok y =>
   obtain⟨rfl,hm⟩:=h;exact aZ y (af rfl) (af hx) w (af hm) (af (hM.out.trans (hm.mono fun _ _ f=>f.elim)))
theorem Ff {x:e6 (Nm×Nat)} {f:Nm×Nat->e6 β} {r:e6 β}
 (hM:Hid (ag (·=b) W0 W)) (hx:Hid (cn x f=r)) (hc:Calls prog F args W (mQ W b L x))
 (l5:∀n a,r=.error (n,a)->∀g w,Hid (aw w g [.int .i64 n,.int .i64 a] 136)->Hid (ag (·=b) W0 w)->Q (.panicked [{ v:=za g,recovered:=false }]) w)
 (aZ:∀y,Hid (x=.ok y)->Hid (f y=r)->∀w,Hid (kU w b L y.1 y.2)->Hid (ag (·=b) W w)->Hid (ag (·=b) W0 w)->Q (.returned (.tuple #[])) w) :
 Calls prog F args W Q:=by
 have hx:=hx.out;refine hc.mono ?_;intro e w h;cases x with
 | error q =>
   obtain⟨n,a⟩:=q;obtain⟨⟨g,rfl,hb⟩,hm⟩:=h;exact l5 n a hx.symm g w (af hb) (af (hM.out.trans hm))
 | ok y =>
   obtain⟨rfl,hk,hm⟩:=h;exact aZ y (af rfl) (af hx) w (af hk) (af hm) (af (hM.out.trans hm))
def LP (L:List Fn) (s:St):Prop:=∀ (b:Nat) (N:Nm) (m:Nat) (cs:List Value) (W:World) (r:e6 (Nm×Nat)),kU W b L N m->cy W (·=b) s cs->eN L N m s=r ->
 Calls prog 68 #[.pointer (some ⟨b,0,none⟩),.agg cs.toArray] W (mQ W b L r)
def Ex (L:List Fn) (l:List St):Prop:=∀ (b:Nat) (N:Nm) (m:Nat) (v:Value) (vs:List Value) (W:World) (r:e6 (Nm×Nat)),kU W b L N m->fL W (·=b) 143 7 v l.length vs->cE W (·=b) l vs->pn L N m l=r ->
 Calls prog 41 #[.pointer (some ⟨b,0,none⟩),v] W (mQ W b L r)
theorem cy.afw {s:St} {cs:List Value} (h:cy W S s cs):cs.length=7:=by
 obtain⟨_,_,_,_,_,_,_,_,_,_,_,rfl⟩:=h.shape;rfl
theorem cE.get:{l:List St}->{vs:List Value}->cE W S l vs->(i:Nat)->(s:St)->l[i]?=some s->∃cs,cy W S s cs/\∀j,j<7->vs[i*7+j]?=cs[j]?
 | [],vs,h,i,s,hs=>by simp at hs
 | a::r,vs,h,i,s,hs=>by
   simp only[cE]at h;obtain⟨cs,r2,rfl,h1,h2⟩:=h;have h7:=h1.afw;cases i with
   | zero =>
     simp only[anO,anG]at hs;subst hs;refine⟨cs,h1,fun j hj=>?_⟩;rw[anI (by omega)]
     congr 1
     omega
   | succ i =>
     obtain⟨ds,h3,h4⟩:=cE.get h2 i s (by simpa using hs);refine⟨ds,h3,fun j hj=>?_⟩;rw[anH (by omega),h7,<-h4 j hj]
     congr 1
     omega
theorem Fl (hS:∀s∈l,LP L s):Ex L l:=by
 intro b N m v vs W r hC hrow hst hr;obtain⟨r0,uC⟩:=aq (lO L N m l);have aP:Hid (cn r0 (fun x=>.ok (N,x.2))=r):=af (by rw[uC];exact hr);have aj:Hid (lO L N m (l.drop 0)=r0):=af uC.symm;have HST:=af (fun (w:World) (hm:ag (·=b) W w)=>(cE.b8 hm (fun _ _ k=>k) _ _ hst:cE w (·=b) l vs));obtain⟨sa,sc,rfl,hsc,hsm,DK⟩:=o6 hrow.1;have lx:=af (fun (w:World) (hm:ag (·=b) W w) (i:Nat) (hi:i<l.length)=>(by
  obtain⟨cs,h1,h2⟩:=(HST w hm).get i l[i] (anx hi);obtain⟨code,a,name,p,q,aG,on,aF,ob,eX,eW,rfl⟩:=h1.shape;have cell:∀j u,j<7->([.int .i64 code,.int .i64 a,.string name,.pointer p,.pointer q,.slice aG on aF,.slice ob eX eW]:List Value)[j]?=some u->∃g,sa=some ⟨g,0,none⟩/\w.cell? ⟨g,i*7+j,none⟩=some u:=by
   intro j u hj hu;obtain⟨g,e1,e2,e3⟩:=DK (i*7+j) u (by rw[h2 j hj];exact hu);exact⟨g,e1,hm.cellOf e3 (hrow.2 g e2)⟩
  obtain⟨g,e0,ja⟩:=cell 0 _ (by omega) rfl;have nJ:∀j u,j<7->([.int .i64 code,.int .i64 a,.string name,.pointer p,.pointer q,.slice aG on aF,.slice ob eX eW]:List Value)[j]?=some u->w.cell? ⟨g,i*7+j,none⟩=some u:=by
   intro j u hj hu;obtain⟨g',e1,e2⟩:=cell j u hj hu;rw[e0]at e1;obtain rfl:g=g':=(by simpa using e1);exact e2
  exact⟨g,code,a,name,p,q,aG,on,aF,ob,eX,eW,e0,ja,nJ 1 _ (by omega) rfl,nJ 2 _ (by omega) rfl,nJ 3 _ (by omega) rfl,nJ 4 _ (by omega) rfl,nJ 5 _ (by omega) rfl,nJ 6 _ (by omega) rfl,h1⟩ :
  ∃g code a name p q aG on aF ob eX eW,sa=some ⟨g,0,none⟩/\w.cell? ⟨g,i*7,none⟩=some (.int .i64 code)/\w.cell? ⟨g,i*7+1,none⟩=some (.int .i64 a)/\w.cell? ⟨g,i*7+2,none⟩=some (.string name)/\w.cell? ⟨g,i*7+3,none⟩=some (.pointer p)/\w.cell? ⟨g,i*7+4,none⟩=some (.pointer q)/\w.cell? ⟨g,i*7+5,none⟩=some (.slice aG on aF)/\w.cell? ⟨g,i*7+6,none⟩=some (.slice ob eX eW)/\
   cy w (·=b) l[i] [code,a,.string name,.pointer p,.pointer q,.slice aG on aF,.slice ob eX eW]))
 obtain⟨few,hlen,fv,tH,hb,hF,hN⟩:=hC;have aU:Hid (kU W b L N m):=af ⟨few,hlen,fv,tH,hb,hF,hN⟩;have aT:=af hN;have YB:=af hlen;obtain⟨eV,nn,o5,rfl,-⟩:=hN;have ak7:W.cell? ⟨b,1,none⟩=some (.slice eV nn o5):=hb.cell rfl;have az:=af (ag.refl (·=b) W);obtain⟨n,hn⟩:=aq (l.length);have mn:=af hn;have Lz:=af (fun (i:Nat) (hi:i<l.length)=>hS l[i] (aof hi));rw[<-hn]at hsc;unfold maxLen at hsm;rw[<-hn];clear uC hr hrow hst DK few hlen hF hb hn hS;go_in;go_wp2_with fail
 go_loopw [6,13] (fun _ iv wr=>∃ (i:Nat) (N':Nm) (m':Nat),i<=n/\iv=.int .i64 i/\Hid (kU wr b L N' m'/\m<=m')/\Hid (lO L N' m' (l.drop i)=r0)/\Hid (ag (·=b) W wr)) (fun _ iv _=>(n-intOf iv).toNat)
 case atStart=>exact⟨0,N,m,anC _,rfl,af ⟨aU,anD _⟩,aj,az⟩
 case round =>
  clear aj az aU;obtain⟨i,N',m',hi,rfl,aU,aj,az⟩:=hrel;by_cases hlt:i<n
  ·have bm:i<l.length:=by have:=mn.out;omega
   obtain⟨g,code,a,name,p,q,aG,on,aF,ob,eX,eW,rfl,ja,k1,k2,k3,k4,gU,tD,hs⟩:=lx.out wr az i bm;have cA:(i:Int)<(n:Int):=(by omega);have HS:=af hs;obtain⟨W1,hW1⟩:=aq (wr.alloc (.cells #[code,a,.string name,.pointer p,.pointer q,.slice aG on aF,.slice ob eX eW] 143));have bR:Hid (ag ai wr W1):=af (by rw[hW1];exact ay.alloc _);have bh:Hid (cn (eN L N' m' l[i]) (fun x=>lO L x.1 x.2 (l.drop (i+1)))=r0):=af (by
        rw[<-aj.out,anL bm];simp only[lO])
   have wP:=af (Lz i bm b N' m' _ W1 _ (aU.1.mods bR) (cy.b8 (bR.mono fun _ _ f=>f.elim) (fun _ _ k=>k) _ _ HS) rfl);have t_:Hid (ag (·=b) W W1):=af (az.trans (bR.mono fun _ _ f=>f.elim));clear hs aj;go_wp2_with fail;rw[<-hW1];clear hW1 ja k1 k2 k3 k4 gU tD;go_at_call 68;refine Ff (b:=b) t_ bh wP ?_ ?_
   ·rintro q1 q2 uC g w aA aD
    obtain rfl:r=.error (q1,q2):=(by rw[<-aP.out,uC];rfl);clear bh wP Lz aP;go_wp2;exact⟨rfl,⟨g,rfl,aA⟩,aD⟩
   ·intro y hy aeH w HK o_ aD
    have kj:=Xe L _ _ y.1 _ y.2 hy.out;have u6:=af (aol aU.2 kj);clear kj bh wP hy;go_wp2_with fail;exact⟨⟨i+1,y.1,y.2,by omega,by go_num,af ⟨HK,u6⟩,aeH,aD⟩,by simp[intOf];omega⟩
  ·obtain rfl:i=n:=by omega
   have cA:¬(i:Int)<(i:Int):=(by omega);have hx:=aj.out;rw[mn.out,anZ]at hx;simp only[lO]at hx;obtain rfl:r=.ok (N,m'):=(by rw[<-aP.out,<-hx];rfl);obtain⟨few,hlen,acA,ag3,hb2,hF2,MU⟩:=aU.1;have c1:wr.cell? ⟨b,1,none⟩=some ag3:=hb2.cell rfl;have f1:wr.frozen? ⟨b,1,none⟩=false:=hb2.free 1;have bY:=af hb2;have pP:=af hF2;have qF:=af aU.2;have Ye:=af few;clear hx aj aP aU hb2 hF2 MU hlen few Lz lx;unfold mQ;go_wp2_with fail;go_end0;have yv:ag (·=b) wr (wr.setCell ⟨b,1,none⟩ (.slice eV nn o5)):=ag.setCell (S:=(·=b)) (p:=⟨b,1,none⟩) ay (fun _=>rfl) _;exact⟨rfl,⟨Ye,aol YB qF,acA,_,bY.set 1 _,pP.mods yv (fun _ _ f=>f),aT.mods (az.trans yv) (fun _ _ f=>f)⟩,az.trans yv⟩
theorem Cw (W:World) (S:Nat->Prop) (e:TypeId) (k:Nat):fL W S e k bV 0 []:=⟨World.ownsRow_nil _ _ _ _,fun _ h=>nomatch h⟩
def GY (L:List Fn) (N:Nm) (m:Nat) (v:aL) (t e:List St):e6 (Nm×Nat):=cn (ia L N v 1) fun _=>cn (pn L N m t) fun x=>pn L x.1 x.2 e
theorem G6 (code a:Int) (Dt:code=4\/code=5\/code=6\/code=7\/code=8) {v:aL} {t e:List St} (ht:Ex L t) (he:Ex L e) (b:Nat) (N:Nm) (m:Nat) (bq pv qv:Value) (jM dQ:List Value) (W:World) (r:e6 (Nm×Nat)) (hC:kU W b L N m)
 (hv:aX W (·=b) v bq) (hp:fL W (·=b) 143 7 pv t.length jM) (tA:cE W (·=b) t jM) (hq:fL W (·=b) 143 7 qv e.length dQ) (UB:cE W (·=b) e dQ) (hr:GY L N m v t e=r) :
 Calls prog 68 #[.pointer (some ⟨b,0,none⟩),.agg (dt code a [] cV bq pv qv).toArray] W (mQ W b L r):=by
 obtain⟨iA,rfl⟩:=hv.ptr;obtain⟨pa,bz,ck,rfl⟩:=hp.form;obtain⟨bg,qn,br,rfl⟩:=hq.form;have aj:Hid (cn (ia L N v 1) (fun _=>cn (pn L N m t) fun x=>pn L x.1 x.2 e)=r):=af hr;obtain⟨W1,hW1⟩:=aq (W.alloc (.cells (dt code a [] cV (.pointer (some ⟨iA,0,none⟩)) (.slice pa bz ck) (.slice bg qn br)).toArray 143));have bR:Hid (ag ai W W1):=af (by rw[hW1];exact ay.alloc _);have bD:Hid (aw W1 W.heap.size (dt code a [] cV (.pointer (some ⟨iA,0,none⟩)) (.slice pa bz ck) (.slice bg qn br)) 143):=af (by rw[hW1];exact aw.new W _ _);have qy:Hid (¬W.heap.size=b):=af (by obtain⟨_,_,_,_,hb,_⟩:=hC;have:=hb.lt;omega);have tZ:Hid (ag (·=b) W W1):=af (bR.mono fun _ _ f=>f.elim);have aU:=af (hC.mods bR);have HW:=af (KN L N v hC hv 1 W1 bR);have bA:=af (fun (w:World) (N':Nm) (m':Nat) (hm:ag (·=b) W w) (hk:kU w b L N' m')=>(ht b N' m' _ jM w _ hk (hp.mods hm (fun _ _ k=>k)) (cE.b8 hm (fun _ _ k=>k) _ _ tA) rfl:Calls prog 41 #[.pointer (some ⟨b,0,none⟩),.slice pa bz ck] w (mQ w b L (pn L N' m' t))));have a_:=af (fun (w:World) (N':Nm) (m':Nat) (hm:ag (·=b) W w) (hk:kU w b L N' m')=>(he b N' m' _ dQ w _ hk (hq.mods hm (fun _ _ k=>k)) (cE.b8 hm (fun _ _ k=>k) _ _ UB) rfl:Calls prog 41 #[.pointer (some ⟨b,0,none⟩),.slice bg qn br] w (mQ w b L (pn L N' m' e))));clear hC hv hp tA hq UB hr ht he;unfold dt cV str at *;rcases Dt with rfl|rfl|rfl|rfl|rfl
 all_goals
  go_in;go_wp2_with fail;rw[<-hW1];clear hW1;go_at_call 101;refine JV (b:=b) tZ aj HW ?_ ?_
  ·rintro n a rfl g w aA aD
   go_wp2;exact⟨rfl,⟨g,rfl,aA⟩,aD⟩
  ·intro _ _ bh w o_ aD
   have bY:=af (bD.mods o_ id);have kW:=af (aU.mods o_);have c5:w.cell? ⟨W.heap.size,5,none⟩=some (.slice pa bz ck):=bY.cell rfl;clear aj HW bD aU;go_wp2_with fail;refine Ff (b:=b) aD bh (bA w N m aD kW) ?_ ?_
   ·rintro n a rfl g w aA aD
    go_wp2;exact⟨rfl,⟨g,rfl,aA⟩,aD⟩
   ·intro y _ dW w3 HK Lk cv
    have gB:=af (bY.mods Lk qy);have c6:w3.cell? ⟨W.heap.size,6,none⟩=some (.slice bg qn br):=gB.cell rfl;have lx:=af (a_ w3 y.1 y.2 cv HK);clear bh bA a_ bY kW c5;go_wp2_with fail;have oa:Hid (cn (pn L y.1 y.2 e) (fun y=>.ok y)=r):=af (by rw[<-dW.out];cases pn L y.1 y.2 e <;> rfl);refine Ff (b:=b) cv oa lx ?_ ?_
    ·rintro n a rfl g w aA aD
     go_wp2;exact⟨rfl,⟨g,rfl,aA⟩,aD⟩
    ·intro z _ gi w4 Lb akR dV
     obtain rfl:r=.ok z:=gi.symm;clear dW gi oa lx c6;go_wp2_with fail;go_end0;exact⟨rfl,Lb,dV⟩
theorem ajQ (a:Int) (s:List UInt8) (v:aL) (b:Nat) (N:Nm) (m:Nat) (bq:Value) (W:World) (r:e6 (Nm×Nat)) (hC:kU W b L N m) (hv:aX W (·=b) v bq) (hr:eN L N m (.set a s v)=r) :
 Calls prog 68 #[.pointer (some ⟨b,0,none⟩),.agg (dt 2 a s cV bq bV bV).toArray] W (mQ W b L r):=by
 obtain⟨iA,rfl⟩:=hv.ptr;obtain⟨W1,hW1⟩:=aq (W.alloc (.cells (dt 2 a s cV (.pointer (some ⟨iA,0,none⟩)) bV bV).toArray 143));have bR:Hid (ag ai W W1):=af (by rw[hW1];exact ay.alloc _);have bD:Hid (aw W1 W.heap.size (dt 2 a s cV (.pointer (some ⟨iA,0,none⟩)) bV bV) 143):=af (by rw[hW1];exact aw.new W _ _);have tZ:Hid (ag (·=b) W W1):=af (bR.mono fun _ _ f=>f.elim);have aU:=af (hC.mods bR);have bb:=af (Iu b L N m s W1 aU);have HW:=af (fun (k:Int) (w:World) (hm:ag ai W w)=>KN L N v hC hv k w hm);simp only[eN]at hr;obtain⟨q,hq⟩:=aq (e9 N s);rw[<-hq]at hr bb;clear hC hv hq;by_cases h0:q=0
 ·rw[if_pos h0]at hr
  subst hr h0;unfold dt cV bV str mQ at *;go_in;go_wp2_with fail;rw[<-hW1];clear hW1;go_at_call 66;refine bb.mono ?_;rintro e w2 ⟨rfl,aN⟩;have c1:w2.cell? ⟨W.heap.size,1,none⟩=some (.int .i64 a):=aN.cellOf (bD.cell rfl) id;go_wp2_with fail;refine (xc 7 a w2).mono ?_;rintro e w3 ⟨⟨g,rfl,hb3⟩,aR⟩;go_wp2;exact⟨rfl,⟨g,rfl,hb3⟩,(bR.trans (aN.trans aR)).mono fun _ _ f=>f.elim⟩
 ·rw[if_neg h0]at hr
  have DG:(q==0)=false:=by simpa using h0
  have aj:Hid (cn (ia L N v q) (fun _=>.ok (N,m))=r):=af hr;clear hr;unfold dt cV bV str at *;go_in;go_wp2_with fail;rw[<-hW1];clear hW1;go_at_call 66;refine bb.mono ?_;rintro e w2 ⟨rfl,aN⟩;have bJ:=af (bR.trans aN);have Li:Hid (ag (·=b) W w2):=af (bJ.mono fun _ _ f=>f.elim);have zy:=af (HW q w2 bJ);have kW:=af (aU.mods aN);have c0:w2.cell? ⟨W.heap.size,0,none⟩=some (.int .i64 2):=aN.cellOf (bD.cell rfl) id;have c4:w2.cell? ⟨W.heap.size,4,none⟩=some (.pointer (some ⟨iA,0,none⟩)):=aN.cellOf (bD.cell rfl) id;clear aN bb HW aU;go_wp2_with fail;refine JV (b:=b) Li aj zy ?_ ?_
  ·rintro n a rfl g w aA aD
   go_wp2;exact⟨rfl,⟨g,rfl,aA⟩,aD⟩
  ·intro _ _ bh w o_ aD
   obtain rfl:r=.ok (N,m):=bh.symm;have qz:=af (kW.mods o_);clear aj bh zy kW c0 c4;go_wp2_with fail;go_end0;exact⟨rfl,qz,aD⟩
theorem ajP (a:Int) (s:List UInt8) (i v:aL) (b:Nat) (N:Nm) (m:Nat) (iv bq:Value) (W:World) (r:e6 (Nm×Nat)) (hC:kU W b L N m) (hi:aX W (·=b) i iv) (hv:aX W (·=b) v bq) (hr:eN L N m (.put a s i v)=r) :
 Calls prog 68 #[.pointer (some ⟨b,0,none⟩),.agg (dt 3 a s iv bq bV bV).toArray] W (mQ W b L r):=by
 obtain⟨iA,rfl⟩:=hv.ptr;obtain⟨Oo,rfl⟩:=hi.ptr;obtain⟨W1,hW1⟩:=aq (W.alloc (.cells (dt 3 a s (.pointer (some ⟨Oo,0,none⟩)) (.pointer (some ⟨iA,0,none⟩)) bV bV).toArray 143));have bR:Hid (ag ai W W1):=af (by rw[hW1];exact ay.alloc _);have bD:Hid (aw W1 W.heap.size (dt 3 a s (.pointer (some ⟨Oo,0,none⟩)) (.pointer (some ⟨iA,0,none⟩)) bV bV) 143):=af (by rw[hW1];exact aw.new W _ _);have tZ:Hid (ag (·=b) W W1):=af (bR.mono fun _ _ f=>f.elim);have aU:=af (hC.mods bR);have bb:=af (Iu b L N m s W1 aU);have HW:=af (fun (k:Int) (w:World) (hm:ag ai W w)=>KN L N v hC hv k w hm);have aI:=af (fun (k:Int) (w:World) (hm:ag ai W w)=>KN L N i hC hi k w hm);simp only[eN]at hr;obtain⟨q,hq⟩:=aq (e9 N s);rw[<-hq]at hr bb;clear hC hv hq hi;by_cases h0:q=0
 ·rw[if_pos h0]at hr
  subst hr h0;unfold dt bV str mQ at *;go_in;go_wp2_with fail;rw[<-hW1];clear hW1;go_at_call 66;refine bb.mono ?_;rintro e w2 ⟨rfl,aN⟩;have c1:w2.cell? ⟨W.heap.size,1,none⟩=some (.int .i64 a):=aN.cellOf (bD.cell rfl) id;go_wp2_with fail;refine (xc 7 a w2).mono ?_;rintro e w3 ⟨⟨g,rfl,hb3⟩,aR⟩;go_wp2;exact⟨rfl,⟨g,rfl,hb3⟩,(bR.trans (aN.trans aR)).mono fun _ _ f=>f.elim⟩
 ·rw[if_neg h0]at hr
  have DG:(q==0)=false:=by simpa using h0
  by_cases h2:q=2
  ·rw[if_neg (by simpa using h2)]at hr
   subst h2;have aj:Hid (cn (ia L N i 1) (fun _=>cn (ia L N v 1) fun _=>.ok (N,m))=r):=af hr;clear hr h0 DG;unfold dt bV str at *;go_in;go_wp2_with fail;rw[<-hW1];clear hW1;go_at_call 66;refine bb.mono ?_;rintro e w2 ⟨rfl,aN⟩;have bJ:=af (bR.trans aN);have Li:Hid (ag (·=b) W w2):=af (bJ.mono fun _ _ f=>f.elim);have Rb:=af (aI 1 w2 bJ);have kW:=af (aU.mods aN);have bY:=af (bD.mods aN id);have c0:w2.cell? ⟨W.heap.size,0,none⟩=some (.int .i64 3):=bY.cell rfl;have c3:w2.cell? ⟨W.heap.size,3,none⟩=some (.pointer (some ⟨Oo,0,none⟩)):=bY.cell rfl;clear aN bb aI aU;go_wp2_with fail;refine JV (b:=b) Li aj Rb ?_ ?_
   ·rintro n a rfl g w aA aD
    go_wp2;exact⟨rfl,⟨g,rfl,aA⟩,aD⟩
   ·intro _ _ bh w o_ aD
    have qz:=af (kW.mods o_);have A9:=af (HW 1 w (bJ.trans o_));have c4:w.cell? ⟨W.heap.size,4,none⟩=some (.pointer (some ⟨iA,0,none⟩)):=o_.cellOf (bY.cell rfl) id;clear aj Rb kW c0 c3 bY bD HW;go_wp2_with fail;refine JV (b:=b) aD bh A9 ?_ ?_
    ·rintro n a rfl g w aA aD
     go_wp2;exact⟨rfl,⟨g,rfl,aA⟩,aD⟩
    ·intro _ _ dW w3 Lk cv
     obtain rfl:r=.ok (N,m):=dW.symm;have Hq:=af (qz.mods Lk);clear bh dW A9 qz c4;go_wp2_with fail;go_end0;exact⟨rfl,Hq,cv⟩
  ·rw[if_pos (by simpa using h2)]at hr
   subst hr;have lK:(q != 2)=true:=(by simpa using h2);unfold dt bV str mQ at *;go_in;go_wp2_with fail;rw[<-hW1];clear hW1;go_at_call 66;refine bb.mono ?_;rintro e w2 ⟨rfl,aN⟩;have c0:w2.cell? ⟨W.heap.size,0,none⟩=some (.int .i64 3):=aN.cellOf (bD.cell rfl) id;have c1:w2.cell? ⟨W.heap.size,1,none⟩=some (.int .i64 a):=aN.cellOf (bD.cell rfl) id;go_wp2_with fail;refine (xc 1 a w2).mono ?_;rintro e w3 ⟨⟨g,rfl,hb3⟩,aR⟩;go_wp2;exact⟨rfl,⟨g,rfl,hb3⟩,(bR.trans (aN.trans aR)).mono fun _ _ f=>f.elim⟩
theorem S2:{l:List St}->wO L l->(i:Nat)->(x:St)->l[i]?=some x->nC L x
 | [],_,i,x,h=>by simp at h
 | a::r,hg,0,x,h=>by
   simp only[wO]at hg;simp only[anO,anG]at h;exact h ▸ hg.1
 | a::r,hg,i+1,x,h=>by
   simp only[wO]at hg;exact S2 hg.2 i x (by simpa using h)
theorem aid {sa:Option Addr} {sc:Nat} {vs:List Value} (hr:fL w S 143 7 (.slice sa l.length sc) l.length vs) (hst:cE w S l vs) (i:Nat) (hi:i<l.length) :
 ∃g code a name p q aG on aF ob eX eW,sa=some ⟨g,0,none⟩/\w.cell? ⟨g,i*7,none⟩=some (.int .i64 code)/\w.cell? ⟨g,i*7+1,none⟩=some (.int .i64 a)/\w.cell? ⟨g,i*7+2,none⟩=some (.string name)/\w.cell? ⟨g,i*7+3,none⟩=some (.pointer p)/\w.cell? ⟨g,i*7+4,none⟩=some (.pointer q)/\w.cell? ⟨g,i*7+5,none⟩=some (.slice aG on aF)/\w.cell? ⟨g,i*7+6,none⟩=some (.slice ob eX eW)/\
  cy w S l[i] [code,a,.string name,.pointer p,.pointer q,.slice aG on aF,.slice ob eX eW]:=by
 obtain⟨Pt,Pv,he,hsc,hsm,DK⟩:=o6 hr.1;simp only[Value.slice.injEq]at he;obtain⟨rfl,-,rfl⟩:=he;obtain⟨cs,h1,h2⟩:=hst.get i l[i] (anx hi);obtain⟨code,a,name,p,q,aG,on,aF,ob,eX,eW,rfl⟩:=h1.shape;have cell:∀j u,j<7->([.int .i64 code,.int .i64 a,.string name,.pointer p,.pointer q,.slice aG on aF,.slice ob eX eW]:List Value)[j]?=some u->∃g,sa=some ⟨g,0,none⟩/\w.cell? ⟨g,i*7+j,none⟩=some u:=by
  intro j u hj hu;obtain⟨g,e1,e2,e3⟩:=DK (i*7+j) u (by rw[h2 j hj];exact hu);exact⟨g,e1,e3⟩
 obtain⟨g,e0,ja⟩:=cell 0 _ (by omega) rfl;have nJ:∀j u,j<7->([.int .i64 code,.int .i64 a,.string name,.pointer p,.pointer q,.slice aG on aF,.slice ob eX eW]:List Value)[j]?=some u->w.cell? ⟨g,i*7+j,none⟩=some u:=by
  intro j u hj hu;obtain⟨g',e1,e2⟩:=cell j u hj hu;rw[e0]at e1;obtain rfl:g=g':=by simpa using e1
  exact e2
 exact⟨g,code,a,name,p,q,aG,on,aF,ob,eX,eW,e0,ja,nJ 1 _ (by omega) rfl,nJ 2 _ (by omega) rfl,nJ 3 _ (by omega) rfl,nJ 4 _ (by omega) rfl,nJ 5 _ (by omega) rfl,nJ 6 _ (by omega) rfl,h1⟩
theorem aac (ih:∀k,k<f->pZ L k):CI L f:=by
 intro l lv vs b ak P M A s F fm n N W r h hF hn hN hg hrow hst hr;have aj:Hid (fk L f s F (l.drop 0)=some r):=af hr;obtain⟨sa,sc,rfl⟩:=nQ hrow.1;have iD:l.length<=sc/\sc<=maxLen:=by
  obtain⟨Pt,Pv,he,hsc,hsm,-⟩:=o6 hrow.1;simp only[Value.slice.injEq]at he;obtain⟨-,-,rfl⟩:=he;exact⟨hsc,hsm⟩
 have xX:=af (fun (w:World) (hm:ag (fun k=>¬P k) W w)=>aid (hrow.mods hm (fun _ _ k=>k)) (cE.b8 hm (fun _ _ k=>k) _ _ hst));have HG:=af hg;have lz:=af ih;have jf:=af hN;have mn:=af hn;have aP:=af h;have pS:=af h;have bb:=af hF;have n6:Hid (¬P fm):=af (by obtain⟨_,_,_,k,_⟩:=hF;exact k);have a_:=af (Ext.refl (·=fm) M W);have bH:=af (anB A);obtain⟨nl,sw⟩:=aq (l.length);have xV:=af sw;rw[<-sw]at iD;obtain⟨hc1,hc2⟩:=iD;unfold maxLen at hc2;rw[<-sw];clear h hF hn hN hg hrow hst hr ih sw;go_in;go_wp2_with fail
 go_loopw [7,10] (fun _ iv wr=>∃ (k i:Nat) (s':aC) (F':Fr) (M':Nat->Prop) (aK:List (Nat×Nat)) (n':Nat),k<=f/\i<=nl/\iv=.int .i64 i/\Hid (fk L k s' F' (l.drop i)=some r)/\Hid (bt wr b ak L P M' aK s')/\Hid (fQ wr P M' aK fm n' F')/\Hid (n'+s'.fuel<=N)/\Hid (Ext (·=fm) M M' W wr)/\Hid (A <+: aK)) (fun _ iv _=>(nl-intOf iv).toNat)
 case atStart=>exact⟨f,0,s,F,M,A,n,anD _,anC _,rfl,aj,aP,bb,mn,a_,bH⟩
 case round =>
  clear aj aP bb mn a_ bH;obtain⟨k,i,s2,nA,M2,kp,n2,hk,hi,rfl,aj,bI,pP,qG,cO,ft⟩:=hrel;cases k with
  | zero=>simp only[fk]at aj;cases aj.out
  | succ k =>
  by_cases hlt:i<nl
  ·have bm:i<l.length:=by have:=xV.out;omega
   have fT:ag (fun k=>¬P k) W wr:=cO.mods.mono fun k _ hk=>hk.elim (fun e=>by rw[e];exact n6) (pS.off k)
   obtain⟨g,code,a,name,p,q,aG,on,aF,ob,eX,eW,rfl,ja,k1,k2,k3,k4,gU,tD,hs⟩:=xX.out wr fT i bm;have cA:(i:Int)<(nl:Int):=(by omega);have bh:Hid (aS (eO L k s2 nA l[i]) (fun F s=>fk L k s F (l.drop (i+1)))=some r):=af (by
        rw[<-aj.out,anL bm];simp only[fk])
   obtain⟨W1,hW1⟩:=aq (wr.alloc (.cells #[code,a,.string name,.pointer p,.pointer q,.slice aG on aF,.slice ob eX eW] 143));have bR:ag ai wr W1:=(by rw[hW1];exact ay.alloc _);have aU:=af (fun y (hy:eO L k s2 nA l[i]=some y)=>lz.out k (by omega) l[i] _ b ak P M2 kp s2 nA fm n2 N W1 y (bI.quiet bR) (pP.ext (Ext.quiet bR) (anB _)) qG jf (S2 HG i _ (anx bm)) (cy.b8 (bR.mono fun _ _ f=>f.elim) (fun _ _ k=>k) _ _ hs) hy);have gg:=af (cO.trans (Ext.quiet bR));have Hz:=af hk;have oW:(i:Int)<9223372036854775807:=(by omega);clear hs aj fT bR hk;go_wp2_with fail;rw[<-hW1];clear hW1 ja k1 k2 k3 k4 gU tD;go_at_call 105;refine WA gg ft bh aU ?_ ?_
   ·rintro g s' rfl aV w H
    obtain⟨M',aK,k1,k2,k3⟩:=H.out;go_wp2;exact⟨rfl,⟨aV,rfl⟩,M',aK,k1,k2,k3⟩
   ·rintro G o7-dW w3 lC wN n3 zo sU dp sQ ly EE jP
    clear bh aU;go_wp2_with fail;exact⟨⟨k,i+1,o7,G,lC,wN,n3,by have:=Hz.out;omega,by omega,by go_num,dW,dp,zo,sU,ly,jP⟩,by simp[intOf];omega⟩
  ·obtain rfl:i=nl:=by omega
   have cA:¬(i:Int)<(i:Int):=(by omega);have hd:l.drop i=[]:=(by rw[xV.out];exact anZ);have hx:=aj.out;rw[hd]at hx;simp only[fk]at hx;obtain rfl:=(anz hx).symm;clear hx hd;go_wp2_with fail;go_end0;exact⟨rfl,M2,kp,n2,pP,qG,bI,cO,ft⟩
theorem ajN (L:List Fn):pZ L 0:=by
 intro x cs b ak P M A s F fm n N W r h hF hn hN hg hs hr;simp only[eO]at hr;cases hr
theorem ajB (km:∀k,k<=f->lq L k) (xA:∀k,k<=f->CI L k):pZ L (f+1):=by
 intro x cs b ak P M A s F fm n N W r h hF hn hN hg hs hr;have Cf:=km f (anD _);have oZ:=xA f (anD _);cases x with
 | var a x v=>exact aio Cf a x v cs b ak P M A s F fm n N W r h hF hn hN hg hs hr
 | set a x v=>exact ain Cf a x v cs b ak P M A s F fm n N W r h hF hn hN hg hs hr
 | put a x i v=>exact ail Cf a x i v cs b ak P M A s F fm n N W r h hF hn hN hg hs hr
 | cond a v t e=>exact aii Cf oZ a v t e cs b ak P M A s F fm n N W r h hF hn hN hg hs hr
 | loop a v t=>exact aij km xA a v t cs b ak P M A s F fm n N W r h hF hn hN hg hs hr
 | ret a v=>exact aim Cf a v cs b ak P M A s F fm n N W r h hF hn hN hg hs hr
 | print a v=>exact aik Cf a v cs b ak P M A s F fm n N W r h hF hn hN hg hs hr
 | call a v=>exact aih Cf a v cs b ak P M A s F fm n N W r h hF hn hN hg hs hr
theorem aaE (q6 q3 b:Nat) (k:Int) (w:World) (h3:w.cell? ⟨q3,0,none⟩=some (.pointer (some ⟨b,0,none⟩))) (hc:w.cell? ⟨b,3,none⟩=some (.int .i64 k)) (BA:w.frozen? ⟨b,3,none⟩=false) (hk:1<=k) (hk2:k<=40) :
 CallsD prog 74 #[.pointer (some ⟨q6,0,none⟩),.pointer (some ⟨q3,0,none⟩)] .returning w fun e u' w'=>e=.returned (.tuple #[])/\u'=.returning/\w'=w.setCell ⟨b,3,none⟩ (.int .i64 (k-1)):=by
 refine callsD_of_wpS func74 rfl fun my cs hu=>?_
 apply wpS_seq;apply wpS_seq;apply wpS_region;simp[wpOpsS,go_sem,recoverD,hu,ntmps74,Exit.thenS];refine wpS_of_wp ?_;rw[show (#[Value.pointer (some ⟨q6,0,none⟩),.pointer (some ⟨q3,0,none⟩)]++((Array.replicate 23 undef).setIfInBounds 3 (.nilIface)).setIfInBounds 0 (.nilIface):Array Value)=#[.pointer (some ⟨q6,0,none⟩),.pointer (some ⟨q3,0,none⟩),.nilIface,undef,undef,.nilIface,undef,undef,undef,undef,undef,undef,undef,undef,undef,undef,undef,undef,undef,undef,undef,undef,undef,undef,undef] from by kernel_rfl];go_wp2;simp only[Exit.thenS];refine wpS_of_wp ?_;go_wp2;cases my
 simp_all [bodyPostS,results,results74]
theorem ae1 (v:Value) (w:World):Sem.run prog (Instr.typeAssert (.iface 166 v) 20 166 true) w=.ok (.tuple #[v,.bool true]) w:=by
 simp[Instr.typeAssert,run_underlying underlying166]
theorem ae4 (v:Value) (w:World):Sem.run prog (Instr.typeAssert (.iface 113 v) 20 166 true) w=.ok (.tuple #[.agg #[.int .i64 0],.bool false]) w:=by
 kernel_rfl
theorem aaF (q6 q3 b:Nat) (k n:Int) (u:Value) (aV:List PanicEntry) (w:World) (h6:w.cell? ⟨q6,0,none⟩=some u) (f6:w.frozen? ⟨q6,0,none⟩=false) (h3:w.cell? ⟨q3,0,none⟩=some (.pointer (some ⟨b,0,none⟩))) (hc:w.cell? ⟨b,3,none⟩=some (.int .i64 k)) (BA:w.frozen? ⟨b,3,none⟩=false) (hk:1<=k) (hk2:k<=40) (Mz:q3≠q6) (dT:b≠q6) :
 CallsD prog 74 #[.pointer (some ⟨q6,0,none⟩),.pointer (some ⟨q3,0,none⟩)] (.panicking ({ v:=Ee n,recovered:=false }::aV)) w fun e u' w'=>e=.returned (.tuple #[])/\u'=.panicking ({ v:=Ee n,recovered:=true }::aV)/\
  w'=((w.setCell ⟨q6,0,none⟩ (.int .i64 n)).setCell ⟨b,3,none⟩ (.int .i64 (k-1))).alloc (.cells #[n] 166):=by
 refine callsD_of_wpS func74 rfl fun my cs hu=>?_
 apply wpS_seq;apply wpS_seq;apply wpS_region;unfold Ee at hu;simp[wpOpsS,go_sem,recoverD,hu,ntmps74,Exit.thenS];refine wpS_of_wp ?_;rw[show (#[Value.pointer (some ⟨q6,0,none⟩),.pointer (some ⟨q3,0,none⟩)]++((Array.replicate 23 undef).setIfInBounds 3 (.iface 166 (.agg #[n]))).setIfInBounds 0 (.iface 166 (.agg #[n])):Array Value)=#[.pointer (some ⟨q6,0,none⟩),.pointer (some ⟨q3,0,none⟩),.iface 166 (.agg #[n]),undef,undef,.iface 166 (.agg #[n]),undef,undef,undef,undef,undef,undef,undef,undef,undef,undef,undef,undef,undef,undef,undef,undef,undef,undef,undef] from by kernel_rfl];have iw:=ae1 (.agg #[n]) w;have Ar:q6<w.heap.size:=World.block_lt_of_cell? w _ h6;have l3:q3<w.heap.size:=World.block_lt_of_cell? w _ h3;have lb:b<w.heap.size:=World.block_lt_of_cell? w _ hc;have xD:q6≠w.heap.size:=by omega
 have n3:q3≠w.heap.size:=by omega
 have nb:b≠w.heap.size:=by omega
 go_wp2;simp only[Exit.thenS];refine wpS_of_wp ?_;go_wp2;clear iw Ar l3 lb xD n3 nb h6 f6 h3 hc BA Mz dT;cases my
 simp_all [bodyPostS,results,results74,Ee]
theorem aaG (q6 q3:Nat) (n:Int) (aV:List PanicEntry) (w:World) :
 CallsD prog 74 #[.pointer (some ⟨q6,0,none⟩),.pointer (some ⟨q3,0,none⟩)] (.panicking ({ v:=kH n,recovered:=false }::aV)) w fun e u' w'=>e=.panicked [{ v:=kH n,recovered:=false }]/\u'=.panicking ({ v:=kH n,recovered:=true }::aV)/\
  w'=w.alloc (.cells #[.int .i64 0] 166):=by
 refine callsD_of_wpS func74 rfl fun my cs hu=>?_
 apply wpS_seq;apply wpS_seq;apply wpS_region;unfold kH at hu;simp[wpOpsS,go_sem,recoverD,hu,ntmps74,Exit.thenS];refine wpS_of_wp ?_;rw[show (#[Value.pointer (some ⟨q6,0,none⟩),.pointer (some ⟨q3,0,none⟩)]++((Array.replicate 23 undef).setIfInBounds 3 (.iface 113 (.agg #[n]))).setIfInBounds 0 (.iface 113 (.agg #[n])):Array Value)=#[.pointer (some ⟨q6,0,none⟩),.pointer (some ⟨q3,0,none⟩),.iface 113 (.agg #[n]),undef,undef,.iface 113 (.agg #[n]),undef,undef,undef,undef,undef,undef,undef,undef,undef,undef,undef,undef,undef,undef,undef,undef,undef,undef,undef] from by kernel_rfl];have iw:=ae4 (.agg #[n]) w;go_wp2;simp only[Exit.thenS];clear iw;cases my
 simp_all [bodyPostS,kH,results,results74,kH]
theorem Kd (o:Old):o.1.dropWhile (!·.goexit)=[]:=by
 obtain⟨l,h⟩:=o;induction l with
 | nil=>rfl
 | cons x r ih =>
   have h1:=h x (by simp);have h2:=ih (fun y hy=>h y (by simp[hy]));simp only at h2;simp[List.dropWhile,h1,h2]
theorem ahT {u:Value} (h6:tmps[6]?.getD undef=.pointer (some ⟨q6,0,none⟩)) (h3:w.cell? ⟨q3,0,none⟩=some (.pointer (some ⟨b,0,none⟩))) (hc:w.cell? ⟨b,3,none⟩=some (.int .i64 k)) (BA:w.frozen? ⟨b,3,none⟩=false) (hk:1<=k) (hk2:k<=40)
 (hu:(w.setCell ⟨b,3,none⟩ (.int .i64 (k-1))).cell? ⟨q6,0,none⟩=some (.int .i64 0)) (hR:R (.returned (.int .i64 0)) (w.setCell ⟨b,3,none⟩ (.int .i64 (k-1)))) :
 Leaves prog Tryz.f45 tmps R [{ target:=Target.fn (Go.Fn.func 74) #[.pointer (some ⟨q6,0,none⟩),.pointer (some ⟨q3,0,none⟩)],args:=#[] }] .returning w:=by
 refine leaves_cons (f:=74) (args:=#[.pointer (some ⟨q6,0,none⟩),.pointer (some ⟨q3,0,none⟩)]) (by simp) (by simp[go_sem]) ?_;refine (aaE q6 q3 b k w h3 hc BA hk hk2).mono ?_;rintro e u' w'' ⟨rfl,rfl,rfl⟩;have aP:=af hR;clear hR;simp[Leaves,settle,results,results45,go_sem,h6,hu];exact aP
theorem aa3 (aV:Old) (h6:tmps[6]?.getD undef=.pointer (some ⟨q6,0,none⟩)) (acV:w.cell? ⟨q6,0,none⟩=some u) (f6:w.frozen? ⟨q6,0,none⟩=false) (h3:w.cell? ⟨q3,0,none⟩=some (.pointer (some ⟨b,0,none⟩))) (hc:w.cell? ⟨b,3,none⟩=some (.int .i64 k)) (BA:w.frozen? ⟨b,3,none⟩=false) (hk:1<=k) (hk2:k<=40) (Mz:q3≠q6) (dT:b≠q6)
 (hu:(((w.setCell ⟨q6,0,none⟩ (.int .i64 n)).setCell ⟨b,3,none⟩ (.int .i64 (k-1))).alloc (.cells #[n] 166)).cell? ⟨q6,0,none⟩=some (.int .i64 n)) (hR:R (.returned (.int .i64 n)) (((w.setCell ⟨q6,0,none⟩ (.int .i64 n)).setCell ⟨b,3,none⟩ (.int .i64 (k-1))).alloc (.cells #[n] 166))) :
 Leaves prog Tryz.f45 tmps R [{ target:=Target.fn (Go.Fn.func 74) #[.pointer (some ⟨q6,0,none⟩),.pointer (some ⟨q3,0,none⟩)],args:=#[] }] (.panicking ({ v:=Ee n,recovered:=false }::aV.1)) w:=by
 refine leaves_cons (f:=74) (args:=#[.pointer (some ⟨q6,0,none⟩),.pointer (some ⟨q3,0,none⟩)]) (by simp) (by simp[go_sem]) ?_;refine (aaF q6 q3 b k n u aV.1 w acV f6 h3 hc BA hk hk2 Mz dT).mono ?_;rintro e u' w'' ⟨rfl,rfl,rfl⟩;have ho:=Kd aV;have aP:=af hR;clear hR;obtain⟨wf,wg⟩:=aq ((((w.setCell ⟨q6,0,none⟩ (.int .i64 n)).setCell ⟨b,3,none⟩ (.int .i64 (k-1))).alloc (.cells #[n] 166)));rw[<-wg]at aP hu ⊢;clear wg;simp[Leaves,settle,ho,results,results45,go_sem,h6,hu];exact aP
theorem aa4 (aV:Old) (hR:∀o:Old,R (.panicked ({ v:=kH n,recovered:=false }::o.1)) (w.alloc (.cells #[.int .i64 0] 166))) :
 Leaves prog Tryz.f45 tmps R [{ target:=Target.fn (Go.Fn.func 74) #[.pointer (some ⟨q6,0,none⟩),.pointer (some ⟨q3,0,none⟩)],args:=#[] }] (.panicking ({ v:=kH n,recovered:=false }::aV.1)) w:=by
 refine leaves_cons (f:=74) (args:=#[.pointer (some ⟨q6,0,none⟩),.pointer (some ⟨q3,0,none⟩)]) (by simp) (by simp[go_sem]) ?_;refine (aaG q6 q3 n aV.1 w).mono ?_;rintro e u' w'' ⟨rfl,rfl,rfl⟩;exact hR ⟨{ v:=kH n,recovered:=true }::aV.1,fun x hx=>by
  rcases anW.1 hx with rfl|hx
  ·rfl
  ·exact aV.2 x hx⟩
def ED (L:List Fn):Prop:=∀g fn,il L g=some fn->wO L fn.body/\(∀p∈fn.params,p.1.length<=10000000)/\fn.params.length<=1000000
theorem ago (w:World):(Instr.makeMap 162 none).run prog w=.ok (.map (some w.heap.size)) (w.alloc (.map #[] 0)):=by
 simp[Instr.makeMap,run_underlying underlying162]
theorem Ext.Ep {vr:Nat->Prop} {W' vA:World} (h:Ext ai M M' W W') (k:Ext T M' vr W' vA) (hT:∀i,i<W.heap.size->¬T i):Ext ai M vr W vA :=
 ⟨h.mods.trans' k.mods (fun i hi hl=>hi.elim (fun ht=>(hT i hl ht).elim) (fun hm=>Or.inr (h.back i hl hm))),fun i hi hm=>h.back i hi (k.back i (anE hi h.mods.size) hm)⟩
theorem fQ.new {W3:World} {ak:Nat} {A:List (Nat×Nat)} {s:aC} (h:bt W3 b ak L P M A s):fQ (W3.alloc (.map #[] 0)) P M A W3.heap.size 0 [] :=
 ⟨[],NameMap.new _ _,fun hm=>absurd (h.old _ hm) (an5 _),fun hp=>absurd (h.given _ hp) (an5 _),fun s=>Or.inl ⟨rfl,rfl⟩⟩
structure Hj (W0 w:World) (P M:Nat->Prop) (b q fb:Nat) (Ir:List Value):Prop where
 c3:aw w q [.pointer (some ⟨b,0,none⟩)] 108
 c6:aw w (q+1) [.int .i64 0] 2
 c7:aw w fb Ir 84
 nq:¬M q/\¬P q
 xD:¬M (q+1)/\¬P (q+1)
 GA:¬M fb/\¬P fb
 at_:W0.heap.size<=q
 cQ:q+1<fb
theorem Hj.step {w':World} {q fb:Nat} {Ir:List Value} (h:Hj W0 w P M b q fb Ir) (bT:Ext T M M' w w') (hT:∀k,T k->fb<k):Hj W0 w' P M' b q fb Ir:=by
 have hf:=h.cQ;have k3:=nr h.c3 bT h.nq.1 (fun f=>by have:=hT _ f;omega);have tD:=nr h.c6 bT h.xD.1 (fun f=>by have:=hT _ f;omega);have OC:=nr h.c7 bT h.GA.1 (fun f=>by have:=hT _ f;omega);exact⟨k3.1,tD.1,OC.1,⟨k3.2,h.nq.2⟩,⟨tD.2,h.xD.2⟩,⟨OC.2,h.GA.2⟩,h.at_,h.cQ⟩
theorem akI (w:World):(zeroValue 84).run prog w=.ok xQ w:=by kernel_rfl
theorem aas (hL:ED L) (xA:CI L f):sN L (f+1):=by
 intro g vs b ak base P M A s W lv r h hv gS hfn hr;obtain⟨fn,hfn,fA⟩:=hfn;obtain⟨W1,hW1⟩:=aq ((W.alloc (.cells #[.pointer (some ⟨b,0,none⟩)] 108)).alloc (.cells #[.int .i64 0] 2));have aD:Hid (ag ai W W1):=af (by rw[hW1];exact (ay.alloc _).alloc _);have gB:Hid (aw W1 W.heap.size [.pointer (some ⟨b,0,none⟩)] 108):=af (by
  rw[hW1];exact (aw.new W _ _).mods ((ag.refl ai _).alloc _) id)
 have ej:Hid (aw W1 (W.heap.size+1) [.int .i64 0] 2):=af (by
  rw[hW1];have:=aw.new (W.alloc (.cells #[.pointer (some ⟨b,0,none⟩)] 108)) #[.int .i64 0] 2;simpa using this)
 have bE:=af (h.quiet aD);obtain⟨iv,ov,hb,-⟩:=bE.blk;have c0:W1.cell? ⟨b,0,none⟩=some (.map (some ak)):=hb.cell rfl;have c3:W1.cell? ⟨b,3,none⟩=some (.int .i64 s.calls):=hb.cell rfl;have z3:=hb.free 3;have b3:=gB.ah 0;have hbl:=h.old b h.has;have agK:b≠W.heap.size:=by omega
 have J_:b≠W.heap.size+1:=by omega
 simp only[jE]at hr;by_cases oU:s.calls=40
 ·rw[if_pos oU]at hr
  obtain rfl:=(anz hr).symm;rw[oU]at c3;clear hr hb hv hbl h c0;unfold str dP
  go_enter_defers func45,ntmps45
  go_upto_region 1 with (fail)
  rw[<-hW1];clear hW1;go_wp2_with fail;refine (kT 5 _).mono ?_;rintro e w ⟨⟨aV,rfl⟩,rfl⟩;go_wp2;exact⟨⟨aV,rfl⟩,M,A,bE,Ext.quiet aD,anB _⟩
 ·rw[if_neg oU]at hr
  have pT:=af hr;have adt:=h.calls;have hcs:(s.calls==40)=false:=by simpa using oU
  have hc1:(((s.calls:Nat):Int)==40)=false:=by simp;omega
  have I4:Hid ((s.calls:Int)+1=((s.calls+1:Nat):Int)):=af (by omega);clear hr hb;unfold str at *
  go_enter_defers func45,ntmps45
  go_upto_region 1 with (fail)
  rw[<-hW1];clear hW1;go_upto_region 4 with (fail)
  obtain⟨W2,hW2⟩:=aq (W1.setCell ⟨b,3,none⟩ (.int .i64 ((s.calls:Int)+1)));rw[<-hW2];have aN:ag (·=b) W1 W2:=by rw[hW2];exact cm _ _ _ _
  have bI:Hid (bt W2 b ak L P M A { s with calls:=s.calls+1 }):=af (by
   rw[hW2,I4.out];exact bE.Cz _ (by omega))
  have cO:Hid (Ext ai M M W W2):=af ((Ext.quiet aD).trans (by rw[hW2];exact bE.ext ai 3 _));have gB:=af (gB.mods aN (fun e=>agK e.symm));have ej:=af (ej.mods aN (fun e=>J_ e.symm));obtain⟨ae5,lg,hb2,-⟩:=bI.blk;have e0:W2.cell? ⟨b,0,none⟩=some (.map (some ak)):=hb2.cell rfl;have b3:=gB.ah 0;obtain⟨nf,XU,hmap,nN⟩:=bI.fns.2;have tu:=hmap.look (t:=109) underlying109 (akI _) g gS;obtain⟨p,q,dQ,hval,hp,cH,lK⟩:=nN g fn hfn;rw[hval]at tu;obtain⟨pa,ck,rfl⟩:=nQ hp.1;obtain⟨bg,br,rfl⟩:=nQ cH.1;have zu:=af (anw hp (anw cH lK));have l3:=gB.lt;have Ar:=ej.lt;unfold str at tu;clear hW2 aN hb2 hmap nN hval hp cH lK c0 c3 z3;have l6:=ago;go_upto_region 6 with (fail)
  obtain⟨W3,hW3⟩:=aq (W2.alloc (.cells #[.string ⟨fn.name.toArray⟩,fn.at_,.slice pa fn.params.length ck,.slice bg fn.body.length br] 84));rw[<-hW3];have aR:ag ai W2 W3:=by rw[hW3];exact ay.alloc _
  have hs3:W3.heap.size=W2.heap.size+1:=by rw[hW3];simp
  have f_:aw W3 W2.heap.size [.string ⟨fn.name.toArray⟩,fn.at_,.slice pa fn.params.length ck,.slice bg fn.body.length br] 84:=by rw[hW3];exact aw.new W2 _ _
  have gz:∀k,W.heap.size<=k->¬M k/\¬P k:=fun k hk=>⟨fun hm=>absurd (h.old _ hm) (by omega),fun hp=>absurd (h.given _ hp) (by omega)⟩
  have qz:Hj W W3 P M b W.heap.size W2.heap.size [.string ⟨fn.name.toArray⟩,fn.at_,.slice pa fn.params.length ck,.slice bg fn.body.length br]:=⟨gB.mods aR id,ej.mods aR id,f_,gz _ (anD _),gz _ (by omega),gz _ (by omega),anD _,Ar⟩;obtain⟨dz,g_⟩:=aq (W3.alloc (.map #[] 0));have bX:ag ai W3 dz:=by rw[g_];exact ay.alloc _
  have xl:=bI.quiet aR;have Qj:Hid (fQ dz P M A (W2.heap.size+1) 0 []):=af (by rw[g_,<-hs3];exact fQ.new xl);have fK:=af (xl.quiet bX);have Hq:=af (qz.step (T:=ai) (Ext.quiet bX) (fun _ f=>f.elim));have sQ:Hid (Ext ai M M W dz):=af ((cO.trans (Ext.quiet aR)).trans (Ext.quiet bX));have jm:=af (hv.ext sQ (anB A));have A1:Hid (∀k,lv.ownBlock=some k->k<W.heap.size):=af (by obtain⟨cs,h1,_⟩:=hv;exact fun k hk=>(h1.lt k hk).2);have Zf:=af fA;rw[<-g_];have e2:=Hq.c7.ah 2;have xU:=af gz;have QI:=af (aR.trans bX);have kY:=af h.fuel;have n9:=af (anw l3 (anw Ar hs3));clear aR bX f_ qz xl hW3 g_ gz tu l6 e0 b3 gB ej h hv fA;go_wp2_with fail;clear e2;obtain⟨bz,fe⟩:=aq (fn.params.length);have vd:=af fe;obtain⟨CK,MK⟩:=aq (pj [] fn.params vs);have Yf:=af MK;have EJ:Hid (pj [] (fn.params.drop 0) (vs.drop 0)=CK):=af MK.symm;rw[<-fe];clear MK fe
  go_loopw [9,10,34] (fun _ _ iv wr=>∃ (i:Nat) (F:Fr),i<=bz/\iv=.int .i64 i/\Hid (ag (·=W2.heap.size+1) dz wr)/\Hid (fQ wr P M A (W2.heap.size+1) i F)/\Hid (pj F (fn.params.drop i) (vs.drop i)=CK)) (fun _ _ iv _=>(bz-intOf iv).toNat)
  case atStart=>exact⟨0,[],anC _,rfl,af ay,Qj,EJ⟩
  case round =>
   clear Qj EJ;obtain⟨i,F,hi,rfl,gY,bb,EJ⟩:=hrel;have ad3:=n9.out;have Hs:=af (Hq.step (T:=(·=W2.heap.size+1)) (Ext.aside gY (fun _ _ f=>f)) (by rintro k rfl;omega));have CV:=af (fK.aside gY (by rintro k rfl;exact xU _ (by omega)));have b3:=Hs.c3.ah 0;by_cases hlt:i<bz
   ·have bm:i<fn.params.length:=by have:=vd.out;omega
    have T_:i<vs.length:=(by have:=Zf.out;omega);obtain⟨q1,q2⟩:=D4 fn.params i fn.params[i] (anx bm);have fT:ag (fun k=>¬P k) W2 wr:=(QI.mono fun _ _ f=>f.elim).trans (gY.mono fun k _ hk=>by rw[hk];exact (xU _ (by have:=n9.out;omega)).2);obtain⟨ahl,ahw,e3,aec,aed,lI⟩:=o6 zu.1.1;obtain⟨rfl,-,rfl⟩:=Value.slice.inj e3;obtain⟨nV,jh,ho,d1⟩:=lI _ _ q1;obtain⟨GV,Ae,_,d2⟩:=lI _ _ q2;obtain rfl:nV=GV:=(by rw[jh]at Ae;simpa using Ae);have d1:=fT.cellOf d1 (zu.1.2 _ ho);have d2:=fT.cellOf d2 (zu.1.2 _ ho);have JB:=(hL g fn hfn).2.1 fn.params[i] (aof bm);have KZ:Hid (pj (F.put fn.params[i].1 vs[i]) (fn.params.drop (i+1)) (vs.drop (i+1))=CK):=af (by
     rw[<-EJ.out,anL bm,anL T_];rfl)
    obtain⟨nm,ty,B1⟩:∃nm ty,fn.params[i]=(nm,ty):=⟨_,_,rfl⟩;rw[B1]at d1 d2 JB KZ;simp only at d1 d2 JB KZ;obtain⟨cs,v1,v2,v3⟩:=jm.out;obtain⟨va,vc,e4,JG,JH,Og⟩:=o6 (gY.ownsRow v1 (fun k hk e=>by have h1:=A1.out k hk;have h2:=n9.out;omega));subst e4;obtain⟨u,v,k1,k2,dm⟩:=v3 i vs[i] (anx T_);obtain⟨akt,U1,_,d3⟩:=Og _ _ k1;obtain⟨aku,U2,_,d4⟩:=Og _ _ k2;obtain rfl:akt=aku:=(by rw[U1]at U2;simpa using U2);obtain⟨y1,pK,tQ,hy,-,-⟩:=dm.len CV;rw[hy]at dm;simp only[Value.agg.injEq,Array.mk.injEq,List.cons.injEq,and_true]at hy;obtain⟨rfl,rfl⟩:=hy;subst jh U1;obtain⟨cD,cN⟩:=aq (wr.alloc (.cells #[str nm,ty] 91));have bM:ag ai wr cD:=(by rw[cN];exact ay.alloc _);have cM:aw cD wr.heap.size [str nm,ty] 91:=(by rw[cN];exact aw.new wr _ _);have f1:=cM.ah 0;have d3:=bM.cellOf d3 id;have d4:=bM.cellOf d4 id;have alU:i<1000000:=(by have:=(hL g fn hfn).2.2;omega);obtain⟨bw,hu,zY,bG⟩:=(bb.aside (bM.drew) id).put nm JB dm (by unfold maxLen;omega);have eL:Hid (ag (·=W2.heap.size+1) dz bw):=af ((gY.trans ((bM.drew).mono fun _ _ f=>f.elim)).trans bG);have K2:=af zY;have cA:(i:Int)<(bz:Int):=(by omega);have amz:(i:Int)<(vs.length:Int):=(by omega);have amg:(bz:Int)<=(ck:Int):=(by have:=vd.out;omega);have amy:(vs.length:Int)<=(vc:Int):=(by omega);unfold maxLen at aed JH;unfold str at d1 f1 hu cN;clear dm zY bG bM cM v1 v2 v3 k1 k2 lI Og q1 q2 fT ho JB aec JG e3;go_upto_region 9 with (fail)
    rw[<-cN];clear cN;go_region;go_wp2_with fail;exact⟨⟨i+1,F.put nm vs[i],by omega,by go_num,eL,K2,KZ⟩,by simp[intOf];omega⟩
   ·obtain rfl:i=bz:=by omega
    have cA:¬(i:Int)<(i:Int):=(by omega);have e3:=Hs.c7.ah 3;have hF:F=CK:=by
     have h1:=EJ.out;rw[vd.out,anZ]at h1;rw[<-h1];cases vs.drop fn.params.length <;> rfl
    subst hF;clear ad3;have k_:∀ (fn:Go.Fn) (first cap:Array Value) (w:World),(Instr.makeFunc fn first cap).run prog w=.ok (.func fn first cap) w:=fun _ _ _ _=>rfl
    go_wp2_with fail;have fT:ag (fun k=>¬P k) W2 wr:=(QI.mono fun _ _ f=>f.elim).trans (gY.mono fun k _ hk=>by rw[hk];exact (xU _ (by have:=n9.out;omega)).2);have hpl:=(hL g fn hfn).2.2;have oq:=fun y hy=>xA fn.body (.slice bg fn.body.length br) dQ b ak P M A { s with calls:=s.calls+1 } F (W2.heap.size+1) i (i+s.fuel) wr y CV bb (anD _) (by have h1:=kY.out;have h2:=vd.out;omega) (hL g fn hfn).1 (zu.2.1.mods fT (fun _ _ k=>k)) (cE.b8 fT (fun _ _ k=>k) _ _ zu.2.2) hy
    have yJ:=pT.out;have hg:r9 L g=fn:=(by unfold r9;rw[hfn];rfl);rw[hg,<-Yf.out]at yJ;obtain⟨z,hz⟩:∃z,z=fk L f { s with calls:=s.calls+1 } F fn.body:=⟨_,rfl⟩;rw[<-hz]at yJ;rcases z with _|⟨(dO|nn)|G,t⟩
    ·cases yJ
    ·obtain rfl:=(anz yJ).symm
     refine (oq _ hz.symm).mono ?_;rintro e aJ ⟨⟨aV,rfl⟩,eH,fZ,k1,k2,k3⟩;have HK:=af (anw k1 (anw k2 k3));clear yJ hz oq k1 k2 k3;go_wp2;have hwr:Ext ai M M W wr:=sQ.new gY (fun k h1 h2=>by have:=n9.out;omega);have pB:Ext ai M eH W aJ:=hwr.Ep HK.2.1 (fun k h1 h2=>by have:=n9.out;omega);have DN:ag ai aJ (aJ.alloc (.cells #[.int .i64 0] 166)):=ay.alloc _;exact aa4 aV (fun o=>⟨⟨o,rfl⟩,eH,fZ,HK.1.quiet DN,pB.trans (Ext.quiet DN),HK.2.2⟩)
    ·obtain rfl:=(anz yJ).symm
     have F4:t.calls=s.calls+1:=by
      rcases (wx L f).2.2.2.1 { s with calls:=s.calls+1 } F fn.body _ hz.symm with⟨w,hw⟩|h1
      ·cases hw
      ·exact h1
     refine (oq _ hz.symm).mono ?_;rintro e aJ ⟨⟨aV,rfl⟩,eH,fZ,k1,k2,k3⟩;have HK:=af (anw k1 (anw k2 k3));have Lc:=af F4;have qA:=af (Hs.step k2 (by rintro k rfl;omega));clear yJ hz oq k1 k2 k3 F4;go_wp2;have hwr:Ext ai M M W wr:=sQ.new gY (fun k h1 h2=>by have:=n9.out;omega);have pB:Ext ai M eH W aJ:=hwr.Ep HK.2.1 (fun k h1 h2=>by have:=n9.out;omega);obtain⟨JO,Kl,kv,-⟩:=HK.1.blk;have adu:aJ.cell? ⟨b,3,none⟩=some (.int .i64 t.calls):=kv.cell rfl;have Dz:=Lc.out;have bG:ag (·=W.heap.size+1) aJ (aJ.setCell ⟨W.heap.size+1,0,none⟩ (.int .i64 nn)):=cm _ _ _ _;have Dl:=HK.1.aside bG (fun k hk=>by rw[hk];exact qA.xD);have MI:=pB.new bG (fun k h1 h2=>by omega);have FM:=Dl.Cz (t.calls-1) (by have:=HK.1.calls;omega);have FD:=MI.trans (Dl.ext ai 3 (.int .i64 ((t.calls-1:Nat):Int)));have xo:((t.calls-1:Nat):Int)=(t.calls:Int)-1:=(by omega);rw[xo]at FM FD;have DN:ag ai ((aJ.setCell ⟨W.heap.size+1,0,none⟩ (.int .i64 nn)).setCell ⟨b,3,none⟩ (.int .i64 ((t.calls:Int)-1))) (((aJ.setCell ⟨W.heap.size+1,0,none⟩ (.int .i64 nn)).setCell ⟨b,3,none⟩ (.int .i64 ((t.calls:Int)-1))).alloc (.cells #[nn] 166)):=ay.alloc _
     have hu:(((aJ.setCell ⟨W.heap.size+1,0,none⟩ (.int .i64 nn)).setCell ⟨b,3,none⟩ (.int .i64 ((t.calls:Int)-1))).alloc (.cells #[nn] 166)).cell? ⟨W.heap.size+1,0,none⟩=some (.int .i64 nn) :=
      (((qA.c6.set 0 (.int .i64 nn)).mods (cm _ b 3 (.int .i64 ((t.calls:Int)-1))) (fun e=>J_ e.symm)).mods DN id).cell rfl
     exact aa3 aV rfl (qA.c6.ah 0) (qA.c6.free 0) (qA.c3.ah 0) adu (kv.free 3) (by omega) (by have:=HK.1.calls;omega) (by omega) J_ hu ⟨eH,fZ,rfl,FM.quiet DN,FD.trans (Ext.quiet DN),HK.2.2⟩
    ·obtain rfl:=(anz yJ).symm
     have F4:t.calls=s.calls+1:=by
      rcases (wx L f).2.2.2.1 { s with calls:=s.calls+1 } F fn.body _ hz.symm with⟨w,hw⟩|h1
      ·cases hw
      ·exact h1
     refine (oq _ hz.symm).mono ?_;rintro e aJ ⟨rfl,eH,fZ,agC,afe,dU,k1,k2,k3⟩;have HK:=af (anw k1 (anw k2 k3));have Lc:=af F4;have qA:=af (Hs.step k2 (by rintro k rfl;omega));have lj:=qA.c6.ah 0;have rJ:=qA.c6.free 0;clear yJ hz oq k1 k2 k3 F4 afe dU;go_wp2;have hwr:Ext ai M M W wr:=sQ.new gY (fun k h1 h2=>by have:=n9.out;omega);have pB:Ext ai M eH W aJ:=hwr.Ep HK.2.1 (fun k h1 h2=>by have:=n9.out;omega);have Dz:=Lc.out;have bG:ag (·=W.heap.size+1) aJ (aJ.setCell ⟨W.heap.size+1,0,none⟩ (.int .i64 0)):=cm _ _ _ _;have Dl:=HK.1.aside bG (fun k hk=>by rw[hk];exact qA.xD);have MI:=pB.new bG (fun k h1 h2=>by omega);have FM:=Dl.Cz (t.calls-1) (by have:=HK.1.calls;omega);have FD:=MI.trans (Dl.ext ai 3 (.int .i64 ((t.calls-1:Nat):Int)));have xo:((t.calls-1:Nat):Int)=(t.calls:Int)-1:=(by omega);rw[xo]at FM FD;obtain⟨amC,am0,dT,-⟩:=Dl.blk;have hu:=((qA.c6.set 0 (.int .i64 0)).mods (cm _ b 3 (.int .i64 ((t.calls:Int)-1))) (fun e=>J_ e.symm)).cell (i:=0) (v:=.int .i64 0) rfl;exact ahT (u:=.nilIface) rfl ((qA.c3.mods bG (fun e=>by omega)).ah 0) (dT.ah 3) (dT.free 3) (by omega) (by have:=HK.1.calls;omega) hu ⟨eH,fZ,rfl,FM,FD,HK.2.2⟩
theorem aaB (L:List Fn):sN L 0:=by
 intro g vs b ak base P M A s W lv r h hv gS hfn hr;simp only[jE]at hr;cases hr
theorem aip (hL:ED L):∀f,lq L f/\sN L f/\pZ L f:=by
 intro f;induction f using Nat.strongRecOn with
 | ind f ih =>
   have hblk:∀k,k<=f->CI L k:=fun k hk=>aac (fun j hj=>(ih j (by omega)).2.2)
   cases f with
   | zero=>exact⟨abz L,aaB L,ajN L⟩
   | succ f =>
     have he:∀k,k<=f->lq L k:=fun k hk=>(ih k (by omega)).1
     have hc:sN L f:=(ih f (by omega)).2.1;exact⟨abx he hc,aas hL (hblk f (by omega)),ajB he (fun k hk=>hblk k (by omega))⟩
theorem aaw (hL:ED L) (f:Nat):sN L f:=(aip hL f).2.1
theorem ae0 (v:Value) (w:World):Sem.run prog (Instr.typeAssert (.iface 113 v) 20 113 true) w=.ok (.tuple #[v,.bool true]) w:=by
 simp[Instr.typeAssert,run_underlying underlying113]
theorem aa8 (q6 q7 b:Nat) (w1 w2:Int) (aG:Option Addr) (on aF:Nat) (u:Value) (w:World) (h6:aw w q6 [w1,w2,u] 31) (h7:w.cell? ⟨q7,0,none⟩=some (.pointer (some ⟨b,0,none⟩))) (hb:w.cell? ⟨b,4,none⟩=some (.slice aG on aF)) :
 CallsD prog 44 #[.pointer (some ⟨q6,0,none⟩),.pointer (some ⟨q7,0,none⟩)] .returning w fun e u' w'=>e=.returned (.tuple #[])/\u'=.returning/\aw w' q6 [w1,w2,.slice aG on aF] 31/\ag (·=q6) w w':=by
 have f6:=h6.free 2;have c6:=h6.ah 2;have gA:=af h6;clear h6;refine callsD_of_wpS func44 rfl fun my cs hu=>?_
 apply wpS_seq;apply wpS_seq;apply wpS_region;simp[wpOpsS,go_sem,recoverD,hu,ntmps44,Exit.thenS];refine wpS_of_wp ?_;rw[show (#[Value.pointer (some ⟨q6,0,none⟩),.pointer (some ⟨q7,0,none⟩)]++((Array.replicate 22 undef).setIfInBounds 3 (.nilIface)).setIfInBounds 0 (.nilIface):Array Value)=#[Value.pointer (some ⟨q6,0,none⟩),.pointer (some ⟨q7,0,none⟩),.nilIface,undef,undef,.nilIface,undef,undef,undef,undef,undef,undef,undef,undef,undef,undef,undef,undef,undef,undef,undef,undef,undef,undef] from by kernel_rfl];go_wp2;simp only[Exit.thenS];refine wpS_of_wp ?_;go_wp2;clear f6 c6 h7 hb;cases my
 simp_all [bodyPostS,results,results44]
 exact⟨gA.set 2 (.slice aG on aF),cm _ _ _ _⟩
theorem abb (q6 q7 b:Nat) (n w1 w2:Int) (aG:Option Addr) (on aF:Nat) (u:Value) (aV:List PanicEntry) (w:World) (h6:aw w q6 [w1,w2,u] 31) (h7:w.cell? ⟨q7,0,none⟩=some (.pointer (some ⟨b,0,none⟩))) (hb:w.cell? ⟨b,4,none⟩=some (.slice aG on aF)) (FA:q7≠q6) (dT:b≠q6) :
 CallsD prog 44 #[.pointer (some ⟨q6,0,none⟩),.pointer (some ⟨q7,0,none⟩)] (.panicking ({ v:=kH n,recovered:=false }::aV)) w fun e u' w'=>e=.returned (.tuple #[])/\u'=.panicking ({ v:=kH n,recovered:=true }::aV)/\aw w' q6 [n,.int .i64 0,.slice aG on aF] 31/\ag (·=q6) w w':=by
 obtain⟨c0,f0,c1,f1,c2,f2⟩:=h6.gM;have Ar:=h6.lt;have OT:=World.block_lt_of_cell? w _ h7;have lb:=World.block_lt_of_cell? w _ hb;simp only at OT lb;have gA:=af h6;clear h6;refine callsD_of_wpS func44 rfl fun my cs hu=>?_
 apply wpS_seq;apply wpS_seq;apply wpS_region;unfold kH at hu;simp[wpOpsS,go_sem,recoverD,hu,ntmps44,Exit.thenS];refine wpS_of_wp ?_;rw[show (#[Value.pointer (some ⟨q6,0,none⟩),.pointer (some ⟨q7,0,none⟩)]++((Array.replicate 22 undef).setIfInBounds 3 (.iface 113 (.agg #[n]))).setIfInBounds 0 (.iface 113 (.agg #[n])):Array Value)=#[Value.pointer (some ⟨q6,0,none⟩),.pointer (some ⟨q7,0,none⟩),.iface 113 (.agg #[n]),undef,undef,.iface 113 (.agg #[n]),undef,undef,undef,undef,undef,undef,undef,undef,undef,undef,undef,undef,undef,undef,undef,undef,undef,undef] from by kernel_rfl];have iw:=ae0 (.agg #[n]) w;have xD:q6≠w.heap.size:=by omega
 have GA:q7≠w.heap.size:=by omega
 have nb:b≠w.heap.size:=by omega
 go_wp2;simp only[Exit.thenS];refine wpS_of_wp ?_;go_wp2;clear f0 f1 f2 c0 c1 c2 iw h7 hb;cases my
 simp_all [bodyPostS,results,results44,kH]
 exact⟨((((gA.set 0 (.int .i64 n)).set 1 (.int .i64 0)).set 2 (.slice none 0 0)).set 2 (.slice aG on aF)).alloc _,((((cm _ _ _ _).trans (cm _ _ _ _)).trans (cm _ _ _ _)).trans (cm _ _ _ _)).alloc _⟩
theorem aiv (h6:tmps[6]?.getD undef=.pointer (some ⟨q6,0,none⟩)) (hB:aw w q6 [w1,w2,u] 31) (h7:w.cell? ⟨q7,0,none⟩=some (.pointer (some ⟨b,0,none⟩))) (hb:w.cell? ⟨b,4,none⟩=some (.slice aG on aF))
 (hR:∀w',aw w' q6 [w1,w2,.slice aG on aF] 31->ag (·=q6) w w'->R (.returned (.agg #[w1,w2,.slice aG on aF])) w') :
 Leaves prog Tryz.f17 tmps R [{ target:=Target.fn (Go.Fn.func 44) #[.pointer (some ⟨q6,0,none⟩),.pointer (some ⟨q7,0,none⟩)],args:=#[] }] .returning w:=by
 refine leaves_cons (f:=44) (args:=#[.pointer (some ⟨q6,0,none⟩),.pointer (some ⟨q7,0,none⟩)]) (by simp) (by simp[go_sem]) ?_;refine (aa8 q6 q7 b w1 w2 aG on aF u w hB h7 hb).mono ?_;rintro e u' w' ⟨rfl,rfl,oo,hm⟩;have hr:=results_cell_row (P:=prog) results17 tmps w' q6 _ _ _ _ (by simpa using h6) oo underlying31 rfl (by kernel_rfl);have aP:=af (hR w' oo hm);clear hR oo hm
 show Leaves _ _ _ _ [] .returning w'
 unfold Leaves;exact⟨_,hr,aP⟩
theorem aiz (aV:Old) (h6:tmps[6]?.getD undef=.pointer (some ⟨q6,0,none⟩)) (hB:aw w q6 [w1,w2,u] 31) (h7:w.cell? ⟨q7,0,none⟩=some (.pointer (some ⟨b,0,none⟩))) (hb:w.cell? ⟨b,4,none⟩=some (.slice aG on aF)) (FA:q7≠q6) (dT:b≠q6)
 (hR:∀w',aw w' q6 [n,.int .i64 0,.slice aG on aF] 31->ag (·=q6) w w'->R (.returned (.agg #[n,.int .i64 0,.slice aG on aF])) w') :
 Leaves prog Tryz.f17 tmps R [{ target:=Target.fn (Go.Fn.func 44) #[.pointer (some ⟨q6,0,none⟩),.pointer (some ⟨q7,0,none⟩)],args:=#[] }] (.panicking ({ v:=kH n,recovered:=false }::aV.1)) w:=by
 refine leaves_cons (f:=44) (args:=#[.pointer (some ⟨q6,0,none⟩),.pointer (some ⟨q7,0,none⟩)]) (by simp) (by simp[go_sem]) ?_;refine (abb q6 q7 b n w1 w2 aG on aF u aV.1 w hB h7 hb FA dT).mono ?_;rintro e u' w' ⟨rfl,rfl,oo,hm⟩;have hr:=results_cell_row (P:=prog) results17 tmps w' q6 _ _ _ _ (by simpa using h6) oo underlying31 rfl (by kernel_rfl);have aP:=af (hR w' oo hm);have ho:=Kd aV;clear hR oo hm;have hs:settle (FrameMode.panicking ({ v:=kH n,recovered:=true }::aV.1))=.returning:=by simp[settle,ho]
 show Leaves _ _ _ _ [] (settle (FrameMode.panicking ({ v:=kH n,recovered:=true }::aV.1))) w'
 rw[hs];unfold Leaves;exact⟨_,hr,aP⟩
def sO (W:World) (x:Int×Int×List Int) (v:Value):Prop:=∃aG aF,v=.agg #[.int .i64 x.1,.int .i64 x.2.1,.slice aG x.2.2.length aF]/\ij W ai (.slice aG x.2.2.length aF) x.2.2/\x.2.2.length<=200/\(aG=none->aF=0)
theorem Ci {v:Value} {l:List Int} (h:W.ownsRow B 2 1 v l.length (l.map (.int .i64))) (hS:∀k,v.ownBlock=some k->¬S k):ij W S v l:=by
 obtain⟨a,c,rfl,h1,h2,h3⟩:=o6 h;refine⟨a,_,c,rfl,rfl,h1,h2,fun i x hx=>?_⟩;obtain⟨g,e1,e2,e3⟩:=h3 i (.int .i64 x) (by rw[anV,hx];rfl);exact⟨g,0,e1,hS g e2,by simpa using e3⟩
theorem agm (w:World):(Instr.makeMap 109 none).run prog w=.ok (.map (some w.heap.size)) (w.alloc (.map #[] 0)):=by
 simp[Instr.makeMap,run_underlying underlying109]
theorem aeX:(prog.info? 2).map (fun i=>(i.zero,i.size,i.bytes))=some (some (.int .i64 0),1,8):=by kernel_rfl
theorem Pd (W:World):(W.alloc (.cells #[] 2)).ownsRow W.heap.size 2 1 (.slice (some ⟨W.heap.size,0,none⟩) 0 0) 0 [] :=
 World.ownsRow_made (base:=W.heap.size) (e:=2) (size:=1) W #[] 0 (anD _) (by decide) rfl
theorem PR {ops:Array Oper} {rest:List Oper} {o:Oper} {a:Act} {Q:Exit->Act->World->Prop} (hgd:o.guard=none) (s x:Operand)
 (ho:o.op=.call { callee:=.builtin .append,args:=#[s,x],argTypes:=#[23,23] })
 (base:Nat) (v iv:Value) (hs:a.eval s=v) (hown:w.ownsRow base 2 1 v 0 []) (hb:base<=w.heap.size) (S:Nat->Prop) (l:List Int) (hx:a.eval x=iv) (hi:ij w S iv l) (h0:∀n c,iv=.slice none n c->c=0) (hl:l.length<=1000000)
 (h:∀v' w',w'.ownsRow base 2 1 v' l.length (l.map (.int .i64))->ag (fun k=>v.ownBlock=some k) w w'->(∃a c,v'=.slice a l.length c)->(v'.ownBlock=v.ownBlock\/v'.ownBlock=some w.heap.size)->wpList prog ops Q rest (a.put o.dst v') w') :
 wpList prog ops Q (o::rest) a w:=by
 obtain⟨i0,gw,hz0,hz1,hz2⟩:=info_parts aeX;obtain⟨Ce,n,c,rfl,hn,iZ,hcm,hcell⟩:=hi;cases Ce with
 | none =>
   obtain rfl:c=0:=h0 _ _ rfl;obtain rfl:n=0:=(by omega);obtain rfl:l=[]:=anJ hn.symm;refine wpList_append_own_none (P:=prog) hgd s x _ ho base _ i0 1 underlying23 gw v 0 [] hs hown hx ?_;obtain⟨a',c',e,_⟩:=o6 hown;exact h v w hown ay ⟨a',c',e⟩ (Or.inl rfl)
 | some ad =>
   refine wpList_append_own_at (P:=prog) w hgd s x _ ho base _ i0 (.int .i64 0) 1 8 underlying23 gw hz0 hz1 hz2 rfl (by decide) v 0 [] hs hown ad n c (l.map (.int .i64)) hx (by rw[anR,<-hn,Nat.mul_one]) (fun j u hu=>?_) (fun u hu=>?_) (by unfold maxLen;omega) (by omega) hb (fun v' w' h1 h2 h3 h4=>?_)
   ·rw[anV]at hu
    obtain⟨y,hy,rfl⟩:=an7.1 hu;obtain⟨g,o,e1,_,e2⟩:=hcell j y hy;obtain rfl:=anz e1;rw[show (⟨g,o,none⟩:Addr).add j=⟨g,o+j,none⟩ by unfold Addr.add;split <;> simp_all];exact e2
   ·obtain⟨y,_,rfl⟩:=aoO.1 hu
    rfl
   ·rw[an9,aom,hn]at h1
    obtain⟨a',c',e,_⟩:=o6 h1;exact h v' w' h1 (ag.of_grownBy h2 (fun k hk _=>hk)) ⟨a',c',e⟩ h4
theorem GN {e:TypeId} {size n:Nat} {xs:List Value} (h:W.ownsRow B e size (.slice aG n aF) m xs):aG=none->aF=0:=by
 rcases h.2 with⟨e1,_⟩|⟨g,cap,cur,e1,_⟩
 ·obtain⟨-,-,rfl⟩:=Value.slice.inj e1
  exact fun _=>rfl
 ·obtain⟨rfl,-,-⟩:=Value.slice.inj e1
  intro h;cases h
theorem aiq (hL:ED L) (hA:AM L) (hM:∃fn,il L [109,97,105,110]=some fn/\fn.params=[]) (hN:∀x∈L,x.name.length<=10000000) (hn:L.length<=1000000) (f:Nat) (given:List Int) (fuel:Int) (x:Int×Int×List Int) (hx:y5 L f given fuel.toNat=some x) (v iv:Value) (W:World) (hv:lU W ai v L) (hi:ij W ai iv given) (gw:∀n c,iv=.slice none n c->c=0) (hl:given.length<=1000000) (hf:fuel<=4000000000000000000) (hf2:-9223372036854775808<=fuel) :
 Calls prog 17 #[v,iv,fuel] W fun e w=>∃u,e=.returned u/\sO w x u/\ag ai W w:=by
 have l6:=agm;obtain⟨W3,hW3⟩:=aq (((W.alloc (.cells #[.int .i64 0,.int .i64 0,.slice none 0 0] 31)).alloc (.map #[] 0)).alloc (.cells #[] 2));have qz:W3.ownsRow (W.heap.size+1+1) 2 1 (.slice (some ⟨W.heap.size+1+1,0,none⟩) 0 0) 0 []:=by
  rw[hW3];have:=Pd ((W.alloc (.cells #[.int .i64 0,.int .i64 0,.slice none 0 0] 31)).alloc (.map #[] 0));simpa using this
 have aR:ag ai W W3:=by rw[hW3];exact ((ay.alloc _).alloc _).alloc _
 have hs3:W3.heap.size=W.heap.size+3:=by rw[hW3];simp
 have gg:aw W3 W.heap.size [.int .i64 0,.int .i64 0,.slice none 0 0] 31:=by
  rw[hW3];exact ((aw.new W _ _).alloc _).alloc _
 have ET:NameMap W3 (W.heap.size+1) 0 xQ []:=by
  rw[hW3];have:=(NameMap.new (W.alloc (.cells #[.int .i64 0,.int .i64 0,.slice none 0 0] 31)) xQ).mods ((ag.refl ai _).alloc (.cells #[] 2)) id;simpa using this
 have mo:=af (anw qz (anw aR (anw hs3 (anw gg ET))));have aI:=af (anw (hi.mods aR (fun _ _ f=>f)) (anw gw hl));have bQ:=af hv;have cu:=af (anw hL (anw hA (anw hM (anw hN hn))));have aj:=af hx;have bb:=af (anw hf hf2);obtain⟨va,pJ,vc,aeB,Ai,JG,JH,-⟩:=hv;subst aeB;clear qz aR hs3 gg ET hi gw hl hL hA hM hN hn hx;have Gr:Hid (pJ=L.length):=af Ai;clear Ai
 go_enter_defers func17,ntmps17
 go_wp2_with (at_builtin;rw[<-hW3];refine PR rfl (.tmp 11) (.tmp 12) rfl (W.heap.size+1+1) (.slice (some ⟨W.heap.size+1+1,0,none⟩) 0 0) iv rfl mo.1 (by have:=mo.2.2.1;omega) ai given rfl aI.1 aI.2.1 aI.2.2 ?_;rintro v' w1 hown aO ⟨aG,aF,rfl⟩ hloc;have H1:=af (anw hown (anw aO hloc));clear hown aO hloc);clear hW3;obtain⟨b,hb⟩:=aq (w1.heap.size);obtain⟨cD,cN⟩:=aq (((w1.alloc (.cells #[.map (some (W.heap.size+1)),.slice aG given.length aF,.int .i64 (max fuel 0),.int .i64 0,.slice none 0 0] 111)).alloc (.cells #[.pointer (some ⟨w1.heap.size,0,none⟩)] 108)));have uy:ag ai w1 cD:=by rw[cN];exact (ay.alloc _).alloc _
 have hs5:cD.heap.size=b+2:=by rw[cN,hb];simp
 have cM:aw cD b [.map (some (W.heap.size+1)),.slice aG given.length aF,.int .i64 (max fuel 0),.int .i64 0,.slice none 0 0] 111:=by
  rw[cN,hb];exact (aw.new w1 _ _).alloc _
 have ub:aw cD (b+1) [.pointer (some ⟨b,0,none⟩)] 108:=by
  rw[cN,hb];have:=aw.new (w1.alloc (.cells #[.map (some (W.heap.size+1)),.slice aG given.length aF,.int .i64 (max fuel 0),.int .i64 0,.slice none 0 0] 111)) #[.pointer (some ⟨w1.heap.size,0,none⟩)] 108;simpa using this
 rw[<-cN,<-hb];have hb0:W.heap.size+3<=b:=by have h1:=H1.2.1.size;have h2:=mo.2.2.1;omega
 have bM:ag ai W cD:=by
  have h1:=mo.2.1.trans' H1.2.1 (fun k hk hlt=>by simp only[Value.ownBlock,anG]at hk;omega);exact h1.trans uy
 have hS1:∀k,(fun k=>(Value.slice (some ⟨W.heap.size+1+1,0,none⟩) 0 0).ownBlock=some k) k->k=W.heap.size+2:=fun k hk=>by simp only[Value.ownBlock,anG]at hk;omega
 have j3:aw cD W.heap.size [.int .i64 0,.int .i64 0,.slice none 0 0] 31:=(mo.2.2.2.1.mods H1.2.1 (fun hk=>by have:=hS1 _ hk;omega)).mods uy id;have FI:NameMap cD (W.heap.size+1) 0 xQ []:=(mo.2.2.2.2.mods H1.2.1 (fun hk=>by have:=hS1 _ hk;omega)).mods uy id;have FJ:=uy.ownsRow H1.1 (fun k _ f=>f);have hown:∀k,(Value.slice aG given.length aF).ownBlock=some k->W.heap.size+2<=k/\k<b:=fun k hk=>by
  have h2:=H1.1.lt k hk;omega
 have dR:=af (anw bM (anw j3 (anw FJ (anw hown (anw cM (anw ub (anw hs5 hb0)))))));have zt:=af FI;have dx:Hid (ag (·=W.heap.size+1) cD cD):=af ay;have u3:Hid (∀f x,il (L.take 0) f=some x->zi W (fun k=>¬k<W.heap.size) x (jV xQ [] f)):=af (fun f x h=>by simp[il]at h);have hb1:W.heap.size+3<=b:=hb0;clear cN hb uy hs5 cM ub hb0 bM hS1 j3 FI FJ hown H1;unfold maxLen at JH
 go_loopw [9,20] (fun _ jw wr=>∃ (i:Nat) (F:List (List UInt8×Value)),i<=pJ/\jw=.int .i64 i/\Hid (ag (·=W.heap.size+1) cD wr)/\Hid (NameMap wr (W.heap.size+1) i xQ F)/\Hid (∀f x,il (L.take i) f=some x->zi W (fun k=>¬k<W.heap.size) x (jV xQ F f))) (fun _ jw _=>(pJ-intOf jw).toNat)
 case atStart=>exact⟨0,[],anC _,rfl,dx,zt,u3⟩
 case round =>
  clear dx zt u3;obtain⟨i,F,hi,rfl,az,aT,u3⟩:=hrel;have rh:Hid (ag ai W wr):=af (dR.1.trans' az (fun k hk hlt=>by omega));have aA:=af (dR.2.2.2.2.1.mods az (by omega));have dy:=af (dR.2.2.2.2.2.1.mods az (by omega));have q7:=dy.ah 0;by_cases hlt:i<pJ
  ·have bm:i<L.length:=by have:=Gr.out;omega
   obtain⟨ang,ani,anh,e1,e2,e3,e4,cG,hcell⟩:=bQ.out;obtain⟨rfl,rfl,rfl⟩:=Value.slice.inj e1;obtain⟨g,o,p,q,dQ,rfl,-,ja,k1,k2,k3,k4,gU,tD⟩:=hcell i L[i] (anx bm);obtain⟨pa,ck,rfl⟩:=nQ k4.1;obtain⟨bg,br,rfl⟩:=nQ gU.1;have hT:∀k,k<W.heap.size->(fun k=>¬k<W.heap.size) k->ai k:=fun k h1 h2=>(h2 h1).elim
   have nN:zi W (fun k=>¬k<W.heap.size) L[i] (.agg #[str L[i].name,.int .i64 L[i].at_,.slice pa L[i].params.length ck,.slice bg L[i].body.length br]):=⟨_,_,dQ,rfl,k4.mods ay hT,gU.mods ay hT,cE.b8 ay hT _ _ tD⟩;have ja:=rh.out.cellOf ja id;have k1:=rh.out.cellOf k1 id;have k2:=rh.out.cellOf k2 id;have k3:=rh.out.cellOf k3 id;have sx:=cu.2.2.2.1 L[i] (aof bm);have I_:i<1000000:=(by have:=cu.2.2.2.2;omega);obtain⟨dC,fI⟩:=aq (wr.alloc (.cells #[str L[i].name,.int .i64 L[i].at_,.slice pa L[i].params.length ck,.slice bg L[i].body.length br] 84));have bG:ag ai wr dC:=(by rw[fI];exact ay.alloc _);have ej:aw dC wr.heap.size [str L[i].name,.int .i64 L[i].at_,.slice pa L[i].params.length ck,.slice bg L[i].body.length br] 84:=(by rw[fI];exact aw.new wr _ _);obtain⟨f0,f1,f2,f3⟩:=ej.gG;have ahO:=bG.cellOf q7 id;have Z1:=(aA.mods bG id).ah 0;obtain⟨a7,hu,B0,dK⟩:=(aT.mods (bG.drew) id).put (t:=109) underlying109 L[i].name sx (.agg #[str L[i].name,.int .i64 L[i].at_,.slice pa L[i].params.length ck,.slice bg L[i].body.length br]) (by unfold maxLen;omega);have gh:Hid (ag (·=W.heap.size+1) cD a7):=af ((az.trans ((bG.drew).mono fun _ _ f=>f.elim)).trans dK);have AZ:=af B0;have K4:Hid (∀f x,il (L.take (i+1)) f=some x->zi W (fun k=>¬k<W.heap.size) x (jV xQ (sH F L[i].name (.agg #[str L[i].name,.int .i64 L[i].at_,.slice pa L[i].params.length ck,.slice bg L[i].body.length br])) f)):=af (by
        intro f x hx;rw[yn];rw[anT bm]at hx;unfold il at hx;rw[List.find?_append]at hx;cases hy:il (L.take i) f with
        | some y =>
          have j6:=hy;unfold il at j6;rw[j6]at hx;simp only[Option.some_or,anG]at hx;subst hx;have Om:y∈L.take i:=aoc j6;have On:y.name=f:=(by have:=aoJ j6;simpa using this);obtain⟨j,hj,F3⟩:=List.getElem_of_mem Om;rw[List.getElem_take]at F3;have tq:j<i:=(by rw[anP]at hj;omega);have hne:=aos.1 cu.2.1 j i (by omega) bm tq;rw[F3,On]at hne;rw[if_neg hne];exact u3 f y hy
        | none =>
          have j6:=hy;unfold il at j6;rw[j6]at hx;simp only[Option.none_or,aoa,List.find?_nil]at hx;by_cases hn:L[i].name=f
          ·rw[if_pos hn.symm]
           have hb:(L[i].name==f)=true:=(by simpa using hn);rw[hb]at hx;obtain rfl:=anz hx;exact nN
          ·have hb:(L[i].name==f)=false:=by simpa using hn
           rw[hb]at hx;cases hx)
   have cA:(i:Int)<(pJ:Int):=(by omega);clear k4 gU tD nN B0 dK bG ej hcell e1 e2 e3 e4 cG hT;unfold str at ja f0 hu fI;go_upto_region 5 with (fail)
   rw[<-fI];clear fI;go_region;go_wp2_with fail;exact⟨⟨i+1,_,by omega,by go_num,gh,AZ,K4⟩,by simp[intOf];omega⟩
  ·obtain rfl:i=pJ:=by omega
   have cA:¬(i:Int)<(i:Int):=(by omega);have k_:∀ (fn:Go.Fn) (first cap:Array Value) (w:World),(Instr.makeFunc fn first cap).run prog w=.ok (.func fn first cap) w:=fun _ _ _ _=>rfl
   have yF:=dR.2.2.2.1;have hb1:=dR.2.2.2.2.2.2.2;have yL:=az.size;have hs5:=dR.2.2.2.2.2.2.1;have q_:((fuel.toNat:Nat):Int)=max fuel 0:=Int.toNat_eq_max fuel;have zU:bt wr b (W.heap.size+1) L (fun k=>k<W.heap.size\/k=W.heap.size+1\/(Value.slice aG given.length aF).ownBlock=some k) (·=b) [] ⟨given,fuel.toNat,0,[],[]⟩:=by
        refine⟨⟨_,.slice none 0 0,?_,Ci (az.ownsRow dR.2.2.1 (fun k hk e=>by have:=yF k hk;omega)) (fun k hk vX=>vX (Or.inr (Or.inr hk))),World.ownsRow_nil _ _ _ _,fun k hk=>by cases hk⟩,rfl,⟨Or.inr (Or.inl rfl),_,F,aT,fun g y hy=>?_⟩,rfl,fun j l hl=>by simp at hl,fun g n h=>by simp at h,List.Pairwise.nil,fun k hk=>by rw[hk];omega,fun k hk hp=>?_,fun k hp=>?_,by simp,by simp,?_⟩
        ·have:=aA.out
         rw[<-q_]at this;exact this
        ·refine (u3 g y (by rw[Gr.out,aob];exact hy)).mods (rh.out.mono fun _ _ f=>f.elim) (fun k hk vX z_=>vX (Or.inl z_))
        ·rcases hp with hp|hp|hp
         ·omega
         ·omega
         ·have:=yF k hp
          omega
        ·rcases hp with hp|hp|hp
         ·omega
         ·omega
         ·have:=yF k hp
          omega
        ·have:=bb.out
         simp only;omega
   have EN:=af (dR.2.1.mods az (by omega));have hx:=aj.out;obtain⟨z,hz⟩:=aq (jE L f ⟨given,fuel.toNat,0,[],[]⟩ [109,97,105,110] []);rw[WN,<-hz]at hx;rcases z with _|⟨y,t⟩
   ·cases hx
   have hc:=aaw cu.1 f [109,97,105,110] [] b (W.heap.size+1) 0 _ _ [] _ wr (.slice none 0 0) (y,t) zU (j1.none_ _ _ _ _ _) (by decide) (by obtain⟨fn,h1,h2⟩:=cu.2.2.1;exact⟨fn,h1,by rw[h2];rfl⟩) hz.symm;have hx2:yh (y,t)=x:=anz hx;have xp:=aar hz.symm;have bh:=af hx2;have aU:=af hc;have qy:=af (anw hb1 (anw yL hs5));clear hx hx2 hc hz zU yF hb1 yL hs5 q_;unfold str at aU;go_wp2_with fail;refine aU.mono ?_;rcases xp with⟨n,hn⟩|⟨dO,hw⟩
   ·subst hn
    rintro e aJ ⟨eH,fZ,rfl,k1,k2,k3⟩;have yL:=qy.2.1;have hs5:=qy.2.2;have hb1:=qy.1;have j3:=nr EN k2 (fun e=>by omega) id;have vL:=nr dy k2 (fun e=>by omega) id;obtain⟨JO,Kl,kv,-,rj,sk⟩:=k1.blk;obtain⟨wE,wF,rfl⟩:=nQ rj;have HK:=af (anw j3 (anw vL (anw kv (anw rj (anw sk (anw k2 k1.few))))));obtain⟨c0,f0,c1,f1,c2,f2⟩:=j3.1.gM;clear j3 vL kv rj sk k1 k2 k3 aU;go_wp2;clear c0 c1 c2 f0 f1 f2;have bG:ag (·=W.heap.size) aJ (((aJ.setCell ⟨W.heap.size,0,none⟩ (.int .i64 1)).setCell ⟨W.heap.size,1,none⟩ (.int .i64 n)).setCell ⟨W.heap.size,2,none⟩ (.slice none 0 0)):=((cm _ _ _ _).trans (cm _ _ _ _)).trans (cm _ _ _ _);have zP:=(((HK.1.1.set 0 (.int .i64 1)).set 1 (.int .i64 n)).set 2 (.slice none 0 0));refine aiv (q7:=b+1) (b:=b) rfl zP ((HK.2.1.1.mods bG (by omega)).ah 0) ((HK.2.2.1.mods bG (by omega)).ah 4) ?_;intro w' oo DC;have kj:ag (·=W.heap.size) aJ w':=bG.trans DC;have hx2:=bh.out;subst hx2;have hne:∀k,(Value.slice wE t.out.length wF).ownBlock=some k->k≠W.heap.size:=fun k hk e=>HK.1.2 (e ▸ (HK.2.2.2.2.1 k hk).1)
    refine⟨_,rfl,⟨wE,wF,rfl,Ci (kj.ownsRow HK.2.2.2.1 hne) (fun _ _ f=>f),HK.2.2.2.2.2.2,GN HK.2.2.2.1⟩,?_⟩;have h1:ag (fun k=>k=b) W aJ:=(rh.out.mono fun _ _ f=>f.elim).trans (HK.2.2.2.2.2.1.mods.mono fun k _ hk=>hk.elim (fun f=>f.elim) id);exact (h1.trans' kj (fun k hk hlt=>by omega)).mono (fun k hk e=>by omega)
   ·subst hw
    rintro e aJ ⟨⟨aV,rfl⟩,eH,fZ,k1,k2,k3⟩;have yL:=qy.2.1;have hs5:=qy.2.2;have hb1:=qy.1;have j3:=nr EN k2 (fun e=>by omega) id;have vL:=nr dy k2 (fun e=>by omega) id;obtain⟨JO,Kl,kv,-,rj,sk⟩:=k1.blk;obtain⟨wE,wF,rfl⟩:=nQ rj;have HK:=af (anw j3 (anw vL (anw kv (anw rj (anw sk (anw k2 k1.few))))));clear j3 vL kv rj sk k1 k2 k3 aU;go_wp2;refine aiz aV (q7:=b+1) (b:=b) rfl HK.1.1 (HK.2.1.1.ah 0) (HK.2.2.1.ah 4) (by omega) (by omega) ?_;intro w' oo kj;have hx2:=bh.out;subst hx2;have hne:∀k,(Value.slice wE t.out.length wF).ownBlock=some k->k≠W.heap.size:=fun k hk e=>HK.1.2 (e ▸ (HK.2.2.2.2.1 k hk).1)
    refine⟨_,rfl,⟨wE,wF,rfl,Ci (kj.ownsRow HK.2.2.2.1 hne) (fun _ _ f=>f),HK.2.2.2.2.2.2,GN HK.2.2.2.1⟩,?_⟩;have h1:ag (fun k=>k=b) W aJ:=(rh.out.mono fun _ _ f=>f.elim).trans (HK.2.2.2.2.2.1.mods.mono fun k _ hk=>hk.elim (fun f=>f.elim) id);exact (h1.trans' kj (fun k hk hlt=>by omega)).mono (fun k hk e=>by omega)

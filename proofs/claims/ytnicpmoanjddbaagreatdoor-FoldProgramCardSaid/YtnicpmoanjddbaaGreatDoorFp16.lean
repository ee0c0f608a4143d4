/- A part of what stands behind. -/
import Derived.Test.YtnicpmoanjddbaaGreatDoorFp15
set_option maxRecDepth 100000
set_option maxHeartbeats 4000000
set_option linter.all false
namespace Go.Proofs.YtnicpmoanjddbaaGreatDoor
namespace aW
open Go.RowKit bB Go.Maps aB Go.Proofs.Tryz
variable {W wr w:World} {S:Nat->Prop} {F:ar} {v z0 cS z2 z3 v0 v1 v2 v3 v4 v5 v6 v7 v8 v9 z4 z5 rJ He KP z9:Value} {g i n base r p f0 kb nb sb tn q:Nat} {l:List ax} {fs:List Value} {B A pL jk X:Nat->Nat->Bool} {G G':Prop} {m:Bool} {K:bn} {R:List Nat} {t:TypeId}
theorem PS (s:ax) (v:Value) (S:Nat->Prop) (W:World) (h:dF W S s v) :
 Calls prog 79 #[v] W fun e w=>e=.returned (.int .i64 (eJ s))/\ag ai W w:=by
 obtain⟨aa,ac,rfl,-⟩:=h;obtain⟨ba,kD,bL,ib,fY,xn,d_,fJ,fO,xs⟩:=s;obtain⟨an,eT⟩:=aq (xs.length);simp only;rw[<-eT];clear eT;unfold eJ;simp only;by_cases hc:ba=1\/ba=2\/ba=3\/ba=7\/ba=9\/ba=10\/ba=11\/ba=14
 ·rw[if_pos hc]
  unfold aY str;rcases hc with rfl|rfl|rfl|rfl|rfl|rfl|rfl|rfl
  all_goals
   go_in;go_wp2_with fail;go_ret;exact⟨rfl,ay.alloc _⟩
 ·rw[if_neg hc]
  unfold aY str;have h1:(ba==1)=false:=by simp;omega
  have h2:(ba==2)=false:=by simp;omega
  have h3:(ba==3)=false:=by simp;omega
  have h7:(ba==7)=false:=by simp;omega
  have dJ:(ba==9)=false:=by simp;omega
  have h10:(ba==10)=false:=by simp;omega
  have h11:(ba==11)=false:=by simp;omega
  have r_:(ba==14)=false:=by simp;omega
  clear hc;go_in;go_wp2_with fail;go_ret;exact⟨rfl,ay.alloc _⟩
theorem ahB (s:ax) (v:Value) (S:Nat->Prop) (W:World) (h:dF W S s v) :
 Calls prog 80 #[v] W fun e w=>e=.returned (.bool (nW s))/\ag ai W w:=by
 obtain⟨aa,ac,rfl,-⟩:=h;obtain⟨ba,kD,bL,ib,fY,xn,d_,fJ,fO,xs⟩:=s;obtain⟨an,eT⟩:=aq (xs.length);simp only;rw[<-eT];clear eT;unfold nW;simp only;by_cases hc:ba=1\/ba=2\/ba=10
 ·rw[show (ba==1 || ba==2 || ba==10 || (ba==3 && d_ != [47] && d_ != [37]))=true by rcases hc with h|h|h <;> simp[h]]
  unfold aY str;rcases hc with rfl|rfl|rfl
  all_goals
   go_in;go_wp2_with fail;go_ret;exact⟨rfl,ay.alloc _⟩
 ·have h1:(ba==1)=false:=by simp;omega
  have h2:(ba==2)=false:=by simp;omega
  have h10:(ba==10)=false:=by simp;omega
  rw[h1,h2,h10];simp only[Bool.false_or];by_cases h3:ba=3
  ·subst h3
   have e0:((3:Int)==3)=true:=rfl;rw[e0];unfold aY str;simp only[Bool.true_and];by_cases d1:d_=[47]
   ·subst d1
    rw[show (([47]:List UInt8) != [47] && ([47]:List UInt8) != [37])=false from rfl];have e2:((⟨#[47]⟩:ByteArray)==⟨#[47]⟩)=true:=rfl;have e3:((⟨#[47]⟩:ByteArray) != ⟨#[47]⟩)=false:=rfl;clear h1 h2 h10 hc;go_in;go_wp2_with fail;go_ret;exact⟨rfl,ay.alloc _⟩
   ·have e1:(d_ != [47])=true:=by simpa using d1
    have e2:((⟨d_.toArray⟩:ByteArray)==⟨#[47]⟩)=false:=by
     rw[show (⟨#[47]⟩:ByteArray)=⟨([47]:List UInt8).toArray⟩ from rfl,qu];simpa using d1
    rw[e1];simp only[Bool.true_and];by_cases d2:d_=[37]
    ·subst d2
     rw[show (([37]:List UInt8) != [37])=false from rfl];have e3:((⟨#[37]⟩:ByteArray)==⟨#[37]⟩)=true:=rfl;have e4:((⟨#[37]⟩:ByteArray) != ⟨#[37]⟩)=false:=rfl;clear h1 h2 h10 hc;go_in;go_wp2_with fail;go_ret;exact⟨rfl,ay.alloc _⟩
    ·have e3:(d_ != [37])=true:=by simpa using d2
     have e4:((⟨d_.toArray⟩:ByteArray)==⟨#[37]⟩)=false:=by
         rw[show (⟨#[37]⟩:ByteArray)=⟨([37]:List UInt8).toArray⟩ from rfl,qu];simpa using d2
     rw[e3];clear h1 h2 h10 hc e1 e3;go_in;go_wp2_with fail;go_ret;exact⟨by simp[d1,d2],ay.alloc _⟩
  ·have e3:(ba==3)=false:=by simpa using h3
   rw[e3];unfold aY str;simp only[Bool.false_and];clear hc h3;go_in;go_wp2_with fail;go_ret;exact⟨rfl,ay.alloc _⟩
theorem nI.more {W:World} {kb nb sb n m:Nat} {K:bn} (h:nI W kb nb sb n K) (hm:n<=m):nI W kb nb sb m K:=⟨h.blk,h.cL.more hm,h.same.more hm,h.ne,h.GK,h.Ct⟩
theorem akC {s:ax} (h:b9 s.dst):b9 (eJ s):=by
 unfold eJ;split
 ·exact h
 ·unfold b9;omega
theorem aft (h:nI W kb nb sb n K) (s:ax) (v:Value) (S:Nat->Prop) (hv:dF W S s v) (hd:b9 s.dst) (Ur:b9 s.n) (ha:b9 s.a) (hn:n<=1000000) :
 Calls prog 82 #[.pointer (some ⟨kb,0,none⟩),v] W fun e w=>e=.returned (.tuple #[])/\nI w kb nb sb (n+1) (K.kR s)/\ag (fun k=>k=nb\/k=sb) W w:=by
 obtain⟨aa,ac,rfl,cC⟩:=hv;obtain⟨W1,hW1⟩:=aq (W.alloc (.cells (aY s (.slice aa s.args.length ac)).toArray 57));have aO:ag ai W W1:=by rw[hW1];exact ay.alloc _
 have hb1:aw W1 W.heap.size (aY s (.slice aa s.args.length ac)) 57:=by rw[hW1];exact aw.new W _ _
 have rV:=af (PS s (.agg (aY s (.slice aa s.args.length ac)).toArray) S W1 ⟨aa,ac,rfl,cC.mods (aO.mono fun _ _ f=>f.elim) (fun _ _ k=>k)⟩);have Yw:=af (h.mods aO id id id);obtain⟨d0,d1,d2,d3,d4,d5,d6,d7,d8,d9⟩:=hb1.gD;have bD:=af hb1;have aD:=af aO;have cu:=af (anw h.blk.lt (anw h.cL.lt h.same.lt));have aI:=af (anw hd (anw Ur (anw ha hn)));obtain⟨p,hp⟩:=aq (eJ s);rw[<-hp]at rV;have bP:=af hp;obtain⟨an,eT⟩:=aq (s.args.length);rw[<-eT]at d9 hW1 rV ⊢;have nD:=af eT;obtain⟨uh,hK2⟩:=aq (K.kR s);rw[<-hK2];have qC:=af hK2;clear aO hb1 cC h hd Ur ha hn hp eT hK2;unfold aY str at *;go_in;go_upto_region 1 with (fail)
 rw[<-hW1];clear hW1;go_wp2_with fail;refine rV.mono ?_;rintro e w2 ⟨rfl,aN⟩;have bJ:=af aN;have Qw:=af (Yw.mods aN id id id);clear aN d0 d1 d2 d3 d4 d5 d6 d7 d8 d9 rV;by_cases tx:p<0
 ·have e:uh=K:=by rw[qC.out];unfold bn.kR;rw[if_pos (by rw[<-bP.out];exact tx)]
  subst e;go_wp2_with fail;refine bodyPost_ret (results_none rfl _ _ _) rfl ?_;exact⟨rfl,Qw.more (by omega),(aD.trans bJ).mono fun _ _ f=>f.elim⟩
 ·have oY:¬(p<0):=tx
  have NS:b9 p:=by rw[bP.out];exact akC aI.1
  have bb:=af (acf Qw NS);have QT:=af NS;clear NS;go_wp2_with fail;refine bb.mono ?_;rintro e w3 ⟨rfl,hk3,aR⟩;have rO:=af hk3;have eF:=cu.out;have hb3:=(bD.mods bJ id).mods aR (fun e=>by omega);obtain⟨d0,-,d2,-,-,d5⟩:=hb3.gI;have cv:=af (((aD.trans bJ).mono fun _ _ f=>f.elim).trans aR:ag (fun k=>k=nb\/k=sb) W w3);have ja:=hk3.blk.ah 0;have k1:=hk3.blk.ah 1;have xU:=af hk3.ne;clear hk3 aR hb3 bb;by_cases h1:s.code=1
  ·have e:uh=⟨qs (K.forget p).cL p s.n,(K.forget p).same⟩:=by rw[qC.out];unfold bn.kR;rw[<-bP.out,if_neg (by omega),if_pos h1]
   subst e;rw[h1]at d0;obtain⟨w4,hu,Gi,bX⟩:=(rO.cL.mods (ag.refl ai w3).drew id).put (t:=175) underlying175 underlying2 QT aI.2.1 (by have:=aI.2.2.2;unfold maxLen;omega);have A0:=af Gi;have dV:=af bX;clear Gi bX h1 eF tx;go_wp2_with fail;go_region;go_wp2_with fail;go_end0;have hne:=xU.out;have BW:ag (·=nb) w3 w4:=(ag.refl _ w3).drew.trans dV;refine⟨rfl,⟨rO.blk.mods BW (fun e=>hne.2.1 e),A0,(rO.same.mods BW (fun e=>hne.1 e.symm)).more (by omega),hne,fun q x hq=>?_,rO.Ct⟩,cv.trans (BW.mono fun _ _ e=>Or.inl e)⟩;unfold qs at hq;simp only at hq;split at hq
   ·obtain rfl:=anz hq
    exact aI.2.1
   ·exact rO.GK q x hq
  ·have g1:(s.code==1)=false:=by simpa using h1
   by_cases h2:s.code=2/\s.a≠p
   ·obtain⟨h2,h3⟩:=h2
    have e:uh=⟨(K.forget p).cL,qs (K.forget p).same p s.a⟩:=(by rw[qC.out];unfold bn.kR;rw[<-bP.out,if_neg (by omega),if_neg h1,if_pos ⟨h2,h3⟩]);subst e;rw[h2]at d0;have g3:(s.a==p)=false:=(by simpa using h3);obtain⟨w4,hu,Gi,bX⟩:=(rO.same.mods (ag.refl ai w3).drew id).put (t:=120) underlying120 underlying3 QT aI.2.2.1 (by have:=aI.2.2.2;unfold maxLen;omega);have A0:=af Gi;have dV:=af bX;clear Gi bX h1 h2 h3 g1 eF tx;go_wp2_with fail;go_region;go_wp2_with fail;go_end0;have hne:=xU.out;have BW:ag (·=sb) w3 w4:=(ag.refl _ w3).drew.trans dV;refine⟨rfl,⟨rO.blk.mods BW (fun e=>hne.2.2 e),(rO.cL.mods BW (fun e=>hne.1 e)).more (by omega),A0,hne,rO.GK,fun q x hq=>?_⟩,cv.trans (BW.mono fun _ _ e=>Or.inr e)⟩;unfold qs at hq;simp only at hq;split at hq
    ·obtain rfl:=anz hq
     exact aI.2.2.1
    ·exact rO.Ct q x hq
   ·have e:uh=K.forget p:=by rw[qC.out];unfold bn.kR;rw[<-bP.out,if_neg (by omega),if_neg h1,if_neg h2]
    subst e;by_cases h4:s.code=2
    ·have h5:s.a=p:=Classical.byContradiction fun h=>h2 ⟨h4,h⟩
     have g5:(s.a==p)=true:=(by simpa using h5);rw[h4]at d0;rw[h5]at d2;clear h1 h2 h4 h5 g1 g5 eF tx;go_wp2_with fail;go_end0;exact⟨rfl,rO.more (by omega),cv⟩
    ·have g4:(s.code==2)=false:=by simpa using h4
     clear h1 h2 h4 eF tx;go_wp2_with fail;go_end0;exact⟨rfl,rO.more (by omega),cv⟩
def Bf (W:World) (base:Nat) (v:Value) (l:List ax):Prop:=∃cs,W.ownsRow base 57 10 v l.length cs/\mq W ai cs l
theorem Bf.none_ (W:World) (base:Nat):Bf W base (.slice none 0 0) []:=⟨[],World.ownsRow_nil _ _ _ _,fun i x hx=>by simp at hx⟩
theorem Bf.mods {W W':World} {S:Nat->Prop} {base:Nat} {v:Value} {l:List ax} (h:Bf W base v l) (hm:ag ai W W'):Bf W' base v l:=by
 obtain⟨cs,h1,h2⟩:=h;exact⟨cs,hm.ownsRow h1 (fun _ _ f=>f),h2.mods hm (fun _ _ f=>f)⟩
theorem Bf.at_ (h:Bf W base v l):jS W ai v l:=by
 obtain⟨cs,h1,h2⟩:=h;rcases h1.2 with⟨hv,h0⟩|⟨g,cap,cur,hv,h3,h4,h5,h6,h7,h8⟩
 ·obtain rfl:l=[]:=anJ h0
  exact⟨none,0,hv,anC _,anC _,fun _=>rfl,fun i s hs=>by simp at hs⟩
 ·refine⟨_,cap,hv,h5,h6,(fun h=>by cases h),fun i s hs=>?_⟩
  obtain⟨av,k1,k2⟩:=h2 i s hs;have hc:∀k u,(aY s av)[k]?=some u->W.cell? ⟨g,0+i*10+k,none⟩=some u:=fun k u hk=>by
   have:=h1.cells (g:=g) (by rw[hv];rfl) (i*10+k) u (k1 k u hk);rw[add_plain]at this;rw[aoI];exact this
  exact⟨g,0,av,rfl,id,⟨hc 0 _ rfl,hc 1 _ rfl,hc 2 _ rfl,hc 3 _ rfl,hc 4 _ rfl,hc 5 _ rfl,hc 6 _ rfl,hc 7 _ rfl,hc 8 _ rfl,hc 9 _ rfl⟩,k2⟩
theorem ajU {o c:Nat} (h:jS W S (.slice (some ⟨g,o,none⟩) l.length c) l):∃cs:List Value,cs.length=l.length*10/\(∀j u,cs[j]?=some u->W.cell? ⟨g,o+j,none⟩=some u)/\mq W S cs l/\∀u∈cs,u.oneCell'=true:=by
 obtain⟨a,c',h1,-,-,-,h6⟩:=h;obtain⟨rfl,-,rfl⟩:=Value.slice.inj h1;have key:∀m,m<=l.length->∃cs:List Value,cs.length=m*10/\(∀j u,cs[j]?=some u->W.cell? ⟨g,o+j,none⟩=some u)/\mq W S cs (l.take m)/\∀u∈cs,u.oneCell'=true:=by
  intro m;induction m with
  | zero=>intro _;exact⟨[],rfl,fun j u hj=>by simp at hj,fun i x hx=>by simp at hx,fun u hu=>by simp at hu⟩
  | succ m ih =>
    intro hm;obtain⟨cs,e1,e2,e3,e4⟩:=ih (by omega);have uz:m<l.length:=(by omega);obtain⟨g',o',av,k1,k2,k3,k4⟩:=h6 m l[m] (anx uz);obtain⟨rfl,rfl⟩:g=g'/\o=o':=(by simpa using k1);obtain⟨c0,c1,c2,c3,c4,c5,c6,c7,c8,c9⟩:=k3;obtain⟨aa,ac,ado,-⟩:=k4.form;refine⟨cs++aY l[m] av,by rw[anU,e1,rB];omega,fun j u hj=>?_,?_,fun u hu=>?_⟩
    ·rcases aov j cs.length with ep|ep
     ·rw[anI ep]at hj
      exact e2 j u hj
     ·rw[anH ep]at hj
      obtain⟨k,hk⟩:=aq (j-cs.length);rw[<-hk]at hj;have vU:k<10:=by
       have:=(anA.1 hj).1;rwa [rB]at this
      have hjk:o+j=o+m*10+k:=(by omega);rw[hjk]
      match k,vU,hj with
      | 0,_,hj=>cases hj;exact c0
      | 1,_,hj=>cases hj;exact c1
      | 2,_,hj=>cases hj;exact c2
      | 3,_,hj=>cases hj;exact c3
      | 4,_,hj=>cases hj;exact c4
      | 5,_,hj=>cases hj;exact c5
      | 6,_,hj=>cases hj;exact c6
      | 7,_,hj=>cases hj;exact c7
      | 8,_,hj=>cases hj;exact c8
      | 9,_,hj=>cases hj;exact c9
    ·rw[anT uz]
     exact e3.grow (by rw[e1,anP];congr 1;omega) k4
    ·rcases anQ.1 hu with hu|hu
     ·exact e4 u hu
     ·rw[ado]at hu
      unfold aY at hu;simp only[anW,an1,or_false]at hu;rcases hu with rfl|rfl|rfl|rfl|rfl|rfl|rfl|rfl|rfl|rfl <;> rfl
 have:=key l.length (anD _);rwa [aob]at this
theorem Wb (W:World) (e:TypeId) (size:Nat) (hs:0<size):(W.alloc (.cells #[] e)).ownsRow W.heap.size e size (.slice (some ⟨W.heap.size,0,none⟩) 0 0) 0 [] :=
 World.ownsRow_made (base:=W.heap.size) (e:=e) (size:=size) W #[] 0 (anD _) (by decide) (by simp)
theorem R_ {l:List Int} (h:dh W S v l) (hl:l.length<=1000000) :
 Calls prog 122 #[v] W fun e w=>∃v',e=.returned v'/\w.ownsRow W.heap.size 3 1 v' l.length (l.map (.int .i64))/\ag ai W w:=by
 obtain⟨a,c,rfl,hc1,hc2,hc3⟩:=h.form;cases a with
 | none =>
   have h0:=hc3 rfl;obtain rfl:l=[]:=anJ h0;have hq:=fun w=>Lib.run_eql_slice_nil (P:=prog) w 52 3 none 0 c 0 0 underlying52
   clear h hl hc1 hc2 hc3 h0;simp only[anY];go_in;go_wp2_with fail;go_ret;exact⟨_,rfl,World.ownsRow_nil _ _ _ _,ag.refl _ _⟩
 | some ad =>
   have hq:=fun w=>Lib.run_eql_slice_nil (P:=prog) w 52 3 (some ad) l.length c 0 0 underlying52
   obtain⟨i0,hi,hz0,hz1,hz2⟩:=info_parts JM;have aI:=af (anw hi (anw hz0 (anw hz1 hz2)));obtain⟨W1,hW1⟩:=aq (W.alloc (.cells #[] 3));have aO:ag ai W W1:=(by rw[hW1];exact ay.alloc _);have Ln:=af (show W1.ownsRow W.heap.size 3 1 (.slice (some ⟨W.heap.size,0,none⟩) 0 0) 0 [] by rw[hW1];exact Wb W 3 1 (by decide));have eC:=af aO.size;have kX:Hid ((l.map (Value.int .i64)).length=l.length*1/\(∀j u,(l.map (Value.int .i64))[j]?=some u->W1.cell? (ad.add j)=some u)/\∀u∈l.map (Value.int .i64),u.oneCell'=true):=af (by
    refine⟨by simp,fun j u hj=>?_,fun u hu=>?_⟩
    ·rw[anV]at hj
     obtain⟨x,hx,rfl⟩:=an7.1 hj;obtain⟨a',c',e1,-,-,-,ew⟩:=h;obtain⟨rfl,-,-⟩:=Value.slice.inj e1;obtain⟨g,o,k1,k2,k3⟩:=ew j x hx;cases k1;rw[add_plain];exact aO.cellOf k3 id
    ·obtain⟨x,-,rfl⟩:=aoO.1 hu
     rfl)
   obtain⟨cs,hcs⟩:=aq (l.map (Value.int .i64));have aD:=af aO;have akO:=af hcs;rw[<-hcs]at kX ⊢;clear hcs;obtain⟨bf,fo⟩:=aq (l.length);have cY:=af fo;have rP:=af hl;rw[<-fo]at hq kX;rw[<-fo];clear h hc1 hc2 hc3 hi hz0 hz1 hz2 aO fo hl;go_in;go_wp2_with (at_builtin;rw[<-hW1];refine wpList_append_own_at _ rfl _ _ 52 rfl W.heap.size 3 i0 _ 1 8 underlying52 aI.1 aI.2.1 aI.2.2.1 aI.2.2.2 rfl (by decide) (.slice (some ⟨W.heap.size,0,none⟩) 0 0) 0 [] rfl Ln ad bf c cs rfl kX.1 kX.2.1 kX.2.2 (by have:=rP.out;have:=cY.out;unfold maxLen;omega) (by have:=rP.out;have:=cY.out;omega) eC ?_;intro v' aJ hown cr hnil hloc;have b6:=af hown;have bZ:=af (anw cr hloc);clear hown cr hnil hloc);go_ret;have hm:ag ai W aJ:=aD.trans' (ag.of_grownBy (S:=fun k=>k=W.heap.size) bZ.1 (fun k hk _=>by simp only[Value.ownBlock,anG]at hk;exact hk.symm)) (fun k hk hl=>by omega);have ho:=b6.out;rw[an9,aom]at ho;exact⟨_,rfl,ho,hm⟩
theorem slice_form {B:Nat} {e:TypeId} {size:Nat} {vs:List Value} (h:W.ownsRow B e size v n vs):∃aG aF,v=.slice aG n aF:=by
 rcases h.2 with⟨hv,h0⟩|⟨g,cap,cur,hv,_⟩
 ·exact⟨_,_,by rw[hv,h0]⟩
 ·exact⟨_,_,hv⟩
theorem DT {B:Nat} {l:List Int} (h:W.ownsRow B 3 1 v l.length (l.map (.int .i64))) (hS:∀k,v.ownBlock=some k->¬S k):dh W S v l:=by
 rcases h.2 with⟨hv,h0⟩|⟨g,cap,cur,hv,h3,h4,h5,h6,h7,h8⟩
 ·obtain rfl:l=[]:=anJ h0
  exact⟨none,0,hv,anC _,anC _,fun _=>rfl,fun i s hs=>by simp at hs⟩
 ·refine⟨_,cap,hv,h5,h6,(fun h=>by cases h),fun i x hx=>⟨g,0,rfl,hS g (by rw[hv];rfl),?_⟩⟩
  have:=h.cells (g:=g) (by rw[hv];rfl) i (.int .i64 x) (by rw[anV,hx];rfl);rw[add_plain]at this;exact this
theorem fN (W:World) (g i:Nat) (v:Value):ag (·=g) W (W.setCell ⟨g,i,none⟩ v):=ag.setCell (S:=(·=g)) (p:=⟨g,i,none⟩) ay (fun _=>rfl) _
theorem ah2 (h:nI W kb nb sb n K) (s:ax) (v:Value) (S:Nat->Prop) (hv:dF W S s v) (aZ:qO s) (hlen:s.args.length<=1000000) :
 Calls prog 109 #[.pointer (some ⟨kb,0,none⟩),v] W fun e w=>∃v',e=.returned v'/\dF w (fun k=>k<W.heap.size) (K.reads s) v'/\ag ai W w:=by
 obtain⟨aa,ac,rfl,cC⟩:=hv;obtain⟨W3,hW3⟩:=aq ((W.alloc (.cells (aY s (.slice aa s.args.length ac)).toArray 57)).alloc (.cells #[.int .i64 0,.int .i64 0,.int .i64 0,.int .i64 0,.int .i64 0,.int .i64 0,.string ⟨#[]⟩,.int .i64 0,.string ⟨#[]⟩,.slice none 0 0] 57));have aR:ag ai W W3:=by rw[hW3];exact (ay.alloc _).alloc _
 have hb0:aw W3 W.heap.size (aY s (.slice aa s.args.length ac)) 57:=by rw[hW3];exact (aw.new W _ _).alloc _
 have hb1:aw W3 (W.heap.size+1) [.int .i64 0,.int .i64 0,.int .i64 0,.int .i64 0,.int .i64 0,.int .i64 0,.string ⟨#[]⟩,.int .i64 0,.string ⟨#[]⟩,.slice none 0 0] 57:=by
  rw[hW3];have:=aw.new (W.alloc (.cells (aY s (.slice aa s.args.length ac)).toArray 57)) #[.int .i64 0,.int .i64 0,.int .i64 0,.int .i64 0,.int .i64 0,.int .i64 0,.string ⟨#[]⟩,.int .i64 0,.string ⟨#[]⟩,.slice none 0 0] 57;simpa using this
 have hk3:=(h.mods aR id id id).mods (ag.refl ai W3).drew id id id;have fR:=af (Ka hk3 aZ.cL.2.2.1);have EV:=af (Ka hk3 aZ.cL.2.2.2.1);have QP:=af (Ka hk3 aZ.cL.2.2.2.2.1);obtain⟨-,-,-,-,d2,z2,d3,z3,d4,z4⟩:=hb0.gO;have je:=af hb0;have bD:=af hb1;have cv:=af aR;have HK:=af h;have EG:=af cC;have YS:=af aZ;have rP:=af hlen;obtain⟨an,eT⟩:=aq (s.args.length);have nD:=af eT;rw[<-eT]at hW3 ⊢;clear aR hb0 hb1 hk3 h cC aZ hlen eT;unfold aY str at *;go_in;go_upto_region 1 with (fail)
 rw[<-hW3];clear hW3;obtain⟨w1,df⟩:=aq ((((W3.setCell ⟨W.heap.size,2,none⟩ (.int .i64 (K.of s.a))).setCell ⟨W.heap.size,3,none⟩ (.int .i64 (K.of s.b))).setCell ⟨W.heap.size,4,none⟩ (.int .i64 (K.of s.c))).drew);have LG:=af df;clear df;go_cut [] (fun fX=>w1=fX)
 case first =>
  go_region_law (go_simp;go_at_call 123;(first|(with_reducible refine (fR.out).mono ?_)|(with_reducible refine (EV.out).mono ?_)|(with_reducible refine (QP.out).mono ?_));rintro e w ⟨rfl,rfl⟩)
  all_goals
   go_wp2_with fail;go_meet
   case rel=>exact LG
 case rest =>
 subst hcut;have df:=LG.out;clear LG;have M6:aw w1 W.heap.size [s.code,s.dst,.int .i64 (K.of s.a),.int .i64 (K.of s.b),.int .i64 (K.of s.c),s.n,.string ⟨s.op.toArray⟩,s.label,.string ⟨s.name.toArray⟩,.slice aa an ac] 57:=by
  rw[df];have h:=((je.set 2 (.int .i64 (K.of s.a))).set 3 (.int .i64 (K.of s.b))).set 4 (.int .i64 (K.of s.c));rw[<-nD.out]at h;exact h
 have NF:ag (·=W.heap.size) W3 w1:=by
  rw[df];exact (((fN W3 _ _ _).trans (fN _ _ _ _)).trans (fN _ _ _ _)).drew
 have TB:=bD.mods NF (by omega);have NH:ag ai W w1:=cv.trans' NF (fun k hk hl=>by omega);have YI:=af NH;have CN:=af TB;have X0:=af M6;have lx:=af (R_ (EG.mods (NH.mono fun _ _ f=>f.elim) (fun _ _ k=>k)) rP);rw[<-nD.out]at lx;have fG:=M6.ah 9;clear df d2 d3 d4 z2 z3 z4 M6 TB NF NH fR EV QP je bD;go_wp2_with fail;refine lx.mono ?_;rintro e w2 ⟨v',rfl,hown,aN⟩;obtain⟨ra,rc,rfl⟩:=slice_form hown;have I0:=X0.mods aN id;have fG:=I0.ah 9;have z9:=I0.free 9;obtain⟨w3,hw3⟩:=aq (w2.setCell ⟨W.heap.size,9,none⟩ (.slice ra an rc));have Jl:ag (·=W.heap.size) w2 w3:=by rw[hw3];exact fN _ _ _ _
 have M7:aw w3 W.heap.size [s.code,s.dst,.int .i64 (K.of s.a),.int .i64 (K.of s.b),.int .i64 (K.of s.c),s.n,.string ⟨s.op.toArray⟩,s.label,.string ⟨s.name.toArray⟩,.slice ra an rc] 57:=by
  rw[hw3];exact I0.set 9 (.slice ra an rc)
 have Uk:W.heap.size+1<w1.heap.size:=CN.lt;have akQ:=af Uk;have hro:∀k,(Value.slice ra an rc).ownBlock=some k->W.heap.size+1<k:=fun k hk=>by have:=(hown.lt k hk).1;omega
 have HR:=af hro;have b6:=af (Jl.ownsRow hown (fun k hk e=>by have:=hro k hk;omega));have X1:=af M7;have X3:=af ((CN.mods aN id).mods Jl (by omega));have YK:Hid (ag ai W w3):=af ((YI.trans aN).trans' Jl (fun k hk hl=>by omega));have adp:=M7.ah 9;clear I0 hown aN Jl M7 Uk hro lx;go_upto_region 3 with (fail)
 rw[<-hw3];clear hw3 fG z9;go_wp2_with fail;clear adp
 go_loopw [29] (fun jw wr=>∃j,j<=an/\jw=.int .i64 ((j:Nat):Int)/\Hid (wr.ownsRow w1.heap.size 3 1 (.slice ra an rc) an (((s.args.take j).map K.of++s.args.drop j).map (.int .i64)))/\Hid (ag (fun k=>(Value.slice ra an rc).ownBlock=some k) w3 wr)) (fun jw _=>(an-intOf jw).toNat)
 case atStart=>exact⟨0,anC _,rfl,by simpa using b6,af ay⟩
 case round =>
  clear b6;obtain⟨j,hj,rfl,b6,HI⟩:=hrel;have hrow:=HR.out;have je:=af (X1.mods HI (fun e=>by have:=hrow _ e;omega));have gY:Hid (ag ai W wr):=af (YK.trans' HI (fun k hk hl=>by have:=hrow k hk;omega));have Z8:=je.ah 9;by_cases hlt:j<an
  ·have z7:j<s.args.length:=by rw[<-nD.out];exact hlt
   obtain⟨p,hp⟩:∃p,s.args[j]?=some p:=⟨_,anx z7⟩;obtain⟨g,cap,hg⟩:∃g cap,Value.slice ra an rc=.slice (some ⟨g,0,none⟩) an cap:=by
        rcases b6.2 with⟨hv,h0⟩|⟨g,cap,cur,hv,_⟩
        ·omega
        ·exact⟨g,cap,hv⟩
   obtain⟨rfl,-,rfl⟩:=Value.slice.inj hg;have hcell:=b6.cells (g:=g) rfl j (.int .i64 p) (by
        rw[anV,anH (by rw[anR,anP];omega),anR,anP,aoL (by omega),aog,aor,aou,hp];rfl)
   rw[add_plain,an9]at hcell;have Ni:=b6.frozenAt j;have YR:=af (Ka ((HK.mods gY id id id).mods (ag.refl ai wr).drew id id id) (YS.args p (anF hp)));have cA:(j:Int)<(an:Int):=(by omega);have iD:(an:Int)<=(rc:Int):=by
        rcases b6.2 with⟨hv,h0⟩|⟨g2,aaC,cur,hv,_,_,h5,_⟩
        ·omega
        ·obtain⟨-,-,rfl⟩:=Value.slice.inj hv
         omega
   have hab:(an:Int)<=1000000:=(by have h1:=rP.out;have h2:=nD.out;omega);have K7:=af (anw hp (anw z7 hlt));have hst:=b6.stored j (.int .i64 (K.of p));have HST:=af hst;clear hp z7 hlt hg hst;go_wp2_with fail
   go_region_law (go_simp;go_at_call 123;refine YR.mono ?_;rintro e w ⟨rfl,rfl⟩)
   all_goals go_wp2_with fail
   all_goals
        have hp:=K7.1;have hlt:=K7.2.2;refine⟨⟨j+1,by omega,by go_num,af ?_,af ?_⟩,by simp[intOf];omega⟩
        ·have h:=HST.1.drew
         have hl:((s.args.take j).map K.of).length=j:=(by rw[anR,anP];have:=K7.2.1;omega);have he:((s.args.take j).map K.of++s.args.drop j).map (Value.int .i64)=(((s.args.take j).map K.of++s.args.drop j).map (Value.int .i64)):=rfl;have hd:s.args.drop j=p::s.args.drop (j+1):=by
          obtain⟨h1,h2⟩:=anA.1 hp;rw[<-h2];exact anL h1
         have ht:s.args.take (j+1)=s.args.take j++[p]:=by
          obtain⟨h1,h2⟩:=anA.1 hp;rw[anT h1,h2]
         rw[hd,aot,aow,List.set_append_right _ _ (by rw[anR,hl];exact anD _),anR,hl,aog,List.set_cons_zero]at h;rw[ht,aot,aot,aot,aow,List.map_nil,aow,List.map_nil,aoj];exact h
        ·exact (HI.trans (ag.setCell (S:=fun k=>(Value.slice (some ⟨g,0,none⟩) an rc).ownBlock=some k) (p:=⟨g,j,none⟩) (ag.refl _ wr) (fun _=>rfl) (.int .i64 (K.of p)))).drew
  ·obtain rfl:j=an:=by omega
   have hrow2:=b6.out;have lL:s.args.take j=s.args:=(by rw[nD.out];exact aob);have hdr:s.args.drop j=[]:=(by rw[nD.out];exact anZ);rw[lL,hdr,aoW]at hrow2;have Y5:=af hrow2;have bD:=af (X3.mods HI (fun e=>by have:=hrow _ e;omega));have b0:=je.ah 0;have b1:=je.ah 1;have b2:=je.ah 2;have b3:=je.ah 3;have b4:=je.ah 4;have oO:=je.ah 5;have RP:=je.ah 6;have Z4:=je.ah 7;have Z7:=je.ah 8;obtain⟨r0,f0,r1,f1,r2,f2,r3,f3,eY,f4,jK,f5,lj,f6,kC,f7,lN,f8,ll,f9⟩:=bD.gK;have cA:¬(j:Int)<(j:Int):=(by omega);clear lL hdr hrow2 hrow;go_wp2_with fail;clear b0 b1 b2 b3 b4 oO RP Z4 Z7 Z8 r0 r1 r2 r3 eY jK lj kC lN ll f0 f1 f2 f3 f4 f5 f6 f7 f8 f9;have hB:=(((((((((bD.set 0 (.int .i64 s.code)).set 1 (.int .i64 s.dst)).set 2 (.int .i64 (K.of s.a))).set 3 (.int .i64 (K.of s.b))).set 4 (.int .i64 (K.of s.c))).set 5 (.int .i64 s.n)).set 6 (.string ⟨s.op.toArray⟩)).set 7 (.int .i64 s.label)).set 8 (.string ⟨s.name.toArray⟩)).set 9 (.slice ra j rc);have hm:=(((((((((fN wr (W.heap.size+1) 0 (.int .i64 s.code)).trans (fN _ _ 1 (.int .i64 s.dst))).trans (fN _ _ 2 (.int .i64 (K.of s.a)))).trans (fN _ _ 3 (.int .i64 (K.of s.b)))).trans (fN _ _ 4 (.int .i64 (K.of s.c)))).trans (fN _ _ 5 (.int .i64 s.n))).trans (fN _ _ 6 (.string ⟨s.op.toArray⟩))).trans (fN _ _ 7 (.int .i64 s.label))).trans (fN _ _ 8 (.string ⟨s.name.toArray⟩))).trans (fN _ _ 9 (.slice ra j rc));have hro:=HR.out;have NI:(s.args.map K.of).length=j:=(by rw[anR,nD.out]);have hints:dh wr (fun k=>k<W.heap.size\/k=W.heap.size+1) (.slice ra (K.reads s).args.length rc) (K.reads s).args:=by
        refine DT (B:=w1.heap.size) ?_ ?_
        ·rw[show (K.reads s).args.length=j from NI]
         exact Y5
        ·intro k hk e
         have:=hro k (by rw[show (K.reads s).args.length=j from NI]at hk;exact hk);omega
   have hw:=gY.trans' hm (fun k hk hl=>by omega);refine bodyPost_ret (v:=.agg #[s.code,s.dst,.int .i64 (K.of s.a),.int .i64 (K.of s.b),.int .i64 (K.of s.c),s.n,.string ⟨s.op.toArray⟩,s.label,.string ⟨s.name.toArray⟩,.slice ra j rc]) (results_cell_row (P:=prog) results109 _ _ (W.heap.size+1) 57 _ (0,0) _ rfl hB underlying57 rfl (by kernel_rfl)) rfl ?_;refine⟨_,rfl,⟨ra,rc,?_,hints.mods (hm.mono fun _ _ e=>Or.inr e) (fun _ _ e=>Or.inl e)⟩,hw⟩;rw[show (K.reads s).args.length=j from NI];rfl
theorem Wv (h:aw w q [z0,cS,z2,z3,z4,z5,rJ,He,KP,z9] 57) (v0 v1 v2 v3 v4 v5 v6 v7 v8 v9:Value):aw ((((((((((w.setCell ⟨q,0,none⟩ (v0)).setCell ⟨q,1,none⟩ (v1)).setCell ⟨q,2,none⟩ (v2)).setCell ⟨q,3,none⟩ (v3)).setCell ⟨q,4,none⟩ (v4)).setCell ⟨q,5,none⟩ (v5)).setCell ⟨q,6,none⟩ (v6)).setCell ⟨q,7,none⟩ (v7)).setCell ⟨q,8,none⟩ (v8)).setCell ⟨q,9,none⟩ (v9)) q [v0,v1,v2,v3,v4,v5,v6,v7,v8,v9] 57/\ag (·=q) w ((((((((((w.setCell ⟨q,0,none⟩ (v0)).setCell ⟨q,1,none⟩ (v1)).setCell ⟨q,2,none⟩ (v2)).setCell ⟨q,3,none⟩ (v3)).setCell ⟨q,4,none⟩ (v4)).setCell ⟨q,5,none⟩ (v5)).setCell ⟨q,6,none⟩ (v6)).setCell ⟨q,7,none⟩ (v7)).setCell ⟨q,8,none⟩ (v8)).setCell ⟨q,9,none⟩ (v9)) :=
 ⟨(((((((((h.set 0 v0).set 1 v1).set 2 v2).set 3 v3).set 4 v4).set 5 v5).set 6 v6).set 7 v7).set 8 v8).set 9 v9,(((((((((fN w q 0 v0).trans (fN _ _ 1 v1)).trans (fN _ _ 2 v2)).trans (fN _ _ 3 v3)).trans (fN _ _ 4 v4)).trans (fN _ _ 5 v5)).trans (fN _ _ 6 v6)).trans (fN _ _ 7 v7)).trans (fN _ _ 8 v8)).trans (fN _ _ 9 v9)⟩
theorem uH (W:World) (S:Nat->Prop):dh W S (.slice none 0 0) []:=⟨none,0,rfl,anC _,anC _,fun _=>rfl,fun i x hx=>by simp at hx⟩
theorem Ek {x:List UInt8} {l:List UInt8} (h:¬x=l):((⟨x.toArray⟩:ByteArray)==⟨l.toArray⟩)=false:=by rw[qu];simpa using h
theorem nw (h:aw w g [v0,v1,v2,v3,v4,v5,v6,v7,v8,v9] t):w.cell? ⟨g,0,none⟩=some v0/\w.frozen? ⟨g,0,none⟩=false/\w.cell? ⟨g,1,none⟩=some v1/\w.frozen? ⟨g,1,none⟩=false/\w.cell? ⟨g,2,none⟩=some v2/\w.frozen? ⟨g,2,none⟩=false/\w.cell? ⟨g,3,none⟩=some v3/\w.frozen? ⟨g,3,none⟩=false/\w.cell? ⟨g,4,none⟩=some v4/\w.frozen? ⟨g,4,none⟩=false/\w.cell? ⟨g,5,none⟩=some v5/\w.frozen? ⟨g,5,none⟩=false/\w.cell? ⟨g,6,none⟩=some v6/\w.frozen? ⟨g,6,none⟩=false/\w.cell? ⟨g,7,none⟩=some v7/\w.frozen? ⟨g,7,none⟩=false/\w.cell? ⟨g,8,none⟩=some v8/\w.frozen? ⟨g,8,none⟩=false/\w.cell? ⟨g,9,none⟩=some v9/\w.frozen? ⟨g,9,none⟩=false :=
 ⟨h.cell rfl,h.free 0,h.cell rfl,h.free 1,h.cell rfl,h.free 2,h.cell rfl,h.free 3,h.cell rfl,h.free 4,h.cell rfl,h.free 5,h.cell rfl,h.free 6,h.cell rfl,h.free 7,h.cell rfl,h.free 8,h.cell rfl,h.free 9⟩
theorem c10 (h:aw w g [v0,v1,v2,v3,v4,v5,v6,v7,v8,v9] t):w.cell? ⟨g,0,none⟩=some v0/\w.cell? ⟨g,1,none⟩=some v1/\w.cell? ⟨g,2,none⟩=some v2/\w.cell? ⟨g,3,none⟩=some v3/\w.cell? ⟨g,4,none⟩=some v4/\w.cell? ⟨g,5,none⟩=some v5/\w.cell? ⟨g,6,none⟩=some v6/\w.cell? ⟨g,7,none⟩=some v7/\w.cell? ⟨g,8,none⟩=some v8/\w.cell? ⟨g,9,none⟩=some v9 :=
 ⟨h.cell rfl,h.cell rfl,h.cell rfl,h.cell rfl,h.cell rfl,h.cell rfl,h.cell rfl,h.cell rfl,h.cell rfl,h.cell rfl⟩
theorem nx {fn:Func} {p:Tmp} {R:Ending->World->Prop} {a:Act} (h:fn.results=#[.cell p 57]) (hB:aw w g [z0,cS,z2,z3,z4,z5,rJ,He,KP,z9] 57) (hm:ag ai W w) (hg:W.heap.size<=g) (hp:a.tmps.getD p undef=.pointer (some ⟨g,0,none⟩)) (hd:a.defers=[]) (hR:ag (·=g) w ((((((((((w.setCell ⟨g,0,none⟩ v0).setCell ⟨g,1,none⟩ v1).setCell ⟨g,2,none⟩ v2).setCell ⟨g,3,none⟩ v3).setCell ⟨g,4,none⟩ v4).setCell ⟨g,5,none⟩ v5).setCell ⟨g,6,none⟩ v6).setCell ⟨g,7,none⟩ v7).setCell ⟨g,8,none⟩ v8).setCell ⟨g,9,none⟩ v9)->ag ai W ((((((((((w.setCell ⟨g,0,none⟩ v0).setCell ⟨g,1,none⟩ v1).setCell ⟨g,2,none⟩ v2).setCell ⟨g,3,none⟩ v3).setCell ⟨g,4,none⟩ v4).setCell ⟨g,5,none⟩ v5).setCell ⟨g,6,none⟩ v6).setCell ⟨g,7,none⟩ v7).setCell ⟨g,8,none⟩ v8).setCell ⟨g,9,none⟩ v9)->R (.returned (.agg #[v0,v1,v2,v3,v4,v5,v6,v7,v8,v9])) ((((((((((w.setCell ⟨g,0,none⟩ v0).setCell ⟨g,1,none⟩ v1).setCell ⟨g,2,none⟩ v2).setCell ⟨g,3,none⟩ v3).setCell ⟨g,4,none⟩ v4).setCell ⟨g,5,none⟩ v5).setCell ⟨g,6,none⟩ v6).setCell ⟨g,7,none⟩ v7).setCell ⟨g,8,none⟩ v8).setCell ⟨g,9,none⟩ v9)):bodyPost prog fn R .ret a ((((((((((w.setCell ⟨g,0,none⟩ v0).setCell ⟨g,1,none⟩ v1).setCell ⟨g,2,none⟩ v2).setCell ⟨g,3,none⟩ v3).setCell ⟨g,4,none⟩ v4).setCell ⟨g,5,none⟩ v5).setCell ⟨g,6,none⟩ v6).setCell ⟨g,7,none⟩ v7).setCell ⟨g,8,none⟩ v8).setCell ⟨g,9,none⟩ v9) :=
 have e:=Wv hB v0 v1 v2 v3 v4 v5 v6 v7 v8 v9
 bodyPost_ret (results_cell_row (P:=prog) h _ _ g 57 _ (0,0) _ hp e.1 underlying57 rfl (by kernel_rfl)) hd (hR e.2 (hm.trans' e.2 (fun k hk hl=>by omega)))
theorem wJ (h:nI W kb nb sb n K) (s:ax) (v:Value) (S:Nat->Prop) (hv:dF W S s v) (aZ:qO s) (hlen:s.args.length<=1000000) :
 Calls prog 81 #[.pointer (some ⟨kb,0,none⟩),v] W fun e w=>∃v',e=.returned v'/\dF w (fun k=>k<W.heap.size) (K.step s) v'/\ag ai W w:=by
 obtain⟨aa,ac,rfl,cC⟩:=hv;obtain⟨W3,hW3⟩:=aq ((W.alloc (.cells (aY s (.slice aa s.args.length ac)).toArray 57)).alloc (.cells #[.int .i64 0,.int .i64 0,.int .i64 0,.int .i64 0,.int .i64 0,.int .i64 0,.string ⟨#[]⟩,.int .i64 0,.string ⟨#[]⟩,.slice none 0 0] 57));have aR:ag ai W W3:=by rw[hW3];exact (ay.alloc _).alloc _
 have hb0:aw W3 W.heap.size (aY s (.slice aa s.args.length ac)) 57:=by rw[hW3];exact (aw.new W _ _).alloc _
 have hb1:aw W3 (W.heap.size+1) [.int .i64 0,.int .i64 0,.int .i64 0,.int .i64 0,.int .i64 0,.int .i64 0,.string ⟨#[]⟩,.int .i64 0,.string ⟨#[]⟩,.slice none 0 0] 57:=by
  rw[hW3];have:=aw.new (W.alloc (.cells (aY s (.slice aa s.args.length ac)).toArray 57)) #[.int .i64 0,.int .i64 0,.int .i64 0,.int .i64 0,.int .i64 0,.int .i64 0,.string ⟨#[]⟩,.int .i64 0,.string ⟨#[]⟩,.slice none 0 0] 57;simpa using this
 have hk3:=h.mods aR id id id;have EW:=af (ah2 hk3 s (.agg (aY s (.slice aa s.args.length ac)).toArray) S ⟨aa,ac,rfl,cC.mods (aR.mono fun _ _ f=>f.elim) (fun _ _ k=>k)⟩ aZ hlen);obtain⟨d0,d1,d2,d3,d4,d5,d6,d7,d8,d9⟩:=c10 hb0;have LH:Hid (W3.heap.size=W.heap.size+2):=af (by rw[hW3];simp);have je:=af hb0;have bD:=af hb1;have cv:=af aR;have rO:=af hk3;have Ld:=af (anw h.blk.lt (anw h.cL.lt h.same.lt));have Qt:Hid (b9 (K.of s.a)/\b9 (K.of s.b)):=af ⟨bn.D6 h.Ct aZ.cL.2.2.1,bn.D6 h.Ct aZ.cL.2.2.2.1⟩;obtain⟨an,eT⟩:=aq (s.args.length);obtain⟨T,hT⟩:=aq (K.step s);have lY:=af hT;rw[<-hT,<-eT];rw[<-eT]at hW3 EW d9;clear aR hb0 hb1 hk3 h cC aZ hlen eT hT;unfold aY str at *;go_in;go_upto_region 1 with (fail)
 rw[<-hW3];clear hW3;go_wp2_with fail;refine EW.mono ?_;rintro e w1 ⟨v',rfl,⟨ra,rc,rfl,JA⟩,aO⟩;obtain⟨r,hr⟩:=aq (K.reads s);have aP:=af hr;rw[<-hr]at JA ⊢;obtain⟨rn,Gl⟩:=aq (r.args.length);have sV:=af Gl;rw[<-Gl]at JA ⊢;have hb0:=je.mods aO id;have hb1:=bD.mods aO id;obtain⟨d0,f0,d1,f1,d2,f2,d3,f3,d4,f4,d5,f5,d6,f6,d7,f7,d8,f8,d9,f9⟩:=hb0.gK;obtain⟨w2,hw2⟩:=aq (((((((((((w1.setCell ⟨W.heap.size,0,none⟩ (.int .i64 r.code)).setCell ⟨W.heap.size,1,none⟩ (.int .i64 r.dst)).setCell ⟨W.heap.size,2,none⟩ (.int .i64 r.a)).setCell ⟨W.heap.size,3,none⟩ (.int .i64 r.b)).setCell ⟨W.heap.size,4,none⟩ (.int .i64 r.c)).setCell ⟨W.heap.size,5,none⟩ (.int .i64 r.n)).setCell ⟨W.heap.size,6,none⟩ (.string ⟨r.op.toArray⟩)).setCell ⟨W.heap.size,7,none⟩ (.int .i64 r.label)).setCell ⟨W.heap.size,8,none⟩ (.string ⟨r.name.toArray⟩)).setCell ⟨W.heap.size,9,none⟩ (.slice ra rn rc)));obtain⟨hb2,aN⟩:=Wv hb0 (.int .i64 r.code) (.int .i64 r.dst) (.int .i64 r.a) (.int .i64 r.b) (.int .i64 r.c) (.int .i64 r.n) (.string ⟨r.op.toArray⟩) (.int .i64 r.label) (.string ⟨r.name.toArray⟩) (.slice ra rn rc);rw[<-hw2]at hb2 aN;have Y4:=af JA;have bY:=af hb2;have uU:=af (hb1.mods aN (by omega));have HE:=af aN;have YC:=af aO;have YJ:Hid (ag ai W w2):=af ((cv.trans aO).trans' aN (fun k hk hl=>by omega));clear hr Gl JA hb0 hb1 hb2 aN aO EW je;unfold aY str;go_upto_region 2 with (fail)
 rw[<-hw2];clear hw2 d0 d1 d2 d3 d4 d5 d6 d7 d8 d9 f0 f1 f2 f3 f4 f5 f6 f7 f8 f9;have F6:=rO.out;have hk2:nI w2 kb nb sb n K:=by
  have h1:nI w1 kb nb sb n K:=F6.mods (YC) id id id;have hl:=Ld.out;exact h1.mods HE (by omega) (by omega) (by omega)
 obtain⟨A,hA⟩:=aq (K.cL r.a);obtain⟨B,hB⟩:=aq (K.cL r.b);have UD:b9 r.a:=by rw[aP.out];exact Qt.1
 have DJ:b9 r.b:=by rw[aP.out];exact Qt.2
 have F9:=(hk2.cL.mods (ag.refl ai w2).drew id).look (t:=175) underlying175 underlying2 (OP _) UD;have Ue:=(hk2.cL.mods (ag.refl ai w2).drew.drew id).look (t:=175) underlying175 underlying2 (OP _) DJ;have ja:=hk2.blk.ah 0;have c2:=bY.ah 2;have c3:=bY.ah 3;rw[<-hA]at F9;rw[<-hB]at Ue;have mX:Hid (T=gW r A B):=af (by rw[lY.out,hA,hB,aP.out];rfl);clear hk2 hA hB UD DJ F6;go_region;go_wp2_with fail;go_region;go_upto_region 4 with (fail)
 obtain⟨aJ,pB⟩:=aq (w2.drew.drew);rw[<-pB];have Gb:ag ai w2 aJ:=by rw[pB];exact ay.drew.drew
 have kv:=bY.mods Gb id;have bD:=af (uU.mods Gb id);have HE:Hid (ag (·=W.heap.size) w1 aJ):=af (HE.trans (Gb.mono fun _ _ f=>f.elim));have mV:=af (YJ.trans Gb);have cM:=af kv;have a_:Hid (∀w,ag (·=W.heap.size+1) aJ w->dF w (fun k=>k<W.heap.size) r (.agg #[r.code,r.dst,r.a,r.b,r.c,r.n,.string ⟨r.op.toArray⟩,r.label,.string ⟨r.name.toArray⟩,.slice ra rn rc])):=af fun w hm=>⟨ra,rc,by rw[<-sV.out];rfl,(by rw[<-sV.out];exact (Y4.mods (T:=fun k=>k<W3.heap.size) (HE.mono fun k _ e=>by have:=LH.out;omega) (fun _ _ e=>e)).mods (T:=fun k=>k<W.heap.size) (hm.mono fun k _ e=>by have:=LH.out;omega) (fun k _ e=>by have:=LH.out;omega))⟩
 have c0:=kv.ah 0;have c6:=kv.ah 6;clear c2 c3;clear pB Gb kv ja F9 Ue;by_cases h2:r.code=2
 ·have g2:(r.code==2)=true:=by simp[h2]
  have g3:(r.code==3)=false:=by simp[h2]
  have g5:(r.code==5)=false:=by simp[h2]
  cases A with
  | none =>
    have hT:T=r:=(by rw[mX.out];unfold gW;simp[h2]);have bA:=af hT;clear hT;clear h2;go_upto_region 16 with (fail)
    clear c0 c6;obtain⟨c0,c1,c2,c3,c4,c5,c6,c7,c8,c9⟩:=c10 cM;obtain⟨r0,f0,r1,f1,r2,f2,r3,f3,eY,f4,jK,f5,lj,f6,kC,f7,lN,f8,ll,f9⟩:=nw bD;go_wp2_with fail;refine nx results81 bD mV (an6 _) rfl rfl fun hm eU=>?_
    rw[bA.out];exact⟨_,rfl,a_ _ hm,eU⟩
  | some a =>
    have hT:T=vD r.dst a:=(by rw[mX.out];unfold gW;simp[h2]);have bA:=af hT;clear hT;clear h2;go_upto_region 5 with (fail)
    clear c0 c6;have c1:=cM.ah 1;obtain⟨r0,f0,r1,f1,r2,f2,r3,f3,eY,f4,jK,f5,lj,f6,kC,f7,lN,f8,ll,f9⟩:=nw bD;go_wp2_with fail;refine nx results81 bD mV (an6 _) rfl rfl fun hm eU=>?_
    rw[bA.out];exact⟨_,rfl,⟨none,0,rfl,uH _ _⟩,eU⟩
 ·have g2:(r.code==2)=false:=by simp[h2]
  by_cases h5:r.code=5
  ·have g3:(r.code==3)=false:=by simp[h5]
   have g5:(r.code==5)=true:=(by simp[h5]);cases A with
   | none =>
     have hT:T=r:=(by rw[mX.out];unfold gW;simp[h5]);have bA:=af hT;clear hT;clear h2 h5;go_upto_region 16 with (fail)
     clear c0 c6;obtain⟨c0,c1,c2,c3,c4,c5,c6,c7,c8,c9⟩:=c10 cM;obtain⟨r0,f0,r1,f1,r2,f2,r3,f3,eY,f4,jK,f5,lj,f6,kC,f7,lN,f8,ll,f9⟩:=nw bD;go_wp2_with fail;refine nx results81 bD mV (an6 _) rfl rfl fun hm eU=>?_
     rw[bA.out];exact⟨_,rfl,a_ _ hm,eU⟩
   | some a =>
     by_cases ha:a=0
     ·subst ha
      have hT:T=DU r.label:=(by rw[mX.out];unfold gW;simp[h5]);have bA:=af hT;clear hT;clear h2 h5;go_upto_region 7 with (fail)
      clear c0 c6;have c7:=cM.ah 7;obtain⟨r0,f0,r1,f1,r2,f2,r3,f3,eY,f4,jK,f5,lj,f6,kC,f7,lN,f8,ll,f9⟩:=nw bD;go_wp2_with fail;refine nx results81 bD mV (an6 _) rfl rfl fun hm eU=>?_
      rw[bA.out];exact⟨_,rfl,⟨none,0,rfl,uH _ _⟩,eU⟩
     ·have ga:(a==0)=false:=by simp[ha]
      have hT:T=r:=(by rw[mX.out];unfold gW;simp[h5,ha]);have bA:=af hT;clear hT;clear h2 h5 ha;go_upto_region 16 with (fail)
      clear c0 c6;obtain⟨c0,c1,c2,c3,c4,c5,c6,c7,c8,c9⟩:=c10 cM;obtain⟨r0,f0,r1,f1,r2,f2,r3,f3,eY,f4,jK,f5,lj,f6,kC,f7,lN,f8,ll,f9⟩:=nw bD;go_wp2_with fail;refine nx results81 bD mV (an6 _) rfl rfl fun hm eU=>?_
      rw[bA.out];exact⟨_,rfl,a_ _ hm,eU⟩
  ·have g5:(r.code==5)=false:=by simp[h5]
   by_cases h3:r.code=3
   ·have g3:(r.code==3)=true:=by simp[h3]
    cases A with
    | none =>
      cases B with
      | none =>
        have hT:T=r:=(by rw[mX.out];unfold gW;simp[h3]);have bA:=af hT;clear hT;clear h2 h5 h3;go_upto_region 16 with (fail)
        clear c0 c6;obtain⟨c0,c1,c2,c3,c4,c5,c6,c7,c8,c9⟩:=c10 cM;obtain⟨r0,f0,r1,f1,r2,f2,r3,f3,eY,f4,jK,f5,lj,f6,kC,f7,lN,f8,ll,f9⟩:=nw bD;go_wp2_with fail;refine nx results81 bD mV (an6 _) rfl rfl fun hm eU=>?_
        rw[bA.out];exact⟨_,rfl,a_ _ hm,eU⟩
      | some b =>
        by_cases hb:b=0
        ·subst hb
         by_cases ry:r.op=[43]
         ·have Mj:((⟨r.op.toArray⟩:ByteArray)==⟨#[43]⟩)=true:=by rw[ry];rfl
          have Gz:(r.op==[43])=true:=(by rw[ry];rfl);have hT:T=p_ r.dst r.a:=(by rw[mX.out];unfold gW;simp[h3,ry]);have bA:=af hT;clear hT;clear h2 h5 h3 ry;go_upto_region 13 with (fail)
          clear c0 c6;have c1:=cM.ah 1;have c2:=cM.ah 2;obtain⟨r0,f0,r1,f1,r2,f2,r3,f3,eY,f4,jK,f5,lj,f6,kC,f7,lN,f8,ll,f9⟩:=nw bD;go_wp2_with fail;refine nx results81 bD mV (an6 _) rfl rfl fun hm eU=>?_
          rw[bA.out];exact⟨_,rfl,⟨none,0,rfl,uH _ _⟩,eU⟩
         ·have Mj:((⟨r.op.toArray⟩:ByteArray)==⟨#[43]⟩)=false:=Ek (l:=[43]) ry
          have Gz:(r.op==[43])=false:=(by simpa using ry);by_cases Cr:r.op=[45]
          ·have aa6:((⟨r.op.toArray⟩:ByteArray)==⟨#[45]⟩)=true:=by rw[Cr];rfl
           have O1:(r.op==[45])=true:=(by rw[Cr];rfl);have hT:T=p_ r.dst r.a:=(by rw[mX.out];unfold gW;simp[h3,Cr]);have bA:=af hT;clear hT;clear h2 h5 h3 Cr;go_upto_region 13 with (fail)
           clear c0 c6;have c1:=cM.ah 1;have c2:=cM.ah 2;obtain⟨r0,f0,r1,f1,r2,f2,r3,f3,eY,f4,jK,f5,lj,f6,kC,f7,lN,f8,ll,f9⟩:=nw bD;go_wp2_with fail;refine nx results81 bD mV (an6 _) rfl rfl fun hm eU=>?_
           rw[bA.out];exact⟨_,rfl,⟨none,0,rfl,uH _ _⟩,eU⟩
          ·have aa6:((⟨r.op.toArray⟩:ByteArray)==⟨#[45]⟩)=false:=Ek (l:=[45]) Cr
           have O1:(r.op==[45])=false:=(by simpa using Cr);have hT:T=r:=(by rw[mX.out];unfold gW;simp[h3,ry,Cr]);have bA:=af hT;clear hT;clear h2 h5 h3;go_upto_region 16 with (fail)
           clear c0 c6;obtain⟨c0,c1,c2,c3,c4,c5,c6,c7,c8,c9⟩:=c10 cM;obtain⟨r0,f0,r1,f1,r2,f2,r3,f3,eY,f4,jK,f5,lj,f6,kC,f7,lN,f8,ll,f9⟩:=nw bD;go_wp2_with fail;refine nx results81 bD mV (an6 _) rfl rfl fun hm eU=>?_
           rw[bA.out];exact⟨_,rfl,a_ _ hm,eU⟩
        ·have Ix:(b==0)=false:=by simp[hb]
         by_cases hb1:b=1
         ·subst hb1
          by_cases rv:r.op=[42]
          ·have Mi:((⟨r.op.toArray⟩:ByteArray)==⟨#[42]⟩)=true:=by rw[rv];rfl
           have Gy:(r.op==[42])=true:=(by rw[rv];rfl);have hT:T=p_ r.dst r.a:=(by rw[mX.out];unfold gW;simp[h3,rv]);have bA:=af hT;clear hT;clear h2 h5 h3 rv;go_upto_region 13 with (fail)
           clear c0 c6;have c1:=cM.ah 1;have c2:=cM.ah 2;obtain⟨r0,f0,r1,f1,r2,f2,r3,f3,eY,f4,jK,f5,lj,f6,kC,f7,lN,f8,ll,f9⟩:=nw bD;go_wp2_with fail;refine nx results81 bD mV (an6 _) rfl rfl fun hm eU=>?_
           rw[bA.out];exact⟨_,rfl,⟨none,0,rfl,uH _ _⟩,eU⟩
          ·have Mi:((⟨r.op.toArray⟩:ByteArray)==⟨#[42]⟩)=false:=Ek (l:=[42]) rv
           have Gy:(r.op==[42])=false:=(by simpa using rv);by_cases Cs:r.op=[47]
           ·have aa7:((⟨r.op.toArray⟩:ByteArray)==⟨#[47]⟩)=true:=by rw[Cs];rfl
            have O2:(r.op==[47])=true:=(by rw[Cs];rfl);have hT:T=p_ r.dst r.a:=(by rw[mX.out];unfold gW;simp[h3,Cs]);have bA:=af hT;clear hT;clear h2 h5 h3 Cs;go_upto_region 13 with (fail)
            clear c0 c6;have c1:=cM.ah 1;have c2:=cM.ah 2;obtain⟨r0,f0,r1,f1,r2,f2,r3,f3,eY,f4,jK,f5,lj,f6,kC,f7,lN,f8,ll,f9⟩:=nw bD;go_wp2_with fail;refine nx results81 bD mV (an6 _) rfl rfl fun hm eU=>?_
            rw[bA.out];exact⟨_,rfl,⟨none,0,rfl,uH _ _⟩,eU⟩
           ·have aa7:((⟨r.op.toArray⟩:ByteArray)==⟨#[47]⟩)=false:=Ek (l:=[47]) Cs
            have O2:(r.op==[47])=false:=(by simpa using Cs);have hT:T=r:=(by rw[mX.out];unfold gW;simp[h3,rv,Cs]);have bA:=af hT;clear hT;clear h2 h5 h3;go_upto_region 16 with (fail)
            clear c0 c6;obtain⟨c0,c1,c2,c3,c4,c5,c6,c7,c8,c9⟩:=c10 cM;obtain⟨r0,f0,r1,f1,r2,f2,r3,f3,eY,f4,jK,f5,lj,f6,kC,f7,lN,f8,ll,f9⟩:=nw bD;go_wp2_with fail;refine nx results81 bD mV (an6 _) rfl rfl fun hm eU=>?_
            rw[bA.out];exact⟨_,rfl,a_ _ hm,eU⟩
         ·have alq:(b==1)=false:=by simp[hb1]
          have hT:T=r:=(by rw[mX.out];unfold gW;simp[h3,hb,hb1]);have bA:=af hT;clear hT;clear h2 h5 h3 hb hb1;go_upto_region 16 with (fail)
          clear c0 c6;obtain⟨c0,c1,c2,c3,c4,c5,c6,c7,c8,c9⟩:=c10 cM;obtain⟨r0,f0,r1,f1,r2,f2,r3,f3,eY,f4,jK,f5,lj,f6,kC,f7,lN,f8,ll,f9⟩:=nw bD;go_wp2_with fail;refine nx results81 bD mV (an6 _) rfl rfl fun hm eU=>?_
          rw[bA.out];exact⟨_,rfl,a_ _ hm,eU⟩
    | some a =>
      cases B with
      | none =>
        by_cases ha:a=0
        ·subst ha
         by_cases ry:r.op=[43]
         ·have Mj:((⟨r.op.toArray⟩:ByteArray)==⟨#[43]⟩)=true:=by rw[ry];rfl
          have Gz:(r.op==[43])=true:=(by rw[ry];rfl);have hT:T=p_ r.dst r.b:=(by rw[mX.out];unfold gW;simp[h3,ry]);have bA:=af hT;clear hT;clear h2 h5 h3 ry;go_upto_region 15 with (fail)
          clear c0 c6;have c1:=cM.ah 1;have c3:=cM.ah 3;obtain⟨r0,f0,r1,f1,r2,f2,r3,f3,eY,f4,jK,f5,lj,f6,kC,f7,lN,f8,ll,f9⟩:=nw bD;go_wp2_with fail;refine nx results81 bD mV (an6 _) rfl rfl fun hm eU=>?_
          rw[bA.out];exact⟨_,rfl,⟨none,0,rfl,uH _ _⟩,eU⟩
         ·have Mj:((⟨r.op.toArray⟩:ByteArray)==⟨#[43]⟩)=false:=Ek (l:=[43]) ry
          have Gz:(r.op==[43])=false:=(by simpa using ry);have hT:T=r:=(by rw[mX.out];unfold gW;simp[h3,ry]);have bA:=af hT;clear hT;clear h2 h5 h3;go_upto_region 16 with (fail)
          clear c0 c6;obtain⟨c0,c1,c2,c3,c4,c5,c6,c7,c8,c9⟩:=c10 cM;obtain⟨r0,f0,r1,f1,r2,f2,r3,f3,eY,f4,jK,f5,lj,f6,kC,f7,lN,f8,ll,f9⟩:=nw bD;go_wp2_with fail;refine nx results81 bD mV (an6 _) rfl rfl fun hm eU=>?_
          rw[bA.out];exact⟨_,rfl,a_ _ hm,eU⟩
        ·have ga:(a==0)=false:=by simp[ha]
         by_cases ha1:a=1
         ·subst ha1
          by_cases rv:r.op=[42]
          ·have Mi:((⟨r.op.toArray⟩:ByteArray)==⟨#[42]⟩)=true:=by rw[rv];rfl
           have Gy:(r.op==[42])=true:=(by rw[rv];rfl);have hT:T=p_ r.dst r.b:=(by rw[mX.out];unfold gW;simp[h3,rv]);have bA:=af hT;clear hT;clear h2 h5 h3 rv;go_upto_region 15 with (fail)
           clear c0 c6;have c1:=cM.ah 1;have c3:=cM.ah 3;obtain⟨r0,f0,r1,f1,r2,f2,r3,f3,eY,f4,jK,f5,lj,f6,kC,f7,lN,f8,ll,f9⟩:=nw bD;go_wp2_with fail;refine nx results81 bD mV (an6 _) rfl rfl fun hm eU=>?_
           rw[bA.out];exact⟨_,rfl,⟨none,0,rfl,uH _ _⟩,eU⟩
          ·have Mi:((⟨r.op.toArray⟩:ByteArray)==⟨#[42]⟩)=false:=Ek (l:=[42]) rv
           have Gy:(r.op==[42])=false:=(by simpa using rv);have hT:T=r:=(by rw[mX.out];unfold gW;simp[h3,rv]);have bA:=af hT;clear hT;clear h2 h5 h3;go_upto_region 16 with (fail)
           clear c0 c6;obtain⟨c0,c1,c2,c3,c4,c5,c6,c7,c8,c9⟩:=c10 cM;obtain⟨r0,f0,r1,f1,r2,f2,r3,f3,eY,f4,jK,f5,lj,f6,kC,f7,lN,f8,ll,f9⟩:=nw bD;go_wp2_with fail;refine nx results81 bD mV (an6 _) rfl rfl fun hm eU=>?_
           rw[bA.out];exact⟨_,rfl,a_ _ hm,eU⟩
         ·have alp:(a==1)=false:=by simp[ha1]
          have hT:T=r:=(by rw[mX.out];unfold gW;simp[h3,ha,ha1]);have bA:=af hT;clear hT;clear h2 h5 h3 ha ha1;go_upto_region 16 with (fail)
          clear c0 c6;obtain⟨c0,c1,c2,c3,c4,c5,c6,c7,c8,c9⟩:=c10 cM;obtain⟨r0,f0,r1,f1,r2,f2,r3,f3,eY,f4,jK,f5,lj,f6,kC,f7,lN,f8,ll,f9⟩:=nw bD;go_wp2_with fail;refine nx results81 bD mV (an6 _) rfl rfl fun hm eU=>?_
          rw[bA.out];exact⟨_,rfl,a_ _ hm,eU⟩
      | some b =>
        obtain⟨k,y,F7⟩:∃k y,dA r.op a b=(k,y):=⟨_,_,rfl⟩;have zk:=af (VO r.op a b aJ);rw[F7]at zk;unfold Ea str at zk;by_cases hy:y=0
        ·subst hy
         have hT:T=vD r.dst k:=(by rw[mX.out];unfold gW;simp[h3,F7]);have bA:=af hT;clear hT;clear h2 h5 h3 F7;go_upto_region 11 with (go_at_call 83;refine zk.mono ?_;rintro e w ⟨rfl,rfl⟩)
         clear c0 c6;have c1:=cM.ah 1;obtain⟨r0,f0,r1,f1,r2,f2,r3,f3,eY,f4,jK,f5,lj,f6,kC,f7,lN,f8,ll,f9⟩:=nw bD;go_wp2_with fail;refine nx results81 bD mV (an6 _) rfl rfl fun hm eU=>?_
         rw[bA.out];exact⟨_,rfl,⟨none,0,rfl,uH _ _⟩,eU⟩
        ·have alr:(y==0)=false:=by simp[hy]
         have hT:T=r:=(by rw[mX.out];unfold gW;simp[h3,F7,hy]);have bA:=af hT;clear hT;clear h2 h5 h3 F7 hy;go_upto_region 16 with (go_at_call 83;refine zk.mono ?_;rintro e w ⟨rfl,rfl⟩)
         clear c0 c6;obtain⟨c0,c1,c2,c3,c4,c5,c6,c7,c8,c9⟩:=c10 cM;obtain⟨r0,f0,r1,f1,r2,f2,r3,f3,eY,f4,jK,f5,lj,f6,kC,f7,lN,f8,ll,f9⟩:=nw bD;go_wp2_with fail;refine nx results81 bD mV (an6 _) rfl rfl fun hm eU=>?_
         rw[bA.out];exact⟨_,rfl,a_ _ hm,eU⟩
   ·have g3:(r.code==3)=false:=by simp[h3]
    have hT:T=r:=(by rw[mX.out];unfold gW;simp[h2,h5,h3]);have bA:=af hT;clear hT;clear h2 h5 h3;go_upto_region 16 with (fail)
    clear c0 c6;obtain⟨c0,c1,c2,c3,c4,c5,c6,c7,c8,c9⟩:=c10 cM;obtain⟨r0,f0,r1,f1,r2,f2,r3,f3,eY,f4,jK,f5,lj,f6,kC,f7,lN,f8,ll,f9⟩:=nw bD;go_wp2_with fail;refine nx results81 bD mV (an6 _) rfl rfl fun hm eU=>?_
    rw[bA.out];exact⟨_,rfl,a_ _ hm,eU⟩
def kt (W:World) (base:Nat) (S:Nat->Prop) (v:Value) (l:List ax):Prop:=∃cs,W.ownsRow base 57 10 v l.length cs/\mq W (fun k=>S k\/v.ownBlock=some k) cs l/\∀k,v.ownBlock=some k->¬S k
theorem kt.none_ (W:World) (base:Nat) (S:Nat->Prop):kt W base S (.slice none 0 0) []:=⟨[],World.ownsRow_nil _ _ _ _,fun i x hx=>by simp at hx,fun k hk=>by cases hk⟩
theorem kt.mods {W W':World} {S T:Nat->Prop} {base:Nat} {v:Value} {l:List ax} (h:kt W base S v l) (hm:ag T W W') (hT:∀k,T k->S k):kt W' base S v l:=by
 obtain⟨cs,h1,h2,h3⟩:=h;exact⟨cs,hm.ownsRow h1 (fun k hk ht=>h3 k hk (hT k ht)),h2.mods (hm.mono fun k _ ht=>Or.inl (hT k ht)) (fun _ _ k=>k),h3⟩
theorem kt.shift {S':Nat->Prop} (h:kt W base S v l) (hS:∀k,k<W.heap.size->S' k->S k):kt W base S' v l:=by
 obtain⟨cs,h1,h2,h3⟩:=h;refine⟨cs,h1,h2.mods ay (fun k hk ht=>ht.imp (hS k hk) id),fun k hk hs=>h3 k hk (hS k (h1.lt k hk).2 hs)⟩
theorem kt.form (h:kt W base S v l):∃aG aF,v=.slice aG l.length aF:=by
 obtain⟨cs,h1,_⟩:=h;exact slice_form h1
theorem Kk {w4 aJ:World} {S1:Nat->Prop} {v':Value} {cs:List Value} {x:ax} {av:Value} (h1:w4.ownsRow base 57 10 v l.length cs) (h2:mq w4 (fun k=>S k\/v.ownBlock=some k) cs l) (h3:∀k,v.ownBlock=some k->¬S k) (hx:dh w4 S1 av x.args) (hS1:∀k,S k\/v.ownBlock=some k->S1 k) (hS:∀k,S k->k<w4.heap.size)
 (hown:aJ.ownsRow base 57 10 v' (l.length+1) (cs++aY x av)) (hg:w4.grownBy aJ v.ownBlock) (hloc:v'.ownBlock=v.ownBlock\/v'.ownBlock=some w4.heap.size):kt aJ base S v' (l++[x]):=by
 have hm:ag (fun k=>v.ownBlock=some k) w4 aJ:=ag.of_grownBy hg (fun k hk _=>hk);have hT:∀k,k<w4.heap.size->S k\/v'.ownBlock=some k->S k\/v.ownBlock=some k:=fun k hk ht=>ht.imp id (fun e=>by
  rcases hloc with hl|hl
  ·rw[<-hl];exact e
  ·rw[hl]at e
   have:=anz e;omega)
 refine⟨cs++aY x av,by simpa using hown,?_,fun k hk hs=>?_⟩
 ·refine (h2.mods (hm.mono fun k _ e=>Or.inr e) hT).grow h1.1 ?_
  exact hx.mods (hm.mono fun k _ e=>hS1 k (Or.inr e)) (fun k hk ht=>hS1 k (hT k hk ht))
 ·rcases hloc with hl|hl
  ·exact h3 k (by rw[<-hl];exact hk) hs
  ·rw[hl]at hk
   have h5:=anz hk;have h6:=hS k hs;omega
theorem kt.at_ (h:kt W base S v l):jS W S v l:=by
 obtain⟨cs,h1,h2,dJ⟩:=h;rcases h1.2 with⟨hv,h0⟩|⟨g,cap,cur,hv,h3,h4,h5,h6,h7,h8⟩
 ·obtain rfl:l=[]:=anJ h0
  exact⟨none,0,hv,anC _,anC _,fun _=>rfl,fun i s hs=>by simp at hs⟩
 ·refine⟨_,cap,hv,h5,h6,(fun h=>by cases h),fun i s hs=>?_⟩
  obtain⟨av,k1,k2⟩:=h2 i s hs;have hc:∀k u,(aY s av)[k]?=some u->W.cell? ⟨g,0+i*10+k,none⟩=some u:=fun k u hk=>by
   have:=h1.cells (g:=g) (by rw[hv];rfl) (i*10+k) u (k1 k u hk);rw[add_plain]at this;rw[aoI];exact this
  exact⟨g,0,av,rfl,dJ g (by rw[hv];rfl),⟨hc 0 _ rfl,hc 1 _ rfl,hc 2 _ rfl,hc 3 _ rfl,hc 4 _ rfl,hc 5 _ rfl,hc 6 _ rfl,hc 7 _ rfl,hc 8 _ rfl,hc 9 _ rfl⟩,k2.mods ay (fun k _ hs=>Or.inl hs)⟩
theorem KF (x:ax) (aa:Option Addr) (n c:Nat):∀u∈aY x (.slice aa n c),u.oneCell'=true:=by
 intro u hu;unfold aY at hu;simp only[anW,an1,or_false]at hu;rcases hu with rfl|rfl|rfl|rfl|rfl|rfl|rfl|rfl|rfl|rfl <;> rfl
theorem G0 (W:World) (cs:List Value) (e:TypeId):∀j u,cs[j]?=some u->(W.alloc (.cells cs.toArray e)).cell? ((⟨W.heap.size,0,none⟩:Addr).add j)=some u:=by
 intro j u hj;rw[add_plain,an9];exact (aw.new W cs.toArray e).cell (by simpa using hj)
theorem Mt {n p t u:Value} (h0:aw wr q [n,p,t,u] 55) (h1:aw wr (q+1) [z0,cS,z2,z3] 55) (ov:Value) :
 aw (((((wr.setCell ⟨q,3,none⟩ ov).setCell ⟨q+1,0,none⟩ n).setCell ⟨q+1,1,none⟩ p).setCell ⟨q+1,2,none⟩ t).setCell ⟨q+1,3,none⟩ ov) (q+1) [n,p,t,ov] 55 /\
 ag (fun k=>k=q\/k=q+1) wr (((((wr.setCell ⟨q,3,none⟩ ov).setCell ⟨q+1,0,none⟩ n).setCell ⟨q+1,1,none⟩ p).setCell ⟨q+1,2,none⟩ t).setCell ⟨q+1,3,none⟩ ov):=by
 have hm:=fN wr q 3 ov;have h2:=h1.mods hm (by omega);refine⟨(((h2.set 0 n).set 1 p).set 2 t).set 3 ov,(hm.mono fun _ _ e=>Or.inl e).trans (ag.mono ((((fN _ (q+1) 0 n).trans (fN _ _ 1 p)).trans (fN _ _ 2 t)).trans (fN _ _ 3 ov)) fun _ _ e=>Or.inr e)⟩
theorem afD (f:ar) (fv:Value) (W:World) (hv:jc W ai f fv) (iE:∀s∈f.steps,b9 s.label) (hlen:f.steps.length<=6000) :
 Calls prog 106 #[fv] W fun e w=>∃aQ n,e=.returned (.map (some aQ))/\fw w aQ n (.int .i64 0) (fun l=>.int .i64 (fq f.steps l 0 0))/\W.heap.size<=aQ/\n<=6000/\ag ai W w:=by
 obtain⟨ta,tc,sa,sc,rfl,hT,hS⟩:=hv;have oD:=af (fun (w:World) (hm:ag (fun k=>¬k<W.heap.size) W w)=>(hS.mods (ag.refl ai W) (fun k h1 h2=>(h2 h1).elim)).mods hm (fun k h1 h2=>h2.elim) (T:=ai));obtain⟨W2,hW2⟩:=aq (W.alloc (.cells #[str f.name,f.params,.slice ta f.types.length tc,.slice sa f.steps.length sc] 55));have aN:ag ai W W2:=by rw[hW2];exact ay.alloc _
 have mB:aw W2 W.heap.size [str f.name,f.params,.slice ta f.types.length tc,.slice sa f.steps.length sc] 55:=by rw[hW2];exact aw.new W _ _
 have hs2:W2.heap.size=W.heap.size+1:=by rw[hW2];simp
 have hsl:f.steps.length<=sc/\sc<=9223372036854775807:=by
  obtain⟨a',c',e1,e2,e3,-⟩:=hS.form;obtain⟨-,-,rfl⟩:=Value.slice.inj e1;exact⟨e2,e3⟩
 have l6:=VQ;have pR:=af iE;obtain⟨sn,dG⟩:=aq (f.steps.length);have aT:=af dG;have iT:=af hlen;rw[<-dG]at hW2 mB hsl;obtain⟨tn,dL⟩:=aq (f.types.length);rw[<-dL]at hW2 mB;rw[<-dL,<-dG];have f3:=mB.ah 3;have bY:=af (anw mB (anw aN hs2));clear hT hS iE hlen dG dL mB aN hs2;unfold str at *;go_in;go_upto_region 1 with (fail)
 rw[<-hW2];clear hW2;go_upto_region 2 with (fail)
 obtain⟨dz,g_⟩:=aq (W2.alloc (.map #[] 0));have dV:Hid (ag ai W dz):=af (bY.2.1.trans (by rw[g_];exact ay.alloc _));have dE:Hid (fw dz W2.heap.size 0 (.int .i64 0) (fun l=>.int .i64 (fq (f.steps.take 0) l 0 0))):=af (by rw[g_];exact fw.new W2 _);have f3:dz.cell? ⟨W.heap.size,3,none⟩=some (.slice sa sn sc):=by rw[g_];exact ((ag.refl ai W2).alloc _).cellOf f3 id
 rw[<-g_];obtain⟨aQ,jr⟩:=aq (W2.heap.size);rw[<-jr]at dE ⊢;have lV:Hid (W.heap.size+1=aQ):=af (by rw[jr,bY.2.2]);clear g_ jr l6;go_wp2_with fail;clear f3
 go_loopw [4,5,10] (fun _ _ iv wr=>∃ (i n:Nat),i<=sn/\iv=.int .i64 i/\n<=i/\Hid (fw wr aQ n (.int .i64 0) (fun l=>.int .i64 (fq (f.steps.take i) l 0 0)))/\Hid (ag (·=aQ) dz wr)) (fun _ _ iv _=>(sn-intOf iv).toNat)
 case atStart=>exact⟨0,0,anC _,rfl,anD _,dE,af ay⟩
 case round =>
  clear dE;obtain⟨i,n,hi,rfl,hn,dE,gY⟩:=hrel;by_cases hlt:i<sn
  ·have bm:i<f.steps.length:=by have:=aT.out;omega
   have uA:ag (fun k=>¬k<W.heap.size) W wr:=(dV.mono fun _ _ f=>f.elim).trans (gY.mono fun k _ e=>by have:=lV.out;omega);obtain⟨g,o,aa,ac,rfl,hcs,-⟩:=(oD wr uA).get bm;obtain⟨y,nP⟩:∃y,f.steps[i]?=some y:=⟨_,anx bm⟩;have uG:f.steps[i]=y:=by
        obtain⟨h1,h2⟩:=anA.1 nP;exact h2
   rw[uG]at hcs;obtain⟨c0,c1,c2,c3,c4,c5,c6,c7,c8,c9⟩:=hcs;have gy:=pR.out y (anF nP);have cA:(i:Int)<(sn:Int):=(by omega);have oW:i<6000:=(by have:=aT.out;have:=iT.out;omega);obtain⟨an,eT⟩:=aq (y.args.length);rw[<-eT]at c9;have rU:=af (fun l=>Vx nP l);obtain⟨cD,cN⟩:=aq (wr.alloc (.cells (#[.int .i64 y.code,.int .i64 y.dst,.int .i64 y.a,.int .i64 y.b,.int .i64 y.c,.int .i64 y.n,str y.op,.int .i64 y.label,str y.name,.slice aa an ac]) 57));have bM:ag ai wr cD:=(by rw[cN];exact ay.alloc _);have j_:aw cD wr.heap.size [y.code,y.dst,y.a,y.b,y.c,y.n,str y.op,y.label,str y.name,.slice aa an ac] 57:=(by rw[cN];exact aw.new wr _ _);have d0:=j_.ah 0;have d7:=j_.ah 7;have x6:Hid (ag (·=aQ) dz cD):=af (gY.trans (bM.mono fun _ _ f=>f.elim));obtain⟨bw,hu,ri,bG⟩:=(dE.mods bM id).put (t:=120) underlying120 gy (.int .i64 i) (by unfold maxLen;omega);have eL:Hid (ag (·=aQ) dz bw):=af (x6.trans bG);unfold str at *;clear nP uG eT bm uA;by_cases h6:y.code=6
   ·rw[h6]at d0 c0 cN
    have u7:Hid (fw bw aQ (n+1) (.int .i64 0) (fun l=>.int .i64 (fq (f.steps.take (i+1)) l 0 0))):=af (by
     have e:(fun x=>if x=y.label then Value.int .i64 (i:Int) else Value.int .i64 (fq (f.steps.take i) x 0 0))=(fun l=>.int .i64 (fq (f.steps.take (i+1)) l 0 0)):=by
       funext l;rw[rU.out l];by_cases h:l=y.label
       ·rw[if_pos h,if_pos ⟨h6,h.symm⟩]
       ·rw[if_neg h,if_neg (fun k=>h k.2.symm)]
     rw[e]at ri;exact ri)
    have gA:=af h6;clear ri bG j_ bM gy dE h6;go_upto_region 5 with (fail)
    rw[<-cN];clear cN;go_wp2_with fail;exact⟨⟨i+1,n+1,by omega,by go_num,by omega,u7,eL⟩,by simp[intOf];omega⟩
   ·have yq:(y.code==6)=false:=by simpa using h6
    have u7:Hid (fw cD aQ n (.int .i64 0) (fun l=>.int .i64 (fq (f.steps.take (i+1)) l 0 0))):=af (by
     have e:(fun l=>Value.int .i64 ((fq (f.steps.take (i+1)) l 0 0:Nat):Int))=(fun l=>.int .i64 (fq (f.steps.take i) l 0 0)):=by
      funext l;rw[rU.out l,if_neg (fun k=>h6 k.1)]
     rw[e];exact dE.mods bM id)
    clear hu ri bG j_ bM gy dE eL;go_upto_region 5 with (fail)
    rw[<-cN];clear cN;go_wp2_with fail;exact⟨⟨i+1,n,by omega,by go_num,by omega,u7,x6⟩,by simp[intOf];omega⟩
  ·obtain rfl:i=sn:=by omega
   have cA:¬(i:Int)<(i:Int):=(by omega);have bb:Hid (fw wr aQ n (.int .i64 0) (fun l=>.int .i64 (fq f.steps l 0 0))):=af (by
        have:=dE.out;rwa [anN (by have:=aT.out;omega)]at this)
   have jf:=af (show n<=6000 by have:=aT.out;have:=iT.out;omega);go_wp2_with fail;go_ret;exact⟨aQ,rfl,n,bb,by have:=lV.out;omega,jf,dV.trans' gY (fun k e hlt=>by have:=lV.out;omega)⟩
theorem Ox {l:List Int} (h:aw W g (l.map (Value.int .i64)) 3) (hl:l.length<=1000) (hg:¬S g):dh W S (.slice (some ⟨g,0,none⟩) l.length l.length) l :=
 ⟨_,_,rfl,anD _,by unfold maxLen;omega,(fun h=>by cases h),fun i x hx=>⟨g,0,rfl,hg,by
  rw[an9];exact h.cell (by simp[hx])⟩⟩
theorem Fj (W:World) (o:Obj) (cs:Array Value) (e:TypeId):aw ((W.alloc o).alloc (.cells cs e)) (W.heap.size+1) cs.toList e:=by
 have:=aw.new (W.alloc o) cs e;simpa using this
theorem akp (s:ax) (v:Value) (S:Nat->Prop) (W:World) (h:dF W S s v) (hlen:s.args.length<=1000000) :
 Calls prog 108 #[v] W fun e w=>∃v',e=.returned v'/\dh w (fun k=>k<W.heap.size) v' (jb s)/\ag ai W w:=by
 obtain⟨aa,ac,rfl,cC⟩:=h;obtain⟨ba,kD,bL,ib,fY,xn,d_,fJ,fO,xs⟩:=s;obtain⟨an,eT⟩:=aq (xs.length);simp only at cC hlen ⊢;have lI:=fun (w:World) (hm:ag ai W w)=>R_ (cC.mods (hm.mono fun _ _ f=>f.elim) (fun _ _ k=>k)) hlen
 have lx:=af lI;have nD:=af eT;rw[<-eT]at lx ⊢;clear eT cC lI hlen;unfold jb;simp only;unfold aY str;by_cases hc:ba=2\/ba=5\/ba=8\/ba=9\/ba=10\/ba=13
 ·rw[if_pos hc]
  rcases hc with rfl|rfl|rfl|rfl|rfl|rfl
  all_goals
   go_in;go_wp2_with fail;go_ret;exact⟨_,rfl,Ox (l:=[bL]) (Fj _ _ _ _) (by simp) (by omega),(ay.alloc _).alloc _⟩
 ·rw[if_neg hc]
  by_cases h3:ba=3\/ba=11
  ·rw[if_pos h3]
   clear hc;rcases h3 with rfl|rfl
   all_goals
     go_in;go_wp2_with fail;go_ret;exact⟨_,rfl,Ox (l:=[bL,ib]) (Fj _ _ _ _) (by simp) (by omega),(ay.alloc _).alloc _⟩
  ·rw[if_neg h3]
   by_cases fM:ba=12
   ·rw[if_pos fM]
    subst fM;clear hc h3;go_in;go_wp2_with fail;go_ret;exact⟨_,rfl,Ox (l:=[bL,ib,fY]) (Fj _ _ _ _) (by simp) (by omega),(ay.alloc _).alloc _⟩
   ·rw[if_neg fM]
    by_cases h7:ba=7
    ·rw[if_pos h7]
     subst h7;clear hc h3 fM;obtain⟨W1,hW1⟩:=aq (W.alloc (.cells #[.int .i64 7,kD,bL,ib,fY,xn,.string ⟨d_.toArray⟩,fJ,.string ⟨fO.toArray⟩,.slice aa an ac] 57));have aO:ag ai W W1:=(by rw[hW1];exact ay.alloc _);have hb1:aw W1 W.heap.size [.int .i64 7,kD,bL,ib,fY,xn,.string ⟨d_.toArray⟩,fJ,.string ⟨fO.toArray⟩,.slice aa an ac] 57:=(by rw[hW1];exact aw.new W _ _);have d0:=hb1.ah 0;have d9:=hb1.ah 9;have aU:=af (lx W1 aO);have aD:=af aO;clear aO hb1 lx;go_in;go_upto_region 1 with (fail)
     rw[<-hW1];clear hW1;go_wp2_with fail;refine aU.mono ?_;rintro e w ⟨v',rfl,hown,hm⟩;have b6:=af (anw hown hm);clear hown hm aU d0 d9;go_wp2_with fail;go_ret;have ho:=b6.1;rw[nD.out]at ho;exact⟨_,rfl,DT ho (fun k hk h=>by have h1:=(ho.lt k hk).1;have h2:=aD.size;omega),aD.trans b6.2⟩
    ·rw[if_neg h7]
     have g2:(ba==2)=false:=(by simp;omega);have g5:(ba==5)=false:=(by simp;omega);have g8:(ba==8)=false:=(by simp;omega);have g9:(ba==9)=false:=(by simp;omega);have g10:(ba==10)=false:=(by simp;omega);have g13:(ba==13)=false:=(by simp;omega);have g3:(ba==3)=false:=(by simp;omega);have g11:(ba==11)=false:=(by simp;omega);have g12:(ba==12)=false:=(by simp;omega);have g7:(ba==7)=false:=(by simp;omega);clear hc h3 fM h7;go_in;go_wp2_with fail;go_ret;exact⟨_,rfl,uH _ _,ay.alloc _⟩
theorem aca (f:ar) (i:Nat):(ic f i).length<=2:=by
 unfold ic;split
 ·simp
 ·split <;> split <;> simp
theorem ace {fv:Value} (hv:jc W S F fv) {aQ:Nat} (iE:fw W aQ n (.int .i64 0) (fun l=>.int .i64 (fq F.steps l 0 0))) (qd:∀s∈F.steps,b9 s.label) (hlen:F.steps.length<=6000) (hi:i<F.steps.length) :
 Calls prog 107 #[fv,.map (some aQ),i] W fun e w=>∃v',e=.returned v'/\dh w (fun k=>k<W.heap.size) v' ((ic F i).map Int.ofNat)/\ag ai W w:=by
 obtain⟨ta,tc,sa,sc,rfl,hZ,hst⟩:=hv;obtain⟨x,cU⟩:∃x,F.steps[i]?=some x:=⟨_,anx hi⟩;have iF:F.steps[i]=x:=by
  obtain⟨h1,h2⟩:=anA.1 cU;exact h2
 have fp:x∈F.steps:=anF cU;obtain⟨gs,os,bL,ba,rfl,hcs,ld⟩:=hst.get hi;rw[iF]at hcs ld;obtain⟨jN,y1,fB,jA,l_,mP,lQ,ny,ma,jO⟩:=hcs;obtain⟨W1,hW1⟩:=aq (W.alloc (.cells #[str F.name,F.params,.slice ta F.types.length tc,.slice (some ⟨gs,os,none⟩) F.steps.length sc] 55));obtain⟨xn,dM⟩:=aq (x.args.length);obtain⟨W2,hW2⟩:=aq (W1.alloc (.cells (aY x (.slice bL xn ba)).toArray 57));have aO:ag ai W W1:=by rw[hW1];exact ay.alloc _
 have hb1:aw W1 W.heap.size [str F.name,F.params,.slice ta F.types.length tc,.slice (some ⟨gs,os,none⟩) F.steps.length sc] 55:=by rw[hW1];exact aw.new W _ _
 have aN:ag ai W1 W2:=by rw[hW2];exact ay.alloc _
 have hb2:aw W2 W1.heap.size (aY x (.slice bL xn ba)) 57:=by rw[hW2];exact aw.new W1 _ _
 have hlk:=(iE.mods (aO.trans aN) id).look (t:=120) underlying120 (e:=3) (by kernel_rfl) (qd x fp);obtain⟨lm,yA⟩:=aq (fq F.steps x.label 0 0);rw[<-yA]at hlk;have ad0:lm<=6000:=by rw[yA];exact OU _ _ _ _ _ (by omega) (by omega)
 obtain⟨sn,dG⟩:=aq (F.steps.length);obtain⟨tn,dL⟩:=aq (F.types.length);rw[<-dM]at jO;rw[<-dG,<-dL]at hW1 hb1;rw[<-dL];rw[<-dG];have b3:=(hb1.mods aN id).ah 3;have Z2:=hb1.ah 3;have jN:=aO.cellOf jN id;have y1:=aO.cellOf y1 id;have fB:=aO.cellOf fB id;have jA:=aO.cellOf jA id;have l_:=aO.cellOf l_ id;have mP:=aO.cellOf mP id;have lQ:=aO.cellOf lQ id;have ny:=aO.cellOf ny id;have ma:=aO.cellOf ma id;have jO:=aO.cellOf jO id;have d0:=hb2.ah 0;have d7:=hb2.ah 7;have cA:(i:Int)<(sn:Int):=by omega
 have I_:i<6000:=by omega
 have iD:(sn:Int)<=6000:=by omega
 obtain⟨R,hR⟩:=aq ((ic F i).map Int.ofNat);have aP:Hid (R=((if x.code=4\/x.code=5 then [(lm:Int)] else [])++(if x.code≠4/\x.code≠8/\i+1<sn then [((i:Int)+1)] else []))):=af (by
  rw[hR,dG];unfold ic jD;rw[cU,yA];simp only;split <;> split <;> simp)
 rw[<-hR];have bJ:=af (aO.trans aN);clear cU iF fp ld aO hb1 aN hb2 iE qd hlen hi yA dG dL dM hR hZ hst;unfold aY str at *;go_in;go_upto_region 1 with (fail)
 rw[<-hW1];clear hW1;go_upto_region 3 with (fail)
 rw[<-hW2];clear hW2 jN y1 fB jA l_ mP lQ ny ma jO Z2;obtain⟨i0,gw,hz0,hz1,hz2⟩:=info_parts JM;have aI:=af (anw gw (anw hz0 (anw hz1 hz2)));have qJ:Hid (W.heap.size<=W2.heap.size):=af bJ.size;have FU:=fun (w:World) (a:Int)=>Cu w (.int .i64 a) 3
 have oG:=af FU;clear gw hz0 hz1 hz2 FU;by_cases h4:x.code=4
 ·have g4:(x.code==4)=true:=by simp[h4]
  have Gx:(x.code != 4)=false:=by simp[h4]
  have n8:(x.code != 8)=true:=by simp[h4]
  have g8:(x.code==8)=false:=by simp[h4]
  have bj:=af h4;clear h4;go_wp2_with (at_builtin;refine wpList_append_own_at _ rfl (.tmp 22) (.tmp 27) 52 rfl W.heap.size 3 i0 _ 1 8 underlying52 aI.1 aI.2.1 aI.2.2.1 aI.2.2.2 rfl (by decide) (.slice none 0 0) 0 [] rfl (World.ownsRow_nil _ _ _ _) ⟨W2.heap.size,0,none⟩ 1 1 [lm] rfl rfl (oG W2 lm) (ints_oneCell .i64 [(lm:Int)]) (by decide) (by decide) (by have:=qJ.out;simp;omega) ?_;intro v' a7 hown cr hnil hloc;have b6:=af hown;have bZ:=af cr;clear hown cr hnil hloc;refine Hid.out ?_);refine af ?_;obtain⟨bg,br,rfl⟩:=slice_form b6;have mE:ag ai W2 a7:=((ag.refl _ W2).alloc _).trans (ag.of_grownBy bZ (fun k hk _=>by simp[Value.ownBlock]at hk));have b3:=mE.cellOf b3 id;have d0:=mE.cellOf d0 id;have f_:=af mE;clear mE;go_wp2_with fail;go_ret;rw[aP.out];refine⟨_,rfl,?_,bJ.trans f_⟩;rw[if_pos (Or.inl bj.out),if_neg (fun h=>h.1 bj.out)];exact DT (l:=[(lm:Int)]) b6 (fun k hk h=>by have h1:=(b6.lt k hk).1;omega)
 ·have g4:(x.code==4)=false:=by simp[h4]
  have Gx:(x.code != 4)=true:=by simp[h4]
  by_cases h5:x.code=5
  ·have g5:(x.code==5)=true:=by simp[h5]
   have g8:(x.code==8)=false:=(by simp[h5]);have n8:(x.code != 8)=true:=(by simp[h5]);have dR:=af h5;clear h4 h5;go_wp2_with (at_builtin;refine wpList_append_own_at _ rfl (.tmp 22) (.tmp 27) 52 rfl W.heap.size 3 i0 _ 1 8 underlying52 aI.1 aI.2.1 aI.2.2.1 aI.2.2.2 rfl (by decide) (.slice none 0 0) 0 [] rfl (World.ownsRow_nil _ _ _ _) ⟨W2.heap.size,0,none⟩ 1 1 [lm] rfl rfl (oG W2 lm) (ints_oneCell .i64 [(lm:Int)]) (by decide) (by decide) (by have:=qJ.out;simp;omega) ?_;intro v' a7 hown cr hnil hloc;have b6:=af hown;have bZ:=af cr;clear hown cr hnil hloc;refine Hid.out ?_);refine af ?_;obtain⟨bg,br,rfl⟩:=slice_form b6;have mE:ag ai W2 a7:=((ag.refl _ W2).alloc _).trans (ag.of_grownBy bZ (fun k hk _=>by simp[Value.ownBlock]at hk));have b3:=mE.cellOf b3 id;have d0:=mE.cellOf d0 id;have f_:=af mE;clear mE;by_cases hn:i+1<sn
   ·have la:(i:Int)+1<(sn:Int):=by omega
    have fR:=af (b6.alloc (.cells #[.int .i64 ((i:Int)+1)] 3));go_wp2_with (at_builtin;refine wpList_append_own_at _ rfl (.tmp 45) (.tmp 48) 52 rfl W.heap.size 3 i0 _ 1 8 underlying52 aI.1 aI.2.1 aI.2.2.1 aI.2.2.2 rfl (by decide) (.slice bg 1 br) 1 [lm] rfl fR ⟨a7.heap.size,0,none⟩ 1 1 [.int .i64 ((i:Int)+1)] rfl rfl (oG a7 _) (ints_oneCell .i64 [(i:Int)+1]) (by decide) (by decide) (by have:=qJ.out;have:=f_.size;simp;omega) ?_;intro v' fW hown cr hnil hloc;have QS:=af hown;have Yl:=af cr;clear hown cr hnil hloc);go_ret;rw[aP.out];have gT:ag ai W fW:=((bJ.trans f_).trans ((ag.refl _ a7).alloc (.cells #[.int .i64 ((i:Int)+1)] 3))).trans' (ag.of_grownBy (S:=fun k=>(Value.slice bg 1 br).ownBlock=some k) Yl (fun k hk _=>hk)) (fun k hk hl=>by have:=(fR.lt k hk).1;omega);refine⟨_,rfl,?_,gT⟩;rw[if_pos (Or.inr dR.out),if_pos ⟨by have:=dR.out;omega,by have:=dR.out;omega,by omega⟩];exact DT (l:=[(lm:Int),(i:Int)+1]) QS (fun k hk h=>by have h1:=(QS.lt k hk).1;omega)
   ·have la:¬(i:Int)+1<(sn:Int):=by omega
    go_wp2_with fail;go_ret;rw[aP.out];refine⟨_,rfl,?_,bJ.trans f_⟩;rw[if_pos (Or.inr dR.out),if_neg (fun h=>hn h.2.2)];exact DT (l:=[(lm:Int)]) b6 (fun k hk h=>by have h1:=(b6.lt k hk).1;omega)
  ·have g5:(x.code==5)=false:=by simp[h5]
   have Hl:Hid (¬(x.code=4\/x.code=5)):=af (by omega);by_cases h8:x.code=8
   ·have g8:(x.code==8)=true:=by simp[h8]
    have n8:(x.code != 8)=false:=(by simp[h8]);have Hm:=af h8;clear h4 h5 h8;go_wp2_with fail;go_ret;rw[aP.out];refine⟨_,rfl,?_,bJ⟩;rw[if_neg Hl.out,if_neg (fun h=>h.2.1 Hm.out)];exact uH _ _
   ·have g8:(x.code==8)=false:=by simp[h8]
    have n8:(x.code != 8)=true:=(by simp[h8]);have X6:=af h8;by_cases hn:i+1<sn
    ·have la:(i:Int)+1<(sn:Int):=by omega
     clear h5 h8;go_wp2_with (at_builtin;refine wpList_append_own_at _ rfl (.tmp 45) (.tmp 48) 52 rfl W.heap.size 3 i0 _ 1 8 underlying52 aI.1 aI.2.1 aI.2.2.1 aI.2.2.2 rfl (by decide) (.slice none 0 0) 0 [] rfl (World.ownsRow_nil _ _ _ _) ⟨W2.heap.size,0,none⟩ 1 1 [.int .i64 ((i:Int)+1)] rfl rfl (oG W2 _) (ints_oneCell .i64 [(i:Int)+1]) (by decide) (by decide) (by have:=qJ.out;simp;omega) ?_;intro v' a7 hown cr hnil hloc;have b6:=af hown;have bZ:=af cr;clear hown cr hnil hloc);go_ret;rw[aP.out];refine⟨_,rfl,?_,bJ.trans (((ag.refl _ W2).alloc _).trans (ag.of_grownBy bZ (fun k hk _=>by simp[Value.ownBlock]at hk)))⟩;rw[if_neg Hl.out,if_pos ⟨by have:=Hl.out;omega,X6.out,by omega⟩];exact DT (l:=[(i:Int)+1]) b6 (fun k hk h=>by have h1:=(b6.lt k hk).1;omega)
    ·have la:¬(i:Int)+1<(sn:Int):=by omega
     clear h4 h5 h8;go_wp2_with fail;go_ret;rw[aP.out];refine⟨_,rfl,?_,bJ⟩;rw[if_neg Hl.out,if_neg (fun h=>hn h.2.2)];exact uH _ _
def tM (tn r:Nat):Value:=.slice (some ⟨r,0,none⟩) tn tn
def uj (tn:Nat) (X:Nat->Bool):List Value:=(List.range tn).map fun p=>.bool (X p)
def y9 (X:Nat->Nat->Bool) (i p:Nat):Nat->Nat->Bool:=fun j q=>if j=i/\q=p then true else X j q
structure pY (W:World) (g:Nat) (R:List Nat) (tn:Nat) (X:Nat->Nat->Bool):Prop where
 blk:aw W g (R.map (tM tn)) 173
 row:∀i r,R[i]?=some r->aw W r (uj tn (X i)) 4
 Me:R.Nodup
 out:g ∉ R
theorem pY.mods {W W':World} {S:Nat->Prop} {g:Nat} {R:List Nat} {tn:Nat} {X:Nat->Nat->Bool} (h:pY W g R tn X) (hm:ag S W W') (h1:¬S g) (h2:∀r∈R,¬S r):pY W' g R tn X :=
 ⟨h.blk.mods hm h1,fun i r hr=>(h.row i r hr).mods hm (h2 r (anF hr)),h.Me,h.out⟩
theorem pY.sl (h:pY W g R tn X) (hr:R[i]?=some r):W.cell? ⟨g,i,none⟩=some (.slice (some ⟨r,0,none⟩) tn tn):=h.blk.cell (by rw[anV,hr];rfl)
theorem pY.bit (h:pY W g R tn X) (hr:R[i]?=some r) (hp:p<tn):W.cell? ⟨r,p,none⟩=some (.bool (X i p))/\W.frozen? ⟨r,p,none⟩=false :=
 ⟨(h.row i r hr).cell (by unfold uj;rw[anV,aoM hp];rfl),(h.row i r hr).free p⟩
theorem pY.set {W:World} {g:Nat} {R:List Nat} {tn:Nat} {X:Nat->Nat->Bool} (h:pY W g R tn X) {i:Nat} {r:Nat} (hr:R[i]?=some r) {p:Nat} (hp:p<tn):pY (W.setCell ⟨r,p,none⟩ (.bool true)) g R tn (y9 X i p)/\ag (·=r) W (W.setCell ⟨r,p,none⟩ (.bool true)):=by
 have hm:=fN W r p (.bool true);have yI:=anF hr;refine⟨⟨h.blk.mods hm (fun e=>h.out (e ▸ yI)),fun j r' Ag=>?_,h.Me,h.out⟩,hm⟩;by_cases hj:j=i
 ·subst hj
  rw[hr]at Ag;obtain rfl:=anz Ag;have h1:=(h.row j r hr).set p (.bool true);have e:(uj tn (X j)).set p (.bool true)=uj tn (y9 X j p j):=by
   unfold uj y9;apply List.ext_getElem?;intro q;by_cases hq:q=p
   ·subst hq
    rw[aok (by simpa using hp),anV,aoM hp];simp
   ·rw[aoe (fun e=>hq e.symm),anV,anV]
    cases lK:(List.range tn)[q]? with
    | none=>rfl
    | some y =>
      have:y=q:=by
       obtain⟨a,b⟩:=anA.1 lK;simpa using b.symm
      subst this;simp[hq]
  rw[e]at h1;exact h1
 ·have hne:r'≠r:=by
   intro e;subst e;obtain⟨a1,b1⟩:=anA.1 hr;obtain⟨a2,b2⟩:=anA.1 Ag;have hp:=aos.1 h.Me;rcases Nat.lt_or_gt_of_ne hj with hlt|hlt
   ·exact hp j i a2 a1 hlt (b2.trans b1.symm)
   ·exact hp i j a1 a2 hlt (b1.trans b2.symm)
  have e:y9 X i p j=X j:=by
   funext q;unfold y9;simp[hj]
  rw[e];exact (h.row j r' Ag).mods hm hne
def JN:Value->Bool
 | .bool false=>true
 | _=>false
def Az (W:World) (r:Nat):Nat:=match W.heap[r]? with
 | some (.cells cs _ _)=>cs.toList.countP JN
 | _=>0
def r8 (W:World) (R:List Nat):Nat:=(R.map (Az W)).sum
theorem Mn {W W':World}:(R:List Nat)->(∀r∈R,W'.heap[r]?=W.heap[r]?)->r8 W' R=r8 W R
 | [],_=>rfl
 | r::R,h=>by
   have ih:=Mn (W:=W) (W':=W') R (fun x hx=>h x (by simp[hx]));unfold r8 at *;simp only[aow,List.sum_cons,ih];unfold Az;rw[h r (by simp)]
theorem countP_set (l:List Value) (p:Nat) (h:l[p]?=some (.bool false)):(l.set p (.bool true)).countP JN<l.countP JN:=by
 induction l generalizing p with
 | nil=>simp at h
 | cons a r ih =>
   cases p with
   | zero =>
     simp only[anO,anG]at h;subst h;simp[List.countP_cons,JN]
   | succ p =>
     have:=ih p (by simpa using h);simp only[List.set_cons_succ,List.countP_cons];omega
theorem Mo {W:World} {r p:Nat} {cs:List Value} {t:TypeId} (hb:aw W r cs t) (hc:cs[p]?=some (.bool false)):(R:List Nat)->R.Nodup->r∈R->r8 (W.setCell ⟨r,p,none⟩ (.bool true)) R<r8 W R
 | [],_,h=>by cases h
 | x::R,hd,h=>by
   have hm:=fN W r p (.bool true);have j4:=List.nodup_cons.1 hd;have hlt:∀y,y≠r->(W.setCell ⟨r,p,none⟩ (.bool true)).heap[y]?=W.heap[y]?:=fun y hy=>by
    simp[World.setCell,Array.getElem?_modify,Ne.symm hy]
   by_cases hx:x=r
   ·subst hx
    have e1:=Mn (W:=W) (W':=W.setCell ⟨x,p,none⟩ (.bool true)) R (fun y hy=>hlt y (fun e=>j4.1 (e ▸ hy)));unfold r8 at *;simp only[aow,List.sum_cons,e1];have h2:Az (W.setCell ⟨x,p,none⟩ (.bool true)) x<Az W x:=by
        unfold Az;have hs:=hb.set p (.bool true);unfold aw at hs hb;rw[hs,hb];simpa using countP_set cs p hc
    omega
   ·have hr:r∈R:=by
        rcases anW.1 h with e|e
        ·exact absurd e.symm hx
        ·exact e
    have ih:=Mo hb hc R j4.2 hr;unfold r8 at *;simp only[aow,List.sum_cons];have e2:Az (W.setCell ⟨r,p,none⟩ (.bool true)) x=Az W x:=by
        unfold Az;rw[hlt x hx]
    omega
theorem abK {W':World} (hm:ag S W W') (hR:∀r∈R,r<W.heap.size/\¬S r):r8 W' R=r8 W R:=Mn R (fun r hr=>hm.block r (hR r hr).1 (hR r hr).2)
structure vq where
 fH:Nat
 im:Nat
 e8:List Nat
 e7:List Nat
 aQ:Nat
 n:Nat
structure x8 (W:World) (F:ar) (fs:List Value) (E:vq) (B A:Nat->Nat->Bool) (wr:World):Prop where
 b:pY wr E.fH E.e8 F.types.length B
 a:pY wr E.im E.e7 F.types.length A
 lb:E.e8.length=F.steps.length
 jx:E.e7.length=F.steps.length
 uM:(E.e8++E.e7).Nodup
 ga:E.fH ∉ E.e7/\E.im ∉ E.e8/\E.im≠E.fH
 cQ:∀r∈E.e8++E.e7,W.heap.size<r
 Fo:E.aQ ∉ E.e8++E.e7
 box:aw wr W.heap.size fs 55
 mH:fw wr E.aQ E.n (.int .i64 0) (fun l=>.int .i64 (fq F.steps l 0 0))
 mods:ag ai W wr
 low:∀lT lS,AP F lT lS->∀i p:Nat,i<F.steps.length->p<F.types.length->(B i p=true->lT i p)/\(A i p=true->lS i p)
theorem x8.quiet {E:vq} (h:x8 W F fs E B A wr) (hm:ag ai wr w):x8 W F fs E B A w :=
 ⟨h.b.mods hm id (fun _ _ f=>f),h.a.mods hm id (fun _ _ f=>f),h.lb,h.jx,h.uM,h.ga,h.cQ,h.Fo,h.box.mods hm id,h.mH.mods hm id,h.mods.trans hm,h.low⟩
theorem x8.lt {W wr:World} {F:ar} {fs:List Value} {E:vq} {B A:Nat->Nat->Bool} (h:x8 W F fs E B A wr):∀r∈E.e8++E.e7,r<wr.heap.size:=fun r hr=>by
 rcases anQ.1 hr with hr|hr
 ·obtain⟨i,hi⟩:=aoH.1 hr
  exact (h.b.row i r hi).lt
 ·obtain⟨i,hi⟩:=aoH.1 hr
  exact (h.a.row i r hi).lt
structure lD (W:World) (F:ar) (fs:List Value) (E:vq) (pL jk:Nat->Nat->Bool) (f0:Nat) (G:Prop) (m:Bool) (B A:Nat->Nat->Bool) (wr:World):Prop where
 st:x8 W F fs E B A wr
 keep:m=false->B=pL/\A=jk/\G/\r8 wr (E.e8++E.e7)=f0
 less:m=true->r8 wr (E.e8++E.e7)<f0
theorem lD.quiet {W wr w:World} {F:ar} {fs:List Value} {E:vq} {pL jk:Nat->Nat->Bool} {f0:Nat} {G:Prop} {m:Bool} {B A:Nat->Nat->Bool} (h:lD W F fs E pL jk f0 G m B A wr) (hm:ag ai wr w):lD W F fs E pL jk f0 G m B A w:=by
 have e:=abK hm (R:=E.e8++E.e7) (fun r hr=>⟨h.st.lt r hr,fun f=>f⟩);exact⟨h.st.quiet hm,fun hf=>by rw[e];exact h.keep hf,fun ht=>by rw[e];exact h.less ht⟩
theorem lD.more {E:vq} (h:lD W F fs E pL jk f0 G m B A wr) (hg:m=false->B=pL->A=jk->G->G'):lD W F fs E pL jk f0 G' m B A wr :=
 ⟨h.st,fun hf=>by obtain⟨h1,h2,h3,h4⟩:=h.keep hf;exact⟨h1,h2,hg hf h1 h2 h3,h4⟩,h.less⟩
theorem lD.le {E:vq} (h:lD W F fs E pL jk f0 G m B A wr):r8 wr (E.e8++E.e7)<=f0:=by
 cases m with
 | false=>exact Nat.le_of_eq (h.keep rfl).2.2.2
 | true=>exact aoV (h.less rfl)
theorem RR {X:Nat->Bool} (hp:p<tn):(uj tn X)[p]?=some (.bool (X p)):=by
 unfold uj;rw[anV,aoM hp];rfl
theorem lD.aiJ {E:vq} (h:lD W F fs E pL jk f0 G m B A wr) (hr:E.e8[i]?=some r) (hp:p<F.types.length) (hB:B i p=false) (hj:∀lT lS,AP F lT lS->lT i p) :
 lD W F fs E pL jk f0 G' true (y9 B i p) A (wr.setCell ⟨r,p,none⟩ (.bool true)):=by
 obtain⟨h1,hm⟩:=h.st.b.set hr hp;have yI:r∈E.e8:=anF hr;have yH:r∈E.e8++E.e7:=anQ.2 (Or.inl yI);have Ab:=aoo.1 h.st.uM;have Ju:r ∉ E.e7:=fun h2=>Ab.2.2 r yI r h2 rfl
 have hf:=Mo (h.st.b.row i r hr) (by rw[RR hp,hB]) (E.e8++E.e7) h.st.uM yH;have hle:=h.le;refine⟨⟨h1,h.st.a.mods hm (fun e=>h.st.ga.2.1 (e ▸ yI)) (fun x hx e=>Ju (e ▸ hx)),h.st.lb,h.st.jx,h.st.uM,h.st.ga,h.st.cQ,h.st.Fo,h.st.box.mods hm (fun e=>by have:=h.st.cQ r yH;omega),h.st.mH.mods hm (fun e=>h.st.Fo (e ▸ yH)),h.st.mods.trans' hm (fun k hk hl=>by have:=h.st.cQ r yH;omega),fun lT lS hc j q F0 hq=>⟨fun hb=>?_,(h.st.low lT lS hc j q F0 hq).2⟩⟩,(fun hf=>by cases hf),fun _=>by omega⟩;unfold y9 at hb;split at hb
 ·rename_i e
  rw[e.1,e.2];exact hj lT lS hc
 ·exact (h.st.low lT lS hc j q F0 hq).1 hb
theorem lD.WT {E:vq} (h:lD W F fs E pL jk f0 G m B A wr) (hr:E.e7[i]?=some r) (hp:p<F.types.length) (hA:A i p=false) (hj:∀lT lS,AP F lT lS->lS i p) :
 lD W F fs E pL jk f0 G' true B (y9 A i p) (wr.setCell ⟨r,p,none⟩ (.bool true)):=by
 obtain⟨h1,hm⟩:=h.st.a.set hr hp;have yI:r∈E.e7:=anF hr;have yH:r∈E.e8++E.e7:=anQ.2 (Or.inr yI);have Ab:=aoo.1 h.st.uM;have Jv:r ∉ E.e8:=fun h2=>Ab.2.2 r h2 r yI rfl
 have hf:=Mo (h.st.a.row i r hr) (by rw[RR hp,hA]) (E.e8++E.e7) h.st.uM yH;have hle:=h.le;refine⟨⟨h.st.b.mods hm (fun e=>h.st.ga.1 (e ▸ yI)) (fun x hx e=>Jv (e ▸ hx)),h1,h.st.lb,h.st.jx,h.st.uM,h.st.ga,h.st.cQ,h.st.Fo,h.st.box.mods hm (fun e=>by have:=h.st.cQ r yH;omega),h.st.mH.mods hm (fun e=>h.st.Fo (e ▸ yH)),h.st.mods.trans' hm (fun k hk hl=>by have:=h.st.cQ r yH;omega),fun lT lS hc j q F0 hq=>⟨(h.st.low lT lS hc j q F0 hq).1,fun hb=>?_⟩⟩,(fun hf=>by cases hf),fun _=>by omega⟩;unfold y9 at hb;split at hb
 ·rename_i e
  rw[e.1,e.2];exact hj lT lS hc
 ·exact (h.st.low lT lS hc j q F0 hq).2 hb
def Sat (F:ar) (B A:Nat->Nat->Bool) (i:Nat):Prop :=
 (∀k∈ic F i,∀p,p<F.types.length->A k p=true->B i p=true)/\(∀s,F.steps[i]?=some s->∀p:Nat,p<F.types.length->B i p=true->(p:Int)≠eJ s->A i p=true)/\(∀s,F.steps[i]?=some s->∀p:Nat,(p:Int)∈jb s->A i p=true)
theorem Vt:(A:List ax)->(l:Int)->(i k B:Nat)->k<B->i+A.length<=B->fq A l i k<B
 | [],_,_,_,_,hk,_=>hk
 | x::r,l,i,k,B,hk,hB=>by
   simp only[fq];simp only[anK]at hB;refine Vt r l (i+1) _ B ?_ (by omega);split <;> omega
theorem SP {k:Nat} (h:k∈ic F i):k<F.steps.length/\i<F.steps.length:=by
 unfold ic at h;split at h
 ·cases h
 ·rename_i s hs
  have hi:=(anA.1 hs).1;refine⟨?_,hi⟩;rcases anQ.1 h with h|h
  ·split at h
   ·simp only[anS]at h
    rw[h];unfold jD;exact Vt _ _ _ _ _ (by omega) (by omega)
   ·cases h
  ·split at h
   ·rename_i h3
    simp only[anS]at h;omega
   ·cases h
open Classical in
theorem agL {p:Int}:wB F i p=true↔vt F i p:=by
 unfold wB;exact decide_eq_true_iff
theorem aiD {E:vq} (h:x8 W F fs E B A wr) (hs:∀i,i<F.steps.length->Sat F B A i) (hu:∀s∈F.steps,∀p∈jb s,0<=p/\p<F.types.length):∀i p:Nat,i<F.steps.length->p<F.types.length->B i p=wB F i (p:Int):=by
 have hc:AP F (fun i p=>∃q:Nat,p=q/\i<F.steps.length/\q<F.types.length/\B i q=true) (fun i p=>∃q:Nat,p=q/\i<F.steps.length/\q<F.types.length/\A i q=true):=by
  refine⟨fun i k p hk ⟨q,e,h1,h2,h3⟩=>?_,fun i s p Gn ⟨q,e,h1,h2,h3⟩ hw=>?_,fun i s p Gn hp=>?_⟩
  ·have hl:=SP hk
   exact⟨q,e,hl.2,h2,(hs i hl.2).1 k hk q h2 h3⟩
  ·exact⟨q,e,h1,h2,(hs i h1).2.1 s Gn q h2 h3 (e ▸ hw)⟩
  ·have hi:=(anA.1 Gn).1
   have hb:=hu s (anF Gn) p hp;refine⟨p.toNat,by omega,hi,by omega,(hs i hi).2.2 s Gn p.toNat ?_⟩;rw[Int.toNat_of_nonneg hb.1];exact hp
 intro i p hi hp;rw[Bool.eq_iff_iff,agL];constructor
 ·intro hb lT lS lI
  exact (h.low lT lS lI i p hi hp).1 hb
 ·intro hn
  obtain⟨q,e,_,_,h3⟩:=hn _ _ hc;have:q=p:=by omega
  rw[this]at h3;exact h3

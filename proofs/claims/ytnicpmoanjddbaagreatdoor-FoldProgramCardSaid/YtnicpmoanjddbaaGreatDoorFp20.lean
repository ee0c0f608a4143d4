/- A part of what stands behind. -/
import Derived.Test.YtnicpmoanjddbaaGreatDoorFp18
import Derived.Test.YtnicpmoanjddbaaGreatDoorFp19
set_option maxRecDepth 100000
set_option maxHeartbeats 4000000
set_option linter.all false
namespace Go.Proofs.YtnicpmoanjddbaaGreatDoor
namespace aW
open Go.RowKit bB Go.Maps aB Go.Proofs.Tryz
variable {F:ar} {W:World} {p:Int} {v:Value} {g c:Nat} {k:bn} {s:ax} {S:Nat->Prop} {l:List ax} {cur:List Value} {L:List aB.Fn}
structure Fit (F:ar):Prop where
 ok:tS F
 good:∃L,Good L/\F∈L
 args:∀s∈F.steps,s.args.length<=1000000
theorem Fit.right (h:Fit F):∃L,(∀G∈L,jZ L G)/\F∈L:=by
 obtain⟨L,h1,h2⟩:=h.good;exact⟨L,h1.code.2.2.1,h2⟩
theorem Fit.lens (h:Fit F):F.steps.length<=6000/\F.types.length<=3000:=by
 obtain⟨L,h1,h2⟩:=h.right;exact⟨(h1 F h2).len,(h1 F h2).types⟩
theorem Vj (h:0<bO F p):0<=p/\p<F.types.length:=by
 unfold bO at h;split at h
 ·omega
 ·omega
theorem Fit.uses (h:Fit F):∀s∈F.steps,∀p∈jb s,0<=p/\p<F.types.length:=by
 obtain⟨L,h1,h2⟩:=h.right;intro x hx p hp;obtain⟨jI,oq,-,-⟩:=uP ((h1 F h2).steps x hx);refine Vj (F:=F) (p:=p) ?_;unfold jb at hp;split at hp
 ·obtain rfl:p=x.a:=by simpa using hp
  by_cases e2:x.code=2
  ·have:=jI.copy e2;omega
  ·by_cases r7:x.code=10
   ·have:=jI.C2 (by omega);omega
   ·have:=jI.a (by omega);omega
 split at hp
 ·simp only[anW,an1,or_false]at hp
  rcases hp with rfl|rfl
  ·by_cases e11:x.code=11
   ·have:=jI.C2 (by omega);omega
   ·have:=jI.a (by omega);omega
  ·have:=jI.b (by omega);omega
 split at hp
 ·simp only[anW,an1,or_false]at hp
  rcases hp with rfl|rfl|rfl
  ·have:=jI.C2 (by omega);omega
  ·have:=jI.b (by omega);omega
  ·have:=jI.c (by omega);omega
 split at hp
 ·rename_i dv
  obtain⟨G,hG,hlen,vV⟩:=oq dv;have h3:bO F p∈x.args.map (bO F):=List.mem_map_of_mem hp;rw[vV]at h3;have h4:=(h1 G (aoc hG)).kinds _ (List.take_subset _ _ h3);omega
 ·cases hp
theorem Fit.ahD (h:Fit F):∀s∈F.steps,nW s=true->0<=eJ s/\eJ s<F.types.length:=by
 obtain⟨L,h1,h2⟩:=h.right;intro x hx hp;obtain⟨jI,-,-,-⟩:=uP ((h1 F h2).steps x hx);obtain⟨hw,hd,-⟩:=Wu (L:=L) jI hp [] [] ⟨[],0,0,[],[]⟩;rw[hw];exact Vj hd
theorem Fit.labels (h:Fit F):∀s∈F.steps,b9 s.label:=fun s hs=>(h.ok.steps s hs).cL.2.2.2.2.2.2
theorem afs {t:ax} (hn:∀p x,k.cL p=some x->b9 x) (hs:∀p x,k.same p=some x->b9 x) (h:qO t):(∀p x,(k.kR t).cL p=some x->b9 x)/\(∀p x,(k.kR t).same p=some x->b9 x):=by
 have hf:(∀p x,(k.forget (eJ t)).cL p=some x->b9 x)/\(∀p x,(k.forget (eJ t)).same p=some x->b9 x):=by
  refine⟨fun p x e=>?_,fun p x e=>?_⟩
  ·unfold bn.forget oP at e
   simp only at e;split at e
   ·cases e
   ·exact hn p x e
  ·unfold bn.forget vE oP at e
   simp only at e;split at e
   ·cases e
   split at e
   ·cases e
   ·exact hs p x e
 unfold bn.kR;split
 ·exact⟨hn,hs⟩
 split
 ·refine⟨fun p x e=>?_,hf.2⟩
  unfold qs at e;simp only at e;split at e
  ·obtain rfl:=anz e
   exact h.cL.2.2.2.2.2.1
  ·exact hf.1 p x e
 split
 ·refine⟨hf.1,fun p x e=>?_⟩
  unfold qs at e;simp only at e;split at e
  ·obtain rfl:=anz e
   exact h.cL.2.2.1
  ·exact hf.2 p x e
 ·exact hf
theorem ajz:(k.step s).args.length<=s.args.length:=by
 unfold bn.step;have hr:(k.reads s).args.length<=s.args.length:=by unfold bn.reads;simp
 rcases KI (k.reads s) (k.cL (k.of s.a)) (k.cL (k.of s.b)) with⟨a,h1,h2,h3⟩|⟨h1,h2,h3⟩|⟨a,b,h1,h2,h3,h4,h3⟩|⟨h1,h2,h3⟩|⟨h1,h2,h3⟩|h3
 all_goals rw[h3]
 ·exact anC _
 ·exact anC _
 ·exact anC _
 ·exact anC _
 ·exact anC _
 ·exact hr
theorem OQ:(l:List ax)->∀ (k:bn),(∀p x,k.cL p=some x->b9 x)->(∀p x,k.same p=some x->b9 x)->(∀s∈l,qO s/\s.args.length<=1000000)->∀s∈eM k l,qO s/\s.args.length<=1000000
 | [],_,_,_,_,s,h=>by cases h
 | x::r,k,hn,hs,hl,s,h=>by
   have qc:(∀p y,(fS k x).cL p=some y->b9 y)/\(∀p y,(fS k x).same p=some y->b9 y):=by
    unfold fS;split
    ·exact⟨(fun p y e=>by cases e),(fun p y e=>by cases e)⟩
    ·exact⟨hn,hs⟩
   have hx:=hl x aox;have ht:=Xa qc.1 qc.2 hx.1;have hr:=fun s hs=>hl s (aoA _ hs)
   rw[eM]at h;split at h
   ·exact OQ r _ qc.1 qc.2 hr s h
   ·rcases anW.1 h with rfl|h
    ·exact⟨ht,aol ajz hx.2⟩
    ·have h6:=afs qc.1 qc.2 ht
     exact OQ r _ h6.1 h6.2 hr s h
theorem Fit.known (h:Fit F):Fit (kQ F):=by
 obtain⟨L,h1,h2⟩:=h.good;have hs:=OQ F.steps bn.none (fun p y e=>by cases e) (fun p y e=>by cases e) (fun s hs=>⟨h.ok.steps s hs,h.args s hs⟩);exact⟨⟨h.ok.name,h.ok.params,h.ok.types,fun s N4=>(hs s N4).1⟩,⟨_,Vl.good L h1,List.mem_map_of_mem h2⟩,fun s N4=>(hs s N4).2⟩
theorem Fit.sub {T:ar->ar} (hT:sY T) (hs:∀s∈(T F).steps,s∈F.steps) (h:Fit F):Fit (T F):=by
 obtain⟨L,h1,h2⟩:=h.good;refine⟨⟨by rw[hT.pass.name];exact h.ok.name,by rw[hT.pass.params];exact h.ok.params,by rw[hT.pass.types];exact h.ok.types,fun s h'=>h.ok.steps s (hs s h')⟩,⟨_,hT.good L h1,List.mem_map_of_mem h2⟩,fun s h'=>h.args s (hs s h')⟩
theorem Fit.dead (h:Fit F):Fit (qQ F):=h.sub Sm (fun s hs=>Mb F 0 F.steps s hs)
theorem Fit.reached (h:Fit F):Fit (xI F):=h.sub WC (fun s hs=>ahY hs)
theorem Fit.one (h:Fit F):Fit (om F):=by
 rw[om];exact h.known.dead.reached
noncomputable def yO:Nat->ar->ar
 | 0,F=>F
 | n+1,F=>om (yO n F)
theorem Fit.iter {F:ar} (h:Fit F):∀n,Fit (yO n F)
 | 0=>h
 | n+1=>(Fit.iter h n).one
theorem U9 (F:ar):yO 4 F=jH F:=by rw[jH];rfl
theorem aaN (h:jS W S v l) (hS:∀k,S k->k<W.heap.size) (hl:l.length<=1000000) :
 Calls prog 46 #[v] W fun e w=>∃v',e=.returned v'/\jS w S v' l/\ag ai W w:=by
 obtain⟨a,c,rfl,hc1,hc2,hc3⟩:=h.form;cases a with
 | none =>
   have h0:=hc3 rfl;obtain rfl:l=[]:=anJ h0;have hq:=fun w=>Lib.run_eql_slice_nil (P:=prog) w 53 57 none 0 c 0 0 underlying53
   clear h hl hc1 hc2 hc3 h0;simp only[anY];go_in;go_wp2_with fail;go_ret;exact⟨_,rfl,⟨none,0,rfl,anC _,anC _,fun _=>rfl,fun i s hs=>by simp at hs⟩,ag.refl _ _⟩
 | some ad =>
   have hq:=fun w=>Lib.run_eql_slice_nil (P:=prog) w 53 57 (some ad) l.length c 0 0 underlying53
   obtain⟨i0,hi,hz0,hz1,hz2⟩:=info_parts Ej;have aI:=af (anw hi (anw hz0 (anw hz1 hz2)));obtain⟨W1,hW1⟩:=aq (W.alloc (.cells #[] 57));have aO:ag ai W W1:=(by rw[hW1];exact ay.alloc _);have Ln:=af (show W1.ownsRow W.heap.size 57 10 (.slice (some ⟨W.heap.size,0,none⟩) 0 0) 0 [] by rw[hW1];exact Wb W 57 10 (by decide));have eC:=af aO.size;obtain⟨cs,kX,Y0⟩:∃cs:List Value,Hid (cs.length=l.length*10/\(∀j u,cs[j]?=some u->W1.cell? (ad.add j)=some u)/\∀u∈cs,u.oneCell'=true)/\Hid (mq W1 (fun k=>S k\/¬k<W.heap.size) cs l):=by
    by_cases h0:l.length=0
    ·obtain rfl:l=[]:=anJ h0
     exact⟨[],af ⟨rfl,fun j u hj=>by simp at hj,fun u hu=>by simp at hu⟩,af (fun i x hx=>by simp at hx)⟩
    ·obtain⟨g,o,_,rfl,-⟩:∃g o av,ad=⟨g,o,none⟩/\av=av/\True:=by
      obtain⟨a',c',e1,-,-,-,ew⟩:=h;obtain⟨rfl,-,-⟩:=Value.slice.inj e1;obtain⟨g,o,av,k1,-⟩:=ew 0 l[0] (anx (by omega));cases k1;exact⟨g,o,(0:Nat),rfl,rfl,trivial⟩
     obtain⟨cs,e1,e2,e3,e4⟩:=ajU h;exact⟨cs,af ⟨e1,fun j u hj=>by rw[add_plain];exact aO.cellOf (e2 j u hj) id,e4⟩,af (e3.mods (aO.mono fun _ _ f=>f.elim) (fun k h1 h2=>h2.elim id (fun h2=>(h2 h1).elim)))⟩
   have aD:=af aO;have Y7:=af hS;obtain⟨bf,fo⟩:=aq (l.length);have cY:=af fo;have rP:=af hl;rw[<-fo]at hq kX;rw[<-fo];clear h hc1 hc2 hc3 hi hz0 hz1 hz2 aO fo hl hS;go_in;go_wp2_with (at_builtin;rw[<-hW1];refine wpList_append_own_at _ rfl _ _ 53 rfl W.heap.size 57 i0 _ 10 112 underlying53 aI.1 aI.2.1 aI.2.2.1 aI.2.2.2 rfl (by decide) (.slice (some ⟨W.heap.size,0,none⟩) 0 0) 0 [] rfl Ln ad bf c cs rfl kX.1 kX.2.1 kX.2.2 (by have:=rP.out;have:=cY.out;unfold maxLen;omega) (by have:=rP.out;have:=cY.out;omega) eC ?_;intro v' aJ hown cr hnil hloc;have b6:=af hown;have bZ:=af (anw cr hloc);clear hown cr hnil hloc);go_ret;have hm:ag ai W aJ:=aD.trans' (ag.of_grownBy (S:=fun k=>k=W.heap.size) bZ.1 (fun k hk _=>by simp only[Value.ownBlock,anG]at hk;exact hk.symm)) (fun k hk hl=>by omega);have ho:=b6.out;rw[an9,aom]at ho;have hout:kt aJ W.heap.size S v' l:=by
    refine⟨cs,by rw[<-cY.out];exact ho,?_,fun k hk hs=>?_⟩
    ·refine Y0.mods (ag.of_grownBy bZ.1 (fun k hk _=>by simp only[Value.ownBlock,anG]at hk;rw[<-hk];exact Or.inr (an5 _))) (fun k _ hk=>hk.imp id (fun e=>?_))
     have:=(ho.lt k e).1;omega
    ·have h1:=(ho.lt k hk).1
     have h2:=Y7.out k hs;omega
   exact⟨_,rfl,hout.at_,hm⟩
structure P2 (W:World) (L:List ar) (ob i:Nat) (ov:Value) (wr:World):Prop where
 blk:aw wr ob [ov] 28
 outs:oL wr W.heap.size ob ov ((L.take i).map jH)
 cQ:W.heap.size<=ob
 mods:ag ai W wr
def P1 (w:World) (S:Nat->Prop) (fb:Nat) (G:ar):Prop:=∃ta tc sa sc,jc w S G (.agg (nL G (.slice ta G.types.length tc) (.slice sa G.steps.length sc)).toArray)/\aw w fb (nL G (.slice ta G.types.length tc) (.slice sa G.steps.length sc)) 55
structure Rt (w:World) (S:Nat->Prop) (fb:Nat) (F:ar) (i:Nat) (wr:World):Prop where
 fn:P1 wr S fb (yO i F)
 mods:ag (·=fb) w wr
theorem ab2 {w:World} {fb:Nat} {G:ar} {a b c d:Value} {ta sa:Option Addr} {tc sc:Nat} (hv:jc w S G (.agg (nL G (.slice ta G.types.length tc) (.slice sa G.steps.length sc)).toArray)) (hb:aw w fb [a,b,c,d] 55) (hS:S fb) :
 P1 ((((w.setCell ⟨fb,0,none⟩ (str G.name)).setCell ⟨fb,1,none⟩ (.int .i64 G.params)).setCell ⟨fb,2,none⟩ (.slice ta G.types.length tc)).setCell ⟨fb,3,none⟩ (.slice sa G.steps.length sc)) S fb G/\ag (·=fb) w ((((w.setCell ⟨fb,0,none⟩ (str G.name)).setCell ⟨fb,1,none⟩ (.int .i64 G.params)).setCell ⟨fb,2,none⟩ (.slice ta G.types.length tc)).setCell ⟨fb,3,none⟩ (.slice sa G.steps.length sc)):=by
 have hm:ag (·=fb) w ((((w.setCell ⟨fb,0,none⟩ (str G.name)).setCell ⟨fb,1,none⟩ (.int .i64 G.params)).setCell ⟨fb,2,none⟩ (.slice ta G.types.length tc)).setCell ⟨fb,3,none⟩ (.slice sa G.steps.length sc)):=(((fN _ fb 0 _).trans (fN _ _ 1 _)).trans (fN _ _ 2 _)).trans (fN _ _ 3 _);exact⟨⟨ta,tc,sa,sc,hv.mods (hm.mono fun k _ e=>by rw[e];exact hS) (fun _ _ k=>k),(((hb.set 0 _).set 1 _).set 2 _).set 3 _⟩,hm⟩
theorem Mu (L:List ar) (cb:Nat) (lv:Value) (W:World) (hcb:W.cell? ⟨cb,0,none⟩=some lv) (hL:iM W ai lv L) (aZ:∀f∈L,tS f) (cC:∀f∈L,∀s∈f.steps,s.args.length<=1000000) (kJ:n4 W) (kK:mZ W) (R:Bool) (hR:R=p9 L) :
 Calls prog 21 #[.pointer (some ⟨cb,0,none⟩)] W fun e w=>(R=false->e=.returned (.tuple #[.pointer none,.iface 44 (.int .i64 1)])/\ag ai W w)/\(R=true->∃db qR,e=.returned (.tuple #[.pointer (some ⟨db,0,none⟩),.nilIface])/\w.cell? ⟨db,0,none⟩=some qR/\iM w ai qR (L.map jH)/\ag ai W w/\W.heap.size<=db):=by
 have B7:=Pq L cb lv W hcb hL kJ kK (fun f hf s hs=>((aZ f hf).steps s hs).cL.2.2.2.2.2.2);rw[<-hR]at B7;have xX:=af B7;have aP:=af hR;obtain⟨jx,lc,rfl,hlc,-⟩:=hL.form;have HH:=af (anw hcb (anw hL (anw aZ cC)));obtain⟨bf,fo⟩:=aq (L.length);have cY:=af fo;clear B7 hR hcb hL aZ cC kJ kK hlc fo;go_in;go_wp2_with fail;refine xX.mono ?_;rintro e w1 ⟨rfl,aO⟩;have aD:=af aO;clear aO xX;cases R with
 | false =>
   go_wp2_with fail;go_ret2;exact⟨rfl,aD⟩
 | true =>
   have hcb:=aD.cellOf HH.1 id;obtain⟨W2,hW2⟩:=aq (w1.alloc (.cells #[.slice none 0 0] 28));have aN:ag ai w1 W2:=(by rw[hW2];exact ay.alloc _);have hb2:aw W2 w1.heap.size [.slice none 0 0] 28:=(by rw[hW2];exact aw.new w1 _ _);have rT:Hid (P2 W L w1.heap.size 0 (.slice none 0 0) W2):=af ⟨hb2,oL.none_ _ _ _,aD.size,aD.trans aN⟩;have TF:=aN.cellOf hcb id;rw[<-cY.out]at TF;clear hcb aN hb2;obtain⟨ob,NM⟩:=aq (w1.heap.size);rw[<-NM]at rT;go_upto_region 4 with (fail)
   rw[<-hW2,<-NM];clear hW2 NM;go_wp2_with fail
   go_loopw [18] (fun iv wr=>∃ (i:Nat) (ov:Value),i<=bf/\iv=.int .i64 (i:Int)/\Hid (P2 W L ob i ov wr)) (fun iv _=>(bf-intOf iv).toNat)
   case atStart=>exact⟨0,_,anC _,rfl,rT⟩
   case round =>
    clear rT TF;obtain⟨fX,rfl⟩:=aq wr;obtain⟨i,ov,hi,rfl,HS⟩:=hrel;by_cases hlt:i<bf
    ·have bm:i<L.length:=by rw[<-cY.out];exact hlt
     obtain⟨F,IH⟩:∃F,L[i]?=some F:=⟨_,anx bm⟩;have Dk:L[i]=F:=(anA.1 IH).2;have yt:F∈L:=anF IH;obtain⟨gs,os,ta,tc,sa,sc,B2,jN,y1,fB,jA,hZ,hst⟩:=HH.2.1.get bm;subst B2;rw[Dk]at jN y1 fB jA hZ hst;have hmx:=HS.mods;have jN:=hmx.cellOf jN id;have y1:=hmx.cellOf y1 id;have fB:=hmx.cellOf fB id;have jA:=hmx.cellOf jA id;have Nn:Good L:=⟨aP.symm,fun G hG x hx=>(HH.2.2.1 G hG).steps x hx |>.cL.2.2.2.2.2.1⟩;have js:Fit F:=⟨HH.2.2.1 F yt,⟨L,Nn,yt⟩,HH.2.2.2 F yt⟩;have cA:(i:Int)<(bf:Int):=(by omega);have ad1:bf<=12:=(by rw[cY.out];exact Nn.code.1);have alT:i<12:=(by omega);obtain⟨tn,dL⟩:=aq (F.types.length);obtain⟨sn,dG⟩:=aq (F.steps.length);rw[<-dL]at fB;rw[<-dG]at jA;obtain⟨dC,fI⟩:=aq (fX.alloc (.cells (nL F (.slice ta tn tc) (.slice sa sn sc)).toArray 55));have bG:ag ai fX dC:=(by rw[fI];exact ay.alloc _);have dT:aw dC fX.heap.size (nL F (.slice ta tn tc) (.slice sa sn sc)) 55:=(by rw[fI];exact aw.new fX _ _);have wa:dC.heap.size=fX.heap.size+1:=(by rw[fI];simp);obtain⟨fb,xr⟩:=aq (fX.heap.size);rw[<-xr]at dT;have aj:=af (anw IH (anw js (anw xr (anw bG wa))));have ej:=af dT;have MX:∀k,(ov.ownBlock=some k\/k=ob\/k=fb)->k<dC.heap.size:=fun k hk=>by
      rcases hk with hk|hk|hk
      ·have:=(HS.outs.lt k hk).2;omega
      ·have:=HS.blk.lt;omega
      ·omega
     have MW:∀k,(ov.ownBlock=some k\/k=ob\/k=fb)->W.heap.size<=k:=fun k hk=>by
      rcases hk with hk|hk|hk
      ·exact (HS.outs.lt k hk).1
      ·rw[hk];exact HS.cQ
      ·have:=hmx.size;omega
     have UN:=hst.mods (T:=fun k=>ov.ownBlock=some k\/k=ob\/k=fb) (hmx.trans bG) (fun k h1 h2=>by have:=MW k h2;omega);have UU:=hZ.mods (T:=fun k=>ov.ownBlock=some k\/k=ob\/k=fb) (hmx.trans bG) (fun k h1 h2=>by have:=MW k h2;omega);have lx:=af (aaN UN MX (by have:=js.lens;omega));have zx:=af (anw UU (anw MX (anw dL dG)));rw[<-dG]at lx;clear IH Dk yt hZ hst hmx Nn js bG dT wa UN UU MX MW dL dG bm ad1;unfold nL str at *;go_upto_region 7 with (fail)
     rw[<-fI,<-xr];clear fI xr jN y1 fB jA;have c3:=ej.ah 3;have f3:=ej.free 3;go_wp2_with fail;refine lx.mono ?_;rintro e a7 ⟨v7,rfl,JD,dK⟩;obtain⟨va,vc,rfl,-⟩:=JD.form;rw[<-zx.2.2.2]at JD ⊢;have f_:=af (ej.mods dK id);have gh:=af dK;have sW:=af JD;have c3:=f_.ah 3;have f3:=f_.free 3;clear JD dK lx;go_upto_region 8 with (fail)
     obtain⟨iX,q8⟩:=aq (a7.setCell ⟨fb,3,none⟩ (.slice va sn vc));have ml:Hid (ag (·=fb) a7 iX):=af (by rw[q8];exact fN _ _ _ _);have kE:Hid (Rt iX (fun k=>ov.ownBlock=some k\/k=ob\/k=fb) fb F 0 iX):=af (by
      have hb:=f_.set 3 (.slice va sn vc);rw[<-q8]at hb;have hm:ag (fun k=>ov.ownBlock=some k\/k=ob\/k=fb) a7 iX:=ml.mono fun k _ e=>Or.inr (Or.inr e)
      have ht:=(zx.1.mods (T:=fun k=>ov.ownBlock=some k\/k=ob\/k=fb) (gh.mono fun _ _ f=>f.elim) (fun _ _ k=>k)).mods hm (fun _ _ k=>k);have hs:=sW.mods hm (T:=fun k=>ov.ownBlock=some k\/k=ob\/k=fb) (fun _ _ k=>k);rw[zx.2.2.2]at hs hb;rw[zx.2.2.1]at hb;exact⟨⟨ta,tc,va,vc,⟨ta,tc,va,vc,rfl,ht,hs⟩,hb⟩,ag.refl _ _⟩)
     rw[<-q8];clear q8 c3 f3;go_wp2_with fail
     go_loopw [26] (fun iv wr=>∃n:Nat,n<=4/\iv=.int .i64 (n:Int)/\Hid (Rt iX (fun k=>ov.ownBlock=some k\/k=ob\/k=fb) fb F n wr)) (fun iv _=>(4-intOf iv).toNat)
     case atStart=>exact⟨0,by omega,rfl,kE⟩
     case round =>
      clear kE;obtain⟨dO,rfl⟩:=aq wr;obtain⟨n,hn,rfl,kE⟩:=hrel;obtain⟨ta,tc,sa,sc,vS,hgb⟩:=kE.fn;have js:=aj.2.1.iter n;have sS:=af js;have Qq:=af hgb;have K6:=af vS;have K9:Hid (om (yO n F)=yO (n+1) F):=af rfl;have yz:Hid (n=4->yO n F=jH F):=af (fun e=>by rw[e,U9]);obtain⟨G,hG⟩:=aq (yO n F);rw[<-hG]at sS Qq K6 K9 yz hgb;obtain⟨c0,c1,c2,c3⟩:=hgb.gG;have Tp:∀k,(ov.ownBlock=some k\/k=ob\/k=fb)->k<dO.heap.size:=fun k hk=>by
       have h1:=zx.2.1 k hk;have h2:=gh.size;have h3:=ml.size;have h4:=kE.mods.size;omega
      have LA:=af Tp;clear vS hgb js hG Tp;by_cases h4:n<4
      ·have amf:(n:Int)<4:=by omega
       have Qz:=af (afk K6 LA sS.ok sS.lens.1 sS.args);unfold nL str at *;go_wp2_with fail;refine Qz.mono ?_;rintro e oy ⟨v10,rfl,Oe,nO⟩;have Zb:=af Oe;have wV:=af nO;have zm:=af (aaZ Oe (fun k hk=>anE (LA k hk) nO.size) sS.known.ok sS.known.labels sS.known.lens.1 sS.known.lens.2 sS.known.args sS.known.uses sS.known.ahD);clear Oe nO Qz c0 c1 c2 c3;go_wp2_with fail;refine zm.mono ?_;rintro e ji ⟨v11,rfl,UX,Jk⟩;have Lg:=af (wV.trans Jk);have zv:=af (ahW UX (fun k hk=>anE (LA k hk) Lg.size) sS.known.dead.labels sS.known.dead.lens.1);clear UX Jk zm wV Zb;go_wp2_with fail;refine zv.mono ?_;rintro e eG ⟨v12,rfl,Of,ND⟩;have QH:=af (Lg.trans ND);have l7:xI (qQ (kQ G))=om G:=(by rw[om]);rw[l7,K9.out]at Of;obtain⟨uT,ML⟩:=aq (yO (n+1) F);rw[<-ML]at Of;have o9:=af ML;obtain⟨pa,ck,bg,br,rfl,oY,vY⟩:=Of;have Zc:Hid (jc eG (fun k=>ov.ownBlock=some k\/k=ob\/k=fb) uT (.agg (nL uT (.slice pa uT.types.length ck) (.slice bg uT.steps.length br)).toArray)):=af ⟨pa,ck,bg,br,rfl,oY,vY⟩;have uU:=af (Qq.mods QH id);obtain⟨m1,aO⟩:=aq (uT.types.length);obtain⟨m2,aN⟩:=aq (uT.steps.length);rw[<-aO,<-aN];have ZZU:=af (anw aO aN);obtain⟨c0,f0,c1,f1,c2,f2,c3,f3⟩:=uU.gN;clear oY vY aO aN ML ND zv Lg l7;unfold str;go_wp2_with fail;refine⟨⟨n+1,by omega,by go_num,af ?_⟩,by simp[intOf];omega⟩;obtain⟨k1,k2⟩:=ab2 Zc uU (Or.inr (Or.inr rfl));unfold str at k1 k2;rw[<-ZZU.1,<-ZZU.2]at k1 k2;exact⟨by rw[<-o9.out];exact k1,(kE.mods.trans (QH.mono fun _ _ f=>f.elim)).trans k2⟩
      ·obtain rfl:n=4:=by omega
       have S_:G=jH F:=yz.out rfl;have IM:ag ai fX dO:=((aj.2.2.2.1.trans gh).trans' ml (fun k e hk=>by have:=aj.2.2.1;omega)).trans' kE.mods (fun k e hk=>by have:=aj.2.2.1;omega);have hout:=HS.outs.mods (IM.mono fun _ _ f=>f.elim);have hblk:=HS.blk.mods IM id;obtain⟨aG,aF,qg⟩:=hout.form;have hlen:((L.take i).map jH).length=i:=(by rw[anR,anP];have:=cY.out;omega);rw[hlen]at qg;have YV:=af hout;have KX:=af hblk;have QL:=af IM;have Yk:=af S_;have iT:=af hlen;have Hw:=af HS.cQ;have t_:=af HS.mods;clear hout hblk IM S_ hlen yz K9;have al9:¬((4:Int)<4):=(by omega);obtain⟨i0,gw,hz0,hz1,hz2⟩:=info_parts SJ;have aI:=af (anw gw (anw hz0 (anw hz1 hz2)));obtain⟨cs,iQ,kg,kx⟩:=YV.out;rw[iT.out]at iQ;obtain⟨m1,aO⟩:=aq (G.types.length);obtain⟨m2,aN⟩:=aq (G.steps.length);rw[<-aO]at c2;rw[<-aN]at c3;have ZZU:=af (anw aO aN);have kX:=af (anw iQ kg);have EV:=af kx;have X9:=af iQ.lt;subst qg;have b0:=KX.ah 0;have z0:=KX.free 0;have gz:=af (G0 dO (nL G (.slice ta m1 tc) (.slice sa m2 sc)) 55);have l7:=af (ab1 G ta sa m1 tc m2 sc);have bR:Hid (ag ai dO ((dO.alloc (.cells (nL G (.slice ta m1 tc) (.slice sa m2 sc)).toArray 55)).drew)):=af (ay.alloc _).drew;have fR:=af (bR.ownsRow iQ (fun k hk f=>f));have AU:=af (KX.mods bR id);have mS:Hid (W.heap.size<=((dO.alloc (.cells (nL G (.slice ta m1 tc) (.slice sa m2 sc)).toArray 55)).drew).heap.size):=af (by have h1:=t_.size;have h2:=QL.size;have h5:=bR.size;omega);clear iQ kg kx aO aN gw hz0 hz1 hz2;unfold nL str at gz l7 bR fR AU mS;unfold str at c0;have akZ:(dO.alloc (.cells #[.string ⟨G.name.toArray⟩,G.params,.slice ta m1 tc,.slice sa m2 sc] 55)).drew.cell? ⟨ob,0,none⟩=some (.slice aG i aF):=AU.ah 0;go_wp2_with fail
       go_region_law (refine G4 rfl (.tmp 37) (.tmp 39) 22 rfl W.heap.size 55 i0 _ 4 72 underlying22 aI.1 aI.2.1 aI.2.2.1 aI.2.2.2 rfl (by decide) (.slice aG i aF) i cs (by simp[Act.eval,Act.put]) fR ⟨dO.heap.size,0,none⟩ 1 1 [.string ⟨G.name.toArray⟩,G.params,.slice ta m1 tc,.slice sa m2 sc] (by simp[Act.eval,Act.put]) rfl gz.out l7.out (by unfold maxLen;omega) (by omega) mS ?_;intro v' ji hown cr hloc;have b6:=af hown;have bZ:=af (anw cr hloc);have CN:=af (AU.mods (ag.of_grownBy (S:=fun k=>(Value.slice aG i aF).ownBlock=some k) cr (fun k hk _=>hk)) (fun e=>EV.out ob e rfl));have b1:=CN.ah 0;have cS:=CN.free 0;clear hown cr hloc;obtain⟨bg,br,rfl⟩:=slice_form b6)
       all_goals
        go_wp2_with fail;refine⟨⟨i+1,.slice bg (i+1) br,by omega,by go_num,af ?_⟩,by simp[intOf];omega⟩;have Uq:ag (·=ob) ji (ji.setCell ⟨ob,0,none⟩ (.slice bg (i+1) br)):=fN _ _ _ _;have mF:ag (fun k=>(Value.slice aG i aF).ownBlock=some k) (dO.alloc (.cells #[.string ⟨G.name.toArray⟩,G.params,.slice ta m1 tc,.slice sa m2 sc] 55)).drew ji:=ag.of_grownBy bZ.1 (fun k hk _=>hk);have BH:ag ai W (dO.alloc (.cells #[.string ⟨G.name.toArray⟩,G.params,.slice ta m1 tc,.slice sa m2 sc] 55)).drew:=(t_.trans QL).trans bR;have lL:(L.take (i+1)).map jH=(L.take i).map jH++[G]:=by
         rw[aod,aj.1,aot,Yk.out];rfl
        have UP:∀k,(k=ob\/(Value.slice aG i aF).ownBlock=some k)->((Value.slice aG i aF).ownBlock=some k\/k=ob\/k=fb):=fun k hk=>hk.elim (fun h=>Or.inr (Or.inl h)) Or.inl
        obtain⟨aj1,aj2,aiB,aiF,JI,hZ,hst⟩:=K6.out;have U0:Value.slice ta G.types.length tc=Value.slice aj1 G.types.length aj2/\Value.slice sa G.steps.length sc=Value.slice aiB G.steps.length aiF:=by
         unfold nL at JI;injection JI with JI
         simpa using JI
        rw[<-U0.1]at hZ;rw[<-U0.2]at hst;rw[<-ZZU.1]at hZ;rw[<-ZZU.2]at hst;have aeu:=hZ.mods (T:=fun k=>k=ob\/(Value.slice aG i aF).ownBlock=some k) (bR.mono fun _ _ f=>f.elim) (fun k _ hk=>UP k hk);have aen:=hst.mods (T:=fun k=>k=ob\/(Value.slice aG i aF).ownBlock=some k) (bR.mono fun _ _ f=>f.elim) (fun k _ hk=>UP k hk);have hgr:=Wa (x:=G) (by rw[iT.out];exact fR) (kX.2.mods (bR.mono fun _ _ f=>f.elim) (fun _ _ k=>k)) EV AU.lt aeu aen (by rw[iT.out];exact b6) bZ.1 bZ.2;refine⟨CN.set 0 _,?_,Hw,?_⟩
        ·rw[lL]
         exact hgr.mods Uq
        ·exact (BH.trans' mF (fun k hk hl=>by have:=(X9 k hk).1;omega)).trans' Uq (fun k hk hl=>by have:=Hw.out;omega)
    ·obtain rfl:i=bf:=by omega
     have cA:¬(i:Int)<(i:Int):=(by omega);have hall:(L.take i).map jH=L.map jH:=(by rw[anN (by rw[<-cY.out];exact anD _)]);have b0:=HS.blk.ah 0;have HO:=HS.outs.at_;rw[hall]at HO;have YT:=af HO;have je:=af b0;clear hall HO b0;go_wp2_with fail;go_ret2;exact⟨ob,rfl,ov,je,YT,HS.mods,HS.cQ⟩
def Em:List ax:=[⟨1,0,0,0,0,3,[],0,[],[]⟩,⟨1,1,0,0,0,4,[],0,[],[]⟩,⟨3,2,0,1,0,0,[43],0,[],[]⟩]
def G8:ax:=⟨8,0,2,0,0,0,[],0,[],[]⟩
def nY:ar:=⟨[109,97,105,110],0,List.replicate 3 1,Em++[G8]⟩
theorem Xi:E7 Em [3,4,7]:=by
 refine⟨rfl,fun v hv=>?_,fun i s hs=>?_⟩
 ·simp only[anW,an1,or_false]at hv
  unfold di;omega
 ·have hn:di 0/\di 3/\di 4:=by unfold di;omega
  match i,hs with
  | 0,hs =>
    cases hs;exact⟨rfl,hn.2.1,rfl,Or.inl ⟨rfl,rfl⟩⟩
  | 1,hs =>
    cases hs;exact⟨rfl,hn.2.2,rfl,Or.inl ⟨rfl,rfl⟩⟩
  | 2,hs =>
    cases hs;exact⟨rfl,hn.1,rfl,Or.inr (Or.inr ⟨0,1,3,4,7,rfl,by decide,rfl,rfl,by omega,by omega,rfl,rfl,rfl,by unfold dA;rw[if_pos rfl];exact congrArg (fun a=>(a,(0:Int))) (by unfold wrap64;omega)⟩)⟩
  | i+3,hs=>simp[Em]at hs
theorem PJ:Good [nY]:=afB (n:=2) Xi rfl (by unfold di;decide) rfl rfl (by omega)
theorem Xk:Told (jH nY) 2 7:=afA (r:=G8) (n:=2) Xi rfl rfl rfl rfl rfl
theorem ajT (h:b9 s.code/\b9 s.dst/\b9 s.a/\b9 s.b/\b9 s.c/\b9 s.n/\b9 s.label) (h1:s.op.length<=20) (h2:s.name.length<=20) (h3:s.args=[]):qO s :=
 ⟨h,by unfold maxLen;omega,fun x hx=>by rw[h3]at hx;cases hx⟩
theorem Xj:tS nY:=by
 have h:∀a:Int,0<=a->a<=100->b9 a:=fun a h1 h2=>by unfold b9;omega
 refine⟨by unfold maxLen;decide,h 0 (by omega) (by omega),fun x hx=>?_,fun s hs=>?_⟩
 ·rw[List.eq_of_mem_replicate hx];exact h 1 (by omega) (by omega)
 ·have:s=⟨1,0,0,0,0,3,[],0,[],[]⟩\/s=⟨1,1,0,0,0,4,[],0,[],[]⟩\/s=⟨3,2,0,1,0,0,[43],0,[],[]⟩\/s=G8:=by
   simpa [nY,Em] using hs
  rcases this with rfl|rfl|rfl|rfl
  all_goals exact ajT ⟨h _ (by decide) (by decide),h _ (by decide) (by decide),h _ (by decide) (by decide),h _ (by decide) (by decide),h _ (by decide) (by decide),h _ (by decide) (by decide),h _ (by decide) (by decide)⟩ (by decide) (by decide) rfl
theorem Xh:∀s∈nY.steps,s.args.length<=1000000:=by
 intro s hs;have:s=⟨1,0,0,0,0,3,[],0,[],[]⟩\/s=⟨1,1,0,0,0,4,[],0,[],[]⟩\/s=⟨3,2,0,1,0,0,[43],0,[],[]⟩\/s=G8:=by
  simpa [nY,Em] using hs
 rcases this with rfl|rfl|rfl|rfl <;> exact anC _
theorem ajY:Fit nY:=⟨Xj,⟨_,PJ,by simp⟩,Xh⟩
theorem Mr (h:Fit F):Fit (jH F):=by
 rw[<-U9];exact h.iter 4
theorem aj7 {v:Int} (h:Told F p v):F.steps.length=2:=by
 obtain⟨c,r,h,-⟩:=h;rw[h];rfl
theorem aj5 {v:Int} (hg:Good [F]) (hn:F.name=[109,97,105,110]) (hp:0<=p/\p.toNat<F.types.length) (h:Told F p v) (fuel:Nat):y4 [F] 4 [] (fuel+2)=some (1,v,[]):=by
 unfold y4;rw[if_pos hg.right,aj6 hn hp h]
theorem ajV (hb:aw W g cur 57) (hc:cur=l.flatMap (fun s=>aY s (.slice none 0 0))) (ha:∀s∈l,s.args=[]) (hlc:l.length<=c) (hcm:c<=maxLen):jS W ai (.slice (some ⟨g,0,none⟩) l.length c) l:=by
 have key:∀ (l:List ax) (i:Nat) (s:ax),l[i]?=some s->∀k u,(aY s (.slice none 0 0))[k]?=some u->(l.flatMap (fun s=>aY s (.slice none 0 0)))[i*10+k]?=some u:=by
  intro l;induction l with
  | nil=>intro i s hs;simp at hs
  | cons x r ih =>
    intro i s hs k u hu;have vU:k<10:=by
        have:=(anA.1 hu).1;rwa [rB]at this
    rw[List.flatMap_cons];cases i with
    | zero =>
      obtain rfl:x=s:=(by simpa using hs);rw[Nat.zero_mul,an9,anI (by rw[rB];exact vU)];exact hu
    | succ i =>
      rw[anH (by rw[rB];omega),rB,show (i+1)*10+k-10=i*10+k by omega];exact ih i s (by simpa using hs) k u hu
 have hrow:qM W ai g l:=by
  refine⟨cur,hb,?_,fun i s hs=>⟨none,0,fun k u hk=>?_,?_⟩⟩
  ·rw[hc]
   have:∀l:List ax,(l.flatMap (fun s=>aY s (.slice none 0 0))).length=l.length*10:=by
        intro l;induction l with
        | nil=>rfl
        | cons x r ih=>rw[List.flatMap_cons,anU,ih,rB,anK];omega
   rw[this];exact anD _
  ·have h0:=ha s (anF hs)
   rw[h0]at hk;rw[hc];exact key l i s hs k u hk
  ·have h0:=ha s (anF hs)
   rw[h0];exact⟨none,0,rfl,anD _,anC _,fun _=>rfl,fun i x hx=>by simp at hx⟩
 exact hrow.at_ (m:=l) (l:=l) aob (anD _) hlc hcm id (fun k f=>f)
theorem aeZ {l:List Int} (hb:aw W g cur 3) (hc:∀ (i:Nat) (x:Int),l[i]?=some x->cur[i]?=some (.int .i64 x)) (hlc:l.length<=c) (hcm:c<=maxLen):dh W ai (.slice (some ⟨g,0,none⟩) l.length c) l :=
 ⟨some ⟨g,0,none⟩,c,rfl,hlc,hcm,(fun h=>by cases h),fun i x hx=>⟨g,0,rfl,id,by rw[an9];exact hb.cell (hc i x hx)⟩⟩
theorem ab3 {tv sv:Value} (hb:aw W g [str F.name,F.params,tv,sv] 55) (ht:dh W ai tv F.types) (hs:jS W ai sv F.steps):iM W ai (.slice (some ⟨g,0,none⟩) 1 1) [F]:=by
 refine⟨some ⟨g,0,none⟩,1,rfl,anD _,by unfold maxLen;omega,(fun h=>by cases h),fun i f hf=>?_⟩;obtain⟨rfl,rfl⟩:i=0/\f=F:=by
  cases i with
  | zero=>exact⟨rfl,by simpa using hf.symm⟩
  | succ i=>simp at hf
 exact⟨g,0,tv,sv,rfl,id,hb.ah 0,hb.ah 1,hb.ah 2,hb.ah 3,ht,hs⟩
theorem abZ (a b:Int) (v:Value) (w:World):Sem.run prog (Instr.field 31 (.agg #[a,b,v]) 1) w=Result.ok (.int .i64 b) w:=by kernel_rfl
theorem acb (W:World) (kJ:n4 W) (kK:mZ W) :
 Calls prog 19 #[] W fun e w=>e=.returned (.bool true)/\ag ai W w:=by
 have ZZX:=af kJ;have HM:=af kK;clear kJ kK;go_in;go_upto_region 2 with (fail)
 obtain⟨w1,df⟩:=aq (W.alloc (.cells #[.int .i64 1,.int .i64 1,.int .i64 1] 3));rw[<-df];obtain⟨sc,hsc⟩:∃sc:List Value,sc=[.int .i64 1,.int .i64 0,.int .i64 0,.int .i64 0,.int .i64 0,.int .i64 3,.string ⟨#[]⟩,.int .i64 0,.string ⟨#[]⟩,.slice none 0 0,.int .i64 1,.int .i64 1,.int .i64 0,.int .i64 0,.int .i64 0,.int .i64 4,.string ⟨#[]⟩,.int .i64 0,.string ⟨#[]⟩,.slice none 0 0,.int .i64 3,.int .i64 2,.int .i64 0,.int .i64 1,.int .i64 0,.int .i64 0,.string ⟨#[43]⟩,.int .i64 0,.string ⟨#[]⟩,.slice none 0 0,.int .i64 8,.int .i64 0,.int .i64 2,.int .i64 0,.int .i64 0,.int .i64 0,.string ⟨#[]⟩,.int .i64 0,.string ⟨#[]⟩,.slice none 0 0]:=⟨_,rfl⟩;obtain⟨w2,hw2⟩:=aq (w1.alloc (.cells sc.toArray 57));obtain⟨w3,hw3⟩:=aq (w2.alloc (.cells #[.string ⟨#[109,97,105,110]⟩,.int .i64 0,.slice (some ⟨W.heap.size,0,none⟩) 3 3,.slice (some ⟨W.heap.size+1,0,none⟩) 4 4] 55));obtain⟨w4,hw4⟩:=aq (w3.alloc (.cells #[.slice (some ⟨W.heap.size+1+1,0,none⟩) 1 1] 28));have hs1:w1.heap.size=W.heap.size+1:=by rw[df];simp
 have hs2:w2.heap.size=W.heap.size+1+1:=by rw[hw2];simp[hs1]
 have hs3:w3.heap.size=W.heap.size+1+1+1:=by rw[hw3];simp[hs2]
 have aO:ag ai W w1:=by rw[df];exact ay.alloc _
 have aN:ag ai w1 w2:=by rw[hw2];exact ay.alloc _
 have aR:ag ai w2 w3:=by rw[hw3];exact ay.alloc _
 have bX:ag ai w3 w4:=by rw[hw4];exact ay.alloc _
 have hb1:aw w4 W.heap.size [.int .i64 1,.int .i64 1,.int .i64 1] 3:=by
  have:aw w1 W.heap.size [.int .i64 1,.int .i64 1,.int .i64 1] 3:=by rw[df];exact aw.new W _ _
  exact this.mods ((aN.trans aR).trans bX) id
 have hb2:aw w4 (W.heap.size+1) sc 57:=by
  have:aw w2 w1.heap.size sc 57:=by rw[hw2];exact aw.new w1 _ _
  rw[<-hs1];exact this.mods (aR.trans bX) id
 have hb3:aw w4 (W.heap.size+1+1) [.string ⟨#[109,97,105,110]⟩,.int .i64 0,.slice (some ⟨W.heap.size,0,none⟩) 3 3,.slice (some ⟨W.heap.size+1,0,none⟩) 4 4] 55:=by
  have:aw w3 w2.heap.size [.string ⟨#[109,97,105,110]⟩,.int .i64 0,.slice (some ⟨W.heap.size,0,none⟩) 3 3,.slice (some ⟨W.heap.size+1,0,none⟩) 4 4] 55:=by rw[hw3];exact aw.new w2 _ _
  rw[<-hs2];exact this.mods bX id
 have hb4:aw w4 (W.heap.size+1+1+1) [.slice (some ⟨W.heap.size+1+1,0,none⟩) 1 1] 28:=by
  rw[<-hs3,hw4];exact aw.new w3 _ _
 have IK:ag ai W w4:=((aO.trans aN).trans aR).trans bX;have hF:iM w4 ai (.slice (some ⟨W.heap.size+1+1,0,none⟩) 1 1) [nY]:=by
  refine ab3 (F:=nY) hb3 ?_ ?_
  ·refine aeZ (l:=nY.types) (c:=3) hb1 (fun i x hx=>?_) (anD _) (by unfold maxLen;omega)
   match i,hx with
   | 0,hx=>cases hx;rfl
   | 1,hx=>cases hx;rfl
   | 2,hx=>cases hx;rfl
   | i+3,hx=>simp[nY]at hx
  ·refine ajV (l:=nY.steps) (c:=4) hb2 (by rw[hsc];rfl) (fun s hs=>?_) (anD _) (by unfold maxLen;omega)
   have:s=⟨1,0,0,0,0,3,[],0,[],[]⟩\/s=⟨1,1,0,0,0,4,[],0,[],[]⟩\/s=⟨3,2,0,1,0,0,[43],0,[],[]⟩\/s=G8:=by
        simpa [nY,Em] using hs
   rcases this with rfl|rfl|rfl|rfl <;> rfl
 have ZZY:=af (Mu [nY] (W.heap.size+1+1+1) _ w4 (hb4.ah 0) hF (fun f hf=>by rw[anS]at hf;rw[hf];exact Xj) (fun f hf=>by rw[anS]at hf;rw[hf];exact Xh) (ZZX.mods IK) (HM.mods IK) true PJ.right.symm);have dV:=af IK;have e4:(w3.alloc (.cells #[.slice (some ⟨W.heap.size+1+1,0,none⟩) 1 1] 28))=w4:=hw4.symm;rw[hsc]at hw2;have e2:=hw2.symm;rw[e2,<-hw3,<-hw4];clear df hw2 hw3 hw4 e2 e4 hs1 hs2 hs3 aO aN aR bX hb1 hb2 hb3 hb4 IK hF hsc;go_wp2_with fail;refine ZZY.mono ?_;rintro e aJ ⟨-,xt⟩;obtain⟨db,qR,rfl,hd,Dv,bM,-⟩:=xt trivial;have MH:Good [jH nY]:=ym.good _ PJ;have Nh:=(ZZX.mods dV).mods bM;have NR:=(HM.mods dV).mods bM;have Dv:iM aJ ai qR [jH nY]:=Dv;have NN:∀f∈[jH nY],tS f:=fun f hf=>by rw[anS]at hf;rw[hf];exact (Mr ajY).ok
 have B7:=fun w (hm:ag ai aJ w)=>Pq [jH nY] db qR w (hm.cellOf hd id) (Dv.mods hm (fun _ _ k=>k)) (Nh.mods hm) (NR.mods hm) (fun f hf s hs=>((NN f hf).steps s hs).cL.2.2.2.2.2.2)
 rw[MH.right]at B7;have dG:jL [jH nY]=2:=by rw[jL,aj7 Xk];rfl
 have hst:=fun w (hm:ag ai aJ w)=>KD [jH nY] db qR w (hm.cellOf hd id) (Dv.mods hm (fun _ _ k=>k)) (by rw[dG];omega)
 rw[dG]at hst;have hrun:=fun w (hm:ag ai aJ w)=>O0 NN 4 [] 10 (1,7,[]) (aj5 MH (by rw[ym.pass.name];rfl) (by rw[ym.pass.types];decide) Xk 8) db qR (.slice none 0 0) w (hm.cellOf hd id) (Dv.mods hm (fun _ _ k=>k)) (Nh.mods hm) (NR.mods hm) ⟨none,0,0,rfl,rfl,anD _,anC _,fun i x hx=>by simp at hx⟩ (fun n c h=>by cases h;rfl) (anC _) (by omega) (by omega)
 have xX:=af B7;have HST:=af hst;have sV:=af hrun;have dx:=af bM;clear xt hd Dv bM MH Nh NR NN B7 dG hst hrun ZZY;go_wp2_with fail;refine (xX _ ay).mono ?_;rintro e bw ⟨rfl,bG⟩;go_wp2_with fail;refine (HST _ bG).mono ?_;rintro e a7 ⟨rfl,dK⟩;have dK:=bG.trans dK;go_wp2_with fail;refine (sV _ dK).mono ?_;rintro e fg ⟨u,rfl,⟨aG,aF,rfl,-⟩,hP⟩;have ml:=af ((dV.trans dx).trans (dK.trans hP));clear bG dK hP;have oV:=abZ 1 7 (.slice aG 0 aF);go_wp2_with fail;go_ret;exact⟨rfl,ml⟩
theorem aa9 {x:Int×Int×List Int} (h:aB.sO W x v):sO W x v:=h
theorem ag1 {l:List Int} (h:bB.LM W v l):∀x∈l,di x:=by
 obtain⟨a,n,c,rfl,h1,h2,h3,h4,h5,-⟩:=h;exact h5
theorem iP.zh.args {L:List aB.Fn} (h:iP.zh L):∀F∈cI L,∀s∈F.steps,s.args.length<=1000000:=by
 intro F hF s hs;rcases ((h.steps F hF).1 s hs).many with h7|h0
 · have hc:=h.code;unfold p9 at hc;simp only[Bool.and_eq_true,decide_eq_true_eq,List.all_eq_true]at hc;have hr:=hc.1.2 F hF;unfold l4 at hr;simp only[Bool.and_eq_true,decide_eq_true_eq,List.all_eq_true]at hr;have hx:=hr.2 s hs;unfold cx at hx;rw[if_neg (by omega),if_pos h7]at hx
   cases hq:(cI L).find? (fun g=>g.name==s.name) with
   |none=>rw[hq]at hx;cases hx
   |some g=>
    rw[hq]at hx;simp only[Bool.and_eq_true,decide_eq_true_eq]at hx;have:=(h.steps g (List.mem_of_find?_eq_some hq)).2.2.2.2.2.2;omega
 · rw[h0];simp
theorem SH (h:iP.zh L):Good (cI L):=⟨h.code,fun F hF x hx=>((SG h F hF).steps x hx).cL.2.2.2.2.2.1⟩
theorem SM {L:List ar} (hg:Good L) (aZ:∀f∈L,tS f) (cC:∀f∈L,∀s∈f.steps,s.args.length<=1000000):∀f∈L.map jH,tS f/\∀s∈f.steps,s.args.length<=1000000:=by
 intro f hf;obtain⟨F,hF,rfl⟩:=aoO.1 hf;exact⟨(Mr ⟨aZ F hF,⟨L,hg,hF⟩,cC F hF⟩).ok,(Mr ⟨aZ F hF,⟨L,hg,hF⟩,cC F hF⟩).args⟩
theorem Iw:(L:List ar)->jL (L.map jH)<=jL L
 | []=>anD _
 | F::r=>by
   have h1:=ym.len F;have h2:=Iw r;rw[aow,jL,jL];omega
structure H7 (L:List ar):Prop where
 good:Good L
 ok:∀f∈L,tS f
 args:∀f∈L,∀s∈f.steps,s.args.length<=1000000
 many:jL L<=1000000000
theorem H7.fold {L:List ar} (h:H7 L):H7 (L.map jH) :=
 ⟨ym.good L h.good,fun f hf=>(SM h.good h.ok h.args f hf).1,fun f hf=>(SM h.good h.ok h.args f hf).2,aol (Iw L) h.many⟩
theorem aco (h:iP.zh L) (given:List Int) (vS:∀x∈given,di x):∃f x,y5 L f given 150=some x/\(x.1≠6->(∃g,y4 ((cI L).map jH) g given 1510000=some x)/\∃g,y4 (((cI L).map jH).map jH) g given 1510000=some x):=by
 obtain⟨f,x,hx⟩:=aiy L given 150;refine⟨f,x,hx f (anD _),fun h6=>?_⟩;obtain⟨n,hn⟩:=h.same (hx f (anD _)) h6;have hg:=SH h;obtain⟨f1,h1⟩:=ym.run _ hg given vS n 1510000 x (hn n (anD _)) h6;have sg:=ym.good _ hg;obtain⟨f2,h2⟩:=ym.run _ sg given vS f1 1510000 x h1 h6;have hg2:=ym.good _ sg;exact⟨⟨f1,by unfold y4;rw[if_pos sg.right];exact h1⟩,f2,by unfold y4;rw[if_pos hg2.right];exact h2⟩
theorem acp (s:List UInt8) (Mx:Value) (given:List Int) (W:World) (aek:s.length<=9223372036854775807) (hg:ij W ai Mx given) (hg0:∀n c,Mx=.slice none n c->c=0) (vS:∀x∈given,di x) (MP:aB.Laid W) (kJ:n4 W) (kK:mZ W) :
 Calls prog 5 #[aB.str s,Mx] W fun e w=>e=.returned (.bool true)/\ag ai W w:=by
 obtain⟨ga,gn,gc,rfl,BR,adL,T3,Np⟩:=hg;have zr:Hid (ij W ai (.slice ga gn gc) given):=af ⟨ga,gn,gc,rfl,BR,adL,T3,Np⟩;have xT:=af hg0;have ZZX:=af (anw MP (anw kJ kK));have Hx:=af (anw BR vS);unfold maxLen at T3;by_cases acP:gn<=20
 rotate_left
 ·unfold aB.str
  have sg:(gn:Int) > 20:=by omega
  clear hg0 MP kJ kK Np BR acP vS;go_in;go_wp2_with fail;go_ret;exact⟨rfl,by first|exact ag.refl _ _|exact ay.drew⟩
 have sg:¬(gn:Int) > 20:=by omega
 have AX:=af (acb W kJ kK);have bP:=af (fun (w:World) (hm:ag ai W w)=>aic s w (ZZX.1.next hm) aek);unfold aB.str at *;clear hg0 MP kJ kK Np BR vS;go_in;go_wp2_with fail;refine AX.mono ?_;rintro e w1 ⟨rfl,aO⟩;have aD:=af aO;clear aO AX;go_wp2_with fail;refine (bP w1 aD).mono ?_;rintro e w2 ⟨⟨L,a,c,rfl,fM,Jw,I6,Dx,-⟩|⟨a,n,c,rfl⟩,aN⟩
 rotate_left
 ·have bJ:=af (aD.trans aN)
  clear aN;go_wp2_with fail;go_ret;exact⟨rfl,by first|exact bJ|exact bJ.drew⟩
 have BP:=abS Jw fM I6;obtain⟨f,⟨x1,x2,o⟩,hr1,hr2⟩:=aco BP given Hx.2;have bb:=af Dx;have bJ:=af (aD.trans aN);obtain⟨bf,fo⟩:=aq (L.length);rw[<-fo]at bb;rw[<-fo];have AX:=af (afN L (.slice a bf c) w2 bb BP.low (by have:=(Pn Jw).few;omega) (R9 I6 _ w2 bb));have Q0:=af (fun (w:World) (hm:ag ai w2 w)=>aiw Jw I6 f given 150 (x1,x2,o) hr1 (.slice a bf c) (.slice ga gn gc) w (bb.mods hm (fun _ _ f=>f)) (zr.mods ((bJ.trans hm)) (fun _ _ f=>f)) xT (by have:=Hx.1;omega) (by decide) (by decide));have qZ:H7 (cI L):=⟨SH BP,SG BP,BP.args,(abT BP).2⟩;have bA:=af (anw qZ (anw qZ.fold qZ.fold.fold));have bI:=af hr2;clear BP hr1 hr2 I6 Jw Dx aN fo qZ bP;obtain⟨Bd,MN⟩:=ae (cI L);obtain⟨zA,tj⟩:=ae (Bd.map jH);obtain⟨E5,hL2⟩:=ae (zA.map jH);have iT:=af (anw (Iw Bd) (Iw zA));rw[MN,tj,hL2]at bA bI;rw[tj,hL2]at iT;unfold Rk at AX;rw[MN]at AX;go_wp2_with fail;refine AX.mono ?_;rintro e w3 ⟨cb,lv,rfl,hcb,hlv,aR⟩;have cv:=af aR;have aU:=af (anw hcb hlv);have wW:=af (fun (w:World) (hm:ag ai w3 w)=>(⟨(ZZX.2.1.mods (bJ.trans aR)).mods hm,(ZZX.2.2.mods (bJ.trans aR)).mods hm⟩:n4 w/\mZ w));have xt:=Mu Bd cb lv w3 hcb hlv bA.1.ok bA.1.args (wW w3 ay).1 (wW w3 ay).2 true bA.1.good.right.symm;rw[tj]at xt;have ZZY:=af xt;clear hcb hlv aR xt AX;go_wp2_with fail;refine ZZY.mono ?_;rintro e w4 ⟨-,yM⟩;obtain⟨db,qR,rfl,Nc,Nd,bX,-⟩:=yM trivial;have dV:=af bX;have HD:=af (anw Nc Nd);have xt:=Mu zA db qR w4 Nc Nd bA.2.1.ok bA.2.1.args (wW w4 bX).1 (wW w4 bX).2 true bA.2.1.good.right.symm;rw[hL2]at xt;have Qk:=af xt;clear Nc Nd bX xt ZZY yM;go_wp2_with fail;refine Qk.mono ?_;rintro e aJ ⟨-,yM⟩;obtain⟨Ix,Iz,rfl,hgb,Nq,bM,-⟩:=yM trivial;have dx:=af (dV.trans bM);have qA:=af (fun (w:World) (hm:ag ai aJ w)=>KD Bd cb lv w ((dx.trans hm).cellOf aU.1 id) (aU.2.mods (dx.trans hm) (fun _ _ f=>f)) bA.1.many);have Hu:=af (fun (w:World) (hm:ag ai aJ w)=>KD zA db qR w ((bM.trans hm).cellOf HD.1 id) (HD.2.mods (bM.trans hm) (fun _ _ f=>f)) bA.2.1.many);have pQ:=af (fun (w:World) (hm:ag ai aJ w)=>KD E5 Ix Iz w (hm.cellOf hgb id) (Nq.mods hm (fun _ _ f=>f)) bA.2.2.many);have zm:=af (fun (w:World) (hm:ag ai aJ w)=>(⟨(bM.trans hm).cellOf HD.1 id,HD.2.mods (bM.trans hm) (fun _ _ f=>f),wW w (dx.trans hm)⟩:w.cell? ⟨db,0,none⟩=some qR/\iM w ai qR zA/\n4 w/\mZ w));have wT:=af (fun (w:World) (hm:ag ai aJ w)=>(⟨hm.cellOf hgb id,Nq.mods hm (fun _ _ f=>f),wW w (dx.trans hm)⟩:w.cell? ⟨Ix,0,none⟩=some Iz/\iM w ai Iz E5/\n4 w/\mZ w));obtain⟨n0,sr⟩:=aq (jL Bd);obtain⟨n1,la⟩:=aq (jL zA);obtain⟨n2,su⟩:=aq (jL E5);rw[<-sr]at qA iT;rw[<-la]at Hu iT;rw[<-su]at pQ iT;clear hgb Nq bM yM Qk sr la su MN tj hL2;have e1:=iT.1;have e2:=iT.2;have q1:¬(n1:Int) > (n0:Int):=by omega
 have q2:¬(n2:Int) > (n1:Int):=by omega
 have q3:decide (n0<n1)=false:=by rw[decide_eq_false_iff_not];omega
 have q4:decide (n1<n2)=false:=by rw[decide_eq_false_iff_not];omega
 clear e1 e2;go_wp2_with fail;refine (Hu aJ ay).mono ?_;rintro e bw ⟨rfl,bG⟩;have eL:=af bG;clear bG;go_wp2_with fail;refine (qA bw eL).mono ?_;rintro e a7 ⟨rfl,dK⟩;have gh:=af (eL.trans dK);clear dK;go_wp2_with fail;refine (pQ a7 gh).mono ?_;rintro e fg ⟨rfl,hP⟩;have ml:=af (gh.trans hP);clear hP;go_wp2_with fail;refine (Hu fg ml).mono ?_;rintro e fW ⟨rfl,gT⟩;have oF:=af (ml.trans gT);clear gT eL gh ml;go_wp2_with fail;refine (Q0 fW (cv.trans (dx.trans oF))).mono ?_;rintro e sL ⟨u,rfl,hu,Aa⟩;have HU:=af (aa9 hu);have YL:=af (oF.trans Aa);clear hu Aa Q0 oF qA Hu pQ;obtain⟨bL,xn,ba,rfl,dM,aeF,aeG,cU,hx0⟩:=HU.form;simp only at cU dM ⊢;clear dM cU hx0 aeF aeG;obtain⟨vB,IX⟩:=aq (sL.alloc (.cells #[x1,x2,.slice bL xn ba] 31));have yD:ag ai sL vB:=by rw[IX];exact ay.alloc _
 have qb:aw vB sL.heap.size [x1,x2,.slice bL xn ba] 31:=by rw[IX];exact aw.new sL _ _
 obtain⟨q,hq⟩:=aq (sL.heap.size);rw[<-hq]at qb;have HJ:=af (YL.trans yD);obtain⟨Si,Sj,Sk⟩:=qb.gF;have Q9:=af (HU.mods yD);clear yD qb HU;go_upto_region 18 with (fail)
 rw[<-IX,<-hq];clear IX hq;have QK:=af (bJ.trans (cv.trans (dx.trans HJ)));by_cases h6:x1=6
 ·subst h6
  have g6:((6:Int)==6)=true:=rfl;go_region
  all_goals
   go_wp2_with fail;go_ret;exact⟨rfl,by first|exact QK|exact QK.drew⟩
 ·have g6:(x1==6)=false:=by rw[beq_eq_false_iff_ne];exact h6
  obtain⟨⟨g1,sg⟩,g2,hg2⟩:=bI.out h6;have EW:=af (fun (w:World) (hm:ag ai aJ w)=>O0 bA.2.1.ok g1 given 1510000 (x1,x2,o) sg db qR (.slice ga gn gc) w (zm w hm).1 (zm w hm).2.1 (zm w hm).2.2.1 (zm w hm).2.2.2 (zr.mods (bJ.trans (cv.trans (dx.trans hm))) (fun _ _ f=>f)) xT (by have:=Hx.1;omega) (by decide) (by decide));have vg:=af (fun (w:World) (hm:ag ai aJ w)=>O0 bA.2.2.ok g2 given 1510000 (x1,x2,o) hg2 Ix Iz (.slice ga gn gc) w (wT w hm).1 (wT w hm).2.1 (wT w hm).2.2.1 (wT w hm).2.2.2 (zr.mods (bJ.trans (cv.trans (dx.trans hm))) (fun _ _ f=>f)) xT (by have:=Hx.1;omega) (by decide) (by decide));clear h6 sg hg2 zm wT
  go_region_held3 (fun w'=>Hid (ag ai vB w')/\w'.cell? ⟨q,0,none⟩=some (.int .i64 x1)/\w'.cell? ⟨q,1,none⟩=some (.int .i64 x2)/\w'.cell? ⟨q,2,none⟩=some (.slice bL xn ba))
   (first
        | exact⟨af ay.drew,Si,Sj,Sk⟩
        | assumption
        | (go_split_ands;exact⟨af (ag.trans (Hid.out ‹_›) hm),hm.cellOf ‹_› id,hm.cellOf ‹_› id,hm.cellOf ‹_› id⟩))
   ((first
     | (go_at_call 9;go_split_ands;with_reducible refine (EW.out _ (HJ.out.trans (Hid.out ‹Hid (ag ai vB _)›))).mono ?_;rintro e fW ⟨u,rfl,hu,hm⟩)
     | (go_at_call 9;go_split_ands;with_reducible refine (vg.out _ (HJ.out.trans (Hid.out ‹Hid (ag ai vB _)›))).mono ?_;rintro e fW ⟨qw,rfl,B_,hm⟩)
     | (go_at_call 12;go_split_ands;refine (WQ (x1,x2,o) _ _ _ B_ (Q9.mods (Hid.out ‹Hid (ag ai vB _)›))).mono ?_;rintro e ji ⟨rfl,hm⟩)
     | (go_at_call 12;go_split_ands;refine (WQ (x1,x2,o) _ _ _ hu (Q9.mods (Hid.out ‹Hid (ag ai vB _)›))).mono ?_;rintro e oy ⟨rfl,hm⟩)))
  all_goals
   go_split_ands;have oF:=af (bJ.trans (cv.trans (dx.trans (HJ.trans (Hid.out (‹Hid (ag ai vB ji)›:Hid (ag ai vB ji)))))));go_wp2_with fail;go_ret;exact⟨rfl,by first|exact oF|exact oF.drew⟩
end aW
namespace aB
open Go.RowKit bB Go.Proofs.Tryz
theorem ajX {s:ByteArray} (h:s.size<=maxLen):s.data.toList.length<=9223372036854775807:=by
 unfold maxLen at h;simpa using h

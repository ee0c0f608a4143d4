/- A part of what stands behind. -/
import Derived.Test.YtnicpmoanjddbaaGreatDoorFp14
import Derived.Maps.RangeWalk
set_option maxRecDepth 100000
set_option maxHeartbeats 4000000
set_option linter.all false
namespace Go.Proofs.YtnicpmoanjddbaaGreatDoor
namespace aW
open Go.RowKit bB Go.Maps aB Go.Proofs.Tryz
variable {L:List ar} {W w:World} {F:ar} {f b B aF m i size n q6 q7 on:Nat} {s:aC} {v u:Value} {x:ax} {aG:Option Addr} {e:TypeId} {R:Ending->World->Prop} {tmps:Array Value} {w1 w2:Int}
theorem WM (aZ:cx L F x=true) (h2:x.code≠2) (h7:x.code≠7):bu F ((cp x.code).getD 0 0) x.dst=true/\bu F ((cp x.code).getD 1 0) x.a=true:=by
 unfold cx at aZ;rw[if_neg h2,if_neg h7]at aZ;split at aZ
 ·cases aZ
 ·simp only[anX]at aZ
  exact⟨aZ.1.1.1.1.1,aZ.1.1.1.1.2⟩
theorem VN {α β zf:Type} (x:cF α) (f:α->aC->cF β) (g:β->aC->cF zf):aS (aS x f) g=aS x (fun a s=>aS (f a s) g):=by
 rcases x with _|⟨_|a,s⟩ <;> rfl
theorem aau (hL:zj L) (aZ:cx L F x=true) (h7:x.code=7):∃G,oh L x.name=some G/\x.args.length<=G.types.length/\bO F x.dst > 0/\∀p∈x.args,bO F p > 0:=by
 unfold cx at aZ;rw[if_neg (by omega),if_pos h7]at aZ;split at aZ
 ·cases aZ
 ·rename_i G hG
  simp only[anX,decide_eq_true_eq,beq_iff_eq]at aZ;obtain⟨⟨h1,h2⟩,h3⟩:=aZ;have yu:G∈L:=aoc hG;have hZ:=hL.fn yu;unfold l4 at hZ;simp only[anX,aoC,Bool.or_eq_true,beq_iff_eq]at hZ;have hlen:x.args.length<=G.types.length:=by
   have:=congrArg List.length h3;simp only[anR,anP]at this;omega
  refine⟨G,hG,hlen,by omega,fun p hp=>?_⟩;have hm:bO F p∈x.args.map (bO F):=aoO.2 ⟨p,hp,rfl⟩;rw[h3]at hm;have:=hZ.1.1.2 _ (List.mem_of_mem_take hm);omega
theorem agt (a:Int) (o:Option Addr) (n c:Nat):∀u∈[Value.int .i64 a,.slice o n c],u.oneCell'=true:=by
 intro u hu;simp only[anW,an1,or_false]at hu;rcases hu with rfl|rfl <;> rfl
theorem agw (W:World) (u v:Value) (e:TypeId):∀j x,[u,v][j]?=some x->(W.alloc (.cells #[u,v] e)).cell? ((⟨W.heap.size,0,none⟩:Addr).add j)=some x:=by
 intro j x hj;have hb:=aw.new W #[u,v] e;rcases j with _|_|j
 ·exact hb.cell (i:=0) (v:=x) hj
 ·have h:=hb.cell (i:=1) (v:=x) hj
  simpa [Addr.add] using h
 ·simp at hj
def PX (W:World) (g:Nat) (jx:Option Addr) (m:Nat) (cs:List Value):Prop:=0<m->(some ⟨g,0,none⟩:Option Addr)=some ⟨g,0,none⟩/\∃ad,jx=some ad/\∀j v,cs[j]?=some v->W.cell? (ad.add j)=some v
theorem aaU {g:Nat} {jx:Option Addr} {cs:List Value} (h:PX W g jx m cs):0<m->(some ⟨g,0,none⟩:Option Addr)=some ⟨g,0,none⟩/\∃ad,jx=some ad/\∀j v,cs[j]?=some v->W.cell? (ad.add j)=some v:=h
theorem OU:(A:List ax)->(l:Int)->(i k B:Nat)->k<=B->i+A.length<=B->fq A l i k<=B
 | [],_,_,_,_,hk,_=>hk
 | x::r,l,i,k,B,hk,hB=>by
   simp only[fq];simp only[anK]at hB;refine OU r l (i+1) _ B ?_ (by omega);split <;> omega
theorem acH {v:bp} (hx:F.steps[i]?=some x):dw L (f+1) s F v i=aS (eI s) fun _ s =>
 if x.code=4 then dw L f s F v (jD F x.label+1)
 else if x.code=5 then (if (v.get x.a).n=0 then dw L f s F v (jD F x.label+1) else dw L f s F v (i+1))
 else if x.code=7 then aS (dS L f s x.name (x.args.map v.get)) fun n s=>dw L f s F (v.put x.dst (bN n)) (i+1)
 else if x.code=8 then a6 (v.get x.a).n s
 else aS (cq v x s) fun v s=>dw L f s F v (i+1):=by
 simp only[dw,hx]
theorem acI {v:bp} (hx:F.steps.length<=i):dw L (f+1) s F v i=a6 0 s:=by
 simp only[dw,aoG hx]
theorem J8 {ak:Nat} {P M:Nat->Prop} {A:List (Nat×Nat)} (h:bt W b ak L P M A s):(intOf ((W.cell? ⟨b,2,none⟩).getD (.int .i64 0))).toNat=s.fuel:=by
 obtain⟨iv,ov,hb,-⟩:=h.blk;rw[hb.ah 2];simp[intOf]
theorem age (hL:zj L) (ih:∀k,k<=f->sN L k):sN L (f+1):=by
 intro g vs b ak base P M A s W lv r h hv gS hfn hr;obtain⟨F,hF,fA⟩:=hfn;have yt:F∈L:=aoc hF;obtain⟨aeo,Oa,N1⟩:=hL.sizes yt;obtain⟨iv,ov,hb,-⟩:=h.blk;have c3:W.cell? ⟨b,3,none⟩=some (.int .i64 s.calls):=hb.cell rfl;have z3:=hb.free 3;have hbl:=h.old b h.has;have zZ:kI L g=F:=by unfold kI;rw[hF];rfl
 simp only[dS,zZ]at hr;by_cases oU:s.calls=40
 ·rw[if_pos oU]at hr
  obtain rfl:=(anz hr).symm;rw[oU]at c3;have aP:=af h;clear hr hb hv hbl h N1;unfold str dP;go_in;go_wp2_with fail;refine (kT 5 _).mono ?_;rintro e w ⟨⟨aV,rfl⟩,rfl⟩;go_wp2;exact⟨rfl,⟨aV,rfl⟩,M,A,aP,Ext.refl _ _ _,anB _⟩
 ·rw[if_neg oU]at hr
  have pT:=af hr;have adt:=h.calls;have hc1:(((s.calls:Nat):Int)==40)=false:=by simp;omega
  have I4:Hid ((s.calls:Int)+1=((s.calls+1:Nat):Int)):=af (by omega);obtain⟨W2,hW2⟩:=aq (W.setCell ⟨b,3,none⟩ (.int .i64 ((s.calls:Int)+1)));have bI:Hid (bt W2 b ak L P M A { s with calls:=s.calls+1 }):=af (by
   rw[hW2,I4.out];exact h.Cz _ (by omega))
  have cO:Hid (Ext ai M M W W2):=af (by rw[hW2];exact h.ext ai 3 _);have jC:=af (hv.ext cO (anB A));obtain⟨ae5,lg,hb2,-⟩:=bI.blk;have e0:W2.cell? ⟨b,0,none⟩=some (.map (some ak)):=hb2.cell rfl;obtain⟨nf,XU,hmap,nN⟩:=bI.fns.2;have tu:=hmap.look (t:=60) underlying60 (akH _) g gS;obtain⟨ta,tc,sa,sc,hval,iw,B8⟩:=nN g F hF;rw[hval]at tu;have aZ:=hL.ok F yt;obtain⟨jx,lc,cs,rfl,iQ,kg,kx,TK⟩:=jC.at_;obtain⟨tn,dL⟩:=aq (F.types.length);obtain⟨sn,dG⟩:=aq (F.steps.length);obtain⟨bf,fo⟩:=aq (vs.length);obtain⟨W3,hW3⟩:=aq (W2.alloc (.cells #[str F.name,F.params,.slice ta F.types.length tc,.slice sa F.steps.length sc] 55));have cv:Hid (ag ai W2 W3):=af (by rw[hW3];exact ay.alloc _);have gB:Hid (aw W3 W2.heap.size [str F.name,F.params,.slice ta F.types.length tc,.slice sa F.steps.length sc] 55):=af (by rw[hW3];exact aw.new W2 _ _);have tW:=af (afo F (.agg #[str F.name,F.params,.slice ta F.types.length tc,.slice sa F.steps.length sc]) W3 ⟨ta,tc,sa,sc,rfl,iw.mods (cv.mono fun _ _ k=>k.elim) (fun _ _ k=>k.elim),B8.mods (cv.mono fun _ _ k=>k.elim) (fun _ _ k=>k.elim)⟩ (fun x hx=>(aZ.steps x hx).cL.2.2.2.2.2.2) Oa);have Y6:=af B8;have lB:=af dG;have eR:=af dL;have cY:=af fo;have mW:=af aZ;have Y3:=af N1;have kX:=af (anw iQ (anw kg (anw kx TK)));have aes:(tn:Int)<=3000:=by omega
  have vk:Hid (tn<=3000):=af (by omega);have hlt:(bf:Int)<=(tn:Int):=by omega
  obtain⟨b0,b1,b2,b3⟩:=gB.gG;have Tx:W2.heap.size=W.heap.size:=by rw[hW2];simp[World.setCell]
  have qJ:=af Tx;have n6:=af yt;have lz:=af ih;have xY:=af Oa;rw[<-dL,<-dG]at hW3 tu tW;rw[<-dL]at b2;rw[<-dG]at b3;obtain⟨i0,hi,hz0,hz1,hz2⟩:=info_parts agz;have aI:=af (anw hi (anw hz0 (anw hz1 hz2)));rw[<-fo];clear hb hr hF fA hmap nN hval iw B8 aZ dG dL fo hb2 iQ kg kx TK N1 hv zZ yt aeo Oa ih oU Tx hi hz0 hz1 hz2;unfold str at *;go_in;go_upto_region 4 with (fail)
  rw[<-hW2];clear hW2 c3 z3;go_upto_region 5 with (fail)
  rw[<-hW3];clear hW3 e0 tu;go_wp2_with fail;refine tW.mono ?_;rintro e w4 ⟨aQ,xa,rfl,iE,jr,BI,bX⟩;clear b0 b1 b3;have dV:=af bX;have pR:=af iE;have lV:=af jr;have b2:w4.cell? ⟨W2.heap.size,2,none⟩=some (.slice ta tn tc):=dV.cellOf b2 id;obtain⟨Z,IY⟩:∃Z:List Value,Z=(madeCells rL.cells (tn*2)).toList:=⟨_,rfl⟩;have l6:(Instr.makeSlice 118 (.int .i64 (tn:Int)) (.int .i64 (tn:Int))).run prog w4=.ok (.slice (some ⟨w4.heap.size,0,none⟩) tn tn) (w4.alloc (.cells Z.toArray 123)):=by
   have h:=Ef (P:=prog) 118 123 i0 rL underlying118 aI.1 aI.2.1 .i64 .i64 tn (by rw[aI.2.2.2];omega) (by omega) w4;rw[h,aI.2.2.1,IY]
  obtain⟨cD,cN⟩:=aq (w4.alloc (.cells Z.toArray 123));have dx:Hid (ag ai w4 cD):=af (by rw[cN];exact ay.alloc _);have pQ:Hid (cD.heap[w4.heap.size]?=some (.cells Z.toArray 123 (0,0))):=af (by rw[cN];exact heap_alloc_new w4 _);have P8:Hid (Below w4.heap.size w4 cD):=af (by rw[cN];exact (Below.refl _ _).alloc (anD _) _);have bF:=af IY;have Qm:Hid (0+cs.length<=Z.length):=af (by rw[IY,kX.1,<-cY.out];simp[madeCells];omega);have QV:Hid (Nat.min bf tn=bf):=af (aoL (by omega));clear IY;have P9:Hid (∀ad,jx=some ad->0<bf->∀j v,cs[j]?=some v->cD.cell? (ad.add j)=some v):=af (by
   intro ad had hp j v hj;obtain⟨LW,e1,e2⟩:=kX.2.1 (by have:=cY.out;omega);rw[had]at e1;obtain rfl:=anz e1;exact (cv.trans (dV.trans dx)).cellOf (e2 j v hj) id)
  have oH:Hid (PX cD w4.heap.size jx (Nat.min bf tn) cs):=af (by
   intro hp;rw[QV.out]at hp;obtain⟨LW,e1,e2⟩:=kX.2.1 (by have:=cY.out;omega);exact⟨rfl,LW,e1,P9 LW e1 hp⟩)
  have lx:Hid (cs.length=Nat.min bf tn*2):=af (by
   have h1:=kX.1;have h2:=cY.out;have h3:Nat.min bf tn=bf:=aoL (by omega);rw[h3,h1,h2])
  clear iE jr BI bX tW;go_upto_region 7 with (fail)
  rw[<-cN];clear l6 b2 cN;have t_:=af (cv.trans (dV.trans dx));go_wp2_with ((with_reducible refine akB rfl (.tmp 40) (.tmp 41) 118 118 rfl 123 2 underlying118 agA (some ⟨w4.heap.size,0,none⟩) jx tn tn bf lc rfl rfl w4.heap.size 0 Z 123 pQ.out cs lx.out (aaU oH.out) Qm.out kX.out.2.2.2 w4.heap.size w4 P8.out (anD _) ?_);intro bw wS zP;have ej:=af zP;clear zP;refine Hid.out ?_);refine af ?_;have eL:Hid (ag ai W2 bw):=af (cv.trans (dV.trans (ag.Kc ej)));have MR:ag ai w4 bw:=ag.Kc ej;have rT:Hid (EC W P M A b ak w4.heap.size W2.heap.size aQ L F ta sa tc sc s.calls r f 0 (gR vs tn) M A { s with calls:=s.calls+1 } bw):=af (by
   have Jh:W2.heap.size<w4.heap.size:=by
     have h1:=dV.size;have h2:=gB.lt;omega
   have hold:∀k,M k->k<W2.heap.size:=bI.old;have Nl:∀k,P k->k<W2.heap.size:=bI.given;have gz:∀k,W2.heap.size<=k->¬M k/\¬P k:=fun k hk=>⟨fun hm=>by have:=hold k hm;omega,fun hp=>by have:=Nl k hp;omega⟩
   have al3:=pR.lt;have hs3:W2.heap.size<W3.heap.size:=gB.lt;have jr:=lV.out;have JK:=qJ.out;have hcs:=kX.out;have Uy:=ahy (P:=P) (M:=M) (A:=A) (n:=tn) (vs:=vs) (cs:=cs) (by have:=wS.out;rw[bF.out]at this;exact this) (by have:=cY.out;omega) hcs.1 hcs.2.2.1 (gz _ (by omega)).1 (gz _ (by omega)).2;have Tr:=eR.out;refine⟨by rw[Tr];exact pT,bI.quiet eL,Uy.1,by rw[Uy.2,Tr],cO.trans (Ext.quiet eL),anB _,(gB.mods (dV.trans MR) id),gz _ (anD _),⟨xa,pR.mods MR id⟩,gz _ (by omega),Y6.mods (eL.mono fun _ _ f=>f.elim) (fun _ _ k=>k),⟨by omega,by omega,by omega,by omega,by omega⟩,rfl⟩)
  obtain⟨g0,hg0⟩:=aq (w4.heap.size);obtain⟨q0,DG⟩:=aq (W2.heap.size);rw[<-hg0,<-DG]at rT ⊢;have pS:=af h;clear MR oH lx t_ QV Qm bF P8 pQ dx P9 wS ej eL lV pR dV gB cv kX bI cO jC qJ hbl hc1 I4 aes hlt hg0 DG h pT;go_wp2_with fail
  go_loopw [10] (fun iv wr=>∃k i v M' aK s',k<=f/\iv=.int .i64 ((i:Nat):Int)/\i<=6001/\Hid (EC W P M A b ak g0 q0 aQ L F ta sa tc sc s.calls r k i v M' aK s' wr)) (fun _ wr=>(intOf ((wr.cell? ⟨b,2,none⟩).getD (.int .i64 0))).toNat)
  case atStart=>exact⟨f,0,_,M,A,_,anD _,rfl,by omega,rT⟩
  case round =>
   clear rT;obtain⟨k,i,v,M',aK,s',hk,rfl,hi,HS⟩:=hrel;have yy:(intOf ((wr.cell? ⟨b,2,none⟩).getD (.int .i64 0))).toNat=s'.fuel:=J8 HS.rat;have kY:=af yy;have f3:=HS.box.ah 3;rw[<-lB.out]at f3;obtain⟨jw,amK,hb,-⟩:=HS.rat.blk;have c2:wr.cell? ⟨b,2,none⟩=some (.int .i64 s'.fuel):=hb.cell rfl;have c3:wr.cell? ⟨b,3,none⟩=some (.int .i64 s'.calls):=hb.cell rfl;have z2:=hb.free 2;have z3:=hb.free 3;have nG:=af hk;have lI:=HS.calls;have hcm:Hid ((s'.calls:Int)-1=((s'.calls-1:Nat):Int)):=af (by omega);have hcb:s'.calls<=40:=HS.rat.calls;have xr:s'.fuel<=4000000000000000000:=HS.rat.fuel;clear yy hb lI hk;cases k with
   | zero=>have:=HS.run;simp only[dw,aS]at this;cases this
   | succ k =>
     by_cases hlt:i<sn
     ·have bm:i<F.steps.length:=by rw[<-lB.out];exact hlt
      obtain⟨x,cU⟩:∃x,F.steps[i]?=some x:=⟨_,anx bm⟩;have iF:F.steps[i]=x:=by
       obtain⟨h1,h2⟩:=anA.1 cU;exact h2
      have fp:x∈F.steps:=anF cU;have hrun:=HS.run;rw[acH cU]at hrun;have cA:(i:Int)<(sn:Int):=(by omega);by_cases h0:s'.fuel=0
      ·rw[show eI s'=eP 6 s' by unfold eI;rw[if_pos h0]]at hrun
       obtain rfl:=(anz hrun).symm;rw[h0]at c2;clear hrun cU iF fp bm;unfold dP;go_wp2_with fail;refine (kT 6 _).mono ?_;rintro e bw ⟨⟨aV,rfl⟩,rfl⟩;go_wp2;exact⟨rfl,⟨aV,rfl⟩,M',aK,HS.rat,HS.ext,HS.pre⟩
      ·rw[show eI s'=a6 () { s' with fuel:=s'.fuel-1 } by unfold eI;rw[if_neg h0]]at hrun
       have aj:=af hrun;obtain⟨gs,os,aa,ac,rfl,hcs,cC⟩:=HS.AG.get bm;rw[iF]at hcs cC;have Uz:P gs:=by
        obtain⟨_,_,k1,_,_,_,k2⟩:=HS.AG;obtain⟨gs',os',_,e1,e2,_⟩:=k2 i x cU;obtain⟨rfl,-,-⟩:=Value.slice.inj k1;cases e1;exact Classical.not_not.1 e2
       obtain⟨jN,y1,fB,jA,l_,mP,lQ,ny,ma,jO⟩:=hcs;have hbg:b≠gs:=fun e=>HS.rat.off b HS.rat.has (e ▸ Uz)
       have B3:=mW.steps x fp;have UH:=Y3.out x fp;have oW:i<6000:=(by have:=xY.out;omega);obtain⟨an,eT⟩:=aq (x.args.length);rw[<-eT]at jO;have alN:((s'.fuel:Int)==0)=false:=(by simp;omega);have xo:Hid ((s'.fuel:Int)-1=((s'.fuel-1:Nat):Int)):=af (by omega);obtain⟨yc,yw⟩:=aq (wr.setCell ⟨b,2,none⟩ (.int .i64 ((s'.fuel:Int)-1)));obtain⟨iX,q8⟩:=aq (yc.alloc (.cells (aY x (.slice aa an ac)).toArray 57));have j7:bt yc b ak L P M' aK { s' with fuel:=s'.fuel-1 }:=by
        rw[yw,xo.out];exact HS.rat.Pz _ (by omega)
       have zn:Ext ai M' M' wr yc:=(by rw[yw];exact HS.rat.ext ai 2 _);have sW:=HS.pl.ext zn id (anB aK);have IL:ag ai yc iX:=(by rw[q8];exact ay.alloc _);have ud:Hid (eD yc iX P M' g0 wr.heap.size (aY x (.slice aa an ac))):=af (by
        have ael:yc.heap.size=wr.heap.size:=(by rw[yw];simp[World.setCell]);rw[q8,<-ael];exact eD.new j7 sW _)
       have kE:=af (j7.quiet IL);have nE:Hid (Ext ai M' M' wr iX):=af (zn.trans (Ext.quiet IL));have ug:=af (sW.ext (Ext.quiet (T:=ai) IL) id (anB aK));have EG:=af (cC.mods (nE.mods.mono fun k _ hk=>hk.elim (fun f=>f.elim) (HS.rat.off k)) (fun _ _ k=>k));have YW:=af B3;have EX:=af UH;have nD:=af eT;have Rc:=af cU;have K3:=af (J8 kE);have sT:=af bm;obtain⟨amY,Jf⟩:=HS.mH;have Jf:=Jf.mods nE.mods (fun f=>f.elim id HS.nb.1);have hlk:=Jf.look (t:=120) underlying120 (e:=3) (by kernel_rfl) B3.cL.2.2.2.2.2.2;obtain⟨lm,yA⟩:=aq (fq F.steps x.label 0 0);rw[<-yA]at hlk;have Lf:Hid (jD F x.label=lm/\lm<=6000):=af ⟨yA.symm,by rw[yA];exact OU _ _ _ _ _ (by omega) (by have:=xY.out;omega)⟩;have ad0:lm<=6000:=Lf.2;have gS:=ug.out;obtain⟨d0,d1,d2,d3,d4,d5,d6,d7,d8,d9⟩:=ud.blk.gD;clear hrun cU iF fp bm Uz B3 UH eT j7 zn sW IL Jf yA gS cC;unfold aY str at *;go_upto_region 15 with (fail)
       rw[<-yw,<-q8];clear yw q8 jN y1 fB jA l_ mP lQ ny ma jO c2 c3 z2 z3 f3;have u9:=af (fun (k2 i2:Nat) hrun=>HS.next (k2:=k2) (i2:=i2) hrun kE ug HS.len nE (fun _ f=>f.elim) (anB _) HS.calls);by_cases h4:x.code=4
       ·have hX:=aj.out
        simp only[a6,aS,h4,if_true]at hX;rw[h4]at d0;have gi:=af hX;clear hX h4 aj d1 d2 d3 d4 d5 d6 d8 d9;go_wp2_with fail;refine⟨⟨k,lm+1,v,M',aK,_,by have:=nG.out;omega,by go_num,by omega,af (u9 k (lm+1) (by have:=gi.out;rw[Lf.1]at this;exact this))⟩,?_⟩;rw[K3.out,kY.out]
        show s'.fuel-1<s'.fuel
        omega
       ·by_cases h5:x.code=5
        ·have hX:=aj.out
         simp only[a6,aS,if_neg h4,if_pos h5]at hX;obtain⟨pa,jt,ot⟩:=oT (f:=F) (p:=x.a) (t:=1) (by omega) (by have:=(WM EX (by omega) (by omega)).2;rw[h5]at this;simpa [cp] using this);obtain⟨AJ,sL,s7,xf,j0⟩:=ug.get (p:=pa) (by rw[HS.len];exact ot);obtain⟨pK,sB⟩:=j0.num;simp only[Value.agg.injEq,Array.mk.injEq,List.cons.injEq,and_true]at sB;obtain⟨rfl,rfl⟩:=sB;have bg:(pa:Int)<(tn:Int):=(by have:=eR.out;omega);rw[jt]at d2 hX;obtain⟨eV,oX⟩:=aq ((v.get (pa:Int)).n);rw[<-oX]at s7 hX;rw[h5]at d0;have oa:=af hX;clear hX h5 h4 aj d1 d3 d4 d5 d6 d8 d9 j0 ot oX jt;by_cases hz:eV=0
         ·have hX:=oa.out
          simp only[if_pos hz]at hX;have pU:=af hX;have hz1:(eV==0)=true:=(by simp[hz]);clear hX oa hz;go_wp2_with fail;refine⟨⟨k,lm+1,v,M',aK,_,by have:=nG.out;omega,by go_num,by omega,af (u9 k (lm+1) (by have:=pU.out;rw[Lf.1]at this;exact this))⟩,?_⟩;rw[K3.out,kY.out]
          show s'.fuel-1<s'.fuel
          omega
         ·have hX:=oa.out
          simp only[if_neg hz]at hX;have pU:=af hX;have hz1:(eV==0)=false:=(by simp[hz]);clear hX oa hz;go_wp2_with fail;refine⟨⟨k,i+1,v,M',aK,_,by have:=nG.out;omega,by go_num,by omega,af (u9 k (i+1) pU)⟩,?_⟩;rw[K3.out,kY.out]
          show s'.fuel-1<s'.fuel
          omega
        ·by_cases h7:x.code=7
         ·have hX:=aj.out
          simp only[a6,aS]at hX;simp only[if_neg h4,if_neg h5,if_pos h7]at hX;have A_:Hid (aS (dS L k { s' with fuel:=s'.fuel-1 } x.name (x.args.map v.get)) (fun n s=>aS (dw L k s F (v.put x.dst (bN n)) (i+1)) fun n t=>a6 n { t with calls:=t.calls-1 })=some r):=af (by rw[<-hX];exact (VN _ _ _).symm);obtain⟨G,hG,Ta,vV,hka⟩:=aau hL EX h7;obtain⟨dD,nk,sy⟩:=GX vV;have wT:=af (anw hG Ta);have Yz:=af hka;have ql:(dD:Int)<(tn:Int):=(by have:=eR.out;omega);have QU:Hid (dD<v.length):=af (by rw[HS.len];exact sy);have Lp:=af nk;rw[nk]at d1;rw[h7]at d0;have Dp:(an:Int)<=(ac:Int)/\(ac:Int)<=9223372036854775807:=by
               obtain⟨_,_,k1,k2,k3,_⟩:=EG.form;obtain⟨-,-,rfl⟩:=Value.slice.inj k1;have:=nD.out;omega
          have HD:=af (anw d1 d8);clear hX h4 h5 h7 aj hG Ta vV hka sy nk hlk d2 d3 d4 d5 d6 d7;go_wp2_with fail;obtain⟨PQ,rfl⟩:=aq wr
          go_loopw [12,98] (fun lv jw wr=>∃j,j<=an/\jw=.int .i64 ((j:Nat):Int)/\Hid (j1 wr iX.heap.size P M' aK lv ((x.args.take j).map v.get))/\Hid (ag ai iX wr)) (fun _ jw _=>(an-intOf jw).toNat)
          case atStart=>exact⟨0,anC _,rfl,af (j1.none_ _ _ _ _ _),af ay⟩
          case round =>
               obtain⟨j,hj,rfl,Q_,gY⟩:=hrel;obtain⟨zI,I7,Na,TL⟩:=Q_.out;obtain⟨aG,aF,rfl⟩:=y3 I7;have ep:(x.args.take j).length=j:=(by rw[anP];have:=nD.out;omega);rw[anR,ep]at I7 Na ⊢;have Yu:=af ep;have b6:=af I7;have jQ:=af (anw Na TL);clear I7 Na TL ep;by_cases z_:j<an
               ·have z7:j<x.args.length:=by rw[<-nD.out];exact z_
                obtain⟨p,hp⟩:∃p,x.args[j]?=some p:=⟨_,anx z7⟩;have uB:x.args[j]=p:=by
                 obtain⟨h1,h2⟩:=anA.1 hp;exact h2
                obtain⟨bz,rfl,hpl⟩:=GX (Yz p (anF hp));obtain⟨ga,amZ,rfl,BJ⟩:=(EG.mods (gY.mono fun _ _ f=>f.elim) (fun _ _ k=>k) (T:=fun k=>¬P k)).get z7;rw[uB]at BJ;have Zh:=af (ug.ext (Ext.quiet (T:=ai) gY) id (anB aK));have CV:=af (kE.quiet gY);obtain⟨up,wp,ale,alf,LU⟩:=Zh.get (p:=bz) (by rw[HS.len];exact hpl);obtain⟨JZ,yp,Av,hyp,-,-⟩:=LU.len CV;simp only[Value.agg.injEq,Array.mk.injEq,List.cons.injEq,and_true]at hyp;obtain⟨rfl,rfl⟩:=hyp;have ane:(bz:Int)<(tn:Int):=(by have:=eR.out;omega);have anc:(j:Int)<(an:Int):=(by omega);have Zg:=af LU;have lL:x.args.take (j+1)=x.args.take j++[(bz:Int)]:=(by rw[anT z7,uB]);have rU:=af lL;have bR:Hid (ag ai wr (wr.alloc (.cells #[JZ,.slice yp Av Av] 123))):=af (ay.alloc _);have fR:=af (bR.ownsRow b6 (fun k hk f=>f));have mS:Hid (iX.heap.size<=(wr.alloc (.cells #[JZ,.slice yp Av Av] 123)).heap.size):=af (by have h1:=gY.size;have h2:=bR.size;omega);have eK:Hid (an<=3000):=af (by have h1:=(hL.sizes (aoc wT.1)).1;have h2:=wT.2;have h3:=nD.out;omega);have HC:=af z_;clear z7 hp uB hpl LU lL z_;go_wp2_with (at_builtin;refine wpList_append_own_at _ rfl _ _ 118 rfl iX.heap.size 123 i0 _ 2 32 underlying118 aI.1 aI.2.1 aI.2.2.1 aI.2.2.2 rfl (by decide) (.slice aG j aF) j zI rfl fR ⟨wr.heap.size,0,none⟩ 1 1 [JZ,.slice yp Av Av] rfl rfl (agw _ _ _ _) (agt _ _ _ _) (by have h1:=eK.out;have h2:=HC.out;unfold maxLen;omega) (by have h1:=eK.out;have h2:=HC.out;omega) mS ?_;intro v' aJ hown cr hnil hloc;have QR:=af hown;have bZ:=af (py cr hloc);clear hown cr hnil hloc;refine Hid.out ?_);refine af ?_;obtain⟨bg,br,rfl⟩:=y3 QR;go_wp2_with fail;refine⟨⟨j+1,by have:=HC.out;omega,by go_num,af ?_,af ?_⟩,by have:=HC.out;simp[intOf];omega⟩
                ·rw[rU.out,aot]
                 have hold:=(CV.quiet bR).old;have Nl:=(CV.quiet bR).given;have fA:((x.args.take j).map v.get).length=j:=(by rw[anR,Yu.out]);refine j1.grow (w4:=_) (cs:=zI) (lv:=.slice aG j aF) (u:=.int .i64 JZ) (v:=.slice yp Av Av) ?_ jQ.1 jQ.2 ?_ bZ.loc hold Nl Zg
                 ·rw[fA];exact fR
                 ·rw[fA];exact QR
                ·have h1:=gY.trans bR
                 refine h1.trans' bZ.mods (fun k hk hl=>?_);have:=(fR.lt k hk).1;omega
               ·obtain rfl:j=an:=by omega
                have iw:x.args.take j=x.args:=(by rw[anN];have:=nD.out;omega);have adT:¬(j:Int)<(j:Int):=(by omega);have IV:=ud.step (Ext.quiet (T:=ai) gY) id;have e1:=IV.blk.ah 1;rw[Lp.out]at e1;have dc:=IV.blk.ah 8;have nH:=af ((kE.quiet gY).quiet (ag.refl ai wr).drew);have Y_:=af (IV.step (Ext.quiet (T:=ai) (ag.refl ai wr).drew) id);have Zi:=af ((ug.ext (Ext.quiet (T:=ai) gY) id (anB aK)).ext (Ext.quiet (T:=ai) (ag.refl ai wr).drew) id (anB aK));have rQ:Hid (ag ai iX wr.drew):=af gY.drew;have Ts:j1 wr.drew iX.heap.size P M' aK (.slice aG j aF) (x.args.map v.get):=by
                 have h:=Q_.ext (Ext.quiet (ag.refl ai wr).drew) (anB aK);rw[iw,show (x.args.map v.get).length=j by rw[anR,nD.out]]at h;exact h
                have Ai:(x.args.map v.get).length<=x.args.length:=(by simp);cases hp:dS L k { s' with fuel:=s'.fuel-1 } x.name (x.args.map v.get) with
                | none=>have:=A_.out;rw[hp]at this;cases this
                | some y =>
                  have hC:=lz.out k (by have:=nG.out;omega) x.name (x.args.map v.get) b ak iX.heap.size P M' aK { s' with fuel:=s'.fuel-1 } wr.drew (.slice aG j aF) y nH Ts YW.texts.2 ⟨G,wT.1,by have:=wT.2;omega⟩ hp;have aU:=af hC;have FP:=A_.out;rw[hp]at FP;have zu:=af hp;have akP:=af adT;clear hC iw Ai Ts IV hp;unfold str at aU;obtain⟨y,s2⟩:=y;cases y with
                  | error yo =>
                    obtain rfl:=(anz FP).symm;clear FP;go_wp2_with fail
                    go_region_with (first|(go_at_call 23;refine aU.mono ?_;rintro e w3 ⟨⟨aV,rfl⟩,lC,wN,k1,k2,k3⟩;refine yT prog w3 ⟨rfl,⟨aV,rfl⟩,lC,wN,k1,((HS.ext.trans (nE.trans (Ext.quiet rQ))).trans k2),HS.pre.trans k3⟩ ?_))
                    all_goals trivial
                  | ok n2 =>
                    have Ba:=af FP;clear FP;have kW:Hid (s2.calls=s.calls+1):=af (by
                     rcases (Vh L k).2 { s' with fuel:=s'.fuel-1 } _ _ _ zu with⟨_,h⟩|⟨_,h⟩
                     ·cases h
                     ·rw[show s2.calls=s'.calls from h,HS.calls])
                    have pP:Hid (s2.fuel<=s'.fuel-1):=af ((SY C9 L k).2 { s' with fuel:=s'.fuel-1 } _ _ _ zu);have Hw:Hid (∀ (lC:Nat->Prop) (wN:List (Nat×Nat)) (w3:World),Ext ai M' lC wr.drew w3->aK <+: wN->pd w3 P lC wN g0 v/\eD yc w3 P lC g0 PQ.heap.size [x.code,x.dst,x.a,x.b,x.c,x.n,.string ⟨x.op.toArray⟩,x.label,.string ⟨x.name.toArray⟩,.slice aa j ac]):=af (fun lC wN w3 h k=>⟨Zi.ext h id k,Y_.step h id⟩);go_wp2_with fail
                    go_region_with (first|(go_at_call 23;refine aU.mono ?_;rintro e w3 ⟨lC,wN,rfl,k1,k2,k3⟩;have qW:=Hw.out lC wN w3 k2 k3;have aa5:=qW.2.blk.ah 1;rw[Lp.out]at aa5;obtain⟨Es,wd,Db,Dc,-⟩:=qW.1.get (p:=dD) QU;have ans:w3.frozen? ⟨g0,dD*2,none⟩=false:=(by obtain⟨cs,h1,_⟩:=qW.1;exact h1.free _);have z31:w3.frozen? ⟨g0,dD*2+1,none⟩=false:=(by obtain⟨cs,h1,_⟩:=qW.1;exact h1.free _);have jg:=af qW.1;have dp:=af k1;have gg:=af k2;have eK:=af k3;clear qW k1 k2 k3))
                    all_goals go_wp2_with fail
                    all_goals
                     have hput:=jg.put (p:=dD) QU (x:=bN n2) (u:=.int .i64 n2) (w:=.slice none 0 0) (Or.inl ⟨rfl,rfl⟩);have yx:¬lC g0/\¬P g0:=(by obtain⟨_,_,_,_,k4,gU⟩:=jg.out;exact⟨k4,gU⟩);have Tl:=dp.aside hput.2 (fun k hk=>by rw[hk];exact yx);have hfw:=J8 Tl;refine⟨⟨k,i+1,v.put (dD:Int) (bN n2),lC,wN,s2,by have:=nG.out;omega,by go_num,by omega,af ?_⟩,?_⟩
                     ·refine HS.next (T:=(·=g0)) (by have:=Ba.out;rw[Lp.out]at this;exact this) (Tl.quiet (by first|exact ag.refl _ _|exact ay.drew)) (hput.1.ext (Ext.quiet (T:=ai) (by first|exact ag.refl _ _|exact ay.drew)) id (anB _)) (by rw[nv,HS.len]) ?_ (fun _ f=>f) eK kW
                      refine ((nE.trans (Ext.quiet rQ)).more (fun _ _ f=>f.elim)).trans ((gg.more (fun _ _ f=>f.elim)).trans ((Ext.aside hput.2 (fun _ _ f=>f)).trans (Ext.quiet (by first|exact ag.refl _ _|exact ay.drew))))
                     ·have h2:=pP.out
                      have h3:s'.fuel≠0:=(by omega);rw[kY.out];have h1:∀n,n=s2.fuel->n<s'.fuel:=fun n h=>by omega
                      exact h1 _ hfw
         ·by_cases h8:x.code=8
          ·have hX:=aj.out
           simp only[a6,aS,if_neg h4,if_neg h5,if_neg h7,if_pos h8]at hX;obtain⟨pa,jt,ot⟩:=oT (f:=F) (p:=x.a) (t:=1) (by omega) (by have:=(WM EX (by omega) (by omega)).2;rw[h8]at this;simpa [cp] using this);obtain⟨AJ,sL,s7,xf,j0⟩:=ug.get (p:=pa) (by rw[HS.len];exact ot);obtain⟨pK,sB⟩:=j0.num;simp only[Value.agg.injEq,Array.mk.injEq,List.cons.injEq,and_true]at sB;obtain⟨rfl,rfl⟩:=sB;have bg:(pa:Int)<(tn:Int):=(by have:=eR.out;omega);rw[jt]at d2 hX;obtain⟨eV,oX⟩:=aq ((v.get (pa:Int)).n);rw[<-oX]at s7 hX;rw[h8]at d0;obtain rfl:=(anz hX).symm;obtain⟨amM,amL,M8,-⟩:=kE.blk;have ak4:iX.cell? ⟨b,3,none⟩=some (.int .i64 s'.calls):=M8.cell rfl;have ant:=M8.free 3;have alE:b≠g0:=fun e=>by obtain⟨_,_,_,_,k4,_⟩:=ug.out;exact k4 (e ▸ kE.has)
           have alH:b≠wr.heap.size:=fun e=>ud.nm.1 (e ▸ kE.has)
           have zT:=kE.Cz (s'.calls-1) (by omega);have wX:=af zT;have wQ:=af (HS.ext.trans (nE.trans (kE.ext ai 3 (.int .i64 ((s'.calls-1:Nat):Int)))));clear hX h5 h4 h7 h8 aj d1 d3 d4 d5 d6 d7 d8 d9 j0 ot oX jt M8 zT hlk;go_wp2_with fail;go_ret;rw[hcm.out];exact⟨M',aK,rfl,wX,wQ,HS.pre⟩
          ·have hX:=aj.out
           simp only[a6,aS]at hX;simp only[if_neg h4,if_neg h5,if_neg h7,if_neg h8]at hX;have Zl:Hid (aS (cq v x { s' with fuel:=s'.fuel-1 }) (fun v s=>aS (dw L k s F v (i+1)) fun n t=>a6 n { t with calls:=t.calls-1 })=some r):=af (by rw[<-hX];exact (VN _ _ _).symm);have fA:v.length=tn:=(by rw[HS.len,eR.out]);have MV:=fun y hy=>ajj EX h4 h5 h7 h8 v b ak g0 tn P M' aK { s' with fuel:=s'.fuel-1 } iX (.agg (aY x (.slice aa x.args.length ac)).toArray) y kE ug HS.len (by omega) (by have:=vk.out;omega) ⟨aa,ac,rfl,EG⟩ EX hy
           rw[fA,<-nD.out]at MV;have wY:=af MV;have Gx:(x.code==4)=false:=(by simpa using h4);have agC:(x.code==5)=false:=(by simpa using h5);have GA:(x.code==7)=false:=(by simpa using h7);have n8:(x.code==8)=false:=(by simpa using h8);have Ya:=af (Ext.refl (·=g0) M' iX);have xR:=af (anB aK);have HY:=af fA;clear hX h4 h5 h7 h8 aj MV fA hlk;unfold aY str at wY;go_wp2_with fail;refine agd (T:=(·=g0)) (T0:=(·=g0)) (fun _ f=>f) Ya xR Zl wY ?_ ?_
           ·rintro yo s2 rfl aV w H
            obtain⟨M2,kp,k1,k2,k3⟩:=H.out;have IE:Ext ai M M2 W w:=HS.ext.Ep (nE.trans (Ext.refl _ _ _) |>.more (fun _ _ f=>f.elim) |>.trans k2) (fun j hj e=>by have:=HS.base.1;omega);go_wp2;exact⟨rfl,⟨aV,rfl⟩,M2,kp,k1,IE,HS.pre.trans k3⟩
           ·rintro v2 s2 HST Ba e w M2 kp ⟨rfl,vY⟩ bI cO gg ft eK
            have hl2:=aju HST;have YX:=af vY;have mU:=af hl2;have kW:Hid (s2.calls=s.calls+1):=af (by
             rcases W7 v x { s' with fuel:=s'.fuel-1 } _ HST with⟨_,h⟩|⟨_,h⟩
             ·cases h
             ·rw[show s2.calls=s'.calls from h,HS.calls])
            have pP:Hid (s2.fuel<=s'.fuel-1):=af (PF C9 v x { s' with fuel:=s'.fuel-1 } _ HST);have Yi:=af (J8 bI);clear vY hl2;go_wp2_with fail;refine⟨⟨k,i+1,v2,M2,kp,s2,by have:=nG.out;omega,by go_num,by omega,af ?_⟩,?_⟩
            ·exact HS.next (T:=(·=g0)) Ba bI YX (by rw[mU.out,HS.len]) ((nE.more fun _ _ f=>f.elim).trans cO) (fun _ f=>f) ft kW
            ·rw[Yi.out,kY.out]
             have:=pP.out;omega
     ·have hend:=HS.run
      rw[acI (by rw[<-lB.out];omega)]at hend;obtain rfl:=(anz hend).symm;have cA:¬(i:Int)<(sn:Int):=(by omega);have IQ:=HS.rat.Cz (s'.calls-1) (by omega);have bI:=af IQ;have cO:=af (HS.ext.trans (HS.rat.ext ai 3 (.int .i64 ((s'.calls-1:Nat):Int))));clear hend IQ;unfold dP Ed;go_wp2_with fail;go_ret;rw[hcm.out];exact⟨M',aK,rfl,bI,cO,HS.pre⟩
theorem o6 {vs:List Value} (h:W.ownsRow B e size v n vs):∃aG aF,v=.slice aG n aF/\n<=aF/\aF<=maxLen/\(∀j u,vs[j]?=some u->∃g,aG=some ⟨g,0,none⟩/\v.ownBlock=some g/\W.cell? ⟨g,j,none⟩=some u):=by
 rcases h.2 with⟨rfl,rfl⟩|⟨g,cap,cur,rfl,_,hg,h3,h4,_⟩
 ·have:vs=[]:=anJ (by simpa using h.1)
  subst this;exact⟨none,0,rfl,anD _,by decide,fun j u hj=>by simp at hj⟩
 ·refine⟨_,_,rfl,h3,h4,fun j u hj=>⟨g,rfl,rfl,?_⟩⟩
  have:=h.cells (g:=g) rfl j u hj;simpa [Addr.add_lit] using this
theorem Kd (o:Old):o.1.dropWhile (!·.goexit)=[]:=by
 obtain⟨l,h⟩:=o;induction l with
 | nil=>rfl
 | cons x r ih =>
   have h1:=h x (by simp);have h2:=ih (fun y hy=>h y (by simp[hy]));simp only at h2;simp[List.dropWhile,h1,h2]
theorem agk (v:Value) (w:World):Sem.run prog (Instr.typeAssert (.iface 64 v) 20 64 true) w=.ok (.tuple #[v,.bool true]) w:=by
 simp[Instr.typeAssert,run_underlying underlying64]
theorem agi (q6 q7 b:Nat) (w1 w2:Int) (aG:Option Addr) (on aF:Nat) (u:Value) (w:World) (h6:aw w q6 [w1,w2,u] 31) (h7:w.cell? ⟨q7,0,none⟩=some (.pointer (some ⟨b,0,none⟩))) (hb:w.cell? ⟨b,4,none⟩=some (.slice aG on aF)) :
 CallsD prog 22 #[.pointer (some ⟨q6,0,none⟩),.pointer (some ⟨q7,0,none⟩)] .returning w fun e u' w'=>e=.returned (.tuple #[])/\u'=.returning/\aw w' q6 [w1,w2,.slice aG on aF] 31/\ag (·=q6) w w':=by
 have f6:=h6.free 2;have c6:=h6.ah 2;have gA:=af h6;clear h6;refine callsD_of_wpS func22 rfl fun my cs hu=>?_
 apply wpS_seq;apply wpS_seq;apply wpS_region;simp[wpOpsS,go_sem,recoverD,hu,ntmps22,Exit.thenS];refine wpS_of_wp ?_;rw[show (#[Value.pointer (some ⟨q6,0,none⟩),.pointer (some ⟨q7,0,none⟩)]++((Array.replicate 22 undef).setIfInBounds 3 (.nilIface)).setIfInBounds 0 (.nilIface):Array Value)=#[Value.pointer (some ⟨q6,0,none⟩),.pointer (some ⟨q7,0,none⟩),.nilIface,undef,undef,.nilIface,undef,undef,undef,undef,undef,undef,undef,undef,undef,undef,undef,undef,undef,undef,undef,undef,undef,undef] from by kernel_rfl];go_wp2;simp only[Exit.thenS];refine wpS_of_wp ?_;go_wp2;clear f6 c6 h7 hb;cases my
 simp_all [bodyPostS,results,results22]
 exact⟨gA.set 2 (.slice aG on aF),cm _ _ _ _⟩
theorem agj (q6 q7 b:Nat) (n w1 w2:Int) (aG:Option Addr) (on aF:Nat) (u:Value) (aV:List PanicEntry) (w:World) (h6:aw w q6 [w1,w2,u] 31) (h7:w.cell? ⟨q7,0,none⟩=some (.pointer (some ⟨b,0,none⟩))) (hb:w.cell? ⟨b,4,none⟩=some (.slice aG on aF)) (FA:q7≠q6) (dT:b≠q6) :
 CallsD prog 22 #[.pointer (some ⟨q6,0,none⟩),.pointer (some ⟨q7,0,none⟩)] (.panicking ({ v:=kH n,recovered:=false }::aV)) w fun e u' w'=>e=.returned (.tuple #[])/\u'=.panicking ({ v:=kH n,recovered:=true }::aV)/\aw w' q6 [n,.int .i64 0,.slice aG on aF] 31/\ag (·=q6) w w':=by
 obtain⟨c0,f0,c1,f1,c2,f2⟩:=h6.gM;have Ar:=h6.lt;have OT:=World.block_lt_of_cell? w _ h7;have lb:=World.block_lt_of_cell? w _ hb;simp only at OT lb;have gA:=af h6;clear h6;refine callsD_of_wpS func22 rfl fun my cs hu=>?_
 apply wpS_seq;apply wpS_seq;apply wpS_region;unfold kH at hu;simp[wpOpsS,go_sem,recoverD,hu,ntmps22,Exit.thenS];refine wpS_of_wp ?_;rw[show (#[Value.pointer (some ⟨q6,0,none⟩),.pointer (some ⟨q7,0,none⟩)]++((Array.replicate 22 undef).setIfInBounds 3 (.iface 64 (.agg #[n]))).setIfInBounds 0 (.iface 64 (.agg #[n])):Array Value)=#[Value.pointer (some ⟨q6,0,none⟩),.pointer (some ⟨q7,0,none⟩),.iface 64 (.agg #[n]),undef,undef,.iface 64 (.agg #[n]),undef,undef,undef,undef,undef,undef,undef,undef,undef,undef,undef,undef,undef,undef,undef,undef,undef,undef] from by kernel_rfl];have iw:=agk (.agg #[n]) w;have xD:q6≠w.heap.size:=by omega
 have GA:q7≠w.heap.size:=by omega
 have nb:b≠w.heap.size:=by omega
 go_wp2;simp only[Exit.thenS];refine wpS_of_wp ?_;go_wp2;clear f0 f1 f2 c0 c1 c2 iw h7 hb;cases my
 simp_all [bodyPostS,results,results22,kH]
 exact⟨((((gA.set 0 (.int .i64 n)).set 1 (.int .i64 0)).set 2 (.slice none 0 0)).set 2 (.slice aG on aF)).alloc _,((((cm _ _ _ _).trans (cm _ _ _ _)).trans (cm _ _ _ _)).trans (cm _ _ _ _)).alloc _⟩
theorem agu (h6:tmps[6]?.getD undef=.pointer (some ⟨q6,0,none⟩)) (hB:aw w q6 [w1,w2,u] 31) (h7:w.cell? ⟨q7,0,none⟩=some (.pointer (some ⟨b,0,none⟩))) (hb:w.cell? ⟨b,4,none⟩=some (.slice aG on aF))
 (hR:∀w',aw w' q6 [w1,w2,.slice aG on aF] 31->ag (·=q6) w w'->R (.returned (.agg #[w1,w2,.slice aG on aF])) w') :
 Leaves prog Tryz.f9 tmps R [{ target:=Target.fn (Go.Fn.func 22) #[.pointer (some ⟨q6,0,none⟩),.pointer (some ⟨q7,0,none⟩)],args:=#[] }] .returning w:=by
 refine leaves_cons (f:=22) (args:=#[.pointer (some ⟨q6,0,none⟩),.pointer (some ⟨q7,0,none⟩)]) (by simp) (by simp[go_sem]) ?_;refine (agi q6 q7 b w1 w2 aG on aF u w hB h7 hb).mono ?_;rintro e u' w' ⟨rfl,rfl,oo,hm⟩;have hr:=results_cell_row (P:=prog) results9 tmps w' q6 _ _ _ _ (by simpa using h6) oo underlying31 rfl (by kernel_rfl);have aP:=af (hR w' oo hm);clear hR oo hm
 show Leaves _ _ _ _ [] .returning w'
 unfold Leaves;exact⟨_,hr,aP⟩
theorem agv {n:Int} (aV:Old) (h6:tmps[6]?.getD undef=.pointer (some ⟨q6,0,none⟩)) (hB:aw w q6 [w1,w2,u] 31) (h7:w.cell? ⟨q7,0,none⟩=some (.pointer (some ⟨b,0,none⟩))) (hb:w.cell? ⟨b,4,none⟩=some (.slice aG on aF)) (FA:q7≠q6) (dT:b≠q6)
 (hR:∀w',aw w' q6 [n,.int .i64 0,.slice aG on aF] 31->ag (·=q6) w w'->R (.returned (.agg #[n,.int .i64 0,.slice aG on aF])) w') :
 Leaves prog Tryz.f9 tmps R [{ target:=Target.fn (Go.Fn.func 22) #[.pointer (some ⟨q6,0,none⟩),.pointer (some ⟨q7,0,none⟩)],args:=#[] }] (.panicking ({ v:=kH n,recovered:=false }::aV.1)) w:=by
 refine leaves_cons (f:=22) (args:=#[.pointer (some ⟨q6,0,none⟩),.pointer (some ⟨q7,0,none⟩)]) (by simp) (by simp[go_sem]) ?_;refine (agj q6 q7 b n w1 w2 aG on aF u aV.1 w hB h7 hb FA dT).mono ?_;rintro e u' w' ⟨rfl,rfl,oo,hm⟩;have hr:=results_cell_row (P:=prog) results9 tmps w' q6 _ _ _ _ (by simpa using h6) oo underlying31 rfl (by kernel_rfl);have aP:=af (hR w' oo hm);have ho:=Kd aV;clear hR oo hm;have hs:settle (FrameMode.panicking ({ v:=kH n,recovered:=true }::aV.1))=.returning:=by simp[settle,ho]
 show Leaves _ _ _ _ [] (settle (FrameMode.panicking ({ v:=kH n,recovered:=true }::aV.1))) w'
 rw[hs];unfold Leaves;exact⟨_,hr,aP⟩
def sO (W:World) (x:Int×Int×List Int) (v:Value):Prop:=∃aG aF,v=.agg #[.int .i64 x.1,.int .i64 x.2.1,.slice aG x.2.2.length aF]/\ij W ai (.slice aG x.2.2.length aF) x.2.2/\x.2.2.length<=200/\(aG=none->aF=0)
theorem sO.mods {W':World} {x:Int×Int×List Int} (h:sO W x v) (hm:ag ai W W'):sO W' x v:=by
 obtain⟨aG,aF,h1,h2,h3⟩:=h;exact⟨aG,aF,h1,h2.mods hm (fun _ _ f=>f),h3⟩
theorem Ci {S:Nat->Prop} {l:List Int} (h:W.ownsRow B 2 1 v l.length (l.map (.int .i64))) (hS:∀k,v.ownBlock=some k->¬S k):ij W S v l:=by
 obtain⟨a,c,rfl,h1,h2,h3⟩:=o6 h;refine⟨a,_,c,rfl,rfl,h1,h2,fun i x hx=>?_⟩;obtain⟨g,e1,e2,e3⟩:=h3 i (.int .i64 x) (by rw[anV,hx];rfl);exact⟨g,0,e1,hS g e2,by simpa using e3⟩
theorem agp (w:World):(Instr.makeMap 60 none).run prog w=.ok (.map (some w.heap.size)) (w.alloc (.map #[] 0)):=by
 simp[Instr.makeMap,run_underlying underlying60]
theorem Pd (W:World):(W.alloc (.cells #[] 2)).ownsRow W.heap.size 2 1 (.slice (some ⟨W.heap.size,0,none⟩) 0 0) 0 [] :=
 World.ownsRow_made (base:=W.heap.size) (e:=2) (size:=1) W #[] 0 (anD _) (by decide) rfl
theorem PR {ops:Array Oper} {rest:List Oper} {o:Oper} {a:Act} {Q:Exit->Act->World->Prop} (hgd:o.guard=none) (s x:Operand)
 (ho:o.op=.call { callee:=.builtin .append,args:=#[s,x],argTypes:=#[23,23] })
 (base:Nat) (v iv:Value) (hs:a.eval s=v) (hown:w.ownsRow base 2 1 v 0 []) (hb:base<=w.heap.size) (S:Nat->Prop) (l:List Int) (hx:a.eval x=iv) (hi:ij w S iv l) (h0:∀n c,iv=.slice none n c->c=0) (hl:l.length<=1000000)
 (h:∀v' w',w'.ownsRow base 2 1 v' l.length (l.map (.int .i64))->ag (fun k=>v.ownBlock=some k) w w'->(∃a c,v'=.slice a l.length c)->(v'.ownBlock=v.ownBlock\/v'.ownBlock=some w.heap.size)->wpList prog ops Q rest (a.put o.dst v') w') :
 wpList prog ops Q (o::rest) a w:=by
 obtain⟨i0,gw,hz0,hz1,hz2⟩:=info_parts DS;obtain⟨Ce,n,c,rfl,hn,iZ,hcm,hcell⟩:=hi;cases Ce with
 | none =>
   obtain rfl:c=0:=h0 _ _ rfl;obtain rfl:n=0:=(by omega);obtain rfl:l=[]:=anJ hn.symm;refine wpList_append_own_none (P:=prog) hgd s x _ ho base _ i0 1 underlying23 gw v 0 [] hs hown hx ?_;obtain⟨a',c',e,_⟩:=o6 hown;exact h v w hown ay ⟨a',c',e⟩ (Or.inl rfl)
 | some ad =>
   refine wpList_append_own_at (P:=prog) w hgd s x _ ho base _ i0 (.int .i64 0) 1 8 underlying23 gw hz0 hz1 hz2 rfl (by decide) v 0 [] hs hown ad n c (l.map (.int .i64)) hx (by rw[anR,<-hn,Nat.mul_one]) (fun j u hu=>?_) (fun u hu=>?_) (by unfold maxLen;omega) (by omega) hb (fun v' w' h1 h2 h3 h4=>?_)
   ·rw[anV]at hu
    obtain⟨y,hy,rfl⟩:=an7.1 hu;obtain⟨g,o,e1,_,e2⟩:=hcell j y hy;obtain rfl:=anz e1;rw[show (⟨g,o,none⟩:Addr).add j=⟨g,o+j,none⟩ by unfold Addr.add;split <;> simp_all];exact e2
   ·obtain⟨y,_,rfl⟩:=aoO.1 hu
    rfl
   ·rw[an9,aom,hn]at h1
    obtain⟨a',c',e,_⟩:=o6 h1;exact h v' w' h1 (ag.of_grownBy h2 (fun k hk _=>hk)) ⟨a',c',e⟩ h4
theorem GN {xs:List Value} (h:W.ownsRow B e size (.slice aG n aF) m xs):aG=none->aF=0:=by
 rcases h.2 with⟨e1,_⟩|⟨g,cap,cur,e1,_⟩
 ·obtain⟨-,-,rfl⟩:=Value.slice.inj e1
  exact fun _=>rfl
 ·obtain⟨rfl,-,-⟩:=Value.slice.inj e1
  intro h;cases h
theorem agh (L:List ar):sN L 0:=by
 intro g vs b ak base P M A s W lv r h hv gS hfn hr;simp only[dS]at hr;cases hr
theorem agf (hL:zj L) (f:Nat):sN L f:=by
 have:∀f k,k<=f->sN L k:=by
  intro f;induction f with
  | zero=>intro k hk;obtain rfl:k=0:=by omega
          exact agh L
  | succ f ih =>
    intro k hk;by_cases h:k<=f
    ·exact ih k h
    ·obtain rfl:k=f+1:=by omega
     exact age hL ih
 exact this f f (anD _)
def PU (L:List ar):Prop:=L.Pairwise fun a b=>a.name≠b.name
theorem RH:(r A:List ar)->jW A r=true->r.Pairwise (fun a b=>a.name≠b.name)/\∀a∈A,∀b∈r,a.name≠b.name
 | [],A,_=>⟨List.Pairwise.nil,fun a _ b hb=>by cases hb⟩
 | f::r,A,h=>by
   rw[TQ]at h;split at h
   ·cases h
   ·rename_i hn
    obtain⟨h1,h2⟩:=RH r (A++[f]) h;refine⟨List.pairwise_cons.2 ⟨fun b hb=>h2 f (by simp) b hb,h1⟩,fun a ha b hb=>?_⟩;rcases anW.1 hb with rfl|hb
    ·intro e
     apply hn;refine Or.inr (Or.inr ?_);rw[aoS];exact⟨a,ha,by simpa using e⟩
    ·exact h2 a (by simp[ha]) b hb
theorem aaS (h:p9 L=true):PU L/\(∃fn,oh L [109,97,105,110]=some fn)/\L.length<=12:=by
 rw[Sg]at h;simp only[anX,decide_eq_true_eq]at h;refine⟨(RH L [] h.1.1.2).1,?_,h.1.1.1⟩;obtain⟨f,hf,hm⟩:=aoS.1 h.2;unfold oh;cases hx:L.find? (fun f=>f.name==[109,97,105,110]) with
 | some y=>exact⟨y,rfl⟩
 | none =>
   have:=List.find?_eq_none.1 hx f hf;unfold wA at hm;simp only[anX]at hm;exact absurd hm.1 this
theorem aaq {g:List UInt8} {vs:List V} {y:Except cz Int×aC} (h:dS L f s g vs=some y):(∃n,y.1=.ok n)\/∃w,y.1=.error (.stop w):=by
 rcases (Vh L f).2 s g vs y h with⟨w,h⟩|⟨⟨n,h⟩,_⟩
 ·exact Or.inr ⟨w,h⟩
 ·exact Or.inl ⟨n,h⟩
def y4 (L:List ar) (f:Nat) (given:List Int) (fuel:Nat):Option (Int×Int×List Int):=if p9 L=true then runM L f given fuel else some (9,0,[])
theorem O0 (aZ:∀f∈L,tS f) (f:Nat) (given:List Int) (fuel:Int) (x:Int×Int×List Int) (hx:y4 L f given fuel.toNat=some x) (cb:Nat) (v iv:Value) (W:World) (hcb:W.cell? ⟨cb,0,none⟩=some v) (hv:iM W ai v L) (kJ:n4 W) (kK:mZ W) (hi:ij W ai iv given) (gw:∀n c,iv=.slice none n c->c=0) (hl:given.length<=1000000) (hf:fuel<=4000000000000000000) (hf2:-9223372036854775808<=fuel) :
 Calls prog 9 #[.pointer (some ⟨cb,0,none⟩),iv,fuel] W fun e w=>∃u,e=.returned u/\sO w x u/\ag ai W w:=by
 have l6:=agp;obtain⟨W1,hW1⟩:=aq (W.alloc (.cells #[.int .i64 0,.int .i64 0,.slice none 0 0] 31));have aO:ag ai W W1:=by rw[hW1];exact ay.alloc _
 have S8:aw W1 W.heap.size [.int .i64 0,.int .i64 0,.slice none 0 0] 31:=by rw[hW1];exact aw.new W _ _
 have hs1:W1.heap.size=W.heap.size+1:=by rw[hW1];simp
 have iE:∀f∈L,∀s∈f.steps,b9 s.label:=fun f hf s hs=>((aZ f hf).steps s hs).cL.2.2.2.2.2.2
 have xX:=af (Pq L cb v W1 (aO.cellOf hcb id) (hv.mods aO (fun _ _ f=>f)) (kJ.mods aO) (kK.mods aO) iE);have H1:=af (anw aO (anw S8 hs1));have Hr:=af hcb;have EP:=af (anw hi (anw gw hl));obtain⟨va,vc,rfl,JG,JH,-⟩:=hv.form;have bQ:=af hv;have aj:=af hx;have bb:=af (anw hf hf2);have mW:=af aZ;obtain⟨pJ,Ai⟩:=aq (L.length);have Gr:Hid (pJ=L.length):=af Ai;rw[<-Ai]at hcb JG;obtain⟨c,hc⟩:=aq (p9 L);rw[<-hc]at xX;have aU:=af hc;clear aO S8 hs1 hi gw hl hv hx aZ iE kJ kK Ai hc
 go_enter_defers func9,ntmps9
 go_upto_region 1 with (fail)
 rw[<-hW1];clear hW1;go_wp2_with fail;refine xX.mono ?_;rintro e U ⟨rfl,Jm⟩;have a_:=af (H1.2.1.mods Jm id);have A8:Hid (ag ai W U):=af (H1.1.trans Jm);have x4:Hid (W.heap.size+1<=U.heap.size):=af (by have h1:=H1.2.2;have h2:=Jm.size;omega);have iO:=af (bQ.mods A8 (fun _ _ f=>f));have hcb:=A8.cellOf hcb id;clear Jm;cases c with
 | false =>
   have hx:=aj.out;unfold y4 at hx;rw[<-aU.out,if_neg (by simp)]at hx;obtain rfl:=(anz hx).symm;obtain⟨e0,f0,e1,f1,e2,f2⟩:=a_.gM;clear hx;go_wp2_with fail;clear e0 e1 e2 f0 f1 f2;have hB:=(((a_.set 0 (.int .i64 9)).set 1 (.int .i64 0)).set 2 (.slice none 0 0));have hm:=((cm U W.heap.size 0 (.int .i64 9)).trans (cm _ _ 1 (.int .i64 0))).trans (cm _ _ 2 (.slice none 0 0));have hr:=results_cell_row (P:=prog) results9 #[Value.pointer (some ⟨cb,0,none⟩),iv,Value.int IntKind.i64 fuel,undef,undef,undef,Value.pointer (some ⟨W.heap.size,0,none⟩),undef,undef,undef,Value.pointer (some ⟨cb,0,none⟩),Value.bool false,Value.bool true,Value.agg #[Value.int IntKind.i64 9,Value.int IntKind.i64 0,Value.slice none 0 0],undef,undef,undef,undef,undef,undef,undef,undef,undef,undef,undef,undef,undef,undef,undef,undef,undef,undef,undef,undef,undef,undef,undef,undef,undef,undef,undef,undef,undef] _ W.heap.size _ _ _ _ rfl hB underlying31 rfl (by kernel_rfl);have Y1:=af hr;have u6:Hid (ag ai W (((U.setCell ⟨W.heap.size,0,none⟩ (.int .i64 9)).setCell ⟨W.heap.size,1,none⟩ (.int .i64 0)).setCell ⟨W.heap.size,2,none⟩ (.slice none 0 0))):=af (A8.trans' hm (fun k hk hlt=>by omega));clear hr hB hm;unfold bodyPostD;simp only;unfold Leaves;exact⟨_,Y1,_,rfl,⟨none,0,rfl,⟨_,_,_,rfl,rfl,anD _,anC _,fun i x hx=>by simp at hx⟩,anC _,fun _=>rfl⟩,u6⟩
 | true =>
   have hx:=aj.out;unfold y4 at hx;rw[<-aU.out,if_pos rfl]at hx;have aj:=af hx;obtain⟨hA,hM,hn⟩:=aaS aU.symm;have cu:Hid (zj L/\PU L/\(∃fn,oh L [109,97,105,110]=some fn)/\L.length<=12):=af ⟨⟨aU.symm,mW⟩,hA,hM,hn⟩;obtain⟨W3,hW3⟩:=aq ((U.alloc (.map #[] 0)).alloc (.cells #[] 2));have qz:W3.ownsRow (U.heap.size+1) 2 1 (.slice (some ⟨U.heap.size+1,0,none⟩) 0 0) 0 []:=by
    rw[hW3];have:=Pd (U.alloc (.map #[] 0));simpa using this
   have aR:ag ai U W3:=(by rw[hW3];exact (ay.alloc _).alloc _);have hs3:W3.heap.size=U.heap.size+2:=(by rw[hW3];simp);have gg:aw W3 W.heap.size [.int .i64 0,.int .i64 0,.slice none 0 0] 31:=a_.mods aR id;have ET:NameMap W3 U.heap.size 0 xP []:=by
    rw[hW3];exact (NameMap.new U xP).mods ((ag.refl ai _).alloc (.cells #[] 2)) id
   have mo:=af (anw qz (anw aR (anw hs3 (anw gg ET))));have aI:=af (anw (EP.1.mods (A8.trans aR) (fun _ _ f=>f)) EP.2);have X8:Hid (cb<W.heap.size):=af (World.block_lt_of_cell? W _ Hr);have X7:Hid (∀w,ag (fun k=>(Value.slice (some ⟨U.heap.size+1,0,none⟩) 0 0).ownBlock=some k) W3 w->w.cell? ⟨cb,0,none⟩=some (.slice va pJ vc)):=af (fun w hm=>hm.cellOf (aR.cellOf hcb id) (fun hk=>by have h1:=X8.out;have h2:=x4.out;simp only[Value.ownBlock,anG]at hk;omega));clear qz aR hs3 gg ET hA hM hn hx hcb;go_upto_region 4 with (at_builtin;rw[<-hW3];refine PR rfl (.tmp 15) (.tmp 16) rfl (U.heap.size+1) (.slice (some ⟨U.heap.size+1,0,none⟩) 0 0) iv rfl mo.1 (by have:=mo.2.2.1;omega) ai given rfl aI.1 aI.2.1 aI.2.2 ?_;rintro v' w1 hown aO ⟨aG,aF,rfl⟩ hloc;have I5:=X7.out w1 aO;have H1:=af (anw hown (anw aO hloc));clear hown aO hloc)
   clear hW3;obtain⟨b,hb⟩:=aq (w1.heap.size);obtain⟨cD,cN⟩:=aq (((w1.alloc (.cells #[.map (some (U.heap.size)),.slice aG given.length aF,.int .i64 (max fuel 0),.int .i64 0,.slice none 0 0] 62)).alloc (.cells #[.pointer (some ⟨w1.heap.size,0,none⟩)] 59)));have uy:ag ai w1 cD:=(by rw[cN];exact (ay.alloc _).alloc _);have hs5:cD.heap.size=b+2:=(by rw[cN,hb];simp);have cM:aw cD b [.map (some (U.heap.size)),.slice aG given.length aF,.int .i64 (max fuel 0),.int .i64 0,.slice none 0 0] 62:=by
    rw[cN,hb];exact (aw.new w1 _ _).alloc _
   have ub:aw cD (b+1) [.pointer (some ⟨b,0,none⟩)] 59:=by
    rw[cN,hb];have:=aw.new (w1.alloc (.cells #[.map (some (U.heap.size)),.slice aG given.length aF,.int .i64 (max fuel 0),.int .i64 0,.slice none 0 0] 62)) #[.pointer (some ⟨w1.heap.size,0,none⟩)] 59;simpa using this
   try rw[show (if fuel<0 then (0:Int) else fuel)=max fuel 0 by split <;> omega]
   rw[<-cN,<-hb];have adx:cD.cell? ⟨cb,0,none⟩=some (.slice va pJ vc):=uy.cellOf I5 id;have hb0:U.heap.size+2<=b:=(by have h1:=H1.2.1.size;have h2:=mo.2.2.1;omega);have ada:=A8.size;have bM:ag ai W cD:=by
    have h1:=(A8.trans mo.2.1).trans' H1.2.1 (fun k hk hlt=>by simp only[Value.ownBlock,anG]at hk;omega);exact h1.trans uy
   have hS1:∀k,(fun k=>(Value.slice (some ⟨U.heap.size+1,0,none⟩) 0 0).ownBlock=some k) k->k=U.heap.size+1:=fun k hk=>by simp only[Value.ownBlock,anG]at hk;omega
   have j3:aw cD W.heap.size [.int .i64 0,.int .i64 0,.slice none 0 0] 31:=(mo.2.2.2.1.mods H1.2.1 (fun hk=>by have:=hS1 _ hk;omega)).mods uy id;have FI:NameMap cD (U.heap.size) 0 xP []:=(mo.2.2.2.2.mods H1.2.1 (fun hk=>by have:=hS1 _ hk;omega)).mods uy id;have FJ:=uy.ownsRow H1.1 (fun k _ f=>f);have hown:∀k,(Value.slice aG given.length aF).ownBlock=some k->U.heap.size+1<=k/\k<b:=fun k hk=>by
    have h2:=H1.1.lt k hk;omega
   have dR:=af (anw bM (anw j3 (anw FJ (anw hown (anw cM (anw ub (anw hs5 hb0)))))));have zt:=af FI;have dx:Hid (ag (·=U.heap.size) cD cD):=af ay;have u3:Hid (∀f x,oh (L.take 0) f=some x->jc W (fun k=>¬k<W.heap.size) x (jV xP [] f)):=af (fun f x h=>by simp[oh]at h);have hb1:U.heap.size+2<=b:=hb0;clear cN hb uy hs5 cM ub hb0 bM hS1 j3 FI FJ hown H1;go_wp2_with fail;clear adx
   go_loopw [9,27] (fun _ jw wr=>∃ (i:Nat) (F:List (List UInt8×Value)),i<=pJ/\jw=.int .i64 i/\Hid (ag (·=U.heap.size) cD wr)/\Hid (NameMap wr (U.heap.size) i xP F)/\Hid (∀f x,oh (L.take i) f=some x->jc W (fun k=>¬k<W.heap.size) x (jV xP F f))) (fun _ jw _=>(pJ-intOf jw).toNat)
   case atStart=>exact⟨0,[],anC _,rfl,dx,zt,u3⟩
   case round =>
    clear dx zt u3;obtain⟨i,F,hi,rfl,az,aT,u3⟩:=hrel;have rh:Hid (ag ai W wr):=af (dR.1.trans' az (fun k hk hlt=>by omega));have aA:=af (dR.2.2.2.2.1.mods az (by omega));have dy:=af (dR.2.2.2.2.2.1.mods az (by omega));have q7:=dy.ah 0;by_cases hlt:i<pJ
    ·have bm:i<L.length:=by have:=Gr.out;omega
     obtain⟨g,o,ta,tc,sa,sc,rfl,ja,k1,k2,k3,k4,gU⟩:=bQ.get bm;have hT:∀k,k<W.heap.size->(fun k=>¬k<W.heap.size) k->ai k:=fun k h1 h2=>(h2 h1).elim
     have nN:jc W (fun k=>¬k<W.heap.size) L[i] (.agg #[str L[i].name,.int .i64 L[i].params,.slice ta L[i].types.length tc,.slice sa L[i].steps.length sc]):=⟨ta,tc,sa,sc,rfl,k4.mods ay hT,gU.mods ay hT⟩;have ja:=rh.out.cellOf ja id;have k1:=rh.out.cellOf k1 id;have k2:=rh.out.cellOf k2 id;have k3:=rh.out.cellOf k3 id;have sx:=(cu.1.ok L[i] (aof bm)).name;have I_:i<1000000:=(by have:=cu.2.2.2;omega);obtain⟨dC,fI⟩:=aq (wr.alloc (.cells #[str L[i].name,.int .i64 L[i].params,.slice ta L[i].types.length tc,.slice sa L[i].steps.length sc] 55));have bG:ag ai wr dC:=(by rw[fI];exact ay.alloc _);have ej:aw dC wr.heap.size [str L[i].name,.int .i64 L[i].params,.slice ta L[i].types.length tc,.slice sa L[i].steps.length sc] 55:=(by rw[fI];exact aw.new wr _ _);obtain⟨f0,f1,f2,f3⟩:=ej.gG;have ahO:=bG.cellOf q7 id;have Z1:=(aA.mods bG id).ah 0;obtain⟨a7,hu,B0,dK⟩:=(aT.mods (bG.drew) id).put (t:=60) underlying60 L[i].name sx (.agg #[str L[i].name,.int .i64 L[i].params,.slice ta L[i].types.length tc,.slice sa L[i].steps.length sc]) (by unfold maxLen;omega);have gh:Hid (ag (·=U.heap.size) cD a7):=af ((az.trans ((bG.drew).mono fun _ _ f=>f.elim)).trans dK);have AZ:=af B0;have K4:Hid (∀f x,oh (L.take (i+1)) f=some x->jc W (fun k=>¬k<W.heap.size) x (jV xP (sH F L[i].name (.agg #[str L[i].name,.int .i64 L[i].params,.slice ta L[i].types.length tc,.slice sa L[i].steps.length sc])) f)):=af (by
      intro f x hx;rw[yn];rw[anT bm]at hx;unfold oh at hx;rw[List.find?_append]at hx;cases hy:oh (L.take i) f with
      | some y =>
        have j6:=hy;unfold oh at j6;rw[j6]at hx;simp only[Option.some_or,anG]at hx;subst hx;have Om:y∈L.take i:=aoc j6;have On:y.name=f:=(by have:=aoJ j6;simpa using this);obtain⟨j,hj,F3⟩:=List.getElem_of_mem Om;rw[List.getElem_take]at F3;have tq:j<i:=(by rw[anP]at hj;omega);have hne:=aos.1 cu.2.1 j i (by omega) bm tq;rw[F3,On]at hne;rw[if_neg hne];exact u3 f y hy
      | none =>
        have j6:=hy;unfold oh at j6;rw[j6]at hx;simp only[Option.none_or,aoa,List.find?_nil]at hx;by_cases hn:L[i].name=f
        ·rw[if_pos hn.symm]
         have hb:(L[i].name==f)=true:=(by simpa using hn);rw[hb]at hx;obtain rfl:=anz hx;exact nN
        ·have hb:(L[i].name==f)=false:=by simpa using hn
         rw[hb]at hx;cases hx)
     have cA:(i:Int)<(pJ:Int):=(by omega);clear k4 gU nN B0 dK bG ej hT;unfold str at ja f0 hu fI;go_upto_region 7 with (fail)
     rw[<-fI];clear fI;go_region;go_wp2_with fail;exact⟨⟨i+1,_,by omega,by go_num,gh,AZ,K4⟩,by simp[intOf];omega⟩
    ·obtain rfl:i=pJ:=by omega
     have cA:¬(i:Int)<(i:Int):=(by omega);have k_:∀ (fn:Go.Fn) (first cap:Array Value) (w:World),(Instr.makeFunc fn first cap).run prog w=.ok (.func fn first cap) w:=fun _ _ _ _=>rfl
     have yF:=dR.2.2.2.1;have ada:=A8.size;have hb1:=dR.2.2.2.2.2.2.2;have yL:=az.size;have hs5:=dR.2.2.2.2.2.2.1;have q_:((fuel.toNat:Nat):Int)=max fuel 0:=Int.toNat_eq_max fuel;have zU:bt wr b (U.heap.size) L (fun k=>k<W.heap.size\/k=U.heap.size\/(Value.slice aG given.length aF).ownBlock=some k) (·=b) [] ⟨given,fuel.toNat,0,[],[]⟩:=by
      refine⟨⟨_,.slice none 0 0,?_,Ci (az.ownsRow dR.2.2.1 (fun k hk e=>by have:=yF k hk;omega)) (fun k hk vX=>vX (Or.inr (Or.inr hk))),World.ownsRow_nil _ _ _ _,fun k hk=>by cases hk⟩,rfl,⟨Or.inr (Or.inl rfl),_,F,aT,fun g y hy=>?_⟩,rfl,fun j l hl=>by simp at hl,fun g n h=>by simp at h,List.Pairwise.nil,fun k hk=>by rw[hk];omega,fun k hk hp=>?_,fun k hp=>?_,by simp,by simp,?_⟩
      ·have:=aA.out
       rw[<-q_]at this;exact this
      ·refine (u3 g y (by rw[Gr.out,aob];exact hy)).mods (rh.out.mono fun _ _ f=>f.elim) (fun k hk vX z_=>vX (Or.inl z_))
      ·rcases hp with hp|hp|hp
       ·omega
       ·omega
       ·have:=yF k hp
        omega
      ·rcases hp with hp|hp|hp
       ·omega
       ·omega
       ·have:=yF k hp
        omega
      ·have:=bb.out
       simp only;omega
     have EN:=af (dR.2.1.mods az (by have:=x4.out;omega));have hx:=aj.out;obtain⟨z,hz⟩:=aq (dS L f ⟨given,fuel.toNat,0,[],[]⟩ [109,97,105,110] []);rw[Pr,<-hz]at hx;rcases z with _|⟨y,t⟩
     ·cases hx
     have hc:=agf cu.1 f [109,97,105,110] [] b (U.heap.size) 0 _ _ [] _ wr (.slice none 0 0) (y,t) zU (j1.none_ _ _ _ _ _) (by decide) (by obtain⟨fn,h1⟩:=cu.2.2.1;exact⟨fn,h1,anC _⟩) hz.symm;have hx2:yh (y,t)=x:=anz hx;have xp:=aaq hz.symm;have bh:=af hx2;have aU:=af hc;have qy:=af (anw hb1 (anw yL hs5));clear hx hx2 hc hz zU yF hb1 yL hs5 q_;unfold str at aU;go_wp2_with fail;refine aU.mono ?_;rcases xp with⟨n,hn⟩|⟨dO,hw⟩
     ·subst hn
      rintro e aJ ⟨eH,fZ,rfl,k1,k2,k3⟩;have yL:=qy.2.1;have hs5:=qy.2.2;have hb1:=qy.1;have aeA:=x4.out;have j3:=nr EN k2 (fun e=>by omega) id;have vL:=nr dy k2 (fun e=>by omega) id;obtain⟨JO,Kl,kv,-,rj,sk⟩:=k1.blk;obtain⟨wE,wF,rfl⟩:=y3 rj;have HK:=af (anw j3 (anw vL (anw kv (anw rj (anw sk (anw k2 k1.few))))));obtain⟨c0,f0,c1,f1,c2,f2⟩:=j3.1.gM;clear j3 vL kv rj sk k1 k2 k3 aU;go_wp2;clear c0 c1 c2 f0 f1 f2;have bG:ag (·=W.heap.size) aJ (((aJ.setCell ⟨W.heap.size,0,none⟩ (.int .i64 1)).setCell ⟨W.heap.size,1,none⟩ (.int .i64 n)).setCell ⟨W.heap.size,2,none⟩ (.slice none 0 0)):=((cm _ _ _ _).trans (cm _ _ _ _)).trans (cm _ _ _ _);have zP:=(((HK.1.1.set 0 (.int .i64 1)).set 1 (.int .i64 n)).set 2 (.slice none 0 0));refine agu (q7:=b+1) (b:=b) rfl zP ((HK.2.1.1.mods bG (by omega)).ah 0) ((HK.2.2.1.mods bG (by omega)).ah 4) ?_;intro w' oo DC;have kj:ag (·=W.heap.size) aJ w':=bG.trans DC;have hx2:=bh.out;subst hx2;have hne:∀k,(Value.slice wE t.out.length wF).ownBlock=some k->k≠W.heap.size:=fun k hk e=>HK.1.2 (e ▸ (HK.2.2.2.2.1 k hk).1)
      refine⟨_,rfl,⟨wE,wF,rfl,Ci (kj.ownsRow HK.2.2.2.1 hne) (fun _ _ f=>f),HK.2.2.2.2.2.2,GN HK.2.2.2.1⟩,?_⟩;have h1:ag (fun k=>k=b) W aJ:=(rh.out.mono fun _ _ f=>f.elim).trans (HK.2.2.2.2.2.1.mods.mono fun k _ hk=>hk.elim (fun f=>f.elim) id);exact (h1.trans' kj (fun k hk hlt=>by omega)).mono (fun k hk e=>by omega)
     ·subst hw
      rintro e aJ ⟨⟨aV,rfl⟩,eH,fZ,k1,k2,k3⟩;have yL:=qy.2.1;have hs5:=qy.2.2;have hb1:=qy.1;have aeA:=x4.out;have j3:=nr EN k2 (fun e=>by omega) id;have vL:=nr dy k2 (fun e=>by omega) id;obtain⟨JO,Kl,kv,-,rj,sk⟩:=k1.blk;obtain⟨wE,wF,rfl⟩:=y3 rj;have HK:=af (anw j3 (anw vL (anw kv (anw rj (anw sk (anw k2 k1.few))))));clear j3 vL kv rj sk k1 k2 k3 aU;go_wp2;refine agv aV (q7:=b+1) (b:=b) rfl HK.1.1 (HK.2.1.1.ah 0) (HK.2.2.1.ah 4) (by omega) (by omega) ?_;intro w' oo kj;have hx2:=bh.out;subst hx2;have hne:∀k,(Value.slice wE t.out.length wF).ownBlock=some k->k≠W.heap.size:=fun k hk e=>HK.1.2 (e ▸ (HK.2.2.2.2.1 k hk).1)
      refine⟨_,rfl,⟨wE,wF,rfl,Ci (kj.ownsRow HK.2.2.2.1 hne) (fun _ _ f=>f),HK.2.2.2.2.2.2,GN HK.2.2.2.1⟩,?_⟩;have h1:ag (fun k=>k=b) W aJ:=(rh.out.mono fun _ _ f=>f.elim).trans (HK.2.2.2.2.2.1.mods.mono fun k _ hk=>hk.elim (fun f=>f.elim) id);exact (h1.trans' kj (fun k hk hlt=>by omega)).mono (fun k hk e=>by omega)
theorem getD_some {l:List Int} {i:Nat} (h:i<l.length):l[i]?=some (l.getD i 0):=by simp[h]
theorem Wx {wr:World} (h:∃d,wr=W.drewN d):∃d,wr.drew=W.drewN d:=by
 obtain⟨d,rfl⟩:=h;exact⟨d+1,rfl⟩
theorem abk (a1 a2:Option Addr) (n1 n2 c1 c2:Nat) (W:World) (h:¬n1=n2) (h1:n1<=maxLen) (h2:n2<=maxLen) :
 Calls prog 11 #[.slice a1 n1 c1,.slice a2 n2 c2] W fun e W'=>e=.returned (.bool false)/\∃d,W'=W.drewN d:=by
 have hb:((n1:Int) != n2)=true:=by simp;omega
 unfold maxLen at h1 h2;go_in;go_wp2;go_ret;exact⟨rfl,0,rfl⟩
theorem abl (v1 v2:Value) (l1 l2:List Int) (W:World) (h1:ij W ai v1 l1) (h2:ij W ai v2 l2) :
 Calls prog 11 #[v1,v2] W fun e W'=>e=.returned (.bool (l1==l2))/\∃d,W'=W.drewN d:=by
 obtain⟨a1,n1,c1,rfl,la,ama,aO,hc1⟩:=h1;obtain⟨a2,n2,c2,rfl,su,amb,aN,hc2⟩:=h2;by_cases hne:n1=n2
 ·subst hne
  have EK:=af hc1;have kW:=af hc2;have mn:=af la;have qG:=af su;clear la su hc1 hc2;have hb:((n1:Int) != n1)=false:=by simp
  unfold maxLen at aO aN;go_in;go_wp2
  go_loopw [13] (fun v wr=>∃i:Nat,i<=n1/\v=.int .i64 i/\Hid (l1.take i=l2.take i)/\Hid (∃d,wr=W.drewN d)) (fun v _=>(n1-intOf v).toNat)
  case atStart=>exact⟨0,anC _,rfl,af rfl,af ⟨0,rfl⟩⟩
  case round =>
   obtain⟨i,hi,rfl,heq,hq⟩:=hrel;have hm:Hid (ag ai W wr):=af (by obtain⟨d,rfl⟩:=hq.out;exact ay.drewN d);by_cases hlt:i<n1
   ·have hx1:=getD_some (l:=l1) (i:=i) (by rw[<-mn.out];exact hlt)
    have hx2:=getD_some (l:=l2) (i:=i) (by rw[<-qG.out];exact hlt);obtain⟨x1,e1⟩:=aq (l1.getD i 0);obtain⟨x2,e2⟩:=aq (l2.getD i 0);rw[<-e1]at hx1;rw[<-e2]at hx2;obtain⟨g1,o1,adD,-,hc1⟩:=EK.out i x1 hx1;obtain⟨g2,o2,adE,-,hc2⟩:=kW.out i x2 hx2;have alJ:=hm.out.cellOf hc1 id;have alK:=hm.out.cellOf hc2 id;have ek:=af hx1;have bh:=af hx2;subst adD adE;clear hc1 hc2 hx1 hx2 e1 e2;by_cases hx:x1=x2
    ·have Oi:(x1 != x2)=false:=by simpa using hx
     have vW:Hid (l1.take (i+1)=l2.take (i+1)):=af (by
      have f1:=aod (l:=l1) (i:=i);have f2:=aod (l:=l2) (i:=i);rw[f1,f2,ek.out,bh.out,heq.out,hx])
     clear hx;go_wp2;go_region;go_wp2;go_roundw
     case rel=>exact⟨i+1,by omega,by go_num,vW,af (Wx hq.out)⟩
     case measure=>simp[intOf];omega
    ·have Oi:(x1 != x2)=true:=by simpa using hx
     have vR:Hid ((l1==l2)=false):=af (by
      rw[beq_eq_false_iff_ne];intro e;rw[e,bh.out]at ek;have:=ek.out;simp only[anG]at this;exact hx this.symm)
     clear hx;go_wp2;go_region;go_wp2;go_ret;rw[vR.out];exact⟨rfl,Wx hq.out⟩
   ·obtain rfl:i=n1:=by omega
    have vR:Hid ((l1==l2)=true):=af (by
        have h3:=heq.out;rw[anN (by rw[<-mn.out];exact anD _),anN (by rw[<-qG.out];exact anD _)]at h3;rw[h3];simp)
    go_wp2;go_ret;rw[vR.out];exact⟨rfl,hq.out⟩
 ·have hl:(l1==l2)=false:=by
   rw[beq_eq_false_iff_ne];intro e;rw[la,su,e]at hne;exact hne rfl
  rw[hl];exact abk a1 a2 n1 n2 c1 c2 W hne (by omega) (by omega)
theorem abj (v1 v2:Value) (l1 l2:List Int) (W:World) (h1:ij W ai v1 l1) (h2:ij W ai v2 l2) :
 Calls prog 11 #[v1,v2] W fun e W'=>e=.returned (.bool (l1==l2))/\ag ai W W' :=
 (abl v1 v2 l1 l2 W h1 h2).mono fun e W' ⟨he,d,hd⟩=>⟨he,by rw[hd];exact ay.drewN d⟩
theorem sO.form {x:Int×Int×List Int} (h:sO W x v):∃aG n aF,v=.agg #[.int .i64 x.1,.int .i64 x.2.1,.slice aG n aF]/\n=x.2.2.length/\n<=aF/\aF<=9223372036854775807/\ij W ai (.slice aG n aF) x.2.2/\(aG=none->aF=0):=by
 obtain⟨aG,aF,h1,h2,h3,h4⟩:=h;obtain⟨a',n',c',e,k1,k2,k3,k4⟩:=h2;obtain⟨rfl,rfl,rfl⟩:=Value.slice.inj e;exact⟨aG,_,aF,h1,rfl,k2,k3,⟨_,_,_,rfl,rfl,k2,k3,k4⟩,h4⟩
theorem WQ (x:Int×Int×List Int) (u v:Value) (W:World) (hu:sO W x u) (hv:sO W x v) :
 Calls prog 12 #[u,v] W fun e w=>e=.returned (.bool true)/\ag ai W w:=by
 obtain⟨bL,n,ba,rfl,hn,hx1,hx2,cU,hx0⟩:=hu.form;obtain⟨pK,m,Hd,rfl,hm,DO,j6,nP,Ok⟩:=hv.form;obtain rfl:n=m:=by omega
 obtain⟨x1,x2,o⟩:=x;simp only at cU nP hn ⊢;obtain⟨W3,hW3⟩:=aq (((W.alloc (.cells #[x1,x2,.slice bL n ba] 31)).alloc (.cells #[x1,x2,.slice pK n Hd] 31)));have aR:ag ai W W3:=by rw[hW3];exact (ay.alloc _).alloc _
 have az:=af aR;have pN:aw W3 W.heap.size [x1,x2,.slice bL n ba] 31:=by rw[hW3];exact (aw.new W _ _).alloc _
 have Hp:aw W3 (W.heap.size+1) [x1,x2,.slice pK n Hd] 31:=by
  rw[hW3];have:=aw.new (W.alloc (.cells #[x1,x2,.slice bL n ba] 31)) #[x1,x2,.slice pK n Hd] 31;simpa using this
 obtain⟨Si,Sj,Sk⟩:=pN.gF;obtain⟨ala,alb,alc⟩:=Hp.gF;have hb1:(x1==x1)=true:=beq_self_eq_true _;have hb2:(x2==x2)=true:=beq_self_eq_true _;have dy:=af (abj _ _ o o W3 (cU.mods aR (fun _ _ f=>f)) (nP.mods aR (fun _ _ f=>f)));clear hu hv hn hm cU nP aR pN Hp hx0 Ok;go_in;go_upto_region 1 with (fail)
 rw[<-hW3];clear hW3;go_wp2_with fail;refine dy.mono ?_;rintro e w ⟨rfl,hm⟩;have bJ:=af (az.trans hm);clear hm;rw[beq_self_eq_true];go_wp2_with fail;go_ret;exact⟨rfl,bJ⟩
theorem ajS {s:ax} (h:iP.C1 s):qO s:=by
 obtain⟨h1,h2,h3,h4,h5,h6,h7,h8,dJ,h10,-⟩:=h;exact⟨⟨h1,h2,h3,h4,h5,h6,h7⟩,⟨by unfold maxLen;omega,by unfold maxLen;omega⟩,h10⟩
theorem SG {L:List aB.Fn} (h:iP.zh L):∀f∈cI L,tS f:=by
 intro f hf;obtain⟨h1,h2,h3,h4,h5,h6,h7⟩:=h.steps f hf;refine⟨by unfold maxLen;omega,by unfold b9;omega,fun x hx=>?_,fun s hs=>ajS (h1 s hs)⟩;have:=h3 x hx;unfold b9;omega
theorem abS {s:List UInt8} {L:List aB.Fn} (hr:zB s (.ok L)) (hs:s.length<=1200) (hc:uo L):iP.zh L:=by
 have hp:=Pn hr;have h1:=ah0 hr;refine iP.abR hp.fit hp.few (by omega) ?_ hc.2.1 hc.2.2;have h2:=(R7 L).2 hc;obtain⟨u,h3,-⟩:=iP.cJ h2;exact h3
theorem abT {L:List aB.Fn} (h:iP.zh L):0<jL (cI L)/\jL (cI L)<=1000000000:=by
 have Dt:=h.code;unfold p9 at Dt;simp only[anX,decide_eq_true_eq,aoC]at Dt;have hlen:=Dt.1.1.1;have hall:=Dt.1.2;have key:∀l:List ar,(∀f∈l,f.steps.length<=6000/\0<f.steps.length)->jL l<=6000*l.length/\l.length<=jL l:=by
  intro l;induction l with
  | nil=>intro _;exact⟨anC _,anC _⟩
  | cons a r ih =>
    intro hh;obtain⟨i1,i2⟩:=ih (fun f hf=>hh f (aoA _ hf));have:=hh a aox;simp only[jL,anK];omega
 obtain⟨k1,k2⟩:=key (cI L) (fun f hf=>by
  have:=hall f hf;unfold l4 at this;simp only[anX,decide_eq_true_eq]at this;exact⟨this.1.1.1.1.2,(h.steps f hf).2.2.2.1⟩)
 have qh:0<(cI L).length:=by
  obtain⟨fn,hm,-⟩:=h.main;have:=aoc hm;unfold cI;rw[anR];exact List.length_pos_of_mem this
 omega
end aW
namespace aW
open Go.RowKit aB Go.Proofs.Tryz
structure bn where
 cL:Int->Option Int
 same:Int->Option Int
def bn.none:bn:=⟨fun _=>Option.none,fun _=>Option.none⟩
def qs (F:Int->Option Int) (p x:Int):Int->Option Int:=fun y=>if y=p then some x else F y
def oP (F:Int->Option Int) (p:Int):Int->Option Int:=fun y=>if y=p then Option.none else F y
def vE (F:Int->Option Int) (p:Int):Int->Option Int:=fun y=>if F y=some p then Option.none else F y
def bn.forget (k:bn) (p:Int):bn:=⟨oP k.cL p,vE (oP k.same p) p⟩
def bn.of (k:bn) (p:Int):Int:=(k.same p).getD p
def bn.reads (k:bn) (s:ax):ax:={ s with a:=k.of s.a,b:=k.of s.b,c:=k.of s.c,args:=s.args.map k.of }
def vD (dst n:Int):ax:=⟨1,dst,0,0,0,n,[],0,[],[]⟩
def p_ (dst a:Int):ax:=⟨2,dst,a,0,0,0,[],0,[],[]⟩
def DU (l:Int):ax:=⟨4,0,0,0,0,0,[],l,[],[]⟩
def gW (s:ax) (A B:Option Int):ax :=
 if s.code=2/\A.isSome then vD s.dst (A.getD 0)
 else if s.code=5/\A=some 0 then DU s.label
 else if s.code=3/\A.isSome/\B.isSome then (if (dA s.op (A.getD 0) (B.getD 0)).2=0 then vD s.dst (dA s.op (A.getD 0) (B.getD 0)).1 else s)
 else if s.code=3/\((B=some 0/\(s.op=[43]\/s.op=[45]))\/(B=some 1/\(s.op=[42]\/s.op=[47]))) then p_ s.dst s.a
 else if s.code=3/\((A=some 0/\s.op=[43])\/(A=some 1/\s.op=[42])) then p_ s.dst s.b
 else s
def bn.step (k:bn) (s:ax):ax:=gW (k.reads s) (k.cL (k.of s.a)) (k.cL (k.of s.b))
def eJ (s:ax):Int:=if s.code=1\/s.code=2\/s.code=3\/s.code=7\/s.code=9\/s.code=10\/s.code=11\/s.code=14 then s.dst else -1
def jb (s:ax):List Int :=
 if s.code=2\/s.code=5\/s.code=8\/s.code=9\/s.code=10\/s.code=13 then [s.a]
 else if s.code=3\/s.code=11 then [s.a,s.b]
 else if s.code=12 then [s.a,s.b,s.c]
 else if s.code=7 then s.args
 else []
def bn.kR (k:bn) (s:ax):bn :=
 if eJ s<0 then k
 else if s.code=1 then ⟨qs (k.forget (eJ s)).cL (eJ s) s.n,(k.forget (eJ s)).same⟩
 else if s.code=2/\s.a≠eJ s then ⟨(k.forget (eJ s)).cL,qs (k.forget (eJ s)).same (eJ s) s.a⟩
 else k.forget (eJ s)
def idle (k:bn) (t:ax):Bool:=t.code==5 && (match k.cL t.a with|some a=>a != 0|Option.none=>false)
def fS (k:bn) (s:ax):bn:=if s.code=6 then bn.none else k
def eM:bn->List ax->List ax
 | _,[]=>[]
 | k,s::r=>if idle (fS k s) ((fS k s).step s) then eM (fS k s) r else (fS k s).step s::eM ((fS k s).kR ((fS k s).step s)) r
def kQ (f:ar):ar:={ f with steps:=eM bn.none f.steps }
def nW (s:ax):Bool:=s.code==1 || s.code==2 || s.code==10 || (s.code==3 && s.op != [47] && s.op != [37])
def ic (f:ar) (i:Nat):List Nat :=
 match f.steps[i]? with
 | Option.none=>[]
 | some s=>(if s.code=4\/s.code=5 then [jD f s.label] else [])++(if s.code≠4/\s.code≠8/\i+1<f.steps.length then [i+1] else [])
structure AP (f:ar) (B A:Nat->Int->Prop):Prop where
 next:∀i k p,k∈ic f i->A k p->B i p
 keep:∀i s p,f.steps[i]?=some s->B i p->p≠eJ s->A i p
 use:∀i s p,f.steps[i]?=some s->p∈jb s->A i p
def vt (f:ar) (i:Nat) (p:Int):Prop:=∀B A,AP f B A->B i p
def LL (f:ar) (i:Nat) (p:Int):Prop:=∀B A,AP f B A->A i p
theorem yS (f:ar):AP f (vt f) (LL f) :=
 ⟨fun i k p hk h B A hc=>hc.next i k p hk (h B A hc),fun i s p hs h hp B A hc=>hc.keep i s p hs (h B A hc) hp,fun i s p hs hp B A hc=>hc.use i s p hs hp⟩
open Classical in
noncomputable def wB (f:ar) (i:Nat) (p:Int):Bool:=decide (vt f i p)
open Classical in
noncomputable def eZ (f:ar):Nat->List ax->List ax
 | _,[]=>[]
 | i,s::r=>if !nW s || wB f i (eJ s) then s::eZ f (i+1) r else eZ f (i+1) r
noncomputable def qQ (f:ar):ar:={ f with steps:=eZ f 0 f.steps }
def iI:Bool->List ax->List ax
 | _,[]=>[]
 | on,s::r=>(if on || s.code==6 then [s] else [])++iI ((on || s.code==6) && !(s.code==4 || s.code==8)) r
def i_:List ax->List ax
 | []=>[]
 | [s]=>[s]
 | s::t::r=>if s.code=4/\t.code=6/\t.label=s.label then i_ (t::r) else s::i_ (t::r)
def mM (l:List ax) (x:Int):Bool:=l.any (fun s=>(s.code==4 || s.code==5) && s.label==x)
def ln (l:List ax) (s:ax):Bool:=s.code==6 && !mM l s.label
def y2 (l:List ax):List ax:=(i_ (iI true l)).filter (fun s=>!ln (i_ (iI true l)) s)
def xI (f:ar):ar:={ f with steps:=y2 f.steps }
noncomputable def om (f:ar):ar:=xI (qQ (kQ f))
noncomputable def jH (f:ar):ar:=om (om (om (om f)))
end aW
namespace aW
open Go.RowKit bB Go.Maps aB Go.Proofs.Tryz
variable {n aQ sb kb nb:Nat} {W W':World} {F:Int->Option Int} {E t:TypeId} {p a:Int} {K:bn} {S:Nat->Prop}
abbrev CJ:=DataW Value
def k6 (E:TypeId) (W:World) (aQ n:Nat) (F:Int->Option Int):Prop :=
 ∃D:CJ,W.ownsMap prog 3 (plainElem prog E) aQ n D/\∀ (a:Int) (z:CJ),D.atKey (.int .i64 a) z=(match F a with|some x=>.lit (.int .i64 x)|none=>z)
theorem k6.mods (h:k6 E W aQ n F) (hm:ag S W W') (hn:¬S aQ):k6 E W' aQ n F:=by
 obtain⟨D,⟨es,cl,h1,h2⟩,h3⟩:=h;exact⟨D,⟨es,cl,hm.Bu h1 hn,h2⟩,h3⟩
theorem k6.lt (h:k6 E W aQ n F):aQ<W.heap.size:=by
 obtain⟨D,h1,_⟩:=h;exact h1.lt
theorem k6.more {m:Nat} (h:k6 E W aQ n F) (hm:n<=m):k6 E W aQ m F:=by
 obtain⟨D,h1,h2⟩:=h;exact⟨D,h1.mono hm,h2⟩
theorem k6.new (E:TypeId) (W:World):k6 E (W.alloc (.map #[] 0)) W.heap.size 0 (fun _=>none) :=
 ⟨_,World.ownsMap_made _ _ _ _,fun s z=>rfl⟩
theorem k6.look (h:k6 E W aQ n F) (ht:prog.underlying t=some (.map 3 E)) (he:prog.underlying E=some (.int .i64)) (hz:(zeroValue E).run prog W=.ok (.int .i64 0) W) (ha:b9 a) :
 (Instr.lookup t (.map (some aQ)) (.int .i64 a) true).run prog W=.ok (.tuple #[.int .i64 ((F a).getD 0),.bool (F a).isSome]) W:=by
 obtain⟨D,h1,h2⟩:=h;obtain⟨v,ps,hr,hv⟩:=h1.look_ok yN ht hz (zd:=.lit (.int .i64 0)) (zp:=[]) (plainElem_int he (by decide)) (DX ha);rw[h2 a]at hv;cases hf:F a with
 | none =>
   rw[hf]at hv;obtain⟨c,rfl,hc,hw⟩:=plainElem_int_inv he hv;simp only[an8,DataW.lit.injEq,Lit.int.injEq,true_and]at hc;rw[hr,has_false_of_atKey (fun z=>by rw[h2 a,hf])];simp[<-hc.1]
 | some x =>
   rw[hf]at hv;obtain⟨c,rfl,hc,hw⟩:=plainElem_int_inv he hv;simp only[an8,DataW.lit.injEq,Lit.int.injEq,true_and]at hc;rw[hr,has_true_of_atKey (y:=.lit (.int .i64 x)) (fun z=>by rw[h2 a,hf])];simp[<-hc.1]
theorem k6.put (h:k6 E W aQ n F) (ht:prog.underlying t=some (.map 3 E)) (he:prog.underlying E=some (.int .i64)) {x:Int} (ha:b9 a) (hx:b9 x) (hn:n<maxLen) :
 ∃w',(Instr.mapUpdate t (.map (some aQ)) (.int .i64 a) (.int .i64 x)).run prog W=.ok () w'/\k6 E w' aQ (n+1) (qs F a x)/\ag (·=aQ) W w':=by
 obtain⟨D,h1,h2⟩:=h;obtain⟨w',hr,ho,hg⟩:=h1.update yN ht hn (DX ha) (plainElem_int he (XG hx));refine⟨w',hr,⟨_,ho,fun y z=>?_⟩,ag.of_grownBy hg (fun k hk _=>by cases hk;rfl)⟩;unfold qs;by_cases hy:y=a
 ·subst hy
  simp only[if_true];rw[atKey_put_same (k:=.int .i64 y) h1.isMap (by trivial)]
 ·simp only[if_neg hy]
  rw[atKey_put_other (by simpa using hy),h2 y]
theorem Mc {y:Int}:(Lit.int .i64 a).sameKey (.int .i64 y)=decide (a=y):=by
 by_cases h:a=y
 ·subst h
  simp[WideAt.sameKey_self (a:=Lit.int .i64 a) trivial]
 ·rw[sameKey_ne (by simpa using h)]
  simp[h]
structure nI (W:World) (kb nb sb n:Nat) (K:bn):Prop where
 blk:aw W kb [.map (some nb),.map (some sb)] 177
 cL:k6 2 W nb n K.cL
 same:k6 3 W sb n K.same
 ne:nb≠sb/\kb≠nb/\kb≠sb
 GK:∀p x,K.cL p=some x->b9 x
 Ct:∀p x,K.same p=some x->b9 x
theorem nI.mods (h:nI W kb nb sb n K) (hm:ag S W W') (h1:¬S kb) (h2:¬S nb) (h3:¬S sb):nI W' kb nb sb n K :=
 ⟨h.blk.mods hm h1,h.cL.mods hm h2,h.same.mods hm h3,h.ne,h.GK,h.Ct⟩
theorem aff (w:World):(zeroValue 3).run prog w=.ok (.int .i64 0) w:=by kernel_rfl
theorem OP (w:World):(zeroValue 2).run prog w=.ok (.int .i64 0) w:=by kernel_rfl
theorem bn.D6 (h:∀p x,K.same p=some x->b9 x) (hp:b9 p):b9 (K.of p):=by
 unfold bn.of;cases hk:K.same p with
 | none=>exact hp
 | some x=>exact h p x hk
theorem Ka (h:nI W kb nb sb n K) (hp:b9 p) :
 Calls prog 123 #[.pointer (some ⟨kb,0,none⟩),p] W fun e w=>e=.returned (.int .i64 (K.of p))/\W=w:=by
 have hl:=h.same.look (t:=120) underlying120 underlying3 (aff _) hp;have c1:=h.blk.ah 1;obtain⟨q,hq⟩:=aq (K.of p);have dy:=af hq;unfold bn.of at hq;rw[<-dy.out];clear h;cases hs:K.same p with
 | none =>
   rw[hs]at hq hl;simp only[Option.getD_none,Option.isSome_none]at hl hq;subst hq;clear hs;go_in;go_wp2_with fail;go_ret;exact⟨rfl,rfl⟩
 | some x =>
   rw[hs]at hq hl;simp only[aoU,Option.isSome_some]at hl hq;subst hq;clear hs dy;go_in;go_wp2_with fail;go_ret;exact⟨rfl,rfl⟩
theorem Vk (p x q:Int) (b:Nat) (w:World) (hb:w.cell? ⟨b,0,none⟩=some (.int .i64 p)) :
 Calls prog 125 #[x,q,.pointer (some ⟨b,0,none⟩)] w fun e w'=>e=.returned (.bool (q==p))/\w=w':=by
 go_in;go_wp2_with fail;go_ret;exact⟨rfl,rfl⟩
def CC (F:Int->Option Int) (p:Int) (left:Lit->Bool):Int->Option Int:=fun y=>if F y=some p/\left (.int .i64 y)=false then none else F y
theorem aa0 {b:Nat} (h:k6 3 W sb n F) (hb:W.cell? ⟨b,0,none⟩=some (.int .i64 p)) (I3:b≠sb) :
 Calls prog 124 #[.map (some sb),.func (.func 125) #[] #[.pointer (some ⟨b,0,none⟩)]] W fun e w=>e=.returned (.tuple #[])/\k6 3 w sb n (vE F p)/\ag (·=sb) W w:=by
 obtain⟨D,hown,hat⟩:=h;have EI:=af hat;have aA:=af hb;clear hat hb;go_in;go_wp2_with (at_range;refine wpList_range_own _ rfl _ 120 rfl 3 3 yN underlying120 _ sb n _ rfl hown ?_;intro w0 hrg0 hg0 hs0;have vg:=af hrg0;have xT:=af (anw hg0 hs0);clear hrg0 hg0 hs0)
 go_frame
 go_loopw [] (fun wr=>∃ (left:Lit->Bool) (cnt:Nat) (Hk:CJ),Hid (wr.ranges prog 3 (plainElem prog 3) sb W.heap.size n Hk left cnt)/\Hid (∀ (a:Int) (z:CJ),Hk.atKey (.int .i64 a) z=(match CC F p left a with|some x=>.lit (.int .i64 x)|none=>z))/\Hid (W.grownBy wr (some sb)))
  (fun wr=>wr.rangeLeft sb W.heap.size)
 case atStart =>
  refine⟨_,_,D,vg,af (fun a z=>?_),af (xT.1.but _)⟩;rw[EI.out a z];unfold CC;cases hf:F a with
  | none=>simp
  | some x =>
    have:Maps.has D (.int .i64 a)=true:=has_true_of_atKey (y:=.lit (.int .i64 x)) (fun z=>by rw[EI.out a z,hf]);simp[this]
 case round =>
  clear vg xT;obtain⟨left,cnt,Hk,vg,tV,Qr⟩:=hrel;go_wp2_with (at_next;refine wpList_next_ranges_ii _ rfl _ rfl 3 3 .i64 .i64 yN underlying3 underlying3 sb W.heap.size n _ _ _ rfl vg ?_ ?_)
  ·intro hc0 hl0
   have YA:=af hl0;clear hc0 hl0;go_wp2;go_end0;refine⟨rfl,⟨Hk,vg.owns,fun a z=>?_⟩,ag.of_grownBy Qr (fun k hk _=>by cases hk;rfl)⟩;rw[tV.out a z];unfold CC vE;simp[YA.out]
  ·intro x c w1 aaQ hwx hwc xw hat UE hlt sg hs1 hen
   have Nr:=Qr.andThen sg (fun j hj=>by cases hj;exact Or.inl (anD _));have Qs:=af Nr;have Lr:=af UE;have Zk:=af hwx;have HH:=af (anw xw (anw hlt hs1));have hb1:w1.cell? ⟨b,0,none⟩=some (.int .i64 p):=(ag.of_grownBy (S:=(·=sb)) Nr (fun k hk _=>by cases hk;rfl)).cellOf aA I3;have hF:F x=some c:=by
        have h1:=tV.out x (.lit (.int .i64 (c+1)));rw[hat]at h1;unfold CC at h1;rw[if_neg (by simp[xw])]at h1;cases hf:F x with
        | none =>
          rw[hf]at h1;simp only[DataW.lit.injEq,Lit.int.injEq,true_and]at h1;omega
        | some y =>
          rw[hf]at h1;simp only[DataW.lit.injEq,Lit.int.injEq,true_and]at h1;rw[h1]
   have bb:=af hF;have Hv:=af hen;clear Nr UE hwx xw hat hlt sg hs1 hF;by_cases BL:c=p
   ·have hce:(c==p)=true:=by simp[BL]
    have zl:=af BL;clear BL;go_wp2_with (first|(go_at_call 125;refine (Vk p x c b _ hb1).mono ?_;rintro e w' ⟨rfl,rfl⟩)|(at_delete;refine wpList_delete_ranges _ rfl _ _ 120 3 rfl 3 yN underlying120 _ sb W.heap.size n _ _ _ rfl Lr _ _ rfl (keyOf_int_mk underlying3 Zk) ?_;intro w2 cnt2 hrg2 hle UR;have QY:=af hrg2;have bA:=af (anw hle UR);clear hrg2 hle UR;go_frame));go_roundw
    case rel =>
     refine⟨_,cnt2,_,af (by have h:=QY.out;rw[strike_twice]at h;exact h),af (fun a z=>?_),af (Qs.andThen bA.2.grown (fun j hj=>by cases hj;exact Or.inr rfl))⟩;by_cases Dq:a=x
     ·subst Dq
      rw[atKey_del_same];unfold CC;rw[if_pos (by rw[bb.out,zl.out];simp[Mc])]
     ·rw[atKey_del_other (by simpa using Dq),tV.out a z]
      unfold CC;simp[Mc,Dq]
    case measure=>rw[QY.left_eq,vg.left_eq];have:=bA.1;have:=HH.2.1;omega
   ·have hce:(c==p)=false:=by simp[BL]
    have zl:=af BL;clear BL;go_wp2_with (go_at_call 125;refine (Vk p x c b _ hb1).mono ?_;rintro e w' ⟨rfl,rfl⟩);go_roundw
    case rel =>
     refine⟨_,aaQ,_,Lr,af (fun a z=>?_),Qs⟩;rw[tV.out a z];unfold CC;by_cases Dq:a=x
     ·subst Dq
      have:¬(F a=some p):=(by rw[bb.out];simpa using zl.out);simp[this]
     ·simp[Mc,Dq]
    case measure=>rw[Lr.left_eq,vg.left_eq];exact HH.2.1
theorem k6.turned {w:World} {D:CJ} (hat:∀ (a:Int) (z:CJ),D.atKey (.int .i64 a) z=(match F a with|some x=>.lit (.int .i64 x)|none=>z)) (h:w.ownsMap prog 3 (plainElem prog E) aQ n (D.del (.int .i64 p))):k6 E w aQ n (oP F p):=by
 refine⟨_,h,fun a z=>?_⟩;unfold oP;by_cases hap:a=p
 ·subst hap
  rw[atKey_del_same];simp
 ·rw[atKey_del_other (by simpa using hap),hat a z]
  simp[hap]
theorem acf (h:nI W kb nb sb n K) (hp:b9 p) :
 Calls prog 110 #[.pointer (some ⟨kb,0,none⟩),p] W fun e w=>e=.returned (.tuple #[])/\nI w kb nb sb n (K.forget p)/\ag (fun k=>k=nb\/k=sb) W w:=by
 obtain⟨W1,hW1⟩:=aq (W.alloc (.cells #[p] 3));have aO:ag ai W W1:=by rw[hW1];exact ay.alloc _
 have hb1:aw W1 W.heap.size [p] 3:=by rw[hW1];exact aw.new W _ _
 have h1:=h.mods aO id id id;obtain⟨hblk,⟨XT,la,su⟩,⟨P0,hs1,hs2⟩,hne,xv,F5⟩:=h1;have c0:=hblk.ah 0;have c1:=hblk.ah 1;have b0:=hb1.ah 0;have aT:=af (anw la su);have HS:=af (anw hs1 hs2);have aA:=af (anw hblk (anw hne (anw xv F5)));have bD:=af hb1;have aD:=af aO;have bP:=af hp;have cu:=af (anw h.blk.lt (anw h.cL.lt h.same.lt));clear la su hs1 hs2 hblk hne xv F5 hb1 aO hp h;go_in;go_upto_region 1 with (fail)
 rw[<-hW1];clear hW1
 go_still_tail 5,(by kernel_rfl)
 change wpList _ _ _ _ _ W1.drew;go_wp2_with (at_delete;refine wpList_delete_own _ rfl _ _ 175 3 rfl 2 yN underlying175 _ nb n XT rfl aT.1 _ _ rfl (DX bP) ?_;intro w2 Jp US;have EU:=af Jp;have cW:=af (ag.of_grownBy (S:=(·=nb)) US.grown (fun k hk _=>by cases hk;rfl));clear Jp US;go_frame;refine Hid.out ?_);refine af ?_;have Gd:=aA.2.1;have hlk:=cu.out;have Ut:W.heap.size≠nb:=by omega
 have c1:w2.cell? ⟨kb,1,none⟩=some (.map (some sb)):=cW.cellOf (show W1.drew.cell? ⟨kb,1,none⟩=some (.map (some sb)) from c1) (fun e=>Gd.2.1 e);have b0:w2.cell? ⟨W.heap.size,0,none⟩=some (.int .i64 p):=cW.cellOf (show W1.drew.cell? ⟨W.heap.size,0,none⟩=some (.int .i64 p) from b0) Ut;have fu:=af (show w2.ownsMap prog 3 (plainElem prog 3) sb n P0 by
  obtain⟨es,cl,h1,h2⟩:=HS.1;exact⟨es,cl,cW.Bu (a:=W1.drew) h1 (fun e=>Gd.1 e.symm),h2⟩)
 clear c0;go_upto_region 2 with (fail)
 go_still_tail 5,(by kernel_rfl)
 change wpList _ _ _ _ _ w2.drew;go_wp2_with (at_delete;refine wpList_delete_own _ rfl _ _ 120 3 rfl 3 yN underlying120 _ sb n P0 rfl fu _ _ rfl (DX bP) ?_;intro w3 Ux UT;have wW:=af Ux;have vk:=af (ag.of_grownBy (S:=(·=sb)) UT.grown (fun k hk _=>by cases hk;rfl));clear Ux UT;go_frame;refine Hid.out ?_);refine af ?_;have N7:W.heap.size≠sb:=by omega
 have k_:∀ (fn:Go.Fn) (first cap:Array Value) (w:World),(Instr.makeFunc fn first cap).run prog w=.ok (.func fn first cap) w:=fun _ _ _ _=>rfl
 have c1:w3.cell? ⟨kb,1,none⟩=some (.map (some sb)):=vk.cellOf (show w2.drew.cell? ⟨kb,1,none⟩=some (.map (some sb)) from c1) (fun e=>Gd.2.2 e);have b0:w3.cell? ⟨W.heap.size,0,none⟩=some (.int .i64 p):=vk.cellOf (show w2.drew.cell? ⟨W.heap.size,0,none⟩=some (.int .i64 p) from b0) N7;have HD:=af (aa0 (k6.turned HS.2 wW) b0 N7);have YQ:=af (anw Gd hlk);clear Gd hlk b0 Ut N7;go_wp2_with fail;refine HD.mono ?_;rintro e w4 ⟨rfl,Ah,bX⟩;have iU:=af Ah;have dV:=af bX;clear Ah bX c1 k_;go_wp2;go_end0;have hne:=YQ.1;have S3:ag (fun k=>k=nb\/k=sb) W1 w4:=((ag.refl _ W1).drew.trans (cW.mono fun _ _ e=>Or.inl e)).trans (((ag.refl _ w2).drew.trans (vk.mono fun _ _ e=>Or.inr e)).trans (dV.mono fun _ _ e=>Or.inr e));have acS:ag (fun k=>k=sb) w2 w4:=((ag.refl _ w2).drew.trans vk).trans dV;have hm:ag (fun k=>k=nb\/k=sb) W w4:=(aD.mono fun _ _ f=>f.elim).trans S3;refine⟨rfl,⟨aA.1.mods S3 (fun e=>e.elim (fun e=>hne.2.1 e) (fun e=>hne.2.2 e)),(k6.turned aT.2 EU).mods acS (fun e=>hne.1 e),iU,hne,fun q x hq=>?_,fun q x hq=>?_⟩,hm⟩
 ·unfold bn.forget oP at hq
  simp only at hq;split at hq
  ·cases hq
  ·exact aA.2.2.1 q x hq
 ·unfold bn.forget vE oP at hq
  simp only at hq;split at hq
  ·cases hq
  ·split at hq
   ·cases hq
   ·exact aA.2.2.2 q x hq

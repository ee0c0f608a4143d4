/- A part of what stands behind. -/
import Derived.Test.YtnicpmoanjddbaaGreatDoorFp07
import Derived.StillTailTactics
import Derived.Laws.MakeOwn
set_option maxRecDepth 100000
set_option maxHeartbeats 4000000
set_option linter.all false
namespace Go.Proofs.YtnicpmoanjddbaaGreatDoor
namespace aW
open Go.RowKit bB Go.Maps aB Go.Proofs.Tryz
variable {W W0:World} {P cw b_ M:Nat->Prop} {b ak:Nat} {pr:Int} {w:Lw}
theorem fx.new (dZ:∀k,P k->k<W.heap.size) (nm:List UInt8) (pr:Int) :
 fx ((W.alloc (.map #[] 0)).alloc (.cells #[.string ⟨nm.toArray⟩,pr,.slice none 0 0,.slice none 0 0,.map (some W.heap.size),.int .i64 0,.int .i64 0] 89)) (W.heap.size+1) W.heap.size P (fun k=>k=W.heap.size\/k=W.heap.size+1) nm pr iJ:=by
 have hb:aw ((W.alloc (.map #[] 0)).alloc (.cells #[.string ⟨nm.toArray⟩,pr,.slice none 0 0,.slice none 0 0,.map (some W.heap.size),.int .i64 0,.int .i64 0] 89)) (W.heap.size+1) [.string ⟨nm.toArray⟩,pr,.slice none 0 0,.slice none 0 0,.map (some W.heap.size),.int .i64 0,.int .i64 0] 89:=by
  have:=aw.new (W.alloc (.map #[] 0)) #[.string ⟨nm.toArray⟩,pr,.slice none 0 0,.slice none 0 0,.map (some W.heap.size),.int .i64 0,.int .i64 0] 89;simpa using this
 refine⟨⟨.slice none 0 0,.slice none 0 0,[],hb,World.ownsRow_nil _ _ _ _,World.ownsRow_nil _ _ _ _,(fun i x hx=>by simp[iJ]at hx),(fun k hk=>by cases hk),(fun k hk=>by cases hk)⟩,⟨0,[],(NameMap.new W _).mods (S:=ai) (ay.alloc _) id,anD _,fun x=>rfl⟩,Or.inr rfl,⟨Or.inl rfl,by omega⟩,fun k hk=>?_,fun k hk hp=>?_,fun k hp=>?_⟩
 ·simp
  omega
 ·have:=dZ k hp
  omega
 ·have:=dZ k hp
  simp;omega
theorem bU.put {nm:List UInt8} (h:bU W0 cw b_ b ak nm pr W P M w) (x:List UInt8) (k:Int) (hx:mJ x) (hz:w.sz<1000000) :
 ∃w3,(Instr.mapUpdate 87 (.map (some ak)) (.string ⟨x.toArray⟩) (.int .i64 k)).run prog W=.ok () w3/\bU W0 cw b_ b ak nm pr w3 P M { w with names:=xH w.names x k }:=by
 obtain⟨n,F,g1,g2,g3⟩:=h.iG.names;obtain⟨w3,hput,sx,aR⟩:=g1.put underlying87 x (by unfold mJ at hx;unfold maxLen;omega) (.int .i64 k) (by have:=Xl w;unfold maxLen;omega);obtain⟨e1,e2⟩:=h.iG.named g3 x k aR sx g2;exact⟨w3,hput,e1,h.ext.trans e2,h.up,h.back,h.sF⟩
theorem bU.agX {nm:List UInt8} (h:bU W0 cw b_ b ak nm pr W P M w) (k:Int):bU W0 cw b_ b ak nm pr (W.setCell ⟨b,6,none⟩ (.int .i64 k)) P M { w with none:=k }:=by
 obtain⟨e1,e2⟩:=h.iG.labeled 6 (.int .i64 k) { w with none:=k } rfl rfl rfl (Or.inr ⟨rfl,rfl,rfl⟩);exact⟨e1,h.ext.trans e2,h.up,h.back,h.sF⟩
theorem bU.nm {nm:List UInt8} (h:bU W0 cw b_ b ak nm pr W P M w) {v:Value} {N:Nm} (hn:vu W0 (fun k=>¬cw k) v N):vu W (fun k=>¬P k) v N :=
 hn.mods (h.ext.mods.mono fun k _ hk=>hk.elim (fun f=>f.elim) (h.sF k)) (fun k _ hk hp=>hk (h.up k hp))
theorem bU.made {S:Nat->Prop} {nm:List UInt8} (h:bU W0 cw b_ b ak nm pr W P M w) (hS:∀k,S k->k<W0.heap.size/\¬cw k/\¬b_ k) :
 ∃ta tc sa sc,W.cell? ⟨b,0,none⟩=some (.string ⟨nm.toArray⟩)/\W.cell? ⟨b,1,none⟩=some (.int .i64 pr)/\W.cell? ⟨b,2,none⟩=some (.slice ta w.types.length tc)/\W.cell? ⟨b,3,none⟩=some (.slice sa w.steps.length sc)/\b<W.heap.size/\dh W S (.slice ta w.types.length tc) w.types/\jS W S (.slice sa w.steps.length sc) w.steps:=by
 have zV:∀k,S k->¬M k:=fun k hk hm=>(hS k hk).2.2 (h.ext.back k (hS k hk).1 hm)
 have ac8:∀k,S k->¬P k:=fun k hk hp=>(hS k hk).2.1 (h.back k (hS k hk).1 hp)
 obtain⟨tv,sv,cs,e1,e2,e3,e4,cG,ew⟩:=h.iG.blk;obtain⟨ta,tc,rfl⟩:=ru e2;obtain⟨sa,sc,rfl⟩:=ru e3;refine⟨ta,tc,sa,sc,e1.ah 0,e1.ah 1,e1.ah 2,e1.ah 3,e1.lt,VG e2 (fun k hk hs=>zV k hs (cG k hk).1),?_⟩;rcases e3.2 with⟨hv,h0⟩|⟨g,cap,cur,hv,h3,h4,h5,h6,h7,h8⟩
 ·have hnil:w.steps=[]:=anJ h0
  rw[hv,hnil];exact⟨none,0,rfl,anC _,anC _,fun _=>rfl,fun i s hs=>by simp at hs⟩
 ·refine⟨_,cap,hv,h5,h6,(fun h=>by cases h),fun i s hs=>?_⟩
  obtain⟨av,k1,k2⟩:=e4 i s hs;have hc:∀k u,(aY s av)[k]?=some u->W.cell? ⟨g,0+i*10+k,none⟩=some u:=fun k u hk=>by
   have:=e3.cells (g:=g) (by rw[hv];rfl) (i*10+k) u (k1 k u hk);rw[add_plain]at this;rw[aoI];exact this
  exact⟨g,0,av,rfl,fun hs=>zV g hs (ew g (by rw[hv];rfl)).1,⟨hc 0 _ rfl,hc 1 _ rfl,hc 2 _ rfl,hc 3 _ rfl,hc 4 _ rfl,hc 5 _ rfl,hc 6 _ rfl,hc 7 _ rfl,hc 8 _ rfl,hc 9 _ rfl⟩,k2.mods ay (fun k _ hs=>ac8 k hs)⟩
theorem afE {w:World} {fa:Option Addr} {fn yi:Nat} {L:List aB.Fn} (h:lU w ai (.slice fa fn yi) L):fn=L.length/\fn<=yi/\yi<=maxLen/\∀i,i<fn ->
 ∃x g o pa bz ck bg qn br dQ,fa=some ⟨g,o,none⟩/\L[i]?=some x/\w.cell? ⟨g,o+i*4,none⟩=some (.string ⟨x.name.toArray⟩)/\w.cell? ⟨g,o+i*4+1,none⟩=some (.int .i64 x.at_)/\w.cell? ⟨g,o+i*4+2,none⟩=some (.slice pa bz ck)/\w.cell? ⟨g,o+i*4+3,none⟩=some (.slice bg qn br)/\
  bz=x.params.length/\vu w ai (.slice pa bz ck) x.params/\fL w ai 143 7 (.slice bg qn br) x.body.length dQ/\cE w ai x.body dQ:=by
 obtain⟨ali,alo,alk,e,hfn,TV,q_,xq,Dw⟩:=h;obtain⟨rfl,rfl,rfl⟩:=Value.slice.inj e;refine⟨hfn,TV,q_,fun i hi=>?_⟩;have hE:i<L.length:=by omega
 obtain⟨g,o,p,q,dQ,e1,e2,e3,e4,cG,ew,dv,dc,fG⟩:=Dw i L[i] (anx hE);obtain⟨pa,ck,rfl⟩:=ru dv.1;obtain⟨bg,br,rfl⟩:=ru dc.1;exact⟨L[i],g,o,pa,_,ck,bg,_,br,dQ,e1,anx hE,e3,e4,cG,ew,rfl,V0 dv.1 (fun _ _ f=>f),dc,fG⟩
theorem afH (w:World):(Instr.makeMap 87 none).run prog w=.ok (.map (some w.heap.size)) (w.alloc (.map #[] 0)):=by
 simp[Instr.makeMap,run_underlying underlying87]
structure LO (W:World) (L:List aB.Fn) (pb:Nat) (i:Nat) (v:Value) (wr:World):Prop where
 mods:ag ai W wr
 blk:aw wr pb [v] 28
 out:oL wr W.heap.size pb v ((L.take i).map gV)
 lo:W.heap.size<=pb
def Rk (W:World) (L:List aB.Fn) (e:Ending) (w:World):Prop:=∃pb lv,e=.returned (.tuple #[.pointer (some ⟨pb,0,none⟩),.nilIface])/\w.cell? ⟨pb,0,none⟩=some lv/\iM w ai lv (cI L)/\ag ai W w
theorem afN (L:List aB.Fn) (v:Value) (W:World) (hL:lU W ai v L) (aZ:∀f∈L,LJ f) (hlen:L.length<=1000000) (hC:Calls prog 15 #[v] W fun e w=>e=.returned .nilIface/\ag ai W w) :
 Calls prog 14 #[v] W (Rk W L):=by
 obtain⟨i0,gw,hz0,hz1,hz2⟩:=J7 SJ;have aI:=af (anw gw (anw hz0 (anw hz1 hz2)));obtain⟨fa,n,yi,rfl,hn,iZ,hcm,-,-⟩:=id hL;have cu:=af hL;have mW:=af (anw aZ hlen);have aT:=af hn;have la:n<=1000000:=by omega
 unfold maxLen at hcm;clear hL aZ hlen gw hz0 hz1 hz2 hn;go_in;go_wp2_with fail;refine hC.mono ?_;rintro e w1 ⟨rfl,aO⟩;have aD:=af aO;clear aO hC;go_wp2_with fail;obtain⟨pb,j5⟩:=aq (w1.heap.size);rw[<-j5];have rT:Hid (LO W L pb 0 (.slice none 0 0) (w1.alloc (.cells #[.slice none 0 0] 28))):=af ⟨aD.alloc _,by rw[j5];exact aw.new w1 _ _,by simpa using oL.none_ _ _ _,by rw[j5];exact aD.size⟩;clear j5 aD
 go_loopw [20] (fun v20 wr=>∃i v,i<=n/\v20=.int .i64 ((i:Nat):Int)/\Hid (LO W L pb i v wr)) (fun v _=>(n-intOf v).toNat)
 case atStart=>exact⟨0,_,anC _,rfl,rT⟩
 case round =>
  clear rT;obtain⟨w2,rfl⟩:=aq wr;obtain⟨i,ov,hi,rfl,aU⟩:=hrel;have bm:((L.take i).map gV).length=i:=by
   rw[anR,anP];have:=aT.out;omega
  obtain⟨aG,aF,qg⟩:=aU.out.out.form;rw[bm]at qg;subst qg;have sT:=af bm;clear bm;by_cases hlt:i<n
  ·have cA:(i:Int)<(n:Int):=by omega
   obtain⟨x,g,o,pa,bz,ck,bg,qn,br,dQ,rfl,cU,ja,k1,k2,k3,fe,sx,hrow,sA⟩:=(afE cu).2.2.2 i hlt;have ja:=aU.mods.cellOf ja id;have k1:=aU.mods.cellOf k1 id;have k2:=aU.mods.cellOf k2 id;have k3:=aU.mods.cellOf k3 id;have gS:=World.block_lt_of_cell? _ _ ja;have nj:=anF cU;obtain⟨hx1,hx2,hx3⟩:=mW.1 x nj;have amk:bz<=400000:=(by omega);obtain⟨r4,Dn⟩:=aq (w2.alloc (.cells #[.string ⟨x.name.toArray⟩,x.at_,.slice pa bz ck,.slice bg qn br] 84));have NG:ag ai w2 r4:=(by rw[Dn];exact ay.alloc _);have M9:aw r4 w2.heap.size [.string ⟨x.name.toArray⟩,x.at_,.slice pa bz ck,.slice bg qn br] 84:=(by rw[Dn];exact aw.new w2 _ _);have N6:r4.heap.size=w2.heap.size+1:=(by rw[Dn];simp);obtain⟨fb,xr⟩:=aq (w2.heap.size);rw[<-xr]at N6 M9;obtain⟨b,hb⟩:=aq (fb+1+1);obtain⟨ak,yD⟩:=aq (fb+1);obtain⟨zF,BH⟩:=aq ((r4.alloc (.map #[] 0)).alloc (.cells #[.string ⟨x.name.toArray⟩,.int .i64 (bz:Int),.slice none 0 0,.slice none 0 0,.map (some ak),.int .i64 0,.int .i64 0] 89));have ni:ag ai r4 zF:=(by rw[BH];exact (ay.alloc _).alloc _);have UJ:zF.heap.size=fb+3:=(by rw[BH];simp;omega);obtain⟨P,FL⟩:∃P:Nat->Prop,P=fun k=>k<r4.heap.size/\¬(k=pb\/(Value.slice aG i aF).ownBlock=some k):=⟨_,rfl⟩
   obtain⟨M,MS⟩:∃M:Nat->Prop,M=fun k=>k=r4.heap.size\/k=r4.heap.size+1:=⟨_,rfl⟩
   have Uf:fx zF b ak P M x.name (bz:Int) iJ:=by
        have:=fx.new (W:=r4) (P:=P) (fun k hk=>by rw[FL]at hk;exact hk.1) x.name (bz:Int);rw[BH,MS];rw[show ak=r4.heap.size by omega,show b=r4.heap.size+1 by omega];exact this
   have Ac:pb<w2.heap.size:=aU.blk.lt;have Jo:∀k,(Value.slice aG i aF).ownBlock=some k->W.heap.size<=k/\k<w2.heap.size:=aU.out.out.lt;have hW2:=aU.mods.size;have z8:=aU.lo;have IP:∀k,k<W.heap.size->¬P k->ai k:=fun k hk hp=>hp (by
        rw[FL];exact⟨by omega,fun e=>e.elim (fun e=>by omega) (fun e=>by have:=(Jo k e).1;omega)⟩)
   have Tg:P fb:=by
        rw[FL];exact⟨by omega,fun e=>e.elim (fun e=>by omega) (fun e=>by have:=(Jo fb e).2;omega)⟩
   have IW:ag ai W zF:=(aU.mods.trans NG).trans ni;have iN:=af (bU.begin Uf);have aj:=af (anw (sx.mods (T:=fun k=>¬P k) IW IP) (anw (hrow.mods (T:=fun k=>¬P k) IW IP) (cE.b8 (T:=fun k=>¬P k) IW IP _ _ sA)));have H0:=af (anw hx1 (anw hx2 hx3));have bb:=af (anw (M9.mods ni id) Tg);have vd:=af fe;have Rc:=af cU;have Lh:=af (anw (NG.trans ni) (anw UJ xr));have A3:=af (anw FL MS);have mS:=af (anw N6 (anw Ac Jo));have l6:=afH r4;rw[Dn]at l6;clear fe M9 ni NG Uf IP Tg IW sx hrow sA hx1 hx2 hx3 cU UJ FL MS N6 Ac Jo hW2 z8 nj;go_wp2_with fail;rw[<-Dn,<-xr,<-hb,<-yD,<-BH];clear Dn BH yD hb xr ja k1 k2 k3 l6
   go_loopw [36] (fun v36 wr=>∃j P' M',j<=bz/\v36=.int .i64 ((j:Nat):Int)/\Hid (bU zF P M b ak x.name (bz:Int) wr P' M' (iy (x.params.take j) iJ))) (fun v _=>(bz-intOf v).toNat)
   case atStart=>exact⟨0,P,M,anC _,rfl,iN⟩
   case round =>
        clear iN;obtain⟨w3,rfl⟩:=aq wr;obtain⟨j,vw,jR,hj,rfl,HS⟩:=hrel;by_cases ep:j<bz
        ·have NT:(j:Int)<(bz:Int):=by omega
         have sx:=HS.nm aj.1;obtain⟨a',n',c',hv',yE,ad7,adz,-,hcell⟩:=id sx;obtain⟨rfl,rfl,rfl⟩:=Value.slice.inj hv';obtain⟨p,Jr⟩:∃p,x.params[j]?=some p:=⟨_,anx (by rw[<-vd.out];exact ep)⟩;obtain⟨nV,am3,rfl,-,d0,d1⟩:=hcell j p Jr;have amh:=World.block_lt_of_cell? _ _ d0;obtain⟨Ec,pt⟩:=p;have UA:mJ Ec:=H0.1 _ (anF Jr);obtain⟨wi,yK⟩:=aq (iy (x.params.take j) iJ);have eC:=af HS;rw[<-yK]at eC;have hsz:wi.sz<=800000:=by
          rw[yK,Ko,anP];have h1:=H0.2.2;have h0:iJ.sz=0:=rfl;omega
         have K1:Hid (iy (x.params.take (j+1)) iJ=(fU Ec pt wi).2):=af (by
          rw[aod,Jr]
          show iy (x.params.take j++[(Ec,pt)]) iJ=_
          rw[We,yK])
         have Nv:(j:Int)<9223372036854775807:=(by omega);obtain⟨dz,g_⟩:=aq (w3.alloc (.cells #[.string ⟨Ec.toArray⟩,pt] 91));have bX:ag ai w3 dz:=(by rw[g_];exact ay.alloc _);have hb4:aw dz w3.heap.size [.string ⟨Ec.toArray⟩,pt] 91:=(by rw[g_];exact aw.new w3 _ _);have hno:¬jR w3.heap.size:=fun e=>by have:=eC.iG.old _ e;omega
         have iU:=af ((eC.quiet bX).quiet (ag.refl ai dz).drew);have kV:=af hb4;have Ll:=af hno;have xY:=af (anw hsz UA);have b4:dz.cell? ⟨b,4,none⟩=some (.map (some ak)):=(iU.cells).1;have bl:b<dz.heap.size:=(iU.cells).2.2.2;have q0:=hb4.ah 0;have q1:=hb4.ah 1;have ahQ:=hb4.lt;unfold aB.str at d0;have YY:Hid ((y0 pt wi).2.sz<1000000):=af (by
          have h1:(y0 pt wi).2.types.length=wi.types.length+1:=(by simp[y0]);have h2:(y0 pt wi).2.sz=(y0 pt wi).2.types.length+wi.steps.length+wi.labels+wi.names.length:=rfl;have h3:wi.sz=wi.types.length+wi.steps.length+wi.labels+wi.names.length:=rfl;omega)
         clear sx hcell hv' yE ad7 adz Jr yK hsz bX hb4 hno UA HS;go_wp2_with fail;rw[<-g_];clear g_ d0 d1
         go_region_law (go_simp;go_at_call 32;refine (Ph iU.iG pt (by have:=xN wi;have:=xY.1;omega)).mono ?_;intro e aJ hk;have hs5:=iU.after hk;obtain⟨akW,akV,rfl,-,k2,-,-⟩:=hk;obtain⟨E8,eH,-,hs5⟩:=hs5;obtain⟨bw,hput,wa⟩:=hs5.put Ec (wi.types.length:Int) xY.2 YY;have cM:=af (kV.drew.mods k2.mods (fun e=>e.elim id Ll));have r0:=cM.ah 0;have r1:=cM.ah 1;have rl:=cM.lt;have oO:aJ.cell? ⟨b,4,none⟩=some (.map (some ak)):=hs5.cells.1;have ak0:b<aJ.heap.size:=hs5.cells.2.2.2;have qI:=af wa;clear hs5 wa k2)
         all_goals
          have lB:Hid (bU zF P M b ak x.name (bz:Int) bw E8 eH (iy (x.params.take (j+1)) iJ)):=af (by rw[K1.out];exact qI);clear q0 q1 r0 r1 oO b4 hput;go_wp2_with fail;go_roundw
          case rel=>exact⟨j+1,E8,eH,by omega,by go_num,lB⟩
          case measure=>simp only[intOf];omega
        ·obtain rfl:j=bz:=by omega
         have NT:¬(j:Int)<(j:Int):=(by omega);obtain⟨wi,yK⟩:=aq (iy x.params iJ);have lL:x.params.take j=x.params:=anN (by rw[<-vd.out];exact anD _);have hs1:=HS.out;rw[lL,<-yK]at hs1;have eC:=af hs1;have hsz:wi.sz=2*x.params.length:=by
          rw[yK,Ko];have h0:iJ.sz=0:=rfl;omega
         obtain⟨t1,t2,h3⟩:∃x y,bC 1 { aM with code:=1 } wi=(x,y):=⟨_,_,rfl⟩;have T7:ey x={ t2 with none:=t1 }:=by
          have h1:ey x={ (bC 1 { aM with code:=1 } wi).2 with none:=(bC 1 { aM with code:=1 } wi).1 }:=(by rw[yK];rfl);rw[h1,h3]
         obtain⟨eA,h9⟩:=ae (cZ x.body (ey x));obtain⟨wl,JJ⟩:=ae (a8 { aM with code:=8,a:=eA.none } eA);have Jg:pC x=wl:=by
          unfold pC;rw[h9,JJ]
         have I3:=w_ x.body (ey x);rw[h9,Nf]at I3;have bF:Hid (wi.sz<1000000/\(ey x).sz+8*jz x.body<=900000/\eA.sz<1000000):=af (by
          have h1:=H0.2.2;refine⟨by omega,?_,by omega⟩;rw[Nf];omega)
         have cB:=af (anw h3 (anw h9 JJ));have QE:=af (anw Jg T7);clear lL hs1 yK hsz h3 T7 h9 JJ Jg I3 HS;go_wp2_with fail;refine (eC.to 1 { aM with code:=1 } (dF.bare _ rfl) bF.1 cB.1).mono ?_;rintro e w4 ⟨pX,rY,rfl,hs⟩;have f0:=hs.cells.2.2.1;have alm:=hs.cells.2.2.2;have BA:w4.frozen? ⟨b,6,none⟩=false:=by
          obtain⟨_,_,_,gy,-⟩:=hs.iG.blk;exact gy.free 6
         have hs5:=hs.agX t1;rw[<-QE.2]at hs5;have kv:=hs5.node bb.1 bb.2;have g3:=kv.ah 3;have Mw:=kv.lt;have oI:=af hs5;clear hs hs5 kv;go_wp2_with fail;refine (bU.block (L3 x.body) oI aj.2.1 aj.2.2 H0.2.1 (adF x) bF.2.1 cB.2.1).mono ?_;rintro e bw ⟨H3,CW,rfl,hs⟩;have f6:=hs.cells.2.2.1;have aln:=hs.cells.2.2.2;have qI:=af hs;clear hs;go_wp2_with fail;refine (qI.add { aM with code:=8,a:=eA.none } (dF.bare _ rfl) bF.2.2 cB.2.2).mono ?_;rintro e a7 ⟨H4,w6,rfl,hs⟩;have FH:ag ai w2 a7:=Lh.1.trans' hs.ext.mods (fun k hk hl=>hk.elim id (fun hm=>by
          have h1:=A3.2;rw[h1]at hm;have h2:=mS.1;have h3:=Lh.2.2;rcases hm with hm|hm <;> omega))
         obtain⟨ta,tc,sa,sc,m0,m1,m2,m3,amV,hints,N9⟩:=hs.made (S:=fun k=>k=pb\/(Value.slice aG i aF).ownBlock=some k) (fun k hk=>by
          have h1:=A3.out;have h2:=mS.out;have h3:=Lh.out;have ng:k<w2.heap.size:=hk.elim (fun e=>by omega) (fun e=>(h2.2.2 k e).2);refine⟨by omega,fun hp=>?_,fun hm=>?_⟩
          ·rw[h1.1]at hp
           exact hp.2 hk
          ·rw[h1.2]at hm
           rcases hm with hm|hm <;> omega)
         have aep:=FH.size;have acZ:oL a7 W.heap.size pb (.slice aG i aF) ((L.take i).map gV):=aU.out.out.mods (FH.mono fun _ _ f=>f.elim);have FC:aw a7 pb [.slice aG i aF] 28:=aU.blk.mods FH id;have yw:ag ai W a7:=aU.mods.trans FH;obtain⟨cs,iQ,kg,kx⟩:=acZ;rw[sT.out]at iQ;have ni:ag ai a7 ((a7.alloc (.cells #[.string ⟨x.name.toArray⟩,.int .i64 (j:Int),.slice ta wl.types.length tc,.slice sa wl.steps.length sc] 55)).drew):=(ay.alloc _).drew;obtain⟨tn,dL⟩:=aq (wl.types.length);obtain⟨sn,dG⟩:=aq (wl.steps.length);rw[<-dL,<-dG]at ni;rw[<-dL]at m2 hints;rw[<-dG]at m3 N9;have fR:=af (ni.ownsRow iQ (fun k hk f=>f));have qH:=af (kg.mods (T:=fun k=>k=pb\/(Value.slice aG i aF).ownBlock=some k) (ni.mono fun _ _ f=>f.elim) (fun _ _ k=>k));have xU:=af kx;have tV:=af (anw (hints.mods (T:=fun k=>k=pb\/(Value.slice aG i aF).ownBlock=some k) (ni.mono fun _ _ f=>f.elim) (fun _ _ k=>k)) (N9.mods (T:=fun k=>k=pb\/(Value.slice aG i aF).ownBlock=some k) (ni.mono fun _ _ f=>f.elim) (fun _ _ k=>k)));have AU:=af (FC.mods ni id);have Zj:=af (yw.trans ni);have X5:Hid (W.heap.size<=((a7.alloc (.cells #[.string ⟨x.name.toArray⟩,.int .i64 (j:Int),.slice ta tn tc,.slice sa sn sc] 55)).drew).heap.size):=af (yw.trans ni).size;have gz:=af (VH a7 [.string ⟨x.name.toArray⟩,.int .i64 (j:Int),.slice ta tn tc,.slice sa sn sc] 55);have l7:Hid (∀u∈[Value.string ⟨x.name.toArray⟩,.int .i64 (j:Int),.slice ta tn tc,.slice sa sn sc],u.oneCell'=true):=af (fun u hu=>by
          simp only[anW,an1,or_false]at hu;rcases hu with rfl|rfl|rfl|rfl <;> rfl)
         have ag4:=FC.ah 0;have am1:=FC.free 0;have ol:=FC.lt;have n6:Hid (gV x=⟨x.name,(j:Int),wl.types,wl.steps⟩):=af (by
          unfold gV;rw[QE.1,<-vd.out])
         have akU:=af (anw dL dG);have rU:Hid ((L.take (i+1)).map gV=(L.take i).map gV++[gV x]):=af (by
          rw[aod,Rc.out];simp)
         have QF:=af aU.lo;clear hs FH hints N9 aep FC yw iQ kg kx ni dL dG f6 f0 g3;go_wp2_with fail
         go_region_law (refine G4 rfl (.tmp 72) (.tmp 77) 22 rfl W.heap.size 55 i0 _ 4 72 underlying22 aI.1 aI.2.1 aI.2.2.1 aI.2.2.2 rfl (by decide) (.slice aG i aF) i cs (by simp[Act.eval,Act.put]) fR ⟨a7.heap.size,0,none⟩ 1 1 [.string ⟨x.name.toArray⟩,.int .i64 (j:Int),.slice ta tn tc,.slice sa sn sc] (by simp[Act.eval,Act.put]) rfl gz.out l7.out (by unfold maxLen;omega) (by omega) X5 ?_;intro v' fg hown cr hloc;have b6:=af hown;have bZ:=af (anw cr hloc);have tT:=af (AU.mods (py cr hloc).mods (fun e=>xU.out _ e rfl));have p0:=tT.ah 0;have am4:=tT.free 0;have pl:=tT.lt;clear hown cr hloc;obtain⟨Kt,Ku,rfl⟩:=ru b6)
         all_goals
          have Te:oL fg W.heap.size pb (.slice Kt (i+1) Ku) ((L.take i).map gV++[gV x]):=Wa (v:=.slice aG i aF) (tv:=.slice ta tn tc) (sv:=.slice sa sn sc) (by rw[sT.out];exact fR) qH xU AU.lt (by rw[n6.out];exact tV.1) (by rw[n6.out];exact tV.2) (by rw[sT.out,n6.out];exact b6) bZ.1 bZ.2;have yv:ag ai W (fg.setCell ⟨pb,0,none⟩ (.slice Kt (i+1) Ku)):=(Zj.trans' (ag.of_grownBy (S:=fun k=>(Value.slice aG i aF).ownBlock=some k) bZ.1 (fun k hk _=>hk)) (fun k hk hl=>by have:=(fR.lt k hk).1;omega)).setCell (p:=⟨pb,0,none⟩) (fun hl=>by have h1:=QF.out;have h2:pb<W.heap.size:=hl;omega) _;have kW:Hid (LO W L pb (i+1) (.slice Kt (i+1) Ku) (fg.setCell ⟨pb,0,none⟩ (.slice Kt (i+1) Ku))):=af ⟨yv,tT.set 0 _,by rw[rU.out];exact Te.mods (cm _ _ _ _),QF⟩;clear Te yv;go_wp2_with fail;go_roundw
          case rel=>exact⟨i+1,_,by omega,by go_num,kW⟩
          case measure=>simp only[intOf];omega
  ·obtain rfl:i=n:=by omega
   have cA:¬(i:Int)<(i:Int):=(by omega);have lL:L.take i=L:=anN (by rw[<-aT.out];exact anD _);have hf:=aU.out.out.at_;rw[lL]at hf;have bb:=af (anw (aU.blk.ah 0) (anw hf aU.mods));clear lL hf;go_wp2_with fail;exact bodyPost_ret (v:=.tuple #[.pointer (some ⟨pb,0,none⟩),.nilIface]) (by simp[results,results14,go_sem]) rfl ⟨pb,_,rfl,bb.1,bb.2.1,bb.2.2⟩
end aW
namespace aB
open Go.Proofs.Tryz
theorem L2 {β:Type} {x:e6 Unit} {f:Unit->e6 β} {y:β}:cn x f=.ok y↔x=.ok ()/\f ()=.ok y:=by
 cases x with
 | error e=>simp[cn]
 | ok u=>simp[cn]
def AM (L:List Fn):Prop:=L.Pairwise (fun a b=>a.name≠b.name)
theorem Xu:(A L:List Fn)->(nZ A L=.ok ()↔(∀x∈L,∀g∈A,g.name≠x.name)/\AM L)
 | A,[]=>by simp[nZ,AM]
 | A,f::r=>by
   simp only[nZ];split
   ·rename_i h
    simp only[List.any_eq_true,beq_iff_eq]at h;obtain⟨g,hg,he⟩:=h;constructor
    ·intro h;cases h
    ·rintro⟨h,_⟩
     exact absurd he (h f List.mem_cons_self g hg)
   ·rename_i h
    simp only[List.any_eq_true,beq_iff_eq,not_exists,not_and]at h;rw[Xu (A++[f]) r];unfold AM;rw[List.pairwise_cons];constructor
    ·rintro⟨h1,h2⟩
     refine⟨fun x hx g hg=>?_,fun x hx=>h1 x hx f (by simp),h2⟩;rcases List.mem_cons.1 hx with rfl|hx
     ·exact h g hg
     ·exact h1 x hx g (by simp[hg])
    ·rintro⟨h1,h2,h3⟩
     refine⟨fun x hx g hg=>?_,h3⟩;rcases List.mem_append.1 hg with hg|hg
     ·exact h1 x (List.mem_cons_of_mem _ hx) g hg
     ·rw[List.mem_singleton]at hg
      subst hg;exact h2 x hx
theorem SK (M:List Fn):(L:List Fn)->(qa M L=.ok ()↔∀f∈L,ur M f=.ok ())
 | []=>by simp[qa]
 | f::r=>by
   simp only[qa];rw[L2,SK M r];simp
theorem SI {L:List Fn} (h:AM L) (s:List UInt8) (f:Fn):il L s=some f↔f∈L/\f.name=s:=by
 unfold il;constructor
 ·intro hf
  exact⟨List.mem_of_find?_eq_some hf,by have:=List.find?_some hf;simpa using this⟩
 ·rintro⟨hm,rfl⟩
  induction L with
  | nil=>simp at hm
  | cons a r ih =>
    unfold AM at h;rw[List.pairwise_cons]at h;rw[List.find?_cons];rcases List.mem_cons.1 hm with rfl|hm
    ·simp
    ·have:(a.name==f.name)=false:=by simpa using h.1 f hm
     rw[this];exact ih h.2 hm
def uo (L:List Fn):Prop:=AM L/\(∀f∈L,ur L f=.ok ())/\L.any nR=true
theorem R7 (L:List Fn):cn (nZ [] L) (fun _=>cn (qa L L) fun _=>.ok (L.any nR))=.ok true↔uo L:=by
 rw[L2,L2,Xu,SK];unfold uo;constructor
 ·rintro⟨h1,h2,h3⟩
  exact⟨h1.2,h2,Except.ok.inj h3⟩
 ·rintro⟨h1,h2,h3⟩
  exact⟨⟨fun _ _ _ h=>(nomatch h),h1⟩,h2,by rw[h3]⟩
end aB
namespace aB
open Go.RowKit Go.Proofs.Tryz
end aB
namespace aB
open Go.RowKit bB Go.Maps Go.Proofs.Tryz
variable {W:World} {aQ n:Nat} {z:Value} {F:List (List UInt8×Value)} {t e:TypeId}
def BO (v:Value):Option (DataW Value×List MemPlace):=some (.held v,[])
def jV (z:Value):List (List UInt8×Value)->List UInt8->Value
 | [],_=>z
 | p::r,s=>if p.1==s then p.2 else jV z r s
def sH:List (List UInt8×Value)->List UInt8->Value->List (List UInt8×Value)
 | [],s,v=>[(s,v)]
 | p::r,s,v=>if p.1==s then (s,v)::r else p::sH r s v
theorem yn (z:Value):(F:List (List UInt8×Value))->(s:List UInt8)->(v:Value)->(x:List UInt8)->jV z (sH F s v) x=if x=s then v else jV z F x
 | [],s,v,x=>by
   simp only[sH,jV,beq_iff_eq];by_cases h:x=s
   ·subst h;simp
   ·rw[if_neg h,if_neg (fun e=>h e.symm)]
 | p::r,s,v,x=>by
   simp only[sH];by_cases hp:p.1=s
   ·rw[if_pos (by simpa using hp)]
    simp only[jV,beq_iff_eq];by_cases h:x=s
    ·subst h;simp
    ·rw[if_neg h,if_neg (fun e=>h e.symm),if_neg (fun e=>h (e.symm.trans hp))]
   ·rw[if_neg (by simpa using hp)]
    simp only[jV,beq_iff_eq];by_cases h:p.1=x
    ·rw[if_pos h,if_pos h,if_neg]
     rintro rfl;exact hp h
    ·rw[if_neg h,if_neg h,yn z r s v x]
def NameMap (W:World) (aQ n:Nat) (z:Value) (F:List (List UInt8×Value)):Prop :=
 ∃D:DataW Value,W.ownsMap prog 9 BO aQ n D/\∀s:List UInt8,D.atKey (.string s) (.held z)=.held (jV z F s)
theorem NameMap.mods {S:Nat->Prop} {W':World} (h:NameMap W aQ n z F) (hm:ag S W W') (hn:¬S aQ):NameMap W' aQ n z F:=by
 obtain⟨D,⟨es,cl,h1,h2⟩,h3⟩:=h;exact⟨D,⟨es,cl,hm.Bu h1 hn,h2⟩,h3⟩
theorem NameMap.lt (h:NameMap W aQ n z F):aQ<W.heap.size:=by
 obtain⟨D,h1,_⟩:=h;exact h1.lt
theorem NameMap.new (W:World) (z:Value):NameMap (W.alloc (.map #[] 0)) W.heap.size 0 z [] :=
 ⟨_,World.ownsMap_made _ _ _ _,fun s=>rfl⟩
theorem NameMap.look (h:NameMap W aQ n z F) (ht:prog.underlying t=some (.map 9 e)) (hz:(zeroValue e).run prog W=.ok z W) (s:List UInt8) (hs:s.length<=10000000) :
 (Instr.lookup t (.map (some aQ)) (str s) false).run prog W=.ok (jV z F s) W:=by
 obtain⟨D,h1,h2⟩:=h;obtain⟨v,ps,hr,hv⟩:=h1.lookup strKeys ht hz (zd:=.held z) (zp:=[]) rfl (Cl hs);rw[h2 s]at hv;simp only[BO,anG,an8,DataW.held.injEq]at hv;rw[hr,hv.1]
theorem NameMap.put (h:NameMap W aQ n z F) (ht:prog.underlying t=some (.map 9 e)) (s:List UInt8) (hs:s.length<=10000000) (v:Value) (hn:n<maxLen) :
 ∃w',(Instr.mapUpdate t (.map (some aQ)) (str s) v).run prog W=.ok () w'/\NameMap w' aQ (n+1) z (sH F s v)/\ag (·=aQ) W w':=by
 obtain⟨D,h1,h2⟩:=h;obtain⟨w',hr,ho,hg⟩:=h1.update strKeys ht hn (Cl hs) (d:=.held v) (ps:=[]) rfl;refine⟨w',hr,⟨_,ho,fun x=>?_⟩,ag.of_grownBy hg (fun k hk _=>by cases hk;rfl)⟩;rw[yn];by_cases hx:x=s
 ·subst hx
  rw[if_pos rfl,atKey_put_same (k:=.string x) h1.isMap (by trivial)]
 ·rw[if_neg hx,atKey_put_other (by simpa using hx),h2 x]
end aB
namespace aB
open Go.RowKit bB Go.Proofs.Tryz
variable {M P M' T S b_:Nat->Prop} {L:List Fn} {W W' w W0 w':World} {A aK:List (Nat×Nat)} {b ak f fm q n g i base:Nat} {s s':aC} {v u lv:Value} {x:V} {F:Fr} {e:aL} {cs es:List Value} {β α:Type} {vs:List V} {t:TypeId} {fn:Func} {a:Act} {args:List aL}
def rL:Value:=.agg #[.int .i64 0,.slice none 0 0]
def xQ:Value:=.agg #[.string ⟨#[]⟩,.int .i64 0,.slice none 0 0,.slice none 0 0]
def iW (A:List (Nat×Nat)) (x:V) (v:Value):Prop :=
 (x.arr=none/\v=.agg #[x.n,.slice none 0 0])\/∃i g n,x.arr=some i/\A[i]?=some (g,n)/\v=.agg #[x.n,.slice (some ⟨g,0,none⟩) n n]
theorem iW.more (h:iW A x v) (hA:A <+: aK):iW aK x v:=by
 rcases h with h|⟨i,g,n,h1,h2,h3⟩
 ·exact Or.inl h
 ·refine Or.inr ⟨i,g,n,h1,?_,h3⟩
  obtain⟨t,rfl⟩:=hA;rw[anI (anA.1 h2).1];exact h2
def ij (W:World) (M:Nat->Prop) (v:Value) (l:List Int):Prop :=
 ∃a n c,v=.slice a n c/\n=l.length/\n<=c/\c<=maxLen/\(∀i x,l[i]?=some x->∃g o,a=some ⟨g,o,none⟩/\¬M g/\W.cell? ⟨g,o+i,none⟩=some (.int .i64 x))
theorem ij.mods {l:List Int} (h:ij W S v l) (hm:ag S W W') (hT:∀k,k<W.heap.size->T k->S k):ij W' T v l:=by
 obtain⟨a,n,c,h1,h2,h3,h4,h5⟩:=h;refine⟨a,n,c,h1,h2,h3,h4,fun i x hx=>?_⟩;obtain⟨g,o,e1,e2,e3⟩:=h5 i x hx;exact⟨g,o,e1,fun ht=>e2 (hT g (World.block_lt_of_cell? W _ e3) ht),hm.cellOf e3 e2⟩
def zi (W:World) (M:Nat->Prop) (x:Fn) (v:Value):Prop :=
 ∃p q dQ,v=.agg #[str x.name,x.at_,p,q]/\fL W M 91 2 p x.params.length (kn x.params)/\fL W M 143 7 q x.body.length dQ/\cE W M x.body dQ
theorem zi.mods {x:Fn} (h:zi W S x v) (hm:ag S W W') (hT:∀k,k<W.heap.size->T k->S k):zi W' T x v:=by
 obtain⟨p,q,dQ,h1,h2,h3,h4⟩:=h;exact⟨p,q,dQ,h1,h2.mods hm hT,h3.mods hm hT,cE.b8 hm hT _ _ h4⟩
structure bt (W:World) (b ak:Nat) (L:List Fn) (P M:Nat->Prop) (A:List (Nat×Nat)) (s:aC):Prop where
 blk:∃iv ov,aw W b [.map (some ak),iv,s.fuel,s.calls,ov] 111/\ij W (fun k=>¬P k) iv s.inp/\W.ownsRow 0 2 1 ov s.out.length (s.out.map (.int .i64))/\(∀k,ov.ownBlock=some k->M k/\k≠b/\∀g n,(g,n)∈A->g≠k)
 has:M b
 fns:P ak/\∃n F,NameMap W ak n xQ F/\∀f x,il L f=some x->zi W (fun k=>¬P k) x (jV xQ F f)
 bS:A.length=s.bS.length
 arr:∀ (i:Nat) (l:List Int),s.bS[i]?=some l->∃g,A[i]?=some (g,l.length)/\aw W g (l.map (.int .i64)) 2/\l.length<=40
 mine:∀g n,(g,n)∈A->M g/\g≠b
 apart:A.Pairwise (fun x y=>x.1≠y.1)
 old:∀k,M k->k<W.heap.size
 off:∀k,M k->¬P k
 given:∀k,P k->k<W.heap.size
 few:s.out.length<=200
 calls:s.calls<=40
 fuel:s.fuel<=4000000000000000000
structure Ext (T M M':Nat->Prop) (W W':World):Prop where
 mods:ag (fun k=>T k\/M k) W W'
 back:∀k,k<W.heap.size->M' k->M k
theorem Ext.refl (T M:Nat->Prop) (W:World):Ext T M M W W:=⟨ag.refl _ _,fun _ _ h=>h⟩
theorem Ext.trans {vr:Nat->Prop} {vA:World} (h:Ext T M M' W W') (k:Ext T M' vr W' vA):Ext T M vr W vA :=
 ⟨h.mods.trans' k.mods (fun i hi hl=>hi.imp id (h.back i hl)),fun i hi hm=>h.back i hi (k.back i (anE hi h.mods.size) hm)⟩
theorem Ext.more {T':Nat->Prop} (h:Ext T M M' W W') (hT:∀k,k<W.heap.size->T k->T' k):Ext T' M M' W W':=⟨h.mods.mono (fun k hk ht=>ht.imp (hT k hk) id),h.back⟩
theorem Ext.aside (hm:ag S W W') (hS:∀k,k<W.heap.size->S k->T k):Ext T M M W W':=⟨hm.mono fun k hk hs=>Or.inl (hS k hk hs),fun _ _ h=>h⟩
theorem Ext.quiet (h:ag ai W W'):Ext T M M W W':=Ext.aside h (fun _ _ f=>f.elim)
theorem bt.aside (h:bt W b ak L P M A s) (hm:ag S W W') (hS:∀k,S k->¬M k/\¬P k):bt W' b ak L P M A s:=by
 have fT:ag (fun k=>¬P k) W W':=hm.mono fun k _ f=>(hS k f).2
 obtain⟨⟨iv,ov,h1,h2,h3,h4⟩,h5,⟨h7,n,F,h6,h8⟩,dJ,h10,h11,fM,nM,j2,pz,r_,nd,td⟩:=h
 exact⟨⟨iv,ov,h1.mods hm (fun f=>(hS _ f).1 h5),h2.mods fT (fun _ _ k=>k),hm.ownsRow h3 (fun k hk f=>(hS _ f).1 (h4 k hk).1),h4⟩,h5,⟨h7,n,F,h6.mods hm (fun f=>(hS _ f).2 h7),fun f x hx=>(h8 f x hx).mods fT (fun _ _ k=>k)⟩,dJ,
  fun i l hl=>by obtain⟨g,e1,e2,e3⟩:=h10 i l hl;exact⟨g,e1,e2.mods hm (fun f=>(hS _ f).1 (h11 g _ (anF e1)).1),e3⟩,h11,fM,fun k hk=>anE (nM k hk) hm.size,j2,fun k hk=>anE (pz k hk) hm.size,r_,nd,td⟩
theorem bt.quiet (h:bt W b ak L P M A s) (hm:ag ai W W'):bt W' b ak L P M A s:=h.aside hm (fun _ f=>f.elim)
def kH (w:Int):Value:=.iface 113 (.agg #[w])
def Ee (n:Int):Value:=.iface 166 (.agg #[n])
def AD:cz->Value
 | .stop w=>kH w
 | .ret n=>Ee n
def Old:Type:={ l:List PanicEntry // ∀x∈l,x.goexit=false }
def Old.nil:Old:=⟨[],fun _ h=>(by cases h)⟩
def x_ (g:cz) (e:Ending):Prop:=∃aV:Old,e=.panicked ({ v:=AD g,recovered:=false }::aV.1)
theorem kT (n:Int) (W:World):Calls prog 73 #[n] W fun e w=>x_ (.stop n) e/\W=w:=by
 go_in;go_wp2;exact⟨rfl,⟨Old.nil,rfl⟩,rfl⟩
theorem Pa (c:Bool) (W:World):Calls prog 131 #[.bool c] W fun e w=>e=.returned (.int .i64 (cj c))/\W=w:=by
 cases c
 all_goals
  go_in;go_wp2;go_ret;exact⟨rfl,rfl⟩
def rZ (r:Option Int) (W:World) (e:Ending) (w:World):Prop:=(match r with
 | some n=>e=.returned (.int .i64 n)
 | none=>x_ (.stop 2) e)/\W=w
theorem Xv (op:List UInt8) (a b:Int) (W:World):Calls prog 132 #[str op,a,b] W (rZ (h_ op a b) W):=by
 unfold str;by_cases h:op=[43]
 ·subst h
  have ht:h_ [43] a b=some (wrap64 (a+b)):=by unfold h_;rfl
  rw[ht];clear ht;unfold rZ;go_in;go_wp2;go_ret;exact⟨rfl,rfl⟩
 have Gz:(op==[43])=false:=by simpa using h
 clear h;by_cases h:op=[45]
 ·subst h
  have ht:h_ [45] a b=some (wrap64 (a-b)):=by unfold h_;rfl
  rw[ht];clear ht;unfold rZ;go_in;go_wp2;go_ret;exact⟨rfl,rfl⟩
 have O1:(op==[45])=false:=by simpa using h
 clear h;by_cases h:op=[42]
 ·subst h
  have ht:h_ [42] a b=some (wrap64 (a*b)):=by unfold h_;rfl
  rw[ht];clear ht;unfold rZ;go_in;go_wp2;go_ret;exact⟨rfl,rfl⟩
 have Gy:(op==[42])=false:=by simpa using h
 clear h;by_cases h:op=[47]
 ·subst h
  by_cases hb:b=0
  ·subst hb
   have ht:h_ [47] a 0=none:=(by unfold h_;rfl);rw[ht];clear ht;unfold rZ;go_in;go_wp2_with fail;refine (kT 2 _).mono ?_;rintro e w ⟨⟨aV,rfl⟩,rfl⟩;go_wp2;exact⟨rfl,⟨aV,rfl⟩,rfl⟩
  ·have hb0:(b==0)=false:=by simpa using hb
   have ht:h_ [47] a b=some (wrap64 (a.tdiv b)):=(by unfold h_;rw[if_neg (by decide),if_neg (by decide),if_neg (by decide),if_pos (by decide),if_neg hb];rfl);rw[ht];clear ht;unfold rZ;go_in;go_wp2;go_ret;exact⟨rfl,rfl⟩
 have O2:(op==[47])=false:=by simpa using h
 clear h;by_cases h:op=[37]
 ·subst h
  by_cases hb:b=0
  ·subst hb
   have ht:h_ [37] a 0=none:=(by unfold h_;rfl);rw[ht];clear ht;unfold rZ;go_in;go_wp2_with fail;refine (kT 2 _).mono ?_;rintro e w ⟨⟨aV,rfl⟩,rfl⟩;go_wp2;exact⟨rfl,⟨aV,rfl⟩,rfl⟩
  ·have hb0:(b==0)=false:=by simpa using hb
   have ht:h_ [37] a b=some (a.tmod b):=(by unfold h_;rw[if_neg (by decide),if_neg (by decide),if_neg (by decide),if_pos (by decide),if_neg hb];rfl);rw[ht];clear ht;unfold rZ;go_in;go_wp2;go_ret;exact⟨rfl,rfl⟩
 have n37:(op==[37])=false:=by simpa using h
 clear h;by_cases h:op=[61,61]
 ·subst h
  have ht:h_ [61,61] a b=some (cj (a==b)):=by unfold h_;rfl
  rw[ht];clear ht;rcases hx:(a==b) with _|_
  all_goals
   unfold rZ;go_in;go_wp2;go_ret;exact⟨rfl,rfl⟩
 have agF:(op==[61,61])=false:=by simpa using h
 clear h;by_cases h:op=[33,61]
 ·subst h
  have ht:h_ [33,61] a b=some (cj (a != b)):=by unfold h_;rfl
  rw[ht];clear ht;rcases hx:(a != b) with _|_
  all_goals
   unfold rZ;go_in;go_wp2;go_ret;exact⟨rfl,rfl⟩
 have agB:(op==[33,61])=false:=by simpa using h
 clear h;by_cases h:op=[60]
 ·subst h
  have ht:h_ [60] a b=some (cj (decide (a<b))):=by unfold h_;rfl
  rw[ht];clear ht;rcases hx:(decide (a<b)) with _|_
  all_goals
   unfold rZ;go_in;go_wp2;go_ret;exact⟨rfl,rfl⟩
 have agD:(op==[60])=false:=by simpa using h
 clear h;by_cases h:op=[60,61]
 ·subst h
  have ht:h_ [60,61] a b=some (cj (decide (a<=b))):=by unfold h_;rfl
  rw[ht];clear ht;rcases hx:(decide (a<=b)) with _|_
  all_goals
   unfold rZ;go_in;go_wp2;go_ret;exact⟨rfl,rfl⟩
 have agE:(op==[60,61])=false:=by simpa using h
 clear h;by_cases h:op=[62]
 ·subst h
  have ht:h_ [62] a b=some (cj (decide (a > b))):=by unfold h_;rfl
  rw[ht];clear ht;rcases hx:(decide (a > b)) with _|_
  all_goals
   unfold rZ;go_in;go_wp2;go_ret;exact⟨rfl,rfl⟩
 have agG:(op==[62])=false:=by simpa using h
 clear h;have ht:h_ op a b=some (cj (decide (a>=b))):=by
  simp only[beq_eq_false_iff_ne,ne_eq]at *;unfold h_;rw[if_neg Gz,if_neg O1,if_neg Gy,if_neg (by simp[O2,n37]),if_neg agF,if_neg agB,if_neg agD,if_neg agE,if_neg agG]
 rw[ht];clear ht;rcases hx:(decide (a>=b)) with _|_
 all_goals
  unfold rZ;go_in;go_wp2;go_ret;exact⟨rfl,rfl⟩
theorem bt.own (h:bt W b ak L P M A s) (hm:ag (·=b) W W') (ho:s'.out=s.out) (ha:s'.bS=s.bS) (hc:s'.calls<=40) (hf:s'.fuel<=4000000000000000000)
 (hb:∀iv ov,aw W b [.map (some ak),iv,s.fuel,s.calls,ov] 111->ij W (fun k=>¬P k) iv s.inp->∃wm,aw W' b [.map (some ak),wm,s'.fuel,s'.calls,ov] 111/\ij W (fun k=>¬P k) wm s'.inp):bt W' b ak L P M A s':=by
 obtain⟨⟨iv,ov,h1,h2,h3,h4⟩,h5,⟨h7,n,F,h6,h8⟩,dJ,h10,h11,fM,nM,j2,pz,r_,nd,td⟩:=h;have fT:ag (fun k=>¬P k) W W':=hm.mono fun k _ hk=>by rw[hk];exact j2 b h5
 obtain⟨wm,k1,k2⟩:=hb iv ov h1 h2;refine⟨⟨wm,ov,k1,k2.mods fT (fun _ _ k=>k),?_,h4⟩,h5,⟨h7,n,F,h6.mods hm (fun e=>j2 b h5 (e ▸ h7)),fun f x hx=>(h8 f x hx).mods fT (fun _ _ k=>k)⟩,by rw[ha];exact dJ,?_,h11,fM,fun k hk=>anE (nM k hk) hm.size,j2,fun k hk=>anE (pz k hk) hm.size,by rw[ho];exact r_,hc,hf⟩
 ·rw[ho]
  exact hm.ownsRow h3 (fun k hk=>(h4 k hk).2.1)
 ·intro i l hl
  rw[ha]at hl;obtain⟨g,e1,e2,e3⟩:=h10 i l hl;exact⟨g,e1,e2.mods hm (fun e=>(h11 g _ (anF e1)).2 e),e3⟩
theorem bt.Pz (h:bt W b ak L P M A s) (k:Nat) (hk:k<=4000000000000000000):bt (W.setCell ⟨b,2,none⟩ (.int .i64 k)) b ak L P M A { s with fuel:=k } :=
 h.own (cm _ _ _ _) rfl rfl h.calls hk (fun iv ov h1 h2=>⟨iv,h1.set 2 _,h2⟩)
theorem bt.Cz (h:bt W b ak L P M A s) (k:Nat) (hk:k<=40):bt (W.setCell ⟨b,3,none⟩ (.int .i64 k)) b ak L P M A { s with calls:=k } :=
 h.own (cm _ _ _ _) rfl rfl hk h.fuel (fun iv ov h1 h2=>⟨iv,h1.set 3 _,h2⟩)
theorem bt.ext (h:bt W b ak L P M A s) (T:Nat->Prop) (i:Nat) (v:Value):Ext T M M W (W.setCell ⟨b,i,none⟩ v) :=
 ⟨(cm _ _ _ _).mono (fun k _ hk=>Or.inr (by rw[hk];exact h.has)),fun _ _ k=>k⟩
def dP {α:Type} (W:World) (b ak:Nat) (L:List Fn) (P T M:Nat->Prop) (A:List (Nat×Nat)) (ok:α->(Nat->Prop)->List (Nat×Nat)->Ending->World->Prop):Except cz α×aC->Ending->World->Prop
 | (.error g,s)=>fun e w=>x_ g e/\∃M' aK,bt w b ak L P M' aK s/\Ext T M M' W w/\A <+: aK
 | (.ok x,s)=>fun e w=>∃M' aK,ok x M' aK e w/\bt w b ak L P M' aK s/\Ext T M M' W w/\A <+: aK
def ah4:Unit->(Nat->Prop)->List (Nat×Nat)->Ending->World->Prop:=fun _ _ _ e _=>e=.returned (.tuple #[])
def Ed:Int->(Nat->Prop)->List (Nat×Nat)->Ending->World->Prop:=fun n _ _ e _=>e=.returned (.int .i64 n)
def qp:V->(Nat->Prop)->List (Nat×Nat)->Ending->World->Prop:=fun x _ A e _=>∃v,e=.returned v/\iW A x v
theorem wJ (T:Nat->Prop) (b ak:Nat) (L:List Fn) (P M:Nat->Prop) (A:List (Nat×Nat)) (s:aC) (W:World) (r:Except cz Unit×aC) (h:bt W b ak L P M A s) (hr:eI s=some r) :
 Calls prog 119 #[.pointer (some ⟨b,0,none⟩)] W (dP W b ak L P T M A ah4 r):=by
 obtain⟨iv,ov,hb,_⟩:=h.blk;have c2:W.cell? ⟨b,2,none⟩=some (.int .i64 s.fuel):=hb.cell rfl;have f2:W.frozen? ⟨b,2,none⟩=false:=hb.free 2;have H:=af h;unfold eI at hr;by_cases h0:s.fuel=0
 ·rw[if_pos h0]at hr
  obtain rfl:=(anz hr).symm;rw[h0]at c2;clear h hb hr;unfold dP;go_in;go_wp2_with fail;refine (kT 6 _).mono ?_;rintro e w ⟨⟨aV,rfl⟩,rfl⟩;go_wp2;exact⟨rfl,⟨aV,rfl⟩,M,A,H,Ext.refl _ _ _,anB _⟩
 ·rw[if_neg h0]at hr
  obtain rfl:=(anz hr).symm;have hf:=h.fuel;have acM:((s.fuel:Int)==0)=false:=by simp;omega
  have xo:Hid ((s.fuel:Int)-1=((s.fuel-1:Nat):Int)):=af (by omega);have hs1:¬((s.fuel:Int)-1 < -9223372036854775808):=by omega
  clear h hb hr;unfold dP;go_in;go_wp2_with fail;go_end0;rw[xo.out];exact⟨M,A,rfl,H.Pz _ (by omega),H.ext _ _ _,anB _⟩
theorem Wr (q n:Nat) (i:Int) (W:World) (hn:n<=40) (h:i<0\/(n:Int)<=i) :
 Calls prog 121 #[.slice (some ⟨q,0,none⟩) n n,i] W fun e w=>x_ (.stop 3) e/\W=w:=by
 by_cases h0:i<0
 ·clear h
  go_in;go_wp2_with fail;refine (kT 3 _).mono ?_;rintro e w ⟨⟨aV,rfl⟩,rfl⟩;go_wp2;exact⟨rfl,⟨aV,rfl⟩,rfl⟩
 ·have h1:(n:Int)<=i:=by omega
  clear h;go_in;go_wp2_with fail;refine (kT 3 _).mono ?_;rintro e w ⟨⟨aV,rfl⟩,rfl⟩;go_wp2;exact⟨rfl,⟨aV,rfl⟩,rfl⟩
theorem Wp (q n:Nat) (i:Int) (W:World) (hn:n<=40) (gw:0<=i) (Nt:i<n) :
 Calls prog 121 #[.slice (some ⟨q,0,none⟩) n n,i] W fun e w=>e=.returned (.pointer (some ⟨q,i.toNat,none⟩))/\W=w:=by
 have h0:¬i<0:=by omega
 have h1:¬(n:Int)<=i:=by omega
 go_in;go_wp2_with fail;go_ret;exact⟨by simp,rfl⟩
theorem Wq (i:Int) (W:World) :
 Calls prog 121 #[.slice none 0 0,i] W fun e w=>x_ (.stop 3) e/\W=w:=by
 by_cases h0:i<0
 ·go_in
  go_wp2_with fail;refine (kT 3 _).mono ?_;rintro e w ⟨⟨aV,rfl⟩,rfl⟩;go_wp2;exact⟨rfl,⟨aV,rfl⟩,rfl⟩
 ·have h1:(0:Int)<=i:=by omega
  go_in;go_wp2_with fail;refine (kT 3 _).mono ?_;rintro e w ⟨⟨aV,rfl⟩,rfl⟩;go_wp2;exact⟨rfl,⟨aV,rfl⟩,rfl⟩
def fQ (W:World) (P M:Nat->Prop) (A:List (Nat×Nat)) (fm n:Nat) (F:Fr):Prop :=
 ∃F',NameMap W fm n rL F'/\¬M fm/\¬P fm/\∀s,iW A (Fr.get F s) (jV rL F' s)
theorem fQ.ext (h:fQ W P M A fm n F) (bT:Ext ai M M' W W') (hA:A <+: aK):fQ W' P M' aK fm n F:=by
 obtain⟨F',h1,h2,h4,h3⟩:=h;exact⟨F',h1.mods bT.mods (fun k=>k.elim (fun f=>f.elim) h2),fun hm=>h2 (bT.back fm h1.lt hm),h4,fun s=>(h3 s).more hA⟩
theorem aX.ext (h:aX W (fun k=>¬P k) e v) (bT:Ext T M M' W W') (hT:∀k,T k\/M k->¬P k):aX W' (fun k=>¬P k) e v:=aX.b8 (bT.mods.mono fun k _ hk=>hT k hk) (fun _ _ k=>k) e v h
theorem nr (h:aw W g cs t) (bT:Ext T M M' W w) (hn:¬M g) (hT:¬T g):aw w g cs t/\¬M' g:=⟨h.mods bT.mods (fun k=>k.elim hT hn),fun hm=>hn (bT.back g h.lt hm)⟩
mutual
def gX (L:List Fn):aL->Prop
 | .num _ _=>True
 | .var _ s=>s.length<=10000000
 | .bin _ _ l r=>gX L l/\gX L r
 | .un _ _ x=>gX L x
 | .call _ f args=>f.length<=10000000/\args.length<=1000000/\(∃g,il L f=some g/\args.length=g.params.length)/\CL L args
 | .new _ x=>gX L x
 | .len _ x=>gX L x
 | .item _ x i=>gX L x/\gX L i
 | .input _=>True
def CL (L:List Fn):List aL->Prop
 | []=>True
 | e::r=>gX L e/\CL L r
end
theorem uO {jk:List (Nat×Nat)} {x:cF α} {f:α->aC->cF β} {r:Except cz β×aC} {F:FuncId} {args:Array Value} {ok:α->(Nat->Prop)->List (Nat×Nat)->Ending->World->Prop} {Q:Ending->World->Prop}
 (bT:Hid (Ext T b_ M W0 W)) (hA:Hid (jk <+: A)) (hx:Hid (aS x f=some r)) (hc:∀y,x=some y->Calls prog F args W (dP W b ak L P T M A ok y))
 (l5:∀g s',r=(.error g,s')->∀ (aV:Old) w,Hid (∃M' aK,bt w b ak L P M' aK s'/\Ext T b_ M' W0 w/\jk <+: aK)->Q (.panicked ({ v:=AD g,recovered:=false }::aV.1)) w)
 (aZ:∀a s',Hid (x=some (.ok a,s'))->Hid (f a s'=some r)->∀e w M' aK,ok a M' aK e w->Hid (bt w b ak L P M' aK s')->Hid (Ext T M M' W w)->Hid (Ext T b_ M' W0 w)->Hid (A <+: aK)->Hid (jk <+: aK)->Q e w) :
 Calls prog F args W Q:=by
 have hx:=hx.out;cases hp:x with
 | none=>rw[hp]at hx;cases hx
 | some y =>
   refine (hc y hp).mono ?_;intro e w h;rw[hp]at hx;obtain⟨y,s'⟩:=y;cases y with
   | error g =>
     obtain⟨⟨aV,rfl⟩,M',aK,h1,h2,h3⟩:=h;exact l5 g s' (anz hx).symm aV w (af ⟨M',aK,h1,bT.out.trans h2,hA.out.trans h3⟩)
   | ok a =>
     obtain⟨M',aK,h0,h1,h2,h3⟩:=h;exact aZ a s' (af hp) (af hx) e w M' aK h0 (af h1) (af h2) (af (bT.out.trans h2)) (af h3) (af (hA.out.trans h3))
def lq (L:List Fn) (f:Nat):Prop:=∀ (e:aL) (b ak:Nat) (P T M:Nat->Prop) (A:List (Nat×Nat)) (s:aC) (F:Fr) (fm n:Nat) (W:World) (v:Value) (r:Except cz V×aC),bt W b ak L P M A s->fQ W P M A fm n F->gX L e->aX W (fun k=>¬P k) e v->bk L f s F e=some r ->
 Calls prog 120 #[.pointer (some ⟨b,0,none⟩),.map (some fm),v] W (dP W b ak L P T M A qp r)
def s9 (L:List Fn) (f:Nat) (s:aC) (F:Fr) (e:aL):cF Int:=aS (bk L f s F e) fun v s=>a6 v.n s
theorem Br (L:List Fn) (f:Nat) (s:aC) (F:Fr) (e:aL) (k:Int->aC->cF β):aS (s9 L f s F e) k=aS (bk L f s F e) fun v s=>k v.n s:=by
 unfold s9;cases bk L f s F e with
 | none=>rfl
 | some y =>
   obtain⟨y,t⟩:=y;cases y <;> rfl
theorem iW.num (h:iW A x v):∃av,v=.agg #[x.n,av]:=by
 rcases h with⟨_,rfl⟩|⟨i,g,n,_,_,rfl⟩
 ·exact⟨_,rfl⟩
 ·exact⟨_,rfl⟩
theorem Bz (k:Int) (av:Value) (w:World):Sem.run prog (Instr.field 164 (.agg #[k,av]) 0) w=Result.ok (.int .i64 k) w:=by kernel_rfl
theorem ag0 (ih:lq L f) (e:aL) (b ak q3 q4:Nat) (P T M:Nat->Prop) (A:List (Nat×Nat)) (s:aC) (F:Fr) (fm n:Nat) (W:World) (v:Value) (r:Except cz Int×aC) (h:bt W b ak L P M A s) (hF:fQ W P M A fm n F) (hg:gX L e) (he:aX W (fun k=>¬P k) e v) (hr:s9 L f s F e=some r)
 (h3:W.cell? ⟨q3,0,none⟩=some (.pointer (some ⟨b,0,none⟩))) (h4:W.cell? ⟨q4,0,none⟩=some (.map (some fm))) :
 Calls prog 130 #[v,.pointer (some ⟨q3,0,none⟩),.pointer (some ⟨q4,0,none⟩)] W (dP W b ak L P T M A Ed r):=by
 have aj:Hid (aS (bk L f s F e) (fun v s=>a6 v.n s)=some r):=af hr;have aU:=af (fun y hy=>ih e b ak P T M A s F fm n W v y h hF hg he hy);have a_:=af (Ext.refl T M W);have bH:=af (anB A);obtain⟨g,rfl⟩:=he.ptr;clear h hF hg he hr ih;go_in;go_wp2_with fail;refine uO a_ bH aj aU ?_ ?_
 ·rintro g s' rfl aV w H
  obtain⟨M',aK,k1,k2,k3⟩:=H.out;go_wp2;exact⟨rfl,⟨aV,rfl⟩,M',aK,k1,k2,k3⟩
 ·rintro a s'-bh e w M' aK ⟨v,rfl,hv⟩ aP-cO-ft
  obtain rfl:=(anz bh).symm;clear aj bh aU;obtain⟨av,rfl⟩:=hv.num;have oV:=Bz a.n av;go_wp2;go_ret;exact⟨M',aK,rfl,aP,cO,ft⟩
theorem Ext.new (h:Ext T b_ M W0 W) (hm:ag S W W') (hS:∀k,k<W0.heap.size->¬S k):Ext T b_ M W0 W' :=
 ⟨h.mods.trans' hm (fun k hs hk=>(hS k hk hs).elim),h.back⟩
structure iL (W0 w:World) (P M:Nat->Prop) (b fm q:Nat):Prop where
 c3:aw w q [.pointer (some ⟨b,0,none⟩)] 108
 c4:aw w (q+1) [.map (some fm)] 162
 c6:aw w (q+1+1) [.int .i64 0,.slice none 0 0] 164
 nm:∀k,q<=k->k<=q+1+1->¬M k/\¬P k
 at_:W0.heap.size<=q
theorem iL.step (h:iL W0 w P M b fm q) (bT:Ext ai M M' w w'):iL W0 w' P M' b fm q:=by
 have hl:=h.c6.lt;refine⟨(nr h.c3 bT (h.nm q (by omega) (by omega)).1 id).1,(nr h.c4 bT (h.nm (q+1) (by omega) (by omega)).1 id).1,(nr h.c6 bT (h.nm (q+1+1) (by omega) (by omega)).1 id).1,fun k h1 h2=>⟨fun hm=>(h.nm k h1 h2).1 (bT.back k (by omega) hm),(h.nm k h1 h2).2⟩,h.at_⟩
theorem iL.new (fm:Nat) (h:bt W b ak L P M A s) :
 iL W (((W.alloc (.cells #[.pointer (some ⟨b,0,none⟩)] 108)).alloc (.cells #[.map (some fm)] 162)).alloc (.cells #[.int .i64 0,.slice none 0 0] 164)) P M b fm W.heap.size:=by
 have e1:(W.alloc (.cells #[.pointer (some ⟨b,0,none⟩)] 108)).heap.size=W.heap.size+1:=by simp
 have e2:((W.alloc (.cells #[.pointer (some ⟨b,0,none⟩)] 108)).alloc (.cells #[.map (some fm)] 162)).heap.size=W.heap.size+1+1:=by simp
 refine⟨?_,?_,?_,fun k h1 _=>⟨fun hm=>absurd (h.old k hm) (by omega),fun hp=>absurd (h.given k hp) (by omega)⟩,anD _⟩
 ·exact (((aw.new W _ _).mods ((ag.refl ai _).alloc _) id).mods ((ag.refl ai _).alloc _) id)
 ·have:=(aw.new (W.alloc (.cells #[.pointer (some ⟨b,0,none⟩)] 108)) #[.map (some fm)] 162).mods ((ag.refl ai _).alloc (.cells #[.int .i64 0,.slice none 0 0] 164)) id
  rw[e1]at this;exact this
 ·have:=aw.new ((W.alloc (.cells #[.pointer (some ⟨b,0,none⟩)] 108)).alloc (.cells #[.map (some fm)] 162)) #[.int .i64 0,.slice none 0 0] 164
  rw[e2]at this;exact this
theorem bt.O5 (h:bt w b ak L P M A s) (n:Nat) (hn:n<=40) :
 bt (w.alloc (.cells ((List.replicate n (0:Int)).map (Value.int .i64)).toArray 2)) b ak L P (fun k=>M k\/k=w.heap.size) (A++[(w.heap.size,n)]) { s with bS:=s.bS++[List.replicate n 0] }/\Ext ai M (fun k=>M k\/k=w.heap.size) w (w.alloc (.cells ((List.replicate n (0:Int)).map (Value.int .i64)).toArray 2)):=by
 have hm:ag ai w (w.alloc (.cells ((List.replicate n (0:Int)).map (Value.int .i64)).toArray 2)):=ay.alloc _;have hsz:(w.alloc (.cells ((List.replicate n (0:Int)).map (Value.int .i64)).toArray 2)).heap.size=w.heap.size+1:=by simp
 have h':=h.quiet hm;have ho:=h.old;have hg:=h.given;refine⟨⟨?_,Or.inl h'.has,h'.fns,?_,?_,?_,?_,?_,?_,h'.given,h'.few,h'.calls,h'.fuel⟩,⟨hm.mono fun _ _ f=>f.elim,?_⟩⟩
 ·obtain⟨iv,ov,h1,h2,h3,h4⟩:=h'.blk
  refine⟨iv,ov,h1,h2,h3,fun k hk=>⟨Or.inl (h4 k hk).1,(h4 k hk).2.1,?_⟩⟩;intro g m ez;rcases anQ.1 ez with ez|ez
  ·exact (h4 k hk).2.2 g m ez
  ·simp only[anS,an8]at ez
   have:=ho k (h4 k hk).1;omega
 ·simp[h.bS]
 ·intro i l hl
  rcases aov i s.bS.length with hi|hi
  ·have hl2:s.bS[i]?=some l:=by simpa [anI hi] using hl
   obtain⟨g,e1,e2,e3⟩:=h'.arr i l hl2;exact⟨g,by rw[anI (by rw[h.bS];exact hi)];exact e1,e2,e3⟩
  ·simp only[anH hi]at hl
   obtain⟨hE,hl⟩:=anA.1 hl;simp only[an0]at hE;obtain rfl:i=s.bS.length:=(by omega);simp only[aog,aop]at hl;subst hl;refine⟨w.heap.size,?_,aw.new w _ _,by simpa using hn⟩;rw[anH (by rw[h.bS];exact anD _)];simp[h.bS]
 ·intro g m ez
  rcases anQ.1 ez with ez|ez
  ·exact⟨Or.inl (h.mine g m ez).1,(h.mine g m ez).2⟩
  ·simp only[anS,an8]at ez
   have:=ho b h.has;exact⟨Or.inr ez.1,by omega⟩
 ·refine List.pairwise_append.2 ⟨h.apart,List.pairwise_singleton _ _,?_⟩
  intro x hx y hy;simp only[anS]at hy;subst hy;have:=ho x.1 (h.mine x.1 x.2 hx).1
  show x.1≠w.heap.size
  omega
 ·intro k hk
  rw[hsz];rcases hk with hk|hk
  ·have:=ho k hk
   omega
  ·omega
 ·intro k hk hp
  rcases hk with hk|hk
  ·exact h.off k hk hp
  ·have:=hg k hp
   omega
 ·intro k hk hm
  rcases hm with hm|hm
  ·exact hm
  ·omega
theorem bt.taken (h:bt W b ak L P M A s) (r:List Int) (iv:Value) (hi:ij W (fun k=>¬P k) iv r):bt (W.setCell ⟨b,1,none⟩ iv) b ak L P M A { s with inp:=r } :=
 h.own (cm _ _ _ _) rfl rfl h.calls h.fuel (fun wm ov h1 h2=>⟨iv,h1.set 1 _,hi⟩)
theorem iL.end_ (hB:iL W0 W P M' b fm q) (hR:bt W b ak L P M' aK s) (bT:Ext ai M M' W0 W) (hA:A <+: aK) (hv:iW aK x (.agg #[u,v])) :
 dP W0 b ak L P ai M A qp (.ok x,s) (.returned (.agg #[u,v])) ((W.setCell ⟨q+1+1,0,none⟩ u).setCell ⟨q+1+1,1,none⟩ v):=by
 have hm:ag (·=q+1+1) W ((W.setCell ⟨q+1+1,0,none⟩ u).setCell ⟨q+1+1,1,none⟩ v):=(cm _ _ _ _).trans (cm _ _ _ _);have hat:=hB.at_;exact⟨M',aK,⟨_,rfl,hv⟩,hR.aside hm (fun k hk=>by rw[hk];exact hB.nm _ (by omega) (by omega)),bT.new hm (fun k h1 h2=>by omega),hA⟩
theorem iL.ret (hB:iL W0 W P M' b fm q) (hR:bt W b ak L P M' aK s) (bT:Ext ai M M' W0 W) (hA:A <+: aK) (hv:iW aK x (.agg #[u,v]))
 (hfn:fn.results=#[.cell 6 164]) (hp:a.tmps.getD 6 undef=.pointer (some ⟨q+1+1,0,none⟩)) (hd:a.defers=[]) (hw:w=(W.setCell ⟨q+1+1,0,none⟩ u).setCell ⟨q+1+1,1,none⟩ v) :
 bodyPost prog fn (dP W0 b ak L P ai M A qp (.ok x,s)) .ret a w:=by
 subst hw;have h6:=(hB.c6.set 0 u).set 1 v;exact bodyPost_ret (results_cell_row hfn a.tmps _ _ _ #[u,v] _ _ hp h6 underlying164 rfl (by kernel_rfl)) hd (hB.end_ hR bT hA hv)
theorem abu {f:Nat} (a k:Int) (b ak:Nat) (P M:Nat->Prop) (A:List (Nat×Nat)) (s:aC) (fm:Nat) (W:World) (v:Value) (h:bt W b ak L P M A s) (he:aX W (fun k=>¬P k) (.num a k) v) :
 Calls prog 120 #[.pointer (some ⟨b,0,none⟩),.map (some fm),v] W (dP W b ak L P ai M A qp (.ok (bN k),s)):=by
 simp only[aX]at he;obtain⟨g,rfl,hg,hv⟩:=he;have k_:∀ (fn:Go.Fn) (first cap:Array Value) (w:World),(Instr.makeFunc fn first cap).run prog w=.ok (.func fn first cap) w:=fun _ _ _ _=>rfl
 obtain⟨W3,hW3⟩:=aq (((W.alloc (.cells #[.pointer (some ⟨b,0,none⟩)] 108)).alloc (.cells #[.map (some fm)] 162)).alloc (.cells #[.int .i64 0,.slice none 0 0] 164));have az:Hid (ag ai W W3):=af (by rw[hW3];exact ((ay.alloc _).alloc _).alloc _);have aA:Hid (iL W W3 P M b fm W.heap.size):=af (by rw[hW3];exact iL.new fm h);have H:=af (h.quiet az);have d0:W3.cell? ⟨g,0,none⟩=some (.int .i64 1):=az.cellOf (hv.cell rfl) id;have d2:W3.cell? ⟨g,2,none⟩=some (.int .i64 k):=az.cellOf (hv.cell rfl) id;have hl:=hv.lt;obtain⟨r0,z0,r1,cS⟩:=aA.c6.gL;clear h hv hg;go_in;go_upto_region 2 with (fail)
 rw[<-hW3];clear hW3;go_wp2_with fail;exact aA.ret H (Ext.quiet az) (anB _) (Or.inl ⟨rfl,rfl⟩) rfl rfl rfl rfl
def Zx (L:List Fn) (P:Nat->Prop) (b ak fm q f:Nat) (F:Fr) (x:aL) (bq:Value):Prop:=∀ (M:Nat->Prop) (A:List (Nat×Nat)) (s:aC) (n:Nat) (W0 w:World),iL W0 w P M b fm q->bt w b ak L P M A s->fQ w P M A fm n F->aX w (fun k=>¬P k) x bq->∀y,s9 L f s F x=some y ->
 Calls prog 130 #[bq,.pointer (some ⟨q,0,none⟩),.pointer (some ⟨q+1,0,none⟩)] w (dP w b ak L P ai M A Ed y)
theorem GG (ih:lq L f) {x:aL} (hg:gX L x) (P:Nat->Prop) (b ak fm q:Nat) (F:Fr) (bq:Value):Zx L P b ak fm q f F x bq :=
 fun M A s n W0 w hB hR hF hx y hy=>ag0 ih x b ak q (q+1) P ai M A s F fm n w bq y hR hF hg hx hy (hB.c3.cell rfl) (hB.c4.cell rfl)
theorem vF (h:aX W (fun k=>¬P k) e v) (hR:bt W b ak L P M A s) (bT:Ext ai M M' W W'):aX W' (fun k=>¬P k) e v:=h.ext bT (fun k hk=>hk.elim (fun f=>f.elim) (hR.off k))
theorem Iv (k:Int) (av:Value) (w:World):Sem.run prog (Instr.field 164 (.agg #[k,av]) 1) w=Result.ok av w:=by kernel_rfl
theorem iW.len (h:iW A x v) (hR:bt w b ak L P M A s):∃k a n,v=.agg #[.int .i64 k,.slice a n n]/\((fF s x).length:Int)=(n:Int)/\n<=40:=by
 rcases h with⟨h1,rfl⟩|⟨i,g,n,h1,h2,rfl⟩
 ·exact⟨_,_,_,rfl,by simp[fF,h1],by omega⟩
 ·obtain⟨hi,hE⟩:=anA.1 h2
  have hl:s.bS[i]?=some (s.bS[i]'(by rw[<-hR.bS];exact hi)):=anx _;obtain⟨g',e1,e2,e3⟩:=hR.arr i _ hl;rw[h2]at e1;simp only[anG,an8]at e1;obtain⟨rfl,rfl⟩:=e1;refine⟨_,_,_,rfl,?_,e3⟩;simp only[fF,h1,anM,hl,aoU]
theorem yT {G:Prop} (P:Program) (w:World) (h:G) (Rw:wpAny P .any #[] (fun _ _ _=>True) 0 #[] { tmps:=#[],defers:=[] } w):G:=h
theorem XO (w:World):(zeroValue 164).run prog w=.ok rL w:=by kernel_rfl
theorem bt.row (hR:bt w b ak L P M A s) (h2:A[i]?=some (g,n)):∃l,s.bS[i]?=some l/\n=l.length/\aw w g (l.map (Value.int .i64)) 2/\l.length<=40:=by
 obtain⟨hi,hE⟩:=anA.1 h2;have hl:s.bS[i]?=some (s.bS[i]'(by rw[<-hR.bS];exact hi)):=anx _;obtain⟨g',e1,e2,e3⟩:=hR.arr i _ hl;rw[h2]at e1;simp only[anG,an8]at e1;obtain⟨rfl,rfl⟩:=e1;exact⟨_,hl,rfl,e2,e3⟩
theorem DS:(prog.info? 2).map (fun i=>(i.zero,i.size,i.bytes))=some (some (.int .i64 0),1,8):=by kernel_rfl
theorem Ef {P:Program} (t e:TypeId) (i:TypeInfo) (z:Value) (ht:P.underlying t=some (.slice e)) (hi:P.info? e=some i) (hz:i.zero=some z)
 (kl kc:IntKind) (n:Nat) (hbytes:i.bytes*n<=281474976710656) (h63:n<=9223372036854775807) (w:World) :
 (Instr.makeSlice t (.int kl (n:Int)) (.int kc (n:Int))).run P w=.ok (.slice (some ⟨w.heap.size,0,none⟩) n n) (w.alloc (.cells (madeCells z.cells (n*i.size)) e)):=by
 have hb:(i.bytes:Int)*(n:Int)<=281474976710656:=by
  have h:((i.bytes*n:Nat):Int)<=281474976710656:=by omega
  rwa [Int.natCast_mul]at h
 have hr:=run_make (P:=P) w t e i z ht hi hz kl kc n n (by omega) (by omega) hb (by omega);simp only[aoy]at hr;exact hr
theorem OY (n:Nat):madeCells (Value.int .i64 0).cells (n*1)=((List.replicate n (0:Int)).map (Value.int .i64)).toArray:=by
 apply Array.ext
 ·simp[madeCells]
 ·intro i h1 h2
  simp[madeCells,Value.cells,Nat.mod_one]
theorem iL.took {W3:World} {k:Int} {t:List Int} {iv:Value} (hB:iL W W3 P M b fm q) (hR:bt W3 b ak L P M A s) (bT:Ext ai M M W W3) (hA:A <+: A) (hi:ij W3 (fun k=>¬P k) iv t)
 (hfn:fn.results=#[.cell 6 164]) (hp:a.tmps.getD 6 undef=.pointer (some ⟨q+1+1,0,none⟩)) (hd:a.defers=[]) (hw:w=(((W3.setCell ⟨b,1,none⟩ iv).setCell ⟨q+1+1,0,none⟩ (.int .i64 k)).setCell ⟨q+1+1,1,none⟩ (.slice none 0 0)).drew) :
 bodyPost prog fn (dP W b ak L P ai M A qp (.ok (bN k),{ s with inp:=t })) .ret a w:=by
 have IE:=hR.ext ai 1 iv;have IQ:=hR.taken t iv hi;have hD:ag ai (W3.setCell ⟨b,1,none⟩ iv) (W3.setCell ⟨b,1,none⟩ iv).drew:=ay.drew;exact ((hB.step IE).step (Ext.quiet hD)).ret (IQ.quiet hD) ((bT.trans IE).trans (Ext.quiet hD)) hA (Or.inl ⟨rfl,rfl⟩) hfn hp hd hw
theorem C7 (h:aw W g cs t) (hp:P g) (hR:bt W b ak L P M A s) (bT:Ext ai M M' W W'):aw W' g cs t:=h.mods bT.mods (fun hk=>hk.elim (fun f=>f.elim) (fun hm=>hR.off _ hm hp))
theorem abv (ih:lq L f) (a:Int) (op:List UInt8) (x:aL) (b ak:Nat) (P M:Nat->Prop) (A:List (Nat×Nat)) (s:aC) (F:Fr) (fm n:Nat) (W:World) (v:Value) (r:Except cz V×aC) (h:bt W b ak L P M A s) (hF:fQ W P M A fm n F) (hg:gX L (.un a op x)) (he:aX W (fun k=>¬P k) (.un a op x) v) (hr:bk L (f+1) s F (.un a op x)=some r) :
 Calls prog 120 #[.pointer (some ⟨b,0,none⟩),.map (some fm),v] W (dP W b ak L P ai M A qp r):=by
 have k_:∀ (fn:Go.Fn) (first cap:Array Value) (w:World),(Instr.makeFunc fn first cap).run prog w=.ok (.func fn first cap) w:=fun _ _ _ _=>rfl
 obtain⟨W3,hW3⟩:=aq (((W.alloc (.cells #[.pointer (some ⟨b,0,none⟩)] 108)).alloc (.cells #[.map (some fm)] 162)).alloc (.cells #[.int .i64 0,.slice none 0 0] 164));have az:Hid (ag ai W W3):=af (by rw[hW3];exact ((ay.alloc _).alloc _).alloc _);have aA:Hid (iL W W3 P M b fm W.heap.size):=af (by rw[hW3];exact iL.new fm h);have aP:=af (h.quiet az);have bb:=af (hF.ext (Ext.quiet az) (anB A));have a_:Hid (Ext ai M M W W3):=af (Ext.quiet az);have bH:=af (anB A);simp only[aX]at he;obtain⟨bq,⟨g,rfl,jh,hv⟩,b5⟩:=he;simp only[gX]at hg;have b5:=vF b5 h a_;have aT:=af (GG ih hg P b ak fm W.heap.size F bq M A s n W W3 aA aP bb b5);have aj:Hid (aS (s9 L f s F x) (fun k s=>a6 (bN (if op=[45] then wrap64 (-k) else cj (k==0))) s)=some r):=af (by rw[Br,<-hr];simp only[bk]);have d0:W3.cell? ⟨g,0,none⟩=some (.int .i64 4):=az.cellOf (hv.cell rfl) id;have d5:W3.cell? ⟨g,5,none⟩=some bq:=az.cellOf (hv.cell rfl) id;have d4:W3.cell? ⟨g,4,none⟩=some (.string ⟨op.toArray⟩):=az.cellOf (hv.cell rfl) id;obtain⟨iA,rfl⟩:=b5.ptr;have hl:=hv.lt;clear h hv jh hF hg b5 hr ih;by_cases hop:op=[45]
 ·subst hop
  simp only[if_pos]at aj;go_in;go_upto_region 2 with (fail)
  rw[<-hW3];clear hW3;go_wp2_with fail;refine uO a_ bH aj aT ?_ ?_
  ·rintro g s' rfl aV w H
   obtain⟨M',aK,k1,k2,k3⟩:=H.out;go_wp2;exact⟨rfl,⟨aV,rfl⟩,M',aK,k1,k2,k3⟩
  ·rintro k s'-bh e w M' aK jB bI cO gg ft eK
   obtain rfl:=jB;have dW:=af (anz bh).symm;clear aj bh aT d0 d4 d5;have bY:=af (aA.step cO);have r0:=(bY).c6.ah 0;have r1:=(bY).c6.ah 1;have z0:=(bY).c6.free 0;have cS:=(bY).c6.free 1;go_wp2_with fail;rw[dW.out];exact bY.ret bI gg eK (Or.inl ⟨rfl,rfl⟩) rfl rfl rfl rfl
 ·simp only[if_neg hop]at aj
  have aea:(op==[45])=false:=by simpa using hop
  clear hop;go_in;go_upto_region 2 with (fail)
  rw[<-hW3];clear hW3;go_wp2_with fail;refine uO a_ bH aj aT ?_ ?_
  ·rintro g s' rfl aV w H
   obtain⟨M',aK,k1,k2,k3⟩:=H.out;go_wp2;exact⟨rfl,⟨aV,rfl⟩,M',aK,k1,k2,k3⟩
  ·rintro k s'-bh e w M' aK jB bI cO gg ft eK
   obtain rfl:=jB;have dW:=af (anz bh).symm;clear aj bh aT d0 d4 d5;have bY:=af (aA.step cO);have r0:=(bY).c6.ah 0;have r1:=(bY).c6.ah 1;have z0:=(bY).c6.free 0;have cS:=(bY).c6.free 1;obtain⟨c,hc⟩:=aq ((k==0));rw[<-hc]at dW;have hc1:(k==0)=c:=hc.symm;clear hc;cases c
   all_goals
        go_wp2_with fail;refine (Pa _ _).mono ?_;rintro e w1 ⟨rfl,rfl⟩;go_wp2_with fail;rw[dW.out];exact bY.ret bI gg eK (Or.inl ⟨rfl,rfl⟩) rfl rfl rfl rfl
theorem abr (ih:lq L f) (a:Int) (x:aL) (b ak:Nat) (P M:Nat->Prop) (A:List (Nat×Nat)) (s:aC) (F:Fr) (fm n:Nat) (W:World) (v:Value) (r:Except cz V×aC) (h:bt W b ak L P M A s) (hF:fQ W P M A fm n F) (hg:gX L (.len a x)) (he:aX W (fun k=>¬P k) (.len a x) v) (hr:bk L (f+1) s F (.len a x)=some r) :
 Calls prog 120 #[.pointer (some ⟨b,0,none⟩),.map (some fm),v] W (dP W b ak L P ai M A qp r):=by
 have k_:∀ (fn:Go.Fn) (first cap:Array Value) (w:World),(Instr.makeFunc fn first cap).run prog w=.ok (.func fn first cap) w:=fun _ _ _ _=>rfl
 obtain⟨W3,hW3⟩:=aq (((W.alloc (.cells #[.pointer (some ⟨b,0,none⟩)] 108)).alloc (.cells #[.map (some fm)] 162)).alloc (.cells #[.int .i64 0,.slice none 0 0] 164));have az:Hid (ag ai W W3):=af (by rw[hW3];exact ((ay.alloc _).alloc _).alloc _);have aA:Hid (iL W W3 P M b fm W.heap.size):=af (by rw[hW3];exact iL.new fm h);have aP:=af (h.quiet az);have bb:=af (hF.ext (Ext.quiet az) (anB A));have a_:Hid (Ext ai M M W W3):=af (Ext.quiet az);have bH:=af (anB A);simp only[aX]at he;obtain⟨bq,⟨g,rfl,jh,hv⟩,b5⟩:=he;simp only[gX]at hg;have aj:Hid (aS (bk L f s F x) (fun v s=>a6 (bN (fF s v).length) s)=some r):=af (by rw[<-hr];simp only[bk]);have d0:W3.cell? ⟨g,0,none⟩=some (.int .i64 7):=az.cellOf (hv.cell rfl) id;have d5:W3.cell? ⟨g,5,none⟩=some bq:=az.cellOf (hv.cell rfl) id;have b3:=aA.c3.ah 0;have b4:=aA.c4.ah 0;obtain⟨dz,g_⟩:=aq (W3.drew);have lA:ag ai W3 dz:=by rw[g_];exact ay.drew
 have a_:Hid (Ext ai M M W dz):=af (a_.trans (Ext.quiet lA));have aA:=af (aA.step (Ext.quiet lA));have aP:=af (aP.quiet lA);have bb:=af (bb.ext (Ext.quiet lA) (anB A));have b5:=vF b5 h a_;have aT:=af (fun y hy=>ih x b ak P ai M A s F fm n dz bq y aP bb hg b5 hy);obtain⟨iA,rfl⟩:=b5.ptr;have hl:=hv.lt;clear h hv jh hF hg b5 hr ih bb lA;go_in;go_upto_region 2 with (fail)
 rw[<-hW3];clear hW3;go_wp2_with fail
 go_still_tail 6,(by kernel_rfl)
 change wpList _ _ _ _ _ W3.drew;rw[<-g_];clear g_ d0 d5 b3 b4;go_wp2_with fail;refine uO a_ bH aj aT ?_ ?_
 ·rintro g s' rfl aV w H
  obtain⟨M',aK,k1,k2,k3⟩:=H.out;go_wp2;exact⟨rfl,⟨aV,rfl⟩,M',aK,k1,k2,k3⟩
 ·rintro x s'-bh e w M' aK ⟨v,rfl,hv⟩ bI cO gg ft eK
  have dW:=af (anz bh).symm;clear aj bh aT;have bY:=af (aA.step cO);have r0:=(bY).c6.ah 0;have r1:=(bY).c6.ah 1;have z0:=(bY).c6.free 0;have cS:=(bY).c6.free 1;obtain⟨k,av,an,rfl,hlen,eT⟩:=hv.len bI;have hlen:=af hlen;clear hv;have oV:=Iv k (.slice av an an);go_wp2_with fail;rw[dW.out,hlen.out];exact bY.ret bI gg eK (Or.inl ⟨rfl,rfl⟩) rfl rfl rfl rfl
theorem abw (ih:lq L f) (a:Int) (x:List UInt8) (b ak:Nat) (P M:Nat->Prop) (A:List (Nat×Nat)) (s:aC) (F:Fr) (fm n:Nat) (W:World) (v:Value) (r:Except cz V×aC) (h:bt W b ak L P M A s) (hF:fQ W P M A fm n F) (hg:gX L (.var a x)) (he:aX W (fun k=>¬P k) (.var a x) v) (hr:bk L (f+1) s F (.var a x)=some r) :
 Calls prog 120 #[.pointer (some ⟨b,0,none⟩),.map (some fm),v] W (dP W b ak L P ai M A qp r):=by
 have k_:∀ (fn:Go.Fn) (first cap:Array Value) (w:World),(Instr.makeFunc fn first cap).run prog w=.ok (.func fn first cap) w:=fun _ _ _ _=>rfl
 obtain⟨W3,hW3⟩:=aq (((W.alloc (.cells #[.pointer (some ⟨b,0,none⟩)] 108)).alloc (.cells #[.map (some fm)] 162)).alloc (.cells #[.int .i64 0,.slice none 0 0] 164));have az:Hid (ag ai W W3):=af (by rw[hW3];exact ((ay.alloc _).alloc _).alloc _);have aA:Hid (iL W W3 P M b fm W.heap.size):=af (by rw[hW3];exact iL.new fm h);have aP:=af (h.quiet az);have bb:=af (hF.ext (Ext.quiet az) (anB A));have a_:Hid (Ext ai M M W W3):=af (Ext.quiet az);have bH:=af (anB A);simp only[aX]at he;obtain⟨g,rfl,jh,hv⟩:=he;simp only[gX]at hg;simp only[bk]at hr;obtain rfl:=(anz hr).symm;have d0:W3.cell? ⟨g,0,none⟩=some (.int .i64 2):=az.cellOf (hv.cell rfl) id;have HD:ag ai W3 W3.drew:=ay.drew;have d3:W3.cell? ⟨g,3,none⟩=some (str x):=az.cellOf (hv.cell rfl) id;have b4:=aA.c4.ah 0;have r0:=(aA).c6.ah 0;have r1:=(aA).c6.ah 1;have z0:=(aA).c6.free 0;have cS:=(aA).c6.free 1;have aA:=af (aA.step (Ext.quiet HD));have aP:=af (aP.quiet HD);have a_:=af (a_.trans (Ext.quiet HD));obtain⟨F',k1,k2,k3,k4⟩:=bb.ext (Ext.quiet HD) (anB A);have tu:=k1.look (t:=162) underlying162 (XO _) x hg;have hval:=k4 x;obtain⟨lv,hlv⟩:=aq (jV rL F' x);rw[<-hlv]at hval tu;have hl:=hv.lt;clear hlv k1 k2 k3 k4 h hv jh hF hr ih bb hg HD;obtain⟨m,hm⟩:=aq (Fr.get F x);rw[<-hm]at hval ⊢;clear hm;have HX:=af hval;obtain⟨k,av,an,rfl,-,-⟩:=hval.len aP;clear hval;unfold str at *;go_in;go_upto_region 2 with (fail)
 rw[<-hW3];clear hW3;go_wp2_with fail;go_region
 all_goals
  go_wp2;exact aA.ret aP a_ bH HX rfl rfl rfl rfl
theorem abt (ih:lq L f) (a:Int) (x:aL) (b ak:Nat) (P M:Nat->Prop) (A:List (Nat×Nat)) (s:aC) (F:Fr) (fm n:Nat) (W:World) (v:Value) (r:Except cz V×aC) (h:bt W b ak L P M A s) (hF:fQ W P M A fm n F) (hg:gX L (.new a x)) (he:aX W (fun k=>¬P k) (.new a x) v) (hr:bk L (f+1) s F (.new a x)=some r) :
 Calls prog 120 #[.pointer (some ⟨b,0,none⟩),.map (some fm),v] W (dP W b ak L P ai M A qp r):=by
 have k_:∀ (fn:Go.Fn) (first cap:Array Value) (w:World),(Instr.makeFunc fn first cap).run prog w=.ok (.func fn first cap) w:=fun _ _ _ _=>rfl
 obtain⟨W3,hW3⟩:=aq (((W.alloc (.cells #[.pointer (some ⟨b,0,none⟩)] 108)).alloc (.cells #[.map (some fm)] 162)).alloc (.cells #[.int .i64 0,.slice none 0 0] 164));have az:Hid (ag ai W W3):=af (by rw[hW3];exact ((ay.alloc _).alloc _).alloc _);have aA:Hid (iL W W3 P M b fm W.heap.size):=af (by rw[hW3];exact iL.new fm h);have aP:=af (h.quiet az);have bb:=af (hF.ext (Ext.quiet az) (anB A));have a_:Hid (Ext ai M M W W3):=af (Ext.quiet az);have bH:=af (anB A);simp only[aX]at he;obtain⟨bq,⟨g,rfl,jh,hv⟩,b5⟩:=he;simp only[gX]at hg;have b5:=vF b5 h a_;have aT:=af (GG ih hg P b ak fm W.heap.size F bq M A s n W W3 aA aP bb b5);have d0:W3.cell? ⟨g,0,none⟩=some (.int .i64 6):=az.cellOf (hv.cell rfl) id;have d5:W3.cell? ⟨g,5,none⟩=some bq:=az.cellOf (hv.cell rfl) id;obtain⟨iA,rfl⟩:=b5.ptr;have hl:=hv.lt;have aj:Hid (aS (s9 L f s F x) (fun k s=>if k<0\/k > 40 then eP 4 s else a6 ⟨0,some s.bS.length⟩ { s with bS:=s.bS++[List.replicate k.toNat 0] })=some r):=af (by rw[Br,<-hr];simp only[bk]);clear h hv jh hF hg b5 hr ih;obtain⟨i0,hi,hz0,hz1,hz2⟩:=info_parts DS;go_in;go_upto_region 2 with (fail)
 rw[<-hW3];clear hW3;go_wp2_with fail;refine uO a_ bH aj aT ?_ ?_
 ·rintro g s' rfl aV w H
  obtain⟨M',aK,k1,k2,k3⟩:=H.out;go_wp2;exact⟨rfl,⟨aV,rfl⟩,M',aK,k1,k2,k3⟩
 ·rintro k s'-bh e w M' aK jB bI cO gg ft eK
  obtain rfl:=jB;have dW:=bh.out;have bY:=af (aA.step cO);by_cases rf:k<0
  ·simp only[if_pos (Or.inl rf:k<0\/k > 40)]at dW
   obtain rfl:=(anz dW).symm;clear aj bh dW aT d0 d5;go_wp2_with fail;refine (kT 4 _).mono ?_;rintro e bw ⟨⟨aV,rfl⟩,rfl⟩;go_wp2;exact⟨rfl,⟨aV,rfl⟩,M',aK,bI,gg,eK⟩
  ·by_cases vT:k > 40
   ·simp only[if_pos (Or.inr vT:k<0\/k > 40)]at dW
    obtain rfl:=(anz dW).symm;clear aj bh dW aT d0 d5;go_wp2_with fail;refine (kT 4 _).mono ?_;rintro e bw ⟨⟨aV,rfl⟩,rfl⟩;go_wp2;exact⟨rfl,⟨aV,rfl⟩,M',aK,bI,gg,eK⟩
   ·rw[if_neg (by omega)]at dW
    obtain rfl:=(anz dW).symm;obtain⟨dU,rfl⟩:=aoh (by omega:0<=k);clear aj bh dW aT d0 d5;have l6:(Instr.makeSlice 23 (.int .i64 (dU:Int)) (.int .i64 (dU:Int))).run prog w=.ok (.slice (some ⟨w.heap.size,0,none⟩) dU dU) (w.alloc (.cells ((List.replicate dU (0:Int)).map (Value.int .i64)).toArray 2)):=by
     have h:=Ef (P:=prog) 23 2 i0 (.int .i64 0) underlying23 hi hz0 .i64 .i64 dU (by rw[hz2];omega) (by omega) w;rw[h,hz1,OY]
    obtain⟨xl,zQ⟩:=bI.O5 dU (by omega);have hx:(Int.toNat (dU:Int))=dU:=(by simp);have S5:aK <+: aK++[(w.heap.size,dU)]:=List.prefix_append _ _;have U3:iW (aK++[(w.heap.size,dU)]) ⟨0,some s'.bS.length⟩ (.agg #[.int .i64 0,.slice (some ⟨w.heap.size,0,none⟩) dU dU]):=Or.inr ⟨_,w.heap.size,dU,rfl,by rw[<-bI.bS];simp,rfl⟩;obtain⟨a7,Aj⟩:=aq (w.alloc (.cells ((List.replicate dU (0:Int)).map (Value.int .i64)).toArray 2));rw[<-Aj]at xl zQ l6;rw[hx];have dp:=af xl;have gB:=af (bY.step zQ);have sQ:=af (gg.trans zQ);have EE:=af (eK.trans S5);have LF:=af U3;have r0:=(gB).c6.ah 0;have r1:=(gB).c6.ah 1;have z0:=(gB).c6.free 0;have cS:=(gB).c6.free 1;clear Aj xl zQ S5 U3 hx hi hz0 hz1 hz2 bI cO gg ft eK bY;go_wp2_with fail;exact gB.ret dp sQ EE LF rfl rfl rfl rfl
theorem abq (ih:lq L f) (a:Int) (x y:aL) (b ak:Nat) (P M:Nat->Prop) (A:List (Nat×Nat)) (s:aC) (F:Fr) (fm n:Nat) (W:World) (v:Value) (r:Except cz V×aC) (h:bt W b ak L P M A s) (hF:fQ W P M A fm n F) (hg:gX L (.item a x y)) (he:aX W (fun k=>¬P k) (.item a x y) v) (hr:bk L (f+1) s F (.item a x y)=some r) :
 Calls prog 120 #[.pointer (some ⟨b,0,none⟩),.map (some fm),v] W (dP W b ak L P ai M A qp r):=by
 have k_:∀ (fn:Go.Fn) (first cap:Array Value) (w:World),(Instr.makeFunc fn first cap).run prog w=.ok (.func fn first cap) w:=fun _ _ _ _=>rfl
 obtain⟨W3,hW3⟩:=aq (((W.alloc (.cells #[.pointer (some ⟨b,0,none⟩)] 108)).alloc (.cells #[.map (some fm)] 162)).alloc (.cells #[.int .i64 0,.slice none 0 0] 164));have az:Hid (ag ai W W3):=af (by rw[hW3];exact ((ay.alloc _).alloc _).alloc _);have aA:Hid (iL W W3 P M b fm W.heap.size):=af (by rw[hW3];exact iL.new fm h);have aP:=af (h.quiet az);have bb:=af (hF.ext (Ext.quiet az) (anB A));have a_:Hid (Ext ai M M W W3):=af (Ext.quiet az);have bH:=af (anB A);simp only[aX]at he;obtain⟨bq,nz,⟨g,rfl,jh,hv⟩,b5,dm⟩:=he;simp only[gX]at hg;have aj:Hid (aS (bk L f s F x) (fun v s=>aS (s9 L f s F y) fun k s=>aS (cX s v k) fun n s=>a6 (bN n) s)=some r):=af (by simp only[Br];rw[<-hr];simp only[bk]);have d0:W3.cell? ⟨g,0,none⟩=some (.int .i64 8):=az.cellOf (hv.cell rfl) id;have d5:W3.cell? ⟨g,5,none⟩=some bq:=az.cellOf (hv.cell rfl) id;have b3:=aA.c3.ah 0;have b4:=aA.c4.ah 0;have jh:P g:=Classical.not_not.1 jh;obtain⟨dz,g_⟩:=aq (W3.drew);have lA:ag ai W3 dz:=by rw[g_];exact ay.drew
 have a_:Hid (Ext ai M M W dz):=af (a_.trans (Ext.quiet lA));have aA:=af (aA.step (Ext.quiet lA));have aP:=af (aP.quiet lA);have bb:=af (bb.ext (Ext.quiet lA) (anB A));have b5:=vF b5 h a_;have dm:=vF dm h a_;have aT:=af (fun y hy=>ih x b ak P ai M A s F fm n dz bq y aP bb hg.1 b5 hy);have qG:=af (GG ih hg.2 P b ak fm W.heap.size F nz);have kZ:=af (anw dm jh);have bQ:Hid (aw dz g (uk 8 a 0 [] [] bq nz bV) 223):=af ((hv.mods az id).mods lA id);obtain⟨iA,rfl⟩:=b5.ptr;obtain⟨zb,rfl⟩:=dm.ptr;have hl:=hv.lt;clear h hv jh hF hg b5 dm hr ih lA;go_in;go_upto_region 2 with (fail)
 rw[<-hW3];clear hW3;go_wp2_with fail
 go_still_tail 6,(by kernel_rfl)
 change wpList _ _ _ _ _ W3.drew;rw[<-g_];clear g_ d0 d5 b3 b4;go_wp2_with fail;refine uO a_ bH aj aT ?_ ?_
 ·rintro g s' rfl aV w H
  obtain⟨M',aK,k1,k2,k3⟩:=H.out;go_wp2;exact⟨rfl,⟨aV,rfl⟩,M',aK,k1,k2,k3⟩
 ·rintro x s'-bh e w M' aK ⟨v,rfl,hv⟩ bI cO gg ft eK
  have bY:=af (aA.step cO);have ew:w.cell? ⟨g,6,none⟩=some (.pointer (some ⟨zb,0,none⟩)):=(C7 bQ kZ.2 aP cO).cell rfl;have sU:=af (qG M' aK s' n W w bY bI (bb.ext cO ft) (vF kZ.1 aP cO));clear aj aT qG kZ bQ bb;have HX:=af hv;obtain⟨k,av,an,rfl,-,-⟩:=hv.len bI;clear hv;have oV:=Iv k (.slice av an an);go_wp2_with fail;clear oV;go_at_call 130;refine uO gg eK bh sU ?_ ?_
  ·rintro g s' rfl aV w H
   obtain⟨M',aK,k1,k2,k3⟩:=H.out;go_wp2;exact⟨rfl,⟨aV,rfl⟩,M',aK,k1,k2,k3⟩
  ·rintro k2 uQ-oa e aJ eH fZ jB dB ly mi jP mh
   obtain rfl:=jB;have cM:=af (bY.step ly);have r0:=(cM).c6.ah 0;have r1:=(cM).c6.ah 1;have z0:=(cM).c6.free 0;have cS:=(cM).c6.free 1;have hv:=HX.more jP;have pU:=oa.out;clear bh oa sU HX;rcases hv with⟨iR,hv2⟩|⟨i,q,m,iR,hv2,hv3⟩
   ·simp only[Value.agg.injEq,Array.mk.injEq,List.cons.injEq,Value.int.injEq,Value.slice.injEq,true_and,and_true]at hv2
    obtain⟨rfl,rfl,rfl,-⟩:=hv2;have hp:cX uQ x k2=eP 3 uQ:=(by unfold cX;rw[if_pos];simp only[fF,iR,anY];omega);rw[hp]at pU;obtain rfl:=(anz pU).symm;clear hp pU iR;go_wp2_with fail;refine (Wq k2 _).mono ?_;rintro e bw ⟨⟨aV,rfl⟩,rfl⟩;go_wp2;exact⟨rfl,⟨aV,rfl⟩,eH,fZ,dB,mi,mh⟩
   ·simp only[Value.agg.injEq,Array.mk.injEq,List.cons.injEq,Value.int.injEq,Value.slice.injEq,true_and,and_true]at hv3
    obtain⟨rfl,rfl,rfl,-⟩:=hv3;obtain⟨l,fc,rfl,hl2,kL⟩:=dB.row hv2;have mD:fF uQ x=l:=(by simp[fF,iR,fc,anM]);by_cases hout:k2<0\/(l.length:Int)<=k2
    ·have hp:cX uQ x k2=eP 3 uQ:=by unfold cX;rw[mD,if_pos];omega
     rw[hp]at pU;obtain rfl:=(anz pU).symm;have bP:=af (Wr q l.length k2 aJ kL hout);clear hp pU iR hv2 fc hl2 kL mD hout;go_wp2_with fail;refine bP.mono ?_;rintro e bw ⟨⟨aV,rfl⟩,rfl⟩;go_wp2;exact⟨rfl,⟨aV,rfl⟩,eH,fZ,dB,mi,mh⟩
    ·obtain⟨m,hm⟩:=aq (l.getD k2.toNat 0)
     have hp:cX uQ x k2=a6 m uQ:=(by unfold cX;rw[mD,if_neg (by omega),hm]);rw[hp]at pU;obtain rfl:r=(.ok (bN m),uQ):=(anz pU).symm;have bP:=af (Wp q l.length k2 aJ kL (by omega) (by omega));obtain⟨j,hj⟩:=aq (k2.toNat);have ep:j<l.length:=(by omega);have hcell:aJ.cell? ⟨q,j,none⟩=some (.int .i64 m):=hl2.cell (by rw[hm,<-hj];simp[anM,anx ep]);rw[<-hj]at bP;clear hp pU iR hv2 fc hl2 kL mD hout hm hj ep;go_wp2_with fail;refine bP.mono ?_;rintro e bw ⟨rfl,rfl⟩;go_wp2_with fail;exact cM.ret dB mi mh (Or.inl ⟨rfl,rfl⟩) rfl rfl rfl rfl
theorem abp (ih:lq L f) (a:Int) (b ak:Nat) (P M:Nat->Prop) (A:List (Nat×Nat)) (s:aC) (F:Fr) (fm n:Nat) (W:World) (v:Value) (r:Except cz V×aC) (h:bt W b ak L P M A s) (hF:fQ W P M A fm n F) (hg:gX L (.input a)) (he:aX W (fun k=>¬P k) (.input a) v) (hr:bk L (f+1) s F (.input a)=some r) :
 Calls prog 120 #[.pointer (some ⟨b,0,none⟩),.map (some fm),v] W (dP W b ak L P ai M A qp r):=by
 have k_:∀ (fn:Go.Fn) (first cap:Array Value) (w:World),(Instr.makeFunc fn first cap).run prog w=.ok (.func fn first cap) w:=fun _ _ _ _=>rfl
 obtain⟨W3,hW3⟩:=aq (((W.alloc (.cells #[.pointer (some ⟨b,0,none⟩)] 108)).alloc (.cells #[.map (some fm)] 162)).alloc (.cells #[.int .i64 0,.slice none 0 0] 164));have az:Hid (ag ai W W3):=af (by rw[hW3];exact ((ay.alloc _).alloc _).alloc _);have aA:Hid (iL W W3 P M b fm W.heap.size):=af (by rw[hW3];exact iL.new fm h);have aP:=af (h.quiet az);have bb:=af (hF.ext (Ext.quiet az) (anB A));have a_:Hid (Ext ai M M W W3):=af (Ext.quiet az);have bH:=af (anB A);simp only[aX]at he;obtain⟨g,rfl,jh,hv⟩:=he;have d0:W3.cell? ⟨g,0,none⟩=some (.int .i64 9):=az.cellOf (hv.cell rfl) id;have b3:=aA.c3.ah 0;have r0:=(aA).c6.ah 0;have r1:=(aA).c6.ah 1;have z0:=(aA).c6.free 0;have cS:=(aA).c6.free 1;have hl:=hv.lt;obtain⟨iv,ov,hb,⟨Ce,Ou,ou,rfl,hn,hc,lJ,hcell⟩,-⟩:=aP.blk;have b1:W3.cell? ⟨b,1,none⟩=some (.slice Ce Ou ou):=hb.cell rfl;have Fp:=hb.free 1;clear hv jh hF hg ih bb hb;simp only[bk]at hr;cases ki:s.inp with
 | nil =>
   rw[ki]at hr hn;simp only[anY]at hn;subst hn;obtain rfl:=(anz hr).symm;clear hr hcell ki hc lJ h;go_in;go_upto_region 2 with (fail)
   rw[<-hW3];clear hW3;go_wp2_with fail;exact aA.ret aP a_ bH (Or.inl ⟨rfl,rfl⟩) rfl rfl rfl rfl
 | cons k t =>
   rw[ki]at hr hn hcell;obtain rfl:=(anz hr).symm;obtain⟨nc,oi,rfl,z1,Ds⟩:=hcell 0 k rfl;have z1:P nc:=Classical.not_not.1 z1;simp only[anK]at hn;obtain⟨m,hm⟩:=aq (t.length);have hb2:b≠W.heap.size:=fun e=>by have:=h.old b h.has;omega
   have hgb:nc≠b:=fun e=>h.off b h.has (e ▸ z1)
   have hbl:=h.old b h.has;rw[<-hm]at hn;subst hn;have aI:Hid (ij W3 (fun k=>¬P k) (.slice (some ⟨nc,oi+1,none⟩) m (ou-1)) t):=af ⟨_,_,_,rfl,hm,by omega,by omega,fun i x hx=>by
    obtain⟨g2,o2,e1,e2,e3⟩:=hcell (i+1) x hx;simp only[anG,Addr.mk.injEq,and_true]at e1;obtain⟨rfl,rfl⟩:=e1
    exact⟨_,_,rfl,e2,by have:oi+1+i=oi+(i+1):=by omega
                        rw[this];exact e3⟩⟩
   have hs1:(0:Int)<(m:Int)+1:=(by omega);have hs2:(((m+1:Nat):Int)==0)=false:=(by simp;omega);have hs3:((m:Int)+1==0)=false:=(by simp;omega);simp only[aou]at Ds;have bA:=af hm;have aU:=af (anw hc lJ);clear hr hcell ki hm h;go_in;go_upto_region 2 with (fail)
   rw[<-hW3];clear hW3;go_wp2_with fail
   all_goals
    try go_region
   all_goals
    try go_wp2_with fail
   all_goals
    first
    | exact aA.took aP a_ bH aI rfl rfl rfl rfl
    | (refine aA.took aP a_ bH (iv:=.slice (some ⟨nc,oi,none⟩) m 0) ?_ rfl rfl rfl rfl
       have h1:=aU.1;have h2:=bA.out;obtain rfl:m=0:=(by omega);obtain rfl:t=[]:=anJ h2.symm;exact⟨_,_,_,rfl,rfl,anD _,anC _,fun i x hx=>by simp at hx⟩)
def j1 (W:World) (base:Nat) (P M:Nat->Prop) (A:List (Nat×Nat)) (lv:Value) (vs:List V):Prop :=
 ∃cs,W.ownsRow base 164 2 lv vs.length cs/\(∀k,lv.ownBlock=some k->¬M k/\¬P k)/\∀j x,vs[j]?=some x->∃u v,cs[j*2]?=some u/\cs[j*2+1]?=some v/\iW A x (.agg #[u,v])
theorem j1.none_ (W:World) (base:Nat) (P M:Nat->Prop) (A:List (Nat×Nat)):j1 W base P M A (.slice none 0 0) [] :=
 ⟨[],World.ownsRow_nil _ _ _ _,fun k hk=>(by cases hk),fun j x hx=>(by simp at hx)⟩
theorem j1.ext (h:j1 W base P M A lv vs) (bT:Ext ai M M' W w) (hA:A <+: aK):j1 w base P M' aK lv vs:=by
 obtain⟨cs,h1,h2,h3⟩:=h;refine⟨cs,bT.mods.ownsRow h1 (fun k hk hs=>hs.elim (fun f=>f.elim) (h2 k hk).1),fun k hk=>⟨fun hm=>(h2 k hk).1 (bT.back k (h1.lt k hk).2 hm),(h2 k hk).2⟩,fun j x hx=>?_⟩;obtain⟨u,v,e1,e2,e3⟩:=h3 j x hx;exact⟨u,v,e1,e2,e3.more hA⟩
theorem iL.aside (h:iL W0 w P M b fm q) (hm:ag S w w') (hS:∀k,S k->q+3<=k):iL W0 w' P M b fm q :=
 ⟨h.c3.mods hm (fun f=>by have:=hS _ f;omega),h.c4.mods hm (fun f=>by have:=hS _ f;omega),h.c6.mods hm (fun f=>by have:=hS _ f;omega),h.nm,h.at_⟩
theorem fQ.aside (h:fQ W P M A fm n F) (hm:ag S W W') (hS:¬S fm):fQ W' P M A fm n F:=by
 obtain⟨F',h1,h2,h4,h3⟩:=h;exact⟨F',h1.mods hm hS,h2,h4,h3⟩
structure Hg (W:World) (P M:Nat->Prop) (A:List (Nat×Nat)) (b ak fm n:Nat) (L:List Fn) (F:Fr) (k i:Nat) (args:List aL) (av:Value) (es:List Value) (K:List V->aC->cF V) (r:Except cz V×aC) (lv:Value) (vs:List V) (M':Nat->Prop) (aK:List (Nat×Nat)) (s':aC) (wr:World):Prop where
 run:aS (jT L k s' F (args.drop i) vs) K=some r
 bx:iL W wr P M' b fm W.heap.size
 rat:bt wr b ak L P M' aK s'
 fr:fQ wr P M' aK fm n F
 ext:Ext ai M M' W wr
 pre:A <+: aK
 vals:j1 wr (W.heap.size+3) P M' aK lv vs
 row:fL wr (fun k=>¬P k) 141 1 av args.length es
 exs:eB wr (fun k=>¬P k) args es
theorem Hg.step {wr:World} {k:Nat} {av:Value} {K:List V->aC->cF V} {r:Except cz V×aC} {M2:Nat->Prop} {kp:List (Nat×Nat)} {s2:aC}
 (h:Hg W P M A b ak fm n L F k i args av es K r lv vs M' aK s' wr) (hR:bt w b ak L P M2 kp s2) (bT:Ext ai M' M2 wr w) (alw:Ext ai M M2 W w) (hA:aK <+: kp) (yr:A <+: kp):iL W w P M2 b fm W.heap.size/\fQ w P M2 kp fm n F/\j1 w (W.heap.size+3) P M2 kp lv vs/\fL w (fun k=>¬P k) 141 1 av args.length es/\eB w (fun k=>¬P k) args es:=by
 have hm:ag (fun k=>¬P k) wr w:=bT.mods.mono fun k _ hk=>hk.elim (fun f=>f.elim) (h.rat.off k)
 exact⟨h.bx.step bT,h.fr.ext bT hA,h.vals.ext bT hA,h.row.mods hm (fun _ _ k=>k),eB.b8 hm (fun _ _ k=>k) _ _ h.exs⟩
theorem j1.grow {w4 aJ:World} {v':Value} (h1:w4.ownsRow base 164 2 lv vs.length cs) (h2:∀k,lv.ownBlock=some k->¬M k/\¬P k) (h3:∀j x,vs[j]?=some x->∃u v,cs[j*2]?=some u/\cs[j*2+1]?=some v/\iW A x (.agg #[u,v]))
 (hown:aJ.ownsRow base 164 2 v' (vs.length+1) (cs++[u,v])) (hloc:v'.ownBlock=lv.ownBlock\/v'.ownBlock=some w4.heap.size) (hM:∀k,M k->k<w4.heap.size) (dZ:∀k,P k->k<w4.heap.size) (hv:iW A x (.agg #[u,v])):j1 aJ base P M A v' (vs++[x]):=by
 refine⟨cs++[u,v],by simpa using hown,fun k hk=>?_,fun j y hy=>?_⟩
 ·rcases hloc with hl|hl
  ·exact h2 k (by rw[<-hl];exact hk)
  ·rw[hl]at hk
   obtain rfl:=anz hk;exact⟨fun hm=>absurd (hM _ hm) (an5 _),fun hp=>absurd (dZ _ hp) (an5 _)⟩
 ·have hlen:=h1.1
  rcases aov j vs.length with hj|hj
  ·rw[anI hj]at hy
   obtain⟨u',v',e1,e2,e3⟩:=h3 j y hy;exact⟨u',v',by rw[anI (by omega)];exact e1,by rw[anI (by omega)];exact e2,e3⟩
  ·rw[anH hj]at hy
   obtain⟨BU,hy⟩:=anA.1 hy;simp only[an0]at BU;obtain rfl:j=vs.length:=(by omega);simp only[aog,aop]at hy;subst hy;refine⟨u,v,?_,?_,hv⟩
   ·rw[anH (by omega),hlen,aog];rfl
   ·rw[anH (by omega),hlen,show vs.length*2+1-vs.length*2=1 by omega];rfl
def sN (L:List Fn) (f:Nat):Prop:=∀ (g:List UInt8) (vs:List V) (b ak base:Nat) (P M:Nat->Prop) (A:List (Nat×Nat)) (s:aC) (W:World) (lv:Value) (r:Except cz Int×aC),bt W b ak L P M A s->j1 W base P M A lv vs->g.length<=10000000->(∃h,il L g=some h/\vs.length=h.params.length)->jE L f s g vs=some r ->
 Calls prog 45 #[.pointer (some ⟨b,0,none⟩),str g,lv] W (dP W b ak L P ai M A Ed r)
theorem aks:(prog.info? 164).map (fun i=>(i.zero,i.size,i.bytes))=some (some rL,2,32):=by kernel_rfl
theorem aif {aa:Option Addr} {an ac:Nat} (hr:fL w S 141 1 (.slice aa an ac) args.length es) (he:eB w S args es) (hi:args[i]?=some e):∃g y,aa=some ⟨g,0,none⟩/\w.cell? ⟨g,i,none⟩=some (.pointer (some ⟨y,0,none⟩))/\aX w S e (.pointer (some ⟨y,0,none⟩))/\an=args.length/\an<=ac/\ac<=maxLen:=by
 obtain⟨v,h1,h2⟩:=he.at_ i e hi;obtain⟨y,rfl⟩:=h2.ptr;have hlt:i<args.length:=(anA.1 hi).1;rcases hr.1.2 with⟨hv,h0⟩|⟨g,cap,cur,hv,_,h3,h4,h5,h6,h7⟩
 ·omega
 ·simp only[Value.slice.injEq]at hv
  obtain⟨rfl,rfl,rfl⟩:=hv;refine⟨g,y,rfl,?_,h2,rfl,h4,h5⟩;have:=hr.1.cells (g:=g) rfl i _ h1;cases i with
  | zero=>exact this
  | succ i=>simpa [Addr.add] using this
theorem Z_ {zf:Type} (x:cF α) (f:α->aC->cF β) (g:β->aC->cF zf):aS (aS x f) g=aS x (fun a s=>aS (f a s) g):=by
 rcases x with _|⟨_|a,s⟩ <;> rfl
theorem SZ:{l:List aL}->CL L l->(i:Nat)->(e:aL)->l[i]?=some e->gX L e
 | [],_,i,e,h=>by simp at h
 | a::r,hg,0,e,h=>by
   simp only[CL]at hg;simp only[anO,anG]at h;exact h ▸ hg.1
 | a::r,hg,i+1,e,h=>by
   simp only[CL]at hg;exact SZ hg.2 i e (by simpa using h)
theorem ahm (a:Int) (o:Option Addr) (n c:Nat):∀u∈[Value.int .i64 a,.slice o n c],u.oneCell'=true:=by
 intro u hu;simp only[anW,an1,or_false]at hu;rcases hu with rfl|rfl <;> rfl
theorem abo (ih:∀k,k<=f->lq L k) (JL:sN L f) (a:Int) (x:List UInt8) (args:List aL) (b ak:Nat) (P M:Nat->Prop) (A:List (Nat×Nat)) (s:aC) (F:Fr) (fm n:Nat) (W:World) (v:Value) (r:Except cz V×aC) (h:bt W b ak L P M A s) (hF:fQ W P M A fm n F) (hg:gX L (.call a x args)) (he:aX W (fun k=>¬P k) (.call a x args) v) (hr:bk L (f+1) s F (.call a x args)=some r) :
 Calls prog 120 #[.pointer (some ⟨b,0,none⟩),.map (some fm),v] W (dP W b ak L P ai M A qp r):=by
 have k_:∀ (fn:Go.Fn) (first cap:Array Value) (w:World),(Instr.makeFunc fn first cap).run prog w=.ok (.func fn first cap) w:=fun _ _ _ _=>rfl
 obtain⟨W3,hW3⟩:=aq (((W.alloc (.cells #[.pointer (some ⟨b,0,none⟩)] 108)).alloc (.cells #[.map (some fm)] 162)).alloc (.cells #[.int .i64 0,.slice none 0 0] 164));have az:Hid (ag ai W W3):=af (by rw[hW3];exact ((ay.alloc _).alloc _).alloc _);have aA:Hid (iL W W3 P M b fm W.heap.size):=af (by rw[hW3];exact iL.new fm h);have aP:=af (h.quiet az);have bb:=af (hF.ext (Ext.quiet az) (anB A));have a_:Hid (Ext ai M M W W3):=af (Ext.quiet az);simp only[aX]at he;obtain⟨av,es,⟨g,rfl,jh,hv⟩,hrow,hex⟩:=he;have jh:P g:=Classical.not_not.1 jh;simp only[gX]at hg;obtain⟨hx1,mD,hfn,si⟩:=hg;obtain⟨K,hK⟩:∃K:List V->aC->cF V,K=fun vs s=>aS (jE L f s x vs) fun n s=>a6 (bN n) s:=⟨_,rfl⟩
 have hX:aS (jT L f s F args []) K=some r:=by rw[<-hr,hK];simp only[bk]
 have aR:ag (fun k=>¬P k) W W3:=az.mono fun _ _ f=>f.elim
 have HST:Hid (Hg W P M A b ak fm n L F f 0 args av es K r (.slice none 0 0) [] M A s W3):=af ⟨hX,aA,aP,bb,a_,anB A,j1.none_ _ _ _ _ _,hrow.mods aR (fun _ _ k=>k),eB.b8 aR (fun _ _ k=>k) _ _ hex⟩;obtain⟨aa,ac,rfl⟩:=nQ hrow.1;obtain⟨i0,hi,hz0,hz1,hz2⟩:=info_parts aks;have aI:=af (anw hi (anw hz0 (anw hz1 hz2)));have bQ:Hid (aw W3 g (uk 5 a 0 x [] cV cV (.slice aa args.length ac)) 223):=af (hv.mods az id);have d0:W3.cell? ⟨g,0,none⟩=some (.int .i64 5):=bQ.cell rfl;have d7:W3.cell? ⟨g,7,none⟩=some (.slice aa args.length ac):=bQ.cell rfl;have HN:=af jh;have Yj:=af si;have EO:=af hfn;have ek:=af hx1;have rN:=af mD;have lz:=af ih;have Ys:=af JL;have hl:=hv.lt;have pS:=af h;have Za:=af hv;have Yh:Hid (fm<W.heap.size):=af (by obtain⟨F',k1,_⟩:=hF;exact k1.lt);obtain⟨al,vQ⟩:=aq (args.length);rw[<-vQ]at d7;have AR:=af vQ;clear h hv jh hF hr ih JL si hfn hx1 mD hrow hex hX aR aA aP bb a_ hi hz0 hz1 hz2 vQ;go_in;go_upto_region 2 with (fail)
 rw[<-hW3];clear hW3;go_wp2_with fail
 go_loopw [9,11,120] (fun lv _ iv wr=>∃k i vs M' aK s',k<=f/\i<=al/\iv=.int .i64 i/\vs.length=i/\Hid (Hg W P M A b ak fm n L F k i args (.slice aa args.length ac) es K r lv vs M' aK s' wr)) (fun _ _ iv _=>(al-intOf iv).toNat)
 case atStart=>exact⟨f,0,[],M,A,s,anD _,anC _,rfl,rfl,HST⟩
 case round =>
  obtain⟨k,i,vs,M',aK,s',hk,hi,rfl,fA,HS⟩:=hrel;clear HST;obtain⟨cs,iQ,kg,kx⟩:=HS.vals;obtain⟨aG,aF,rfl⟩:=nQ iQ;have kX:=af (anw iQ (anw kg kx));clear iQ kg kx;by_cases hlt:i<al
  ·obtain⟨e,he⟩:∃e,args[i]?=some e:=⟨args[i]'(by rw[<-AR.out];exact hlt),anx _⟩
   have sf:args.drop i=e::args.drop (i+1):=by
        obtain⟨h1,h2⟩:=anA.1 he;rw[<-h2];exact anL h1
   have hrun:=HS.run;rw[sf]at hrun;cases k with
   | zero=>simp only[jT,aS]at hrun;cases hrun
   | succ k =>
     simp only[jT,Z_]at hrun;have aj:=af hrun;obtain⟨bg,anf,rfl,hcell,hex,h3,h4,h5⟩:=aif HS.row HS.exs he;have CP:=af (fun y hy=>lz.out k (by omega) e b ak P ai M' aK s' F fm n wr _ y HS.rat HS.fr (SZ Yj i e he) hex hy);have a_:=af HS.ext;have bH:=af HS.pre;have b3:=HS.bx.c3.ah 0;have b4:=HS.bx.c4.ah 0;have bm:(i:Int)<(al:Int):=(by omega);have Dp:(al:Int)<=(ac:Int):=(by have:=AR.out;omega);unfold maxLen at h5;clear he sf hrun hex h3 h4;go_wp2_with fail;refine uO a_ bH aj CP ?_ ?_
     ·rintro g s' rfl aV w H
      obtain⟨M',aK,k1,k2,k3⟩:=H.out;go_wp2;exact⟨rfl,⟨aV,rfl⟩,M',aK,k1,k2,k3⟩
     ·rintro y s2-bh e2 w M2 kp ⟨nz,rfl,dm⟩ bI cO gg ft eK
      obtain⟨k3,pK,tQ,rfl,-,-⟩:=dm.len bI;have rW:=af dm;obtain⟨t1,t2,⟨L9,v1,v2,v3⟩,t4,t5⟩:=HS.step bI cO gg ft eK;have ni:ag ai w (w.alloc (.cells #[k3,.slice pK tQ tQ] 164)):=ay.alloc _;have hbase:W.heap.size+3<=(w.alloc (.cells #[k3,.slice pK tQ tQ] 164)).heap.size:=(by have h1:=t1.c6.lt;have h2:=ni.size;omega);have A0:=af (ni.ownsRow v1 (fun k hk f=>f));have bA:=af (anw t1 (anw t2 (anw t4 t5)));have jC:=af (anw v2 v3);have bR:=af ni;have mS:=af hbase;have HY:=af fA;have n9:=af hlt;have Ld:=af hk;clear t1 t2 t4 t5 v1 v2 v3 ni hbase dm aj CP kX a_ bH b3 b4 bm Dp h5 hcell fA hlt hi hk;go_wp2_with (at_builtin;refine wpList_append_own_at _ rfl _ _ 160 rfl (W.heap.size+3) 164 i0 _ 2 32 underlying160 aI.1 aI.2.1 aI.2.2.1 aI.2.2.2 rfl (by decide) (.slice aG vs.length aF) vs.length L9 rfl A0 ⟨w.heap.size,0,none⟩ 1 1 [k3,.slice pK tQ tQ] rfl rfl (Er _ _ _ _) (ahm _ _ _ _) (by have h1:=rN.out;have h2:=AR.out;have h3:=HY.out;have h4:=n9.out;unfold maxLen;omega) (by have h1:=rN.out;have h2:=AR.out;have h3:=HY.out;have h4:=n9.out;omega) mS ?_;intro v' aJ hown cr hnil hloc;have b6:=af hown;have bZ:=af (py cr hloc);clear hown cr hnil hloc;refine Hid.out ?_);refine af ?_;obtain⟨bg,br,rfl⟩:=nQ b6;have oW:i<1000000:=(by have h1:=rN.out;have h2:=AR.out;have h4:=n9.out;omega);go_wp2_with fail;have hlt:=n9.out;have fA:=HY.out;refine⟨⟨k,i+1,vs++[y],M2,kp,s2,by have:=Ld.out;omega,by omega,by go_num,by simp[fA],af ?_⟩,by simp[intOf];omega⟩;have hS:∀j,(Value.slice aG vs.length aF).ownBlock=some j->W.heap.size+3<=j:=fun j hj=>(A0.lt j hj).1
      have ez:=bZ.mods;obtain⟨t1,t2,t4,t5⟩:=bA.out;have q_:fm<W.heap.size+3:=(by have:=Yh.out;omega);have fT:ag (fun k=>¬P k) w aJ:=(bR.mono fun _ _ f=>f.elim).trans (ez.mono fun j _ hj=>(jC.1 j hj).2)
      exact⟨bh,(t1.step (Ext.quiet bR)).aside ez hS,(bI.quiet bR).aside ez jC.1,(t2.ext (Ext.quiet bR) (anB _)).aside ez (fun hj=>by have:=hS _ hj;omega),(gg.trans (Ext.quiet bR)).new ez (fun j h1 h2=>by have:=hS j h2;omega),eK,
       j1.grow A0 jC.1 jC.2 b6 bZ.loc (fun j hj=>anE (bI.old j hj) bR.size) (fun j hj=>anE (bI.given j hj) bR.size) rW,t4.mods fT (fun _ _ k=>k),eB.b8 fT (fun _ _ k=>k) _ _ t5⟩
  ·obtain rfl:i=al:=by omega
   have hrun:=HS.run;have hd:args.drop i=[]:=(by rw[AR.out];exact anZ);rw[hd]at hrun;cases k with
   | zero=>simp only[jT,aS]at hrun;cases hrun
   | succ k =>
     simp only[jT,a6,aS,hK]at hrun;have hrun:aS (jE L f s' x vs) (fun n s=>a6 (bN n) s)=some r:=hrun;have aj:=af hrun;have bm:¬(i:Int)<(i:Int):=(by omega);have a_:=af (HS.ext.trans (Ext.quiet (ag.refl ai wr).drew));have bH:=af HS.pre;have aA:=af (HS.bx.step (Ext.quiet (ag.refl ai wr).drew));have CP:=af (fun y hy=>Ys.out x vs b ak (W.heap.size+3) P M' aK s' wr.drew _ y (HS.rat.quiet (ag.refl ai wr).drew) (HS.vals.ext (Ext.quiet (ag.refl ai wr).drew) (anB _)) ek (by
      obtain⟨fn,h1,h2⟩:=EO.out;exact⟨fn,h1,by rw[fA,AR.out,h2]⟩) hy)
     have d3:wr.cell? ⟨g,3,none⟩=some (str x):=(C7 Za HN pS HS.ext).cell rfl;have b3:=HS.bx.c3.ah 0;clear hrun hd kX hK hi hk fA hlt;unfold str at *;go_wp2_with fail
     go_still_tail 6,(by kernel_rfl)
     change wpList _ _ _ _ _ wr.drew;obtain⟨w4,hw4⟩:=aq (wr.drew);rw[<-hw4]at a_ aA CP ⊢;clear hw4 d3 b3;go_wp2_with fail;refine uO a_ bH aj CP ?_ ?_
     ·rintro g s' rfl aV w H
      obtain⟨M',aK,k1,k2,k3⟩:=H.out;go_wp2;exact⟨rfl,⟨aV,rfl⟩,M',aK,k1,k2,k3⟩
     ·rintro gU s2-bh e w M2 kp jB bI cO gg ft eK
      obtain rfl:=jB;have dW:=af (anz bh).symm;have bY:=af (aA.step cO);obtain⟨r0,z0,r1,cS⟩:=bY.c6.gL;clear aj bh CP HS;go_wp2_with fail;rw[dW.out];exact bY.ret bI gg eK (Or.inl ⟨rfl,rfl⟩) rfl rfl rfl rfl

/- A part of what stands behind. -/
import Derived.Test.YtnicpmoanjddbaaGreatDoorFp17
set_option maxRecDepth 100000
set_option maxHeartbeats 4000000
set_option linter.all false
namespace Go.Proofs.YtnicpmoanjddbaaGreatDoor
namespace aW
open Go.RowKit bB Go.Maps aB Go.Proofs.Tryz
variable {W:World} {S:Nat->Prop} {F:ar}
structure LN (W:World) (S:Nat->Prop) (F:ar) (fs:List Value) (i:Nat) (on:Bool) (ov:Value) (l:List ax) (wr:World):Prop where
 run:l++iI on (F.steps.drop i)=iI true F.steps
 outs:kt wr W.heap.size (fun k=>S k\/(W.heap.size<=k/\k<W.heap.size+2)) ov l
 mods:ag ai W wr
 b0:aw wr W.heap.size fs 55
 b1:aw wr (W.heap.size+1) wM 55
 len:l.length<=i
structure LI (W ws:World) (S:Nat->Prop) (fs:List Value) (sv:Value) (o:List ax) (i:Nat) (ov:Value) (l:List ax) (wr:World):Prop where
 run:l++i_ (o.drop i)=i_ o
 src:jS wr (fun k=>S k\/(W.heap.size<=k/\k<W.heap.size+2)\/ws.heap.size<=k) sv o
 outs:kt wr ws.heap.size (fun k=>S k\/(W.heap.size<=k/\k<W.heap.size+2)) ov l
 mods:ag ai W wr
 b0:aw wr W.heap.size fs 55
 b1:aw wr (W.heap.size+1) wM 55
 len:l.length<=i
 size:ws.heap.size<=wr.heap.size
theorem ahX {w:World} {ta da:Option Addr} {tc zJ tn m:Nat} (hW:ag ai W w) (ht:dh W S (.slice ta F.types.length tc) F.types) (hs:jS w S (.slice da m zJ) (y2 F.steps)) (ho:m=(y2 F.steps).length) (dL:tn=F.types.length) :
 ∃vG,Ending.returned (Value.agg #[.string ⟨F.name.toArray⟩,F.params,.slice ta tn tc,.slice da m zJ])=.returned vG/\jc w S (xI F) vG/\ag ai W w:=by
 obtain⟨R,hR,h1,h2,h3,h4⟩:∃R,R=xI F/\R.name=F.name/\R.params=F.params/\R.types=F.types/\R.steps=y2 F.steps:=⟨_,rfl,rfl,rfl,rfl,rfl⟩;rw[<-hR];rw[<-h4]at hs ho;rw[<-h1,<-h2,dL,ho];rw[ho]at hs;rw[<-h3]at ht ⊢;exact⟨_,rfl,⟨ta,tc,da,zJ,rfl,ht.mods (hW.mono fun _ _ f=>f.elim) (fun _ _ k=>k),hs⟩,hW⟩
theorem ahW {fv:Value} (hv:jc W S F fv) (hS:∀k,S k->k<W.heap.size) (qd:∀s∈F.steps,b9 s.label) (hlen:F.steps.length<=6000) :
 Calls prog 47 #[fv] W fun e w=>∃vG,e=.returned vG/\jc w S (xI F) vG/\ag ai W w:=by
 obtain⟨ta,tc,sa,sc,rfl,hZ,hst⟩:=hv;obtain⟨W2,hW2⟩:=aq ((W.alloc (.cells #[str F.name,F.params,.slice ta F.types.length tc,.slice sa F.steps.length sc] 55)).alloc (.cells #[.string ⟨#[]⟩,.int .i64 0,.slice none 0 0,.slice none 0 0] 55));have aN:ag ai W W2:=by rw[hW2];exact (ay.alloc _).alloc _
 have hs2:W2.heap.size=W.heap.size+2:=by rw[hW2];simp
 have hb0:aw W2 W.heap.size [str F.name,F.params,.slice ta F.types.length tc,.slice sa F.steps.length sc] 55:=by rw[hW2];exact (aw.new W _ _).alloc _
 have hb1:aw W2 (W.heap.size+1) wM 55:=by
  rw[hW2];have:=aw.new (W.alloc (.cells #[str F.name,F.params,.slice ta F.types.length tc,.slice sa F.steps.length sc] 55)) #[.string ⟨#[]⟩,.int .i64 0,.slice none 0 0,.slice none 0 0] 55;simpa [wM] using this
 obtain⟨tn,dL⟩:=aq (F.types.length);obtain⟨sn,dG⟩:=aq (F.steps.length);rw[<-dL,<-dG]at hW2 hb0 ⊢;have g3:=hb0.ah 3
 have ZZV:Hid (LN W S F [str F.name,F.params,.slice ta tn tc,.slice sa sn sc] 0 true (.slice none 0 0) [] W2):=af
  ⟨rfl,kt.none_ _ _ _,aN,hb0,hb1,anC _⟩
 have lB:=af dG;have eR:=af dL;have HST:=af hst;have A5:=af hZ;have HH:=af (anw hS (anw qd hlen));have wa:(sn:Int)<=6000:=by omega
 clear aN hs2 hb0 hb1 dL dG hst hZ hS hlen qd;unfold str at *;go_in;go_upto_region 1 with (fail)
 rw[<-hW2];clear hW2;go_wp2_with fail;clear g3
 go_loopw [3,4,16] (fun ov tH iv wr=>∃i on l,i<=sn/\tH=.bool on/\iv=.int .i64 ((i:Nat):Int)/\Hid (LN W S F [.string ⟨F.name.toArray⟩,.int .i64 F.params,.slice ta tn tc,.slice sa sn sc] i on ov l wr)) (fun _ _ iv _=>(sn-intOf iv).toNat)
 case atStart=>exact⟨0,true,[],anC _,rfl,rfl,ZZV⟩
 case round =>
  clear ZZV;obtain⟨w4,rfl⟩:=aq wr;obtain⟨i,on,l,hi,rfl,rfl,HS⟩:=hrel;obtain⟨aG,aF,rfl⟩:=HS.outs.form;by_cases hlt:i<sn
  ·have bm:i<F.steps.length:=by rw[<-lB.out];exact hlt
   obtain⟨x,cU⟩:∃x,F.steps[i]?=some x:=⟨_,anx bm⟩;have iF:F.steps[i]=x:=by
        obtain⟨h1,h2⟩:=anA.1 cU;exact h2
   have fp:x∈F.steps:=anF cU;have sf:F.steps.drop i=x::F.steps.drop (i+1):=by
        rw[<-iF];exact anL bm
   obtain⟨gs,os,bL,ba,rfl,hcs,ld⟩:=(HST.mods (T:=fun k=>S k\/W.heap.size<=k) (HS.mods.mono fun _ _ f=>f.elim) (fun k hk h=>h.elim id (fun h=>absurd h (by omega)))).get bm;rw[iF]at hcs ld;obtain⟨jN,y1,fB,jA,l_,mP,lQ,ny,ma,jO⟩:=hcs;have cA:(i:Int)<(sn:Int):=(by omega);have oW:i<6000:=(by omega);have vo:=af ld;obtain⟨xn,dM⟩:=aq (x.args.length);rw[<-dM]at jO;obtain⟨dC,fI⟩:=aq (w4.alloc (.cells (aY x (.slice bL xn ba)).toArray 57));have bG:ag ai w4 dC:=(by rw[fI];exact ay.alloc _);have dT:aw dC w4.heap.size (aY x (.slice bL xn ba)) 57:=(by rw[fI];exact aw.new w4 _ _);have ej:=af dT;have eL:=af bG;have aj:=af (anw fp (anw sf (anw dM bm)));have n9:=af hlt;clear cU iF fp sf ld bG dM bm;unfold aY str at *;go_upto_region 6 with (fail)
   rw[<-fI];clear fI jN y1 fB jA l_ mP lQ ny ma jO;have e0:=dT.ah 0;clear dT;obtain⟨wG,Gj⟩:=aq ((on || x.code==6));have oG:=af Gj;clear Gj;go_cut [4] (fun tH w=>tH=.bool wG/\Hid (ag ai dC w))
   case first =>
        cases on with
        | true =>
          have e:wG=true:=(by rw[oG.out];rfl);subst e;go_wp2_with fail;go_meet
          case rel=>exact⟨rfl,af (by first|exact ag.refl _ _|exact ay.drew)⟩
        | false =>
          have e:wG=(x.code==6):=(by rw[oG.out];rfl);subst e;go_wp2_with fail;go_meet
          case rel=>exact⟨rfl,af (by first|exact ag.refl _ _|exact ay.drew)⟩
   case rest =>
   obtain⟨a7,rfl⟩:=aq wc;obtain⟨rfl,gh⟩:=hcut;have mj:=af (eL.trans gh);go_upto_if 26 with (fail)
   go_cut [3] (fun ov w=>∃l',Hid (l'=l++if wG then [x] else [])/\Hid (kt w W.heap.size (fun k=>S k\/(W.heap.size<=k/\k<W.heap.size+2)) ov l')/\Hid (ag ai W w)/\Hid (aw w W.heap.size [.string ⟨F.name.toArray⟩,F.params,.slice ta tn tc,.slice (some ⟨gs,os,none⟩) sn sc] 55)/\Hid (aw w (W.heap.size+1) wM 55)/\w.cell? ⟨w4.heap.size,0,none⟩=some (.int .i64 x.code))
   case first =>
        cases wG with
        | false =>
          go_wp2_with fail;go_meet
          case rel=>exact⟨l,af (by simp),af (HS.outs.mods mj (fun _ f=>f.elim)),af (HS.mods.trans mj),af (HS.b0.mods mj id),af (HS.b1.mods mj id),(ej.mods gh id).ah 0⟩
        | true =>
          obtain⟨cs,iQ,kg,kx⟩:=HS.outs.mods mj (fun _ f=>f.elim);have eF:aw a7 w4.heap.size (aY x (.slice bL xn ba)) 57:=ej.mods gh id;obtain⟨e0,e1,e2,e3,e4,cG,ew,dv,dc,fG⟩:=eF.gD;obtain⟨i0,gw,hz0,hz1,hz2⟩:=info_parts Ej;have aI:=af (anw gw (anw hz0 (anw hz1 hz2)));obtain⟨bf,fo⟩:=aq (l.length);have cY:=af fo;rw[<-fo]at iQ kg kx ⊢;have bR:Hid (ag ai a7 (a7.alloc (.cells (aY x (.slice bL xn ba)).toArray 57))):=af (ay.alloc _);have fR:=af (bR.ownsRow iQ (fun k hk f=>f));have qH:=af (mq.mods kg (bR.mono fun _ _ f=>f.elim) (fun _ _ k=>k));have uY:=af kx;have A1:=af iQ.lt;have zz:Hid (dh (a7.alloc (.cells (aY x (.slice bL xn ba)).toArray 57)) (fun k=>S k\/W.heap.size<=k) (.slice bL xn ba) x.args):=af (by
           have h:=vo.mods (T:=fun k=>S k\/W.heap.size<=k) ((mj.trans bR).mono fun _ _ f=>f.elim) (fun _ _ k=>k);rw[<-aj.2.2.1]at h;exact h)
          have iT:Hid (bf<=6000):=af (by have:=HS.len;omega);have qJ:Hid (W.heap.size+2<=a7.heap.size):=af (by have h1:=HS.b1.lt;have h2:=mj.size;omega);have mS:Hid (W.heap.size<=(a7.alloc (.cells (aY x (.slice bL xn ba)).toArray 57)).heap.size):=af (by have h1:=qJ.out;have h5:=bR.size;omega);have gz:=af (G0 a7 (aY x (.slice bL xn ba)) 57);have l7:=af (KF x bL xn ba);clear iQ kg kx eF gw hz0 hz1 hz2 fo;unfold aY str at gz l7 bR fR mS qH zz;go_wp2_with (at_builtin;refine wpList_append_own_at _ rfl _ _ 53 rfl W.heap.size 57 i0 _ 10 112 underlying53 aI.1 aI.2.1 aI.2.2.1 aI.2.2.2 rfl (by decide) (.slice aG bf aF) bf cs rfl fR ⟨a7.heap.size,0,none⟩ 1 1 [x.code,x.dst,x.a,x.b,x.c,x.n,.string ⟨x.op.toArray⟩,x.label,.string ⟨x.name.toArray⟩,.slice bL xn ba] rfl rfl gz.out l7.out (by have:=iT.out;unfold maxLen;omega) (by have:=iT.out;omega) mS ?_;intro v' ji hown cr hnil hloc;have b6:=af hown;have bZ:=af (anw cr hloc);clear hown cr hnil hloc;refine Hid.out ?_);refine af ?_;obtain⟨bg,br,rfl⟩:=slice_form b6;go_wp2_with fail;go_meet
          case rel =>
           have jo:=bR.out;have qX:=fR.out;have qY:=qH.out;have vJ:=zz.out;obtain⟨eG,jX⟩:=aq (a7.alloc (.cells #[x.code,x.dst,x.a,x.b,x.c,x.n,.string ⟨x.op.toArray⟩,x.label,.string ⟨x.name.toArray⟩,.slice bL xn ba] 57));have jo:ag ai a7 eG:=(by rw[jX];exact jo);have qX:eG.ownsRow W.heap.size 57 10 (.slice aG bf aF) bf cs:=(by rw[jX];exact qX);have qY:mq eG (fun k=>(S k\/(W.heap.size<=k/\k<W.heap.size+2))\/(Value.slice aG bf aF).ownBlock=some k) cs l:=(by rw[jX];exact qY);have vJ:dh eG (fun k=>S k\/W.heap.size<=k) (.slice bL xn ba) x.args:=(by rw[jX];exact vJ);have hgr:eG.grownBy ji (Value.slice aG bf aF).ownBlock:=(by rw[jX];exact bZ.1);have hlc:(Value.slice bg (bf+1) br).ownBlock=(Value.slice aG bf aF).ownBlock\/(Value.slice bg (bf+1) br).ownBlock=some eG.heap.size:=(by rw[jX];exact bZ.2);have how:=b6.out;clear jX;have hsz:a7.heap.size<=eG.heap.size:=jo.size;have Tu:=qJ.out;have mF:ag (fun k=>(Value.slice aG bf aF).ownBlock=some k) eG ji:=ag.of_grownBy hgr (fun k hk _=>hk);have hno:∀k,(Value.slice aG bf aF).ownBlock=some k->W.heap.size+2<=k:=fun k hk=>by
            have h1:=uY.out k hk;have h2:=(A1 k hk).1;omega
           have FO:ag ai W eG:=(HS.mods.trans mj).trans jo;have xm:ag ai W ji:=FO.trans' mF (fun k hk hl=>by have:=hno k hk;omega);have ads:aw a7 w4.heap.size [x.code,x.dst,x.a,x.b,x.c,x.n,.string ⟨x.op.toArray⟩,x.label,.string ⟨x.name.toArray⟩,.slice bL xn ba] 57:=ej.mods gh id;refine⟨l++[x],af rfl,af ?_,af xm,af ?_,af ?_,?_⟩
           ·refine Kk (w4:=eG) (cs:=cs) (S1:=fun k=>S k\/W.heap.size<=k) (av:=.slice bL xn ba) ?_ qY uY vJ ?_ ?_ ?_ hgr hlc
            ·rw[<-cY.out];exact qX
            ·intro k hk
             rcases hk with (hk|hk)|hk
             ·exact Or.inl hk
             ·exact Or.inr hk.1
             ·exact Or.inr (by have:=hno k hk;omega)
            ·intro k hk
             rcases hk with hk|hk
             ·have:=HH.1 k hk
              omega
             ·omega
            ·rw[<-cY.out];exact how
           ·exact ((HS.b0.mods mj id).mods jo id).mods mF (fun e=>by have:=hno _ e;omega)
           ·exact ((HS.b1.mods mj id).mods jo id).mods mF (fun e=>by have:=hno _ e;omega)
           ·refine aw.cell (i:=0) ((ads.mods jo id).mods mF (fun e=>?_)) rfl
            obtain⟨cs0,h0,_⟩:=HS.outs;have h1:=(h0.lt w4.heap.size (by rw[<-cY.out];exact e)).2;omega
   case rest =>
   obtain⟨fg,rfl⟩:=aq wc;obtain⟨l',QA,Lm,YH,XZ,X2,e0⟩:=hcut;have hend:∀v:Bool,(wG && !(x.code==4 || x.code==8))=v->∀fW,ag ai fg fW->∀ov,kt fg W.heap.size (fun k=>S k\/(W.heap.size<=k/\k<W.heap.size+2)) ov l'->LN W S F [.string ⟨F.name.toArray⟩,F.params,.slice ta tn tc,.slice (some ⟨gs,os,none⟩) sn sc] (i+1) v ov l' fW:=fun v hv fW gT ov ho=>by
        have hrun:=HS.run;rw[aj.2.1,iI,<-oG.out,hv]at hrun;refine⟨by rw[QA.out,aoj];exact hrun,ho.mods gT (fun _ f=>f.elim),YH.trans gT,XZ.mods gT id,X2.mods gT id,?_⟩;rw[QA.out,anU];have:=HS.len;split
        ·rw[an0];omega
        ·rw[anY];omega
   have Hv:=af hend;clear hend;by_cases h4:x.code=4
   ·have g4:(x.code==4)=true:=by simpa using h4
    have hv:(wG && !(x.code==4 || x.code==8))=false:=(by rw[g4];simp);have bQ:=af hv;clear h4 hv;go_wp2_with fail;exact⟨⟨i+1,false,l',by omega,rfl,by go_num,af (Hv _ bQ _ (by first|exact ag.refl _ _|exact ay.drew) _ Lm)⟩,by simp[intOf];omega⟩
   ·have g4:(x.code==4)=false:=by simpa using h4
    by_cases h8:x.code=8
    ·have g8:(x.code==8)=true:=by simpa using h8
     have hv:(wG && !(x.code==4 || x.code==8))=false:=(by rw[g8];simp);have bQ:=af hv;clear h4 h8 hv;go_wp2_with fail;exact⟨⟨i+1,false,l',by omega,rfl,by go_num,af (Hv _ bQ _ (by first|exact ag.refl _ _|exact ay.drew) _ Lm)⟩,by simp[intOf];omega⟩
    ·have g8:(x.code==8)=false:=by simpa using h8
     have hv:(wG && !(x.code==4 || x.code==8))=wG:=(by rw[g4,g8];simp);have bQ:=af hv;clear h4 h8 hv;go_wp2_with fail;exact⟨⟨i+1,wG,l',by omega,rfl,by go_num,af (Hv _ bQ _ (by first|exact ag.refl _ _|exact ay.drew) _ Lm)⟩,by simp[intOf];omega⟩
  ·obtain rfl:i=sn:=by omega
   have cA:¬(i:Int)<(i:Int):=(by omega);have hl:l=iI true F.steps:=by
        have h:=HS.run;rw[lB.out,anZ]at h;simpa [iI] using h
   have cu:=af hl;have fo:=HS.len;obtain⟨bf,hlen⟩:=aq (l.length);have cY:=af hlen;have F8:(bf:Int)<=6000:=(by omega);have B9:=(HS.outs.at_).mods (T:=fun k=>S k\/(W.heap.size<=k/\k<W.heap.size+2)\/w4.heap.size<=k) ay (fun k hk h=>by
        rcases h with h|h|h
        ·exact Or.inl h
        ·exact Or.inr h
        ·omega)
   rw[<-hlen];rw[<-hlen]at B9
   have fC:Hid (LI W w4 S [.string ⟨F.name.toArray⟩,F.params,.slice ta tn tc,.slice sa i sc] (.slice aG bf aF) l 0 (.slice none 0 0) [] w4):=af
        ⟨rfl,B9,kt.none_ _ _ _,HS.mods,HS.b0,HS.b1,anC _,anD _⟩
   clear hl fo hlen B9 HS hlt;go_wp2_with fail;clear cA;obtain⟨ws,JK⟩:=aq w4;have fC:Hid (LI W ws S [.string ⟨F.name.toArray⟩,F.params,.slice ta tn tc,.slice sa i sc] (.slice aG bf aF) l 0 (.slice none 0 0) [] w4):=(by rw[JK];exact fC);have Fc:Hid (W.heap.size+2<=ws.heap.size):=af (by have:=fC.b1.lt;rw[JK];omega);clear JK
   go_loopw [7,42] (fun ov iv wr=>∃j l2,j<=bf/\iv=.int .i64 ((j:Nat):Int)/\Hid (LI W ws S [.string ⟨F.name.toArray⟩,.int .i64 F.params,.slice ta tn tc,.slice sa i sc] (.slice aG bf aF) l j ov l2 wr)) (fun _ iv _=>(bf-intOf iv).toNat)
   case atStart=>exact⟨0,[],anC _,rfl,fC⟩
   case round =>
        clear fC;obtain⟨aJ,rfl⟩:=aq wr;obtain⟨j,l2,hj,rfl,fC⟩:=hrel;obtain⟨eV,o5,rfl⟩:=fC.outs.form;by_cases hlt:j<bf
        ·have ep:j<l.length:=by rw[<-cY.out];exact hlt
         obtain⟨x,cU⟩:∃x,l[j]?=some x:=⟨_,anx ep⟩;have iF:l[j]=x:=by
          obtain⟨h1,h2⟩:=anA.1 cU;exact h2
         have fp:x∈l:=anF cU;have sf:l.drop j=x::l.drop (j+1):=by
          rw[<-iF];exact anL ep
         have hsl:=fC.src;rw[cY.out]at hsl;obtain⟨gs,os,bL,ba,B2,hcs,ld⟩:=hsl.get ep;subst B2;rw[iF]at hcs ld;obtain⟨jN,y1,fB,jA,l_,mP,lQ,ny,ma,jO⟩:=hcs;have cA:(j:Int)<(bf:Int):=(by omega);have vo:=af ld;obtain⟨xn,dM⟩:=aq (x.args.length);rw[<-dM]at jO;obtain⟨dC,fI⟩:=aq (aJ.alloc (.cells (aY x (.slice bL xn ba)).toArray 57));have bG:ag ai aJ dC:=(by rw[fI];exact ay.alloc _);have dT:aw dC aJ.heap.size (aY x (.slice bL xn ba)) 57:=(by rw[fI];exact aw.new aJ _ _);have ej:=af dT;have eL:=af bG;have aj:=af (anw fp (anw sf (anw dM ep)));have n9:=af hlt;clear cU iF fp sf ld bG dM ep hsl;unfold aY str at *;go_upto_region 16 with (fail)
         rw[<-fI];clear fI jN y1 fB jA l_ mP lQ ny ma jO;have e0:=dT.ah 0;have dv:=dT.ah 7;clear dT;obtain⟨cc,hcc⟩:=aq (xK x (l.drop (j+1)));have tU:=af hcc;clear hcc;go_cut [76] (fun zI w=>zI=.bool cc/\Hid (ag ai dC w))
         case first =>
          by_cases h4:x.code=4
          ·have g4:(x.code==4)=true:=by simpa using h4
           have adR:j<6000:=(by omega);by_cases h1:j+1<bf
           ·have oY:(j:Int)+1<(bf:Int):=by omega
            have ep:j+1<l.length:=(by rw[<-cY.out];exact h1);obtain⟨y,hy⟩:∃y,l[j+1]?=some y:=⟨_,anx ep⟩;have uG:l[j+1]=y:=(anA.1 hy).2;have TM:l.drop (j+1)=y::l.drop (j+1+1):=by
             rw[<-uG];exact anL ep
            have hsl:=fC.src;rw[cY.out]at hsl;obtain⟨gs',os',pK,Hd,B2,hcs,-⟩:=(hsl.mods (T:=fun k=>S k\/(W.heap.size<=k/\k<W.heap.size+2)\/ws.heap.size<=k) (eL.mono fun _ _ f=>f.elim) (fun _ _ k=>k)).get ep;cases B2;rw[uG]at hcs;obtain⟨z0,-,-,-,-,-,-,He,-,-⟩:=hcs;have hce:=tU.out;rw[TM]at hce;unfold xK at hce;have TH:cc=(y.code==6 && y.label==x.label):=(by rw[hce,g4];rfl);have kW:=af TH;clear hce TH TM uG hy ep hsl h1 h4;cases g6:(y.code==6) with
            | false =>
              have e:cc=false:=(by rw[kW.out,g6];rfl);subst e;go_region
              all_goals
               go_wp2_with fail;go_meet
               case rel=>exact⟨rfl,af (by first|exact ag.refl _ _|exact ay.drew)⟩
            | true =>
              have e:cc=(y.label==x.label):=(by rw[kW.out,g6];rfl);subst e;go_region
              all_goals
               go_wp2_with fail;go_meet
               case rel=>exact⟨rfl,af (by first|exact ag.refl _ _|exact ay.drew)⟩
           ·have oY:¬(j:Int)+1<(bf:Int):=by omega
            have hle:l.length<=j+1:=(by rw[<-cY.out];omega);have e:cc=false:=(by rw[tU.out,List.drop_eq_nil_of_le hle];rfl);subst e;clear hle h1 h4;go_region
            all_goals
             go_wp2_with fail;go_meet
             case rel=>exact⟨rfl,af (by first|exact ag.refl _ _|exact ay.drew)⟩
          ·have g4:(x.code==4)=false:=by simpa using h4
           have e:cc=false:=by
            rw[tU.out];cases l.drop (j+1) with
            | nil=>rfl
            | cons t r=>unfold xK;rw[g4];rfl
           subst e;go_region
           all_goals
            go_wp2_with fail;go_meet
            case rel=>exact⟨rfl,af (by first|exact ag.refl _ _|exact ay.drew)⟩
         case rest =>
         obtain⟨a7,rfl⟩:=aq wc;obtain⟨rfl,gh⟩:=hcut;have qE:=af (eL.trans gh);have hrun:=fC.run;rw[aj.2.1,wq,<-tU.out]at hrun;have sV:=af hrun;clear hrun e0 dv;cases cc with
         | true =>
           go_wp2_with fail;refine⟨⟨j+1,l2,by omega,by go_num,af ?_⟩,by simp[intOf];omega⟩;have hrun:=sV.out;rw[if_pos rfl,aom]at hrun;exact⟨hrun,fC.src.mods (qE.mono fun _ _ f=>f.elim) (fun _ _ k=>k),fC.outs.mods qE (fun _ f=>f.elim),fC.mods.trans qE,fC.b0.mods qE id,fC.b1.mods qE id,by have:=fC.len;omega,by have h1:=fC.size;have h2:=qE.size;omega⟩
         | false =>
           obtain⟨cs,iQ,kg,kx⟩:=fC.outs.mods qE (fun _ f=>f.elim);have eF:aw a7 aJ.heap.size (aY x (.slice bL xn ba)) 57:=ej.mods gh id;obtain⟨e0,e1,e2,e3,e4,cG,ew,dv,dc,fG⟩:=eF.gD;obtain⟨i0,gw,hz0,hz1,hz2⟩:=info_parts Ej;have aI:=af (anw gw (anw hz0 (anw hz1 hz2)));obtain⟨ie,eU⟩:=aq (l2.length);have qF:=af eU;rw[<-eU]at iQ kg kx ⊢;have bR:Hid (ag ai a7 (a7.alloc (.cells (aY x (.slice bL xn ba)).toArray 57))):=af (ay.alloc _);have fR:=af (bR.ownsRow iQ (fun k hk f=>f));have qH:=af (mq.mods kg (bR.mono fun _ _ f=>f.elim) (fun _ _ k=>k));have uY:=af kx;have A1:=af iQ.lt;have zz:Hid (dh (a7.alloc (.cells (aY x (.slice bL xn ba)).toArray 57)) (fun k=>S k\/(W.heap.size<=k/\k<W.heap.size+2)\/ws.heap.size<=k) (.slice bL xn ba) x.args):=af (by
            have h:=vo.mods (T:=fun k=>S k\/(W.heap.size<=k/\k<W.heap.size+2)\/ws.heap.size<=k) ((qE.trans bR).mono fun _ _ f=>f.elim) (fun _ _ k=>k);rw[<-aj.2.2.1]at h;exact h)
           have iT:Hid (ie<=6000):=af (by have:=fC.len;have:=qF.out;omega);have qJ:Hid (W.heap.size+2<=a7.heap.size):=af (by have h1:=fC.b1.lt;have h2:=qE.size;omega);have mS:Hid (ws.heap.size<=(a7.alloc (.cells (aY x (.slice bL xn ba)).toArray 57)).heap.size):=af (by have h1:=fC.size;have h2:=qE.size;have h5:=bR.size;omega);have gz:=af (G0 a7 (aY x (.slice bL xn ba)) 57);have l7:=af (KF x bL xn ba);clear iQ kg kx eF gw hz0 hz1 hz2 eU;unfold aY str at gz l7 bR fR mS qH zz;go_wp2_with (at_builtin;refine wpList_append_own_at _ rfl _ _ 53 rfl ws.heap.size 57 i0 _ 10 112 underlying53 aI.1 aI.2.1 aI.2.2.1 aI.2.2.2 rfl (by decide) (.slice eV ie o5) ie cs rfl fR ⟨a7.heap.size,0,none⟩ 1 1 [x.code,x.dst,x.a,x.b,x.c,x.n,.string ⟨x.op.toArray⟩,x.label,.string ⟨x.name.toArray⟩,.slice bL xn ba] rfl rfl gz.out l7.out (by have:=iT.out;unfold maxLen;omega) (by have:=iT.out;omega) mS ?_;intro v' ji hown cr hnil hloc;have b6:=af hown;have bZ:=af (anw cr hloc);clear hown cr hnil hloc;refine Hid.out ?_);refine af ?_;obtain⟨bg,br,rfl⟩:=slice_form b6;go_wp2_with fail;refine⟨⟨j+1,l2++[x],by omega,by go_num,af ?_⟩,by simp[intOf];omega⟩;have hrun:=sV.out;rw[if_neg (by simp)]at hrun;have jo:=bR.out;have qX:=fR.out;have qY:=qH.out;have vJ:=zz.out;obtain⟨eG,jX⟩:=aq (a7.alloc (.cells #[x.code,x.dst,x.a,x.b,x.c,x.n,.string ⟨x.op.toArray⟩,x.label,.string ⟨x.name.toArray⟩,.slice bL xn ba] 57));have jo:ag ai a7 eG:=(by rw[jX];exact jo);have qX:eG.ownsRow ws.heap.size 57 10 (.slice eV ie o5) ie cs:=(by rw[jX];exact qX);have qY:mq eG (fun k=>(S k\/(W.heap.size<=k/\k<W.heap.size+2))\/(Value.slice eV ie o5).ownBlock=some k) cs l2:=(by rw[jX];exact qY);have vJ:dh eG (fun k=>S k\/(W.heap.size<=k/\k<W.heap.size+2)\/ws.heap.size<=k) (.slice bL xn ba) x.args:=(by rw[jX];exact vJ);have hgr:eG.grownBy ji (Value.slice eV ie o5).ownBlock:=(by rw[jX];exact bZ.1);have hlc:(Value.slice bg (ie+1) br).ownBlock=(Value.slice eV ie o5).ownBlock\/(Value.slice bg (ie+1) br).ownBlock=some eG.heap.size:=(by rw[jX];exact bZ.2);have how:=b6.out;clear jX;have hsz:a7.heap.size<=eG.heap.size:=jo.size;have Tu:=qJ.out;have mF:ag (fun k=>(Value.slice eV ie o5).ownBlock=some k) eG ji:=ag.of_grownBy hgr (fun k hk _=>hk);have hno:∀k,(Value.slice eV ie o5).ownBlock=some k->ws.heap.size<=k/\W.heap.size+2<=k/\k≠aJ.heap.size:=fun k hk=>by
            have h1:=uY.out k hk;have h2:=(A1 k hk).1;have h3:=Fc.out;refine⟨h2,by omega,?_⟩;obtain⟨cs0,h0,_⟩:=fC.outs;have h1:=(h0.lt k (by rw[<-qF.out];exact hk)).2;omega
           have FO:ag ai W eG:=(fC.mods.trans qE).trans jo;have xm:ag ai W ji:=FO.trans' mF (fun k hk hl=>by have:=hno k hk;omega);refine⟨?_,?_,?_,xm,?_,?_,?_,?_⟩
           ·rw[aoj]
            exact hrun
           ·refine (fC.src.mods ((qE.trans jo).mono fun _ _ f=>f.elim) (fun _ _ k=>k)).mods (mF.mono fun k _ hk=>Or.inr (Or.inr (hno k hk).1)) (fun _ _ k=>k)
           ·refine Kk (w4:=eG) (cs:=cs) (S1:=fun k=>S k\/(W.heap.size<=k/\k<W.heap.size+2)\/ws.heap.size<=k) (av:=.slice bL xn ba) ?_ qY uY vJ ?_ ?_ ?_ hgr hlc
            ·rw[<-qF.out];exact qX
            ·intro k hk
             rcases hk with (hk|hk)|hk
             ·exact Or.inl hk
             ·exact Or.inr (Or.inl hk)
             ·exact Or.inr (Or.inr (hno k hk).1)
            ·intro k hk
             rcases hk with hk|hk
             ·have:=HH.1 k hk
              omega
             ·omega
            ·rw[<-qF.out];exact how
           ·exact ((fC.b0.mods qE id).mods jo id).mods mF (fun e=>by have:=hno _ e;omega)
           ·exact ((fC.b1.mods qE id).mods jo id).mods mF (fun e=>by have:=hno _ e;omega)
           ·have:=fC.len
            rw[anU,an0];omega
           ·have h1:=fC.size
            have h2:=qE.size;have h3:=mF.size;omega
        ·obtain rfl:j=bf:=by omega
         have cA:¬(j:Int)<(j:Int):=(by omega);have hl2:l2=i_ l:=by
          have h:=fC.run;rw[cY.out,anZ]at h;simpa [i_] using h
         have mU:=af hl2;have uz:l2.length<=6000:=(by have:=fC.len;omega);obtain⟨ie,eU⟩:=aq (l2.length);have qF:=af eU;rw[<-eU]at uz ⊢;have bG:(ie:Int)<=6000:=(by omega);have l6:=VP;clear hl2 eU hlt;go_upto_region 20 with (fail)
         obtain⟨iX,q8⟩:=aq (((aJ.alloc (.map #[] 0)).alloc (.cells #[.map (some aJ.heap.size)] 128)));have ml:Hid (ag ai aJ iX):=af (by rw[q8];exact (ay.alloc _).alloc _);have dE:Hid (fw iX aJ.heap.size 0 (.bool false) (fun x=>.bool (mM (l2.take 0) x))):=af (by
          rw[q8];exact (fw.new aJ _).mods ((ag.refl ai _).alloc _) id)
         have dy:Hid (iX.cell? ⟨aJ.heap.size+1,0,none⟩=some (.map (some aJ.heap.size))):=af (by
          rw[q8];have:=aw.new (aJ.alloc (.map #[] 0)) #[.map (some aJ.heap.size)] 128;exact aw.cell (i:=0) (by simpa using this) rfl)
         have oD:=af (fun (w:World) (hm:ag (fun k=>¬k<aJ.heap.size) aJ w)=>((fC.outs.at_).mods (T:=fun k=>¬k<aJ.heap.size) (ag.refl _ aJ) (fun k h1 h2=>(h2 h1).elim)).mods hm (fun k h1 h2=>h2.elim) (T:=ai));rw[<-qF.out]at oD;obtain⟨aQ,jr⟩:=aq (aJ.heap.size);have lV:=af jr;rw[<-jr]at dE dy;rw[<-q8,<-jr];clear q8 jr l6 cA;go_wp2_with fail
         go_loopw [85] (fun iv wr=>∃i n:Nat,i<=ie/\iv=.int .i64 (i:Int)/\n<=i/\Hid (fw wr aQ n (.bool false) (fun x=>.bool (mM (l2.take i) x)))/\Hid (ag (·=aQ) iX wr)) (fun iv _=>(ie-intOf iv).toNat)
         case atStart=>exact⟨0,0,anC _,rfl,anD _,dE,af ay⟩
         case round =>
          clear dE;obtain⟨fX,rfl⟩:=aq wr;obtain⟨k,n,hk,rfl,hn,dE,t_⟩:=hrel;by_cases hlt:k<ie
          ·have ng:k<l2.length:=by rw[<-qF.out];exact hlt
           obtain⟨x,cU⟩:∃x,l2[k]?=some x:=⟨_,anx ng⟩;have iF:l2[k]=x:=(anA.1 cU).2;have uA:ag (fun k=>¬k<aJ.heap.size) aJ fX:=(ml.mono fun _ _ f=>f.elim).trans (t_.mono fun k _ e=>by have:=lV.out;omega);have hsl:=oD.out fX uA;rw[qF.out]at hsl;obtain⟨gs,os,bL,ba,B2,hcs,-⟩:=hsl.get ng;subst B2;rw[iF]at hcs;obtain⟨jN,y1,fB,jA,l_,mP,lQ,ny,ma,jO⟩:=hcs;have U4:b9 x.label:=HH.2.1 x (Kh true _ x (by rw[<-cu.out];exact JT _ x (by rw[<-mU.out];exact anF cU)));have cA:(k:Int)<(ie:Int):=(by omega);have alZ:k<6000:=(by omega);obtain⟨xn,dM⟩:=aq (x.args.length);rw[<-dM]at jO;obtain⟨mr,vO⟩:=aq (fX.alloc (.cells (aY x (.slice bL xn ba)).toArray 57));have gT:ag ai fX mr:=(by rw[vO];exact ay.alloc _);have zW:aw mr fX.heap.size (aY x (.slice bL xn ba)) 57:=(by rw[vO];exact aw.new fX _ _);have Ba:Hid (ag (·=aQ) iX mr):=af (t_.trans (gT.mono fun _ _ f=>f.elim));have Bw:mr.cell? ⟨aQ+1,0,none⟩=some (.map (some aQ)):=Ba.cellOf dy (by show ¬aQ+1=aQ;omega);obtain⟨oy,hu,Uo,nO⟩:=(dE.mods gT id).put (t:=128) underlying128 U4 (.bool true) (by unfold maxLen;omega);have wV:Hid (ag (·=aQ) iX oy):=af (Ba.trans nO);have rU:Hid (∀y,mM (l2.take (k+1)) y=(mM (l2.take k) y || ((x.code==4 || x.code==5) && x.label==y))):=af (fun y=>by
            rw[aod,cU];exact ako _ _ _)
           have e0:=zW.ah 0;have dv:=zW.ah 7;have Up:=dE.mods gT id;have YG:=af Up;have YF:=af Uo;clear cU iF uA hsl ng dM gT zW Uo nO Up U4 dE;unfold aY str at *;go_upto_region 23 with (fail)
           rw[<-vO];clear vO jN y1 fB jA l_ mP lQ ny ma jO;have NJ:(x.code==4 || x.code==5)=true->∀w,ag ai oy w->∃i n:Nat,i<=ie/\(Value.int .i64 ((k:Int)+1))=.int .i64 (i:Int)/\n<=i/\Hid (fw w aQ n (.bool false) (fun x=>.bool (mM (l2.take i) x)))/\Hid (ag (·=aQ) iX w):=fun hc w hm=>by
            refine⟨k+1,n+1,by omega,by go_num,by omega,af ?_,af (wV.trans (hm.mono fun _ _ f=>f.elim))⟩;have e:(fun y=>if y=x.label then Value.bool true else Value.bool (mM (l2.take k) y))=(fun y=>Value.bool (mM (l2.take (k+1)) y)):=by
             funext y;rw[rU.out y,hc];by_cases h:y=x.label
             ·rw[if_pos h,h];simp
             ·rw[if_neg h]
              have:(x.label==y)=false:=(by simpa using fun e=>h e.symm);rw[this];simp
            rw[<-e];exact YF.mods hm id
           have Uh:(x.code==4 || x.code==5)=false->∀w,ag ai mr w->∃i n:Nat,i<=ie/\(Value.int .i64 ((k:Int)+1))=.int .i64 (i:Int)/\n<=i/\Hid (fw w aQ n (.bool false) (fun x=>.bool (mM (l2.take i) x)))/\Hid (ag (·=aQ) iX w):=fun hc w hm=>by
            refine⟨k+1,n,by omega,by go_num,by omega,af ?_,af (Ba.trans (hm.mono fun _ _ f=>f.elim))⟩;have e:(fun y=>Value.bool (mM (l2.take (k+1)) y))=(fun y=>Value.bool (mM (l2.take k) y)):=by
             funext y;rw[rU.out y,hc];simp
            rw[e];exact YG.mods hm id
           have QJ:=af NJ;have iN:=af Uh;clear NJ Uh;by_cases h4:x.code=4
           ·have g4:(x.code==4)=true:=by simpa using h4
            have aU:=af (show (x.code==4 || x.code==5)=true by rw[g4];rfl);clear h4;go_wp2_with fail;exact⟨QJ aU _ (by first|exact ag.refl _ _|exact ay.drew),by simp[intOf];omega⟩
           ·have g4:(x.code==4)=false:=by simpa using h4
            by_cases h5:x.code=5
            ·have g5:(x.code==5)=true:=by simpa using h5
             have aU:=af (show (x.code==4 || x.code==5)=true by rw[g5];simp);clear h4 h5;go_wp2_with fail;exact⟨QJ aU _ (by first|exact ag.refl _ _|exact ay.drew),by simp[intOf];omega⟩
            ·have g5:(x.code==5)=false:=by simpa using h5
             have aU:=af (show (x.code==4 || x.code==5)=false by rw[g4,g5];rfl);clear h4 h5;go_wp2_with fail;exact⟨iN aU _ (by first|exact ag.refl _ _|exact ay.drew),by simp[intOf];omega⟩
          ·obtain rfl:k=ie:=by omega
           have cA:¬(k:Int)<(k:Int):=(by omega);have ac3:ag (fun j=>j=aQ) aJ fX:=(ml.mono fun _ _ f=>f.elim).trans t_;have z8:W.heap.size+2<=aJ.heap.size:=(by have:=fC.size;have:=Fc.out;omega);have Dr:aQ=aJ.heap.size:=lV.out;have B3:=fC.outs;have zS:ag ai aJ fX:=(ag.trans' (S:=ai) ml t_ (fun i hi hl=>by omega));have k_:fw fX aQ n (.bool false) (fun x=>.bool (mM l2 x)):=by
            have:=dE.out;rwa [anN (by have:=qF.out;omega)]at this
           have hap:∀j,(Value.slice eV k o5).ownBlock=some j->j≠aQ+1/\j≠aQ/\j<aJ.heap.size/\ws.heap.size<=j:=fun j hj=>by
            obtain⟨cs0,h0,_⟩:=B3;have h1:=(h0.lt j (by rw[<-qF.out];exact hj));omega
           have TJ:fX.cell? ⟨aQ+1,0,none⟩=some (.map (some aQ)):=t_.cellOf dy (by show ¬aQ+1=aQ;omega);have gy:∀s∈l2,b9 s.label:=fun s hs=>HH.2.1 s (Kh true _ s (by rw[<-cu.out];exact JT _ s (by rw[<-mU.out];exact hs)))
           have hdel:=aa1 (B3.mods zS (fun _ f=>f.elim)) gy TJ k_ (fun j hj=>by
            rw[<-qF.out]at hj;have:=hap j hj;exact⟨this.1,this.2.1⟩) (by rw[<-qF.out];exact uz)
           rw[<-qF.out]at hdel;have Qb:=af hdel;have Qd:=af (anw zS (anw hap (anw (fC.b0.mods zS id) (anw (fC.b1.mods zS id) (fC.mods.trans zS)))));clear ac3 z8 Dr B3 zS k_ hap TJ gy hdel;go_wp2_with fail;refine Qb.mono ?_;rintro e ji ⟨da,zJ,rfl,hst,Jn⟩;obtain⟨zS,hap,hb0,hb1,Tv⟩:=Qd.out;have hb0:=hb0.mods Jn (fun e=>by have:=hap _ e;have:=Fc.out;omega);have hb1:=hb1.mods Jn (fun e=>by have:=hap _ e;have:=Fc.out;omega);have xm:ag ai W ji:=Tv.trans' Jn (fun j hj hl=>by have:=hap _ hj;have:=Fc.out;omega);obtain⟨D9,NP⟩:∃D9,D9=(l2.filter (fun s=>!ln l2 s)).length:=⟨_,rfl⟩;have oG:=af NP;rw[<-NP]at hst ⊢;have Y8:=af hst;have aA:=af (anw hb0 (anw hb1 xm));obtain⟨g0,-,g1,-,g2,-,g3,z3⟩:=hb0.gN;obtain⟨q0,f0,q1,f1,q2,f2,q3,f3⟩:=hb1.gN;clear zS hap hb0 hb1 Tv Jn xm NP hst Qb Qd dE;go_wp2_with fail;clear g0 g1 g2 g3 z3 q0 q1 q2 q3 f0 f1 f2 f3 cA;obtain⟨hB,hm⟩:=Mt aA.1 aA.2.1 (.slice da D9 zJ);have hl:l2.filter (fun s=>!ln l2 s)=y2 F.steps:=by
            unfold y2;rw[<-cu.out,<-mU.out]
           have sq:ag ai W (((((ji.setCell ⟨W.heap.size,3,none⟩ (.slice da D9 zJ)).setCell ⟨W.heap.size+1,0,none⟩ (.string ⟨F.name.toArray⟩)).setCell ⟨W.heap.size+1,1,none⟩ (.int .i64 F.params)).setCell ⟨W.heap.size+1,2,none⟩ (.slice ta tn tc)).setCell ⟨W.heap.size+1,3,none⟩ (.slice da D9 zJ)):=aA.2.2.trans' hm (fun k hk hl=>by omega);have hst:=Y8.mods (T:=S) (hm.mono fun k _ hk=>Or.inr ⟨by omega,by omega⟩) (fun k _ hk=>Or.inl hk);refine bodyPost_ret (v:=.agg #[.string ⟨F.name.toArray⟩,F.params,.slice ta tn tc,.slice da D9 zJ]) (results_cell_row (P:=prog) results47 _ _ (W.heap.size+1) 55 _ (0,0) _ rfl hB underlying55 rfl (by kernel_rfl)) rfl ?_;have Gj:=oG.out;rw[hl]at hst Gj;exact ahX sq A5 hst Gj eR

/- A part of what stands behind. -/
import Derived.Test.YtnicpmoanjddbaaGreatDoorFp02
import Derived.Deep.RegionWith
import Derived.Lib.AtoiErrMem
import Derived.Deep.Cut
set_option maxRecDepth 100000
set_option maxHeartbeats 4000000
set_option linter.all false
namespace Go.Proofs.YtnicpmoanjddbaaGreatDoor
namespace aB
open Go.RowKit bB Go.Proofs.Tryz
variable {b deep f level:Nat} {W:World} {S:Nat->Prop} {ts:List Tok} {x:Except (Int×Int) (aL×List Tok)}
theorem ZR (f:Nat) (ih:zg f):Hf (f+1):=by
 intro b S deep ts W x hd h hx;simp only[p5]at hx;have aj:=af hx;have aP:=af h;have az:=af (ag.refl (·=b) W);have q9:Hid ((deep:Int)+1=((deep+1:Nat):Int)):=af (by omega);have Du:0<=(deep:Int)/\(deep:Int)<=13:=by omega
 have HD:=af hd;clear hx h hd;go_in;go_wp2_with fail;refine l9 (s:=[40]) az aP aj ?_ ?_
 ·rintro n a rfl g w aA aD
  go_wp2;exact⟨rfl,g,rfl,aA,aD⟩
 clear aj;rintro r1-aj w1 bE-aD;go_wp2_with fail;rw[q9.out];refine lG aD bE aj (fun y hy=>ih b S 0 (deep+1) r1 w1 y (by omega) (by have:=HD.out;omega) bE hy) ?_ ?_
 ·rintro n a rfl g w aA aD
  go_wp2;exact⟨rfl,g,rfl,aA,aD⟩
 clear aj;rintro v r2-aj bq w2 hv bI-bJ;have bQ:=af hv;clear hv;go_wp2_with fail;refine l9 (s:=[41]) bJ bI aj ?_ ?_
 ·rintro n a rfl g w aA aD
  go_wp2;exact⟨rfl,g,rfl,aA,aD⟩
 clear aj;rintro r3-aj w3 dp hm cv;obtain rfl:=(anz aj).symm;go_wp2;go_ret;exact⟨_,rfl,bQ.by bI hm.out,dp.par,cv⟩
theorem aje (ih:Fa f) (hd:deep<=14) (h:Rd W b S ts) (hx:jU (f+1) 6 deep ts=some x) :
 Calls prog 114 #[.pointer (some ⟨b,0,none⟩),.int .i64 6,deep] W (Got (·=b) W b (pM S) (some x)):=by
 simp only[jU,if_true]at hx;have aj:=af hx;have aP:=af h;have az:=af (ag.refl (·=b) W);clear hx h;go_in;go_wp2_with fail;refine Xm az aP aj (fun y hy=>ih b S deep ts W y hd aP hy) ?_ ?_
 ·rintro n a rfl g w aA aD
  go_wp2;exact⟨rfl,g,rfl,aA,aD⟩
 rintro v r rfl bq w hv bE-aD;have bQ:=af hv;clear hv aj;go_wp2;go_ret;exact⟨_,rfl,bQ,bE.par,aD⟩
theorem aha {r:List Tok} (h:lf level r≠[]):cR (lf level r) r=true:=by
 unfold lf at h ⊢;cases hf:(ky.getD level []).find? (fun m=>cR m r) with
 | none=>rw[hf]at h;exact absurd rfl h
 | some m=>exact aoJ (p:=fun m=>cR m r) hf
def ZL (S:Nat->Prop) (b f level deep:Nat) (a:Int) (W:World) (x:Except (Int×Int) (aL×List Tok)) (bq ov:Value) (wr:World):Prop :=
 ∃ff y r,ff<=f/\s6 ff level deep a y r=some x/\aX wr S y bq/\Rd wr b S r/\ag (·=b) W wr/\ov=str (lf level r)
theorem afI (ih:∀g,g<=f->zg g) (F8:level<6) (hd:deep<=14) (h:Rd W b S ts) (hx:jU (f+1) level deep ts=some x) :
 Calls prog 114 #[.pointer (some ⟨b,0,none⟩),level,deep] W (Got (·=b) W b (pM S) (some x)):=by
 simp only[jU]at hx;rw[if_neg (by omega)]at hx;have q9:Hid ((level:Int)+1=((level+1:Nat):Int)):=af (by omega);have Du:0<=(level:Int)/\(level:Int)<=5:=by omega
 have hq:((level:Int)==6)=false:=by simp;omega
 have aP:=af h;have az:=af (ag.refl (·=b) W);have a_:=af (fun (g:Nat) (hg:g<=f) (r:List Tok) (W1:World) (z:_) (h1:Rd W1 b S r) (hz:jU g (level+1) deep r=some z)=>ih g hg b S (level+1) deep r W1 z (by omega) hd h1 hz);have HO:=af (fun (r:List Tok) (W1:World) (h1:Rd W1 b S r)=>ahb b level r W1 h1.par h1.qi F8);unfold str at HO;obtain⟨⟨g,o,c,hp⟩,hL,_,_,_⟩:=h;obtain⟨t,mL,rfl⟩:=s8 hp.ends;have hl:=hp.cl;have ha:=hp.ca;have iD:=hp.cap;have lJ:=hp.max;have iw:iu (t::mL)=t.at_:=rfl;rw[iw]at hx;obtain⟨ta,wb⟩:=aq (t.at_);rw[<-wb]at ha hx;simp only[anK]at iD;have aj:=af hx;clear hp hL iw wb hx;go_in;go_wp2_with fail;rw[q9.out];refine lG az aP aj (fun y hy=>a_.out f (anD _) _ W y aP hy) ?_ ?_
 ·rintro n a rfl g w aA aD
  go_wp2;exact⟨rfl,g,rfl,aA,aD⟩
 clear aj;rintro jN r0-aj bq w1 hv pS-tX;have bQ:=af hv;clear hv;go_wp2_with fail;refine (HO r0 _ pS).mono ?_;rintro e w2 ⟨rfl,rfl⟩;go_wp2_with fail
 go_loopw [8,9] (fun bq ov wr=>ZL S b f level deep ta W x bq ov wr) (fun _ _ wr=>lenOf wr b)
 case atStart=>exact⟨f,jN,r0,anD _,aj,bQ,pS,tX,rfl⟩
 case round =>
  clear aj bQ pS tX;obtain⟨ff,y,r,FX,hb,iR,vM,kj,rfl⟩:=hrel;obtain⟨acL,rfl⟩:=iR.ptr;have iO:=af iR;have bE:=af vM;have aD:=af kj;clear iR vM kj;cases ff with
  | zero=>simp[s6]at hb
  | succ f1 =>
    simp only[s6]at hb;by_cases hop:lf level r=[]
    ·rw[if_pos hop]at hb
     obtain rfl:x=.ok (y,r):=(anz hb).symm;rw[hop];unfold str;clear hb;go_wp2;go_ret;exact⟨_,rfl,iO,bE.par,aD⟩
    ·rw[if_neg hop]at hb
     have HS:=af (aha hop);have hgd:(lf level r).isEmpty=false:=(by simpa using hop);have alO:(!(lf level r).isEmpty)=true:=(by rw[hgd];rfl);have aA:=af hb;clear hb hop;unfold str;go_wp2_with fail;refine (VS b (lf level r) r wr bE.par HS).mono ?_;rintro e w3 ⟨rfl,pA,aR⟩;have dp:=af (bE.next pA aR);have cv:=af (aD.trans aR);have jg:=af (iO.by bE aR);clear pA aR;go_wp2_with fail;rw[q9.out];refine lG cv dp aA (fun z hz=>a_.out f1 (by omega) _ w3 z dp hz) ?_ ?_
     ·rintro n a rfl g w aA aD
      go_wp2;exact⟨rfl,g,rfl,aA,aD⟩
     clear aA;rintro fB r2 bP aA bq w4 hv4 fK bX dV;obtain⟨g4,rfl⟩:=aX.ptr hv4;have jm:=af hv4;clear hv4;go_wp2_with fail;refine (HO r2 _ (fK.quiet ((ag.refl ai _).alloc _))).mono ?_;rintro e aJ ⟨rfl,pB⟩;go_wp2_with fail;subst pB;have ni:∀ (ob:Obj),ag ai w4 (w4.alloc ob):=fun ob=>ay.alloc _
     have dB:=fun (ob:Obj)=>fK.quiet (ni ob)
     refine⟨⟨f1,_,r2,by omega,aA,?_,dB _,dV.alloc _,rfl⟩,?_⟩
     ·simp only[aX]
      exact⟨_,_,Node.new fK.old _,(jg.by dp bX.out).mods (ay.alloc _),jm.mods (ay.alloc _)⟩
     ·rw[(dB _).par.len,bE.par.len]
      have h1:=(lens f1).expr bP;obtain⟨t1,r1,rfl,_⟩:=Pw HS bE.par.ends;simp only[List.tail_cons,anK]at h1 ⊢;omega
theorem XA:prog.underlying 236=some (.array 2 9):=by kernel_rfl
theorem akd (W:World):Sem.run prog (Instr.index 236 (.agg #[.string ⟨#[45]⟩,.string ⟨#[33]⟩]) (.int .i64 0)) W=.ok (.string ⟨#[45]⟩) W:=by
 simp[Instr.index,run_underlying XA,asIntOf,go_sem]
theorem ake (W:World):Sem.run prog (Instr.index 236 (.agg #[.string ⟨#[45]⟩,.string ⟨#[33]⟩]) (.int .i64 1)) W=.ok (.string ⟨#[33]⟩) W:=by
 simp[Instr.index,run_underlying XA,asIntOf,go_sem]
def Items (S:Nat->Prop) (b f deep:Nat) (a:Int) (W:World) (x:Except (Int×Int) (aL×List Tok)) (bq:Value) (wr:World):Prop :=
 ∃ff y r,ff<=f/\tC ff deep a y r=some x/\aX wr S y bq/\Rd wr b S r/\ag (·=b) W wr
theorem akn (f:Nat) (hU:Fa f) (hF:KV f) (bT:∀g,g<=f->zg g):Fa (f+1):=by
 intro b S deep ts W x hd h hx;simp only[rG]at hx;have aP:=af h;have az:=af (ag.refl (·=b) W);have HD:=af hd;have q9:Hid ((deep:Int)+1=((deep+1:Nat):Int)):=af (by omega);have Du:0<=(deep:Int)/\(deep:Int)<=14:=by omega
 obtain⟨⟨g,o,c,hp⟩,hL,_,_,_⟩:=h;obtain⟨t,mL,rfl⟩:=s8 hp.ends;have hl:=hp.cl;have ha:=hp.ca;have iD:=hp.cap;have lJ:=hp.max;have iw:iu (t::mL)=t.at_:=rfl;rw[iw]at hx;obtain⟨ta,wb⟩:=aq (t.at_);rw[<-wb]at ha hx;simp only[anK]at iD;obtain⟨ts,kO⟩:=aq (t::mL);rw[<-kO]at hx aP;clear hp hL iw wb kO hd;by_cases hdd:12<deep
 ·rw[if_pos hdd]at hx
  have aj:=af hx;have hg:12<(deep:Int):=by omega
  clear hx hdd;go_in;go_wp2_with fail;refine Mm az aP aj ?_;rintro n a rfl g w aA aD;go_wp2;exact⟨rfl,g,rfl,aA,aD⟩
 rw[if_neg hdd]at hx;have Ht:=af hdd;have hg:¬12<(deep:Int):=by omega
 have aj:=af hx;clear hx hdd;go_in;go_wp2_with fail
 go_loopw [21] (fun v wr=>∃i:Nat,i<=2/\v=.int .i64 i/\Hid (W=wr)/\Hid (1<=i->cR [45] ts=false)/\Hid (2<=i->cR [33] ts=false)) (fun v _=>(2-intOf v).toNat)
 case atStart=>exact⟨0,by omega,rfl,af rfl,af (by omega),af (by omega)⟩
 case round =>
  obtain⟨i,hi,rfl,hw,zO,Fy⟩:=hrel;obtain rfl:=hw.out;obtain rfl|rfl|rfl:i=0\/i=1\/i=2:=by omega
  ·have sj:=akd W
   go_wp2_with fail;refine o8 (s:=[45]) az aP aj ?_ ?_
   ·clear aj
    rintro-aj w1 bE-aD;go_wp2_with fail;rw[q9.out];refine lG aD bE aj (fun y hy=>hU b S (deep+1) ts.tail w1 y (by have:=Ht.out;omega) bE hy) ?_ ?_
    ·rintro n a rfl g w aA aD
     go_wp2;exact⟨rfl,g,rfl,aA,aD⟩
    clear aj;rintro v r2-aj bq w2 hv bI-bJ;obtain⟨g4,rfl⟩:=aX.ptr hv;have bQ:=af hv;clear hv;obtain rfl:=(anz aj).symm;go_wp2;go_ret;refine⟨_,rfl,?_,bI.par.mods (ay.alloc _),bJ.alloc _⟩;simp only[pM,aX];exact⟨_,Node.new bI.old _,bQ.mods (ay.alloc _)⟩
   ·clear aj
    rintro hs aj;go_wp2_with fail;exact⟨⟨1,by omega,rfl,af (by first|trivial|rfl),af (fun _=>hs.out),af (by omega)⟩,by simp[intOf]⟩
  ·have bh:=aj.out
   rw[zO.out (by omega),if_neg (by simp)]at bh;have bh:=af bh;clear aj;have sj:=ake W;go_wp2_with fail;refine o8 (s:=[33]) az aP bh ?_ ?_
   ·clear bh
    rintro-aj w1 bE-aD;go_wp2_with fail;rw[q9.out];refine lG aD bE aj (fun y hy=>hU b S (deep+1) ts.tail w1 y (by have:=Ht.out;omega) bE hy) ?_ ?_
    ·rintro n a rfl g w aA aD
     go_wp2;exact⟨rfl,g,rfl,aA,aD⟩
    clear aj;rintro v r2-aj bq w2 hv bI-bJ;obtain⟨g4,rfl⟩:=aX.ptr hv;have bQ:=af hv;clear hv;obtain rfl:=(anz aj).symm;go_wp2;go_ret;refine⟨_,rfl,?_,bI.par.mods (ay.alloc _),bJ.alloc _⟩;simp only[pM,aX];exact⟨_,Node.new bI.old _,bQ.mods (ay.alloc _)⟩
   ·clear bh
    rintro hs aj;go_wp2_with fail;exact⟨⟨2,by omega,rfl,af (by first|trivial|rfl),af (fun _=>zO.out (by omega)),af (fun _=>hs.out)⟩,by simp[intOf]⟩
  ·have bh:=aj.out
   rw[zO.out (by omega),if_neg (by simp),Fy.out (by omega),if_neg (by simp)]at bh;have bh:=af bh;clear aj zO Fy hw;go_wp2_with fail;refine lG az aP bh (fun y hy=>hF b S deep ts W y (by have:=Ht.out;omega) aP hy) ?_ ?_
   ·rintro n a rfl g w aA aD
    go_wp2;exact⟨rfl,g,rfl,aA,aD⟩
   clear bh;rintro jN r0-aj bq w1 hv pS-tX;have bQ:=af hv;clear hv;go_wp2_with fail
   go_loopw [8] (fun bq wr=>Items S b f deep ta W x bq wr) (fun _ wr=>lenOf wr b)
   case atStart=>exact⟨f,jN,r0,anD _,aj,bQ,pS,tX⟩
   case round =>
        clear aj bQ pS tX;obtain⟨ff,y,r,FX,hb,iR,vM,kj⟩:=hrel;obtain⟨acL,rfl⟩:=iR.ptr;have iO:=af iR;have bE:=af vM;have aD:=af kj;clear iR vM kj;cases ff with
        | zero=>simp[tC]at hb
        | succ f1 =>
          simp only[tC]at hb;have aA:=af hb;clear hb;go_wp2_with fail;refine o8 (s:=[91]) aD bE aA ?_ ?_
          ·clear aA
           rintro hs aj w3 dp aR cv;go_wp2_with fail;rw[q9.out];refine lG cv dp aj (fun z hz=>bT f1 (by omega) b S 0 (deep+1) r.tail w3 z (by omega) (by have:=HD.out;have:=Ht.out;omega) dp hz) ?_ ?_
           ·rintro n a rfl g w aA aD
            go_wp2;exact⟨rfl,g,rfl,aA,aD⟩
           clear aj;rintro fB r2 bP aj bq w4 hv4 fK bX dV;obtain⟨g4,rfl⟩:=aX.ptr hv4;have jm:=af hv4;clear hv4;go_wp2_with fail;refine l9 (s:=[93]) (W:=w4.alloc _) (af (dV.alloc _)) (af (fK.quiet (ay.alloc _))) aj ?_ ?_
           ·rintro n a rfl g w aA aD
            go_wp2;exact⟨rfl,g,rfl,aA,aD⟩
           clear aj;rintro r3 u_ aj aJ dB bM dx;go_wp2_with fail;refine⟨⟨f1,_,r3,by omega,aj,?_,dB,dx⟩,?_⟩
           ·simp only[aX]
            refine aX.by (ts:=r2) (e:=.item ta y fB) (W:=w4.alloc _) ?_ (fK.quiet (ay.alloc _)) bM.out;simp only[aX];exact⟨_,_,Node.new fK.old _,((iO.by bE aR.out).by dp bX.out).mods (ay.alloc _),jm.mods (ay.alloc _)⟩
           ·rw[dB.par.len,bE.par.len]
            have h1:=(lens f1).expr bP;obtain⟨t1,r1,rfl,_⟩:=Pw hs.out bE.par.ends;obtain⟨_,rfl⟩:=u_.out;simp only[List.tail_cons,anK,aoi]at h1 ⊢;omega
          ·clear aA
           rintro-aj;obtain rfl:=(anz aj).symm;go_wp2;go_ret;exact⟨_,rfl,iO,bE.par,aD⟩
theorem iV.short (h:iV W b ts):ts.length<=10000000:=by
 obtain⟨g,o,c,h⟩:=h;exact h.len
def ZE (S:Nat->Prop) (b f deep:Nat) (W:World) (x:Except (Int×Int) (List aL×List Tok)) (lv fv:Value) (wr:World):Prop :=
 ∃ff first l r vs,ff<=f/\fv=.bool first/\rz ff deep first l r=some x/\ig wr W.heap.size S 141 1 lv l.length vs/\eB wr (Own S lv) l vs/\Rd wr b S r/\ag (·=b) W wr/\l.length+r.length+first.toNat<=10000001
theorem ZU (f:Nat) (bT:∀g,g<=f->zg g):Hh (f+1):=by
 intro b S deep ts W x hd h hx;simp only[s5]at hx;have aj:=af hx;have aP:=af h;have az:=af (ag.refl (·=b) W);have HD:=af hd;have aT:=af h.par.short;have HG:=af (fun (w:World) (hm:ag (·=b) W w)=>ig.nil 141 1 h hm);have q9:Hid ((deep:Int)+1=((deep+1:Nat):Int)):=af (by omega);have Du:0<=(deep:Int)/\(deep:Int)<=13:=by omega
 obtain⟨i0,hi,hz0,hz1,hz2⟩:=info_parts ahA;have aI:=af (⟨hi,hz0,hz1,hz2⟩:_/\_/\_/\_);clear hx h hd hi hz0 hz1 hz2;go_in;go_wp2_with fail;refine l9 (s:=[40]) az aP aj ?_ ?_
 ·rintro n a rfl g w aA aD
  go_wp2;exact⟨rfl,g,rfl,aA,aD⟩
 clear aj;rintro r1 bA aj w1 bE-aD;go_wp2_with fail
 go_loopw [5,6] (fun lv fv wr=>ZE S b f deep W x lv fv wr) (fun _ _ wr=>lenOf wr b)
 case atStart=>exact⟨f,true,[],r1,[],anD _,rfl,aj,HG _ aD,by simp[eB],bE,aD,by rw[bA.2];have:=aT.out;simp;omega⟩
 case round =>
  clear aj bE aD aP az bA aT HG;obtain⟨ff,first,l,r,vs,FX,rfl,hb,hg,hv,vM,kj,hn⟩:=hrel;have lX:=af hg;have iO:=af hv;have bE:=af vM;have aD:=af kj;have mn:=af hn;clear hg hv vM kj hn;cases ff with
  | zero=>simp[rz]at hb
  | succ f1 =>
    simp only[rz]at hb;have aA:=af hb;clear hb;go_wp2_with fail;refine o8 (s:=[41]) aD bE aA ?_ ?_
    ·clear aA
     rintro-aj w3 dp aR cv;obtain rfl:=(anz aj).symm;obtain⟨aG,on,aF,rfl⟩:=lX.form;go_wp2;go_ret;exact⟨_,rfl,⟨vs,(lX.next bE.has aR.out).rowAt,eB.b8 (aR.out.mono fun k _ hk=>Or.inl (hk ▸ bE.has)) Wc _ _ iO⟩,dp.par,cv⟩
    ·clear aA
     rintro-aj;obtain⟨aG,on,aF,rfl⟩:=lX.form;cases first
     ·have ek:Hid (andThen (must [44] r) (fun _ r=>andThen (jU f1 0 (deep+1) r) fun x r2=>rz f1 deep false (l++[x]) r2)=some x):=aj
      clear aj;go_wp2_with fail;refine l9 (s:=[44]) aD bE ek ?_ ?_
      ·rintro n a rfl g w aA aD
       go_wp2;exact⟨rfl,g,rfl,aA,aD⟩
      clear ek;rintro ll LB bh fW wX gT oF;have Qp:=af (lX.next bE.has gT.out);have Zd:=af (eB.b8 (gT.out.mono fun k _ hk=>Or.inl (hk ▸ bE.has)) (fun _ _ h=>h) _ _ iO:eB fW (Own S (.slice aG on aF)) l vs);have QD:=af (show ll.length<r.length by rw[LB.2];exact rA LB.1);clear lX iO aD gT LB;go_wp2_with fail;rw[q9.out];refine lG oF wX bh (fun z hz=>bT f1 (by omega) b (Own S (.slice aG on aF)) 0 (deep+1) ll fW z (by omega) (by have:=HD.out;omega) (Qp.rd wX) hz) ?_ ?_
      ·rintro n a rfl g w aA aD
       go_wp2;exact⟨rfl,g,rfl,aA,aD⟩
      clear bh;rintro fB r2 bP aj bq w4 hv4 fK bX dV;obtain⟨g4,rfl⟩:=aX.ptr hv4;have jm:=af (show aX w4 _ fB _ from hv4);have gC:=af ((Qp.next wX.has bX.out).alloc (.cells #[.pointer (some ⟨g4,0,none⟩)] 141));clear hv4;go_wp2_with (at_builtin;refine wpList_append_own_at _ rfl _ _ 221 rfl W.heap.size 141 i0 (.pointer none) 1 8 underlying221 aI.1 aI.2.1 aI.2.2.1 aI.2.2.2 rfl (by decide) _ l.length vs rfl gC.row ⟨w4.heap.size,0,none⟩ 1 1 [.pointer (some ⟨g4,0,none⟩)] rfl rfl (Cu _ _ _) (Wt _) (by have:=mn.out;unfold maxLen;omega) (by have:=mn.out;omega) gC.base ?_;intro v' aJ hown cr hnil hloc;have bZ:Hid (kr (w4.alloc (.cells #[.pointer (some ⟨g4,0,none⟩)] 141)) aJ (.slice aG on aF) v'):=af (py cr hloc);have b6:=af (gC.zN bZ hown);clear hown cr hnil hloc;refine Hid.out ?_);refine af ?_;have mC:∀ (S:Nat->Prop) (o:Obj),ag S w4 (w4.alloc o):=fun S o=>ay.alloc _
      go_wp2_with fail;refine⟨⟨f1,false,l++[fB],r2,vs++[.pointer (some ⟨g4,0,none⟩)],by omega,rfl,aj,by simpa using b6.out,?_,gC.Cv bZ (fK.quiet (mC _ _)),gC.OZ bZ (dV.alloc _),?_⟩,?_⟩
      ·have hA:ag (Own S (.slice aG on aF)) fW (w4.alloc (.cells #[.pointer (some ⟨g4,0,none⟩)] 141)):=(bX.out.mono fun k _ hk=>Or.inl (hk ▸ wX.has)).trans (mC _ _)
       exact eB.append (eB.b8 bZ.own bZ.to _ _ (eB.b8 hA (fun _ _ h=>h) _ _ Zd)) (aX.b8 bZ.own bZ.to _ _ (jm.mods (mC _ _)))
      ·have h1:=(lens f1).expr bP
       have h2:=mn.out;simp only[anU,anK,anY,Bool.toNat_true,Bool.toNat_false]at h2 ⊢;have:=QD.out;omega
      ·rw[(gC.Cv bZ.out (fK.quiet (mC _ _))).par.len,bE.par.len]
       have h1:=(lens f1).expr bP;have:=QD.out;omega
     ·have bh:Hid (andThen (jU f1 0 (deep+1) r) (fun x r2=>rz f1 deep false (l++[x]) r2)=some x):=aj
      clear aj;go_wp2_with fail;rw[q9.out];refine lG aD bE bh (fun z hz=>bT f1 (by omega) b (Own S (.slice aG on aF)) 0 (deep+1) r wr z (by omega) (by have:=HD.out;omega) (lX.rd bE) hz) ?_ ?_
      ·rintro n a rfl g w aA aD
       go_wp2;exact⟨rfl,g,rfl,aA,aD⟩
      clear bh;rintro fB r2 bP aj bq w4 hv4 fK bX dV;obtain⟨g4,rfl⟩:=aX.ptr hv4;have jm:=af (show aX w4 _ fB _ from hv4);have gC:=af ((lX.next bE.has bX.out).alloc (.cells #[.pointer (some ⟨g4,0,none⟩)] 141));clear hv4;go_wp2_with (at_builtin;refine wpList_append_own_at _ rfl _ _ 221 rfl W.heap.size 141 i0 (.pointer none) 1 8 underlying221 aI.1 aI.2.1 aI.2.2.1 aI.2.2.2 rfl (by decide) _ l.length vs rfl gC.row ⟨w4.heap.size,0,none⟩ 1 1 [.pointer (some ⟨g4,0,none⟩)] rfl rfl (Cu _ _ _) (Wt _) (by have:=mn.out;unfold maxLen;omega) (by have:=mn.out;omega) gC.base ?_;intro v' aJ hown cr hnil hloc;have bZ:Hid (kr (w4.alloc (.cells #[.pointer (some ⟨g4,0,none⟩)] 141)) aJ (.slice aG on aF) v'):=af (py cr hloc);have b6:=af (gC.zN bZ hown);clear hown cr hnil hloc;refine Hid.out ?_);refine af ?_;have mC:∀ (S:Nat->Prop) (o:Obj),ag S w4 (w4.alloc o):=fun S o=>ay.alloc _
      go_wp2_with fail;refine⟨⟨f1,false,l++[fB],r2,vs++[.pointer (some ⟨g4,0,none⟩)],by omega,rfl,aj,by simpa using b6.out,?_,gC.Cv bZ (fK.quiet (mC _ _)),gC.OZ bZ (dV.alloc _),?_⟩,?_⟩
      ·have hA:ag (Own S (.slice aG on aF)) wr (w4.alloc (.cells #[.pointer (some ⟨g4,0,none⟩)] 141)):=(bX.out.mono fun k _ hk=>Or.inl (hk ▸ bE.has)).trans (mC _ _)
       exact eB.append (eB.b8 bZ.own bZ.to _ _ (eB.b8 hA (fun _ _ h=>h) _ _ iO)) (aX.b8 bZ.own bZ.to _ _ (jm.mods (mC _ _)))
      ·have h1:=(lens f1).expr bP
       have h2:=mn.out;simp only[anU,anK,anY,Bool.toNat_true,Bool.toNat_false]at h2 ⊢;omega
      ·rw[(gC.Cv bZ.out (fK.quiet (mC _ _))).par.len,bE.par.len]
       have h1:=(lens f1).expr bP;omega
theorem Km {G:Prop} (P:Program) (w:World) (h:G) (Rw:wpAny P .any #[] (fun _ _ _=>True) 0 #[] { tmps:=#[],defers:=[] } w):G:=h
theorem abX (f:Nat) (hA:Hf f) (hG:Hh f) (hd:deep<=13) (h:Rd W b S ts) (hx:qT (f+1) deep ts=some x) (hn:headKind ts≠2) :
 Calls prog 133 #[.pointer (some ⟨b,0,none⟩),deep] W (Got (·=b) W b (pM S) (some x)):=by
 simp only[qT]at hx;rw[if_neg hn]at hx;have Du:0<=(deep:Int)/\(deep:Int)<=13:=by omega
 have HD:=af hd;have aP:=af h;obtain⟨⟨g,o,c,hp⟩,hL,_,hb,_⟩:=h;obtain⟨t,mL,kO⟩:=s8 hp.ends;rw[kO]at hp;obtain⟨tk,tt,ta⟩:=t;have e1:headKind ts=tk:=by rw[kO];rfl
 have e3:iu ts=ta:=by rw[kO];rfl
 rw[e1]at hn;rw[e3]at hx;have hl:=hp.cl;have hk:=hp.Da;have ht:=hp.Ii;have ha:=hp.ca;simp only at hk ht ha;have iD:=hp.cap;have lJ:=hp.max;simp only[anK]at iD;have aj:=af hx;have je:=af (aw.new W #[tk,.string ⟨tt.toArray⟩,ta] 79);have az:=af ((ag.refl (·=b) W).alloc (.cells #[tk,.string ⟨tt.toArray⟩,ta] 79));have bE:=af (aP.quiet ((ag.refl ai W).alloc (.cells #[tk,.string ⟨tt.toArray⟩,ta] 79)));have hne:Hid (¬W.heap.size=b):=af (by have:=aP.old b hb;omega);clear hp hL hb kO e1 e3 hx hd aP;go_in;go_wp2_with fail;refine Px (s:=[40]) bE aj ?_ ?_
 ·clear aj
  rintro-aj;go_wp2_with fail;refine Xm az bE aj (fun y hy=>hA b S deep ts _ y HD bE hy) ?_ ?_
  ·rintro n a rfl g w aA aD
   go_wp2;exact⟨rfl,g,rfl,aA,aD⟩
  rintro v r rfl bq w hv bI-bJ;have bQ:=af hv;clear hv aj;go_wp2;go_ret;exact⟨_,rfl,bQ,bI.par,bJ⟩
 clear aj;rintro-aj;go_wp2_with fail;refine o8 (s:=OI) az bE aj ?_ ?_
 ·clear aj
  rintro-aj w2 bI aN bJ;have hc2:=(je.mods aN.out hne.out).ah 2;have nH:=af (bI.quiet (ag.refl ai w2).drew);have rQ:=af bJ.drew;go_wp2_with fail;rcases C6 aj with⟨n,a,hy,rfl⟩|⟨v,r,hy,bh⟩
  ·have aU:=af (hA b S deep ts.tail _ _ HD nH hy)
   clear hy aj
   go_region_with (first|(go_at_call 113;refine aU.mono ?_;rintro e w3 ⟨g3,rfl,hb3,aR⟩;refine Km prog w3 ⟨rfl,g3,rfl,hb3,rQ.trans aR⟩ ?_))
   all_goals trivial
  ·have aU:=af (hA b S deep ts.tail _ _ HD nH hy)
   clear hy aj;obtain rfl:=(anz bh).symm
   go_region_with (first|(go_at_call 113;refine aU.mono ?_;rintro e w3 ⟨jA,rfl,hv3,pA,aR⟩;obtain⟨g4,rfl⟩:=aX.ptr hv3;have hc3:=aR.cellOf hc2 hne.out))
   all_goals
        have dp:=af (nH.next pA aR);have jg:=af (show aX w3 S v _ from hv3);have cv:=af (rQ.trans aR);clear pA aR hv3;go_wp2;go_ret;refine⟨_,rfl,?_,dp.par.mods (ay.alloc _),cv.alloc _⟩;simp only[pM,aX];exact⟨_,Node.new dp.old _,jg.mods (ay.alloc _)⟩
 clear aj;rintro-aj;go_wp2_with fail;refine o8 (s:=OH) az bE aj ?_ ?_
 ·clear aj
  rintro-aj w2 bI aN bJ;have hc2:=(je.mods aN.out hne.out).ah 2;have nH:=af (bI.quiet (ag.refl ai w2).drew);have rQ:=af bJ.drew;go_wp2_with fail;rcases C6 aj with⟨n,a,hy,rfl⟩|⟨v,r,hy,bh⟩
  ·have aU:=af (hA b S deep ts.tail _ _ HD nH hy)
   clear hy aj
   go_region_with (first|(go_at_call 113;refine aU.mono ?_;rintro e w3 ⟨g3,rfl,hb3,aR⟩;refine Km prog w3 ⟨rfl,g3,rfl,hb3,rQ.trans aR⟩ ?_))
   all_goals trivial
  ·have aU:=af (hA b S deep ts.tail _ _ HD nH hy)
   clear hy aj;obtain rfl:=(anz bh).symm
   go_region_with (first|(go_at_call 113;refine aU.mono ?_;rintro e w3 ⟨jA,rfl,hv3,pA,aR⟩;obtain⟨g4,rfl⟩:=aX.ptr hv3;have hc3:=aR.cellOf hc2 hne.out))
   all_goals
        have dp:=af (nH.next pA aR);have jg:=af (show aX w3 S v _ from hv3);have cv:=af (rQ.trans aR);clear pA aR hv3;go_wp2;go_ret;refine⟨_,rfl,?_,dp.par.mods (ay.alloc _),cv.alloc _⟩;simp only[pM,aX];exact⟨_,Node.new dp.old _,jg.mods (ay.alloc _)⟩
 clear aj;rintro-aj;go_wp2_with fail;refine o8 (s:=OG) az bE aj ?_ ?_
 ·clear aj
  rintro-aj w2 bI aN bJ;have kW:=af (je.mods aN.out hne.out);clear aN;go_wp2_with fail;refine l9 (s:=[40]) bJ bI aj ?_ ?_
  ·rintro n a rfl g w aA aD
   go_wp2;exact⟨rfl,g,rfl,aA,aD⟩
  clear aj;rintro r3-aj w3 dp aR cv;have qz:=af (kW.mods aR.out hne.out);clear aR;go_wp2_with fail;refine l9 (s:=[41]) cv dp aj ?_ ?_
  ·rintro n a rfl g w aA aD
   go_wp2;exact⟨rfl,g,rfl,aA,aD⟩
  clear aj;rintro eY-aj w4 fK bX dV;have alL:=(qz.mods bX.out hne.out).ah 2;clear bX;obtain rfl:=(anz aj).symm;go_wp2;go_ret;refine⟨_,rfl,?_,fK.par.mods (ay.alloc _),dV.alloc _⟩;simp only[pM,aX];exact Node.new fK.old _
 clear aj;rintro-aj;go_wp2_with fail;refine D3 az bE aj ?_ ?_
 ·rintro n a rfl g w aA aD
  go_wp2;exact⟨rfl,g,rfl,aA,aD⟩
 clear aj;rintro s r2-aj w2 bI aN bJ;have hc2:=(je.mods aN.out hne.out).ah 2;clear aN;go_wp2_with fail;refine Px (s:=[40]) bI aj ?_ ?_
 ·clear aj
  rintro-aj;have nH:=af (bI.quiet (ag.refl ai w2).drew);have rQ:=af bJ.drew;go_wp2_with fail;rcases C6 aj with⟨n,a,hy,rfl⟩|⟨v,r,hy,bh⟩
  ·have aU:=af (hG b S deep r2 _ _ HD nH hy)
   clear hy aj
   go_region_with (first|(go_at_call 128;refine aU.mono ?_;rintro e w3 ⟨g3,rfl,hb3,aR⟩;refine Km prog w3 ⟨rfl,g3,rfl,hb3,rQ.trans aR⟩ ?_))
   all_goals trivial
  ·have aU:=af (hG b S deep r2 _ _ HD nH hy)
   clear hy aj;obtain rfl:=(anz bh).symm
   go_region_with (first|(go_at_call 128;refine aU.mono ?_;rintro e w3 ⟨jA,rfl,⟨vs,hr3,hv3⟩,pA,aR⟩;obtain⟨aG,on,aF,rfl⟩:=fL.form hr3;have hc3:=aR.cellOf hc2 hne.out))
   all_goals
        have dp:=af (nH.next pA aR);have mo:=af hr3;have jg:=af hv3;have cv:=af (rQ.trans aR);clear pA aR hv3 hr3;go_wp2;go_ret;refine⟨_,rfl,?_,dp.par.mods (ay.alloc _),cv.alloc _⟩;simp only[pM,aX];exact⟨_,_,Node.new dp.old _,mo.mods (ay.alloc _) (fun _ _ h=>h),eB.b8 (ay.alloc _) (fun _ _ h=>h) _ _ jg⟩
 ·clear aj
  rintro-aj;obtain rfl:=(anz aj).symm;go_wp2;go_ret;refine⟨_,rfl,?_,bI.par.mods (ay.alloc _),bJ.alloc _⟩;simp only[pM,aX];exact Node.new bI.old _
theorem abV (h:Rd W b S ts) (hx:qT (f+1) deep ts=some x) (hn:headKind ts=2) :
 Calls prog 133 #[.pointer (some ⟨b,0,none⟩),deep] W (Got (·=b) W b (pM S) (some x)):=by
 simp only[qT]at hx;rw[if_pos hn]at hx;have aP:=af h;obtain⟨⟨g,o,c,hp⟩,hL,TZ,hb,_⟩:=h;obtain⟨t,mL,kO⟩:=s8 hp.ends;rw[kO]at hp;obtain⟨tk,tt,ta⟩:=t;have e1:headKind ts=tk:=by rw[kO];rfl
 have e2:headText ts=tt:=by rw[kO];rfl
 have e3:iu ts=ta:=by rw[kO];rfl
 have e4:ts.tail=mL:=by rw[kO];rfl
 rw[e1]at hn;subst hn;rw[e2,e3,e4]at hx;have hl:=hp.cl;have hk:=hp.Da;have ht:=hp.Ii;have ha:=hp.ca;simp only at hk ht ha;have iD:=hp.cap;have lJ:=hp.max;simp only[anK]at iD;have Gg:=hp.cL _ aox rfl;have hsm:=hp.small _ aox;simp only at Gg hsm;have je:=af (aw.new W #[.int .i64 2,.string ⟨tt.toArray⟩,ta] 79);have mC:=af ((ag.refl ai W).alloc (.cells #[.int .i64 2,.string ⟨tt.toArray⟩,ta] 79));have bP:=af hp;have NJ:=hp.more (by simp);have hi:=aeY Gg.1 Gg.2;by_cases h63:yU tt<9223372036854775808
 ·rw[if_pos h63]at hx hi
  obtain rfl:=(anz hx).symm;have hN:0<=(yU tt:Int)/\(yU tt:Int)<9223372036854775808:=by omega
  obtain⟨n,hn⟩:∃n:Int,n=(yU tt:Int):=⟨_,rfl⟩;rw[<-hn]at hi hN ⊢;have aU:=af (fun (w:World)=>Tryz.strconv_ParseInt_10_at64_ok ⟨tt.toArray⟩ (by simp only[ByteArray.size,aoz];omega) n (by simpa using hi) w);clear hp hL TZ hb kO e1 e2 e3 e4 hx hi h63 Gg hsm hn;go_in;go_wp2_with (go_at_call 134;refine (aU _).mono ?_;rintro e w1 ⟨rfl,hw⟩;have IJ:ag ai (W.alloc (.cells #[.int .i64 2,.string ⟨tt.toArray⟩,ta] 79)) w1:=(by rcases hw with rfl|⟨t,rfl⟩;exact ag.refl _ _;exact ag.Kc (Lib.bytesWorld_below _ _ _));have bR:=af (mC.out.trans IJ);clear hw;have B:=je.mods IJ id;have c1:=B.ah 2;have hl2:=bR.cellOf hl id;have hf2:=(bP.blk.mods bR id).free 0);go_ret;have dy:=(bP.mods bR id id).tail (by simp);have hS:ag (·=b) w1 (w1.setCell ⟨b,0,none⟩ (.slice (some ⟨g,o+3,none⟩) mL.length (c-1))):=ag.setCell (S:=(·=b)) (p:=⟨b,0,none⟩) ay (fun _=>rfl) _;have bI:=(aP.quiet bR).next (⟨_,_,_,dy⟩:iV _ b mL) hS
  refine⟨_,rfl,?_,bI.par.mods (ay.alloc _),((bR.mono fun _ _ f=>f.elim).trans hS).alloc _⟩;simp only[pM,aX];have hsz:(w1.setCell ⟨b,0,none⟩ (.slice (some ⟨g,o+3,none⟩) mL.length (c-1))).heap.size=w1.heap.size:=by simp[World.setCell]
  have Uv:=Node.new bI.old #[.int .i64 1,ta,n,.string ⟨#[]⟩,.string ⟨#[]⟩,.pointer none,.pointer none,.slice none 0 0];rw[hsz]at Uv;exact Uv
 ·rw[if_neg h63]at hx hi
  have aj:=af hx;obtain⟨gS,te,pe,si⟩:=TZ;have aU:=af (fun (w:World) (hv:w.cell? ⟨6,0,none⟩=some (.iface te pe))=>Tryz.strconv_ParseInt_10_at64_range ⟨tt.toArray⟩ (by simp only[ByteArray.size,aoz];omega) (by simpa using hi) _ w hv (Or.inr ⟨te,pe,rfl⟩));have HG:=af si;clear hp hL hb kO e1 e2 e3 e4 hx hi h63 Gg hsm gS si;go_in;go_wp2_with (go_at_call 134;refine (aU _ (mC.out.cellOf HG id)).mono ?_;rintro e w1 ⟨N,rfl,MT,MU,TC⟩;have IJ:ag ai (W.alloc (.cells #[.int .i64 2,.string ⟨tt.toArray⟩,ta] 79)) w1:=ag.Kc TC;have bR:=af (mC.out.trans IJ);clear MT MU TC);go_at_call 30;refine Mm (af (bR.mono (T:=(·=b)) fun _ _ f=>f.elim)) (af (aP.quiet bR)) aj ?_;rintro n a rfl g w aA aD;go_wp2;exact⟨rfl,g,rfl,aA,aD⟩
structure KS (f:Nat):Prop where
 expr:zg f
 unary:Fa f
 first:KV f
 alone:Hf f
 args:Hh f
theorem abW (f:Nat) (hA:Hf f) (hG:Hh f):KV (f+1):=by
 intro b S deep ts W x hd h hx;by_cases hn:headKind ts=2
 ·exact abV h hx hn
 ·exact abX f hA hG hd h hx hn
theorem aby (f:Nat) (hU:Fa f) (bT:∀g,g<=f->zg g):zg (f+1):=by
 intro b S level deep ts W x hl hd h hx;by_cases h6:level=6
 ·subst h6
  exact aje hU hd h hx
 ·exact afI bT (by omega) hd h hx
theorem exprs:∀f,KS f:=by
 intro f;induction f using Nat.strongRecOn with
 | ind f ih =>
   cases f with
   | zero=>exact⟨fun _ _ _ _ _ _ _ _ _ _ h=>by simp[jU]at h,fun _ _ _ _ _ _ _ _ h=>by simp[rG]at h,fun _ _ _ _ _ _ _ _ h=>by simp[qT]at h,fun _ _ _ _ _ _ _ _ h=>by simp[p5]at h,fun _ _ _ _ _ _ _ _ h=>by simp[s5]at h⟩
   | succ f =>
     have bT:∀g,g<=f->zg g:=fun g hg=>(ih g (by omega)).expr
     have h:=ih f (by omega);exact⟨aby f h.unary bT,akn f h.unary h.first bT,abW f h.alone h.args,ZR f h.expr,ZU f bT⟩
theorem aat {sb:Nat} {w3:World} {ta:Int} {n:List UInt8} {l:List aL} {vs:List Value} {r3:List Tok} {aG:Option Addr} {on aF:Nat} (hS:S sb) (hlt:b<sb) (dp:Rd w3 b S r3)
 (gB:aw w3 sb [.int .i64 0,ta,.string ⟨n.toArray⟩,.pointer none,.pointer none,.slice none 0 0,.slice none 0 0] 143)
 (mo:fL w3 S 141 1 (.slice aG on aF) l.length vs) (jg:eB w3 S l vs) (cv:ag (vz b sb) W w3) :
 Got (vz b sb) W b (fun s v w=>v=.tuple #[]/\∃cs,aw w sb cs 143/\cy w S s cs) (some (.ok (.call ta (.call ta n l),r3))) (.returned (.tuple #[]))
  ((((w3.setCell ⟨sb,4,none⟩ (.pointer (some ⟨w3.heap.size,0,none⟩))).setCell ⟨sb,0,none⟩ (.int .i64 8)).setCell ⟨sb,2,none⟩ (.string ⟨#[]⟩)).alloc (.cells #[.int .i64 5,ta,.int .i64 0,.string ⟨n.toArray⟩,.string ⟨#[]⟩,.pointer none,.pointer none,.slice aG on aF] 223)):=by
 have hm:=((cm w3 sb 4 (.pointer (some ⟨w3.heap.size,0,none⟩))).trans (cm _ sb 0 (.int .i64 8))).trans (cm _ sb 2 (.string ⟨#[]⟩));have aN:=hm.alloc (.cells #[.int .i64 5,ta,.int .i64 0,.string ⟨n.toArray⟩,.string ⟨#[]⟩,.pointer none,.pointer none,.slice aG on aF] 223);have BX:=aN.mono (T:=S) (fun k _ hk=>by rw[hk];exact hS);have hR:=dp.cQ hm (by rintro k rfl;exact hlt);have hB:=((iC (ds:=_) (iC (ds:=_) (iC (ds:=_) gB 4 (.pointer (some ⟨w3.heap.size,0,none⟩)) rfl) 0 (.int .i64 8) rfl) 2 (.string ⟨#[]⟩) rfl).alloc (.cells #[.int .i64 5,ta,.int .i64 0,.string ⟨n.toArray⟩,.string ⟨#[]⟩,.pointer none,.pointer none,.slice aG on aF] 223));have hN:=Node.new hR.old #[.int .i64 5,ta,.int .i64 0,.string ⟨n.toArray⟩,.string ⟨#[]⟩,.pointer none,.pointer none,.slice aG on aF];have hsz:(((w3.setCell ⟨sb,4,none⟩ (.pointer (some ⟨w3.heap.size,0,none⟩))).setCell ⟨sb,0,none⟩ (.int .i64 8)).setCell ⟨sb,2,none⟩ (.string ⟨#[]⟩)).heap.size=w3.heap.size:=by simp[World.setCell]
 rw[hsz]at hN;refine⟨_,rfl,⟨rfl,_,hB,?_⟩,(dp.cQ aN (by rintro k rfl;exact hlt)).par,cv.trans (D2 aN)⟩;simp only[cy];refine⟨_,rfl,?_⟩;simp only[aX];exact⟨_,_,hN,mo.mods BX (fun _ _ h=>h),eB.b8 BX (fun _ _ h=>h) _ _ jg⟩
theorem agJ (f:Nat) (A:KS f):LK (f+1):=by
 intro b sb S ts W x hS hlt h hB hx;simp only[uL]at hx;obtain⟨ta,iw⟩:=aq (iu ts);rw[<-iw]at hB hx;have aj:=af hx;have aP:=af h;have aA:=af hB;have hne:Hid (¬sb=b):=af (by omega);have cu:=af hlt;have HS:=af hS;clear hx h hB iw hlt hS;go_in;go_wp2_with fail;refine D3 (af ay) aP aj ?_ ?_
 ·rintro n a rfl g w aA aD
  go_wp2;exact⟨rfl,g,rfl,aA,pD aD⟩
 clear aj;rintro n r-aj w1 bE aO -;have bD:=af (aA.mods aO.out hne.out);have c2:=bD.ah 2;have f2:=bD.free 2;go_wp2_with fail;have aN:=af (cm w1 sb 2 (.string ⟨n.toArray⟩));have bY:=af (iC (ds:=[.int .i64 0,.int .i64 ta,.string ⟨n.toArray⟩,.pointer none,.pointer none,.slice none 0 0,.slice none 0 0]) bD 2 (.string ⟨n.toArray⟩) rfl);have bI:=af (bE.cQ aN.out (by rintro k rfl;exact cu));have bJ:=af ((pD (sb:=sb) aO.out).trans (D2 aN.out));clear aA bD bE aP aO;obtain⟨w2,hw2⟩:=aq (w1.setCell ⟨sb,2,none⟩ (.string ⟨n.toArray⟩));rw[<-hw2]at aN bY bI bJ ⊢;clear aN hw2 c2 f2;refine Px (s:=[40]) bI aj ?_ ?_
 ·clear aj
  rintro-aj;have c1:=bY.ah 1;have c2:=bY.ah 2;have nH:=af (bI.quiet (ag.refl ai w2).drew);have rQ:=af bJ.drew;go_wp2_with fail;rcases C6 aj with⟨n,a,hy,rfl⟩|⟨l,r3,hy,bh⟩
  ·have aU:=af (A.args b S 0 r _ _ (by omega) nH hy)
   clear hy aj
   go_region_with (first|(go_at_call 128;refine aU.mono ?_;rintro e w3 ⟨g3,rfl,hb3,aR⟩;refine Km prog w3 ⟨rfl,g3,rfl,hb3,rQ.trans (pD aR)⟩ ?_))
   all_goals trivial
  ·have aU:=af (A.args b S 0 r _ _ (by omega) nH hy)
   clear hy aj;obtain rfl:=(anz bh).symm
   go_region_with (first|(go_at_call 128;refine aU.mono ?_;rintro e w3 ⟨jA,rfl,⟨vs,hr3,hv3⟩,pA,aR⟩;obtain⟨aG,on,aF,rfl⟩:=fL.form hr3;have xk:=bY.drew.mods aR hne.out;obtain⟨ak2,f30,c31,-,ak3,f32,-,-,R1,f34⟩:=xk.gO;have kL:=xk.lt))
   all_goals
        have dp:=af (nH.next pA aR);have mo:=af hr3;have jg:=af hv3;have cv:=af (rQ.trans (pD aR));have gB:=af xk;clear pA aR hv3 hr3 xk;go_wp2;refine bodyPost_ret (results_none rfl _ _ _) rfl ?_;exact aat HS cu dp gB mo jg cv
 clear aj;rintro-aj;go_wp2_with fail;refine o8 (s:=[91]) (af ay) bI aj ?_ ?_
 ·clear aj
  rintro-aj w3 dp aR -;have gB:=af (bY.mods aR.out hne.out);have cv:=af (bJ.trans (pD aR.out));clear aR bY bI bJ;go_wp2_with fail;refine lG (af ay) dp aj (fun y hy=>A.expr b S 0 1 r.tail w3 y (by omega) (by omega) dp hy) ?_ ?_
  ·rintro n a rfl g w aA aD
   go_wp2;exact⟨rfl,g,rfl,aA,cv.trans (pD aD)⟩
  clear aj;rintro i eY-aj bq w4 hv fK bX -;obtain⟨g4,rfl⟩:=aX.ptr hv;have jm:=af (show aX w4 S i _ from hv);have kV:=af (gB.mods bX.out hne.out);have dV:=af (cv.trans (pD bX.out));obtain⟨c40,f40,-,-,-,-,aal,f43⟩:=kV.gN;clear bX hv gB dp cv;go_wp2_with fail;have bM:=af ((cm w4 sb 0 (.int .i64 3)).trans (cm _ sb 3 (.pointer (some ⟨g4,0,none⟩))));have cM:=af (iC (ds:=[.int .i64 3,.int .i64 ta,.string ⟨n.toArray⟩,.pointer (some ⟨g4,0,none⟩),.pointer none,.slice none 0 0,.slice none 0 0]) (iC (ds:=_) kV 0 (.int .i64 3) rfl) 3 (.pointer (some ⟨g4,0,none⟩)) rfl);have dB:=af (fK.cQ bM.out (by rintro k rfl;exact cu));have dx:=af (dV.trans (D2 bM.out));have uf:=af (jm.mods (bM.out.mono fun k _ hk=>by rw[hk];exact HS));obtain⟨aJ,pB⟩:=aq ((w4.setCell ⟨sb,0,none⟩ (.int .i64 3)).setCell ⟨sb,3,none⟩ (.pointer (some ⟨g4,0,none⟩)));rw[<-pB]at bM cM dB dx uf ⊢;clear pB bM kV fK dV jm c40 aal f40 f43;refine l9 (s:=[93]) (af ay) dB aj ?_ ?_
  ·rintro n a rfl g w aA aD
   go_wp2;exact⟨rfl,g,rfl,aA,dx.trans (pD aD)⟩
  clear aj;rintro lj-aj bw rS bG -;have ej:=af (cM.mods bG.out hne.out);have eL:=af (dx.trans (pD bG.out));have x5:=af (uf.by dB bG.out);clear bG cM dB dx uf;go_wp2_with fail;refine l9 (s:=[61]) (af ay) rS aj ?_ ?_
  ·rintro n a rfl g w aA aD
   go_wp2;exact⟨rfl,g,rfl,aA,eL.trans (pD aD)⟩
  clear aj;rintro kC-aj a7 j7 dK -;have f_:=af (ej.mods dK.out hne.out);have gh:=af (eL.trans (pD dK.out));have sW:=af (x5.by rS dK.out);clear dK ej rS eL x5;go_wp2_with fail;refine lG (af ay) j7 aj (fun y hy=>A.expr b S 0 0 kC a7 y (by omega) (by omega) j7 hy) ?_ ?_
  ·rintro n a rfl g w aA aD
   go_wp2;exact⟨rfl,g,rfl,aA,gh.trans (pD aD)⟩
  clear aj;rintro v lN-aj bq fg hv kE hP -;obtain⟨g8,rfl⟩:=aX.ptr hv;have ug:=af (show aX fg S v _ from hv);have Yr:=af (sW.by j7 hP.out);have tT:=af (f_.mods hP.out hne.out);have ml:=af (gh.trans (pD hP.out));have aap:=tT.ah 4;have f84:=tT.free 4;clear hP hv f_ j7 gh sW;obtain rfl:=(anz aj).symm;go_wp2;go_end0;have gT:=cm fg sb 4 (.pointer (some ⟨g8,0,none⟩));have BX:=gT.mono (T:=S) (fun k _ hk=>by rw[hk];exact HS);refine⟨_,rfl,⟨rfl,_,iC (ds:=_) tT 4 _ rfl,?_⟩,(kE.cQ gT (by rintro k rfl;exact cu)).par,ml.trans (D2 gT)⟩;simp only[cy];exact⟨_,_,rfl,Yr.mods BX,ug.mods BX⟩
 clear aj;rintro-aj;have c20:=bY.ah 0;have f20:=bY.free 0;go_wp2_with fail;have bM:=af (cm w2 sb 0 (.int .i64 2));have cM:=af (iC (ds:=[.int .i64 2,.int .i64 ta,.string ⟨n.toArray⟩,.pointer none,.pointer none,.slice none 0 0,.slice none 0 0]) bY 0 (.int .i64 2) rfl);have dB:=af (bI.cQ bM.out (by rintro k rfl;exact cu));have dx:=af (bJ.trans (D2 bM.out));obtain⟨aJ,pB⟩:=aq (w2.setCell ⟨sb,0,none⟩ (.int .i64 2));rw[<-pB]at bM cM dB dx ⊢;clear pB bM bY bI bJ c20 f20;refine l9 (s:=[61]) (af ay) dB aj ?_ ?_
 ·rintro n a rfl g w aA aD
  go_wp2;exact⟨rfl,g,rfl,aA,dx.trans (pD aD)⟩
 clear aj;rintro kC-aj a7 j7 dK -;have f_:=af (cM.mods dK.out hne.out);have gh:=af (dx.trans (pD dK.out));clear dK cM dB dx;go_wp2_with fail;refine lG (af ay) j7 aj (fun y hy=>A.expr b S 0 0 kC a7 y (by omega) (by omega) j7 hy) ?_ ?_
 ·rintro n a rfl g w aA aD
  go_wp2;exact⟨rfl,g,rfl,aA,gh.trans (pD aD)⟩
 clear aj;rintro v lN-aj bq fg hv kE hP -;obtain⟨g8,rfl⟩:=aX.ptr hv;have ug:=af (show aX fg S v _ from hv);have tT:=af (f_.mods hP.out hne.out);have ml:=af (gh.trans (pD hP.out));have aap:=tT.ah 4;have f84:=tT.free 4;clear hP hv f_ j7 gh;obtain rfl:=(anz aj).symm;go_wp2;go_end0;have gT:=cm fg sb 4 (.pointer (some ⟨g8,0,none⟩));have BX:=gT.mono (T:=S) (fun k _ hk=>by rw[hk];exact HS);refine⟨_,rfl,⟨rfl,_,iC (ds:=_) tT 4 _ rfl,?_⟩,(kE.cQ gT (by rintro k rfl;exact cu)).par,ml.trans (D2 gT)⟩;simp only[cy];exact⟨_,rfl,ug.mods BX⟩
theorem ajH (f:Nat) (A:KS f) (hB:KU f) (hN:LK f):LQ (f+1):=by
 intro b S deep ts W x hd h hx;simp only[uR]at hx;have aP:=af h;have HD:=af hd;have q9:Hid ((deep:Int)+1=((deep+1:Nat):Int)):=af (by omega);have Du:0<=(deep:Int)/\(deep:Int)<=12:=by omega
 obtain⟨⟨g,o,c,hp⟩,hL,_,_,_⟩:=h;obtain⟨t,mL,rfl⟩:=s8 hp.ends;have hl:=hp.cl;have ha:=hp.ca;have iD:=hp.cap;have lJ:=hp.max;have hbl:b<W.heap.size:=aP.old b aP.has;have gS:g<W.heap.size:=Nat.lt_trans hp.lt hbl;have iw:iu (t::mL)=t.at_:=rfl;obtain⟨ta,wb⟩:=aq (t.at_);rw[<-wb]at ha iw;simp only[anK]at iD;obtain⟨ts,kO⟩:=aq (t::mL);rw[<-kO]at hx aP iw;rw[iw]at hx;have aj:=af hx;have bA:=af iw;clear hp hL iw wb kO hd hx;go_in;go_wp2_with fail;have iB:=af (p3.start aP ta);obtain⟨w0,hw0⟩:=aq ((W.alloc (.cells #[.int .i64 0,.int .i64 0,.string ⟨#[]⟩,.pointer none,.pointer none,.slice none 0 0,.slice none 0 0] 143)).alloc (.cells #[.int .i64 0,ta,.string ⟨#[]⟩,.pointer none,.pointer none,.slice none 0 0,.slice none 0 0] 143));rw[<-hw0]at iB ⊢;clear hw0 aP hl ha iD lJ hbl gS;refine o8 (s:=OE) (af ay) (af iB.rd) aj ?_ ?_
 ·clear aj
  rintro-aj w1 bE aO -;have H1:=af (iB.next bE aO.out);clear iB bE aO;go_wp2_with fail;refine lG (af ay) (af H1.rd) aj (fun y hy=>A.alone b (ku S W.heap.size) 0 ts.tail w1 y (by omega) H1.rd hy) ?_ ?_
  ·rintro n a rfl g w aA aD
   go_wp2;exact⟨rfl,g,rfl,aA,H1.mods.trans aD⟩
  clear aj;rintro v r2-aj bq w2 hv bI aN -;obtain⟨g2,rfl⟩:=aX.ptr hv;have jC:=af (show aX w2 (ku S W.heap.size) v _ from hv);have cg:=af (H1.next bI aN.out);clear aN bI H1 hv;go_wp2_with fail;rw[q9.out];refine lG (af ay) (af cg.rd) aj (fun y hy=>hB b (ku S W.heap.size) (deep+1) r2 w2 y (by have:=HD.out;omega) cg.rd hy) ?_ ?_
  ·rintro n a rfl g w aA aD
   go_wp2;exact⟨rfl,g,rfl,aA,cg.mods.trans aD⟩
  clear aj;rintro l r3-aj bq w3 hv dp aR -;obtain⟨XE,hrow,sA⟩:=hv;obtain⟨tJ,tL,tK,rfl⟩:=hrow.form;have E1:=af hrow;have E0:=af sA;have cB:=af (cg.next dp aR.out);have jg:=af (jC.by cg.rd aR.out);clear aR dp cg jC hrow sA;obtain⟨c0,f0,-,-,-,-,-,-,c4,f4,c5,f5⟩:=cB.own.gP;have kL:=cB.own.lt;go_wp2_with fail;have xW:=(((cB.qj 0 (.int .i64 4)).trans ((cB.put (ds:=_) 0 (.int .i64 4) rfl).qj 4 (.pointer (some ⟨g2,0,none⟩)))).trans (((cB.put (ds:=_) 0 (.int .i64 4) rfl).put (ds:=_) 4 (.pointer (some ⟨g2,0,none⟩)) rfl).qj 5 (.slice tJ tL tK)));have jm:=af (jg.mods xW);have A7:=af (E1.mods xW (fun _ _ h=>h));have A6:=af (cE.b8 xW (fun _ _ h=>h) _ _ E0);have bj:=af (((cB.put (ds:=_) 0 (.int .i64 4) rfl).put (ds:=_) 4 (.pointer (some ⟨g2,0,none⟩)) rfl).put (ds:=[.int .i64 4,.int .i64 ta,.string ⟨#[]⟩,.pointer none,.pointer (some ⟨g2,0,none⟩),.slice tJ tL tK,.slice none 0 0]) 5 (.slice tJ tL tK) rfl);obtain⟨w4,hw4⟩:=aq ((((w3.setCell ⟨W.heap.size+1,0,none⟩ (.int .i64 4)).setCell ⟨W.heap.size+1,4,none⟩ (.pointer (some ⟨g2,0,none⟩))).setCell ⟨W.heap.size+1,5,none⟩ (.slice tJ tL tK)));clear xW;rw[<-hw4]at bj jm A7 A6 ⊢;clear hw4 kL cB jg E1 E0 c0 f0 c4 f4 c5 f5;go_at_call 62;refine o8 (s:=OD) (af ay) (af bj.rd) aj ?_ ?_
  ·clear aj
   rintro-aj aJ dB bM -;have dR:=af (bj.next dB bM.out);have uf:=af (jm.by bj.rd bM.out);have Q6:=af (A7.mods (bM.out.mono fun k _ hk=>by rw[hk];exact bj.rd.has) (fun _ _ h=>h));have Q3:=af (cE.b8 (bM.out.mono fun k _ hk=>by rw[hk];exact bj.rd.has) (fun _ _ h=>h) _ _ A6);clear bM dB bj jm A7 A6;go_wp2_with fail;rw[q9.out];refine lG (af ay) (af dR.rd) aj (fun y hy=>hB b (ku S W.heap.size) (deep+1) r3.tail aJ y (by have:=HD.out;omega) dR.rd hy) ?_ ?_
   ·rintro n a rfl g w aA aD
    go_wp2;exact⟨rfl,g,rfl,aA,dR.mods.trans aD⟩
   clear aj;rintro el lj-aj bq bw hv rS bG -;obtain⟨anl,hrow,sA⟩:=hv;obtain⟨GI,GL,GJ,rfl⟩:=hrow.form;have Qg:=af hrow;have Qe:=af sA;have gA:=af (dR.next rS bG.out);have x5:=af (uf.by dR.rd bG.out);have Q7:=af (Q6.mods (bG.out.mono fun k _ hk=>by rw[hk];exact dR.rd.has) (fun _ _ h=>h));have Q4:=af (cE.b8 (bG.out.mono fun k _ hk=>by rw[hk];exact dR.rd.has) (fun _ _ h=>h) _ _ Q3);clear bG rS dR uf Q6 Q3 hrow sA;have c6:=gA.own.ah 6;have f6:=gA.own.free 6;have F8:=gA.own.lt;go_upto_region 7 with fail
   have ub:=(gA.qj 6 (.slice GI GL GJ));have sW:=af (x5.mods ub);have Q8:=af (Q7.mods ub (fun _ _ h=>h));have Q5:=af (cE.b8 ub (fun _ _ h=>h) _ _ Q4);have Qh:=af (Qg.mods ub (fun _ _ h=>h));have Qf:=af (cE.b8 ub (fun _ _ h=>h) _ _ Qe);have er:=af (gA.put (ds:=[.int .i64 4,.int .i64 ta,.string ⟨#[]⟩,.pointer none,.pointer (some ⟨g2,0,none⟩),.slice tJ tL tK,.slice GI GL GJ]) 6 (.slice GI GL GJ) rfl);obtain⟨a7,Aj⟩:=aq ((bw.setCell ⟨W.heap.size+1,6,none⟩ (.slice GI GL GJ)));clear ub;rw[<-Aj]at er sW Q8 Q5 Qh Qf ⊢;clear Aj F8 gA x5 Q7 Q4 Qg Qe c6 f6;obtain rfl:=(anz aj).symm;obtain⟨c0,c1,c2,c3,c4,c5,c6⟩:=er.own.gJ;obtain⟨d0,e0,d1,e1,d2,e2,d3,e3,d4,e4,d5,cG,d6,ew⟩:=er.res.gQ;go_wp2;obtain⟨cH,lK,rk,rq⟩:=er.ret rfl;obtain⟨q0,q1,q2,q3,q4,q5,q6⟩:=cH.gJ;refine bodyPost_ret (v:=.agg #[.int .i64 4,ta,.string ⟨#[]⟩,.pointer none,.pointer (some ⟨g2,0,none⟩),.slice tJ tL tK,.slice GI GL GJ]) (by simp[results,results94,go_sem,q0,q1,q2,q3,q4,q5,q6]) rfl ?_;refine⟨_,rfl,⟨_,rfl,cy.b8 rq AH (.cond ta v l el) _ ?_⟩,rk,lK⟩;simp only[cy];exact⟨_,_,_,_,_,rfl,sW,Q8,Q5,Qh,Qf⟩
  clear aj;rintro-aj;obtain rfl:=(anz aj).symm;obtain⟨c0,c1,c2,c3,c4,c5,c6⟩:=bj.own.gJ;obtain⟨d0,e0,d1,e1,d2,e2,d3,e3,d4,e4,d5,cG,d6,ew⟩:=bj.res.gQ;go_wp2;obtain⟨cH,lK,rk,rq⟩:=bj.ret rfl;obtain⟨q0,q1,q2,q3,q4,q5,q6⟩:=cH.gJ;refine bodyPost_ret (v:=.agg #[.int .i64 4,ta,.string ⟨#[]⟩,.pointer none,.pointer (some ⟨g2,0,none⟩),.slice tJ tL tK,.slice none 0 0]) (by simp[results,results94,go_sem,q0,q1,q2,q3,q4,q5,q6]) rfl ?_;refine⟨_,rfl,⟨_,rfl,cy.b8 rq AH (.cond ta v l []) _ ?_⟩,rk,lK⟩;simp only[cy];exact⟨_,_,_,_,_,rfl,jm,A7,A6,⟨World.ownsRow_nil _ _ _ _,fun _ hk=>by cases hk⟩,by simp only[cE]⟩
 clear aj;rintro-aj;go_wp2_with fail;refine o8 (s:=OM) (af ay) (af iB.rd) aj ?_ ?_
 ·clear aj
  rintro-aj w1 bE aO -;have H1:=af (iB.next bE aO.out);clear iB bE aO;go_wp2_with fail;refine lG (af ay) (af H1.rd) aj (fun y hy=>A.alone b (ku S W.heap.size) 0 ts.tail w1 y (by omega) H1.rd hy) ?_ ?_
  ·rintro n a rfl g w aA aD
   go_wp2;exact⟨rfl,g,rfl,aA,H1.mods.trans aD⟩
  clear aj;rintro v r2-aj bq w2 hv bI aN -;obtain⟨g2,rfl⟩:=aX.ptr hv;have jC:=af (show aX w2 (ku S W.heap.size) v _ from hv);have cg:=af (H1.next bI aN.out);clear aN bI H1 hv;go_wp2_with fail;rw[q9.out];refine lG (af ay) (af cg.rd) aj (fun y hy=>hB b (ku S W.heap.size) (deep+1) r2 w2 y (by have:=HD.out;omega) cg.rd hy) ?_ ?_
  ·rintro n a rfl g w aA aD
   go_wp2;exact⟨rfl,g,rfl,aA,cg.mods.trans aD⟩
  clear aj;rintro l r3-aj bq w3 hv dp aR -;obtain⟨XE,hrow,sA⟩:=hv;obtain⟨tJ,tL,tK,rfl⟩:=hrow.form;have E1:=af hrow;have E0:=af sA;have cB:=af (cg.next dp aR.out);have jg:=af (jC.by cg.rd aR.out);clear aR dp cg jC hrow sA;obtain⟨c0,f0,-,-,-,-,-,-,c4,f4,c5,f5⟩:=cB.own.gP;have kL:=cB.own.lt;go_upto_region 10 with fail
  have xW:=(((cB.qj 0 (.int .i64 5)).trans ((cB.put (ds:=_) 0 (.int .i64 5) rfl).qj 4 (.pointer (some ⟨g2,0,none⟩)))).trans (((cB.put (ds:=_) 0 (.int .i64 5) rfl).put (ds:=_) 4 (.pointer (some ⟨g2,0,none⟩)) rfl).qj 5 (.slice tJ tL tK)));have jm:=af (jg.mods xW);have A7:=af (E1.mods xW (fun _ _ h=>h));have A6:=af (cE.b8 xW (fun _ _ h=>h) _ _ E0);have bj:=af (((cB.put (ds:=_) 0 (.int .i64 5) rfl).put (ds:=_) 4 (.pointer (some ⟨g2,0,none⟩)) rfl).put (ds:=[.int .i64 5,.int .i64 ta,.string ⟨#[]⟩,.pointer none,.pointer (some ⟨g2,0,none⟩),.slice tJ tL tK,.slice none 0 0]) 5 (.slice tJ tL tK) rfl);obtain⟨w4,hw4⟩:=aq ((((w3.setCell ⟨W.heap.size+1,0,none⟩ (.int .i64 5)).setCell ⟨W.heap.size+1,4,none⟩ (.pointer (some ⟨g2,0,none⟩))).setCell ⟨W.heap.size+1,5,none⟩ (.slice tJ tL tK)));clear xW;rw[<-hw4]at bj jm A7 A6 ⊢;clear hw4 kL cB jg E1 E0 c0 f0 c4 f4 c5 f5;obtain rfl:=(anz aj).symm;obtain⟨c0,c1,c2,c3,c4,c5,c6⟩:=bj.own.gJ;obtain⟨d0,e0,d1,e1,d2,e2,d3,e3,d4,e4,d5,cG,d6,ew⟩:=bj.res.gQ;go_wp2;obtain⟨cH,lK,rk,rq⟩:=bj.ret rfl;obtain⟨q0,q1,q2,q3,q4,q5,q6⟩:=cH.gJ;refine bodyPost_ret (v:=.agg #[.int .i64 5,ta,.string ⟨#[]⟩,.pointer none,.pointer (some ⟨g2,0,none⟩),.slice tJ tL tK,.slice none 0 0]) (by simp[results,results94,go_sem,q0,q1,q2,q3,q4,q5,q6]) rfl ?_;refine⟨_,rfl,⟨_,rfl,cy.b8 rq AH (.loop ta v l) _ ?_⟩,rk,lK⟩;simp only[cy];exact⟨_,_,_,rfl,jm,A7,A6⟩
 clear aj;rintro-aj;go_wp2_with fail;refine o8 (s:=OL) (af ay) (af iB.rd) aj ?_ ?_
 ·clear aj
  rintro-aj w1 bE aO -;have H1:=af (iB.next bE aO.out);clear iB bE aO;go_wp2_with fail;refine D3 (af ay) (af H1.rd) aj ?_ ?_
  ·rintro n a rfl g w aA aD
   go_wp2;exact⟨rfl,g,rfl,aA,H1.mods.trans aD⟩
  clear aj;rintro n r2-aj w2 bI aN -;have cg:=af (H1.next bI aN.out);clear aN bI H1;obtain⟨c0,f0,-,-,c2,f2⟩:=cg.own.gM;have hl2:=cg.own.lt;go_upto_region 13 with fail
  have ve:=((cg.qj 0 (.int .i64 1)).trans ((cg.put (ds:=_) 0 (.int .i64 1) rfl).qj 2 (.string ⟨n.toArray⟩)));have cB:=af ((cg.put (ds:=_) 0 (.int .i64 1) rfl).put (ds:=[.int .i64 1,.int .i64 ta,.string ⟨n.toArray⟩,.pointer none,.pointer none,.slice none 0 0,.slice none 0 0]) 2 (.string ⟨n.toArray⟩) rfl);obtain⟨w3,hw3⟩:=aq (((w2.setCell ⟨W.heap.size+1,0,none⟩ (.int .i64 1)).setCell ⟨W.heap.size+1,2,none⟩ (.string ⟨n.toArray⟩)));clear ve;rw[<-hw3]at cB ⊢;clear hw3 hl2 cg c0 f0 c2 f2;go_wp2_with fail;refine l9 (s:=[61]) (af ay) (af cB.rd) aj ?_ ?_
  ·rintro n a rfl g w aA aD
   go_wp2;exact⟨rfl,g,rfl,aA,cB.mods.trans aD⟩
  clear aj;rintro eY-aj w4 fK bX -;have bj:=af (cB.next fK bX.out);clear bX fK cB;go_wp2_with fail;refine lG (af ay) (af bj.rd) aj (fun y hy=>A.expr b (ku S W.heap.size) 0 0 eY w4 y (by omega) (by omega) bj.rd hy) ?_ ?_
  ·rintro n a rfl g w aA aD
   go_wp2;exact⟨rfl,g,rfl,aA,bj.mods.trans aD⟩
  clear aj;rintro v jK-aj bq aJ hv dB bM -;obtain⟨g5,rfl⟩:=aX.ptr hv;have uf:=af (show aX aJ (ku S W.heap.size) v _ from hv);have dR:=af (bj.next dB bM.out);clear bM dB bj hv;have c4:=dR.own.ah 4;have f4:=dR.own.free 4;have Ud:=dR.own.lt;go_upto_region 19 with fail
  have QX:=(dR.qj 4 (.pointer (some ⟨g5,0,none⟩)));have x5:=af (uf.mods QX);have gA:=af (dR.put (ds:=[.int .i64 1,.int .i64 ta,.string ⟨n.toArray⟩,.pointer none,.pointer (some ⟨g5,0,none⟩),.slice none 0 0,.slice none 0 0]) 4 (.pointer (some ⟨g5,0,none⟩)) rfl);obtain⟨bw,Gs⟩:=aq ((aJ.setCell ⟨W.heap.size+1,4,none⟩ (.pointer (some ⟨g5,0,none⟩))));clear QX;rw[<-Gs]at gA x5 ⊢;clear Gs Ud dR uf c4 f4;go_wp2_with fail;refine l9 (s:=[59]) (af ay) (af gA.rd) aj ?_ ?_
  ·rintro n a rfl g w aA aD
   go_wp2;exact⟨rfl,g,rfl,aA,gA.mods.trans aD⟩
  clear aj;rintro kC-aj a7 j7 dK -;have er:=af (gA.next j7 dK.out);have sW:=af (x5.by gA.rd dK.out);clear dK j7 gA x5;obtain rfl:=(anz aj).symm;go_upto_region 20 with fail
  obtain⟨c0,c1,c2,c3,c4,c5,c6⟩:=er.own.gJ;obtain⟨d0,e0,d1,e1,d2,e2,d3,e3,d4,e4,d5,cG,d6,ew⟩:=er.res.gQ;go_wp2;obtain⟨cH,lK,rk,rq⟩:=er.ret rfl;obtain⟨q0,q1,q2,q3,q4,q5,q6⟩:=cH.gJ;refine bodyPost_ret (v:=.agg #[.int .i64 1,ta,.string ⟨n.toArray⟩,.pointer none,.pointer (some ⟨g5,0,none⟩),.slice none 0 0,.slice none 0 0]) (by simp[results,results94,go_sem,q0,q1,q2,q3,q4,q5,q6]) rfl ?_;refine⟨_,rfl,⟨_,rfl,cy.b8 rq AH (.var ta n v) _ ?_⟩,rk,lK⟩;simp only[cy];exact⟨_,rfl,sW⟩
 clear aj;rintro-aj;go_wp2_with fail;refine o8 (s:=OK) (af ay) (af iB.rd) aj ?_ ?_
 ·clear aj
  rintro-aj w1 bE aO -;have H1:=af (iB.next bE aO.out);clear iB bE aO;go_wp2_with fail;refine lG (af ay) (af H1.rd) aj (fun y hy=>A.expr b (ku S W.heap.size) 0 0 ts.tail w1 y (by omega) (by omega) H1.rd hy) ?_ ?_
  ·rintro n a rfl g w aA aD
   go_wp2;exact⟨rfl,g,rfl,aA,H1.mods.trans aD⟩
  clear aj;rintro v r2-aj bq w2 hv bI aN -;obtain⟨g2,rfl⟩:=aX.ptr hv;have jC:=af (show aX w2 (ku S W.heap.size) v _ from hv);have cg:=af (H1.next bI aN.out);clear aN bI H1 hv;obtain⟨c0,f0,-,-,-,-,-,-,c4,f4⟩:=cg.own.gO;have hl2:=cg.own.lt;go_upto_region 19 with fail
  have ve:=((cg.qj 0 (.int .i64 6)).trans ((cg.put (ds:=_) 0 (.int .i64 6) rfl).qj 4 (.pointer (some ⟨g2,0,none⟩))));have jg:=af (jC.mods ve);have cB:=af ((cg.put (ds:=_) 0 (.int .i64 6) rfl).put (ds:=[.int .i64 6,.int .i64 ta,.string ⟨#[]⟩,.pointer none,.pointer (some ⟨g2,0,none⟩),.slice none 0 0,.slice none 0 0]) 4 (.pointer (some ⟨g2,0,none⟩)) rfl);obtain⟨w3,hw3⟩:=aq (((w2.setCell ⟨W.heap.size+1,0,none⟩ (.int .i64 6)).setCell ⟨W.heap.size+1,4,none⟩ (.pointer (some ⟨g2,0,none⟩))));clear ve;rw[<-hw3]at cB jg ⊢;clear hw3 hl2 cg jC c0 f0 c4 f4;go_wp2_with fail;refine l9 (s:=[59]) (af ay) (af cB.rd) aj ?_ ?_
  ·rintro n a rfl g w aA aD
   go_wp2;exact⟨rfl,g,rfl,aA,cB.mods.trans aD⟩
  clear aj;rintro eY-aj w4 fK bX -;have bj:=af (cB.next fK bX.out);have jm:=af (jg.by cB.rd bX.out);clear bX fK cB jg;obtain rfl:=(anz aj).symm;go_upto_region 20 with fail
  obtain⟨c0,c1,c2,c3,c4,c5,c6⟩:=bj.own.gJ;obtain⟨d0,e0,d1,e1,d2,e2,d3,e3,d4,e4,d5,cG,d6,ew⟩:=bj.res.gQ;go_wp2;obtain⟨cH,lK,rk,rq⟩:=bj.ret rfl;obtain⟨q0,q1,q2,q3,q4,q5,q6⟩:=cH.gJ;refine bodyPost_ret (v:=.agg #[.int .i64 6,ta,.string ⟨#[]⟩,.pointer none,.pointer (some ⟨g2,0,none⟩),.slice none 0 0,.slice none 0 0]) (by simp[results,results94,go_sem,q0,q1,q2,q3,q4,q5,q6]) rfl ?_;refine⟨_,rfl,⟨_,rfl,cy.b8 rq AH (.ret ta v) _ ?_⟩,rk,lK⟩;simp only[cy];exact⟨_,rfl,jm⟩
 clear aj;rintro-aj;go_wp2_with fail;refine o8 (s:=OJ) (af ay) (af iB.rd) aj ?_ ?_
 ·clear aj
  rintro-aj w1 bE aO -;have H1:=af (iB.next bE aO.out);clear iB bE aO;go_wp2_with fail;refine lG (af ay) (af H1.rd) aj (fun y hy=>A.expr b (ku S W.heap.size) 0 0 ts.tail w1 y (by omega) (by omega) H1.rd hy) ?_ ?_
  ·rintro n a rfl g w aA aD
   go_wp2;exact⟨rfl,g,rfl,aA,H1.mods.trans aD⟩
  clear aj;rintro v r2-aj bq w2 hv bI aN -;obtain⟨g2,rfl⟩:=aX.ptr hv;have jC:=af (show aX w2 (ku S W.heap.size) v _ from hv);have cg:=af (H1.next bI aN.out);clear aN bI H1 hv;obtain⟨c0,f0,-,-,-,-,-,-,c4,f4⟩:=cg.own.gO;have hl2:=cg.own.lt;go_upto_region 19 with fail
  have ve:=((cg.qj 0 (.int .i64 7)).trans ((cg.put (ds:=_) 0 (.int .i64 7) rfl).qj 4 (.pointer (some ⟨g2,0,none⟩))));have jg:=af (jC.mods ve);have cB:=af ((cg.put (ds:=_) 0 (.int .i64 7) rfl).put (ds:=[.int .i64 7,.int .i64 ta,.string ⟨#[]⟩,.pointer none,.pointer (some ⟨g2,0,none⟩),.slice none 0 0,.slice none 0 0]) 4 (.pointer (some ⟨g2,0,none⟩)) rfl);obtain⟨w3,hw3⟩:=aq (((w2.setCell ⟨W.heap.size+1,0,none⟩ (.int .i64 7)).setCell ⟨W.heap.size+1,4,none⟩ (.pointer (some ⟨g2,0,none⟩))));clear ve;rw[<-hw3]at cB jg ⊢;clear hw3 hl2 cg jC c0 f0 c4 f4;go_wp2_with fail;refine l9 (s:=[59]) (af ay) (af cB.rd) aj ?_ ?_
  ·rintro n a rfl g w aA aD
   go_wp2;exact⟨rfl,g,rfl,aA,cB.mods.trans aD⟩
  clear aj;rintro eY-aj w4 fK bX -;have bj:=af (cB.next fK bX.out);have jm:=af (jg.by cB.rd bX.out);clear bX fK cB jg;obtain rfl:=(anz aj).symm;go_upto_region 20 with fail
  obtain⟨c0,c1,c2,c3,c4,c5,c6⟩:=bj.own.gJ;obtain⟨d0,e0,d1,e1,d2,e2,d3,e3,d4,e4,d5,cG,d6,ew⟩:=bj.res.gQ;go_wp2;obtain⟨cH,lK,rk,rq⟩:=bj.ret rfl;obtain⟨q0,q1,q2,q3,q4,q5,q6⟩:=cH.gJ;refine bodyPost_ret (v:=.agg #[.int .i64 7,ta,.string ⟨#[]⟩,.pointer none,.pointer (some ⟨g2,0,none⟩),.slice none 0 0,.slice none 0 0]) (by simp[results,results94,go_sem,q0,q1,q2,q3,q4,q5,q6]) rfl ?_;refine⟨_,rfl,⟨_,rfl,cy.b8 rq AH (.print ta v) _ ?_⟩,rk,lK⟩;simp only[cy];exact⟨_,rfl,jm⟩
 clear aj;rintro-aj;go_wp2_with fail;rcases C6 aj with⟨n,a,hy,rfl⟩|⟨s,r2,hy,bh⟩
 ·have aU:=af (hN b (W.heap.size+1) (ku S W.heap.size) ts w0 _ (Or.inr (Or.inr rfl)) (by have:=iB.lt;omega) iB.rd (by rw[bA.out];exact iB.own) hy)
  clear hy aj;refine aU.mono ?_;rintro e w ⟨g,rfl,hb,hm⟩;have aA:=af hb;have az:=af hm;clear hb hm;go_wp2;exact⟨rfl,g,rfl,aA,iB.mods.trans' az (by rintro k (rfl|rfl) hk;rfl;omega)⟩
 have aU:=af (hN b (W.heap.size+1) (ku S W.heap.size) ts w0 _ (Or.inr (Or.inr rfl)) (by have:=iB.lt;omega) iB.rd (by rw[bA.out];exact iB.own) hy);clear hy aj;refine aU.mono ?_;rintro e w1 ⟨bq,rfl,⟨rfl,cs,hb,hst⟩,hp,hm⟩;obtain⟨z0,cS,z2,z3,z4,aG,on,aF,ob,eX,eW,rfl⟩:=hst.shape;have H1:=af (iB.two hp hb hm);have iO:=af hst;clear iB hp hb hm hst aU;go_wp2_with fail;refine l9 (s:=[59]) (af ay) (af H1.rd) bh ?_ ?_
 ·rintro n a rfl g w aA aD
  go_wp2;exact⟨rfl,g,rfl,aA,H1.mods.trans aD⟩
 clear bh;rintro r3-aj w2 bI aN -;have cg:=af (H1.next bI aN.out);have jC:=af (cy.b8 (aN.out.mono fun k _ hk=>by rw[hk];exact H1.rd.has) (fun _ _ h=>h) _ _ iO);clear aN bI H1 iO;obtain rfl:=(anz aj).symm;go_upto_region 20 with fail
 obtain⟨c0,c1,c2,c3,c4,c5,c6⟩:=cg.own.gJ;obtain⟨d0,e0,d1,e1,d2,e2,d3,e3,d4,e4,d5,cG,d6,ew⟩:=cg.res.gQ;go_wp2;obtain⟨cH,lK,rk,rq⟩:=cg.ret rfl;obtain⟨q0,q1,q2,q3,q4,q5,q6⟩:=cH.gJ;refine bodyPost_ret (v:=.agg #[z0,cS,.string z2,.pointer z3,.pointer z4,.slice aG on aF,.slice ob eX eW]) (by simp[results,results94,go_sem,q0,q1,q2,q3,q4,q5,q6]) rfl ?_;refine⟨_,rfl,⟨_,rfl,cy.b8 rq AH s _ ?_⟩,rk,lK⟩;exact jC
theorem aiK (W:World) (z0 cS z2 z3 z4 z5 rJ:Value) (e:TypeId):∀j u,[z0,cS,z2,z3,z4,z5,rJ][j]?=some u->(W.alloc (.cells #[z0,cS,z2,z3,z4,z5,rJ] e)).cell? ((⟨W.heap.size,0,none⟩:Addr).add j)=some u:=by
 intro j u hj;have h:=(aw.new W #[z0,cS,z2,z3,z4,z5,rJ] e).cell (i:=j) (v:=u) hj;cases j with
 | zero=>exact h
 | succ j=>simpa [Addr.add] using h
theorem aiL (a b:Int) (s:ByteArray) (p q:Option Addr) (aG:Option Addr) (on aF:Nat) (ob:Option Addr) (eX eW:Nat):∀u∈[Value.int .i64 a,b,.string s,.pointer p,.pointer q,.slice aG on aF,.slice ob eX eW],u.oneCell'=true:=by
 intro u hu;simp only[anW,an1,or_false]at hu;rcases hu with rfl|rfl|rfl|rfl|rfl|rfl|rfl <;> rfl
def ZK (S:Nat->Prop) (b f deep:Nat) (W:World) (x:Except (Int×Int) (List St×List Tok)) (lv:Value) (wr:World):Prop :=
 ∃ff l r vs,ff<=f/\tN ff deep l r=some x/\ig wr W.heap.size S 143 7 lv l.length vs/\cE wr (Own S lv) l vs/\Rd wr b S r/\ag (·=b) W wr/\l.length+r.length<=10000000
theorem aad (f:Nat) (hS:∀g,g<=f->LQ g):KU (f+1):=by
 intro b S deep ts W x hd h hx;simp only[pk]at hx;have aP:=af h;have az:=af (ag.refl (·=b) W);have aT:=af h.par.short;have HG:=af (fun (w:World) (hm:ag (·=b) W w)=>ig.nil 143 7 h hm);have Du:0<=(deep:Int)/\(deep:Int)<=13:=by omega
 obtain⟨i0,hi,hz0,hz1,hz2⟩:=info_parts ajD;have aI:=af (⟨hi,hz0,hz1,hz2⟩:_/\_/\_/\_);clear h hd hi hz0 hz1 hz2;by_cases hdd:12<deep
 ·rw[if_pos hdd]at hx
  have aj:=af hx;have hg:12<(deep:Int):=by omega
  clear hx hdd;go_in;go_wp2_with fail;refine Mm az aP aj ?_;rintro n a rfl g w aA aD;go_wp2;exact⟨rfl,g,rfl,aA,aD⟩
 rw[if_neg hdd]at hx;have HD:=af hdd;have hg:¬12<(deep:Int):=by omega
 have aj:=af hx;clear hx hdd;go_in;go_wp2_with fail;refine l9 (s:=[123]) az aP aj ?_ ?_
 ·rintro n a rfl g w aA aD
  go_wp2;exact⟨rfl,g,rfl,aA,aD⟩
 clear aj;rintro r1 bA aj w1 bE-aD;go_wp2_with fail
 go_loopw [5] (fun lv wr=>ZK S b f deep W x lv wr) (fun _ wr=>lenOf wr b)
 case atStart=>exact⟨f,[],r1,[],anD _,aj,HG _ aD,by simp[cE],bE,aD,by rw[bA.2];have:=aT.out;simp;omega⟩
 case round =>
  clear aj bE aD aP az bA aT HG;obtain⟨ff,l,r,vs,FX,hb,hg,hv,vM,kj,hn⟩:=hrel;have lX:=af hg;have iO:=af hv;have bE:=af vM;have aD:=af kj;have mn:=af hn;clear hg hv vM kj hn;cases ff with
  | zero=>simp[tN]at hb
  | succ f1 =>
    simp only[tN]at hb;have aA:=af hb;clear hb;go_wp2_with fail;refine o8 (s:=[125]) aD bE aA ?_ ?_
    ·clear aA
     rintro-aj w3 dp aR cv;obtain rfl:=(anz aj).symm;obtain⟨aG,on,aF,rfl⟩:=lX.form;go_wp2;go_ret;exact⟨_,rfl,⟨vs,(lX.next bE.has aR.out).rowAt,cE.b8 (aR.out.mono fun k _ hk=>Or.inl (hk ▸ bE.has)) Wc _ _ iO⟩,dp.par,cv⟩
    ·clear aA
     rintro-aj;obtain⟨aG,on,aF,rfl⟩:=lX.form;go_wp2_with fail;refine lG aD bE aj (fun z hz=>hS f1 (by omega) b (Own S (.slice aG on aF)) deep r wr z (by have:=HD.out;omega) (lX.rd bE) hz) ?_ ?_
     ·rintro n a rfl g w aA aD
      go_wp2;exact⟨rfl,g,rfl,aA,aD⟩
     clear aj;rintro fB r2 bP aj bq w4 ⟨cs,rfl,hv4⟩ fK bX dV;obtain⟨z0,cS,z2,z3,z4,pa,bz,ck,bg,qn,br,rfl⟩:=hv4.shape;have jm:=af hv4;have gC:=af ((lX.next bE.has bX.out).alloc (.cells #[z0,cS,.string z2,.pointer z3,.pointer z4,.slice pa bz ck,.slice bg qn br] 143));clear hv4;go_wp2_with (at_builtin;refine wpList_append_own_at _ rfl _ _ 82 rfl W.heap.size 143 i0 _ 7 96 underlying82 aI.1 aI.2.1 aI.2.2.1 aI.2.2.2 rfl (by decide) _ l.length vs rfl gC.row ⟨w4.heap.size,0,none⟩ 1 1 [z0,cS,.string z2,.pointer z3,.pointer z4,.slice pa bz ck,.slice bg qn br] rfl rfl (aiK _ _ _ _ _ _ _ _ _) (aiL _ _ _ _ _ _ _ _ _ _ _) (by have:=mn.out;unfold maxLen;omega) (by have:=mn.out;omega) gC.base ?_;intro v' aJ hown cr hnil hloc;have bZ:Hid (kr (w4.alloc (.cells #[z0,cS,.string z2,.pointer z3,.pointer z4,.slice pa bz ck,.slice bg qn br] 143)) aJ (.slice aG on aF) v'):=af (py cr hloc);have b6:=af (gC.zN bZ hown);clear hown cr hnil hloc;refine Hid.out ?_);refine af ?_;have mC:∀ (S:Nat->Prop) (o:Obj),ag S w4 (w4.alloc o):=fun S o=>ay.alloc _
     go_wp2_with fail;refine⟨⟨f1,l++[fB],r2,vs++[.int .i64 z0,.int .i64 cS,.string z2,.pointer z3,.pointer z4,.slice pa bz ck,.slice bg qn br],by omega,aj,by simpa using b6.out,?_,gC.Cv bZ (fK.quiet (mC _ _)),gC.OZ bZ (dV.alloc _),?_⟩,?_⟩
     ·have hA:ag (Own S (.slice aG on aF)) wr (w4.alloc (.cells #[z0,cS,.string z2,.pointer z3,.pointer z4,.slice pa bz ck,.slice bg qn br] 143)):=(bX.out.mono fun k _ hk=>Or.inl (hk ▸ bE.has)).trans (mC _ _)
      exact cE.append (cE.b8 bZ.own bZ.to _ _ (cE.b8 hA (fun _ _ h=>h) _ _ iO)) (cy.b8 bZ.own bZ.to _ _ (cy.b8 (mC _ _) (fun _ _ h=>h) _ _ jm))
     ·have h1:=(G3 f1).stmt bP
      have h2:=mn.out;simp only[anU,anK,anY]at h2 ⊢;omega
     ·rw[(gC.Cv bZ.out (fK.quiet (mC _ _))).par.len,bE.par.len]
      exact (G3 f1).stmt bP
structure ZI (f:Nat):Prop where
 block:KU f
 stmt:LQ f
 named:LK f
theorem aiC:∀f,ZI f:=by
 intro f;induction f using Nat.strongRecOn with
 | ind f ih =>
   cases f with
   | zero=>exact⟨fun _ _ _ _ _ _ _ _ h=>by simp[pk]at h,fun _ _ _ _ _ _ _ _ h=>by simp[uR]at h,fun _ _ _ _ _ _ _ _ _ _ h=>by simp[uL]at h⟩
   | succ f =>
     have h:=ih f (by omega);exact⟨aad f (fun g hg=>(ih g (by omega)).stmt),ajH f (exprs f) h.block h.named,agJ f (exprs f)⟩
def behind (f:Nat) (n:List UInt8) (ta:Int) (ps:List (List UInt8×Int)) (eY:List Tok):gm Fn:=andThen (pk f 0 eY) fun b jK=>fV ⟨n,ta,ps,b⟩ jK
def ZD (S:Nat->Prop) (b f:Nat) (n:List UInt8) (ta:Int) (W:World) (x:Except (Int×Int) (Fn×List Tok)) (fv:Value) (wr:World):Prop :=
 ∃ff first l r aG on aF,ff<=f/\fv=.bool first/\andThen (mK ff first l r) (behind f n ta)=some x/\nB W wr b S r [.string ⟨n.toArray⟩,ta,.slice aG on aF,.slice none 0 0]/\ig wr (W.heap.size+2) (ku S W.heap.size) 91 2 (.slice aG on aF) l.length (kn l)/\l.length+r.length<=10000000
theorem acy (f:Nat):P3 (f+1):=by
 intro b S ts W x h hx;simp only[uu]at hx;have hx:andThen (must JU ts) (fun _ r=>andThen (nu r) fun n r2=>andThen (must [40] r2) fun _ r3=>andThen (mK f true [] r3) (behind f n (iu ts)))=some x:=hx;have aP:=af h;have aA:=af (aiC f).block;obtain⟨i0,hi,hz0,hz1,hz2⟩:=info_parts Wd;have aI:=af (⟨hi,hz0,hz1,hz2⟩:_/\_/\_/\_);obtain⟨⟨g,o,c,hp⟩,hL,_,_,_⟩:=h;obtain⟨t,mL,rfl⟩:=s8 hp.ends;have hl:=hp.cl;have ha:=hp.ca;have iD:=hp.cap;have lJ:=hp.max;have hbl:b<W.heap.size:=aP.old b aP.has;have gS:g<W.heap.size:=Nat.lt_trans hp.lt hbl;have iw:iu (t::mL)=t.at_:=rfl;obtain⟨ta,wb⟩:=aq (t.at_);rw[<-wb]at ha iw;simp only[anK]at iD;have hN:(t::mL).length<=10000000:=aP.par.short;obtain⟨ts,kO⟩:=aq (t::mL);rw[<-kO]at hx aP iw hN;rw[iw]at hx;have aj:=af hx;have jf:=af hN;clear hp hL iw wb kO hx hN hi hz0 hz1 hz2;go_in;go_wp2_with fail;have iB:=af (nB.start aP ta);obtain⟨w0,hw0⟩:=aq ((W.alloc (.cells #[.string ⟨#[]⟩,.int .i64 0,.slice none 0 0,.slice none 0 0] 84)).alloc (.cells #[.string ⟨#[]⟩,ta,.slice none 0 0,.slice none 0 0] 84));rw[<-hw0]at iB ⊢;have hsz:Hid (w0.heap.size=W.heap.size+2):=af (by rw[hw0];simp);clear hw0 aP hl ha iD lJ hbl gS;have xT:=af (hsz.out ▸ ig.nil 91 2 iB.rd (ag.refl (·=b) w0):ig w0 (W.heap.size+2) (ku S W.heap.size) 91 2 (.slice none 0 0) 0 []);clear hsz;refine l9 (s:=JU) (af ay) (af iB.rd) aj ?_ ?_
 ·rintro n a rfl g w aA aD
  go_wp2;exact⟨rfl,g,rfl,aA,iB.mods.trans aD⟩
 clear aj;rintro r1 xZ aj w1 bE aO -;have H1:=af (iB.next bE aO.out);have lX:=af (xT.next iB.rd.has aO.out);clear aO bE iB xT;go_wp2_with fail;refine D3 (af ay) (af H1.rd) aj ?_ ?_
 ·rintro n a rfl g w aA aD
  go_wp2;exact⟨rfl,g,rfl,aA,H1.mods.trans aD⟩
 clear aj;rintro n r2 cW aj w2 bI aN -;have cg:=af (H1.next bI aN.out);have o9:=af (lX.next H1.rd.has aN.out);clear aN bI H1 lX;have c0:=cg.own.ah 0;have f0:=cg.own.free 0;go_wp2_with fail;have cB:=af (cg.put (ds:=[.string ⟨n.toArray⟩,.int .i64 ta,.slice none 0 0,.slice none 0 0]) 0 (.string ⟨n.toArray⟩) rfl);have qB:=af (o9.keep (cm w2 (W.heap.size+1) 0 (.string ⟨n.toArray⟩)) (by intro k hk;cases hk));obtain⟨w3,hw3⟩:=aq (w2.setCell ⟨W.heap.size+1,0,none⟩ (.string ⟨n.toArray⟩));rw[<-hw3]at cB qB ⊢;clear hw3 cg o9 c0 f0;refine l9 (s:=[40]) (af ay) (af cB.rd) aj ?_ ?_
 ·rintro n a rfl g w aA aD
  go_wp2;exact⟨rfl,g,rfl,aA,cB.mods.trans aD⟩
 clear aj;rintro eY zw aj w4 fK bX -;have bj:=af (cB.next fK bX.out);have gC:=af (qB.next cB.rd.has bX.out);clear bX fK cB qB;go_wp2_with fail
 go_loopw [4] (fun fv wr=>ZD S b f n ta W x fv wr) (fun _ wr=>lenOf wr b)
 case atStart =>
  refine⟨f,true,[],eY,_,_,_,anD _,rfl,aj,bj,gC,?_⟩;have a1:=jf.out;have a2:=congrArg List.length xZ.2;have a3:=nT cW;have a4:=congrArg List.length zw.2;simp only[anY,aoi]at *;omega
 case round =>
  clear aj bj gC jf xZ cW zw;obtain⟨ff,first,l,r,aG,on,aF,FX,rfl,hb,TY,hg,hn⟩:=hrel;have H1:=af TY;have lX:=af hg;have aT:=af hn;clear TY hg hn;cases ff with
  | zero=>simp[mK,andThen]at hb
  | succ f1 =>
    rw[ahr]at hb;have aj:=af hb;clear hb;go_wp2_with fail;refine o8 (s:=[41]) (af ay) (af H1.rd) aj ?_ ?_
    ·clear aj
     rintro-aj w2 bI aN -;have cg:=af (H1.next bI aN.out);have o9:=af (lX.next H1.rd.has aN.out);clear aN bI H1 lX;have bh:Hid (andThen (pk f 0 r.tail) (fun b jK=>fV (⟨n,ta,l,b⟩:Fn) jK)=some x):=aj;clear aj;go_wp2_with fail;refine lG (af ay) (af cg.rd) bh (fun y hy=>aA.out b (ku S W.heap.size) 0 r.tail w2 y (by omega) cg.rd hy) ?_ ?_
     ·rintro n a rfl g w aA aD
      go_wp2;exact⟨rfl,g,rfl,aA,cg.mods.trans aD⟩
     clear bh;rintro bl r3-aj bq w3 hv dp aR -;obtain⟨XE,hrow,sA⟩:=hv;obtain⟨Bp,xa,bc,rfl⟩:=hrow.form;have mo:=af hrow;have j8:=af sA;have jg:=af (o9.next cg.rd.has aR.out).rowAt;have cB:=af (cg.next dp aR.out);clear aR dp hrow sA cg o9;obtain rfl:=(anz aj).symm;have c3:=cB.own.ah 3;have f3:=cB.own.free 3;have kL:=cB.own.lt;go_upto_region 17 with fail
     have dy:=cB.qj 3 (.slice Bp xa bc);have iU:=af (cE.b8 dy (fun _ _ h=>h) _ _ j8);have Ra:=af (mo.mods dy (fun _ _ h=>h));have jm:=af (jg.mods dy (fun _ _ h=>h));have bj:=af (cB.put (ds:=[.string ⟨n.toArray⟩,.int .i64 ta,.slice aG on aF,.slice Bp xa bc]) 3 (.slice Bp xa bc) rfl);obtain⟨w4,hw4⟩:=aq (w3.setCell ⟨W.heap.size+1,3,none⟩ (.slice Bp xa bc));clear dy;rw[<-hw4]at bj iU Ra jm ⊢;clear hw4 kL cB j8 mo jg c3 f3;obtain⟨c0,c1,c2,c3⟩:=bj.own.gG;obtain⟨d0,e0,d1,e1,d2,e2,d3,e3⟩:=bj.res.gN;go_wp2;obtain⟨cH,lK,rk,rq⟩:=bj.ret rfl;obtain⟨q0,q1,q2,q3⟩:=cH.gG;refine bodyPost_ret (v:=.agg #[.string ⟨n.toArray⟩,ta,.slice aG on aF,.slice Bp xa bc]) (by simp[results,results31,go_sem,q0,q1,q2,q3]) rfl ?_;exact⟨_,rfl,⟨_,rfl,rM.b8 (x:=⟨n,ta,l,bl⟩) ⟨_,_,_,rfl,jm,Ra,iU⟩ rq AH⟩,rk,lK⟩
    ·clear aj
     rintro-aj;cases first
     ·have ek:Hid (andThen (must [44] r) (fun _ r=>andThen (nu r) fun n2 r2=>andThen (must [58] r2) fun _ r3=>if cR Cj r3 then andThen (mK f1 false (l++[(n2,2)]) r3.tail) (behind f n ta) else andThen (must Ck r3) fun _ eY=>andThen (mK f1 false (l++[(n2,1)]) eY) (behind f n ta))=some x):=aj
      clear aj;go_wp2_with fail;refine l9 (s:=[44]) (af ay) (af H1.rd) ek ?_ ?_
      ·rintro n a rfl g w aA aD
       go_wp2;exact⟨rfl,g,rfl,aA,H1.mods.trans aD⟩
      clear ek;rintro q2 cW aj w2 bI aN -;have cg:=af (H1.next bI aN.out);have o9:=af (lX.next H1.rd.has aN.out);clear aN bI lX;go_wp2_with fail;refine D3 (af ay) (af cg.rd) aj ?_ ?_
      ·rintro n a rfl g w aA aD
       go_wp2;exact⟨rfl,g,rfl,aA,cg.mods.trans aD⟩
      clear aj;rintro bz q3 vk aj w3 dp aR -;have cB:=af (cg.next dp aR.out);have qB:=af (o9.next cg.rd.has aR.out);clear aR dp cg o9;go_wp2_with fail;have tZ:=af ((ag.refl ai w3).alloc (.cells #[.string ⟨bz.toArray⟩,.int .i64 1] 91));have bj:=af (cB.quiet tZ);have gC:=af (qB.alloc (.cells #[.string ⟨bz.toArray⟩,.int .i64 1] 91));obtain⟨pb,uB⟩:=aq (w3.heap.size);have ua:=af (aw.new w3 #[.string ⟨bz.toArray⟩,.int .i64 1] 91);have j5:Hid (¬pb=b):=af (by have:=cB.rd.old b cB.rd.has;omega);have fe:Hid (W.heap.size+1<pb):=af (by have:=cB.own.lt;omega);have NU:Hid (∀k,(Value.slice aG on aF).ownBlock=some k->¬k=pb):=af (by intro k hk he;have:=(qB.row.lt k hk).2;omega);obtain⟨w4,hw4⟩:=aq (w3.alloc (.cells #[.string ⟨bz.toArray⟩,.int .i64 1] 91));rw[<-hw4]at bj gC ua tZ ⊢;rw[<-uB]at ua ⊢;clear hw4 uB cB qB tZ;refine l9 (s:=[58]) (af ay) (af bj.rd) aj ?_ ?_
      ·rintro n a rfl g w aA aD
       go_wp2;exact⟨rfl,g,rfl,aA,bj.mods.trans aD⟩
      clear aj;rintro q5 A4 aj aJ dB bM -;have dR:=af (bj.next dB bM.out);have pQ:=af (gC.next bj.rd.has bM.out);have oH:=af (ua.mods bM.out j5.out);clear bM dB bj gC ua;go_wp2_with fail;refine o8 (s:=Cj) (af ay) (af dR.rd) aj ?_ ?_
      ·clear aj
       rintro-aj bw rS bG -;have gA:=af (dR.next rS bG.out);have wS:=af (pQ.next dR.rd.has bG.out);have rR:=af (oH.mods bG.out j5.out);clear bG rS dR pQ oH;have p1:=rR.ah 1;have Ml:=rR.free 1;go_upto_region 15 with fail
       have dE:=cm bw pb 1 (.int .i64 2);have er:=af (gA.cQ dE (by rintro k rfl;exact fe.out));have CS:=af (iC (ds:=[.string ⟨bz.toArray⟩,.int .i64 2]) rR 1 (.int .i64 2) rfl);have Qo:=af (wS.keep dE NU.out);obtain⟨a7,Aj⟩:=aq (bw.setCell ⟨pb,1,none⟩ (.int .i64 2));rw[<-Aj]at er Qo CS dE ⊢;clear Aj gA wS rR dE p1 Ml;have c2:=er.own.ah 2;have p0:=CS.ah 0;have p1:=CS.ah 1;have n7:=af (Qo.alloc (.cells #[.string ⟨bz.toArray⟩,.int .i64 2] 91));have bR:=af ((ag.refl ai a7).alloc (.cells #[.string ⟨bz.toArray⟩,.int .i64 2] 91));have AW:=af (er.quiet bR);go_wp2_with (at_builtin;refine wpList_append_own_at _ rfl _ _ 81 rfl (W.heap.size+2) 91 i0 _ 2 24 underlying81 aI.1 aI.2.1 aI.2.2.1 aI.2.2.2 rfl (by decide) (.slice aG on aF) l.length (kn l) rfl n7.row ⟨a7.heap.size,0,none⟩ 1 1 [.string ⟨bz.toArray⟩,.int .i64 2] rfl rfl (Er _ _ _ _) (KL _ _) (by have:=aT.out;unfold maxLen;omega) (by have:=aT.out;omega) n7.base ?_;intro v' wK hown cr hnil hloc;have bZ:Hid (kr (a7.alloc (.cells #[.string ⟨bz.toArray⟩,.int .i64 2] 91)) wK (.slice aG on aF) v'):=af (py cr hloc);have b6:=af (n7.zN bZ hown);clear hown cr hnil hloc;refine Hid.out ?_);refine af ?_;have n5:=af (AW.cQ bZ.mods (fun k hk=>by have:=(n7.row.lt k hk).1;omega));obtain⟨bg,qn,br,rfl⟩:=b6.form;have c20:=n5.own.ah 2;have f20:=n5.own.free 2;have NA:=n5.own.lt;go_wp2_with fail;have uZ:=n5.put (ds:=[.string ⟨n.toArray⟩,.int .i64 ta,.slice bg qn br,.slice none 0 0]) 2 (.slice bg qn br) rfl;refine⟨⟨f1,false,l++[(bz,2)],_,bg,qn,br,by omega,rfl,aj,uZ,?_,?_⟩,?_⟩
       ·rw[Eb]
        have:=b6.keep (cm wK (W.heap.size+1) 2 (.slice bg qn br)) (by intro k hk he;have:=(b6.row.lt k hk).1;omega);simpa [str] using this
       ·have h2:=aT.out
        have a1:=nT vk;have a2:=congrArg List.length A4.2;have a3:=congrArg List.length cW.2;simp only[anU,anK,anY,aoi]at *;omega
       ·rw[uZ.rd.par.len,H1.rd.par.len]
        have a1:=nT vk;have a2:=congrArg List.length A4.2;have a3:=congrArg List.length cW.2;simp only[aoi]at *;omega
      clear aj;rintro-aj;go_wp2_with fail;refine l9 (s:=Ck) (af ay) (af dR.rd) aj ?_ ?_
      ·rintro n a rfl g w aA aD
       go_wp2;exact⟨rfl,g,rfl,aA,dR.mods.trans aD⟩
      clear aj;rintro q6 zx aj bw rS bG -;have gA:=af (dR.next rS bG.out);have wS:=af (pQ.next dR.rd.has bG.out);have rR:=af (oH.mods bG.out j5.out);clear bG rS dR pQ oH;go_upto_region 15 with fail
      have c2:=gA.own.ah 2;have p0:=rR.ah 0;have p1:=rR.ah 1;have n7:=af (wS.alloc (.cells #[.string ⟨bz.toArray⟩,.int .i64 1] 91));have bR:=af ((ag.refl ai bw).alloc (.cells #[.string ⟨bz.toArray⟩,.int .i64 1] 91));have AW:=af (gA.quiet bR);go_wp2_with (at_builtin;refine wpList_append_own_at _ rfl _ _ 81 rfl (W.heap.size+2) 91 i0 _ 2 24 underlying81 aI.1 aI.2.1 aI.2.2.1 aI.2.2.2 rfl (by decide) (.slice aG on aF) l.length (kn l) rfl n7.row ⟨bw.heap.size,0,none⟩ 1 1 [.string ⟨bz.toArray⟩,.int .i64 1] rfl rfl (Er _ _ _ _) (KL _ _) (by have:=aT.out;unfold maxLen;omega) (by have:=aT.out;omega) n7.base ?_;intro v' wK hown cr hnil hloc;have bZ:Hid (kr (bw.alloc (.cells #[.string ⟨bz.toArray⟩,.int .i64 1] 91)) wK (.slice aG on aF) v'):=af (py cr hloc);have b6:=af (n7.zN bZ hown);clear hown cr hnil hloc;refine Hid.out ?_);refine af ?_;have n5:=af (AW.cQ bZ.mods (fun k hk=>by have:=(n7.row.lt k hk).1;omega));obtain⟨bg,qn,br,rfl⟩:=b6.form;have c20:=n5.own.ah 2;have f20:=n5.own.free 2;have NA:=n5.own.lt;go_wp2_with fail;have uZ:=n5.put (ds:=[.string ⟨n.toArray⟩,.int .i64 ta,.slice bg qn br,.slice none 0 0]) 2 (.slice bg qn br) rfl;refine⟨⟨f1,false,l++[(bz,1)],_,bg,qn,br,by omega,rfl,aj,uZ,?_,?_⟩,?_⟩
      ·rw[Eb]
       have:=b6.keep (cm wK (W.heap.size+1) 2 (.slice bg qn br)) (by intro k hk he;have:=(b6.row.lt k hk).1;omega);simpa [str] using this
      ·have h2:=aT.out
       have a1:=nT vk;have a2:=congrArg List.length A4.2;have a3:=congrArg List.length cW.2;have a4:=congrArg List.length zx.2;simp only[anU,anK,anY,aoi]at *;omega
      ·rw[uZ.rd.par.len,H1.rd.par.len]
       have a1:=nT vk;have a2:=congrArg List.length A4.2;have a3:=congrArg List.length cW.2;have a4:=congrArg List.length zx.2;simp only[aoi]at *;omega
     ·have ek:Hid (andThen (nu r) (fun n2 r2=>andThen (must [58] r2) fun _ r3=>if cR Cj r3 then andThen (mK f1 false (l++[(n2,2)]) r3.tail) (behind f n ta) else andThen (must Ck r3) fun _ eY=>andThen (mK f1 false (l++[(n2,1)]) eY) (behind f n ta))=some x):=aj
      clear aj;have aj:=ek;clear ek;go_wp2_with fail;refine D3 (af ay) (af H1.rd) aj ?_ ?_
      ·rintro n a rfl g w aA aD
       go_wp2;exact⟨rfl,g,rfl,aA,H1.mods.trans aD⟩
      clear aj;rintro bz q2 cW aj w2 bI aN -;have cg:=af (H1.next bI aN.out);have o9:=af (lX.next H1.rd.has aN.out);clear aN bI lX;go_wp2_with fail;have tZ:=af ((ag.refl ai w2).alloc (.cells #[.string ⟨bz.toArray⟩,.int .i64 1] 91));have cB:=af (cg.quiet tZ);have qB:=af (o9.alloc (.cells #[.string ⟨bz.toArray⟩,.int .i64 1] 91));obtain⟨pb,uB⟩:=aq (w2.heap.size);have u_:=af (aw.new w2 #[.string ⟨bz.toArray⟩,.int .i64 1] 91);have j5:Hid (¬pb=b):=af (by have:=cg.rd.old b cg.rd.has;omega);have fe:Hid (W.heap.size+1<pb):=af (by have:=cg.own.lt;omega);have NU:Hid (∀k,(Value.slice aG on aF).ownBlock=some k->¬k=pb):=af (by intro k hk he;have:=(o9.row.lt k hk).2;omega);obtain⟨w3,hw3⟩:=aq (w2.alloc (.cells #[.string ⟨bz.toArray⟩,.int .i64 1] 91));rw[<-hw3]at cB qB u_ tZ ⊢;rw[<-uB]at u_ ⊢;clear hw3 uB cg o9 tZ;refine l9 (s:=[58]) (af ay) (af cB.rd) aj ?_ ?_
      ·rintro n a rfl g w aA aD
       go_wp2;exact⟨rfl,g,rfl,aA,cB.mods.trans aD⟩
      clear aj;rintro q4 zw aj w4 fK bX -;have bj:=af (cB.next fK bX.out);have gC:=af (qB.next cB.rd.has bX.out);have ua:=af (u_.mods bX.out j5.out);clear bX fK cB qB u_;go_wp2_with fail;refine o8 (s:=Cj) (af ay) (af bj.rd) aj ?_ ?_
      ·clear aj
       rintro-aj aJ dB bM -;have dR:=af (bj.next dB bM.out);have pQ:=af (gC.next bj.rd.has bM.out);have oH:=af (ua.mods bM.out j5.out);clear bM dB bj gC ua;have p1:=oH.ah 1;have Ml:=oH.free 1;go_upto_region 15 with fail
       have dE:=cm aJ pb 1 (.int .i64 2);have gA:=af (dR.cQ dE (by rintro k rfl;exact fe.out));have rR:=af (iC (ds:=[.string ⟨bz.toArray⟩,.int .i64 2]) oH 1 (.int .i64 2) rfl);have wS:=af (pQ.keep dE NU.out);obtain⟨bw,Gs⟩:=aq (aJ.setCell ⟨pb,1,none⟩ (.int .i64 2));rw[<-Gs]at gA wS rR dE ⊢;clear Gs dR pQ oH dE p1 Ml;have c2:=gA.own.ah 2;have p0:=rR.ah 0;have p1:=rR.ah 1;have n7:=af (wS.alloc (.cells #[.string ⟨bz.toArray⟩,.int .i64 2] 91));have bR:=af ((ag.refl ai bw).alloc (.cells #[.string ⟨bz.toArray⟩,.int .i64 2] 91));have AW:=af (gA.quiet bR);go_wp2_with (at_builtin;refine wpList_append_own_at _ rfl _ _ 81 rfl (W.heap.size+2) 91 i0 _ 2 24 underlying81 aI.1 aI.2.1 aI.2.2.1 aI.2.2.2 rfl (by decide) (.slice aG on aF) l.length (kn l) rfl n7.row ⟨bw.heap.size,0,none⟩ 1 1 [.string ⟨bz.toArray⟩,.int .i64 2] rfl rfl (Er _ _ _ _) (KL _ _) (by have:=aT.out;unfold maxLen;omega) (by have:=aT.out;omega) n7.base ?_;intro v' wK hown cr hnil hloc;have bZ:Hid (kr (bw.alloc (.cells #[.string ⟨bz.toArray⟩,.int .i64 2] 91)) wK (.slice aG on aF) v'):=af (py cr hloc);have b6:=af (n7.zN bZ hown);clear hown cr hnil hloc;refine Hid.out ?_);refine af ?_;have n5:=af (AW.cQ bZ.mods (fun k hk=>by have:=(n7.row.lt k hk).1;omega));obtain⟨bg,qn,br,rfl⟩:=b6.form;have c20:=n5.own.ah 2;have f20:=n5.own.free 2;have NA:=n5.own.lt;go_wp2_with fail;have uZ:=n5.put (ds:=[.string ⟨n.toArray⟩,.int .i64 ta,.slice bg qn br,.slice none 0 0]) 2 (.slice bg qn br) rfl;refine⟨⟨f1,false,l++[(bz,2)],_,bg,qn,br,by omega,rfl,aj,uZ,?_,?_⟩,?_⟩
       ·rw[Eb]
        have:=b6.keep (cm wK (W.heap.size+1) 2 (.slice bg qn br)) (by intro k hk he;have:=(b6.row.lt k hk).1;omega);simpa [str] using this
       ·have h2:=aT.out
        have a1:=nT cW;have a2:=congrArg List.length zw.2;simp only[anU,anK,anY,aoi]at *;omega
       ·rw[uZ.rd.par.len,H1.rd.par.len]
        have a1:=nT cW;have a2:=congrArg List.length zw.2;simp only[aoi]at *;omega
      clear aj;rintro-aj;go_wp2_with fail;refine l9 (s:=Ck) (af ay) (af bj.rd) aj ?_ ?_
      ·rintro n a rfl g w aA aD
       go_wp2;exact⟨rfl,g,rfl,aA,bj.mods.trans aD⟩
      clear aj;rintro q5 A4 aj aJ dB bM -;have dR:=af (bj.next dB bM.out);have pQ:=af (gC.next bj.rd.has bM.out);have oH:=af (ua.mods bM.out j5.out);clear bM dB bj gC ua;go_upto_region 15 with fail
      have c2:=dR.own.ah 2;have p0:=oH.ah 0;have p1:=oH.ah 1;have n7:=af (pQ.alloc (.cells #[.string ⟨bz.toArray⟩,.int .i64 1] 91));have bR:=af ((ag.refl ai aJ).alloc (.cells #[.string ⟨bz.toArray⟩,.int .i64 1] 91));have AW:=af (dR.quiet bR);go_wp2_with (at_builtin;refine wpList_append_own_at _ rfl _ _ 81 rfl (W.heap.size+2) 91 i0 _ 2 24 underlying81 aI.1 aI.2.1 aI.2.2.1 aI.2.2.2 rfl (by decide) (.slice aG on aF) l.length (kn l) rfl n7.row ⟨aJ.heap.size,0,none⟩ 1 1 [.string ⟨bz.toArray⟩,.int .i64 1] rfl rfl (Er _ _ _ _) (KL _ _) (by have:=aT.out;unfold maxLen;omega) (by have:=aT.out;omega) n7.base ?_;intro v' wK hown cr hnil hloc;have bZ:Hid (kr (aJ.alloc (.cells #[.string ⟨bz.toArray⟩,.int .i64 1] 91)) wK (.slice aG on aF) v'):=af (py cr hloc);have b6:=af (n7.zN bZ hown);clear hown cr hnil hloc;refine Hid.out ?_);refine af ?_;have n5:=af (AW.cQ bZ.mods (fun k hk=>by have:=(n7.row.lt k hk).1;omega));obtain⟨bg,qn,br,rfl⟩:=b6.form;have c20:=n5.own.ah 2;have f20:=n5.own.free 2;have NA:=n5.own.lt;go_wp2_with fail;have uZ:=n5.put (ds:=[.string ⟨n.toArray⟩,.int .i64 ta,.slice bg qn br,.slice none 0 0]) 2 (.slice bg qn br) rfl;refine⟨⟨f1,false,l++[(bz,1)],_,bg,qn,br,by omega,rfl,aj,uZ,?_,?_⟩,?_⟩
      ·rw[Eb]
       have:=b6.keep (cm wK (W.heap.size+1) 2 (.slice bg qn br)) (by intro k hk he;have:=(b6.row.lt k hk).1;omega);simpa [str] using this
      ·have h2:=aT.out
       have a1:=nT cW;have a2:=congrArg List.length zw.2;have a4:=congrArg List.length A4.2;simp only[anU,anK,anY,aoi]at *;omega
      ·rw[uZ.rd.par.len,H1.rd.par.len]
       have a1:=nT cW;have a2:=congrArg List.length zw.2;have a4:=congrArg List.length A4.2;simp only[aoi]at *;omega

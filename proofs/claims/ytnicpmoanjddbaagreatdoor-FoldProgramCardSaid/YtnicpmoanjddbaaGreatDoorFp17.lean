/- A part of what stands behind. -/
import Derived.Test.YtnicpmoanjddbaaGreatDoorFp16
set_option maxRecDepth 100000
set_option maxHeartbeats 4000000
set_option linter.all false
namespace Go.Proofs.YtnicpmoanjddbaaGreatDoor
namespace aW
open Go.RowKit bB Go.Maps aB Go.Proofs.Tryz
variable {i g q aQ n base:Nat} {S T:Nat->Prop} {l m:List ax} {W w:World} {F:ar} {fv v:Value} {s x:ax} {a b:Int} {k:bn} {p:ax->Bool}
theorem aae:(prog.info? 4).map (fun i=>(i.zero,i.size,i.bytes))=some (some (.bool false),1,1):=by kernel_rfl
theorem aaf:(prog.info? 173).map (fun i=>(i.zero,i.size,i.bytes))=some (some (.slice none 0 0),1,24):=by kernel_rfl
theorem VM (z:Value) (hz:z.cells=#[z]) (n:Nat):madeCells z.cells (n*1)=(List.replicate n z).toArray:=by
 rw[hz];apply Array.ext
 ·simp[madeCells]
 ·intro i h1 h2
  simp[madeCells,Nat.mod_one]
theorem agl (n:Nat) (hn:n<=1000000) (w:World):(Instr.makeSlice 173 (.int .i64 (n:Int)) (.int .i64 (n:Int))).run prog w=.ok (.slice (some ⟨w.heap.size,0,none⟩) n n) (w.alloc (.cells (List.replicate n (Value.bool false)).toArray 4)):=by
 obtain⟨i0,hi,hz0,hz1,hz2⟩:=info_parts aae;have h:=Ef (P:=prog) 173 4 i0 (.bool false) underlying173 hi hz0 .i64 .i64 n (by rw[hz2];omega) (by omega) w;rw[h,hz1,VM _ rfl]
theorem agr (n:Nat) (hn:n<=1000000) (w:World):(Instr.makeSlice 170 (.int .i64 (n:Int)) (.int .i64 (n:Int))).run prog w=.ok (.slice (some ⟨w.heap.size,0,none⟩) n n) (w.alloc (.cells (List.replicate n (Value.slice none 0 0)).toArray 173)):=by
 obtain⟨i0,hi,hz0,hz1,hz2⟩:=info_parts aaf;have h:=Ef (P:=prog) 170 173 i0 (.slice none 0 0) underlying170 hi hz0 .i64 .i64 n (by rw[hz2];omega) (by omega) w;rw[h,hz1,VM _ rfl]
theorem RS (n:Nat):List.replicate n (Value.bool false)=uj n (fun _=>false):=by
 unfold uj;apply List.ext_getElem?;intro i;simp only[aoT,anV];by_cases h:i<n
 ·rw[aoM h,if_pos h];rfl
 ·rw[if_neg h,aoG (by simpa using h)];rfl
def XQ (F:ar) (W:World) (e:Ending) (w:World):Prop:=∃ (g:Nat) (R:List Nat) (B:Nat->Nat->Bool),e=.returned (.slice (some ⟨g,0,none⟩) F.steps.length F.steps.length)/\R.length=F.steps.length/\pY w g R F.types.length B/\(∀i p:Nat,i<F.steps.length->p<F.types.length->B i p=wB F i (p:Int))/\ag ai W w
structure Ev (w3:World) (fH im tn sn i:Nat) (e8 e7:List Nat) (wr:World):Prop where
 lb:e8.length=i
 jx:e7.length=i
 b:aw wr fH (e8.map (tM tn)++List.replicate (sn-i) (.slice none 0 0)) 173
 a:aw wr im (e7.map (tM tn)++List.replicate (sn-i) (.slice none 0 0)) 173
 rows:∀r∈e8++e7,aw wr r (uj tn (fun _=>false)) 4
 uM:(e8++e7).Nodup
 cQ:∀r∈e8++e7,w3.heap.size<=r
 mods:ag (fun k=>k=fH\/k=im) w3 wr
theorem WW {α:Type} (l:List α) (x z:α) (n:Nat) (h:0<n):(l++List.replicate n z).set l.length x=(l++[x])++List.replicate (n-1) z:=by
 rw[List.set_append_right _ _ (anD _),aog];obtain⟨m,rfl⟩:∃m,n=m+1:=⟨n-1,by omega⟩;simp[List.replicate_succ]
theorem Ev.step {w3:World} {fH im tn sn:Nat} {e8 e7:List Nat} {wr:World} (h:Ev w3 fH im tn sn i e8 e7 wr) (hi:i<sn) (hg:im≠fH) (gS:fH<w3.heap.size/\im<w3.heap.size) {pF qm:Nat} (hr:(pF=wr.heap.size/\qm=wr.heap.size+1)\/(pF=wr.heap.size+1/\qm=wr.heap.size)) :
 Ev w3 fH im tn sn (i+1) (e8++[pF]) (e7++[qm]) ((((wr.setCell ⟨fH,i,none⟩ (.slice (some ⟨pF,0,none⟩) tn tn)).setCell ⟨im,i,none⟩ (.slice (some ⟨qm,0,none⟩) tn tn)).alloc (.cells (Array.replicate tn (Value.bool false)) 4)).alloc (.cells (Array.replicate tn (Value.bool false)) 4)).drew:=by
 obtain⟨w4,hw4⟩:=aq ((wr.setCell ⟨fH,i,none⟩ (.slice (some ⟨pF,0,none⟩) tn tn)).setCell ⟨im,i,none⟩ (.slice (some ⟨qm,0,none⟩) tn tn));have bX:ag (fun k=>k=fH\/k=im) wr w4:=by
  rw[hw4];exact ((fN wr fH i _).mono fun _ _ e=>Or.inl e).trans ((fN _ im i _).mono fun _ _ e=>Or.inr e)
 have Ah:w4.heap.size=wr.heap.size:=by rw[hw4];simp[World.setCell]
 have bM:ag ai w4 ((w4.alloc (.cells (Array.replicate tn (Value.bool false)) 4)).alloc (.cells (Array.replicate tn (Value.bool false)) 4)).drew:=((ay.alloc _).alloc _).drew;have JJ:=h.mods.size;have hb:aw w4 fH ((e8++[pF]).map (tM tn)++List.replicate (sn-(i+1)) (.slice none 0 0)) 173:=by
  rw[hw4];refine aw.mods (S:=(·=im)) (fN _ im i _) ?_ (fun e=>hg e.symm);have h1:=h.b.set i (.slice (some ⟨pF,0,none⟩) tn tn);have e:(e8.map (tM tn)++List.replicate (sn-i) (Value.slice none 0 0)).set i (.slice (some ⟨pF,0,none⟩) tn tn)=(e8++[pF]).map (tM tn)++List.replicate (sn-(i+1)) (.slice none 0 0):=by
   have:=WW (e8.map (tM tn)) (tM tn pF) (.slice none 0 0) (sn-i) (by omega);rw[anR,h.lb]at this;rw[aot,show sn-(i+1)=sn-i-1 by omega];exact this
  rw[e]at h1;exact h1
 have ha:aw w4 im ((e7++[qm]).map (tM tn)++List.replicate (sn-(i+1)) (.slice none 0 0)) 173:=by
  rw[hw4];have h0:=h.a.mods (fN wr fH i (.slice (some ⟨pF,0,none⟩) tn tn)) hg;have h1:=h0.set i (.slice (some ⟨qm,0,none⟩) tn tn);have e:(e7.map (tM tn)++List.replicate (sn-i) (Value.slice none 0 0)).set i (.slice (some ⟨qm,0,none⟩) tn tn)=(e7++[qm]).map (tM tn)++List.replicate (sn-(i+1)) (.slice none 0 0):=by
   have:=WW (e7.map (tM tn)) (tM tn qm) (.slice none 0 0) (sn-i) (by omega);rw[anR,h.jx]at this;rw[aot,show sn-(i+1)=sn-i-1 by omega];exact this
  rw[e]at h1;exact h1
 have sr:aw ((w4.alloc (.cells (Array.replicate tn (Value.bool false)) 4)).alloc (.cells (Array.replicate tn (Value.bool false)) 4)).drew wr.heap.size (uj tn (fun _=>false)) 4:=by
  have:=((aw.new w4 (Array.replicate tn (Value.bool false)) 4).alloc (.cells (Array.replicate tn (Value.bool false)) 4)).drew;rw[<-RS,<-Ah];simpa using this
 have la:aw ((w4.alloc (.cells (Array.replicate tn (Value.bool false)) 4)).alloc (.cells (Array.replicate tn (Value.bool false)) 4)).drew (wr.heap.size+1) (uj tn (fun _=>false)) 4:=by
  have:=(Fj w4 (.cells (Array.replicate tn (Value.bool false)) 4) (Array.replicate tn (Value.bool false)) 4).drew;rw[<-RS,<-Ah];simpa using this
 have hold:∀r∈e8++e7,r<wr.heap.size:=fun r hr=>(h.rows r hr).lt
 have nj:∀r,r∈(e8++[pF])++(e7++[qm])->r∈e8++e7\/r=pF\/r=qm:=fun r hr=>by
  simp only[anQ,anS]at hr ⊢;rcases hr with (hr|hr)|hr|hr
  ·exact Or.inl (Or.inl hr)
  ·exact Or.inr (Or.inl hr)
  ·exact Or.inl (Or.inr hr)
  ·exact Or.inr (Or.inr hr)
 rw[<-hw4];refine⟨by simp[h.lb],by simp[h.jx],hb.mods bM id,ha.mods bM id,fun r Ag=>?_,?_,fun r Ag=>?_,(h.mods.trans bX).trans (bM.mono fun _ _ f=>f.elim)⟩
 ·rcases nj r Ag with h1|h1|h1
  ·have yx:=h.cQ r h1
   exact ((h.rows r h1).mods bX (fun e=>by omega)).mods bM id
  ·subst h1
   rcases hr with⟨e,_⟩|⟨e,_⟩
   ·rw[e];exact sr
   ·rw[e];exact la
  ·subst h1
   rcases hr with⟨_,e⟩|⟨_,e⟩
   ·rw[e];exact la
   ·rw[e];exact sr
 ·have Ab:=aoo.1 h.uM
  have hB:pF ∉ e8/\pF ∉ e7/\qm ∉ e8/\qm ∉ e7:=by
   refine⟨fun e=>?_,fun e=>?_,fun e=>?_,fun e=>?_⟩
   ·have:=hold _ (anQ.2 (Or.inl e));omega
   ·have:=hold _ (anQ.2 (Or.inr e));omega
   ·have:=hold _ (anQ.2 (Or.inl e));omega
   ·have:=hold _ (anQ.2 (Or.inr e));omega
  refine aoo.2 ⟨aoo.2 ⟨Ab.1,by simp,fun a ha b hb e=>?_⟩,aoo.2 ⟨Ab.2.1,by simp,fun a ha b hb e=>?_⟩,fun a ha b hb e=>?_⟩
  ·simp only[anS]at hb
   exact hB.1 (by rw[<-hb,<-e];exact ha)
  ·simp only[anS]at hb
   exact hB.2.2.2 (by rw[<-hb,<-e];exact ha)
  ·simp only[anQ,anS]at ha hb
   subst e;rcases ha with ha|ha
   ·rcases hb with hb|hb
    ·exact Ab.2.2 a ha a hb rfl
    ·exact hB.2.2.1 (hb ▸ ha)
   ·rcases hb with hb|hb
    ·exact hB.2.1 (ha ▸ hb)
    ·omega
 ·rcases nj r Ag with h1|h1|h1
  ·exact h.cQ r h1
  ·omega
  ·omega
theorem akq (s:ax):(jb s).length<=s.args.length+3:=by
 unfold jb;split
 ·simp
 ·split
  ·simp
  ·split
   ·simp
   ·split
    ·omega
    ·simp
theorem Z9 (hv:jc W S F fv) (qd:∀s∈F.steps,b9 s.label) (hlen:F.steps.length<=6000) (jv:F.types.length<=3000) (cC:∀s∈F.steps,s.args.length<=1000000) (hu:∀s∈F.steps,∀p∈jb s,0<=p/\p<F.types.length) :
 Calls prog 78 #[fv] W (XQ F W):=by
 have bQ:=af hv;obtain⟨ta,tc,sa,sc,rfl,hZ,hst⟩:=hv;obtain⟨W1,hW1⟩:=aq (W.alloc (.cells #[str F.name,F.params,.slice ta F.types.length tc,.slice sa F.steps.length sc] 55));have aO:ag ai W W1:=by rw[hW1];exact ay.alloc _
 have hb1:aw W1 W.heap.size [str F.name,F.params,.slice ta F.types.length tc,.slice sa F.steps.length sc] 55:=by rw[hW1];exact aw.new W _ _
 have tW:=af (afD F (.agg #[str F.name,F.params,.slice ta F.types.length tc,.slice sa F.steps.length sc]) W1 (bQ.mods (T:=ai) (aO.mono fun _ _ f=>f.elim) (fun _ _ f=>f.elim)) qd hlen);obtain⟨tn,dL⟩:=aq (F.types.length);obtain⟨sn,dG⟩:=aq (F.steps.length);rw[<-dL,<-dG]at hW1 hb1 tW ⊢;obtain⟨b0,b1,b2,b3⟩:=hb1.gG;have wa:(sn:Int)<=6000:=by omega
 have kN:(tn:Int)<=3000:=by omega
 have bD:=af hb1;have aD:=af aO;have lB:=af dG;have eR:=af dL;have HST:=af hst;have A5:=af hZ;have HH:=af (anw qd (anw hlen (anw jv (anw cC hu))));clear aO hb1 hZ hst qd hlen jv cC hu dL dG;unfold str at *;go_in;go_upto_region 1 with (fail)
 rw[<-hW1];clear hW1;go_wp2_with fail;refine tW.mono ?_;rintro e w2 ⟨aQ,xa,rfl,iE,jr,BI,aN⟩;have bY:=af (bD.mods aN id);have b2:=bY.ah 2;have b3:=bY.ah 3;have pR:=af iE;have bJ:=af (aD.trans aN);have lV:=af (show W1.heap.size<=aQ from jr);clear b0 b1 iE jr BI aN tW;go_upto_region 3 with (fail)
 have l6:=agr sn (by omega);have Tw:W.heap.size<w2.heap.size:=bY.lt;go_cut [5,6] (fun bv av w=>∃fH im,bv=.slice (some ⟨fH,0,none⟩) sn sn/\av=.slice (some ⟨im,0,none⟩) sn sn/\Hid (aw w fH (List.replicate sn (Value.slice none 0 0)) 173)/\Hid (aw w im (List.replicate sn (Value.slice none 0 0)) 173)/\Hid (im≠fH/\w2.heap.size<=im/\w2.heap.size<=fH)/\Hid (ag ai w2 w))
 case first =>
  go_region
  all_goals
   go_wp2_with fail;go_meet
   case rel =>
        have h0:aw ((w2.alloc (.cells (Array.replicate sn (Value.slice none 0 0)) 173)).alloc (.cells (Array.replicate sn (Value.slice none 0 0)) 173)).drew w2.heap.size (List.replicate sn (Value.slice none 0 0)) 173:=by
         have:=((aw.new w2 (Array.replicate sn (Value.slice none 0 0)) 173).alloc (.cells (Array.replicate sn (Value.slice none 0 0)) 173)).drew;simpa using this
        have h1:aw ((w2.alloc (.cells (Array.replicate sn (Value.slice none 0 0)) 173)).alloc (.cells (Array.replicate sn (Value.slice none 0 0)) 173)).drew (w2.heap.size+1) (List.replicate sn (Value.slice none 0 0)) 173:=by
         have:=(Fj w2 (.cells (Array.replicate sn (Value.slice none 0 0)) 173) (Array.replicate sn (Value.slice none 0 0)) 173).drew;simpa using this
        have hm:ag ai w2 ((w2.alloc (.cells (Array.replicate sn (Value.slice none 0 0)) 173)).alloc (.cells (Array.replicate sn (Value.slice none 0 0)) 173)).drew:=((ay.alloc _).alloc _).drew
        first
        | exact⟨w2.heap.size,w2.heap.size+1,rfl,rfl,af h0,af h1,af ⟨by omega,by omega,by omega⟩,af hm⟩
        | exact⟨w2.heap.size+1,w2.heap.size,rfl,rfl,af h1,af h0,af ⟨by omega,by omega,by omega⟩,af hm⟩
 case rest =>
 obtain⟨w3,rfl⟩:=aq wc;obtain⟨fH,im,rfl,rfl,gB,eK,HG,cv⟩:=hcut;have b3:=(bY.mods cv id).ah 3;clear b2 l6 Tw;have rN:Hid (Ev w3 fH im tn sn 0 [] [] w3):=af ⟨rfl,rfl,gB,eK,fun r hr=>by simp at hr,by simp,fun r hr=>by simp at hr,ag.refl _ _⟩;go_wp2_with fail;clear b3
 go_loopw [34] (fun iv wr=>∃i e8 e7,i<=sn/\iv=.int .i64 ((i:Nat):Int)/\Hid (Ev w3 fH im tn sn i e8 e7 wr)) (fun iv _=>(sn-intOf iv).toNat)
 case atStart=>exact⟨0,[],[],anC _,rfl,rN⟩
 case round =>
  clear rN;obtain⟨i,e8,e7,hi,rfl,HS⟩:=hrel;by_cases hlt:i<sn
  ·have cA:(i:Int)<(sn:Int):=by omega
   have l6:=agl tn (by omega);have hbl:=HS.b.lt;have mD:=HS.a.lt;have ak6:wr.cell? ⟨fH,i,none⟩=some (.slice none 0 0):=HS.b.cell (by rw[anH (by rw[anR,HS.lb];exact anD _),anR,HS.lb,aog,aoT,if_pos (by omega)]);have Fs:wr.cell? ⟨im,i,none⟩=some (.slice none 0 0):=HS.a.cell (by rw[anH (by rw[anR,HS.jx];exact anD _),anR,HS.jx,aog,aoT,if_pos (by omega)]);have anv:=HS.b.free i;have anu:=HS.a.free i;have BR:im≠fH:=HG.1;have alQ:fH≠im:=fun e=>BR e.symm
   go_wp2_with fail;go_region
   all_goals
        go_wp2_with fail;refine⟨⟨i+1,e8++[_],e7++[_],by omega,by go_num,af (HS.step hlt BR ⟨gB.lt,eK.lt⟩ (by first|exact Or.inl ⟨rfl,rfl⟩|exact Or.inr ⟨rfl,rfl⟩))⟩,by simp[intOf];omega⟩
  ·obtain rfl:sn=i:=by omega
   have cA:¬(sn:Int)<(sn:Int):=(by omega);have hw2:W.heap.size<w2.heap.size:=bY.lt;have hw3:w2.heap.size<=w3.heap.size:=cv.size;have adr:aQ<w2.heap.size:=pR.lt;have Nk:=HG.out;have sq:ag ai W wr:=((bJ.trans cv).trans' HS.mods (fun k hk hl=>by omega));have qc:∀r∈e8++e7,w3.heap.size<=r:=HS.cQ;have gS:fH<w3.heap.size/\im<w3.heap.size:=⟨gB.lt,eK.lt⟩;have Tj:pY wr fH e8 tn (fun _ _=>false):=⟨by have h:=HS.b;rw[aog,List.replicate_zero,aoW]at h;exact h,fun j r hr=>HS.rows r (anQ.2 (Or.inl (anF hr))),(aoo.1 HS.uM).1,fun h=>by have:=qc fH (anQ.2 (Or.inl h));omega⟩;have Ti:pY wr im e7 tn (fun _ _=>false):=⟨by have h:=HS.a;rw[aog,List.replicate_zero,aoW]at h;exact h,fun j r hr=>HS.rows r (anQ.2 (Or.inr (anF hr))),(aoo.1 HS.uM).2.1,fun h=>by have:=qc im (anQ.2 (Or.inr h));omega⟩
   have cu:Hid (x8 W F [.string ⟨F.name.toArray⟩,F.params,.slice ta tn tc,.slice sa sn sc] ⟨fH,im,e8,e7,aQ,xa⟩ (fun _ _=>false) (fun _ _=>false) wr):=af
        ⟨by rw[<-eR.out];exact Tj,by rw[<-eR.out];exact Ti,by rw[HS.lb,lB.out],by rw[HS.jx,lB.out],HS.uM,⟨(fun h=>by have:=qc fH (anQ.2 (Or.inr h));omega),(fun h=>by have:=qc im (anQ.2 (Or.inl h));omega),Nk.1⟩,fun r hr=>by have:=qc r hr;omega,(fun h=>by have:=qc aQ h;omega),(bY.mods cv id).mods HS.mods (fun e=>by omega),(pR.mods cv id).mods HS.mods (fun e=>by omega),sq,fun lT lS hc j p hj hp=>⟨(fun h=>by cases h),(fun h=>by cases h)⟩⟩
   obtain⟨E,bT⟩:∃E:vq,E=⟨fH,im,e8,e7,aQ,xa⟩:=⟨_,rfl⟩;rw[<-bT]at cu;have a_:=af bT;obtain⟨fs,Dx⟩:∃fs,fs=[Value.string ⟨F.name.toArray⟩,.int .i64 F.params,.slice ta tn tc,.slice sa sn sc]:=⟨_,rfl⟩;rw[<-Dx]at cu;have zq:=af Dx;obtain⟨ya,zU⟩:=aq (E.e8++E.e7);have pT:=af zU;clear hw2 hw3 adr Nk sq qc gS Tj Ti bT Dx zU hlt HS gB eK cv pR lV bY bJ;go_wp2_with fail;clear cA
   go_loopw [8] (fun tF fX=>∃m B A,tF=.bool m/\Hid (x8 W F fs E B A fX)/\Hid (m=false->∀j,j<F.steps.length->Sat F B A j)) (fun tF fX=>2*r8 fX ya+(match tF with|.bool true=>1|_=>0))
   case atStart=>exact⟨true,_,_,rfl,cu,af (fun h=>by cases h)⟩
   case round =>
        obtain⟨aJ,rfl⟩:=aq wr;clear cu;obtain⟨m,B,A,rfl,cu,Q1⟩:=hrel;have SV:E.fH=fH/\E.im=im:=(by rw[a_.out];exact⟨rfl,rfl⟩);have CQ:=af SV;clear SV;cases m with
        | false =>
          go_wp2_with fail;go_ret;have h:=cu.out;have hr:=h.b;rw[CQ.1]at hr;exact⟨fH,E.e8,B,by rw[<-lB.out];rfl,h.lb,hr,fun j p hj hp=>aiD h (Q1 (by trivial)) HH.2.2.2.2 j p hj hp,h.mods⟩
        | true =>
          have hb:=cu.box;rw[zq.out]at hb;have b3:=hb.ah 3;obtain⟨f0,xq⟩:=aq (r8 aJ ya);have Qi:=af xq;have QW:Hid (lD W F fs E B A f0 (∀j:Nat,((sn:Int)-1)<(j:Int)->j<F.steps.length->Sat F B A j) false B A aJ):=af ⟨cu,fun _=>⟨rfl,rfl,fun j h1 h2=>by have:=lB.out;omega,by rw[xq,pT.out]⟩,fun h=>by cases h⟩;clear hb xq Q1;go_wp2_with fail;clear b3
          go_loopw [8,9] (fun tF KR dO=>∃m z iK ei,tF=.bool m/\KR=.int .i64 z/\-1<=z/\z<(sn:Int)/\Hid (lD W F fs E B A f0 (∀j:Nat,z<(j:Int)->j<F.steps.length->Sat F B A j) m iK ei dO)) (fun _ KR _=>(intOf KR+1).toNat)
          case atStart=>exact⟨false,(sn:Int)-1,B,A,rfl,rfl,by omega,by omega,QW⟩
          case round =>
           clear QW;obtain⟨bw,rfl⟩:=aq wr;obtain⟨m,z,iK,ei,rfl,rfl,hz1,hz2,bP⟩:=hrel;by_cases hz:0<=z
           ·obtain⟨k,rfl⟩:=aoh hz
            have ng:k<F.steps.length:=(by have:=lB.out;omega);obtain⟨x,cU⟩:∃x,F.steps[k]?=some x:=⟨_,anx ng⟩;have iF:F.steps[k]=x:=by
             obtain⟨h1,h2⟩:=anA.1 cU;exact h2
            have fp:x∈F.steps:=anF cU;obtain⟨pF,Jv⟩:∃r,E.e8[k]?=some r:=⟨_,anx (by rw[bP.st.lb];exact ng)⟩;obtain⟨qm,Ju⟩:∃r,E.e7[k]?=some r:=⟨_,anx (by rw[bP.st.jx];exact ng)⟩;have hb:=bP.st.box;rw[zq.out]at hb;obtain⟨b0,b1,b2,b3⟩:=hb.gG;have aj:=af (anw ng (anw cU (anw fp (anw Jv Ju))));have nN:jc bw S F (.agg #[str F.name,F.params,.slice ta F.types.length tc,.slice sa F.steps.length sc]):=⟨ta,tc,sa,sc,rfl,A5.mods (bP.st.mods.mono fun _ _ f=>f.elim) (fun _ _ k=>k),HST.mods (bP.st.mods.mono fun _ _ f=>f.elim) (fun _ _ k=>k)⟩;have jr:E.aQ=aQ:=(by rw[a_.out]);have ZZX:=af (ace nN (by have:=bP.st.mH;rw[jr]at this;exact this) HH.1 HH.2.1 ng);rw[<-eR.out,<-lB.out]at ZZX;unfold str at ZZX;have vT:(k:Int)<(sn:Int):=(by omega);clear ng cU iF fp Jv Ju hb nN jr hz hz1;go_wp2_with fail;refine ZZX.mono ?_;rintro e a7 ⟨v',rfl,hints,dK⟩;obtain⟨jx,lc,rfl,Ga,Ug,-⟩:=hints.form;obtain⟨bf,fo⟩:=aq (((ic F k).map Int.ofNat).length);have cY:=af fo;have BV:(bf:Int)<=2:=(by rw[fo,anR];have:=aca F k;omega);rw[<-fo]at hints Ga ⊢;have EP:Hid (dh a7 (fun y=>y∈ya) (.slice jx bf lc) ((ic F k).map Int.ofNat)):=af (hints.mods ay (fun y hy hr=>by rw[pT.out]at hr;exact bP.st.lt y hr));have ua:Hid (lD W F fs E B A f0 ((∀j:Nat,(k:Int)<(j:Int)->j<F.steps.length->Sat F B A j)/\∀k'∈(ic F k).take 0,∀p,p<F.types.length->A k' p=true->B k p=true) m iK ei a7):=af ((bP.quiet dK).more fun _ _ _ g=>⟨g,fun k' h=>by simp at h⟩);clear b0 b1 b2 b3 hints dK ZZX fo;go_wp2_with fail
            go_loopw [8,62] (fun tF jw dO=>∃m j iK ei,tF=.bool m/\jw=.int .i64 ((j:Nat):Int)/\j<=bf/\Hid (lD W F fs E B A f0 ((∀j:Nat,(k:Int)<(j:Int)->j<F.steps.length->Sat F B A j)/\∀k'∈(ic F k).take j,∀p,p<F.types.length->A k' p=true->B k p=true) m iK ei dO)/\Hid (dh dO (fun y=>y∈ya) (.slice jx bf lc) ((ic F k).map Int.ofNat))) (fun _ jw _=>(bf-intOf jw).toNat)
            case atStart=>exact⟨m,0,iK,ei,rfl,rfl,anC _,ua,EP⟩
            case round =>
             clear ua EP bP;obtain⟨fg,rfl⟩:=aq wr;obtain⟨m,j,iK,ei,rfl,rfl,hj,bP,aI⟩:=hrel;by_cases Jh:j<bf
             ·have ep:j<(ic F k).length:=by have h:=cY.out;rw[anR]at h;omega
              obtain⟨k2,hk2⟩:∃k2,(ic F k)[j]?=some k2:=⟨_,anx ep⟩;have Nz:k2∈ic F k:=anF hk2;have Ny:k2<F.steps.length:=(SP Nz).1;obtain⟨r2,hr2⟩:∃r,E.e7[k2]?=some r:=⟨_,anx (by rw[bP.st.jx];exact Ny)⟩;have Nv:j<((ic F k).map Int.ofNat).length:=(by rw[anR];exact ep);have BD:=aI.out;rw[cY.out]at BD;obtain⟨Mw,ol,hle,lI⟩:=BD.get Nv;subst hle;have si:((ic F k).map Int.ofNat)[j]=(k2:Int):=by
               have:((ic F k).map Int.ofNat)[j]?=some (k2:Int):=(by rw[anV,hk2];rfl);obtain⟨h1,h2⟩:=anA.1 this;exact h2
              rw[si]at lI;have Fs:=bP.st.a.sl hr2;rw[CQ.2,<-eR.out]at Fs;have alY:(k2:Int)<(sn:Int):=(by have:=lB.out;omega);have tq:(j:Int)<(bf:Int):=(by omega);have qC:=af (anw hk2 (anw Nz (anw Ny (anw hr2 Jh))));have oH:Hid (lD W F fs E B A f0 (((∀j:Nat,(k:Int)<(j:Int)->j<F.steps.length->Sat F B A j)/\∀k'∈(ic F k).take j,∀p,p<F.types.length->A k' p=true->B k p=true)/\∀q,q<0->A k2 q=true->B k q=true) m iK ei fg):=af (bP.more fun _ _ _ g=>⟨g,fun q h=>by omega⟩);clear ep hk2 Nz Ny hr2 Nv BD si Jh;go_wp2_with fail;clear lI Fs
              go_loopw [8,71] (fun tF pv CG=>∃m p iK ei,tF=.bool m/\pv=.int .i64 ((p:Nat):Int)/\p<=tn/\Hid (lD W F fs E B A f0 (((∀j:Nat,(k:Int)<(j:Int)->j<F.steps.length->Sat F B A j)/\∀k'∈(ic F k).take j,∀p,p<F.types.length->A k' p=true->B k p=true)/\∀q,q<p->A k2 q=true->B k q=true) m iK ei CG)/\Hid (dh CG (fun y=>y∈ya) (.slice (some ⟨Mw,ol,none⟩) bf lc) ((ic F k).map Int.ofNat))) (fun _ pv _=>(tn-intOf pv).toNat)
              case atStart=>exact⟨m,0,iK,ei,rfl,rfl,anC _,oH,aI⟩
              case round =>
               clear oH aI bP;obtain⟨fW,rfl⟩:=aq wr;obtain⟨m,p,iK,ei,rfl,rfl,hp,bP,aI⟩:=hrel;by_cases yB:p<tn
               ·have tA:p<F.types.length:=by rw[<-eR.out];exact yB
                have cA:(p:Int)<(tn:Int):=(by omega);have BJ:=(bP.st.a.bit qC.2.2.2.1 tA).1;have hcb:=(bP.st.b.bit aj.2.2.2.1 tA).1;have hzb:=(bP.st.b.bit aj.2.2.2.1 tA).2;have zH:=bP.st.b.sl aj.2.2.2.1;rw[CQ.1,<-eR.out]at zH;obtain⟨ab,hab⟩:=aq (ei k2 p);obtain⟨Bq,qb⟩:=aq (iK k p);rw[<-hab]at BJ;rw[<-qb]at hcb;have sP:=af (anw hab (anw qb tA));have qD:=af yB;clear hab qb tA yB;cases ab with
                | false =>
                  go_wp2_with fail;refine⟨⟨m,p+1,iK,ei,rfl,by go_num,by have:=qD.out;omega,af (bP.more fun _ _ h2 g=>⟨g.1,fun q hq ha=>?_⟩),aI⟩,by have:=qD.out;simp[intOf];omega⟩;by_cases v_:q=p
                  ·subst v_
                   have:=sP.1;rw[h2,ha]at this;cases this
                  ·exact g.2 q (by omega) ha
                | true =>
                  cases Bq with
                  | true =>
                    go_wp2_with fail;refine⟨⟨m,p+1,iK,ei,rfl,by go_num,by have:=qD.out;omega,af (bP.more fun _ h1 _ g=>⟨g.1,fun q hq ha=>?_⟩),aI⟩,by have:=qD.out;simp[intOf];omega⟩;by_cases v_:q=p
                    ·subst v_
                     have:=sP.2.1;rw[h1]at this;exact this.symm
                    ·exact g.2 q (by omega) ha
                  | false =>
                    go_wp2_with fail;have Gm:=bP.aiJ (G':=(((∀j:Nat,(k:Int)<(j:Int)->j<F.steps.length->Sat F B A j)/\∀k'∈(ic F k).take j,∀p,p<F.types.length->A k' p=true->B k p=true)/\∀q,q<p+1->A k2 q=true->B k q=true)) aj.2.2.2.1 sP.2.2 sP.2.1.symm (fun lT lS hc=>hc.next k k2 p qC.2.1 ((bP.st.low lT lS hc k2 p qC.2.2.1 sP.2.2).2 sP.1.symm));refine⟨⟨true,p+1,_,ei,rfl,by go_num,by have:=qD.out;omega,af Gm,af (aI.mods ((fN fW pF p (.bool true)).mono fun y _ e=>by rw[e,pT.out];exact anQ.2 (Or.inl (anF aj.2.2.2.1))) (fun _ _ h=>h))⟩,by have:=qD.out;simp[intOf];omega⟩
               ·obtain rfl:tn=p:=by omega
                have cA:¬(tn:Int)<(tn:Int):=(by omega);clear yB;go_wp2_with fail;refine⟨⟨m,j+1,iK,ei,rfl,by go_num,by have:=qC.2.2.2.2;omega,af (bP.more fun _ _ _ g=>⟨g.1.1,fun k' uw p hp ha=>?_⟩),aI⟩,by have:=qC.2.2.2.2;simp[intOf];omega⟩;have ep:=(anA.1 qC.1).1;have adS:=(anA.1 qC.1).2;rw[anT ep,adS,anQ,anS]at uw;rcases uw with uw|uw
                ·exact g.1.2 k' uw p hp ha
                ·subst uw
                 exact g.2 p (by rw[eR.out];exact hp) ha
             ·obtain rfl:bf=j:=by omega
              have tq:¬(bf:Int)<(bf:Int):=(by omega);clear Jh;have rR:Hid (lD W F fs E B A f0 (((∀j:Nat,(k:Int)<(j:Int)->j<F.steps.length->Sat F B A j)/\∀k'∈ic F k,∀p,p<F.types.length->A k' p=true->B k p=true)/\∀q:Nat,q<0->B k q=true->(q:Int)≠eJ x->A k q=true) m iK ei fg):=af (bP.more fun _ _ _ g=>⟨⟨g.1,fun k' uw=>g.2 k' (by rw[cY.out,anR,aob];exact uw)⟩,fun q h=>by omega⟩);have zH:=bP.st.b.sl aj.2.2.2.1;rw[CQ.1,<-eR.out]at zH;clear bP;go_wp2_with fail;clear zH
              go_loopw [8,100] (fun tF pv CG=>∃m p iK ei,tF=.bool m/\pv=.int .i64 ((p:Nat):Int)/\p<=tn/\Hid (lD W F fs E B A f0 (((∀j:Nat,(k:Int)<(j:Int)->j<F.steps.length->Sat F B A j)/\∀k'∈ic F k,∀p,p<F.types.length->A k' p=true->B k p=true)/\∀q:Nat,q<p->B k q=true->(q:Int)≠eJ x->A k q=true) m iK ei CG)) (fun _ pv _=>(tn-intOf pv).toNat)
              case atStart=>exact⟨m,0,iK,ei,rfl,rfl,anC _,rR⟩
              case round =>
               clear rR;obtain⟨fW,rfl⟩:=aq wr;obtain⟨m,p,iK,ei,rfl,rfl,hp,bP⟩:=hrel;by_cases yB:p<tn
               ·have tA:p<F.types.length:=by rw[<-eR.out];exact yB
                have cA:(p:Int)<(tn:Int):=(by omega);have hcb:=(bP.st.b.bit aj.2.2.2.1 tA).1;obtain⟨Bq,qb⟩:=aq (iK k p);rw[<-qb]at hcb;have sP:=af (anw qb tA);have qD:=af yB;clear qb tA yB;cases Bq with
                | false =>
                  go_wp2_with fail;refine⟨⟨m,p+1,iK,ei,rfl,by go_num,by have:=qD.out;omega,af (bP.more fun _ h1 _ g=>⟨g.1,fun q hq ha hw=>?_⟩)⟩,by have:=qD.out;simp[intOf];omega⟩;by_cases v_:q=p
                  ·subst v_
                   have:=sP.1;rw[h1,ha]at this;cases this
                  ·exact g.2 q (by omega) ha hw
                | true =>
                  have hb:=bP.st.box;rw[zq.out]at hb;have b3:=hb.ah 3;obtain⟨gs',os',bL,ba,B8,hcs,Cb⟩:=(HST.mods (T:=S) (bP.st.mods.mono fun _ _ f=>f.elim) (fun _ _ k=>k)).get aj.1;cases B8;have iF:F.steps[k]'aj.1=x:=(anA.1 aj.2.1).2;rw[iF]at hcs Cb;obtain⟨jN,y1,fB,jA,l_,mP,lQ,ny,ma,jO⟩:=hcs;have rV:=af (PS x (.agg (aY x (.slice bL x.args.length ba)).toArray) S fW ⟨bL,ba,rfl,Cb⟩);obtain⟨xn,dM⟩:=aq (x.args.length);obtain⟨wv,Ca⟩:=aq (eJ x);rw[<-dM,<-Ca]at rV;rw[<-dM]at jO;have A9:=af Ca;unfold aY str at rV;unfold str at lQ ma;clear hb iF Cb dM Ca;go_wp2_with fail;refine rV.mono ?_;rintro e oy ⟨rfl,nO⟩;have A2:=af (bP.quiet nO);have BJ:=(A2.st.a.bit aj.2.2.2.2 sP.2).1;have aeJ:=(A2.st.a.bit aj.2.2.2.2 sP.2).2;have zH:=A2.st.a.sl aj.2.2.2.2;rw[CQ.2,<-eR.out]at zH;clear jN y1 fB jA l_ mP lQ ny ma jO b3 nO hcb rV;by_cases Af:(p:Int)=wv
                  ·have e1:((p:Int)==wv)=true:=by simpa using Af
                   have e2:((p:Int) != wv)=false:=(by simpa using Af);have Lq:=af Af;clear Af;go_wp2_with fail;refine⟨⟨m,p+1,iK,ei,rfl,by go_num,by have:=qD.out;omega,af (A2.more fun _ h1 _ g=>⟨g.1,fun q hq ha hw=>?_⟩)⟩,by have:=qD.out;simp[intOf];omega⟩;by_cases v_:q=p
                   ·subst v_
                    exact absurd (Lq.trans A9) hw
                   ·exact g.2 q (by omega) ha hw
                  ·have e1:((p:Int)==wv)=false:=by simpa using Af
                   have e2:((p:Int) != wv)=true:=(by simpa using Af);have Lq:=af Af;obtain⟨ab,hab⟩:=aq (ei k p);rw[<-hab]at BJ;have P7:=af hab;clear Af hab;cases ab with
                   | true =>
                     go_wp2_with fail;refine⟨⟨m,p+1,iK,ei,rfl,by go_num,by have:=qD.out;omega,af (A2.more fun _ _ h2 g=>⟨g.1,fun q hq ha hw=>?_⟩)⟩,by have:=qD.out;simp[intOf];omega⟩;by_cases v_:q=p
                     ·subst v_
                      have:=P7.out;rw[h2]at this;exact this.symm
                     ·exact g.2 q (by omega) ha hw
                   | false =>
                     go_wp2_with fail;have Gm:=A2.WT (G':=(((∀j:Nat,(k:Int)<(j:Int)->j<F.steps.length->Sat F B A j)/\∀k'∈ic F k,∀p,p<F.types.length->A k' p=true->B k p=true)/\∀q:Nat,q<p+1->B k q=true->(q:Int)≠eJ x->A k q=true)) aj.2.2.2.2 sP.2 P7.symm (fun lT lS hc=>hc.keep k x p aj.2.1 ((A2.st.low lT lS hc k p aj.1 sP.2).1 sP.1.symm) (by rw[<-A9.out];exact Lq));exact⟨⟨true,p+1,iK,_,rfl,by go_num,by have:=qD.out;omega,af Gm⟩,by have:=qD.out;simp[intOf];omega⟩
               ·obtain rfl:tn=p:=by omega
                have cA:¬(tn:Int)<(tn:Int):=(by omega);clear yB;have hb:=bP.st.box;rw[zq.out]at hb;have b3:=hb.ah 3;obtain⟨gs',os',bL,ba,B8,hcs,Cb⟩:=(HST.mods (T:=S) (bP.st.mods.mono fun _ _ f=>f.elim) (fun _ _ k=>k)).get aj.1;cases B8;have iF:F.steps[k]'aj.1=x:=(anA.1 aj.2.1).2;rw[iF]at hcs Cb;obtain⟨jN,y1,fB,jA,l_,mP,lQ,ny,ma,jO⟩:=hcs;have x4:=af (akp x (.agg (aY x (.slice bL x.args.length ba)).toArray) S fW ⟨bL,ba,rfl,Cb⟩ (HH.2.2.2.1 x aj.2.2.1));obtain⟨xn,dM⟩:=aq (x.args.length);rw[<-dM]at x4;rw[<-dM]at jO;unfold aY str at x4;unfold str at lQ ma;have aey:=akq x;have aez:=HH.2.2.2.1 x aj.2.2.1;obtain⟨un,UW⟩:=aq ((jb x).length);have amx:(un:Int)<=1000003:=(by omega);have HV:=af UW;clear hb iF Cb dM aey aez UW;go_wp2_with fail;refine x4.mono ?_;rintro e oy ⟨v',rfl,hints,nO⟩;obtain⟨Vq,Vy,rfl,adW,al4,-⟩:=hints.form;rw[<-HV.out]at hints adW ⊢;have Qv:Hid (dh oy (fun y=>y∈ya) (.slice Vq un Vy) (jb x)):=af (hints.mods ay (fun y hy hr=>by rw[pT.out]at hr;exact bP.st.lt y hr));have CS:Hid (lD W F fs E B A f0 ((((∀j:Nat,(k:Int)<(j:Int)->j<F.steps.length->Sat F B A j)/\∀k'∈ic F k,∀p,p<F.types.length->A k' p=true->B k p=true)/\∀q:Nat,q<tn->B k q=true->(q:Int)≠eJ x->A k q=true)/\∀y∈(jb x).take 0,∀q:Nat,(q:Int)=y->A k q=true) m iK ei oy):=af ((bP.quiet nO).more fun _ _ _ g=>⟨g,fun y h=>by simp at h⟩);clear jN y1 fB jA l_ mP lQ ny ma jO b3 nO x4 hints bP;go_wp2_with fail
                go_loopw [8,140] (fun tF jw CG=>∃m j iK ei,tF=.bool m/\jw=.int .i64 ((j:Nat):Int)/\j<=un/\Hid (lD W F fs E B A f0 ((((∀j:Nat,(k:Int)<(j:Int)->j<F.steps.length->Sat F B A j)/\∀k'∈ic F k,∀p,p<F.types.length->A k' p=true->B k p=true)/\∀q:Nat,q<tn->B k q=true->(q:Int)≠eJ x->A k q=true)/\∀y∈(jb x).take j,∀q:Nat,(q:Int)=y->A k q=true) m iK ei CG)/\Hid (dh CG (fun y=>y∈ya) (.slice Vq un Vy) (jb x))) (fun _ jw _=>(un-intOf jw).toNat)
                case atStart=>exact⟨m,0,iK,ei,rfl,rfl,anC _,CS,Qv⟩
                case round =>
                 clear CS Qv;obtain⟨ji,rfl⟩:=aq wr;obtain⟨m,j,iK,ei,rfl,rfl,hj,bP,fC⟩:=hrel;by_cases Ji:j<un
                 ·have Nw:j<(jb x).length:=by rw[<-HV.out];exact Ji
                  have Od:(jb x)[j]∈jb x:=aof _;have DM:=HH.2.2.2.2 x aj.2.2.1 _ Od;obtain⟨q,hq⟩:=aoh DM.1;have B6:q<F.types.length:=(by omega);have aeg:(q:Int)<(tn:Int):=(by rw[eR.out];omega);have tq:(j:Int)<(un:Int):=(by omega);have BD:=fC.out;rw[HV.out]at BD;obtain⟨Mw,ol,hle,lI⟩:=BD.get Nw;subst hle;rw[hq]at lI;have Fs:=bP.st.a.sl aj.2.2.2.2;rw[CQ.2,<-eR.out]at Fs;have BJ:=(bP.st.a.bit aj.2.2.2.2 B6).1;have aeJ:=(bP.st.a.bit aj.2.2.2.2 B6).2;obtain⟨ab,hab⟩:=aq (ei k q);rw[<-hab]at BJ;have Jt:(q:Int)∈jb x:=(by rw[<-hq];exact Od);have dy:=af (anw True.intro (anw True.intro (anw B6 (anw hab (anw Jt Ji)))));have Uw:∀kp:Nat->Nat->Bool,kp k q=true->(∀y∈(jb x).take j,∀q:Nat,(q:Int)=y->kp k q=true)->∀y∈(jb x).take (j+1),∀q:Nat,(q:Int)=y->kp k q=true:=fun kp h1 h2 y hy r hr=>by
                   rw[anT Nw,anQ,anS]at hy;rcases hy with hy|hy
                   ·exact h2 y hy r hr
                   ·have:r=q:=by rw[hq]at hy;omega
                    rw[this];exact h1
                  have ZZS:=af Uw;clear Nw Od DM hq B6 BD hab Ji Uw Jt;cases ab with
                  | true =>
                    go_wp2_with fail;exact⟨⟨m,j+1,iK,ei,rfl,by go_num,by have:=dy.2.2.2.2.2;omega,af (bP.more fun _ _ h2 g=>⟨g.1,ZZS A (by rw[<-h2];exact dy.2.2.2.1.symm) g.2⟩),fC⟩,by have:=dy.2.2.2.2.2;simp[intOf];omega⟩
                  | false =>
                    go_wp2_with fail;have Gm:=bP.WT (G':=((((∀j:Nat,(k:Int)<(j:Int)->j<F.steps.length->Sat F B A j)/\∀k'∈ic F k,∀p,p<F.types.length->A k' p=true->B k p=true)/\∀q:Nat,q<tn->B k q=true->(q:Int)≠eJ x->A k q=true)/\∀y∈(jb x).take (j+1),∀q:Nat,(q:Int)=y->A k q=true)) aj.2.2.2.2 dy.2.2.1 dy.2.2.2.1.symm (fun lT lS hc=>hc.use k x (q:Int) aj.2.1 dy.2.2.2.2.1);exact⟨⟨true,j+1,iK,_,rfl,by go_num,by have:=dy.2.2.2.2.2;omega,af Gm,af (fC.mods ((fN ji qm q (.bool true)).mono fun y _ e=>by rw[e,pT.out];exact anQ.2 (Or.inr (anF aj.2.2.2.2))) (fun _ _ h=>h))⟩,by have:=dy.2.2.2.2.2;simp[intOf];omega⟩
                 ·obtain rfl:un=j:=by omega
                  have tq:¬(un:Int)<(un:Int):=(by omega);clear Ji;go_wp2_with fail;refine⟨⟨m,(k:Int)-1,iK,ei,rfl,by go_num,by omega,by omega,af (bP.more fun _ _ _ g=>fun i hi hl=>?_)⟩,by simp[intOf]⟩;by_cases hik:i=k
                  ·subst hik
                   refine⟨g.1.1.2,fun s hs p hp hb hw=>?_,fun s hs p hp=>?_⟩
                   ·have N_:s=x:=by have h:=aj.2.1;rw[hs]at h;exact anz h
                    subst N_;exact g.1.2 p (by rw[eR.out];exact hp) hb hw
                   ·have N_:s=x:=by have h:=aj.2.1;rw[hs]at h;exact anz h
                    subst N_;exact g.2 (p:Int) (by rw[HV.out,aob];exact hp) p rfl
                  ·exact g.1.1.1 i (by omega) hl
           ·have hzz:z=-1:=by omega
            subst hzz;have aem:=bP.out;have amc:¬((0:Int)≤-1):=(by omega);clear hz hz1 hz2 aem;go_wp2_with fail;refine⟨⟨m,iK,ei,rfl,af bP.st,af fun hf i hi=>?_⟩,?_⟩
            ·obtain⟨e1,e2,g,_⟩:=bP.keep hf
             rw[e1,e2];exact g i (by omega) hi
            ·cases m with
             | false =>
               have h:=(bP.keep rfl).2.2.2;rw[<-pT.out,Qi.out]at h;simp only[h];omega
             | true =>
               have h:=bP.less rfl;rw[<-pT.out,Qi.out]at h;simp only;omega
theorem agn (w:World):(Instr.makeMap 175 none).run prog w=.ok (.map (some w.heap.size)) (w.alloc (.map #[] 0)):=by
 simp[Instr.makeMap,run_underlying underlying175]
theorem agq (w:World):(Instr.makeMap 120 none).run prog w=.ok (.map (some w.heap.size)) (w.alloc (.map #[] 0)):=by
 simp[Instr.makeMap,run_underlying underlying120]
theorem Vf (w:World):nI (((w.alloc (.map #[] 0)).alloc (.map #[] 0)).alloc (.cells #[.map (some w.heap.size),.map (some (w.heap.size+1))] 177)) (w.heap.size+2) w.heap.size (w.heap.size+1) 0 bn.none:=by
 refine⟨?_,?_,?_,⟨by omega,by omega,by omega⟩,(fun p x h=>by cases h),(fun p x h=>by cases h)⟩
 ·have:=aw.new ((w.alloc (.map #[] 0)).alloc (.map #[] 0)) #[.map (some w.heap.size),.map (some (w.heap.size+1))] 177
  simpa using this
 ·exact (k6.new 2 w).mods (((ag.refl ai _).alloc _).alloc _) id
 ·have:=(k6.new 3 (w.alloc (.map #[] 0))).mods ((ag.refl ai _).alloc (.cells #[.map (some w.heap.size),.map (some (w.heap.size+1))] 177)) id
  simpa [bn.none] using this
theorem aj3 (ha:b9 a):b9 (a.tmod b):=by
 unfold b9 at *;have h1:=Int.natAbs_tmod a b;have h2:=Nat.mod_le a.natAbs b.natAbs;rcases Int.lt_or_le a 0 with h|h
 ·have h3:0<=(-a).tmod b:=Int.tmod_nonneg b (by omega)
  rw[Int.neg_tmod]at h3;omega
 ·omega
theorem KO (a:Int):b9 (wrap64 a):=by
 unfold b9 wrap64;omega
theorem D_ (b:Bool):b9 (cj b):=by
 unfold b9 cj;split <;> omega
theorem aag {op:List UInt8} (ha:b9 a) (hb:b9 b):b9 (dA op a b).1:=by
 have h0:b9 0:=by unfold b9;omega
 unfold dA;split
 ·exact KO _
 split
 ·exact KO _
 split
 ·exact KO _
 split
 ·split
  ·exact h0
  ·split
   ·exact KO _
   ·exact aj3 ha
 split
 ·exact D_ _
 split
 ·exact D_ _
 split
 ·exact D_ _
 split
 ·exact D_ _
 split
 ·exact D_ _
 split
 ·exact D_ _
 ·exact h0
theorem ah3 (hs:∀p x,k.same p=some x->b9 x) (h:qO s):qO (k.reads s):=by
 obtain⟨⟨h1,h2,h3,h4,h5,h6,h7⟩,h8,dJ⟩:=h;refine⟨⟨h1,h2,bn.D6 hs h3,bn.D6 hs h4,bn.D6 hs h5,h6,h7⟩,h8,fun x hx=>?_⟩;obtain⟨y,hy,rfl⟩:=aoO.1 hx;exact bn.D6 hs (dJ y hy)
theorem Xa (hn:∀p x,k.cL p=some x->b9 x) (hs:∀p x,k.same p=some x->b9 x) (h:qO s):qO (k.step s):=by
 have hr:=ah3 hs h;have h0:b9 0:=by unfold b9;omega
 have h1:b9 1:=by unfold b9;omega
 have h2:b9 2:=by unfold b9;omega
 have h4:b9 4:=by unfold b9;omega
 have FU:∀n,b9 n->qO (vD (k.reads s).dst n):=fun n hn=>⟨⟨h1,hr.cL.2.1,h0,h0,h0,hn,h0⟩,⟨anC _,anC _⟩,fun x hx=>by cases hx⟩
 have TI:∀p,b9 p->qO (p_ (k.reads s).dst p):=fun p hp=>⟨⟨h2,hr.cL.2.1,hp,h0,h0,h0,h0⟩,⟨anC _,anC _⟩,fun x hx=>by cases hx⟩
 unfold bn.step gW;split
 ·rename_i c
  obtain⟨a,ha⟩:=aoR.1 c.2;rw[ha];exact FU _ (hn _ _ ha)
 split
 ·exact⟨⟨h4,h0,h0,h0,h0,h0,hr.cL.2.2.2.2.2.2⟩,⟨anC _,anC _⟩,fun x hx=>by cases hx⟩
 split
 ·rename_i c
  obtain⟨a,ha⟩:=aoR.1 c.2.1;obtain⟨b,hb⟩:=aoR.1 c.2.2;split
  ·rw[ha,hb]
   exact FU _ (aag (hn _ _ ha) (hn _ _ hb))
  ·exact hr
 split
 ·exact TI _ hr.cL.2.2.1
 split
 ·exact TI _ hr.cL.2.2.2.1
 ·exact hr
def wM:List Value:=[.string ⟨#[]⟩,.int .i64 0,.slice none 0 0,.slice none 0 0]
structure Ri (W:World) (F:ar) (fs:List Value) (i:Nat) (kb nb sb n:Nat) (K:bn) (ov:Value) (l:List ax) (wr:World):Prop where
 run:l++eM K (F.steps.drop i)=eM bn.none F.steps
 afb:nI wr kb nb sb n K
 cnt:n<=i
 outs:kt wr W.heap.size (fun k=>k<W.heap.size+2\/k=kb\/k=nb\/k=sb) ov l
 cQ:W.heap.size+2<=nb/\W.heap.size+2<=sb
 mods:ag ai W wr
 b0:aw wr W.heap.size fs 55
 b1:aw wr (W.heap.size+1) wM 55
 len:l.length<=i
theorem afk (hv:jc W S F fv) (hS:∀k,S k->k<W.heap.size) (aZ:tS F) (hlen:F.steps.length<=6000) (cC:∀s∈F.steps,s.args.length<=1000000) :
 Calls prog 49 #[fv] W fun e w=>∃vG,e=.returned vG/\jc w S (kQ F) vG/\ag ai W w:=by
 obtain⟨ta,tc,sa,sc,rfl,hZ,hst⟩:=hv;obtain⟨W2,hW2⟩:=aq ((W.alloc (.cells #[str F.name,F.params,.slice ta F.types.length tc,.slice sa F.steps.length sc] 55)).alloc (.cells #[.string ⟨#[]⟩,.int .i64 0,.slice none 0 0,.slice none 0 0] 55));have aN:ag ai W W2:=by rw[hW2];exact (ay.alloc _).alloc _
 have hs2:W2.heap.size=W.heap.size+2:=by rw[hW2];simp
 have hb0:aw W2 W.heap.size [str F.name,F.params,.slice ta F.types.length tc,.slice sa F.steps.length sc] 55:=by rw[hW2];exact (aw.new W _ _).alloc _
 have hb1:aw W2 (W.heap.size+1) wM 55:=by
  rw[hW2];have:=aw.new (W.alloc (.cells #[str F.name,F.params,.slice ta F.types.length tc,.slice sa F.steps.length sc] 55)) #[.string ⟨#[]⟩,.int .i64 0,.slice none 0 0,.slice none 0 0] 55;simpa [wM] using this
 obtain⟨cD,cN⟩:=aq (((W2.alloc (.map #[] 0)).alloc (.map #[] 0)).alloc (.cells #[.map (some W2.heap.size),.map (some (W2.heap.size+1))] 177));have bM:ag ai W2 cD:=by rw[cN];exact ((ay.alloc _).alloc _).alloc _
 have sk:nI cD (W2.heap.size+2) W2.heap.size (W2.heap.size+1) 0 bn.none:=by rw[cN];exact Vf W2
 have l6:=agn;have al8:=agq;obtain⟨tn,dL⟩:=aq (F.types.length);obtain⟨sn,dG⟩:=aq (F.steps.length);rw[<-dL,<-dG]at hW2 hb0 ⊢;have f3:=(hb0.mods bM id).ah 3
 have ZZV:Hid (Ri W F [str F.name,F.params,.slice ta tn tc,.slice sa sn sc] 0 (W2.heap.size+2) W2.heap.size (W2.heap.size+1) 0 bn.none (.slice none 0 0) [] cD):=af
  ⟨rfl,sk,anD _,kt.none_ _ _ _,⟨by omega,by omega⟩,aN.trans bM,hb0.mods bM id,hb1.mods bM id,anC _⟩
 have lB:=af dG;have eR:=af dL;have HST:=af hst;have A5:=af hZ;have HH:=af (anw hS (anw aZ (anw hlen cC)));clear aN hs2 hb0 hb1 bM sk dL dG hst hZ hS aZ hlen cC;unfold str at *;go_in;go_upto_region 1 with (fail)
 rw[<-hW2];clear hW2;go_upto_region 2 with (fail)
 rw[<-cN];clear cN;obtain⟨afc,Ua⟩:=aq (W2.heap.size+2);rw[<-Ua]at ZZV ⊢;obtain⟨VU,Us⟩:=aq (W2.heap.size);rw[<-Us]at ZZV ⊢;obtain⟨aiE,UK⟩:=aq (VU+1);rw[<-UK]at ZZV ⊢;clear Ua Us UK;go_wp2_with fail;clear f3
 go_loopw [3,4,17] (fun OS ov iv wr=>∃i kb nb sb n K l,i<=sn/\OS=.pointer (some ⟨kb,0,none⟩)/\iv=.int .i64 ((i:Nat):Int)/\Hid (Ri W F [.string ⟨F.name.toArray⟩,.int .i64 F.params,.slice ta tn tc,.slice sa sn sc] i kb nb sb n K ov l wr)) (fun _ _ iv _=>(sn-intOf iv).toNat)
 case atStart=>exact⟨0,afc,VU,aiE,0,bn.none,[],anC _,rfl,rfl,ZZV⟩
 case round =>
  clear ZZV;obtain⟨i,kb,nb,sb,n,K,l,hi,rfl,rfl,HS⟩:=hrel;obtain⟨aG,aF,rfl⟩:=HS.outs.form;by_cases hlt:i<sn
  ·have bm:i<F.steps.length:=by rw[<-lB.out];exact hlt
   obtain⟨x,cU⟩:∃x,F.steps[i]?=some x:=⟨_,anx bm⟩;have iF:F.steps[i]=x:=by
        obtain⟨h1,h2⟩:=anA.1 cU;exact h2
   have fp:x∈F.steps:=anF cU;have sf:F.steps.drop i=x::F.steps.drop (i+1):=by
        rw[<-iF];exact anL bm
   obtain⟨gs,os,bL,ba,rfl,hcs,ld⟩:=(HST.mods (T:=S) (HS.mods.mono fun _ _ f=>f.elim) (fun _ _ k=>k)).get bm;rw[iF]at hcs ld;obtain⟨jN,y1,fB,jA,l_,mP,lQ,ny,ma,jO⟩:=hcs;have cA:(i:Int)<(sn:Int):=(by omega);have oW:i<6000:=(by have h1:=HH.2.2.1;omega);obtain⟨xn,dM⟩:=aq (x.args.length);rw[<-dM]at jO;obtain⟨dC,fI⟩:=aq (wr.alloc (.cells (aY x (.slice bL xn ba)).toArray 57));have bG:ag ai wr dC:=(by rw[fI];exact ay.alloc _);have dT:aw dC wr.heap.size (aY x (.slice bL xn ba)) 57:=(by rw[fI];exact aw.new wr _ _);have wa:dC.heap.size=wr.heap.size+1:=(by rw[fI];simp);have ej:=af dT;have eL:=af bG;have d0:=dT.ah 0;have aj:=af (anw fp (anw sf (anw dM bm)));have vo:=af ld;have n9:=af hlt;have Yy:=af (HS.afb.mods bG id id id);have QM:=af (HS.outs.mods bG (fun _ f=>f.elim));have qI:=af wa;clear cU iF fp sf ld bG dT wa dM bm;unfold aY str at *;go_upto_region 6 with (fail)
   rw[<-fI];clear fI jN y1 fB jA l_ mP lQ ny ma jO;go_upto_if 23 with (fail)
   go_cut [3] (fun OS w=>∃xB xE xJ n',OS=.pointer (some ⟨xB,0,none⟩)/\Hid (nI w xB xE xJ n' (fS K x))/\Hid (n'<=i)/\Hid (kt w W.heap.size (fun k=>k<W.heap.size+2\/k=xB\/k=xE\/k=xJ) (.slice aG l.length aF) l)/\Hid (ag ai dC w)/\Hid (W.heap.size+2<=xE/\W.heap.size+2<=xJ))
   case first =>
        by_cases h6:x.code=6
        ·have yq:(x.code==6)=true:=by simpa using h6
         have gA:=af h6;clear h6;go_wp2_with fail;go_meet
         case rel =>
          have hm:ag ai dC (((dC.alloc (.map #[] 0)).alloc (.map #[] 0)).alloc (.cells #[.map (some dC.heap.size),.map (some (dC.heap.size+1))] 177)):=((ay.alloc _).alloc _).alloc _;have h1:=qI.out;have h2:=HS.mods.size;have h3:=HS.b1.lt;refine⟨dC.heap.size+2,dC.heap.size,dC.heap.size+1,0,rfl,af (by unfold fS;rw[if_pos gA.out];exact Vf dC),af (anC _),af ((QM.shift (S':=fun k=>k<W.heap.size+2\/k=dC.heap.size+2\/k=dC.heap.size\/k=dC.heap.size+1) (fun k hk hs=>by omega)).mods hm (fun _ f=>f.elim)),af hm,af ⟨by omega,by omega⟩⟩
        ·have yq:(x.code==6)=false:=by simpa using h6
         have gA:=af h6;clear h6;go_wp2_with fail;go_meet
         case rel=>exact⟨kb,nb,sb,n,rfl,af (by unfold fS;rw[if_neg gA.out];exact Yy),af HS.cnt,QM,af ay,af HS.cQ⟩
   case rest =>
   obtain⟨tP,rfl⟩:=aq wc;obtain⟨xB,xE,xJ,n',rfl,wU,AZ,QN,gh,wR⟩:=hcut;have pN:=ej.mods gh id;obtain⟨e0,e1,e2,e3,e4,cG,ew,dv,dc,fG⟩:=pN.gD;have wY:=af (wJ wU x (.agg (aY x (.slice bL x.args.length ba)).toArray) S ⟨bL,ba,rfl,vo.mods ((eL.trans gh).mono fun _ _ f=>f.elim) (fun _ _ k=>k)⟩ (HH.2.1.steps x aj.1) (HH.2.2.2 x aj.1));rw[<-aj.2.2.1]at wY;unfold aY str at wY;clear pN d0;go_wp2_with fail;refine wY.mono ?_;rintro e fg ⟨v',rfl,⟨sM,zc,rfl,hz⟩,hP⟩;obtain⟨T,hT⟩:=aq ((fS K x).step x);have bA:=af hT;rw[<-hT]at hz ⊢;obtain⟨tR,wk⟩:=aq (T.args.length);have Rf:=af wk;rw[<-wk]at hz ⊢;obtain⟨mr,vO⟩:=aq (fg.alloc (.cells (aY T (.slice sM tR zc)).toArray 57));have gT:ag ai fg mr:=(by rw[vO];exact ay.alloc _);have zW:aw mr fg.heap.size (aY T (.slice sM tR zc)) 57:=(by rw[vO];exact aw.new fg _ _);obtain⟨K',hK'⟩:=aq (fS K x);have La:=af hK';rw[<-hK']at wU;have Je:nI mr xB xE xJ n' K':=(wU.mods hP id id id).mods gT id id id;have bF:=af hz;have ml:=af hP;have oF:=af gT;have X4:=af zW;have Qy:=af Je;have HT:Hid (qO T):=af (by rw[bA.out,<-La.out];exact Xa wU.GK wU.Ct (HH.2.1.steps x aj.1));obtain⟨A,hA⟩:=aq (K'.cL T.a);have F9:=(Je.cL.mods (ag.refl ai mr).drew id).look (t:=175) underlying175 underlying2 (OP _) HT.cL.2.2.1;rw[<-hA]at F9;have bH:=af hA;have ja:=Je.blk.ah 0;have t2:=zW.ah 2;have t0:=zW.ah 0;clear e0 e1 e2 e3 e4 cG ew dv dc fG hT wk hz hP gT zW Je hA hK' wY;unfold aY str at *;go_upto_region 9 with (fail)
   rw[<-vO];clear vO;go_region;clear ja t2 F9;go_upto_region 10 with (fail)
   obtain⟨cc,hcc⟩:=aq (idle K' T);have tU:=af hcc;clear hcc;go_cut [50] (fun zI fX=>zI=.bool cc/\mr.drew=fX)
   case first =>
        have hcc:=tU.out;unfold idle at hcc;rw[<-bH.out]at hcc;by_cases h5:T.code=5
        ·have g5:(T.code==5)=true:=by simpa using h5
         cases A with
         | none =>
           have e:cc=false:=(by rw[hcc];simp);subst e;clear hcc h5;go_wp2_with fail;go_meet
           case rel=>exact⟨rfl,rfl⟩
         | some a =>
           by_cases h0:a=0
           ·have e:cc=false:=by rw[hcc];simp[h0]
            subst e;subst h0;clear hcc h5;go_wp2_with fail;go_meet
            case rel=>exact⟨rfl,rfl⟩
           ·have e:cc=true:=by rw[hcc];simp[h0,h5]
            have g0:(a==0)=false:=(by simpa using h0);subst e;clear hcc h5 h0;go_wp2_with fail;go_meet
            case rel=>exact⟨by first|rfl|simp[bne,g0],rfl⟩
        ·have g5:(T.code==5)=false:=by simpa using h5
         have e:cc=false:=(by rw[hcc];simp[g5]);subst e;clear hcc h5;go_wp2_with fail;go_meet
         case rel=>exact⟨rfl,rfl⟩
   case rest =>
   obtain⟨rfl,rfl⟩:=hcut;clear t0;have Um:ag ai wr mr:=(eL.trans gh).trans (ml.trans oF);have AY:=af Um;have QO:=af ((QN.mods ml (fun _ f=>f.elim)).mods oF (fun _ f=>f.elim));have hrun:=HS.run;have Tq:T=K'.step x:=(by rw[bA.out,La.out]);rw[aj.2.1,eM,<-La.out,<-Tq]at hrun;clear Tq;have sV:=af hrun;clear Um hrun;cases cc with
   | true =>
     go_wp2_with fail;refine⟨⟨i+1,xB,xE,xJ,n',K',l,by omega,rfl,by go_num,af ?_⟩,by simp[intOf];omega⟩;have hrun:=sV.out;rw[<-tU.out,if_pos rfl]at hrun;have hd:ag ai mr mr.drew:=ay.drew;exact⟨hrun,Qy.mods hd id id id,by have:=AZ.out;omega,QO.mods hd (fun _ f=>f.elim),wR,HS.mods.trans (AY.trans hd),(HS.b0.mods AY id).mods hd id,(HS.b1.mods AY id).mods hd id,by have:=HS.len;omega⟩
   | false =>
     have hd:ag ai mr mr.drew:=ay.drew;have hzd:dh mr.drew (fun k=>k<tP.heap.size) (.slice sM tR zc) T.args:=(bF.mods (oF.mono fun _ _ f=>f.elim) (fun _ _ k=>k)).mods (hd.mono fun _ _ f=>f.elim) (fun _ _ k=>k);have Zp:=af hzd;have HD:=af hd;have uV:=af (X4.mods hd id);have HB:=af (aft (Qy.mods hd id id id) T (.agg (aY T (.slice sM T.args.length zc)).toArray) (fun k=>k<tP.heap.size) ⟨sM,zc,rfl,by rw[<-Rf.out];exact hzd⟩ HT.cL.2.1 HT.cL.2.2.2.2.2.1 HT.cL.2.2.1 (by have:=AZ.out;omega));rw[<-Rf.out]at HB;unfold aY str at HB;obtain⟨e0,e1,e2,e3,e4,cG,ew,dv,dc,fG⟩:=uV.gD;clear hd hzd;go_wp2_with fail;refine HB.mono ?_;rintro e oy ⟨rfl,vU,nO⟩;obtain⟨cs,iQ,kg,kx⟩:=(QO.mods HD (fun _ f=>f.elim)).mods nO (fun k hk=>Or.inr (Or.inr hk));have eF:aw oy fg.heap.size (aY T (.slice sM tR zc)) 57:=uV.mods nO (fun e=>by
      have h1:=wU.cL.lt;have h2:=wU.same.lt;have h3:=ml.size;omega)
     obtain⟨e0,e1,e2,e3,e4,cG,ew,dv,dc,fG⟩:=eF.gD;obtain⟨i0,gw,hz0,hz1,hz2⟩:=info_parts Ej;have aI:=af (anw gw (anw hz0 (anw hz1 hz2)));obtain⟨bf,fo⟩:=aq (l.length);have cY:=af fo;rw[<-fo]at iQ kg kx ⊢;have bR:Hid (ag ai oy (oy.alloc (.cells (aY T (.slice sM tR zc)).toArray 57))):=af (ay.alloc _);have fR:=af (bR.ownsRow iQ (fun k hk f=>f));have qH:=af (mq.mods kg (bR.mono fun _ _ f=>f.elim) (fun _ _ k=>k));have uY:=af kx;have Yx:=af vU;have YU:=af QN;have wV:=af nO;have iT:Hid (bf<=6000):=af (by have:=HS.len;omega);have mS:Hid (W.heap.size<=(oy.alloc (.cells (aY T (.slice sM tR zc)).toArray 57)).heap.size):=af (by have h1:=HS.mods.size;have h2:=AY.size;have h3:=HD.size;have h4:=nO.size;have h5:=bR.size;omega);have gz:=af (G0 oy (aY T (.slice sM tR zc)) 57);have l7:=af (KF T sM tR zc);clear iQ kg kx vU nO eF gw hz0 hz1 hz2 fo HB;unfold aY str at gz l7 bR fR mS qH;go_wp2_with (at_builtin;refine wpList_append_own_at _ rfl _ _ 53 rfl W.heap.size 57 i0 _ 10 112 underlying53 aI.1 aI.2.1 aI.2.2.1 aI.2.2.2 rfl (by decide) (.slice aG bf aF) bf cs rfl fR ⟨oy.heap.size,0,none⟩ 1 1 [T.code,T.dst,T.a,T.b,T.c,T.n,.string ⟨T.op.toArray⟩,T.label,.string ⟨T.name.toArray⟩,.slice sM tR zc] rfl rfl gz.out l7.out (by have:=iT.out;unfold maxLen;omega) (by have:=iT.out;omega) mS ?_;intro v' ji hown cr hnil hloc;have b6:=af hown;have bZ:=af (anw cr hloc);clear hown cr hnil hloc;refine Hid.out ?_);refine af ?_;obtain⟨bg,br,rfl⟩:=slice_form b6;go_wp2_with fail;refine⟨⟨i+1,xB,xE,xJ,n'+1,K'.kR T,l++[T],by omega,rfl,by go_num,af ?_⟩,by simp[intOf];omega⟩;have hrun:=sV.out;rw[<-tU.out,if_neg (by simp)]at hrun;have jo:=bR.out;have qX:=fR.out;have qY:=qH.out;obtain⟨eG,jX⟩:=aq (oy.alloc (.cells #[T.code,T.dst,T.a,T.b,T.c,T.n,.string ⟨T.op.toArray⟩,T.label,.string ⟨T.name.toArray⟩,.slice sM tR zc] 57));have jo:ag ai oy eG:=(by rw[jX];exact jo);have qX:eG.ownsRow W.heap.size 57 10 (.slice aG bf aF) bf cs:=(by rw[jX];exact qX);have qY:mq eG (fun k=>(k<W.heap.size+2\/k=xB\/k=xE\/k=xJ)\/(Value.slice aG bf aF).ownBlock=some k) cs l:=(by rw[jX];exact qY);have hgr:eG.grownBy ji (Value.slice aG bf aF).ownBlock:=(by rw[jX];exact bZ.1);have hlc:(Value.slice bg (bf+1) br).ownBlock=(Value.slice aG bf aF).ownBlock\/(Value.slice bg (bf+1) br).ownBlock=some eG.heap.size:=(by rw[jX];exact bZ.2);have how:=b6.out;clear jX;have al2:xB<tP.heap.size/\xE<tP.heap.size/\xJ<tP.heap.size:=⟨wU.blk.lt,wU.cL.lt,wU.same.lt⟩;have aeb:∀k,(Value.slice aG bf aF).ownBlock=some k->k<tP.heap.size:=fun k hk=>by
      obtain⟨cs',h1,_⟩:=YU.out;rw[cY.out]at hk;exact (h1.lt k hk).2
     have alA:W.heap.size+2<=tP.heap.size:=by
      have h1:=HS.b1.lt;have h2:=eL.size;have h3:=gh.size;omega
     have hsz:tP.heap.size<=eG.heap.size:=by
      have h1:=ml.size;have h2:=oF.size;have h3:=HD.size;have h4:=wV.size;have h5:=jo.size;omega
     have mF:ag (fun k=>(Value.slice aG bf aF).ownBlock=some k) eG ji:=ag.of_grownBy hgr (fun k hk _=>hk);have hno:∀k,(Value.slice aG bf aF).ownBlock=some k->W.heap.size+2<=k/\k≠xB/\k≠xE/\k≠xJ:=fun k hk=>by
      have h1:=uY.out k hk;omega
     have vO:ag ai W mr.drew:=HS.mods.trans (AY.trans HD);have adf:ag ai W oy:=vO.trans' wV (fun k hk hl=>by have:=wR.out;omega);have xm:ag ai W ji:=(adf.trans jo).trans' mF (fun k hk hl=>by have:=hno k hk;omega);refine⟨?_,((Yx.mods jo id id id).mods mF (fun e=>(hno _ e).2.1 rfl) (fun e=>(hno _ e).2.2.1 rfl) (fun e=>(hno _ e).2.2.2 rfl)),by have:=AZ.out;omega,?_,wR,xm,?_,?_,?_⟩
     ·rw[aoj]
      exact hrun
     ·refine Kk (w4:=eG) (cs:=cs) (S1:=fun k=>k<tP.heap.size) (av:=.slice sM tR zc) ?_ qY uY ?_ ?_ ?_ ?_ hgr hlc
      ·rw[<-cY.out];exact qX
      ·refine (Zp.mods (wV.mono fun k _ hk=>?_) (fun _ _ k=>k)).mods (jo.mono fun _ _ f=>f.elim) (fun _ _ k=>k)
       show k<tP.heap.size
       omega
      ·intro k hk
       rcases hk with hk|hk
       ·show k<tP.heap.size
        omega
       ·exact aeb k hk
      ·intro k hk
       omega
      ·rw[<-cY.out];exact how
     ·have h1:=((HS.b0.mods AY id).mods HD id).mods wV (fun e=>by have:=wR.out;omega)
      exact (h1.mods jo id).mods mF (fun e=>by have:=hno _ e;omega)
     ·have h1:=((HS.b1.mods AY id).mods HD id).mods wV (fun e=>by have:=wR.out;omega)
      exact (h1.mods jo id).mods mF (fun e=>by have:=hno _ e;omega)
     ·have:=HS.len
      simp only[anU,an0];omega
  ·obtain rfl:i=sn:=by omega
   have cA:¬(i:Int)<(i:Int):=(by omega);obtain⟨g0,-,g1,-,g2,-,g3,z3⟩:=HS.b0.gN;obtain⟨q0,f0,q1,f1,q2,f2,q3,f3⟩:=HS.b1.gN;go_wp2_with fail;clear g0 g1 g2 g3 z3 q0 q1 q2 q3 f0 f1 f2 f3 cA;obtain⟨hB,hm⟩:=Mt HS.b0 HS.b1 (.slice aG l.length aF);have hl:l=eM bn.none F.steps:=by
        have h:=HS.run;rw[lB.out,anZ]at h;simpa [eM] using h
   have sq:ag ai W (((((wr.setCell ⟨W.heap.size,3,none⟩ (.slice aG l.length aF)).setCell ⟨W.heap.size+1,0,none⟩ (.string ⟨F.name.toArray⟩)).setCell ⟨W.heap.size+1,1,none⟩ (.int .i64 F.params)).setCell ⟨W.heap.size+1,2,none⟩ (.slice ta tn tc)).setCell ⟨W.heap.size+1,3,none⟩ (.slice aG l.length aF)):=HS.mods.trans' hm (fun k hk hl=>by omega);have hst:=(HS.outs.at_).mods (T:=S) (hm.mono fun k _ hk=>Or.inl (by omega)) (fun k _ hk=>Or.inl (by have:=HH.1 k hk;omega));refine bodyPost_ret (v:=.agg #[.string ⟨F.name.toArray⟩,F.params,.slice ta tn tc,.slice aG l.length aF]) (results_cell_row (P:=prog) results49 _ _ (W.heap.size+1) 55 _ (0,0) _ rfl hB underlying55 rfl (by kernel_rfl)) rfl ?_;rw[hl]at hst;rw[eR.out,hl];exact⟨_,rfl,⟨ta,tc,aG,aF,rfl,A5.mods (by rw[hl,eR.out]at sq;exact sq.mono fun _ _ f=>f.elim) (fun _ _ k=>k),by rw[eR.out]at hst;exact hst⟩,by rw[hl,eR.out]at sq;exact sq⟩
structure PY (W:World) (S:Nat->Prop) (F:ar) (fs:List Value) (i:Nat) (fH:Nat) (R:List Nat) (B:Nat->Nat->Bool) (ov:Value) (l:List ax) (wr:World):Prop where
 run:l++eZ F i (F.steps.drop i)=eZ F 0 F.steps
 rows:pY wr fH R F.types.length B
 rl:R.length=F.steps.length
 eq:∀i p:Nat,i<F.steps.length->p<F.types.length->B i p=wB F i (p:Int)
 outs:kt wr W.heap.size (fun k=>S k\/(W.heap.size<=k/\k<W.heap.size+2)) ov l
 apart:∀k,ov.ownBlock=some k->k≠fH/\k ∉ R
 mods:ag ai W wr
 b0:aw wr W.heap.size fs 55
 b1:aw wr (W.heap.size+1) wM 55
 len:l.length<=i
theorem aaZ (hv:jc W S F fv) (hS:∀k,S k->k<W.heap.size) (aZ:tS F) (qd:∀s∈F.steps,b9 s.label) (hlen:F.steps.length<=6000) (jv:F.types.length<=3000) (cC:∀s∈F.steps,s.args.length<=1000000) (hu:∀s∈F.steps,∀p∈jb s,0<=p/\p<F.types.length) (hp:∀s∈F.steps,nW s=true->0<=eJ s/\eJ s<F.types.length) :
 Calls prog 48 #[fv] W fun e w=>∃vG,e=.returned vG/\jc w S (qQ F) vG/\ag ai W w:=by
 have bQ:=af hv;obtain⟨ta,tc,sa,sc,rfl,hZ,hst⟩:=hv;obtain⟨W2,hW2⟩:=aq ((W.alloc (.cells #[str F.name,F.params,.slice ta F.types.length tc,.slice sa F.steps.length sc] 55)).alloc (.cells #[.string ⟨#[]⟩,.int .i64 0,.slice none 0 0,.slice none 0 0] 55));have aN:ag ai W W2:=by rw[hW2];exact (ay.alloc _).alloc _
 have hs2:W2.heap.size=W.heap.size+2:=by rw[hW2];simp
 have hb0:aw W2 W.heap.size [str F.name,F.params,.slice ta F.types.length tc,.slice sa F.steps.length sc] 55:=by rw[hW2];exact (aw.new W _ _).alloc _
 have hb1:aw W2 (W.heap.size+1) wM 55:=by
  rw[hW2];have:=aw.new (W.alloc (.cells #[str F.name,F.params,.slice ta F.types.length tc,.slice sa F.steps.length sc] 55)) #[.string ⟨#[]⟩,.int .i64 0,.slice none 0 0,.slice none 0 0] 55;simpa [wM] using this
 have Ho:=af (Z9 (bQ.mods (T:=S) (aN.mono fun _ _ f=>f.elim) (fun _ _ k=>k)) qd hlen jv cC hu);obtain⟨tn,dL⟩:=aq (F.types.length);obtain⟨sn,dG⟩:=aq (F.steps.length);rw[<-dL,<-dG]at hW2 hb0 Ho ⊢;obtain⟨g0,g1,g2,g3⟩:=hb0.gG;have je:=af hb0;have bD:=af hb1;have bJ:=af aN;have lB:=af dG;have eR:=af dL;have HST:=af hst;have A5:=af hZ;have HH:=af (anw hS (anw aZ (anw hlen (anw cC hp))));have wa:(sn:Int)<=6000:=by omega
 have kN:(tn:Int)<=3000:=by omega
 clear aN hs2 hb0 hb1 dL dG hst hZ hS aZ hlen cC hu hp qd jv;unfold str at *;go_in;go_upto_region 1 with (fail)
 rw[<-hW2];clear hW2;go_wp2_with fail;refine Ho.mono ?_;rintro e w3 ⟨fH,R,B,rfl,Dm,UF,S7,aR⟩;rw[<-lB.out]at Dm ⊢
 have ZZV:Hid (PY W S F [.string ⟨F.name.toArray⟩,F.params,.slice ta tn tc,.slice sa sn sc] 0 fH R B (.slice none 0 0) [] w3):=af
  ⟨rfl,UF,by rw[Dm,lB.out],S7,kt.none_ _ _ _,(fun k hk=>by cases hk),bJ.trans aR,je.mods aR id,bD.mods aR id,anC _⟩
 have g3:=(je.mods aR id).ah 3;clear g0 g1 g2 Dm UF S7 aR Ho;go_wp2_with fail;clear g3
 go_loopw [4,13] (fun ov iv wr=>∃i l,i<=sn/\iv=.int .i64 ((i:Nat):Int)/\Hid (PY W S F [.string ⟨F.name.toArray⟩,.int .i64 F.params,.slice ta tn tc,.slice sa sn sc] i fH R B ov l wr)) (fun _ iv _=>(sn-intOf iv).toNat)
 case atStart=>exact⟨0,[],anC _,rfl,ZZV⟩
 case round =>
  clear ZZV;obtain⟨w4,rfl⟩:=aq wr;obtain⟨i,l,hi,rfl,HS⟩:=hrel;obtain⟨aG,aF,rfl⟩:=HS.outs.form;by_cases hlt:i<sn
  ·have bm:i<F.steps.length:=by rw[<-lB.out];exact hlt
   obtain⟨x,cU⟩:∃x,F.steps[i]?=some x:=⟨_,anx bm⟩;have iF:F.steps[i]=x:=by
        obtain⟨h1,h2⟩:=anA.1 cU;exact h2
   have fp:x∈F.steps:=anF cU;have sf:F.steps.drop i=x::F.steps.drop (i+1):=by
        rw[<-iF];exact anL bm
   obtain⟨gs,os,bL,ba,rfl,hcs,ld⟩:=(HST.mods (T:=fun k=>S k\/W.heap.size<=k) (HS.mods.mono fun _ _ f=>f.elim) (fun k hk h=>h.elim id (fun h=>absurd h (by omega)))).get bm;rw[iF]at hcs ld;obtain⟨jN,y1,fB,jA,l_,mP,lQ,ny,ma,jO⟩:=hcs;have cA:(i:Int)<(sn:Int):=(by omega);have oW:i<6000:=(by omega);have vo:=af ld;obtain⟨xn,dM⟩:=aq (x.args.length);rw[<-dM]at jO;obtain⟨dC,fI⟩:=aq (w4.alloc (.cells (aY x (.slice bL xn ba)).toArray 57));have bG:ag ai w4 dC:=(by rw[fI];exact ay.alloc _);have dT:aw dC w4.heap.size (aY x (.slice bL xn ba)) 57:=(by rw[fI];exact aw.new w4 _ _);have ej:=af dT;have eL:=af bG;have Oh:dh dC (fun k=>S k\/W.heap.size<=k) (.slice bL x.args.length ba) x.args:=vo.mods (bG.mono fun _ _ f=>f.elim) (fun _ _ k=>k);have rV:=af (PS x (.agg (aY x (.slice bL x.args.length ba)).toArray) _ dC ⟨bL,ba,rfl,Oh⟩);rw[<-dM]at rV;obtain⟨wv,Ca⟩:=aq (eJ x);rw[<-Ca]at rV;have A9:=af Ca;have aj:=af (anw fp (anw sf (anw dM bm)));have Zm:=af Oh;have n9:=af hlt;clear cU iF fp sf ld bG dM bm Oh Ca;unfold aY str at *;go_upto_region 6 with (fail)
   rw[<-fI];clear fI jN y1 fB jA l_ mP lQ ny ma jO;obtain⟨e0,e1,e2,e3,e4,cG,ew,dv,dc,fG⟩:=dT.gD;go_wp2_with fail;refine rV.mono ?_;rintro e a7 ⟨rfl,dK⟩;have CU:=af (ahB x (.agg (aY x (.slice bL x.args.length ba)).toArray) _ a7 ⟨bL,ba,rfl,Zm.mods (dK.mono fun _ _ f=>f.elim) (fun _ _ k=>k)⟩);rw[<-aj.2.2.1]at CU;unfold aY str at CU;have f_:=af (ej.mods dK id);have gh:=af (eL.trans dK);clear e0 e1 e2 e3 e4 cG ew dv dc fG dT dK rV ej eL;go_upto_region 7 with (fail)
   obtain⟨e0,e1,e2,e3,e4,cG,ew,dv,dc,fG⟩:=f_.gD;obtain⟨cc,hcc⟩:=aq ((!nW x || wB F i (eJ x)));have tU:=af hcc;clear hcc;go_cut [31] (fun zI fX=>zI=.bool cc/\Hid (ag ai a7 fX))
   case first =>
        obtain⟨pb,j5⟩:=aq (nW x);rw[<-j5]at CU;have CT:=af j5;clear j5;cases pb with
        | false =>
          have e:cc=true:=(by rw[tU.out,<-CT.out];rfl);subst e;go_wp2_with fail;refine CU.mono ?_;rintro e fg ⟨rfl,hP⟩;go_wp2_with fail;go_meet
          case rel=>exact⟨rfl,af (by first|exact hP|exact hP.drew)⟩
        | true =>
          have h9:=HH.2.2.2.2 x aj.1 CT.symm;obtain⟨q,hq⟩:=aoh h9.1;have e:cc=B i q:=by
           rw[tU.out,<-CT.out,HS.eq i q aj.2.2.2 (by omega),hq];rfl
          have aeD:wv=(q:Int):=(by rw[A9.out];exact hq);subst aeD;have B6:q<F.types.length:=(by omega);have aeg:(q:Int)<(tn:Int):=(by rw[eR.out];omega);obtain⟨r,hr⟩:∃r,R[i]?=some r:=⟨_,anx (by rw[HS.rl];exact aj.2.2.2)⟩;have dy:=af (anw B6 hr);have a_:=af e;clear h9 hq e B6 hr;go_wp2_with fail;refine CU.mono ?_;rintro e fg ⟨rfl,hP⟩;have N3:=(HS.rows.mods gh id (fun _ _ f=>f)).mods hP id (fun _ _ f=>f);have zH:=N3.sl dy.2;have aaH:=(N3.bit dy.2 dy.1).1;rw[<-eR.out]at zH;rw[<-a_.out]at aaH;clear N3;go_wp2_with fail;go_meet
          case rel=>exact⟨rfl,af (by first|exact hP|exact hP.drew)⟩
   case rest =>
   obtain⟨fW,rfl⟩:=aq wc;obtain⟨rfl,oF⟩:=hcut;clear e0 e1 e2 e3 e4 cG ew dv dc fG CU;have mj:=af (gh.trans oF);have hrun:=HS.run;rw[aj.2.1,eZ,<-tU.out]at hrun;have sV:=af hrun;have hro:=af (HS.rows.mods mj id (fun _ _ f=>f));clear hrun;cases cc with
   | false =>
     go_wp2_with fail;refine⟨⟨i+1,l,by omega,by go_num,af ?_⟩,by simp[intOf];omega⟩;have hrun:=sV.out;rw[if_neg (by simp)]at hrun;exact⟨hrun,hro.out,HS.rl,HS.eq,HS.outs.mods mj (fun _ f=>f.elim),HS.apart,HS.mods.trans mj,HS.b0.mods mj id,HS.b1.mods mj id,by have:=HS.len;omega⟩
   | true =>
     obtain⟨cs,iQ,kg,kx⟩:=HS.outs.mods mj (fun _ f=>f.elim);have eF:aw fW w4.heap.size (aY x (.slice bL xn ba)) 57:=f_.mods oF id;obtain⟨e0,e1,e2,e3,e4,cG,ew,dv,dc,fG⟩:=eF.gD;obtain⟨i0,gw,hz0,hz1,hz2⟩:=info_parts Ej;have aI:=af (anw gw (anw hz0 (anw hz1 hz2)));obtain⟨bf,fo⟩:=aq (l.length);have cY:=af fo;rw[<-fo]at iQ kg kx ⊢;have bR:Hid (ag ai fW (fW.alloc (.cells (aY x (.slice bL xn ba)).toArray 57))):=af (ay.alloc _);have fR:=af (bR.ownsRow iQ (fun k hk f=>f));have qH:=af (mq.mods kg (bR.mono fun _ _ f=>f.elim) (fun _ _ k=>k));have uY:=af kx;have A1:=af iQ.lt;have zz:Hid (dh (fW.alloc (.cells (aY x (.slice bL xn ba)).toArray 57)) (fun k=>S k\/W.heap.size<=k) (.slice bL xn ba) x.args):=af (by
      have h:=vo.mods (T:=fun k=>S k\/W.heap.size<=k) ((mj.trans bR).mono fun _ _ f=>f.elim) (fun _ _ k=>k);rw[<-aj.2.2.1]at h;exact h)
     have iT:Hid (bf<=6000):=af (by have:=HS.len;omega);have qJ:Hid (W.heap.size+2<=fW.heap.size):=af (by have h1:=HS.b1.lt;have h2:=mj.size;omega);have mS:Hid (W.heap.size<=(fW.alloc (.cells (aY x (.slice bL xn ba)).toArray 57)).heap.size):=af (by have h1:=qJ.out;have h5:=bR.size;omega);have gz:=af (G0 fW (aY x (.slice bL xn ba)) 57);have l7:=af (KF x bL xn ba);clear iQ kg kx eF gw hz0 hz1 hz2 fo;unfold aY str at gz l7 bR fR mS qH zz;go_wp2_with (at_builtin;refine wpList_append_own_at _ rfl _ _ 53 rfl W.heap.size 57 i0 _ 10 112 underlying53 aI.1 aI.2.1 aI.2.2.1 aI.2.2.2 rfl (by decide) (.slice aG bf aF) bf cs rfl fR ⟨fW.heap.size,0,none⟩ 1 1 [x.code,x.dst,x.a,x.b,x.c,x.n,.string ⟨x.op.toArray⟩,x.label,.string ⟨x.name.toArray⟩,.slice bL xn ba] rfl rfl gz.out l7.out (by have:=iT.out;unfold maxLen;omega) (by have:=iT.out;omega) mS ?_;intro v' ji hown cr hnil hloc;have b6:=af hown;have bZ:=af (anw cr hloc);clear hown cr hnil hloc;refine Hid.out ?_);refine af ?_;obtain⟨bg,br,rfl⟩:=slice_form b6;go_wp2_with fail;refine⟨⟨i+1,l++[x],by omega,by go_num,af ?_⟩,by simp[intOf];omega⟩;have hrun:=sV.out;rw[if_pos (by simp)]at hrun;have jo:=bR.out;have qX:=fR.out;have qY:=qH.out;have vJ:=zz.out;obtain⟨eG,jX⟩:=aq (fW.alloc (.cells #[x.code,x.dst,x.a,x.b,x.c,x.n,.string ⟨x.op.toArray⟩,x.label,.string ⟨x.name.toArray⟩,.slice bL xn ba] 57));have jo:ag ai fW eG:=(by rw[jX];exact jo);have qX:eG.ownsRow W.heap.size 57 10 (.slice aG bf aF) bf cs:=(by rw[jX];exact qX);have qY:mq eG (fun k=>(S k\/(W.heap.size<=k/\k<W.heap.size+2))\/(Value.slice aG bf aF).ownBlock=some k) cs l:=(by rw[jX];exact qY);have vJ:dh eG (fun k=>S k\/W.heap.size<=k) (.slice bL xn ba) x.args:=(by rw[jX];exact vJ);have hgr:eG.grownBy ji (Value.slice aG bf aF).ownBlock:=(by rw[jX];exact bZ.1);have hlc:(Value.slice bg (bf+1) br).ownBlock=(Value.slice aG bf aF).ownBlock\/(Value.slice bg (bf+1) br).ownBlock=some eG.heap.size:=(by rw[jX];exact bZ.2);have how:=b6.out;clear jX;have hsz:fW.heap.size<=eG.heap.size:=jo.size;have Tu:=qJ.out;have mF:ag (fun k=>(Value.slice aG bf aF).ownBlock=some k) eG ji:=ag.of_grownBy hgr (fun k hk _=>hk);have hno:∀k,(Value.slice aG bf aF).ownBlock=some k->W.heap.size+2<=k:=fun k hk=>by
      have h1:=uY.out k hk;have h2:=(A1 k hk).1;omega
     have hap:∀k,(Value.slice aG bf aF).ownBlock=some k->k≠fH/\k ∉ R:=fun k hk=>HS.apart k (by rw[<-cY.out];exact hk)
     have FO:ag ai W eG:=(HS.mods.trans mj).trans jo;have xm:ag ai W ji:=FO.trans' mF (fun k hk hl=>by have:=hno k hk;omega);have NZ:=hro.out.mods jo id (fun _ _ f=>f);refine⟨?_,NZ.mods mF (fun e=>(hap _ e).1 rfl) (fun r hr e=>(hap _ e).2 hr),HS.rl,HS.eq,?_,?_,xm,?_,?_,?_⟩
     ·rw[aoj]
      exact hrun
     ·refine Kk (w4:=eG) (cs:=cs) (S1:=fun k=>S k\/W.heap.size<=k) (av:=.slice bL xn ba) ?_ qY uY vJ ?_ ?_ ?_ hgr hlc
      ·rw[<-cY.out];exact qX
      ·intro k hk
       rcases hk with (hk|hk)|hk
       ·exact Or.inl hk
       ·exact Or.inr hk.1
       ·exact Or.inr (by have:=hno k hk;omega)
      ·intro k hk
       rcases hk with hk|hk
       ·have:=HH.1 k hk
        omega
       ·omega
      ·rw[<-cY.out];exact how
     ·intro k hk
      rcases hlc with hl|hl
      ·exact hap k (by rw[<-hl];exact hk)
      ·have hk2:k=eG.heap.size:=by rw[hl]at hk;exact (anz hk).symm
       refine⟨fun e=>?_,fun e=>?_⟩
       ·have:=NZ.blk.lt
        omega
       ·obtain⟨j,hj⟩:=aoH.1 e
        have:=(NZ.row j k hj).lt;omega
     ·exact ((HS.b0.mods mj id).mods jo id).mods mF (fun e=>by have:=hno _ e;omega)
     ·exact ((HS.b1.mods mj id).mods jo id).mods mF (fun e=>by have:=hno _ e;omega)
     ·have:=HS.len
      simp only[anU,an0];omega
  ·obtain rfl:i=sn:=by omega
   have cA:¬(i:Int)<(i:Int):=(by omega);obtain⟨g0,-,g1,-,g2,-,g3,z3⟩:=HS.b0.gN;obtain⟨q0,f0,q1,f1,q2,f2,q3,f3⟩:=HS.b1.gN;go_wp2_with fail;clear g0 g1 g2 g3 z3 q0 q1 q2 q3 f0 f1 f2 f3 cA;obtain⟨hB,hm⟩:=Mt HS.b0 HS.b1 (.slice aG l.length aF);have hl:l=eZ F 0 F.steps:=by
        have h:=HS.run;rw[lB.out,anZ]at h;simpa [eZ] using h
   have sq:ag ai W (((((w4.setCell ⟨W.heap.size,3,none⟩ (.slice aG l.length aF)).setCell ⟨W.heap.size+1,0,none⟩ (.string ⟨F.name.toArray⟩)).setCell ⟨W.heap.size+1,1,none⟩ (.int .i64 F.params)).setCell ⟨W.heap.size+1,2,none⟩ (.slice ta tn tc)).setCell ⟨W.heap.size+1,3,none⟩ (.slice aG l.length aF)):=HS.mods.trans' hm (fun k hk hl=>by omega);have hst:=(HS.outs.at_).mods (T:=S) (hm.mono fun k _ hk=>Or.inr ⟨by omega,by omega⟩) (fun k _ hk=>Or.inl hk);refine bodyPost_ret (v:=.agg #[.string ⟨F.name.toArray⟩,F.params,.slice ta tn tc,.slice aG l.length aF]) (results_cell_row (P:=prog) results48 _ _ (W.heap.size+1) 55 _ (0,0) _ rfl hB underlying55 rfl (by kernel_rfl)) rfl ?_;rw[hl]at hst;rw[eR.out,hl];exact⟨_,rfl,⟨ta,tc,aG,aF,rfl,A5.mods (by rw[hl,eR.out]at sq;exact sq.mono fun _ _ f=>f.elim) (fun _ _ k=>k),by rw[eR.out]at hst;exact hst⟩,by rw[hl,eR.out]at sq;exact sq⟩
theorem aeU (L:List ax) (v:Value) (q:Nat) (p:ax->Bool) (S:Nat->Prop) (W:World) (hL:jS W S v L)
 (hK:∀ (i:Nat) (hi:i<L.length) (w:World) (fv:Value),ag ai W w->dF w S L[i] fv->Calls prog 77 #[fv,.pointer (some ⟨q,0,none⟩)] w fun e w'=>e=.returned (.bool (p L[i]))/\ag ai w w') :
 Calls prog 85 #[v,.func (.func 77) #[] #[.pointer (some ⟨q,0,none⟩)]] W fun e w=>e=.returned (.int .i64 (jy (L.findIdx? p)))/\ag ai W w:=by
 obtain⟨a,c,rfl,iZ,hcm,h0⟩:=hL.form;have cu:=af hL;have HK:=af hK;obtain⟨n,hn⟩:=aq (L.length);rw[<-hn]at iZ h0 ⊢;have aT:=af hn;clear hn hL hK;go_in;go_wp2_with fail
 go_loopw [5,8] (fun _ iv wr=>∃i:Nat,i<=n/\iv=.int .i64 i/\Hid ((L.take i).findIdx? p=none)/\Hid (ag ai W wr)) (fun _ iv _=>(n-intOf iv).toNat)
 case atStart=>exact⟨0,anC _,rfl,af (by simp),af ay⟩
 case round =>
  obtain⟨i,hi,rfl,aI,az⟩:=hrel;by_cases hlt:i<n
  ·have bm:i<L.length:=by have:=aT.out;omega
   have sT:=af bm;obtain⟨g,o,aa,ac,rfl,hcs,hT⟩:=(cu.mods (T:=S) (az.mono fun _ _ f=>f.elim) (fun _ _ k=>k)).get bm;obtain⟨c0,c1,c2,c3,c4,c5,c6,c7,c8,c9⟩:=hcs;have cA:(i:Int)<(n:Int):=(by omega);have bA:=af (findIdx_take aI (anx bm));have a_:=af (HK i bm wr _ az ⟨aa,ac,rfl,hT⟩);clear hT;generalize L[i]=x at *;clear bm;obtain⟨b,hb⟩:=aq (p x);rw[<-hb]at a_ bA;clear hb;unfold aY str at *;go_wp2_with fail;refine a_.mono ?_;rintro e w1 ⟨rfl,aO⟩;have aD:=af (az.trans aO);clear aO;cases b
   ·have cW:Hid ((L.take (i+1)).findIdx? p=none):=af (by rw[bA.out];rfl)
    go_wp2_with fail;exact⟨⟨i+1,by omega,by go_num,cW,aD⟩,by simp[intOf];omega⟩
   ·have cW:Hid (L.findIdx? p=some i):=af (By (i:=i+1) (by rw[bA.out];rfl))
    go_wp2_with fail;go_ret;rw[cW.out];exact⟨rfl,aD⟩
  ·obtain rfl:i=n:=by omega
   have bb:Hid (L.findIdx? p=none):=af (by
        have:=aI.out;rwa [anN (by have:=aT.out;omega)]at this)
   go_wp2_with fail;go_ret;rw[bb.out];exact⟨rfl,az⟩
theorem XM (w:World):(zeroValue 4).run prog w=.ok (.bool false) w:=by kernel_rfl
theorem W6 (s:ax) (v:Value) (S:Nat->Prop) (W:World) (h:dF W S s v) (hl:b9 s.label) (hq:W.cell? ⟨q,0,none⟩=some (.map (some aQ))) (hm:fw W aQ n (.bool false) (fun x=>.bool (mM l x))) :
 Calls prog 77 #[v,.pointer (some ⟨q,0,none⟩)] W fun e w=>e=.returned (.bool (ln l s))/\ag ai W w:=by
 obtain⟨aa,ac,rfl,-⟩:=h;obtain⟨ba,kD,bL,ib,fY,xn,d_,fJ,fO,xs⟩:=s;simp only at hl ⊢;unfold ln;simp only;obtain⟨AK,DM⟩:=aq (mM l fJ);rw[<-DM];obtain⟨rb,DJ⟩:=aq ((ba==6 && !AK));rw[<-DJ];have HQ:=af DJ;clear DJ;obtain⟨W1,hW1⟩:=aq (W.alloc (.cells (aY ⟨ba,kD,bL,ib,fY,xn,d_,fJ,fO,xs⟩ (.slice aa xs.length ac)).toArray 57));have aO:ag ai W W1:=by rw[hW1];exact ay.alloc _
 have hb1:aw W1 W.heap.size (aY ⟨ba,kD,bL,ib,fY,xn,d_,fJ,fO,xs⟩ (.slice aa xs.length ac)) 57:=by rw[hW1];exact aw.new W _ _
 have cH:W1.cell? ⟨q,0,none⟩=some (.map (some aQ)):=aO.cellOf hq id;have hlk:=(hm.mods aO id).look (t:=128) underlying128 (XM _) hl;have adZ:=((hm.mods aO id).mods (ag.refl ai W1).drew id).look (t:=128) underlying128 (XM _) hl;rw[<-DM]at hlk adZ;have c0:=hb1.ah 0;have c7:=hb1.ah 7;have aD:=af aO;clear hq hm hb1 DM aO;unfold aY str at *;simp only at hW1 c0 c7 ⊢;go_in;go_upto_region 1 with (fail)
 rw[<-hW1];clear hW1;by_cases h6:ba=6
 ·have yq:(ba==6)=true:=by simpa using h6
  have e:rb = !AK:=by rw[HQ.out,yq];rfl
  clear HQ h6;subst e;cases AK <;>
  ·go_wp2_with fail
   go_ret;exact⟨rfl,by first|exact aD|exact aD.drew⟩
 ·have yq:(ba==6)=false:=by simpa using h6
  have e:rb=false:=by rw[HQ.out,yq];rfl
  clear HQ h6;subst e;go_wp2_with fail;go_ret;exact⟨rfl,by first|exact aD|exact aD.drew⟩
def qM (w:World) (T:Nat->Prop) (g:Nat) (m:List ax):Prop :=
 ∃cur:List Value,aw w g cur 57/\m.length*10<=cur.length/\∀ (i:Nat) (s:ax),m[i]?=some s->∃aa ac,(∀k u,(aY s (.slice aa s.args.length ac))[k]?=some u->cur[i*10+k]?=some u)/\dh w T (.slice aa s.args.length ac) s.args
theorem qM.mods {w w':World} {T:Nat->Prop} {g:Nat} {m:List ax} (h:qM w T g m) (hm:ag ai w w'):qM w' T g m:=by
 obtain⟨cur,h1,h2,h3⟩:=h;refine⟨cur,h1.mods hm id,h2,fun i s hs=>?_⟩;obtain⟨aa,ac,k1,k2⟩:=h3 i s hs;exact⟨aa,ac,k1,k2.mods (hm.mono fun _ _ f=>f.elim) (fun _ _ k=>k)⟩
theorem qM.get (h:qM w T g m) (hs:m[i]?=some s):∃aa ac,C0 w g (i*10) s (.slice aa s.args.length ac)/\dh w T (.slice aa s.args.length ac) s.args:=by
 obtain⟨cur,h1,h2,h3⟩:=h;obtain⟨aa,ac,k1,k2⟩:=h3 i s hs;have hc:∀k u,(aY s (.slice aa s.args.length ac))[k]?=some u->w.cell? ⟨g,i*10+k,none⟩=some u:=fun k u hk=>h1.cell (k1 k u hk)
 exact⟨aa,ac,⟨hc 0 _ rfl,hc 1 _ rfl,hc 2 _ rfl,hc 3 _ rfl,hc 4 _ rfl,hc 5 _ rfl,hc 6 _ rfl,hc 7 _ rfl,hc 8 _ rfl,hc 9 _ rfl⟩,k2⟩
def CA (c:List Value) (o:Nat):List Value->List Value
 | []=>c
 | v::r=>CA (c.set o v) (o+1) r
def Eh (w:World) (g o:Nat):List Value->World
 | []=>w
 | v::r=>Eh (w.setCell ⟨g,o,none⟩ v) g (o+1) r
theorem WU:(l:List Value)->∀c o,(CA c o l).length=c.length
 | [],c,o=>rfl
 | v::r,c,o=>by rw[CA,WU r,aoK]
theorem PA:(l:List Value)->∀c o j,o+l.length<=c.length->(CA c o l)[j]?=if o<=j/\j<o+l.length then l[j-o]? else c[j]?
 | [],c,o,j,_=>by rw[CA,if_neg (by simp)]
 | v::r,c,o,j,h=>by
   rw[anK]at h;rw[CA,PA r _ _ _ (by rw[aoK];omega),anK];by_cases h1:o+1<=j/\j<o+1+r.length
   ·rw[if_pos h1,if_pos (by omega)]
    obtain⟨k,hk⟩:∃k,j-o=k+1:=⟨j-o-1,by omega⟩;rw[hk,show j-(o+1)=k by omega];rfl
   ·rw[if_neg h1,List.getElem?_set]
    by_cases h2:o=j
    ·rw[if_pos h2,if_pos (by omega),if_pos (by omega),show j-o=0 by omega]
     rfl
    ·rw[if_neg h2,if_neg (by omega)]
theorem WV:(l:List Value)->∀ {w:World} {g o:Nat} {c:List Value} {t:TypeId},aw w g c t->aw (Eh w g o l) g (CA c o l) t/\ag (·=g) w (Eh w g o l)
 | [],w,g,o,c,t,h=>⟨h,ag.refl _ _⟩
 | v::r,w,g,o,c,t,h=>by
   obtain⟨h1,h2⟩:=WV r (w:=w.setCell ⟨g,o,none⟩ v) (g:=g) (o:=o+1) (h.set o v);exact⟨h1,(ag.setCell (S:=(·=g)) (ag.refl _ w) (p:=⟨g,o,none⟩) (fun _=>rfl) v).trans h2⟩
theorem qM.store (h:qM w T g m) (hT:T g) (hi:i<m.length) {aa:Option Addr} {ac:Nat} (ha:dh w T (.slice aa x.args.length ac) x.args) :
 qM (Eh w g (i*10) (aY x (.slice aa x.args.length ac))) T g (m.set i x)/\ag (·=g) w (Eh w g (i*10) (aY x (.slice aa x.args.length ac))):=by
 obtain⟨cur,h1,h2,h3⟩:=h;obtain⟨k1,k2⟩:=WV (aY x (.slice aa x.args.length ac)) (o:=i*10) h1;refine⟨⟨_,k1,by rw[WU,aoK];exact h2,fun j s hs=>?_⟩,k2⟩;have js:i*10+(aY x (.slice aa x.args.length ac)).length<=cur.length:=by rw[rB];omega
 have hm:ag T w (Eh w g (i*10) (aY x (.slice aa x.args.length ac))):=k2.mono fun k _ e=>by rw[e];exact hT
 rw[List.getElem?_set]at hs;by_cases Jb:i=j
 ·rw[if_pos Jb,if_pos hi]at hs
  obtain rfl:=anz hs;subst Jb;refine⟨aa,ac,fun k u hk=>?_,ha.mods hm (fun _ _ k=>k)⟩;have vU:k<10:=by
   have:=(anA.1 hk).1;rwa [rB]at this
  rw[PA _ _ _ _ js,rB,if_pos (by omega),show i*10+k-i*10=k by omega];exact hk
 ·rw[if_neg Jb]at hs
  obtain⟨Bp,bc,e1,e2⟩:=h3 j s hs;refine⟨Bp,bc,fun k u hk=>?_,e2.mods hm (fun _ _ k=>k)⟩;have vU:k<10:=by
   have:=(anA.1 hk).1;rwa [rB]at this
  rw[PA _ _ _ _ js,rB,if_neg (by omega)];exact e1 k u hk
theorem qM.at_ (h:qM w T g m) {c:Nat} (hl:m.take i=l) (hi:i<=m.length) (hc:i<=c) (hcm:c<=maxLen) (hS:¬S g) (ac9:∀k,S k->T k):jS w S (.slice (some ⟨g,0,none⟩) i c) l:=by
 have BV:l.length=i:=by rw[<-hl,anP];omega
 refine⟨some ⟨g,0,none⟩,c,by rw[BV],by omega,hcm,(fun h=>by cases h),fun j s hs=>?_⟩;have hj:m[j]?=some s:=by
  rw[<-hl,List.getElem?_take]at hs;split at hs
  ·exact hs
  ·cases hs
 obtain⟨aa,ac,k1,k2⟩:=h.get hj;exact⟨g,0,_,rfl,hS,by rw[an9];exact k1,k2.mods ay (fun k _ h=>ac9 k h)⟩
theorem ais (P:Program) (w:World) (t ty elem:TypeId) (z:Value) (hu:P.underlying t=some (.slice elem)) (hz:(zeroValue elem).run P w=.ok z w) (g o n c:Nat) (cur:List Value) (te:TypeId) (hg:aw w g cur te) (js:o+n*z.cells.size<=cur.length) (h1:∀i,i<z.cells.size->(z.cells[i]!).oneCell'=true) :
 ∃w',(Builtin.clear_ #[t] ty #[.slice (some ⟨g,o,none⟩) n c]).run P w=.ok (.tuple #[]) w'/\ag (·=g) w w'/\∃cur',aw w' g cur' te/\cur'.length=cur.length/\∀j,j<o->cur'[j]?=cur[j]?:=by
 rcases Nat.eq_zero_or_pos n with rfl|hn
 ·refine⟨w,?_,ag.refl _ _,cur,hg,rfl,fun _ _=>rfl⟩
  simp[Builtin.clear_,run_underlying hu]
 ·obtain⟨k,rfl⟩:∃k,n=k+1:=⟨n-1,by omega⟩
  have hlen:(Builtin.zeroCells z.cells (k+1)).toList.length=(k+1)*z.cells.size:=by simp[Builtin.zeroCells]
  have hst:=run_storeCells_at P g o te (Builtin.zeroCells z.cells (k+1)).toList 0 cur.toArray w hg (by rw[hlen];simpa using js) (by
   intro v hv;rw[Array.mem_toList_iff]at hv;simp only[Builtin.zeroCells,Array.mem_map,Array.mem_range]at hv;obtain⟨i,hi,rfl⟩:=hv;refine h1 _ (Nat.mod_lt _ ?_);rcases Nat.eq_zero_or_pos z.cells.size with h0|h0
   ·rw[h0]at hi;omega
   ·exact h0)
  obtain⟨new,gz⟩:∃new:List Value,new=cur.toArray.toList.take (o+0)++(Builtin.zeroCells z.cells (k+1)).toList++cur.toArray.toList.drop (o+0+(Builtin.zeroCells z.cells (k+1)).toList.length):=⟨_,rfl⟩;rw[<-gz]at hst;refine⟨w.setRow g new.toArray,?_,⟨rfl,rfl,?_,fun j hj hn=>setRow_other w g j _ hn⟩,new,setRow_heap w g cur.toArray _ te _ hg,?_,fun j hj=>?_⟩
  ·simp[Builtin.clear_,run_underlying hu,hz,hst]
  ·simp[World.setRow]
  ·rw[gz]
   simp only[aou,anU,anP,List.length_drop,hlen];omega
  ·rw[gz]
   simp only[aou];rw[aoj,anI (by rw[anP];omega),aon hj]
theorem akK (w:World):(zeroValue 57).run prog w=.ok ze w:=by kernel_rfl
theorem akJ:∀i,i<ze.cells.size->(ze.cells[i]!).oneCell'=true:=by
 intro i hi;have h:ze.cells.size=10:=rfl;rw[h]at hi
 match i,hi with
 | 0,_=>rfl
 | 1,_=>rfl
 | 2,_=>rfl
 | 3,_=>rfl
 | 4,_=>rfl
 | 5,_=>rfl
 | 6,_=>rfl
 | 7,_=>rfl
 | 8,_=>rfl
 | 9,_=>rfl
theorem ahh (h:kt W base S v l) (h0:0<l.length):∃g cap,v=.slice (some ⟨g,0,none⟩) l.length cap/\qM W (fun k=>S k\/k=g) g l/\¬S g/\l.length<=cap/\cap<=maxLen:=by
 obtain⟨cs,h1,h2,dJ⟩:=h;rcases h1.2 with⟨hv,hz⟩|⟨g,cap,cur,hv,h3,h4,h5,h6,h7,h8⟩
 ·omega
 ·refine⟨g,cap,hv,⟨cur.toList,h4,by have e:cur.toList.length=cur.size:=Array.length_toList;rw[e,h7];omega,fun i s hs=>?_⟩,dJ g (by rw[hv];rfl),h5,h6⟩
  obtain⟨av,k1,k2⟩:=h2 i s hs;obtain⟨aa,ac,rfl,-⟩:=k2.form;have hi:i<l.length:=(anA.1 hs).1;refine⟨aa,ac,fun k u hk=>?_,k2.mods ay (fun k _ hk=>hk.imp id (fun e=>by rw[hv,e];rfl))⟩;have vU:k<10:=by
   have:=(anA.1 hk).1;rwa [rB]at this
  have:=k1 k u hk;rw[<-h8,aon (by omega)]at this;exact this
structure PZ (W:World) (T:Nat->Prop) (g:Nat) (p:ax->Bool) (l:List ax) (i j:Nat) (wr:World):Prop where
 row:∃m,qM wr T g m/\m.length=l.length/\m.take i=(l.take j).filter p/\m.drop j=l.drop j
 mods:ag (·=g) W wr
theorem Mq {j:Nat} (h:l[j]?=some x):(l.take (j+1)).filter p=(l.take j).filter p++if p x then [x] else []:=by
 rw[aod,h,List.filter_append]
 congr 1
 cases hp:p x <;> simp[hp]
theorem take_set (hi:i<m.length):(m.set i x).take (i+1)=m.take i++[x]:=by
 rw[aod,List.take_set_of_le (by omega),aok hi];rfl
theorem abU (h:l.findIdx? p=some i):i<l.length/\(l.take (i+1)).filter (fun s=>!p s)=l.take i:=by
 rw[aoD]at h;obtain⟨hi,h1,h2⟩:=h;refine⟨hi,?_⟩;rw[Mq (anx hi),h1];simp only[Bool.not_true,aoP,if_false,aoW];rw[List.filter_eq_self];intro s hs;obtain⟨j,hj,rfl⟩:=List.getElem_of_mem hs;rw[anP]at hj;have:=h2 j (by omega);rw[List.getElem_take];simpa using this
theorem aa1 (h:kt W base S v l) (qd:∀s∈l,b9 s.label) (hq:W.cell? ⟨q,0,none⟩=some (.map (some aQ))) (hm:fw W aQ n (.bool false) (fun x=>.bool (mM l x))) (hap:∀k,v.ownBlock=some k->k≠q/\k≠aQ) (BV:l.length<=6000) :
 Calls prog 76 #[v,.func (.func 77) #[] #[.pointer (some ⟨q,0,none⟩)]] W fun e w=>∃a c,e=.returned (.slice a (l.filter (fun s=>!ln l s)).length c)/\jS w S (.slice a (l.filter (fun s=>!ln l s)).length c) (l.filter (fun s=>!ln l s))/\ag (fun k=>v.ownBlock=some k) W w:=by
 have hat:=h.at_;have sj:=aeU l v q (ln l) S W hat (fun i hi w fv aO hv=>W6 l[i] fv S w hv (qd _ (aof _)) (aO.cellOf hq id) (hm.mods aO id));obtain⟨aG,aF,rfl⟩:=h.form;have HH:=af (anw h (anw qd (anw hq (anw hm hap))));have EI:=af hat;have Qu:=af sj;obtain⟨p,hp⟩:∃p:ax->Bool,p=ln l:=⟨_,rfl⟩;have bP:=af hp;have uB:(fun s=>!ln l s)=(fun s=>!p s):=by rw[hp]
 rw[uB];obtain⟨bf,fo⟩:=aq (l.length);have cY:=af fo;rw[<-fo]at BV ⊢;have F8:(bf:Int)<=6000:=by omega
 clear h qd hq hm hap hat sj hp uB fo;go_in;go_wp2_with fail;have K_:=Qu.out;rw[<-cY.out,<-bP.out]at K_;refine K_.mono ?_;rintro e w1 ⟨rfl,aO⟩;have aD:=af aO;clear K_ Qu aO;cases hf:l.findIdx? p with
 | none =>
   simp only[jy];have oV:l.filter (fun s=>!p s)=l:=by
    rw[List.filter_eq_self];intro s hs;have:=List.findIdx?_eq_none_iff.1 hf s hs;simp[this]
   have Yg:=af oV;clear hf oV;go_wp2_with fail;go_ret;rw[Yg.out];exact⟨aG,aF,by rw[cY.out];rfl,by have:=EI.mods (T:=S) (aD.mono fun _ _ f=>f.elim) (fun _ _ k=>k);exact this,aD.mono fun _ _ f=>f.elim⟩
 | some i0 =>
   obtain⟨gw,TW⟩:=abU hf;obtain⟨g,cap,qg,hrow,Tn,hlc,hcm⟩:=ahh HH.1 (by omega);obtain⟨rfl,-,rfl⟩:=Value.slice.inj qg;have HD:Hid (PZ w1 (fun k=>S k\/k=g) g (fun s=>!p s) l i0 (i0+1) w1):=af ⟨⟨l,hrow.mods aD,rfl,TW.symm,rfl⟩,ag.refl _ _⟩;have HG:=af (anw Tn (anw hlc hcm));have alS:i0<bf:=(by rw[cY.out];exact gw);simp only[jy];have hne:((i0:Int)==-1)=false:=by
    rw[beq_eq_false_iff_ne];omega
   clear hf TW qg hrow Tn hlc hcm gw EI;go_upto_region 4 with (fail)
   clear hne;go_wp2_with fail
   go_loopw [5,6] (fun iv jw wr=>∃i j:Nat,i<j/\j<=bf/\iv=.int .i64 (i:Int)/\jw=.int .i64 (j:Int)/\Hid (PZ w1 (fun k=>S k\/k=g) g (fun s=>!p s) l i j wr)) (fun _ jw _=>(bf-intOf jw).toNat)
   case atStart=>exact⟨i0,i0+1,by omega,by omega,rfl,by go_num,HD⟩
   case round =>
    clear HD;obtain⟨fX,rfl⟩:=aq wr;obtain⟨i,j,Jb,hj,rfl,rfl,HS⟩:=hrel;by_cases hlt:j<bf
    ·have ep:j<l.length:=by rw[<-cY.out];exact hlt
     obtain⟨x,cU⟩:∃x,l[j]?=some x:=⟨_,anx ep⟩;obtain⟨m,aO,aN,aR,bX⟩:=HS.row;have hmx:m[j]?=some x:=by
      have h1:(m.drop j)[0]?=(l.drop j)[0]?:=(by rw[bX]);rw[aor,aor]at h1;simpa [cU] using h1
     obtain⟨bL,ba,hcs,ld⟩:=aO.get hmx;obtain⟨jN,y1,fB,jA,l_,mP,lQ,ny,ma,jO⟩:=hcs;have cA:(j:Int)<(bf:Int):=(by omega);have adR:j<6000:=(by omega);obtain⟨dC,fI⟩:=aq (fX.alloc (.cells (aY x (.slice bL x.args.length ba)).toArray 57));have bG:ag ai fX dC:=(by rw[fI];exact ay.alloc _);have dT:aw dC fX.heap.size (aY x (.slice bL x.args.length ba)) 57:=(by rw[fI];exact aw.new fX _ _);have ej:=af dT;have eL:=af bG;have aj:=af (anw cU (anw aO (anw aN (anw aR (anw bX ld)))));have NY:q≠g/\aQ≠g:=by
      have:=HH.2.2.2.2 g rfl;exact⟨fun e=>this.1 e.symm,fun e=>this.2 e.symm⟩
     have MZ:ag (·=g) w1 dC:=HS.mods.trans (bG.mono fun _ _ f=>f.elim);have hcell:=MZ.cellOf (aD.cellOf HH.2.2.1 id) NY.1;have hmap:=(HH.2.2.2.1.mods aD id).mods MZ NY.2;have EZ:=af (W6 x (.agg (aY x (.slice bL x.args.length ba)).toArray) (fun k=>S k\/k=g) dC ⟨bL,ba,rfl,ld.mods (bG.mono fun _ _ f=>f.elim) (fun _ _ k=>k)⟩ (HH.2.1 x (anF cU)) hcell hmap);rw[<-bP.out]at EZ;obtain⟨xn,dM⟩:=aq (x.args.length);have Zn:=af dM;rw[<-dM]at jO fI EZ;have ej:Hid (aw dC fX.heap.size (aY x (.slice bL xn ba)) 57):=(by rw[dM];exact ej);obtain⟨pb,j5⟩:=aq (p x);rw[<-j5]at EZ;have CT:=af j5;clear cU aO aN aR bX hmx ld bG dT MZ hcell hmap dM ep j5 NY;unfold aY str at *;go_upto_region 8 with (fail)
     rw[<-fI];clear fI jN y1 fB jA l_ mP lQ ny ma jO;obtain⟨e0,e1,e2,e3,e4,cG,ew,dv,dc,fG⟩:=ej.gD;go_wp2_with fail;refine EZ.mono ?_;rintro e a7 ⟨rfl,dK⟩;have gh:=af (eL.trans dK);have f_:=af (ej.mods dK id);clear e0 e1 e2 e3 e4 cG ew dv dc fG ej EZ eL dK;cases pb with
     | true =>
       go_wp2_with fail;refine⟨⟨i,j+1,by omega,by omega,rfl,by go_num,af ?_⟩,by simp[intOf];omega⟩;obtain⟨cU,aO,aN,aR,bX,ld⟩:=aj.out;refine⟨⟨_,aO.mods gh,aN,?_,?_⟩,HS.mods.trans (gh.mono fun _ _ f=>f.elim)⟩
       ·rw[aR,Mq cU,<-CT.out]
        simp
       ·rw[<-aoE,bX,aoE]
     | false =>
       obtain⟨e0,e1,e2,e3,e4,cG,ew,dv,dc,fG⟩:=f_.gD;have j7:Hid (qM a7 (fun k=>S k\/k=g) g m):=af (aj.2.1.mods gh);have bm:i<m.length:=(by rw[aj.2.2.1,<-cY.out];omega);have sT:=af bm;obtain⟨z,hz⟩:∃z,m[i]?=some z:=⟨_,anx bm⟩;obtain⟨sM,zc,hzs,-⟩:=j7.get hz;obtain⟨z0,cS,z2,z3,z4,z5,rJ,He,KP,z9⟩:=hzs;obtain⟨cur,se,-⟩:=j7.out;have f0:=se.free (i*10);have f1:=se.free (i*10+1);have f2:=se.free (i*10+2);have f3:=se.free (i*10+3);have f4:=se.free (i*10+4);have f5:=se.free (i*10+5);have f6:=se.free (i*10+6);have f7:=se.free (i*10+7);have f8:=se.free (i*10+8);have f9:=se.free (i*10+9);have aef:(i:Int)<(bf:Int):=(by omega);have I_:i<6000:=(by omega);clear se hz bm;go_wp2_with fail;refine⟨⟨i+1,j+1,by omega,by omega,by go_num,by go_num,af ?_⟩,by simp[intOf];omega⟩;obtain⟨cU,aO,aN,aR,bX,ld⟩:=aj.out;obtain⟨k1,k2⟩:=j7.store (Or.inr rfl) sT (x:=x) (aa:=bL) (ac:=ba) (ld.mods (gh.mono fun _ _ f=>f.elim) (fun _ _ k=>k));rw[<-Zn.out]at k1 k2;refine⟨⟨m.set i x,k1,by rw[aoK];exact aN,?_,?_⟩,(HS.mods.trans (gh.mono fun _ _ f=>f.elim)).trans k2⟩
       ·rw[take_set sT.out,aR,Mq cU,<-CT.out]
        simp
       ·rw[List.drop_set_of_lt (by omega),<-aoE,bX,aoE]
    ·obtain rfl:j=bf:=by omega
     obtain⟨m,aO,aN,aR,bX⟩:=HS.row;obtain⟨cur,se,lI,hrel⟩:=aO;have js:i*10+(j-i)*ze.cells.size<=cur.length:=by
      have e:ze.cells.size=10:=rfl;rw[e];have:=cY.out;omega
     have xz:List.take i m=List.filter (fun s=>!p s) l:=(by rw[aR,cY.out,aob]);have bb:=af (anw xz (anw aN hrel));have aU:=af (anw se js);have cA:¬(j:Int)<(j:Int):=(by omega);have alW:(i:Int)<(j:Int):=(by omega);have hle:(i:Int)<=(j:Int):=(by omega);have I_:i<6000:=(by omega);have BL:(j:Int)<=(aF:Int):=(by have:=HG.2.1;have:=cY.out;omega);have alM:(aF:Int)<=9223372036854775807:=(by have:=HG.2.2;unfold maxLen at this;omega);clear aN aR bX lI hrel se js xz hlt hj;obtain⟨fW,amu,gT,TE⟩:=ais prog fX 53 0 57 ze underlying53 (akK _) g (i*10) (j-i) (aF-i) cur _ aU.1 aU.2 akJ;have Hn:=af (anw gT TE);clear gT TE;go_wp2_with fail;go_ret;obtain⟨gT,cur',hc1,hc2,hc3⟩:=Hn.out;obtain⟨xz,aN,hrel⟩:=bb.out;have ad6:ag (·=g) W fW:=((aD.mono fun _ _ f=>f.elim).trans HS.mods).trans gT;have ad4:ag (fun k=>S k\/k=g) fX fW:=gT.mono fun k _ e=>Or.inr e
     have BV:i<=m.length:=(by rw[aN,<-cY.out];omega);have oV:(l.filter fun s=>!p s).length=i:=(by rw[<-xz,anP];omega);have hrow:qM fW (fun k=>S k\/k=g) g (m.take i):=by
      refine⟨cur',hc1,?_,fun k s hs=>?_⟩
      ·rw[anP,hc2]
       have:=aU.2;have e:ze.cells.size=10:=rfl;rw[e]at this;omega
      ·have hk:k<i/\m[k]?=some s:=by
        rw[List.getElem?_take]at hs;split at hs
        ·exact⟨by assumption,hs⟩
        ·cases hs
       obtain⟨aa,ac,e1,e2⟩:=hrel k s hk.2;refine⟨aa,ac,fun b u hu=>?_,e2.mods ad4 (fun _ _ k=>k)⟩;have alB:b<10:=by
        have:=(anA.1 hu).1;rwa [rB]at this
       rw[hc3 _ (by omega)];exact e1 b u hu
     refine⟨some ⟨g,0,none⟩,aF,by rw[oV];rfl,?_,ad6.mono fun k _ e=>by rw[e];rfl⟩;have:=hrow.at_ (l:=l.filter fun s=>!p s) (i:=i) (c:=aF) (by rw[List.take_take,Nat.min_self];exact xz) (by rw[anP];omega) (by omega) HG.2.2 HG.1 (fun k hk=>Or.inl hk);rw[oV];exact this
end aW
namespace aW
open Go.RowKit aB Go.Proofs.Tryz
def xK (s:ax):List ax->Bool
 | []=>false
 | t::_=>s.code==4 && t.code==6 && t.label==s.label
theorem wq (s:ax) (r:List ax):i_ (s::r)=(if xK s r then [] else [s])++i_ r:=by
 cases r with
 | nil=>rfl
 | cons t r =>
   rw[i_];unfold xK;by_cases h:s.code=4/\t.code=6/\t.label=s.label
   ·rw[if_pos h,if_pos (by simp[h.1,h.2.1,h.2.2])]
    rfl
   ·rw[if_neg h,if_neg (by simpa [and_assoc] using h)]
    rfl
theorem JT:(l:List ax)->∀s∈i_ l,s∈l
 | [],s,h=>h
 | x::r,s,h=>by
   rw[wq]at h;rcases List.mem_append.1 h with h|h
   ·split at h
    ·cases h
    ·simp only[List.mem_singleton]at h
     exact List.mem_cons.2 (Or.inl h)
   ·exact List.mem_cons.2 (Or.inr (JT r s h))
theorem Kh:(on:Bool)->(l:List ax)->∀s∈iI on l,s∈l
 | _,[],s,h=>h
 | on,x::r,s,h=>by
   rw[iI]at h;rcases List.mem_append.1 h with h|h
   ·split at h
    ·simp only[List.mem_singleton]at h
     exact List.mem_cons.2 (Or.inl h)
    ·cases h
   ·exact List.mem_cons.2 (Or.inr (Kh _ r s h))
theorem ahY {l:List ax} {s:ax} (h:s∈y2 l):s∈l:=Kh _ _ _ (JT _ _ (List.mem_filter.1 h).1)
theorem Mb (F:ar):(i:Nat)->(l:List ax)->∀s∈eZ F i l,s∈l
 | _,[],s,h=>by simp[eZ]at h
 | i,x::r,s,h=>by
   rw[eZ]at h;split at h
   ·rcases List.mem_cons.1 h with h|h
    ·exact List.mem_cons.2 (Or.inl h)
    ·exact List.mem_cons.2 (Or.inr (Mb F (i+1) r s h))
   ·exact List.mem_cons.2 (Or.inr (Mb F (i+1) r s h))
theorem ako (l:List ax) (s:ax) (x:Int):mM (l++[s]) x=(mM l x || ((s.code==4 || s.code==5) && s.label==x)):=by
 unfold mM;rw[List.any_append];simp

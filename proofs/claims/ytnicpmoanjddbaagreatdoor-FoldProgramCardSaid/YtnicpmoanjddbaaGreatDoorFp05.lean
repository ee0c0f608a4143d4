/- A part of what stands behind. -/
import Derived.Test.YtnicpmoanjddbaaGreatDoorFp04
import Derived.Deep.DeepCutAuto
import Derived.LaidMore
import Derived.Stop.Joined
import Derived.Lib.LaidTab
set_option maxRecDepth 100000
set_option maxHeartbeats 4000000
set_option linter.all false
namespace Go.Proofs.YtnicpmoanjddbaaGreatDoor
namespace aW
open Go.RowKit bB Go.Maps aB Go.Proofs.Tryz
variable {L:List ar} {f:ar} {s:ax} {W W':World}
theorem Vi (f:ar) (p:Int) (q tc:Nat) (ta:Option Addr) (S:Nat->Prop) (W:World) (hq:W.cell? ⟨q,2,none⟩=some (.slice ta f.types.length tc)) (hT:dh W S (.slice ta f.types.length tc) f.types) :
 Calls prog 86 #[p,.pointer (some ⟨q,0,none⟩)] W fun e w=>e=.returned (.int .i64 (bO f p))/\W=w:=by
 obtain⟨_,_,hf,hl,hm,-⟩:=hT.form;obtain⟨-,-,rfl⟩:=Value.slice.inj hf;by_cases h0:p<0
 ·have hk:bO f p=-1:=by unfold bO;rw[if_pos (Or.inl h0)]
  rw[hk];clear hk hT hf hl hm;go_in;go_wp2;go_ret;exact⟨rfl,rfl⟩
 ·obtain⟨k,rfl⟩:∃k:Nat,p=k:=⟨p.toNat,by omega⟩
  by_cases h1:k<f.types.length
  ·have hk:bO f k=f.types[k]:=by
        unfold bO;rw[if_neg (by omega),aoy,anM,anx h1];rfl
   obtain⟨g,o,rfl,hc⟩:=hT.get h1;rw[hk];have h2:(k:Int)<f.types.length:=(by omega);clear hk hT hf h0;generalize f.types[k]=t at hc ⊢;clear h1;generalize f.types.length=n at *;go_in;go_wp2;go_ret;exact⟨rfl,rfl⟩
  ·have hk:bO f k=-1:=by unfold bO;rw[if_pos (Or.inr (by omega))]
   rw[hk];have h2:(f.types.length:Int)<=k:=(by omega);clear hk hT hf hl hm;generalize f.types.length=n at *;go_in;go_wp2;go_ret;exact⟨rfl,rfl⟩
theorem OO (f:ar) (p:Int) (q tc:Nat) (ta:Option Addr) (S:Nat->Prop) (W:World) (hq:W.cell? ⟨q,2,none⟩=some (.slice ta f.types.length tc)) (hT:dh W S (.slice ta f.types.length tc) f.types) (n:Nat) :
 Calls prog 86 #[p,.pointer (some ⟨q,0,none⟩)] (W.drewN n) fun e w=>e=.returned (.int .i64 (bO f p))/\∃m,w=W.drewN m :=
 (Vi f p q tc ta S (W.drewN n) hq (hT.mods ((ag.refl S W).drewN n) (fun _ _ k=>k))).mono fun e w ⟨h1,h2⟩=>⟨h1,n,h2.symm⟩
structure Ask (W W3:World) (f:ar) (s:ax) (q:Nat) (ta sa aa:Option Addr) (tc sc ac:Nat):Prop where
 mods:ag ai W W3
 fn:aw W3 q [str f.name,f.params,.slice ta f.types.length tc,.slice sa f.steps.length sc] 55
 st:aw W3 (q+1) (aY s (.slice aa s.args.length ac)) 57
theorem Ask.new (W:World) (f:ar) (s:ax) (ta sa aa:Option Addr) (tc sc ac:Nat) :
 Ask W ((W.alloc (.cells #[str f.name,f.params,.slice ta f.types.length tc,.slice sa f.steps.length sc] 55)).alloc (.cells (aY s (.slice aa s.args.length ac)).toArray 57)) f s W.heap.size ta sa aa tc sc ac:=by
 refine⟨(ay.alloc _).alloc _,(aw.new W _ _).alloc _,?_⟩;have:=aw.new (W.alloc (.cells #[str f.name,f.params,.slice ta f.types.length tc,.slice sa f.steps.length sc] 55)) (aY s (.slice aa s.args.length ac)).toArray 57;rw[show (W.alloc (.cells #[str f.name,f.params,.slice ta f.types.length tc,.slice sa f.steps.length sc] 55)).heap.size=W.heap.size+1 by simp]at this;simpa using this
theorem ah9 (L:List ar) (f:ar) (s:ax) (cb aQ:Nat) (ta sa aa:Option Addr) (tc sc ac:Nat) (W:World) (hc:s.code=2)
 (hT:dh W ai (.slice ta f.types.length tc) f.types) :
 Calls prog 58 #[.pointer (some ⟨cb,0,none⟩),.agg #[str f.name,f.params,.slice ta f.types.length tc,.slice sa f.steps.length sc],.agg (aY s (.slice aa s.args.length ac)).toArray,.map (some aQ)] W fun e w=>e=.returned (.bool (cx L f s))/\ag ai W w:=by
 have hr:cx L f s=(decide (bO f s.dst > 0) && bO f s.dst==bO f s.a):=by
  unfold cx;rw[if_pos hc]
 rw[hr];obtain⟨W3,hW3⟩:=aq (((W.alloc (.cells #[str f.name,f.params,.slice ta f.types.length tc,.slice sa f.steps.length sc] 55)).alloc (.cells (aY s (.slice aa s.args.length ac)).toArray 57)));have k_:∀ (fn:Go.Fn) (first cap:Array Value) (w:World),(Instr.makeFunc fn first cap).run prog w=.ok (.func fn first cap) w:=fun _ _ _ _=>rfl
 have bH:Ask W W3 f s W.heap.size ta sa aa tc sc ac:=by rw[hW3];exact Ask.new W f s ta sa aa tc sc ac
 have vN:=hT.mods bH.mods (fun _ _ k=>k);have HK:=af (fun (p:Int) (n:Nat)=>OO f p W.heap.size tc ta ai W3 (bH.fn.cell rfl) vN n);obtain⟨s0,s1,s2⟩:=bH.st.gF;rw[hc]at s0;have az:=af bH.mods;clear bH hT vN hr hc;unfold aY str at *;go_in;go_upto_region 1 with (fail)
 rw[<-hW3];clear hW3;by_cases hk:0<bO f s.dst
 rotate_left
 ·have hk2:decide (0<bO f s.dst)=false:=by simpa using hk
  go_wp2_with fail
  go_quiet ((go_at_call 86;exact HK _ _))
  go_wp2_with fail;go_ret;exact⟨by simp[hk2],az.drewN _⟩
 ·go_wp2_with fail
  go_quiet ((go_at_call 86;exact HK _ _))
  go_wp2_with fail;go_ret;exact⟨by simp[hk],az.drewN _⟩
theorem Su (g:ar) (nm:List UInt8) (q:Nat) (w:World) (fv:Value) (hq:w.cell? ⟨q,8,none⟩=some (str nm)) (hv:jc w ai g fv) :
 Calls prog 87 #[fv,.pointer (some ⟨q,0,none⟩)] w fun e w'=>e=.returned (.bool (g.name==nm))/\ag ai w w':=by
 obtain⟨ta,tc,sa,sc,rfl,-,-⟩:=hv;have hlt:q<w.heap.size:=World.block_lt_of_cell? w _ hq;have hne:q≠w.heap.size:=by omega
 unfold str at *;go_in;go_wp2;go_ret;exact⟨by simp,ay.alloc _⟩
def Bc (L:List ar):Prop:=∀g∈L,0<=g.params/\g.params<=g.types.length
theorem SF {α:Type} (l:List α) (p:α->Bool):l.find? p=(l.findIdx? p).bind fun i=>l[i]?:=by
 induction l with
 | nil=>rfl
 | cons a r ih =>
   rw[aoa,aoQ];split
   ·rename_i h;rw[h];rfl
   ·rename_i h
    rw[h,ih];cases r.findIdx? p with
    | none=>rfl
    | some i=>simp
theorem map_take {f:Int->Int} {l t:List Int} {n:Nat} (hn:l.length=n) (ht:n<=t.length):(l.map f==t.take n)=true↔∀i,i<n->∀x,l[i]?=some x->f x=t.getD i 0:=by
 rw[beq_iff_eq];constructor
 ·intro h i hi x hx
  have h1:(l.map f)[i]?=some (f x):=by rw[anV,hx];rfl
  rw[h,aon hi]at h1;rw[anM,h1];rfl
 ·intro h
  apply List.ext_getElem?;intro i;by_cases hi:i<n
  ·rw[anV,aon hi]
   have hl:i<l.length:=(by omega);rw[anx hl,anx (by omega:i<t.length)];have:=h i hi _ (anx hl);rw[Option.map_some,this,anM,anx (by omega:i<t.length)];rfl
  ·rw[aoG (by rw[anR];omega),aoG (by rw[anP];omega)]
theorem WH (hc:s.code=7) (h:L.findIdx? (fun g=>g.name==s.name)=none):cx L f s=false:=by
 unfold cx;rw[if_neg (by omega),if_pos hc,SF,h];rfl
theorem WI (hc:s.code=7) {k:Nat} {G:ar} (hk:L[k]?=some G) (h:L.findIdx? (fun g=>g.name==s.name)=some k):cx L f s=(decide ((s.args.length:Int)=G.params) && bO f s.dst==1 && (s.args.map (bO f))==G.types.take s.args.length):=by
 unfold cx;rw[if_neg (by omega),if_pos hc,SF,h,Option.bind_some,hk]
theorem WJ (L:List ar) (f:ar) (s:ax) (cb aQ:Nat) (lv:Value) (ta sa aa:Option Addr) (tc sc ac:Nat) (W:World) (hc:s.code=7)
 (hcb:W.cell? ⟨cb,0,none⟩=some lv) (hL:iM W ai lv L) (hH:Bc L)
 (hT:dh W ai (.slice ta f.types.length tc) f.types) (hA:dh W ai (.slice aa s.args.length ac) s.args) (hno:∀k G,L[k]?=some G->L.findIdx? (fun g=>g.name==s.name)=some k->¬bO f s.dst=1) :
 Calls prog 58 #[.pointer (some ⟨cb,0,none⟩),.agg #[str f.name,f.params,.slice ta f.types.length tc,.slice sa f.steps.length sc],.agg (aY s (.slice aa s.args.length ac)).toArray,.map (some aQ)] W fun e w=>e=.returned (.bool (cx L f s))/\ag ai W w:=by
 obtain⟨bL,ba,rfl,wj,fp,hx0⟩:=hL.form;obtain⟨W3,hW3⟩:=aq (((W.alloc (.cells #[str f.name,f.params,.slice ta f.types.length tc,.slice sa f.steps.length sc] 55)).alloc (.cells (aY s (.slice aa s.args.length ac)).toArray 57)));have k_:∀ (fn:Go.Fn) (first cap:Array Value) (w:World),(Instr.makeFunc fn first cap).run prog w=.ok (.func fn first cap) w:=fun _ _ _ _=>rfl
 have bH:Ask W W3 f s W.heap.size ta sa aa tc sc ac:=by rw[hW3];exact Ask.new W f s ta sa aa tc sc ac
 have vN:=hT.mods bH.mods (fun _ _ k=>k);have FB:=hA.mods bH.mods (fun _ _ k=>k);obtain⟨_,_,M1,la,su,-⟩:=hA.form;obtain⟨-,-,rfl⟩:=Value.slice.inj M1;have hL3:=hL.mods bH.mods (fun _ _ k=>k);have BK:W3.cell? ⟨cb,0,none⟩=some (.slice bL L.length ba):=bH.mods.cellOf hcb (fun k=>k);obtain⟨s0,s1,-,-,-,-,-,-,Eg,AB⟩:=bH.st.gD;rw[hc]at s0;have aI:=af (U8 L (.slice bL L.length ba) (W.heap.size+1) (fun g=>g.name==s.name) W3 hL3 (fun i hi w fv hm hv=>Su L[i] s.name _ w fv (hm.cellOf Eg (fun k=>k)) hv));have HK:=af (fun (w:World) (hm:ag ai W3 w) (p:Int) (n:Nat)=>OO f p W.heap.size tc ta ai w (hm.cellOf (bH.fn.cell rfl) (fun k=>k)) (vN.mods hm (fun _ _ k=>k)) n);have az:=af bH.mods;have rP:=af (anw hL3 FB);have HS:=af (anw BK (anw s1 AB));have uC:Hid (L.findIdx? (fun g=>g.name==s.name)=none->cx L f s=false):=af (WH hc);have DI:Hid (∀k G,L[k]?=some G->L.findIdx? (fun g=>g.name==s.name)=some k->cx L f s=(decide ((s.args.length:Int)=G.params) && bO f s.dst==1 && (s.args.map (bO f))==G.types.take s.args.length)):=af (fun k G h=>WI hc h);have aj:Hid (∀k,L.findIdx? (fun g=>g.name==s.name)=some k->k<L.length):=af (fun k hk=>(aoD.1 hk).1);have HH:=af hH;have Ll:=af hno;clear hno bH hT vN hc hL hA FB hL3 hH hcb Eg;generalize L.findIdx? (fun g=>g.name==s.name)=ok at *;generalize Ge:s.args.length=n at *;have jf:=af Ge;clear Ge;generalize FF:L.length=bf at *;have cY:=af FF;clear FF;unfold aY str at *;go_in;go_upto_region 1 with (fail)
 rw[<-hW3];clear hW3;go_wp2_with fail;refine aI.mono ?_;rintro e w1 ⟨rfl,aO⟩;have aD:=af aO;have I5:=aO.cellOf BK (fun k=>k);have hs1:=aO.cellOf s1 (fun k=>k);have UI:=aO.cellOf AB (fun k=>k);have nG:=af (HK w1 aO);clear aO BK s0 s1 AB aI;cases ok with
 | none =>
   simp only[jy];go_wp2_with fail
   go_quiet (fail)
   go_wp2_with fail;go_ret;rw[uC.out trivial];exact⟨rfl,(az.trans aD).drewN _⟩
 | some k =>
   have xv:=aj.out k rfl;have ng:k<L.length:=(by rw[cY.out];exact xv);simp only[jy];obtain⟨tj,MD⟩:=rP.out;obtain⟨g,o,ga,gc,ha,hcc,rfl,c0,c1,c2,c3,Nj,T2⟩:=(tj.mods aD (fun _ _ k=>k)).get (by rw[cY.out];exact xv);have B4:=HH.out L[k] (aof ng);have Uu:=Ll.out k _ (anx ng) rfl;have aP:=af (DI.out k _ (anx ng) rfl);have Gc:=fun (h:s.args.length=n) (h2:n<=L[k].types.length)=>map_take (f:=bO f) h h2
   generalize L[k]=G at *;obtain⟨tx,oY⟩:=B4;have rf:decide ((k:Int)<0)=false:=(by simp);have adU:(k:Int)<(bf:Int):=(by omega);clear DI uC aj rP HH cY;by_cases fe:(n:Int)=G.params
   ·have hb:((n:Int) != G.params)=false:=by simpa using fe
    have B1:n<=G.types.length:=(by omega);have NK:=af (Gc jf B1);rw[<-fe]at c1;have hb2:((n:Int) != n)=false:=(by simp);have HG:Hid (cx L f s=(bO f s.dst==1 && (s.args.map (bO f)==G.types.take n))):=af (by rw[aP.out,fe];simp);clear fe hb aP Gc;have kh:¬bO f s.dst=1:=Uu;clear Uu;have hd:(bO f s.dst != 1)=true:=(by simpa using kh);go_wp2_with fail
    go_quiet ((go_at_call 86;exact nG _ _))
    go_wp2_with fail;go_ret;rw[HG.out];exact⟨by simp[kh],(az.trans aD).drewN _⟩
   ·have hb:((n:Int) != G.params)=true:=by simpa using fe
    go_wp2_with fail
    go_quiet (fail)
    go_wp2_with fail;go_ret;rw[aP.out];exact⟨by simp[fe],(az.trans aD).drewN _⟩
theorem ah8 (L:List ar) (f:ar) (s:ax) (cb aQ:Nat) (lv:Value) (ta sa aa:Option Addr) (tc sc ac:Nat) (W:World) (hc:s.code=7)
 (hcb:W.cell? ⟨cb,0,none⟩=some lv) (hL:iM W ai lv L) (hH:Bc L)
 (hT:dh W ai (.slice ta f.types.length tc) f.types) (hA:dh W ai (.slice aa s.args.length ac) s.args) (k:Nat) (Ub:L.findIdx? (fun g=>g.name==s.name)=some k) (kh:bO f s.dst=1) :
 Calls prog 58 #[.pointer (some ⟨cb,0,none⟩),.agg #[str f.name,f.params,.slice ta f.types.length tc,.slice sa f.steps.length sc],.agg (aY s (.slice aa s.args.length ac)).toArray,.map (some aQ)] W fun e w=>e=.returned (.bool (cx L f s))/\ag ai W w:=by
 obtain⟨bL,ba,rfl,wj,fp,hx0⟩:=hL.form;obtain⟨W3,hW3⟩:=aq (((W.alloc (.cells #[str f.name,f.params,.slice ta f.types.length tc,.slice sa f.steps.length sc] 55)).alloc (.cells (aY s (.slice aa s.args.length ac)).toArray 57)));have k_:∀ (fn:Go.Fn) (first cap:Array Value) (w:World),(Instr.makeFunc fn first cap).run prog w=.ok (.func fn first cap) w:=fun _ _ _ _=>rfl
 have bH:Ask W W3 f s W.heap.size ta sa aa tc sc ac:=by rw[hW3];exact Ask.new W f s ta sa aa tc sc ac
 have vN:=hT.mods bH.mods (fun _ _ k=>k);have FB:=hA.mods bH.mods (fun _ _ k=>k);obtain⟨_,_,M1,la,su,-⟩:=hA.form;obtain⟨-,-,rfl⟩:=Value.slice.inj M1;have hL3:=hL.mods bH.mods (fun _ _ k=>k);have BK:W3.cell? ⟨cb,0,none⟩=some (.slice bL L.length ba):=bH.mods.cellOf hcb (fun k=>k);obtain⟨s0,s1,-,-,-,-,-,-,Eg,AB⟩:=bH.st.gD;rw[hc]at s0;have aI:=af (U8 L (.slice bL L.length ba) (W.heap.size+1) (fun g=>g.name==s.name) W3 hL3 (fun i hi w fv hm hv=>Su L[i] s.name _ w fv (hm.cellOf Eg (fun k=>k)) hv));have HK:=af (fun (w:World) (hm:ag ai W3 w) (p:Int) (n:Nat)=>OO f p W.heap.size tc ta ai w (hm.cellOf (bH.fn.cell rfl) (fun k=>k)) (vN.mods hm (fun _ _ k=>k)) n);have az:=af bH.mods;have rP:=af (anw hL3 FB);have HS:=af (anw BK (anw s1 AB));have uC:Hid (L.findIdx? (fun g=>g.name==s.name)=none->cx L f s=false):=af (WH hc);have DI:Hid (∀k G,L[k]?=some G->L.findIdx? (fun g=>g.name==s.name)=some k->cx L f s=(decide ((s.args.length:Int)=G.params) && bO f s.dst==1 && (s.args.map (bO f))==G.types.take s.args.length)):=af (fun k G h=>WI hc h);have aj:Hid (∀k,L.findIdx? (fun g=>g.name==s.name)=some k->k<L.length):=af (fun k hk=>(aoD.1 hk).1);have HH:=af hH;clear bH hT vN hc hL hA FB hL3 hH hcb Eg;rw[Ub]at aI uC DI aj;clear Ub;generalize Ge:s.args.length=n at *;have jf:=af Ge;clear Ge;generalize FF:L.length=bf at *;have cY:=af FF;clear FF;unfold aY str at *;go_in;go_upto_region 1 with (fail)
 rw[<-hW3];clear hW3;go_wp2_with fail;refine aI.mono ?_;rintro e w1 ⟨rfl,aO⟩;have aD:=af aO;have I5:=aO.cellOf BK (fun k=>k);have hs1:=aO.cellOf s1 (fun k=>k);have UI:=aO.cellOf AB (fun k=>k);have nG:=af (HK w1 aO);clear aO BK s0 s1 AB aI;have xv:=aj.out k rfl;have ng:k<L.length:=by rw[cY.out];exact xv
 simp only[jy];obtain⟨tj,MD⟩:=rP.out;obtain⟨g,o,ga,gc,ha,hcc,rfl,c0,c1,c2,c3,Nj,T2⟩:=(tj.mods aD (fun _ _ k=>k)).get (by rw[cY.out];exact xv);have B4:=HH.out L[k] (aof ng);have aP:=af (DI.out k _ (anx ng) rfl);have Gc:=fun (h:s.args.length=n) (h2:n<=L[k].types.length)=>map_take (f:=bO f) h h2
 generalize L[k]=G at *;obtain⟨tx,oY⟩:=B4;have rf:decide ((k:Int)<0)=false:=by simp
 have adU:(k:Int)<(bf:Int):=by omega
 clear DI uC aj rP HH cY;by_cases fe:(n:Int)=G.params
 ·have hb:((n:Int) != G.params)=false:=by simpa using fe
  have B1:n<=G.types.length:=by omega
  have NK:=af (Gc jf B1);rw[<-fe]at c1;have hb2:((n:Int) != n)=false:=by simp
  have HG:Hid (cx L f s=(bO f s.dst==1 && (s.args.map (bO f)==G.types.take n))):=af (by rw[aP.out,fe];simp);clear fe hb aP Gc;have hd:(bO f s.dst != 1)=false:=by simpa using kh
  have o9:Hid (cx L f s=(s.args.map (bO f)==G.types.take n)):=af (by rw[HG.out,kh];rfl);clear kh HG;go_wp2_with fail
  go_quiet ((go_at_call 86;exact nG _ _))
  go_wp2_with fail;have jd:=af (MD.mods aD (fun _ _ k=>k));have Ym:=af Nj;have aU:=af (anw I5 (anw UI c2));clear Nj T2 MD tj HS c0 c1 c3 hs1;have gY:Hid (ag ai w1 (w1.drewN nq)):=af (ay.drewN _);generalize w1.drewN nq=w2 at *
  go_loopw [11,12,72] (fun _ _ iv wr=>∃i:Nat,i<=n/\iv=.int .i64 i/\Hid (∀j,j<i->∀x,s.args[j]?=some x->bO f x=G.types.getD j 0)/\Hid (ag ai w1 wr)) (fun _ _ iv _=>(n-intOf iv).toNat)
  case atStart=>exact⟨0,anC _,rfl,af (fun j hj=>absurd hj (by omega)),gY⟩
  case round =>
   obtain⟨i,hi,rfl,fC,HW⟩:=hrel;by_cases hlt:i<n
   ·have bm:i<s.args.length:=by rw[jf.out];exact hlt
    have hit:i<G.types.length:=(by omega);obtain⟨ui,ao,rfl,Dp⟩:=(jd.mods HW (fun _ _ k=>k)).get bm;obtain⟨tg,tt,rfl,UQ⟩:=(Ym.mods HW (fun _ _ k=>k)).get hit;have alV:(i:Int)<(n:Int):=(by omega);have xz:(i:Int)<(G.types.length:Int):=(by omega);have zr:Hid (s.args[i]?=some s.args[i]/\G.types.getD i 0=G.types[i]):=af ⟨anx bm,by rw[anM,anx hit];rfl⟩;have qC:=af (HK wr (aD.trans HW));generalize s.args[i]=x at *;generalize G.types[i]=y at *;obtain⟨h1,h2,h3⟩:=aU.out;have h1:=HW.cellOf h1 (fun k=>k);have h3:=HW.cellOf h3 (fun k=>k);by_cases hx:bO f x=y
    ·have Oi:(bO f x != y)=false:=by simpa using hx
     have Yt:Hid (∀j,j<i+1->∀x,s.args[j]?=some x->bO f x=G.types.getD j 0):=af (fun j hj z hz=>by
         by_cases tq:j=i
         ·subst tq
          have e:=zr.1.symm.trans hz;simp only[anG]at e;rw[<-e,hx,zr.2]
         ·exact fC j (by omega) z hz)
     clear hx;go_wp2_with fail
     go_quiet ((go_at_call 86;exact qC _ _))
     go_wp2_with fail;exact⟨⟨i+1,by omega,by go_num,Yt,af (HW.drewN _)⟩,by simp[intOf];omega⟩
    ·have Oi:(bO f x != y)=true:=by simpa using hx
     have qB:Hid (cx L f s=false):=af (by
         rw[o9.out,Bool.eq_false_iff];intro h;exact hx ((NK.out.1 h i hlt x zr.1).trans zr.2))
     clear hx;go_wp2_with fail
     go_quiet ((go_at_call 86;exact qC _ _))
     go_wp2_with fail;go_ret;rw[qB.out];exact⟨rfl,(az.trans (aD.trans HW)).drewN _⟩
   ·obtain rfl:i=n:=by omega
    have qB:Hid (cx L f s=true):=af (by
     rw[o9.out];exact NK.out.2 fC)
    go_wp2_with fail;go_ret;rw[qB.out];exact⟨rfl,az.trans (aD.trans HW)⟩
 ·have hb:((n:Int) != G.params)=true:=by simpa using fe
  go_wp2_with fail
  go_quiet (fail)
  go_wp2_with fail;go_ret;rw[aP.out];exact⟨by simp[fe],(az.trans aD).drewN _⟩
theorem ah7 (L:List ar) (f:ar) (s:ax) (cb aQ:Nat) (lv:Value) (ta sa aa:Option Addr) (tc sc ac:Nat) (W:World) (hc:s.code=7)
 (hcb:W.cell? ⟨cb,0,none⟩=some lv) (hL:iM W ai lv L) (hH:Bc L)
 (hT:dh W ai (.slice ta f.types.length tc) f.types) (hA:dh W ai (.slice aa s.args.length ac) s.args) :
 Calls prog 58 #[.pointer (some ⟨cb,0,none⟩),.agg #[str f.name,f.params,.slice ta f.types.length tc,.slice sa f.steps.length sc],.agg (aY s (.slice aa s.args.length ac)).toArray,.map (some aQ)] W fun e w=>e=.returned (.bool (cx L f s))/\ag ai W w:=by
 cases hk:L.findIdx? (fun g=>g.name==s.name) with
 | none=>exact WJ L f s cb aQ lv ta sa aa tc sc ac W hc hcb hL hH hT hA (fun k G _ h=>by rw[hk]at h;cases h)
 | some k =>
   by_cases hd:bO f s.dst=1
   ·exact ah8 L f s cb aQ lv ta sa aa tc sc ac W hc hcb hL hH hT hA k hk hd
   ·exact WJ L f s cb aQ lv ta sa aa tc sc ac W hc hcb hL hH hT hA (fun _ _ _ _=>hd)
def n4 (W:World):Prop:=∀ (c i:Nat),c<=14->i<4->W.cell? ⟨1,c*4+i,none⟩=some (.int .i64 ((cp c).getD i 0))
theorem n4.mods (h:n4 W) (hm:ag ai W W'):n4 W':=fun c i hc hi=>hm.cellOf (h c i hc hi) id
def mZ (W:World):Prop:=∀ (i:Nat) (x:List UInt8),ix[i]?=some x->W.cell? ⟨2,i,none⟩=some (str x)
theorem mZ.mods (h:mZ W) (hm:ag ai W W'):mZ W':=fun i x hx=>hm.cellOf (h i x hx) id
theorem qu (a b:List UInt8):((⟨a.toArray⟩:ByteArray)==⟨b.toArray⟩)=(a==b):=by
 show (a.toArray==b.toArray)=(a==b)
 by_cases h:a=b
 ·subst h;simp
 ·rw[show (a==b)=false by simpa using h]
  simpa using h
theorem ahf (x:List UInt8) (W:World) (hO:mZ W) :
 Calls prog 111 #[.slice (some ⟨2,0,none⟩) 11 11,str x] W fun e w=>e=.returned (.int .i64 (jy (ix.findIdx? (fun y=>x==y))))/\W=w:=by
 have HO:=af hO;clear hO;unfold str at *;go_in;go_wp2_with fail
 go_loopw [5,8] (fun _ iv wr=>∃i:Nat,i<=11/\iv=.int .i64 i/\Hid ((ix.take i).findIdx? (fun y=>x==y)=none)/\W=wr) (fun _ iv _=>(11-intOf iv).toNat)
 case atStart=>exact⟨0,anC _,rfl,af (by simp),rfl⟩
 case round =>
  obtain⟨i,hi,rfl,aI,rfl⟩:=hrel;by_cases hlt:i<11
  ·have bm:i<ix.length:=hlt
   obtain⟨z,hz⟩:∃z,ix[i]?=some z:=⟨ix[i]'bm,anx _⟩;have c0:=HO.out i z hz;unfold str at c0;have cA:(i:Int)<11:=(by omega);have bA:=af (findIdx_take aI hz);clear hz bm;by_cases U5:x=z
   ·subst U5
    have cW:Hid (ix.findIdx? (fun y=>x==y)=some i):=af (By (i:=i+1) (by rw[bA.out];simp));go_wp2_with fail;go_ret;rw[cW.out];exact⟨rfl,rfl⟩
   ·have hb1:(x==z)=false:=by simpa using U5
    have alI:((⟨x.toArray⟩:ByteArray)==⟨z.toArray⟩)=false:=(by rw[qu,hb1]);have cW:Hid ((ix.take (i+1)).findIdx? (fun y=>x==y)=none):=af (by rw[bA.out,hb1];rfl);go_wp2_with fail;exact⟨⟨i+1,by omega,by go_num,cW,trivial⟩,by simp[intOf];omega⟩
  ·obtain rfl:i=11:=by omega
   have bb:Hid (ix.findIdx? (fun y=>x==y)=none):=af aI;go_wp2_with fail;go_ret;rw[bb.out];exact⟨rfl,rfl⟩
theorem ahe (x:List UInt8) (W:World) (hO:mZ W) :
 Calls prog 88 #[.slice (some ⟨2,0,none⟩) 11 11,str x] W fun e w=>e=.returned (.bool (ix.contains x))/\W=w:=by
 have H:=af (ahf x W hO);have hc:ix.contains x=ix.any (fun y=>x==y):=by
  rw[Bool.eq_iff_iff];simp
 rw[hc,<-GM];clear hO hc;generalize jy (ix.findIdx? (fun y=>x==y))=k at *;unfold str at *;go_in;go_wp2_with fail;refine H.mono ?_;rintro e w1 ⟨rfl,rfl⟩;go_wp2_with fail;go_ret;exact⟨rfl,rfl⟩
def xG (s:ax):Nat->Int
 | 0=>s.dst
 | 1=>s.a
 | 2=>s.b
 | _=>s.c
theorem WG (h2:s.code≠2) (h7:s.code≠7):cx L f s=if s.code<1\/s.code > 14 then false else bu f ((cp s.code).getD 0 0) s.dst && bu f ((cp s.code).getD 1 0) s.a && bu f ((cp s.code).getD 2 0) s.b && bu f ((cp s.code).getD 3 0) s.c
 && (!(s.code==4 || s.code==5) || kf f s.label) && (!(s.code==3) || ix.contains s.op):=by
 unfold cx;rw[if_neg h2,if_neg h7]
theorem ah5 (h2:s.code≠2) (h7:s.code≠7) (i:Nat) (hi:i<4) (h:bu f ((cp s.code).getD i 0) (xG s i)=false):cx L f s=false:=by
 rw[WG h2 h7];split
 ·rfl
 ·rcases i with _|_|_|_|i
  ·have h:bu f ((cp s.code).getD 0 0) s.dst=false:=h
   rw[h];simp
  ·have h:bu f ((cp s.code).getD 1 0) s.a=false:=h
   rw[h];simp
  ·have h:bu f ((cp s.code).getD 2 0) s.b=false:=h
   rw[h];simp
  ·have h:bu f ((cp s.code).getD 3 0) s.c=false:=h
   rw[h];simp
  ·omega
theorem zK {p:Nat->Prop} {i:Nat} (h:∀j,j<i->p j) (hi:p i):∀j,j<i+1->p j:=fun j hj=>by
 rcases aov j i with h2|h2
 ·exact h j h2
 ·obtain rfl:j=i:=by omega
  exact hi
theorem aeQ (a b c d:Int) (w:World):(Instr.index 184 (.agg #[a,b,c,d]) (.int .i64 0)).run prog w=.ok (.int .i64 a) w/\(Instr.index 184 (.agg #[a,b,c,d]) (.int .i64 1)).run prog w=.ok (.int .i64 b) w/\(Instr.index 184 (.agg #[a,b,c,d]) (.int .i64 2)).run prog w=.ok (.int .i64 c) w/\(Instr.index 184 (.agg #[a,b,c,d]) (.int .i64 3)).run prog w=.ok (.int .i64 d) w:=⟨by kernel_rfl,by kernel_rfl,by kernel_rfl,by kernel_rfl⟩
theorem RX (w:World):(zeroValue 4).run prog w=.ok (.bool false) w:=by kernel_rfl
theorem aia (L:List ar) (f:ar) (s:ax) (cb aQ ie:Nat) (ta sa aa:Option Addr) (tc sc ac:Nat) (W:World) (h2:s.code≠2) (h7:s.code≠7)
 (hT:dh W ai (.slice ta f.types.length tc) f.types) (kJ:n4 W) (kK:mZ W) (iE:b9 s.label) (hmap:fw W aQ ie (.bool false) (fun l=>.bool (kf f l))) :
 Calls prog 58 #[.pointer (some ⟨cb,0,none⟩),.agg #[str f.name,f.params,.slice ta f.types.length tc,.slice sa f.steps.length sc],.agg (aY s (.slice aa s.args.length ac)).toArray,.map (some aQ)] W fun e w=>e=.returned (.bool (cx L f s))/\ag ai W w:=by
 obtain⟨R,hR⟩:=aq (cx L f s);have HL:=af (fun i hi h=>(hR.trans (ah5 (L:=L) (f:=f) (s:=s) h2 h7 i hi h)));have pT:Hid (R=if s.code<1\/s.code > 14 then false else bu f ((cp s.code).getD 0 0) s.dst && bu f ((cp s.code).getD 1 0) s.a && bu f ((cp s.code).getD 2 0) s.b && bu f ((cp s.code).getD 3 0) s.c && (!(s.code==4 || s.code==5) || kf f s.label) && (!(s.code==3) || ix.contains s.op)):=af (by rw[hR,WG h2 h7]);rw[<-hR];obtain⟨W3,hW3⟩:=aq (((W.alloc (.cells #[str f.name,f.params,.slice ta f.types.length tc,.slice sa f.steps.length sc] 55)).alloc (.cells (aY s (.slice aa s.args.length ac)).toArray 57)));have k_:∀ (fn:Go.Fn) (first cap:Array Value) (w:World),(Instr.makeFunc fn first cap).run prog w=.ok (.func fn first cap) w:=fun _ _ _ _=>rfl
 have bH:Ask W W3 f s W.heap.size ta sa aa tc sc ac:=by rw[hW3];exact Ask.new W f s ta sa aa tc sc ac
 have vN:=hT.mods bH.mods (fun _ _ k=>k);have HK:=af (fun (p:Int)=>Vi f p W.heap.size tc ta ai W3 (bH.fn.cell rfl) vN);have zo:=af (kJ.mods bH.mods);have wW:=af (kK.mods bH.mods);have dE:=af (hmap.mods bH.mods id);have tW:=af iE;have s0:=bH.st.ah 0;have s1:=bH.st.ah 1;have s2:=bH.st.ah 2;have o7:=bH.st.ah 3;have aiA:=bH.st.ah 4;have Kz:=bH.st.ah 6;have Ps:=bH.st.ah 7;have az:=af bH.mods;have su:(s.code==2)=false:=by simpa using h2
 have B0:(s.code==7)=false:=by simpa using h7
 have akN:=af (anw h2 h7);clear bH hT vN hR h2 h7 kJ kK hmap iE;unfold aY str at *;go_in;go_upto_region 1 with (fail)
 rw[<-hW3];clear hW3;by_cases z8:s.code<1
 ·have aA:Hid (R=false):=af (by rw[pT.out,if_pos (Or.inl z8)])
  go_wp2_with fail;go_ret;rw[aA.out];exact⟨rfl,az⟩
 by_cases Ns:s.code > 14
 ·have aA:Hid (R=false):=af (by rw[pT.out,if_pos (Or.inr Ns)])
  have al6:¬s.code<1:=z8;go_wp2_with fail;go_ret;rw[aA.out];exact⟨rfl,az⟩
 obtain⟨k,hk⟩:∃k:Nat,s.code=k:=⟨s.code.toNat,by omega⟩;have nG:=af (show 1<=k/\k<=14 by omega);have pO:=af hk;have vT:¬(k:Int)<1:=by omega
 have alX:¬(14:Int)<(k:Int):=by omega
 rw[hk]at s0 su B0;clear z8 Ns hk;go_wp2_with fail
 go_loopw [13,14,15,110] (fun _ _ _ iv wr=>∃i:Nat,i<=4/\iv=.int .i64 i/\Hid (∀j,j<i->bu f ((cp s.code).getD j 0) (xG s j)=true)/\W3=wr) (fun _ _ _ iv _=>(4-intOf iv).toNat)
 case atStart=>exact⟨0,by decide,rfl,af (fun j hj=>absurd hj (by omega)),rfl⟩
 case round =>
  obtain⟨i,hi,rfl,aI,rfl⟩:=hrel;obtain⟨x0,x1,x2,x3⟩:=aeQ s.dst s.a s.b s.c W3;rcases (show i=0\/i=1\/i=2\/i=3\/i=4 by omega) with rfl|rfl|rfl|rfl|rfl
  ·obtain⟨t,ht⟩:=aq ((cp (k:Int)).getD 0 0)
   have t0:=zo.out k 0 nG.2 (by decide);rw[<-ht]at t0
   try rw[aou]at t0
   have Nx:(k:Int)<15:=(by have:=nG.out;omega);have lY:=af ht;clear ht;by_cases qh:0<t
   ·by_cases heq:bO f s.dst=t
    ·have mW:Hid (bu f ((cp s.code).getD 0 0) (xG s 0)=true):=af (by rw[pO.out,<-lY.out];show bu f t s.dst=true;unfold bu;simp[heq])
     have hne:(bO f s.dst != t)=false:=(by simp[heq]);have dy:=af heq;clear heq;go_wp2_with fail;refine (HK s.dst).mono ?_;rintro e w1 ⟨rfl,rfl⟩;go_wp2_with fail;exact⟨⟨1,by decide,rfl,af (zK aI mW),trivial⟩,by simp[intOf]⟩
    ·have aA:Hid (R=false):=af (HL 0 (by decide) (by rw[pO.out,<-lY.out];show bu f t s.dst=false;unfold bu;simp[heq,qh]))
     have hne:(bO f s.dst != t)=true:=(by simpa using heq);have dy:=af heq;clear heq;go_wp2_with fail;refine (HK s.dst).mono ?_;rintro e w1 ⟨rfl,rfl⟩;go_wp2_with fail;go_ret;rw[aA.out];exact⟨rfl,az⟩
   ·have mW:Hid (bu f ((cp s.code).getD 0 0) (xG s 0)=true):=af (by rw[pO.out,<-lY.out];show bu f t s.dst=true;unfold bu;simp[qh])
    go_wp2_with fail;exact⟨⟨1,by decide,rfl,af (zK aI mW),trivial⟩,by simp[intOf]⟩
  ·obtain⟨t,ht⟩:=aq ((cp (k:Int)).getD 1 0)
   have t0:=zo.out k 1 nG.2 (by decide);rw[<-ht]at t0
   try rw[aou]at t0
   have Nx:(k:Int)<15:=(by have:=nG.out;omega);have lY:=af ht;clear ht;by_cases qh:0<t
   ·by_cases heq:bO f s.a=t
    ·have mW:Hid (bu f ((cp s.code).getD 1 0) (xG s 1)=true):=af (by rw[pO.out,<-lY.out];show bu f t s.a=true;unfold bu;simp[heq])
     have hne:(bO f s.a != t)=false:=(by simp[heq]);have dy:=af heq;clear heq;go_wp2_with fail;refine (HK s.a).mono ?_;rintro e w1 ⟨rfl,rfl⟩;go_wp2_with fail;exact⟨⟨2,by decide,rfl,af (zK aI mW),trivial⟩,by simp[intOf]⟩
    ·have aA:Hid (R=false):=af (HL 1 (by decide) (by rw[pO.out,<-lY.out];show bu f t s.a=false;unfold bu;simp[heq,qh]))
     have hne:(bO f s.a != t)=true:=(by simpa using heq);have dy:=af heq;clear heq;go_wp2_with fail;refine (HK s.a).mono ?_;rintro e w1 ⟨rfl,rfl⟩;go_wp2_with fail;go_ret;rw[aA.out];exact⟨rfl,az⟩
   ·have mW:Hid (bu f ((cp s.code).getD 1 0) (xG s 1)=true):=af (by rw[pO.out,<-lY.out];show bu f t s.a=true;unfold bu;simp[qh])
    go_wp2_with fail;exact⟨⟨2,by decide,rfl,af (zK aI mW),trivial⟩,by simp[intOf]⟩
  ·obtain⟨t,ht⟩:=aq ((cp (k:Int)).getD 2 0)
   have t0:=zo.out k 2 nG.2 (by decide);rw[<-ht]at t0
   try rw[aou]at t0
   have Nx:(k:Int)<15:=(by have:=nG.out;omega);have lY:=af ht;clear ht;by_cases qh:0<t
   ·by_cases heq:bO f s.b=t
    ·have mW:Hid (bu f ((cp s.code).getD 2 0) (xG s 2)=true):=af (by rw[pO.out,<-lY.out];show bu f t s.b=true;unfold bu;simp[heq])
     have hne:(bO f s.b != t)=false:=(by simp[heq]);have dy:=af heq;clear heq;go_wp2_with fail;refine (HK s.b).mono ?_;rintro e w1 ⟨rfl,rfl⟩;go_wp2_with fail;exact⟨⟨3,by decide,rfl,af (zK aI mW),trivial⟩,by simp[intOf]⟩
    ·have aA:Hid (R=false):=af (HL 2 (by decide) (by rw[pO.out,<-lY.out];show bu f t s.b=false;unfold bu;simp[heq,qh]))
     have hne:(bO f s.b != t)=true:=(by simpa using heq);have dy:=af heq;clear heq;go_wp2_with fail;refine (HK s.b).mono ?_;rintro e w1 ⟨rfl,rfl⟩;go_wp2_with fail;go_ret;rw[aA.out];exact⟨rfl,az⟩
   ·have mW:Hid (bu f ((cp s.code).getD 2 0) (xG s 2)=true):=af (by rw[pO.out,<-lY.out];show bu f t s.b=true;unfold bu;simp[qh])
    go_wp2_with fail;exact⟨⟨3,by decide,rfl,af (zK aI mW),trivial⟩,by simp[intOf]⟩
  ·obtain⟨t,ht⟩:=aq ((cp (k:Int)).getD 3 0)
   have t0:=zo.out k 3 nG.2 (by decide);rw[<-ht]at t0
   try rw[aou]at t0
   have Nx:(k:Int)<15:=(by have:=nG.out;omega);have lY:=af ht;clear ht;by_cases qh:0<t
   ·by_cases heq:bO f s.c=t
    ·have mW:Hid (bu f ((cp s.code).getD 3 0) (xG s 3)=true):=af (by rw[pO.out,<-lY.out];show bu f t s.c=true;unfold bu;simp[heq])
     have hne:(bO f s.c != t)=false:=(by simp[heq]);have dy:=af heq;clear heq;go_wp2_with fail;refine (HK s.c).mono ?_;rintro e w1 ⟨rfl,rfl⟩;go_wp2_with fail;exact⟨⟨4,by decide,rfl,af (zK aI mW),trivial⟩,by simp[intOf]⟩
    ·have aA:Hid (R=false):=af (HL 3 (by decide) (by rw[pO.out,<-lY.out];show bu f t s.c=false;unfold bu;simp[heq,qh]))
     have hne:(bO f s.c != t)=true:=(by simpa using heq);have dy:=af heq;clear heq;go_wp2_with fail;refine (HK s.c).mono ?_;rintro e w1 ⟨rfl,rfl⟩;go_wp2_with fail;go_ret;rw[aA.out];exact⟨rfl,az⟩
   ·have mW:Hid (bu f ((cp s.code).getD 3 0) (xG s 3)=true):=af (by rw[pO.out,<-lY.out];show bu f t s.c=true;unfold bu;simp[qh])
    go_wp2_with fail;exact⟨⟨4,by decide,rfl,af (zK aI mW),trivial⟩,by simp[intOf]⟩
  ·have tV:=af (fun (j:Nat) (hj:j<4)=>aI.out j hj)
   have zv:Hid (R=((!((k:Int)==4 || (k:Int)==5) || kf f s.label) && (!((k:Int)==3) || ix.contains s.op))):=af (by
        have e0:bu f ((cp s.code).getD 0 0) s.dst=true:=tV.out 0 (by decide);have e1:bu f ((cp s.code).getD 1 0) s.a=true:=tV.out 1 (by decide);have e2:bu f ((cp s.code).getD 2 0) s.b=true:=tV.out 2 (by decide);have e3:bu f ((cp s.code).getD 3 0) s.c=true:=tV.out 3 (by decide);rw[pT.out,if_neg (by have h1:=pO.out;have h2:=nG.out;omega),e0,e1,e2,e3,pO.out];simp)
   have aU:=af (fun (n:Nat)=>(ahe s.op (W3.drewN n) (wW.mods (ay.drewN n))).mono fun (e:Ending) (w:World) ⟨h1,h2⟩=>(⟨h1,n,h2.symm⟩:e=Ending.returned (.bool (ix.contains s.op))/\∃m,w=W3.drewN m));have hlk:∀n,(Instr.lookup 128 (.map (some aQ)) (.int .i64 s.label) false).run prog (W3.drewN n)=.ok (.bool (kf f s.label)) (W3.drewN n):=fun n=>(dE.mods ((ag.refl ai W3).drewN n) id).look underlying128 (RX _) tW
   have adX:=hlk 0;have adY:=hlk 1;obtain⟨c,hc⟩:=aq (ix.contains s.op);obtain⟨l,hl⟩:=aq (kf f s.label);rw[<-hc]at aU zv;rw[<-hl]at zv hlk adX adY;clear hc hl x0 x1 x2 x3 aI;unfold str at aU;by_cases hk3:k=3
   ·subst hk3
    have aj:Hid (R=c):=af (by rw[zv.out];simp);go_wp2_with fail
    go_quiet ((go_at_call 88;exact aU _))
    go_wp2_with fail;go_ret;rw[aj.out];exact⟨rfl,az.drewN _⟩
   ·by_cases hk4:k=4\/k=5
    ·have aj:Hid (R=l):=af (by rw[zv.out];rcases hk4 with rfl|rfl <;> simp)
     cases l
     all_goals
      rcases hk4 with rfl|rfl
      all_goals
       go_wp2_with fail
       go_quiet ((go_at_call 88;exact aU _))
       go_wp2_with fail;go_ret;rw[aj.out];exact⟨rfl,az.drewN _⟩
    ·have h3:((k:Int)==3)=false:=by simp;omega
     have h4:((k:Int)==4)=false:=(by simp;omega);have h5:((k:Int)==5)=false:=(by simp;omega);have h6:((k:Int) != 3)=true:=(by simp;omega);have aj:Hid (R=true):=af (by rw[zv.out,h3,h4,h5];rfl);go_wp2_with fail
     go_quiet ((go_at_call 88;exact aU _))
     go_wp2_with fail;go_ret;rw[aj.out];exact⟨rfl,az.drewN _⟩
end aW
namespace aW
open Go.Joins Go.ChangeShapes Go.WideShapes Go.RowKit Go.Deep Go.Proofs.Tryz
variable {l:List Value} {j:Nat} {v:Value}
theorem AL {P:Program} {w:World}:{l:List (String×DataW Unit)}->{ps:List MemPlace}->DataW.LaidVars P w l ps->{n:String}->{d:DataW Unit}->(n,d)∈l->∃g t cs fuel p,P.globalNamed n=some g/\(P.globals[g]?).map (·.type)=some t/\w.var? P n=some cs/\DataW.trod (fun _=>()) P w 0 (fun _=>true) false fuel t cs.toList=some (d,p)
 | [],ps,h,n,d,hm=>nomatch hm
 | (n',d')::r,ps,h,n,d,hm=>by
   obtain⟨g,t,cs,fuel,p,q,h1,h2,h3,h4,h5,_⟩:=h;rw[List.mem_cons]at hm;rcases hm with hm|hm
   ·cases hm
    exact⟨g,t,cs,fuel,p,h1,h2,h3,h4⟩
   ·exact AL h5 hm
theorem acE : prog.globalNamed "bloomery/mid.ops" = some 2 := by kernel_rfl
theorem acB : prog.globalNamed "bloomery/mid.forms" = some 1 := by kernel_rfl
theorem akh:(prog.globals[2]?).map (·.type)=some 188/\prog.underlying 188=some (.array 11 9)/\prog.underlying 9=some .string/\prog.cellsOf 9=1:=⟨by kernel_rfl,by kernel_rfl,by kernel_rfl,by kernel_rfl⟩
theorem akf:(prog.globals[1]?).map (·.type)=some 185/\prog.underlying 185=some (.array 15 184)/\prog.underlying 184=some (.array 4 3)/\prog.underlying 3=some (.int .i64)/\prog.cellsOf 184=4/\prog.cellsOf 3=1:=⟨by kernel_rfl,by kernel_rfl,by kernel_rfl,by kernel_rfl,by kernel_rfl,by kernel_rfl⟩
theorem one_cell (h:(l.drop j).take 1=[v]):l[j]?=some v:=by
 have:=congrArg (fun x:List Value=>x[0]?) h;simpa using this
theorem acm {i:Nat} (hj:j<4) (h:((l.drop i).take 4)[j]?=some v):l[i+j]?=some v:=by
 rw[List.getElem?_take_of_lt hj,List.getElem?_drop]at h;exact h
theorem KG {s:ByteArray} {m:List UInt8} (h:s.data.toList=m):Value.string s=str m:=by
 unfold str;rw[<-h]
section
variable {W:World} {l:List (String×DataW Unit)} {ps:List MemPlace}
theorem ahg (h : DataW.LaidVars prog W l ps) (hm : ("bloomery/mid.ops", Rows.laid_bloomery_mid_ops) ∈ l) : mZ W := by
 obtain⟨g,t,cs,fuel,p,h1,h2,h3,h4⟩:=AL h hm;obtain⟨t1,t2,t3,t4⟩:=akh;obtain rfl:=Option.some.inj (acE.symm.trans h1);obtain rfl:=Option.some.inj (t1.symm.trans h2);obtain⟨xs,m,_,hx,hcs,hn,BN⟩:=DataW.trod_array t2 h4;have hL:xs.map (·.1)=ix.map fun m=>(DataW.lit (.string m):DataW Unit):=by
  have e:(Rows.laid_bloomery_mid_ops:DataW Unit)=.agg (ix.map fun m=>(DataW.lit (.string m):DataW Unit)):=rfl;rw[e]at hx;simp only[Prod.mk.injEq,DataW.agg.injEq]at hx;exact hx.1.symm
 intro i mk hi;have hlt:i<11:=by
  have:=(List.getElem?_eq_some_iff.1 hi).1;have acQ:ix.length=11:=rfl;omega
 have h5:=BN i hlt;rw[t4,Nat.mul_one]at h5;have h6:(xs.map (·.1))[i]?=some (DataW.lit (.string mk)):=by rw[hL,List.getElem?_map,hi];rfl
 rw[List.getElem?_map]at h6;cases cU:xs[i]? with
 | none=>rw[cU]at h6;cases h6
 | some x =>
   rw[cU]at h5 h6;obtain⟨s,a1,a2,a3⟩:=DataW.trod_string t3 h5;rw[a2]at h6;simp only[Option.map_some,Option.some.injEq,DataW.lit.injEq,Lit.string.injEq]at h6;rw[World.var?_cell h1 h3,<-Array.getElem?_toList,one_cell a1,KG h6]
def Mv:List (List Int):=[[0,0,0,0],[1,0,0,0],[0,0,0,0],[1,1,1,0],[0,0,0,0],[0,1,0,0],[0,0,0,0],[0,0,0,0],[0,1,0,0],[2,1,0,0],[1,2,0,0],[1,2,1,0],[0,2,1,1],[0,1,0,0],[1,0,0,0]]
theorem aci (c:Nat) (h:c<=14):Mv[c]?=some (cp (c:Int))/\(cp (c:Int)).length=4:=by
 match c,h with
 | 0,_=>exact⟨by decide,by decide⟩
 | 1,_=>exact⟨by decide,by decide⟩
 | 2,_=>exact⟨by decide,by decide⟩
 | 3,_=>exact⟨by decide,by decide⟩
 | 4,_=>exact⟨by decide,by decide⟩
 | 5,_=>exact⟨by decide,by decide⟩
 | 6,_=>exact⟨by decide,by decide⟩
 | 7,_=>exact⟨by decide,by decide⟩
 | 8,_=>exact⟨by decide,by decide⟩
 | 9,_=>exact⟨by decide,by decide⟩
 | 10,_=>exact⟨by decide,by decide⟩
 | 11,_=>exact⟨by decide,by decide⟩
 | 12,_=>exact⟨by decide,by decide⟩
 | 13,_=>exact⟨by decide,by decide⟩
 | 14,_=>exact⟨by decide,by decide⟩
theorem acj (h : DataW.LaidVars prog W l ps) (hm : ("bloomery/mid.forms", Rows.laid_bloomery_mid_forms) ∈ l) : n4 W := by
 obtain⟨g,t,cs,fuel,p,h1,h2,h3,h4⟩:=AL h hm;obtain⟨t1,t2,t3,t4,t5,t6⟩:=akf;obtain rfl:=Option.some.inj (acB.symm.trans h1);obtain rfl:=Option.some.inj (t1.symm.trans h2);obtain⟨xs,m,_,hx,hcs,hn,BN⟩:=DataW.trod_array t2 h4;have hL:xs.map (·.1)=Mv.map fun r=>(DataW.agg (r.map fun n=>(DataW.lit (.int .i64 n):DataW Unit)):DataW Unit):=by
  have e:(Rows.laid_bloomery_mid_forms:DataW Unit)=.agg (Mv.map fun r=>(DataW.agg (r.map fun n=>(DataW.lit (.int .i64 n):DataW Unit)):DataW Unit)):=rfl;rw[e]at hx;simp only[Prod.mk.injEq,DataW.agg.injEq]at hx;exact hx.1.symm
 intro c i hc hi;have h5:=BN c (by omega);rw[t5]at h5;obtain⟨hr,hlen⟩:=aci c hc;obtain⟨fr,qc⟩:∃fr,fr=cp (c:Int):=⟨_,rfl⟩;rw[<-qc]at hr hlen ⊢;have h6:(xs.map (·.1))[c]?=some (DataW.agg (fr.map fun n=>(DataW.lit (.int .i64 n):DataW Unit)):DataW Unit):=by rw[hL,List.getElem?_map,hr];rfl
 rw[List.getElem?_map]at h6;cases cU:xs[c]? with
 | none=>rw[cU]at h6;cases h6
 | some x =>
   rw[cU]at h5 h6;simp only[Option.map_some,Option.some.injEq]at h6;obtain⟨ys,m2,_,hy,kg,su,adG⟩:=DataW.trod_array t3 h5;rw[hy]at h6;simp only[DataW.agg.injEq]at h6;have h7:=adG i (by omega);rw[t6,Nat.mul_one]at h7;have h8:(ys.map (·.1))[i]?=some (DataW.lit (.int .i64 (fr.getD i 0))):=by
    rw[h6,List.getElem?_map,List.getD_eq_getElem?_getD,List.getElem?_eq_getElem (by omega)];rfl
   rw[List.getElem?_map]at h8;cases nP:ys[i]? with
   | none=>rw[nP]at h8;cases h8
   | some y =>
     rw[nP]at h7 h8;obtain⟨n0,a0,b0,_⟩:=DataW.trod_int t4 h7;rw[b0]at h8;simp only[Option.map_some,Option.some.injEq,DataW.lit.injEq,Lit.int.injEq,true_and]at h8;rw[World.var?_cell h1 h3,<-Array.getElem?_toList,<-h8];exact acm hi (one_cell a0)
end
end aW
namespace aW
open Go.RowKit bB Go.Maps aB Go.Proofs.Tryz
variable {W W':World} {M P S T M':Nat->Prop} {L:List ar} {A:List (Nat×Nat)} {b ak aQ i n q1 q2 q3 cb ie tc sc:Nat} {s:aC} {z lv v:Value} {F:List (List UInt8×Value)} {f:ar} {ta sa:Option Addr} {α:Type} {t e:TypeId}
theorem aeV (L:List ax) (v:Value) (q1:Nat) (q2:Nat) (q3:Nat) (p:ax->Bool) (W:World) (hL:jS W ai v L)
 (hK:∀ (i:Nat) (hi:i<L.length) (w:World) (fv:Value),ag ai W w->dF w ai L[i] fv->Calls prog 57 #[fv,.pointer (some ⟨q1,0,none⟩),.pointer (some ⟨q2,0,none⟩),.pointer (some ⟨q3,0,none⟩)] w fun e w'=>e=.returned (.bool (p L[i]))/\ag ai w w') :
 Calls prog 85 #[v,.func (.func 57) #[] #[.pointer (some ⟨q1,0,none⟩),.pointer (some ⟨q2,0,none⟩),.pointer (some ⟨q3,0,none⟩)]] W fun e w=>e=.returned (.int .i64 (jy (L.findIdx? p)))/\ag ai W w:=by
 obtain⟨a,c,rfl,iZ,hcm,h0⟩:=hL.form;have cu:=af hL;have HK:=af hK;obtain⟨n,hn⟩:=aq (L.length);rw[<-hn]at iZ h0 ⊢;have aT:=af hn;clear hn hL hK;go_in;go_wp2_with fail
 go_loopw [5,8] (fun _ iv wr=>∃i:Nat,i<=n/\iv=.int .i64 i/\Hid ((L.take i).findIdx? p=none)/\Hid (ag ai W wr)) (fun _ iv _=>(n-intOf iv).toNat)
 case atStart=>exact⟨0,anC _,rfl,af (by simp),af ay⟩
 case round =>
  obtain⟨i,hi,rfl,aI,az⟩:=hrel;by_cases hlt:i<n
  ·have bm:i<L.length:=by have:=aT.out;omega
   have sT:=af bm;obtain⟨g,o,aa,ac,rfl,hcs,hT⟩:=(cu.mods az (fun _ _ k=>k)).get bm;obtain⟨c0,c1,c2,c3,c4,c5,c6,c7,c8,c9⟩:=hcs;have cA:(i:Int)<(n:Int):=(by omega);have bA:=af (findIdx_take aI (anx bm));have a_:=af (HK i bm wr _ az ⟨aa,ac,rfl,hT⟩);clear hT;generalize L[i]=x at *;clear bm;obtain⟨b,hb⟩:=aq (p x);rw[<-hb]at a_ bA;clear hb;unfold aY str at *;go_wp2_with fail;refine a_.mono ?_;rintro e w1 ⟨rfl,aO⟩;have aD:=af (az.trans aO);clear aO;cases b
   ·have cW:Hid ((L.take (i+1)).findIdx? p=none):=af (by rw[bA.out];rfl)
    go_wp2_with fail;exact⟨⟨i+1,by omega,by go_num,cW,aD⟩,by simp[intOf];omega⟩
   ·have cW:Hid (L.findIdx? p=some i):=af (By (i:=i+1) (by rw[bA.out];rfl))
    go_wp2_with fail;go_ret;rw[cW.out];exact⟨rfl,aD⟩
  ·obtain rfl:i=n:=by omega
   have bb:Hid (L.findIdx? p=none):=af (by
        have:=aI.out;rwa [anN (by have:=aT.out;omega)]at this)
   go_wp2_with fail;go_ret;rw[bb.out];exact⟨rfl,az⟩
theorem adj (L:List ax) (v:Value) (q1:Nat) (q2:Nat) (q3:Nat) (p:ax->Bool) (W:World) (hL:jS W ai v L)
 (hK:∀ (i:Nat) (hi:i<L.length) (w:World) (fv:Value),ag ai W w->dF w ai L[i] fv->Calls prog 57 #[fv,.pointer (some ⟨q1,0,none⟩),.pointer (some ⟨q2,0,none⟩),.pointer (some ⟨q3,0,none⟩)] w fun e w'=>e=.returned (.bool (p L[i]))/\ag ai w w') :
 Calls prog 56 #[v,.func (.func 57) #[] #[.pointer (some ⟨q1,0,none⟩),.pointer (some ⟨q2,0,none⟩),.pointer (some ⟨q3,0,none⟩)]] W fun e w=>e=.returned (.bool (L.any p))/\ag ai W w:=by
 have H:=af (aeV L v q1 q2 q3 p W hL hK);obtain⟨a,c,rfl,iZ,hcm,h0⟩:=hL.form;rw[<-GM];clear hL hK h0 iZ hcm;generalize jy (L.findIdx? p)=k at *;go_in;go_wp2_with fail;refine H.mono ?_;rintro e w1 ⟨rfl,aO⟩;go_wp2_with fail;go_ret;exact⟨rfl,aO⟩
theorem ah6 (L:List ar) (f:ar) (s:ax) (cb aQ ie:Nat) (lv:Value) (ta sa aa:Option Addr) (tc sc ac:Nat) (W:World)
 (hcb:W.cell? ⟨cb,0,none⟩=some lv) (hL:iM W ai lv L) (hH:Bc L)
 (hT:dh W ai (.slice ta f.types.length tc) f.types) (hA:dh W ai (.slice aa s.args.length ac) s.args) (kJ:n4 W) (kK:mZ W) (iE:b9 s.label) (hmap:fw W aQ ie (.bool false) (fun l=>.bool (kf f l))) :
 Calls prog 58 #[.pointer (some ⟨cb,0,none⟩),.agg #[str f.name,f.params,.slice ta f.types.length tc,.slice sa f.steps.length sc],.agg (aY s (.slice aa s.args.length ac)).toArray,.map (some aQ)] W fun e w=>e=.returned (.bool (cx L f s))/\ag ai W w:=by
 by_cases h2:s.code=2
 ·exact ah9 L f s cb aQ ta sa aa tc sc ac W h2 hT
 ·by_cases h7:s.code=7
  ·exact ah7 L f s cb aQ lv ta sa aa tc sc ac W h7 hcb hL hH hT hA
  ·exact aia L f s cb aQ ie ta sa aa tc sc ac W h2 h7 hT kJ kK iE hmap
structure Ew (L:List ar) (f:ar) (q1 q2 q3 cb aQ ie:Nat) (lv:Value) (ta sa:Option Addr) (tc sc:Nat) (W:World):Prop where
 c1:aw W q1 [.pointer (some ⟨cb,0,none⟩)] 26
 c2:aw W q2 [str f.name,f.params,.slice ta f.types.length tc,.slice sa f.steps.length sc] 55
 c3:aw W q3 [.map (some aQ)] 128
 R5:W.cell? ⟨cb,0,none⟩=some lv
 fns:iM W ai lv L
 heads:Bc L
 types:dh W ai (.slice ta f.types.length tc) f.types
 SQ:n4 W
 ops:mZ W
 map:fw W aQ ie (.bool false) (fun l=>.bool (kf f l))
theorem Ew.mods {w:World} (h:Ew L f q1 q2 q3 cb aQ ie lv ta sa tc sc W) (hm:ag ai W w):Ew L f q1 q2 q3 cb aQ ie lv ta sa tc sc w :=
 ⟨h.c1.mods hm id,h.c2.mods hm id,h.c3.mods hm id,hm.cellOf h.R5 id,h.fns.mods hm (fun _ _ k=>k),h.heads,h.types.mods hm (fun _ _ k=>k),h.SQ.mods hm,h.ops.mods hm,h.map.mods hm id⟩
theorem ZV (h:Ew L f q1 q2 q3 cb aQ ie lv ta sa tc sc W) (s:ax) (fv:Value) (hv:dF W ai s fv) (iE:b9 s.label) :
 Calls prog 57 #[fv,.pointer (some ⟨q1,0,none⟩),.pointer (some ⟨q2,0,none⟩),.pointer (some ⟨q3,0,none⟩)] W fun e w=>e=.returned (.bool (!cx L f s))/\ag ai W w:=by
 obtain⟨aa,ac,rfl,hA⟩:=hv;obtain⟨W1,hW1⟩:=aq (W.alloc (.cells (aY s (.slice aa s.args.length ac)).toArray 57));have hm:ag ai W W1:=by rw[hW1];exact ay.alloc _
 have h1:=h.mods hm;have hB:aw W1 W.heap.size (aY s (.slice aa s.args.length ac)) 57:=by
  rw[hW1];have:=aw.new W (aY s (.slice aa s.args.length ac)).toArray 57;simpa using this
 have aU:=af (ah6 L f s cb aQ ie lv ta sa aa tc sc ac W1 h1.R5 h1.fns h1.heads h1.types (hA.mods hm (fun _ _ k=>k)) h1.SQ h1.ops iE h1.map);have k1:=h1.c1.ah 0;obtain⟨amO,amP,amQ,amR⟩:=h1.c2.gG;have k3:=h1.c3.ah 0;obtain⟨s0,s1,s2,o7,aiA,AA,Kz,Ps,Eg,AB⟩:=hB.gD;have az:=af hm;clear h h1 hm hB hA iE;unfold aY str at *;go_in;go_upto_region 1 with (fail)
 rw[<-hW1];clear hW1;go_wp2_with fail;refine aU.mono ?_;rintro e w ⟨rfl,aN⟩;go_wp2_with fail;go_ret;exact⟨rfl,az.trans aN⟩
theorem ZW (x:Int) (w:World):Calls prog 55 #[x] w fun e w'=>e=.returned (.bool (!(x==1 || x==2)))/\ag ai w w':=by
 by_cases h1:x=1
 ·subst h1
  go_in;go_wp2_with fail;go_ret;exact⟨rfl,ag.refl _ _⟩
 ·by_cases h2:x=2
  ·subst h2
   go_in;go_wp2_with fail;go_ret;exact⟨rfl,ag.refl _ _⟩
  ·have e1:(x==1)=false:=by simpa using h1
   have e2:(x==2)=false:=(by simpa using h2);have n1:(x != 1)=true:=(by simpa using h1);have n2:(x != 2)=true:=(by simpa using h2);rw[e1,e2];go_in;go_wp2_with fail;go_ret;exact⟨rfl,ag.refl _ _⟩
theorem ab4 (L:List ar) (f:ar):l4 L f=(decide (f.types.length<=3000) && decide (1<=f.steps.length) && decide (f.steps.length<=6000) && (match f.steps.getLast? with|some s=>s.code==8 || s.code==4|none=>false) && f.types.all (fun t=>t==1 || t==2) && nU [] f.steps && f.steps.all (cx L f)):=rfl
theorem ZS {l:List α} {x:α} (h:l[i]?=some x) (p:α->Bool):(l.take (i+1)).any p=((l.take i).any p || p x):=by
 obtain⟨h1,h2⟩:=anA.1 h;rw[anT h1,List.any_append,h2];simp
theorem drop_one {l:List α} {x:α} (h:l[i]?=some x):l.drop i=x::l.drop (i+1):=by
 obtain⟨h1,h2⟩:=anA.1 h;rw[<-h2];exact anL h1
theorem VP (w:World):(Instr.makeMap 128 none).run prog w=.ok (.map (some w.heap.size)) (w.alloc (.map #[] 0)):=by
 simp[Instr.makeMap,run_underlying underlying128]
theorem acw (L:List ar) (f:ar) (cb:Nat) (lv fv:Value) (W:World) (hcb:W.cell? ⟨cb,0,none⟩=some lv) (hL:iM W ai lv L) (hH:Bc L) (hv:jc W ai f fv) (kJ:n4 W) (kK:mZ W) (iE:∀s∈f.steps,b9 s.label) :
 Calls prog 26 #[.pointer (some ⟨cb,0,none⟩),fv] W fun e w=>e=.returned (.bool (l4 L f))/\ag ai W w:=by
 obtain⟨ta,tc,sa,sc,rfl,hT,hS⟩:=hv;obtain⟨R,hR⟩:=aq (l4 L f);have aP:=af (hR.trans (ab4 L f));rw[<-hR];obtain⟨W2,hW2⟩:=aq (((W.alloc (.cells #[.pointer (some ⟨cb,0,none⟩)] 26)).alloc (.cells #[str f.name,f.params,.slice ta f.types.length tc,.slice sa f.steps.length sc] 55)));have aN:ag ai W W2:=by rw[hW2];exact (ay.alloc _).alloc _
 have S6:aw W2 W.heap.size [.pointer (some ⟨cb,0,none⟩)] 26:=by rw[hW2];exact (aw.new W _ _).alloc _
 have mB:aw W2 (W.heap.size+1) [str f.name,f.params,.slice ta f.types.length tc,.slice sa f.steps.length sc] 55:=by
  rw[hW2];have:=aw.new (W.alloc (.cells #[.pointer (some ⟨cb,0,none⟩)] 26)) #[str f.name,f.params,.slice ta f.types.length tc,.slice sa f.steps.length sc] 55;simpa using this
 have bA:=af (hT.mods aN (fun _ _ k=>k));have HS:=af (hS.mods aN (fun _ _ k=>k));have aA:=af (anw S6 mB);have bJ:=af aN;have aj:=af (anw (aN.cellOf hcb id) (anw (hL.mods aN (fun _ _ k=>k)) (anw hH (anw (kJ.mods aN) (anw (kK.mods aN) iE)))));have f2:=mB.ah 2;have f3:=mB.ah 3;have oD:=af (fun (w:World) (hm:ag (fun k=>¬k<W.heap.size) W w)=>(⟨hm.cellOf hcb (fun k=>k (World.block_lt_of_cell? W _ hcb)),(hL.mods (ag.refl ai W) (fun k h1 h2=>(h2 h1).elim)).mods hm (fun _ _ f=>f.elim),(hT.mods (ag.refl ai W) (fun k h1 h2=>(h2 h1).elim)).mods hm (fun _ _ f=>f.elim),(hS.mods (ag.refl ai W) (fun k h1 h2=>(h2 h1).elim)).mods hm (fun _ _ f=>f.elim),fun c i hc hi=>hm.cellOf (kJ c i hc hi) (fun k=>k (World.block_lt_of_cell? W _ (kJ c i hc hi))),fun i x hx=>hm.cellOf (kK i x hx) (fun k=>k (World.block_lt_of_cell? W _ (kK i x hx)))⟩:w.cell? ⟨cb,0,none⟩=some lv/\iM w ai lv L/\dh w ai (.slice ta f.types.length tc) f.types/\jS w ai (.slice sa f.steps.length sc) f.steps/\n4 w/\mZ w));have pR:=af iE;have Yp:=af hH;obtain⟨_,_,hf,-,hsc,-⟩:=hS.form;obtain⟨-,-,rfl⟩:=Value.slice.inj hf;obtain⟨tn,dL⟩:=aq (f.types.length);obtain⟨sn,dG⟩:=aq (f.steps.length);have eR:=af (anw dL dG);rw[<-dL]at f2 hW2;rw[<-dG]at f3 hW2;rw[<-dL,<-dG];have hsl:sn<=sc:=by
  obtain⟨a',c',e1,e2,-⟩:=hS.form;obtain⟨-,-,rfl⟩:=Value.slice.inj e1;omega
 clear aN S6 mB hcb hL hH hT hS kJ kK iE hR dL dG hf;unfold str at *;go_in;go_upto_region 1 with (fail)
 rw[<-hW2];clear hW2;by_cases h1:3000<tn
 ·have acN:(3000:Int)<(tn:Int):=by omega
  have bb:Hid (R=false):=af (by rw[aP.out,<-eR.1,show decide (tn<=3000)=false from decide_eq_false (by omega)];rfl);go_wp2_with fail;go_ret;rw[bb.out];exact⟨rfl,bJ⟩
 have acN:¬(3000:Int)<(tn:Int):=by omega
 by_cases h2:sn=0
 ·have bb:Hid (R=false):=af (by rw[aP.out,<-eR.2,h2];simp)
  subst h2;go_wp2_with fail;go_ret;rw[bb.out];exact⟨rfl,bJ⟩
 obtain⟨m,rfl⟩:∃m,sn=m+1:=⟨sn-1,by omega⟩;have IA:(((m+1:Nat):Int)==0)=false:=by simp;omega
 by_cases h3:6000<m+1
 ·have acR:(6000:Int)<((m+1:Nat):Int):=by omega
  have bb:Hid (R=false):=af (by rw[aP.out,<-eR.2,show decide (m+1<=6000)=false from decide_eq_false (by omega)];simp);go_wp2_with fail;go_ret;rw[bb.out];exact⟨rfl,bJ⟩
 have acR:¬(6000:Int)<((m+1:Nat):Int):=by omega
 have g2:((m:Int)+1==0)=false:=by simp;omega
 have g3:decide ((6000:Int)<(m:Int)+1)=false:=decide_eq_false (by omega);have uz:m<f.steps.length:=by have:=eR.2;omega
 obtain⟨g,o,aa,ac,rfl,lI,-⟩:=HS.get uz;obtain⟨x,hx⟩:∃x,f.steps[m]?=some x:=⟨f.steps[m],anx uz⟩;have yz:f.steps.getLast?=some x:=by rw[List.getLast?_eq_getElem?,<-eR.2];exact hx
 have iF:f.steps[m]=x:=by
  obtain⟨h1,h2⟩:=anA.1 hx;exact h2
 rw[iF]at lI;have c0:=lI.1;have QB:Hid (R=(decide (tn<=3000) && decide (1<=m+1) && decide (m+1<=6000) && (x.code==8 || x.code==4) && f.types.all (fun t=>t==1 || t==2) && nU [] f.steps && f.steps.all (cx L f))):=af (by rw[aP.out,yz,<-eR.1,<-eR.2]);have hw:IntKind.i64.wrap (((m+1:Nat):Int)-1)=(m:Int):=by rw[IntWalk.i64_in _ (by omega)];omega
 have hw2:((m+1:Nat):Int)-1=(m:Int):=by omega
 have kj:(m:Int)<((m+1:Nat):Int):=by omega
 have Ul:(0:Int)<=(m:Int):=by omega
 clear hx yz iF lI uz;by_cases h8:x.code≠8/\x.code≠4
 ·have n8:(x.code != 8)=true:=by simpa using h8.1
  have Gx:(x.code != 4)=true:=by simpa using h8.2
  have bb:Hid (R=false):=af (by rw[QB.out,show (x.code==8)=false by simpa using h8.1,show (x.code==4)=false by simpa using h8.2];simp);clear h8;go_wp2_with fail;go_ret;rw[bb.out];exact⟨rfl,bJ⟩
 obtain⟨b,hb⟩:∃b,b=f.types.any (fun x=>!(x==1 || x==2)):=⟨_,rfl⟩;have uv:=bA.out;rw[<-eR.1]at uv;have K0:=af (adk f.types (.slice ta tn tc) (fun x=>!(x==1 || x==2)) W2 uv (fun i hi w fv hm nN=>by subst nN;exact ZW _ _));rw[<-hb]at K0;have xS:Hid (f.types.all (fun t=>t==1 || t==2) = !b):=af (by rw[hb,List.any_eq_not_all_not];simp);have QC:Hid (R=(!b && nU [] f.steps && f.steps.all (cx L f))):=af (by
  rw[QB.out,xS.out,show decide (tn<=3000)=true from decide_eq_true (by omega),show decide (1<=m+1)=true from decide_eq_true (by omega),show decide (m+1<=6000)=true from decide_eq_true (by omega),show (x.code==8 || x.code==4)=true by
   by_cases dc:x.code=8
   ·simp[dc]
   ·have e4:x.code=4:=Classical.byContradiction (fun e4=>h8 ⟨dc,e4⟩)
    simp[e4]]
  simp)
 clear hb uv;have adw:(x.code != 8)=false\/((x.code != 8)=true/\(x.code != 4)=false):=by
  by_cases dc:x.code=8
  ·exact Or.inl (by simp[dc])
  ·have e4:x.code=4:=Classical.byContradiction (fun e4=>h8 ⟨dc,e4⟩)
   exact Or.inr ⟨by simp[e4],by simp[e4]⟩
 clear h8;have l6:=VP;have aT:=af (show m+1<=6000 by omega);rcases adw with n8|⟨n8,Gx⟩
 all_goals
  go_wp2_with fail;refine K0.mono ?_;rintro e w1 ⟨rfl,aO⟩;have aD:=af (bJ.trans aO);have bD:=af (anw (aA.1.mods aO id) (aA.2.mods aO id));have eC:=af (HS.mods aO (fun _ _ k=>k));have xZ:=af (bA.mods aO (fun _ _ k=>k));have ek:=af (anw (aO.cellOf aj.1 id) (anw (aj.2.1.mods aO (fun _ _ k=>k)) (anw aj.2.2.1 (anw (aj.2.2.2.1.mods aO) (anw (aj.2.2.2.2.1.mods aO) aj.2.2.2.2.2)))));have f3:=bD.2.ah 3;rw[<-eR.2]at f3;clear aO K0 c0;cases b
  case true =>
   have bb:Hid (R=false):=af (by rw[QC.out];rfl);go_wp2_with fail;go_ret;rw[bb.out];exact⟨rfl,aD⟩
  case false =>
   have HA:Hid (R=(nU [] f.steps && f.steps.all (cx L f))):=af (by rw[QC.out];rfl);go_upto_region 5 with (fail)
   obtain⟨dz,g_⟩:=aq (((w1.alloc (.map #[] 0)).alloc (.cells #[.map (some w1.heap.size)] 128)));have bX:ag ai w1 dz:=(by rw[g_];exact (ay.alloc _).alloc _);have dV:=af (aD.trans bX);have ve:Hid (aw dz (w1.heap.size+1) [.map (some w1.heap.size)] 128):=af (by
        rw[g_];have:=aw.new (w1.alloc (.map #[] 0)) #[.map (some w1.heap.size)] 128;simpa using this)
   have dE:Hid (fw dz w1.heap.size 0 (.bool false) (fun l=>.bool (([]:List Int).contains l))):=af (by
        rw[g_];exact (fw.new w1 _).mods ((ag.refl ai _).alloc _) id)
   have kV:=af (anw (bD.1.mods bX id) (bD.2.mods bX id));have iU:=af (eC.mods bX (fun _ _ k=>k));have zw:=af (xZ.mods bX (fun _ _ k=>k));have gi:=af (anw (bX.cellOf ek.1 id) (anw (ek.2.1.mods bX (fun _ _ k=>k)) (anw ek.2.2.1 (anw (ek.2.2.2.1.mods bX) (anw (ek.2.2.2.2.1.mods bX) ek.2.2.2.2.2)))));rw[<-g_];obtain⟨aQ,jr⟩:=aq (w1.heap.size);have Ho:Hid (aQ=w1.heap.size):=af jr;have lV:Hid (W.heap.size+2<=aQ):=af (by have h1:=bD.2.lt;rw[jr];omega);rw[<-jr]at ve dE ⊢;have f3:=kV.2.ah 3;rw[<-eR.2]at f3;clear g_ bX jr bD eC xZ ek l6;go_wp2_with fail;clear f3
   go_loopw [8,53] (fun _ iv wr=>∃ (i n:Nat) (T:List Int),i<=m+1/\iv=.int .i64 i/\n<=i/\Hid (nU T (f.steps.drop i)=nU [] f.steps)/\Hid (fw wr aQ n (.bool false) (fun l=>.bool (T.contains l)))/\Hid (∀l,T.contains l=(f.steps.take i).any (fun s=>s.code==6 && s.label==l))/\Hid (ag (·=aQ) dz wr)) (fun _ iv _=>(m+1-intOf iv).toNat)
   case atStart=>exact⟨0,0,[],anC _,rfl,anD _,af rfl,dE,af (fun l=>by simp),af ay⟩
   case round =>
        clear dE;obtain⟨i,k,T,hi,rfl,hk,HO,dE,lY,gY⟩:=hrel;have q3:=(ve.mods gY (by omega)).ah 0;by_cases hlt:i<m+1
        ·have bm:i<f.steps.length:=by have:=eR.2;omega
         have uA:ag (fun k=>¬k<W.heap.size) W wr:=(dV.mono fun _ _ f=>f.elim).trans (gY.mono fun k _ e=>by have:=lV.out;omega);obtain⟨g',o',Rx,Ry,e,hcs,cC⟩:=(oD wr uA).2.2.2.1.get bm;obtain⟨rfl,rfl⟩:g=g'/\o=o':=(by simpa using e);obtain⟨y,hy⟩:=aq (f.steps[i]);have nP:f.steps[i]?=some y:=(by rw[hy];exact anx bm);rw[<-hy]at hcs cC;obtain⟨c0,c1,c2,c3,c4,c5,c6,c7,c8,c9⟩:=hcs;have gy:=pR.out y (anF nP);have cA:(i:Int)<((m:Int)+1):=(by omega);have aef:(i:Int)<((m+1:Nat):Int):=(by omega);have oW:i<6000:=(by have:=aT.out;omega);obtain⟨an,eT⟩:=aq (y.args.length);rw[<-eT]at c9;clear hy eT;obtain⟨cD,cN⟩:=aq (wr.alloc (.cells (#[.int .i64 y.code,.int .i64 y.dst,.int .i64 y.a,.int .i64 y.b,.int .i64 y.c,.int .i64 y.n,str y.op,.int .i64 y.label,str y.name,.slice Rx an Ry]) 57));have bM:ag ai wr cD:=(by rw[cN];exact ay.alloc _);have j_:aw cD wr.heap.size [y.code,y.dst,y.a,y.b,y.c,y.n,str y.op,y.label,str y.name,.slice Rx an Ry] 57:=(by rw[cN];exact aw.new wr _ _);have d0:=j_.ah 0;have d7:=j_.ah 7;have q3:=bM.cellOf q3 id;have x6:Hid (ag (·=aQ) dz cD):=af (gY.trans (bM.mono fun _ _ f=>f.elim));have hdr:=drop_one nP;have hO:=HO.out;rw[hdr]at hO;simp only[nU]at hO;have IZ:=fun l=>ZS nP (fun s=>s.code==6 && s.label==l)
         have hlk:=(dE.mods bM id).look (t:=128) underlying128 (RX _) gy;obtain⟨bw,hu,ri,bG⟩:=(dE.mods bM id).put (t:=128) underlying128 gy (.bool true) (by unfold maxLen;omega);have eL:Hid (ag (·=aQ) dz bw):=af (x6.trans bG);unfold str at *;by_cases h6:y.code=6
         ·rw[if_pos h6]at hO
          rw[h6]at d0 c0 cN;by_cases hc:T.contains y.label=true
          ·rw[if_pos hc]at hO
           have bb:Hid (R=false):=af (by rw[HA.out,<-hO];rfl);rw[hc]at hlk;have Lj:Hid (ag ai W cD):=af (dV.trans' x6 (fun k e hlt=>by have:=lV.out;omega));clear hO hu ri bG eL j_ bM hdr cC gy;go_upto_region 8 with (fail)
           rw[<-cN];clear cN;go_wp2_with fail;go_ret;rw[bb.out];exact⟨rfl,Lj⟩
          ·rw[if_neg hc]at hO
           have hc2:T.contains y.label=false:=(by simpa using hc);rw[hc2]at hlk;have EU:Hid (nU (T++[y.label]) (f.steps.drop (i+1))=nU [] f.steps):=af hO;have u7:Hid (fw bw aQ (k+1) (.bool false) (fun l=>.bool ((T++[y.label]).contains l))):=af (by
             have e:(fun x=>if x=y.label then Value.bool true else Value.bool (T.contains x))=(fun l=>.bool ((T++[y.label]).contains l)):=by
              funext l;by_cases h:l=y.label
              ·rw[if_pos h];simp[h]
              ·rw[if_neg h];simp[h]
             rw[e]at ri;exact ri)
           have LC:Hid (∀l,(T++[y.label]).contains l=(f.steps.take (i+1)).any (fun s=>s.code==6 && s.label==l)):=af (fun l=>by
             rw[IZ l,<-lY.out l];by_cases h:l=y.label
             ·simp[h6,h]
             ·have dJ:(y.label==l)=false:=by simpa using fun e=>h e.symm
              rw[dJ];simp[h])
           clear hO ri bG j_ bM hdr cC gy hc hc2 HO dE lY IZ;go_upto_region 8 with (fail)
           rw[<-cN];clear cN;go_wp2_with fail;exact⟨⟨i+1,k+1,T++[y.label],by omega,by go_num,by omega,EU,u7,LC,eL⟩,by simp[intOf];omega⟩
         ·rw[if_neg h6]at hO
          have yq:(y.code==6)=false:=(by simpa using h6);have EU:Hid (nU T (f.steps.drop (i+1))=nU [] f.steps):=af hO;have u7:=af (dE.mods bM id);have LC:Hid (∀l,T.contains l=(f.steps.take (i+1)).any (fun s=>s.code==6 && s.label==l)):=af (fun l=>by
           rw[IZ l,<-lY.out l,yq];simp)
          clear hO ri bG j_ bM hdr cC gy hu eL HO dE lY IZ hlk;go_upto_region 8 with (fail)
          rw[<-cN];clear cN;go_wp2_with fail;exact⟨⟨i+1,k,T,by omega,by go_num,by omega,EU,u7,LC,x6⟩,by simp[intOf];omega⟩
        ·obtain rfl:i=m+1:=by omega
         have uA:ag (fun k=>¬k<W.heap.size) W wr:=(dV.mono fun _ _ f=>f.elim).trans (gY.mono fun k _ e=>by have:=lV.out;omega);obtain⟨a1,a2,a3,a4,a5,qP⟩:=oD.out wr uA;have hd:f.steps.drop (m+1)=[]:=(by rw[eR.2];exact anZ);have qf:nU [] f.steps=true:=by
          have:=HO.out;rw[hd]at this;rw[<-this];rfl
         have hmap:fw wr aQ k (.bool false) (fun l=>.bool (kf f l)):=by
          have e:(fun l=>Value.bool (T.contains l))=(fun l=>.bool (kf f l)):=by
           funext l;rw[lY.out l,anN (by have:=eR.2;omega)];rfl
          rw[<-e];exact dE
         have h9:ag (·=aQ) dz wr:=gY.out;have TA:Ew L f W.heap.size (W.heap.size+1) (aQ+1) cb aQ k lv ta (some ⟨g,o,none⟩) tc sc wr:=⟨kV.1.mods h9 (by have:=lV.out;omega),kV.2.mods h9 (by have:=lV.out;omega),ve.mods h9 (by omega),a1,a2,Yp,a3,a5,qP,hmap⟩;have K8:=af (adj f.steps (.slice (some ⟨g,o,none⟩) f.steps.length sc) W.heap.size (W.heap.size+1) (aQ+1) (fun s=>!cx L f s) wr a4 (fun i hi w fv hm nN=>ZV (TA.mods hm) f.steps[i] fv nN (pR _ (aof hi))));have QZ:Hid (R = !(f.steps.any (fun s=>!cx L f s))):=af (by rw[HA.out,qf,List.any_eq_not_all_not];simp);obtain⟨z,hz⟩:∃z,z=f.steps.any (fun s=>!cx L f s):=⟨_,rfl⟩;rw[<-hz]at K8 QZ;clear hz;have mB:=kV.2.mods h9 (by have:=lV.out;omega);have f3:=mB.ah 3;have k_:∀ (fn:Go.Fn) (first cap:Array Value) (w:World),(Instr.makeFunc fn first cap).run prog w=.ok (.func fn first cap) w:=fun _ _ _ _=>rfl
         have Lj:Hid (ag ai W wr):=af (dV.trans' gY (fun k e hlt=>by have:=lV.out;omega));rw[<-eR.2]at K8 f3;have cA:¬((m:Int)+1<(m:Int)+1):=(by omega);clear a1 a2 a3 a4 a5 qP hd qf hmap TA mB h9 q3;go_wp2_with fail;refine K8.mono ?_;rintro e fW ⟨rfl,gT⟩;have oF:=af (Lj.trans gT);go_wp2_with fail;go_ret;rw[QZ.out];exact⟨rfl,oF⟩
theorem iM.take {a:Option Addr} {c:Nat} (h:iM W S (.slice a n c) L) (hi:i<=L.length):iM W S (.slice a i c) (L.take i):=by
 obtain⟨a',c',h1,h3,h4,h5,h6⟩:=h;obtain⟨rfl,rfl,rfl⟩:=Value.slice.inj h1;refine⟨a,c,by rw[anP,aoL hi],by rw[anP];omega,h4,fun e=>by rw[anP];have:=h5 e;omega,fun j f hf=>?_⟩;have hj:j<i:=by
  have:=(anA.1 hf).1;rw[anP]at this;omega
 rw[aon hj]at hf;exact h6 j f hf
theorem akc (g:ar) (nm:List UInt8) (q:Nat) (w:World) (fv:Value) (hq:w.cell? ⟨q,0,none⟩=some (str nm)) (hv:jc w ai g fv) :
 Calls prog 25 #[fv,.pointer (some ⟨q,0,none⟩)] w fun e w'=>e=.returned (.bool (g.name==nm))/\ag ai w w':=by
 obtain⟨ta,tc,sa,sc,rfl,-,-⟩:=hv;have hlt:q<w.heap.size:=World.block_lt_of_cell? w _ hq;have hne:q≠w.heap.size:=by omega
 unfold str at *;go_in;go_wp2;go_ret;exact⟨by simp,ay.alloc _⟩
def wA (f:ar):Bool:=f.name==[109,97,105,110] && f.params==0
theorem af7 (g:ar) (w:World) (fv:Value) (hv:jc w ai g fv) :
 Calls prog 27 #[fv] w fun e w'=>e=.returned (.bool (wA g))/\ag ai w w':=by
 obtain⟨ta,tc,sa,sc,rfl,-,-⟩:=hv;by_cases h1:g.name=[109,97,105,110]
 ·have e1:wA g=(g.params==0):=by unfold wA;rw[h1];rfl
  rw[e1,h1];unfold str;go_in;go_wp2;go_ret;exact⟨rfl,ay.alloc _⟩
 ·have h2:(g.name==[109,97,105,110])=false:=by simpa using h1
  have e1:wA g=false:=by unfold wA;rw[h2];rfl
  have h3:((⟨g.name.toArray⟩:ByteArray)==⟨#[109,97,105,110]⟩)=false:=by
   have:=qu g.name [109,97,105,110];rw[h2]at this;exact this
  rw[e1];unfold str;go_in;go_wp2;go_ret;exact⟨rfl,ay.alloc _⟩
theorem FV:(A L:List ar)->jW A L=true->Bc L
 | A,[],h=>fun g hg=>by cases hg
 | A,f::r,h=>by
   unfold jW at h;split at h
   ·cases h
   ·rename_i hn
    intro g hg;rcases anW.1 hg with rfl|hg
    ·constructor
     ·exact Int.not_lt.1 fun h=>hn (Or.inl h)
     ·exact Int.not_lt.1 fun h=>hn (Or.inr (Or.inl h))
    ·exact FV _ r h g hg
theorem TQ (A r:List ar) (f:ar):jW A (f::r)=if f.params<0\/f.params > f.types.length\/A.any (fun g=>g.name==f.name) then false else jW (A++[f]) r:=by rw[jW]
theorem Sg (L:List ar):p9 L=(decide (L.length<=12) && jW [] L && L.all (l4 L) && L.any wA):=rfl
theorem Pq (L:List ar) (cb:Nat) (lv:Value) (W:World) (hcb:W.cell? ⟨cb,0,none⟩=some lv) (hL:iM W ai lv L) (kJ:n4 W) (kK:mZ W) (iE:∀f∈L,∀s∈f.steps,b9 s.label) :
 Calls prog 10 #[.pointer (some ⟨cb,0,none⟩)] W fun e w=>e=.returned (.bool (p9 L))/\ag ai W w:=by
 obtain⟨R,hR⟩:=aq (p9 L);have aP:=af (hR.trans (Sg L));rw[<-hR];have oD:=af (fun (w:World) (hm:ag ai W w)=>(⟨hm.cellOf hcb id,hL.mods hm (fun _ _ k=>k),kJ.mods hm,kK.mods hm⟩:w.cell? ⟨cb,0,none⟩=some lv/\iM w ai lv L/\n4 w/\mZ w));obtain⟨jx,lc,rfl,Ga,Ug,-⟩:=hL.form;have pR:=af iE;obtain⟨n,hn⟩:=aq (L.length);have aT:=af hn;rw[<-hn]at hcb Ga;clear hL kJ kK iE hR hn;go_in;by_cases fM:12<n
 ·have acO:(12:Int)<(n:Int):=by omega
  have bb:Hid (R=false):=af (by rw[aP.out,<-aT.out,show decide (n<=12)=false from decide_eq_false (by omega)];rfl);go_wp2_with fail;go_ret;rw[bb.out];exact⟨rfl,ag.refl _ _⟩
 have acO:¬(12:Int)<(n:Int):=by omega
 have dn:=af (show n<=12 by omega);go_wp2_with fail;clear hcb
 go_loopw [3,4,22] (fun _ _ iv wr=>∃i:Nat,i<=n/\iv=.int .i64 i/\Hid (jW (L.take i) (L.drop i)=jW [] L)/\Hid (ag ai W wr)) (fun _ _ iv _=>(n-intOf iv).toNat)
 case atStart=>exact⟨0,anC _,rfl,af rfl,af ay⟩
 case round =>
  obtain⟨i,hi,rfl,HH,az⟩:=hrel;obtain⟨b0,b1,b2,b3⟩:=oD.out wr az;rw[<-aT.out]at b0;by_cases hlt:i<n
  ·have bm:i<L.length:=by have:=aT.out;omega
   obtain⟨g,o,ta,tc,sa,sc,rfl,c0,c1,c2,c3,hT,hS⟩:=b1.get bm;have ac0:jc wr ai L[i] (.agg #[str L[i].name,.int .i64 L[i].params,.slice ta L[i].types.length tc,.slice sa L[i].steps.length sc]):=⟨ta,tc,sa,sc,rfl,hT,hS⟩;obtain⟨f,hf⟩:∃f,L[i]?=some f:=⟨_,anx bm⟩;have xu:L[i]=f:=by
        obtain⟨h1,h2⟩:=anA.1 hf;exact h2
   rw[xu]at c0 c1 c2 c3;have hdr:=drop_one hf;have lL:L.take i++[f]=L.take (i+1):=(by rw[anT bm,xu]);have hH:=HH.out;rw[hdr]at hH;rw[TQ,lL]at hH;obtain⟨cD,cN⟩:=aq (wr.alloc (.cells #[str f.name,f.params,.slice ta f.types.length tc,.slice sa f.steps.length sc] 55));have bM:ag ai wr cD:=(by rw[cN];exact ay.alloc _);have j_:aw cD wr.heap.size [str f.name,f.params,.slice ta f.types.length tc,.slice sa f.steps.length sc] 55:=(by rw[cN];exact aw.new wr _ _);obtain⟨d0,d1,d2⟩:=j_.gF;have dx:=af (az.trans bM);obtain⟨e0,e1,e2,e3⟩:=oD.out cD dx;rw[<-aT.out]at e0;have cA:(i:Int)<(n:Int):=(by omega);have Ja:(i:Int)<=(lc:Int):=(by omega);have LD:=af (M5 (L.take i) (.slice (some ⟨g,o,none⟩) i lc) wr.heap.size (fun g=>g.name==f.name) cD (by rw[<-aT.out]at e1;exact e1.take (by omega)) (fun j hj w fv hm hv=>akc _ f.name wr.heap.size w fv (hm.cellOf d0 id) hv));obtain⟨tn,dL⟩:=aq (f.types.length);obtain⟨sn,dG⟩:=aq (f.steps.length);rw[<-dL]at hH c2 d2 cN;rw[<-dG]at c3 cN;obtain⟨z,hz⟩:∃z,z=(L.take i).any (fun g=>g.name==f.name):=⟨_,rfl⟩;rw[<-hz]at LD hH;have iT:=af (show i<n from hlt);have k_:∀ (fn:Go.Fn) (first cap:Array Value) (w:World),(Instr.makeFunc fn first cap).run prog w=.ok (.func fn first cap) w:=fun _ _ _ _=>rfl
   unfold str at *;clear hT hS ac0 hf xu hdr lL bM j_ e1 e2 e3 b1 b2 b3 dL dG hz bm d0;by_cases tx:f.params<0
   ·have bb:Hid (R=false):=af (by rw[aP.out,<-hH,if_pos (Or.inl tx)];simp)
    clear hH;go_upto_region 6 with (fail)
    rw[<-cN];clear cN;go_wp2_with fail;go_ret;rw[bb.out];exact⟨rfl,dx⟩
   by_cases oY:(tn:Int)<f.params
   ·have bb:Hid (R=false):=af (by rw[aP.out,<-hH,if_pos (Or.inr (Or.inl oY))];simp)
    clear hH;go_upto_region 6 with (fail)
    rw[<-cN];clear cN;go_wp2_with fail;go_ret;rw[bb.out];exact⟨rfl,dx⟩
   have T6:f.params > tn↔(tn:Int)<f.params:=Iff.rfl;cases z
   ·have Yn:Hid (jW (L.take (i+1)) (L.drop (i+1))=jW [] L):=af (by rw[<-hH,if_neg (by simp;exact⟨Int.not_lt.1 tx,Int.not_lt.1 oY⟩)])
    clear hH T6;go_upto_region 6 with (fail)
    rw[<-cN];clear cN;go_wp2_with fail;refine LD.mono ?_;rintro e bw ⟨rfl,bG⟩;have eL:=af (dx.trans bG);clear bG;have z_:=iT.out;go_wp2_with fail;exact⟨⟨i+1,by omega,by go_num,Yn,eL⟩,by simp[intOf];omega⟩
   ·have bb:Hid (R=false):=af (by rw[aP.out,<-hH,if_pos (Or.inr (Or.inr rfl))];simp)
    clear hH T6;go_upto_region 6 with (fail)
    rw[<-cN];clear cN;go_wp2_with fail;refine LD.mono ?_;rintro e bw ⟨rfl,bG⟩;have eL:=af (dx.trans bG);clear bG;go_wp2_with fail;go_ret;rw[bb.out];exact⟨rfl,eL⟩
  ·obtain rfl:i=n:=by omega
   have hh:jW [] L=true:=by
        have:=HH.out;rw[aT.out,anZ]at this;rw[<-this];cases L.take L.length <;> rfl
   have Yo:=af (FV [] L hh);have bI:Hid (R=(L.all (l4 L) && L.any wA)):=af (by rw[aP.out,hh,<-aT.out,show decide (i<=12)=true from decide_eq_true dn.out];simp);have cA:¬(i:Int)<(i:Int):=(by omega);have tX:=az;clear hh HH az b1 b2 b3;go_wp2_with fail;clear b0 cA
   go_loopw [6,54] (fun _ iv wr=>∃k:Nat,k<=i/\iv=.int .i64 k/\Hid ((L.take k).all (l4 L)=true)/\Hid (ag ai W wr)) (fun _ iv _=>(i-intOf iv).toNat)
   case atStart=>exact⟨0,anC _,rfl,af (by simp),tX⟩
   case round =>
        clear tX;obtain⟨k,hk,rfl,bH,az⟩:=hrel;obtain⟨w1,rfl⟩:=aq wr;obtain⟨b0,b1,b2,b3⟩:=oD.out w1 az;rw[<-aT.out]at b0;by_cases hlt:k<i
        ·have bm:k<L.length:=by have:=aT.out;omega
         obtain⟨g,o,ta,tc,sa,sc,rfl,c0,c1,c2,c3,hT,hS⟩:=b1.get bm;obtain⟨f,hf⟩:∃f,L[k]?=some f:=⟨_,anx bm⟩;have xu:L[k]=f:=by
          obtain⟨h1,h2⟩:=anA.1 hf;exact h2
         rw[xu]at c0 c1 c2 c3 hT hS;obtain⟨cD,cN⟩:=aq (w1.alloc (.cells #[str f.name,f.params,.slice ta f.types.length tc,.slice sa f.steps.length sc] 55));have bM:ag ai w1 cD:=(by rw[cN];exact ay.alloc _);have j_:aw cD w1.heap.size [str f.name,f.params,.slice ta f.types.length tc,.slice sa f.steps.length sc] 55:=(by rw[cN];exact aw.new w1 _ _);obtain⟨d0,d1,d2,d3⟩:=j_.gG;have dx:=af (az.trans bM);obtain⟨e0,e1,e2,e3⟩:=oD.out cD dx;have EO:=af (acw L f cb _ (.agg #[str f.name,f.params,.slice ta f.types.length tc,.slice sa f.steps.length sc]) cD e0 e1 Yo ⟨ta,tc,sa,sc,rfl,hT.mods bM (fun _ _ k=>k),hS.mods bM (fun _ _ k=>k)⟩ e2 e3 (pR f (anF hf)));have cA:(k:Int)<(i:Int):=(by omega);have lL:(L.take (k+1)).all (l4 L)=((L.take k).all (l4 L) && l4 L f):=by
          rw[anT bm,List.all_append,xu];simp
         have nj:f∈L:=anF hf;obtain⟨z,hz⟩:=aq (l4 L f);rw[<-hz]at EO lL;have iT:=af (anw hlt (anw nj hz));have qZ:=lL;have rU:=af lL;unfold str at *;clear hT hS hf xu bM j_ e0 e1 e2 e3 b1 b2 b3 bm lL qZ hz nj hlt;go_upto_region 12 with (fail)
         rw[<-cN];clear cN;go_wp2_with fail;refine EO.mono ?_;rintro e bw ⟨rfl,bG⟩;have eL:=af (dx.trans bG);clear bG EO;cases z
         ·have bb:Hid (R=false):=af (by
           have h1:L.all (l4 L)=false:=by
            rw[List.all_eq_false];exact⟨f,iT.2.1,by rw[<-iT.2.2];simp⟩
           rw[bI.out,h1];rfl)
          go_wp2_with fail;go_ret;rw[bb.out];exact⟨rfl,eL⟩
         ·have ft:Hid ((L.take (k+1)).all (l4 L)=true):=af (by rw[rU.out,bH.out];rfl)
          have hlt:=iT.1;go_wp2_with fail;exact⟨⟨k+1,by omega,by go_num,ft,eL⟩,by simp[intOf];omega⟩
        ·obtain rfl:k=i:=by omega
         have cA:¬(k:Int)<(k:Int):=(by omega);have hall:L.all (l4 L)=true:=by
          have:=bH.out;rwa [anN (by have:=aT.out;omega)]at this
         have dp:Hid (R=L.any wA):=af (by rw[bI.out,hall];rfl);have bR:=af (M4 L (.slice jx k lc) wA w1 (by rw[<-aT.out]at b1;exact b1) (fun j hj w fv hm hv=>af7 _ w fv hv));obtain⟨z,hz⟩:=aq (L.any wA);rw[<-hz]at bR dp;clear hz hall b1 b2 b3 bH;go_wp2_with fail;refine bR.mono ?_;rintro e bw ⟨rfl,bG⟩;have eL:=af (az.trans bG);clear bG;go_wp2_with fail;go_ret;rw[dp.out];exact⟨rfl,eL⟩
def jL:List ar->Nat
 | []=>0
 | f::r=>f.steps.length+jL r
theorem Xd:(L:List ar)->(i:Nat)->(f:ar)->L[i]?=some f->jL (L.take (i+1))=jL (L.take i)+f.steps.length
 | [],i,f,h=>by simp at h
 | a::r,0,f,h=>by
   simp only[anO,anG]at h;subst h;simp[jL]
 | a::r,i+1,f,h=>by
   have:=Xd r i f (by simpa using h);simp only[an4,jL]at this ⊢;omega
theorem Xc:(L:List ar)->(i:Nat)->jL (L.take i)<=jL L
 | [],i=>by simp[jL]
 | a::r,0=>by simp[jL]
 | a::r,i+1=>by
   have:=Xc r i;simp only[an4,jL];omega
theorem KD (L:List ar) (cb:Nat) (lv:Value) (W:World) (hcb:W.cell? ⟨cb,0,none⟩=some lv) (hL:iM W ai lv L) (hb:jL L<=1000000000) :
 Calls prog 18 #[.pointer (some ⟨cb,0,none⟩)] W fun e w=>e=.returned (.int .i64 (jL L))/\ag ai W w:=by
 have oD:=af (fun (w:World) (hm:ag ai W w)=>hL.mods hm (fun _ _ k=>k));obtain⟨jx,lc,rfl,Ga,Ug,-⟩:=hL.form;obtain⟨n,hn⟩:=aq (L.length);have aT:=af hn;have aA:=af hb;rw[<-hn]at hcb Ga;clear hL hn hb;go_in;go_wp2_with fail;clear hcb
 go_loopw [3,5,11] (fun av _ iv wr=>∃ (i m:Nat),i<=n/\iv=.int .i64 i/\av=.int .i64 m/\Hid (m=jL (L.take i))/\Hid (ag ai W wr)) (fun _ _ iv _=>(n-intOf iv).toNat)
 case atStart=>exact⟨0,0,anC _,rfl,rfl,af (by simp[jL]),af ay⟩
 case round =>
  obtain⟨i,m,hi,rfl,rfl,HS,az⟩:=hrel;by_cases hlt:i<n
  ·have bm:i<L.length:=by have:=aT.out;omega
   obtain⟨g,o,ta,tc,sa,sc,rfl,c0,c1,c2,c3,-,-⟩:=(oD wr az).get bm;obtain⟨f,hf⟩:∃f,L[i]?=some f:=⟨_,anx bm⟩;have xu:L[i]=f:=by
        obtain⟨h1,h2⟩:=anA.1 hf;exact h2
   rw[xu]at c0 c1 c2 c3;have hst:=Xd L i f hf;have hle:=Xc L (i+1);obtain⟨sn,dG⟩:=aq (f.steps.length);rw[<-dG]at c3 hst;have hbound:m+sn<=1000000000:=(by have h1:=aA.out;have h2:=HS.out;omega);have HST:Hid (m+sn=jL (L.take (i+1))):=af (by rw[hst,HS.out]);have hw:IntKind.i64.wrap ((m:Int)+(sn:Int))=((m+sn:Nat):Int):=(by rw[IntWalk.i64_in _ (by omega)];omega);have cA:(i:Int)<(n:Int):=(by omega);have dx:∀o,Hid (ag ai W (wr.alloc o)):=fun o=>af (az.trans (ay.alloc _))
   unfold str at *;clear hf xu hst hle dG bm HS;go_wp2_with fail;exact⟨⟨i+1,m+sn,by omega,by go_num,by go_num,HST,dx _⟩,by simp[intOf];omega⟩
  ·obtain rfl:i=n:=by omega
   have bb:Hid (m=jL L):=af (by rw[HS.out,aT.out,aob]);have cA:¬(i:Int)<(i:Int):=(by omega);go_wp2_with fail;go_ret;rw[bb.out];exact⟨rfl,az⟩
theorem Vs:(A:List ax)->(x:ax)->(l:Int)->(i k:Nat)->fq (A++[x]) l i k=if x.code=6/\x.label=l then i+A.length else fq A l i k
 | [],x,l,i,k=>by simp[fq]
 | a::r,x,l,i,k=>by
   simp only[aoq,fq,Vs r x l,anK];split
   ·omega
   ·rfl
theorem Vx {L:List ax} {x:ax} (h:L[i]?=some x) (l:Int):fq (L.take (i+1)) l 0 0=if x.code=6/\x.label=l then i else fq (L.take i) l 0 0:=by
 obtain⟨h1,h2⟩:=anA.1 h;rw[anT h1,h2,Vs,anP,aoL (by omega),an9]
theorem VQ (w:World):(Instr.makeMap 120 none).run prog w=.ok (.map (some w.heap.size)) (w.alloc (.map #[] 0)):=by
 simp[Instr.makeMap,run_underlying underlying120]
theorem afo (f:ar) (fv:Value) (W:World) (hv:jc W ai f fv) (iE:∀s∈f.steps,b9 s.label) (hlen:f.steps.length<=6000) :
 Calls prog 51 #[fv] W fun e w=>∃aQ n,e=.returned (.map (some aQ))/\fw w aQ n (.int .i64 0) (fun l=>.int .i64 (fq f.steps l 0 0))/\W.heap.size<=aQ/\n<=6000/\ag ai W w:=by
 obtain⟨ta,tc,sa,sc,rfl,hT,hS⟩:=hv;have oD:=af (fun (w:World) (hm:ag (fun k=>¬k<W.heap.size) W w)=>(hS.mods (ag.refl ai W) (fun k h1 h2=>(h2 h1).elim)).mods hm (fun k h1 h2=>h2.elim) (T:=ai));obtain⟨W2,hW2⟩:=aq (W.alloc (.cells #[str f.name,f.params,.slice ta f.types.length tc,.slice sa f.steps.length sc] 55));have aN:ag ai W W2:=by rw[hW2];exact ay.alloc _
 have mB:aw W2 W.heap.size [str f.name,f.params,.slice ta f.types.length tc,.slice sa f.steps.length sc] 55:=by rw[hW2];exact aw.new W _ _
 have hs2:W2.heap.size=W.heap.size+1:=by rw[hW2];simp
 have hsl:f.steps.length<=sc/\sc<=9223372036854775807:=by
  obtain⟨a',c',e1,e2,e3,-⟩:=hS.form;obtain⟨-,-,rfl⟩:=Value.slice.inj e1;exact⟨e2,e3⟩
 have l6:=VQ;have pR:=af iE;obtain⟨sn,dG⟩:=aq (f.steps.length);have aT:=af dG;have iT:=af hlen;rw[<-dG]at hW2 mB hsl;obtain⟨tn,dL⟩:=aq (f.types.length);rw[<-dL]at hW2 mB;rw[<-dL,<-dG];have f3:=mB.ah 3;have bY:=af (anw mB (anw aN hs2));clear hT hS iE hlen dG dL mB aN hs2;unfold str at *;go_in;go_upto_region 1 with (fail)
 rw[<-hW2];clear hW2;go_upto_region 2 with (fail)
 obtain⟨dz,g_⟩:=aq (W2.alloc (.map #[] 0));have dV:Hid (ag ai W dz):=af (bY.2.1.trans (by rw[g_];exact ay.alloc _));have dE:Hid (fw dz W2.heap.size 0 (.int .i64 0) (fun l=>.int .i64 (fq (f.steps.take 0) l 0 0))):=af (by rw[g_];exact fw.new W2 _);have f3:dz.cell? ⟨W.heap.size,3,none⟩=some (.slice sa sn sc):=by rw[g_];exact ((ag.refl ai W2).alloc _).cellOf f3 id
 rw[<-g_];obtain⟨aQ,jr⟩:=aq (W2.heap.size);rw[<-jr]at dE ⊢;have lV:Hid (W.heap.size+1=aQ):=af (by rw[jr,bY.2.2]);clear g_ jr l6;go_wp2_with fail;clear f3
 go_loopw [4,5,10] (fun _ _ iv wr=>∃ (i n:Nat),i<=sn/\iv=.int .i64 i/\n<=i/\Hid (fw wr aQ n (.int .i64 0) (fun l=>.int .i64 (fq (f.steps.take i) l 0 0)))/\Hid (ag (·=aQ) dz wr)) (fun _ _ iv _=>(sn-intOf iv).toNat)
 case atStart=>exact⟨0,0,anC _,rfl,anD _,dE,af ay⟩
 case round =>
  clear dE;obtain⟨i,n,hi,rfl,hn,dE,gY⟩:=hrel;by_cases hlt:i<sn
  ·have bm:i<f.steps.length:=by have:=aT.out;omega
   have uA:ag (fun k=>¬k<W.heap.size) W wr:=(dV.mono fun _ _ f=>f.elim).trans (gY.mono fun k _ e=>by have:=lV.out;omega);obtain⟨g,o,aa,ac,rfl,hcs,-⟩:=(oD wr uA).get bm;obtain⟨y,nP⟩:∃y,f.steps[i]?=some y:=⟨_,anx bm⟩;have uG:f.steps[i]=y:=by
        obtain⟨h1,h2⟩:=anA.1 nP;exact h2
   rw[uG]at hcs;obtain⟨c0,c1,c2,c3,c4,c5,c6,c7,c8,c9⟩:=hcs;have gy:=pR.out y (anF nP);have cA:(i:Int)<(sn:Int):=(by omega);have oW:i<6000:=(by have:=aT.out;have:=iT.out;omega);obtain⟨an,eT⟩:=aq (y.args.length);rw[<-eT]at c9;have rU:=af (fun l=>Vx nP l);obtain⟨cD,cN⟩:=aq (wr.alloc (.cells (#[.int .i64 y.code,.int .i64 y.dst,.int .i64 y.a,.int .i64 y.b,.int .i64 y.c,.int .i64 y.n,str y.op,.int .i64 y.label,str y.name,.slice aa an ac]) 57));have bM:ag ai wr cD:=(by rw[cN];exact ay.alloc _);have j_:aw cD wr.heap.size [y.code,y.dst,y.a,y.b,y.c,y.n,str y.op,y.label,str y.name,.slice aa an ac] 57:=(by rw[cN];exact aw.new wr _ _);have d0:=j_.ah 0;have d7:=j_.ah 7;have x6:Hid (ag (·=aQ) dz cD):=af (gY.trans (bM.mono fun _ _ f=>f.elim));obtain⟨bw,hu,ri,bG⟩:=(dE.mods bM id).put (t:=120) underlying120 gy (.int .i64 i) (by unfold maxLen;omega);have eL:Hid (ag (·=aQ) dz bw):=af (x6.trans bG);unfold str at *;clear nP uG eT bm uA;by_cases h6:y.code=6
   ·rw[h6]at d0 c0 cN
    have u7:Hid (fw bw aQ (n+1) (.int .i64 0) (fun l=>.int .i64 (fq (f.steps.take (i+1)) l 0 0))):=af (by
     have e:(fun x=>if x=y.label then Value.int .i64 (i:Int) else Value.int .i64 (fq (f.steps.take i) x 0 0))=(fun l=>.int .i64 (fq (f.steps.take (i+1)) l 0 0)):=by
       funext l;rw[rU.out l];by_cases h:l=y.label
       ·rw[if_pos h,if_pos ⟨h6,h.symm⟩]
       ·rw[if_neg h,if_neg (fun k=>h k.2.symm)]
     rw[e]at ri;exact ri)
    have gA:=af h6;clear ri bG j_ bM gy dE h6;go_upto_region 5 with (fail)
    rw[<-cN];clear cN;go_wp2_with fail;exact⟨⟨i+1,n+1,by omega,by go_num,by omega,u7,eL⟩,by simp[intOf];omega⟩
   ·have yq:(y.code==6)=false:=by simpa using h6
    have u7:Hid (fw cD aQ n (.int .i64 0) (fun l=>.int .i64 (fq (f.steps.take (i+1)) l 0 0))):=af (by
     have e:(fun l=>Value.int .i64 ((fq (f.steps.take (i+1)) l 0 0:Nat):Int))=(fun l=>.int .i64 (fq (f.steps.take i) l 0 0)):=by
      funext l;rw[rU.out l,if_neg (fun k=>h6 k.1)]
     rw[e];exact dE.mods bM id)
    clear hu ri bG j_ bM gy dE eL;go_upto_region 5 with (fail)
    rw[<-cN];clear cN;go_wp2_with fail;exact⟨⟨i+1,n,by omega,by go_num,by omega,u7,x6⟩,by simp[intOf];omega⟩
  ·obtain rfl:i=sn:=by omega
   have cA:¬(i:Int)<(i:Int):=(by omega);have bb:Hid (fw wr aQ n (.int .i64 0) (fun l=>.int .i64 (fq f.steps l 0 0))):=af (by
        have:=dE.out;rwa [anN (by have:=aT.out;omega)]at this)
   have jf:=af (show n<=6000 by have:=aT.out;have:=iT.out;omega);go_wp2_with fail;go_ret;exact⟨aQ,rfl,n,bb,by have:=lV.out;omega,jf,dV.trans' gY (fun k e hlt=>by have:=lV.out;omega)⟩
theorem strKeys:Keyed prog 9:=string_keyed underlying9
theorem Cl {s:List UInt8} (hs:s.length<=maxLen):keyOf prog 9 (str s)=some (.string s):=by
 have:=WideMaps.keyOf_string_mk (P:=prog) underlying9 (s:=⟨s.toArray⟩) (by
  show s.toArray.size<=maxLen
  rw[aoz];exact hs)
 exact this
theorem cm (W:World) (g i:Nat) (v:Value):ag (·=g) W (W.setCell ⟨g,i,none⟩ v):=ag.setCell (S:=(·=g)) (p:=⟨g,i,none⟩) ay (fun _=>rfl) _
def jV (z:Value):List (List UInt8×Value)->List UInt8->Value
 | [],_=>z
 | p::r,s=>if p.1==s then p.2 else jV z r s
def sH:List (List UInt8×Value)->List UInt8->Value->List (List UInt8×Value)
 | [],s,v=>[(s,v)]
 | p::r,s,v=>if p.1==s then (s,v)::r else p::sH r s v
theorem yn (z:Value):(F:List (List UInt8×Value))->(s:List UInt8)->(v:Value)->(x:List UInt8)->jV z (sH F s v) x=if x=s then v else jV z F x
 | [],s,v,x=>by
   simp only[sH,jV,beq_iff_eq];by_cases h:x=s
   ·subst h;simp
   ·rw[if_neg h,if_neg (fun e=>h e.symm)]
 | p::r,s,v,x=>by
   simp only[sH];by_cases hp:p.1=s
   ·rw[if_pos (by simpa using hp)]
    simp only[jV,beq_iff_eq];by_cases h:x=s
    ·subst h;simp
    ·rw[if_neg h,if_neg (fun e=>h e.symm),if_neg (fun e=>h (e.symm.trans hp))]
   ·rw[if_neg (by simpa using hp)]
    simp only[jV,beq_iff_eq];by_cases h:p.1=x
    ·rw[if_pos h,if_pos h,if_neg]
     rintro rfl;exact hp h
    ·rw[if_neg h,if_neg h,yn z r s v x]
def NameMap (W:World) (aQ n:Nat) (z:Value) (F:List (List UInt8×Value)):Prop :=
 ∃D:DataW Value,W.ownsMap prog 9 BO aQ n D/\∀s:List UInt8,D.atKey (.string s) (.held z)=.held (jV z F s)
theorem NameMap.mods (h:NameMap W aQ n z F) (hm:ag S W W') (hn:¬S aQ):NameMap W' aQ n z F:=by
 obtain⟨D,⟨es,cl,h1,h2⟩,h3⟩:=h;exact⟨D,⟨es,cl,hm.Bu h1 hn,h2⟩,h3⟩
theorem NameMap.new (W:World) (z:Value):NameMap (W.alloc (.map #[] 0)) W.heap.size 0 z [] :=
 ⟨_,World.ownsMap_made _ _ _ _,fun s=>rfl⟩
theorem NameMap.look (h:NameMap W aQ n z F) (ht:prog.underlying t=some (.map 9 e)) (hz:(zeroValue e).run prog W=.ok z W) (s:List UInt8) (hs:s.length<=maxLen) :
 (Instr.lookup t (.map (some aQ)) (str s) false).run prog W=.ok (jV z F s) W:=by
 obtain⟨D,h1,h2⟩:=h;obtain⟨v,ps,hr,hv⟩:=h1.lookup strKeys ht hz (zd:=.held z) (zp:=[]) rfl (Cl hs);rw[h2 s]at hv;simp only[BO,anG,an8,DataW.held.injEq]at hv;rw[hr,hv.1]
theorem NameMap.put (h:NameMap W aQ n z F) (ht:prog.underlying t=some (.map 9 e)) (s:List UInt8) (hs:s.length<=maxLen) (v:Value) (hn:n<maxLen) :
 ∃w',(Instr.mapUpdate t (.map (some aQ)) (str s) v).run prog W=.ok () w'/\NameMap w' aQ (n+1) z (sH F s v)/\ag (·=aQ) W w':=by
 obtain⟨D,h1,h2⟩:=h;obtain⟨w',hr,ho,hg⟩:=h1.update strKeys ht hn (Cl hs) (d:=.held v) (ps:=[]) rfl;refine⟨w',hr,⟨_,ho,fun x=>?_⟩,ag.of_grownBy hg (fun k hk _=>by cases hk;rfl)⟩;rw[yn];by_cases hx:x=s
 ·subst hx
  rw[if_pos rfl,atKey_put_same (k:=.string x) h1.isMap (by trivial)]
 ·rw[if_neg hx,atKey_put_other (by simpa using hx),h2 x]
def rL:Value:=.agg #[.int .i64 0,.slice none 0 0]
def xP:Value:=.agg #[.string ⟨#[]⟩,.int .i64 0,.slice none 0 0,.slice none 0 0]
def iW (A:List (Nat×Nat)) (x:V) (v:Value):Prop :=
 (x.arr=none/\v=.agg #[x.n,.slice none 0 0])\/∃i g n,x.arr=some i/\A[i]?=some (g,n)/\v=.agg #[x.n,.slice (some ⟨g,0,none⟩) n n]
theorem iW.more {aK:List (Nat×Nat)} {x:V} (h:iW A x v) (hA:A <+: aK):iW aK x v:=by
 rcases h with h|⟨i,g,n,h1,h2,h3⟩
 ·exact Or.inl h
 ·refine Or.inr ⟨i,g,n,h1,?_,h3⟩
  obtain⟨t,rfl⟩:=hA;rw[anI (anA.1 h2).1];exact h2
def ij (W:World) (M:Nat->Prop) (v:Value) (l:List Int):Prop :=
 ∃a n c,v=.slice a n c/\n=l.length/\n<=c/\c<=maxLen/\(∀i x,l[i]?=some x->∃g o,a=some ⟨g,o,none⟩/\¬M g/\W.cell? ⟨g,o+i,none⟩=some (.int .i64 x))
theorem ij.mods {l:List Int} (h:ij W S v l) (hm:ag S W W') (hT:∀k,k<W.heap.size->T k->S k):ij W' T v l:=by
 obtain⟨a,n,c,h1,h2,h3,h4,h5⟩:=h;refine⟨a,n,c,h1,h2,h3,h4,fun i x hx=>?_⟩;obtain⟨g,o,e1,e2,e3⟩:=h5 i x hx;exact⟨g,o,e1,fun ht=>e2 (hT g (World.block_lt_of_cell? W _ e3) ht),hm.cellOf e3 e2⟩
structure bt (W:World) (b ak:Nat) (L:List ar) (P M:Nat->Prop) (A:List (Nat×Nat)) (s:aC):Prop where
 blk:∃iv ov,aw W b [.map (some ak),iv,s.fuel,s.calls,ov] 62/\ij W (fun k=>¬P k) iv s.inp/\W.ownsRow 0 2 1 ov s.out.length (s.out.map (.int .i64))/\(∀k,ov.ownBlock=some k->M k/\k≠b/\∀g n,(g,n)∈A->g≠k)
 has:M b
 fns:P ak/\∃n F,NameMap W ak n xP F/\∀f x,oh L f=some x->jc W (fun k=>¬P k) x (jV xP F f)
 bS:A.length=s.bS.length
 arr:∀ (i:Nat) (l:List Int),s.bS[i]?=some l->∃g,A[i]?=some (g,l.length)/\aw W g (l.map (.int .i64)) 2/\l.length<=40
 mine:∀g n,(g,n)∈A->M g/\g≠b
 apart:A.Pairwise (fun x y=>x.1≠y.1)
 old:∀k,M k->k<W.heap.size
 off:∀k,M k->¬P k
 given:∀k,P k->k<W.heap.size
 few:s.out.length<=200
 calls:s.calls<=40
 fuel:s.fuel<=4000000000000000000
structure Ext (T M M':Nat->Prop) (W W':World):Prop where
 mods:ag (fun k=>T k\/M k) W W'
 back:∀k,k<W.heap.size->M' k->M k
theorem Ext.refl (T M:Nat->Prop) (W:World):Ext T M M W W:=⟨ag.refl _ _,fun _ _ h=>h⟩
theorem Ext.trans {vr:Nat->Prop} {vA:World} (h:Ext T M M' W W') (k:Ext T M' vr W' vA):Ext T M vr W vA :=
 ⟨h.mods.trans' k.mods (fun i hi hl=>hi.imp id (h.back i hl)),fun i hi hm=>h.back i hi (k.back i (anE hi h.mods.size) hm)⟩
theorem Ext.more {T':Nat->Prop} (h:Ext T M M' W W') (hT:∀k,k<W.heap.size->T k->T' k):Ext T' M M' W W':=⟨h.mods.mono (fun k hk ht=>ht.imp (hT k hk) id),h.back⟩
theorem Ext.aside (hm:ag S W W') (hS:∀k,k<W.heap.size->S k->T k):Ext T M M W W':=⟨hm.mono fun k hk hs=>Or.inl (hS k hk hs),fun _ _ h=>h⟩
theorem Ext.quiet (h:ag ai W W'):Ext T M M W W':=Ext.aside h (fun _ _ f=>f.elim)
theorem bt.aside (h:bt W b ak L P M A s) (hm:ag S W W') (hS:∀k,S k->¬M k/\¬P k):bt W' b ak L P M A s:=by
 have fT:ag (fun k=>¬P k) W W':=hm.mono fun k _ f=>(hS k f).2
 obtain⟨⟨iv,ov,h1,h2,h3,h4⟩,h5,⟨h7,n,F,h6,h8⟩,dJ,h10,h11,fM,nM,j2,pz,r_,nd,td⟩:=h
 exact⟨⟨iv,ov,h1.mods hm (fun f=>(hS _ f).1 h5),h2.mods fT (fun _ _ k=>k),hm.ownsRow h3 (fun k hk f=>(hS _ f).1 (h4 k hk).1),h4⟩,h5,⟨h7,n,F,h6.mods hm (fun f=>(hS _ f).2 h7),fun f x hx=>(h8 f x hx).mods fT (fun _ _ k=>k)⟩,dJ,
  fun i l hl=>by obtain⟨g,e1,e2,e3⟩:=h10 i l hl;exact⟨g,e1,e2.mods hm (fun f=>(hS _ f).1 (h11 g _ (anF e1)).1),e3⟩,h11,fM,fun k hk=>anE (nM k hk) hm.size,j2,fun k hk=>anE (pz k hk) hm.size,r_,nd,td⟩
theorem bt.quiet (h:bt W b ak L P M A s) (hm:ag ai W W'):bt W' b ak L P M A s:=h.aside hm (fun _ f=>f.elim)
def kH (w:Int):Value:=.iface 64 (.agg #[w])
def AD:cz->Value
 | .stop w=>kH w
 | .ret _=>.nilIface
def Old:Type:={ l:List PanicEntry // ∀x∈l,x.goexit=false }
def Old.nil:Old:=⟨[],fun _ h=>(by cases h)⟩
def x_ (g:cz) (e:Ending):Prop:=∃aV:Old,e=.panicked ({ v:=AD g,recovered:=false }::aV.1)
theorem bt.own {s':aC} (h:bt W b ak L P M A s) (hm:ag (·=b) W W') (ho:s'.out=s.out) (ha:s'.bS=s.bS) (hc:s'.calls<=40) (hf:s'.fuel<=4000000000000000000)
 (hb:∀iv ov,aw W b [.map (some ak),iv,s.fuel,s.calls,ov] 62->ij W (fun k=>¬P k) iv s.inp->∃wm,aw W' b [.map (some ak),wm,s'.fuel,s'.calls,ov] 62/\ij W (fun k=>¬P k) wm s'.inp):bt W' b ak L P M A s':=by
 obtain⟨⟨iv,ov,h1,h2,h3,h4⟩,h5,⟨h7,n,F,h6,h8⟩,dJ,h10,h11,fM,nM,j2,pz,r_,nd,td⟩:=h;have fT:ag (fun k=>¬P k) W W':=hm.mono fun k _ hk=>by rw[hk];exact j2 b h5
 obtain⟨wm,k1,k2⟩:=hb iv ov h1 h2;refine⟨⟨wm,ov,k1,k2.mods fT (fun _ _ k=>k),?_,h4⟩,h5,⟨h7,n,F,h6.mods hm (fun e=>j2 b h5 (e ▸ h7)),fun f x hx=>(h8 f x hx).mods fT (fun _ _ k=>k)⟩,by rw[ha];exact dJ,?_,h11,fM,fun k hk=>anE (nM k hk) hm.size,j2,fun k hk=>anE (pz k hk) hm.size,by rw[ho];exact r_,hc,hf⟩
 ·rw[ho]
  exact hm.ownsRow h3 (fun k hk=>(h4 k hk).2.1)
 ·intro i l hl
  rw[ha]at hl;obtain⟨g,e1,e2,e3⟩:=h10 i l hl;exact⟨g,e1,e2.mods hm (fun e=>(h11 g _ (anF e1)).2 e),e3⟩
theorem bt.Pz (h:bt W b ak L P M A s) (k:Nat) (hk:k<=4000000000000000000):bt (W.setCell ⟨b,2,none⟩ (.int .i64 k)) b ak L P M A { s with fuel:=k } :=
 h.own (cm _ _ _ _) rfl rfl h.calls hk (fun iv ov h1 h2=>⟨iv,h1.set 2 _,h2⟩)
theorem bt.Cz (h:bt W b ak L P M A s) (k:Nat) (hk:k<=40):bt (W.setCell ⟨b,3,none⟩ (.int .i64 k)) b ak L P M A { s with calls:=k } :=
 h.own (cm _ _ _ _) rfl rfl hk h.fuel (fun iv ov h1 h2=>⟨iv,h1.set 3 _,h2⟩)
theorem bt.ext (h:bt W b ak L P M A s) (T:Nat->Prop) (i:Nat) (v:Value):Ext T M M W (W.setCell ⟨b,i,none⟩ v) :=
 ⟨(cm _ _ _ _).mono (fun k _ hk=>Or.inr (by rw[hk];exact h.has)),fun _ _ k=>k⟩
def dP {α:Type} (W:World) (b ak:Nat) (L:List ar) (P T M:Nat->Prop) (A:List (Nat×Nat)) (ok:α->(Nat->Prop)->List (Nat×Nat)->Ending->World->Prop):Except cz α×aC->Ending->World->Prop
 | (.error g,s)=>fun e w=>x_ g e/\∃M' aK,bt w b ak L P M' aK s/\Ext T M M' W w/\A <+: aK
 | (.ok x,s)=>fun e w=>∃M' aK,ok x M' aK e w/\bt w b ak L P M' aK s/\Ext T M M' W w/\A <+: aK
def Ed:Int->(Nat->Prop)->List (Nat×Nat)->Ending->World->Prop:=fun n _ _ e _=>e=.returned (.int .i64 n)

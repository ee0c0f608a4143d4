/- A part of what stands behind. -/
import Derived.Test.YtnicpmoanjddbaaGreatDoorFp06
import Derived.Laws.AppendOwn
set_option maxRecDepth 100000
set_option maxHeartbeats 4000000
set_option linter.all false
namespace Go.Proofs.YtnicpmoanjddbaaGreatDoor
namespace aW
open Go.RowKit bB Go.Maps aB Go.Proofs.Tryz
variable {W W0 wd W1:World} {P M cw b_ S P' M':Nat->Prop} {b ak n size i B:Nat} {nm:List UInt8} {pr:Int} {w w':Lw} {v:Value} {cs vs:List Value} {e x r:aL} {l t:List St} {ok:Ending->Prop}
structure bU (W0:World) (cw b_:Nat->Prop) (b ak:Nat) (nm:List UInt8) (pr:Int) (W:World) (P M:Nat->Prop) (w:Lw):Prop where
 iG:fx W b ak P M nm pr w
 ext:Ext ai b_ M W0 W
 up:∀k,cw k->P k
 back:∀k,k<W0.heap.size->P k->cw k
 sF:∀k,b_ k->¬cw k
theorem bU.begin (h:fx W b ak P M nm pr w):bU W P M b ak nm pr W P M w:=⟨h,Ext.refl _ _ _,fun _ k=>k,fun _ _ k=>k,h.off⟩
theorem bU.after {e:Ending} (h:bU W0 cw b_ b ak nm pr W P M w) (k:oJ W b ak P M nm pr w' ok e wd):∃P' M',ok e/\bU W0 cw b_ b ak nm pr wd P' M' w':=by
 obtain⟨P',M',g1,g2,g3,g4,g5⟩:=k;exact⟨P',M',g1,g2,h.ext.trans g3,fun k hk=>g4 k (h.up k hk),fun k hk hp=>h.back k hk (g5 k (anE hk h.ext.mods.size) hp),h.sF⟩
theorem bU.quiet (h:bU W0 cw b_ b ak nm pr W P M w) (hm:ag ai W wd):bU W0 cw b_ b ak nm pr wd P M w :=
 ⟨h.iG.quiet hm,h.ext.trans (Ext.quiet hm),h.up,h.back,h.sF⟩
theorem bU.go {e:Ending} (h:bU W0 cw b_ b ak nm pr W P M w) (aZ:ok e):oJ W0 b ak cw b_ nm pr w ok e W:=⟨P,M,aZ,h.iG,h.ext,h.up,h.back⟩
theorem bU.node (h:bU W0 cw b_ b ak nm pr W P M w) {g:Nat} {t:TypeId} (hb:aw W0 g cs t) (hn:cw g):aw W g cs t :=
 hb.mods h.ext.mods (fun e=>e.elim id (fun hm=>h.sF g hm hn))
theorem bU.ex (h:bU W0 cw b_ b ak nm pr W P M w) (he:aX W0 (fun k=>¬cw k) e v):aX W (fun k=>¬P k) e v :=
 aX.b8 (h.ext.mods.mono fun k _ hk=>hk.elim (fun f=>f.elim) (h.sF k)) (fun k _ hk hp=>hk (h.up k hp)) e v he
theorem bU.exs (h:bU W0 cw b_ b ak nm pr W P M w) {l:List aL} (he:eB W0 (fun k=>¬cw k) l vs):eB W (fun k=>¬P k) l vs :=
 eB.b8 (h.ext.mods.mono fun k _ hk=>hk.elim (fun f=>f.elim) (h.sF k)) (fun k _ hk hp=>hk (h.up k hp)) l vs he
theorem bU.row (h:bU W0 cw b_ b ak nm pr W P M w) {e:TypeId} {x:Value} (he:fL W0 (fun k=>¬cw k) e size x n vs):fL W (fun k=>¬P k) e size x n vs :=
 he.mods (h.ext.mods.mono fun k _ hk=>hk.elim (fun f=>f.elim) (h.sF k)) (fun k _ hk hp=>hk (h.up k hp))
theorem _root_.Go.Proofs.YtnicpmoanjddbaaGreatDoor.aB.Node.pt (h:aB.Node W (fun k=>¬P k) v cs):∃g,v=.pointer (some ⟨g,0,none⟩)/\P g/\aw W g cs 223:=by
 obtain⟨g,h1,h2,h3⟩:=h;exact⟨g,h1,Classical.byContradiction h2,h3⟩
def lr (e:aL):Prop:=∀ (v:Value) (b ak:Nat) (P M:Nat->Prop) (nm:List UInt8) (pr:Int) (w:Lw) (W:World),fx W b ak P M nm pr w->aX W (fun k=>¬P k) e v->gl e->w.sz+8*bK e<=900000 ->
 Calls prog 95 #[.pointer (some ⟨b,0,none⟩),v] W (oJ W b ak P M nm pr (au e w).2 (fun en=>en=.returned (.int .i64 (au e w).1)))
theorem OX (a b:List UInt8):((⟨a.toArray⟩:ByteArray)==⟨b.toArray⟩)=(a==b):=by
 show (a.toArray==b.toArray)=(a==b)
 by_cases h:a=b
 ·subst h;simp
 ·rw[show (a==b)=false by simpa using h]
  simpa using h
theorem xN (w:Lw):w.types.length<=w.sz:=by unfold Lw.sz;omega
theorem y7 (w:Lw):w.steps.length<=w.sz:=by unfold Lw.sz;omega
theorem ajZ (w:Lw):w.labels<=w.sz:=by unfold Lw.sz;omega
theorem Xl (w:Lw):w.names.length<=w.sz:=by unfold Lw.sz;omega
theorem af3 (a n:Int):lr (.num a n):=by
 intro v b ak P M nm pr w W h he hN hs;simp only[aX]at he;obtain⟨g,rfl,hg,hb⟩:=he.pt;have c0:=hb.ah 0;have c2:=hb.ah 2;have gS:=hb.lt;have HS:=af (bU.begin h);have bF:Hid (w.types.length<1000000/\w.steps.length<1000000):=af ⟨by have:=xN w;omega,by have:=y7 w;omega⟩;clear h he hN hs hb;go_in;go_wp2_with fail;refine (AI HS.iG 1 { aM with code:=1,n:=n } _ (dF.bare _ rfl) bF.1 bF.2).mono ?_;intro e w2 hk;obtain⟨fD,M2,rfl,hs2⟩:=HS.after hk;have fu:=af hs2;clear hs2 hk;go_wp2_with fail;go_ret;exact fu.go rfl
theorem afZ (a:Int):lr (.input a):=by
 intro v b ak P M nm pr w W h he hN hs;simp only[aX]at he;obtain⟨g,rfl,hg,hb⟩:=he.pt;have c0:=hb.ah 0;have gS:=hb.lt;have HS:=af (bU.begin h);have bF:Hid (w.types.length<1000000/\w.steps.length<1000000):=af ⟨by have:=xN w;omega,by have:=y7 w;omega⟩;clear h he hN hs hb;go_in;go_wp2_with fail;refine (AI HS.iG 1 { aM with code:=14 } _ (dF.bare _ rfl) bF.1 bF.2).mono ?_;intro e w2 hk;obtain⟨fD,M2,rfl,hs2⟩:=HS.after hk;have fu:=af hs2;clear hs2 hk;go_wp2_with fail;go_ret;exact fu.go rfl
theorem af2 (ih:lr x) (a:Int):lr (.new a x):=by
 intro v b ak P M nm pr w W h he hN hs;simp only[aX]at he;obtain⟨bq,he,hx⟩:=he;obtain⟨g,rfl,hg,hb⟩:=he.pt;obtain⟨gx,rfl⟩:=hx.ptr;have c0:=hb.ah 0;have c5:=hb.ah 5;have gS:=hb.lt;have HS:=af (bU.begin h);have aj:=af hx;simp only[gl,bK]at hN hs;have bF:=af (anw hN hs);clear h he hN hs hb hx;go_in;go_wp2_with fail;refine (ih _ b ak P M nm pr w W HS.iG aj bF.1 (by have:=bF.2;omega)).mono ?_;intro e w2 hk;obtain⟨fD,M2,rfl,hs2⟩:=HS.after hk;have fu:=af hs2;have sX:Hid ((au x w).2.types.length<1000000/\(au x w).2.steps.length<1000000):=af (by have h1:=gZ x w;have h2:=bF.2;exact⟨by have:=xN (au x w).2;omega,by have:=y7 (au x w).2;omega⟩);clear hs2 hk;go_wp2_with fail;refine (AI fu.iG 2 { aM with code:=9,a:=(au x w).1 } _ (dF.bare _ rfl) sX.1 sX.2).mono ?_;intro e w3 hk;obtain⟨vx,lC,rfl,hs3⟩:=fu.after hk;have j8:=af hs3;clear hs3 hk;go_wp2_with fail;go_ret;exact j8.go rfl
theorem af1 (ih:lr x) (a:Int):lr (.len a x):=by
 intro v b ak P M nm pr w W h he hN hs;simp only[aX]at he;obtain⟨bq,he,hx⟩:=he;obtain⟨g,rfl,hg,hb⟩:=he.pt;obtain⟨gx,rfl⟩:=hx.ptr;have c0:=hb.ah 0;have c5:=hb.ah 5;have gS:=hb.lt;have HS:=af (bU.begin h);have aj:=af hx;simp only[gl,bK]at hN hs;have bF:=af (anw hN hs);clear h he hN hs hb hx;go_in;go_wp2_with fail;refine (ih _ b ak P M nm pr w W HS.iG aj bF.1 (by have:=bF.2;omega)).mono ?_;intro e w2 hk;obtain⟨fD,M2,rfl,hs2⟩:=HS.after hk;have fu:=af hs2;have sX:Hid ((au x w).2.types.length<1000000/\(au x w).2.steps.length<1000000):=af (by have h1:=gZ x w;have h2:=bF.2;exact⟨by have:=xN (au x w).2;omega,by have:=y7 (au x w).2;omega⟩);clear hs2 hk;go_wp2_with fail;refine (AI fu.iG 1 { aM with code:=10,a:=(au x w).1 } _ (dF.bare _ rfl) sX.1 sX.2).mono ?_;intro e w3 hk;obtain⟨vx,lC,rfl,hs3⟩:=fu.after hk;have j8:=af hs3;clear hs3 hk;go_wp2_with fail;go_ret;exact j8.go rfl
theorem VK (w:World):(zeroValue 3).run prog w=.ok (.int .i64 0) w:=by kernel_rfl
theorem af0 {i:aL} (ih:lr x) (np:lr i) (a:Int):lr (.item a x i):=by
 intro v b ak P M nm pr w W h he hN hs;simp only[aX]at he;obtain⟨bq,iv,he,hx,hi⟩:=he;obtain⟨g,rfl,hg,hb⟩:=he.pt;obtain⟨gx,rfl⟩:=hx.ptr;obtain⟨nc,rfl⟩:=hi.ptr;have c0:=hb.ah 0;have c5:=hb.ah 5;have gS:=hb.lt;have HS:=af (bU.begin h);have aA:=af (anw hb hg);have aj:=af (anw hx hi);simp only[gl,bK]at hN hs;have bF:=af (anw hN hs);clear h he hN hs hb hx hi hg;go_in;go_wp2_with fail;refine (ih _ b ak P M nm pr w W HS.iG aj.1 bF.1.1 (by have:=bF.2;omega)).mono ?_;intro e w2 hk;obtain⟨fD,M2,rfl,hs2⟩:=HS.after hk;have hb2:=hs2.node aA.1 aA.2;have c6:=hb2.ah 6;have adO:=hb2.lt;have fu:=af hs2;have bh:=af (hs2.ex aj.2);have sX:Hid ((au x w).2.sz+8*bK i<=900000):=af (by have h1:=gZ x w;have h2:=bF.2;omega);clear hs2 hk hb2;go_wp2_with fail;refine (np _ b ak fD M2 nm pr (au x w).2 w2 fu.iG bh bF.1.2 sX).mono ?_;intro e w3 hk;obtain⟨vx,lC,rfl,hs3⟩:=fu.after hk;have j8:=af hs3;have E4:Hid ((au i (au x w).2).2.types.length<1000000/\(au i (au x w).2).2.steps.length<1000000):=af (by have h1:=gZ i (au x w).2;have h2:=sX.out;exact⟨by have:=xN (au i (au x w).2).2;omega,by have:=y7 (au i (au x w).2).2;omega⟩);clear hs3 hk;go_wp2_with fail;refine (AI j8.iG 1 { aM with code:=11,a:=(au x w).1,b:=(au i (au x w).2).1 } _ (dF.bare _ rfl) E4.1 E4.2).mono ?_;intro e w4 hk;obtain⟨pX,rY,rfl,Ah⟩:=j8.after hk;have iU:=af Ah;clear Ah hk;go_wp2_with fail;go_ret;exact iU.go rfl
theorem af5 (a:Int) (x:List UInt8):lr (.var a x):=by
 intro v b ak P M nm pr w W h he hN hs;simp only[aX]at he;obtain⟨g,rfl,hg,hb⟩:=he.pt;obtain⟨tv,sv,cs,gy,-⟩:=h.blk;have c0:=hb.ah 0;have c3:=hb.ah 3;have gS:=hb.lt;have b4:=gy.ah 4;have hbl:=gy.lt;simp only[gl,mJ]at hN;obtain⟨n,F,g1,g2,g3⟩:=h.names;have hlk:=(g1.mods (ag.refl ai W).drew id).look underlying87 (VK _) x (by unfold maxLen;omega);rw[g3]at hlk;have HS:=af (bU.begin h);have az:=af ((ag.refl ai W).drew);unfold aW.str at hlk;unfold aB.str at c3;clear h he hN hs hb gy g1 g2 g3;go_in;go_wp2_with fail;go_region
 all_goals
  go_wp2_with fail;go_ret;exact (HS.quiet az).go rfl
theorem af4 (ih:lr x) (a:Int) (op:List UInt8):lr (.un a op x):=by
 intro v b ak P M nm pr w W h he hN hs;simp only[aX]at he;obtain⟨bq,he,hx⟩:=he;obtain⟨g,rfl,hg,hb⟩:=he.pt;obtain⟨gx,rfl⟩:=hx.ptr;have c0:=hb.ah 0;have c5:=hb.ah 5;have gS:=hb.lt;have HS:=af (bU.begin h);have aA:=af (anw hb hg);have aj:=af hx;simp only[gl,bK]at hN hs;have bF:=af (anw hN hs);clear h he hN hs hb hx hg;go_in;go_wp2_with fail;refine (ih _ b ak P M nm pr w W HS.iG aj bF.1.2 (by have:=bF.2;omega)).mono ?_;intro e w2 hk;obtain⟨fD,M2,rfl,hs2⟩:=HS.after hk;have hb2:=hs2.node aA.1 aA.2;have d4:=hb2.ah 4;have adO:=hb2.lt;obtain⟨tv,sv,cs,gy,-⟩:=hs2.iG.blk;have RP:=gy.ah 6;have hbl:=gy.lt;have fu:=af hs2;have sX:Hid ((au x w).2.types.length<1000000/\(au x w).2.steps.length<1000000):=af (by have h1:=gZ x w;have h2:=bF.2;exact⟨by have:=xN (au x w).2;omega,by have:=y7 (au x w).2;omega⟩);clear hs2 hk hb2 gy;unfold aB.str at d4;by_cases hop:op=[33]
 ·subst hop
  have e2:((⟨#[33]⟩:ByteArray)==⟨#[33]⟩)=true:=rfl;go_wp2_with fail;refine (XL fu.iG (au x w).1 sX.1 sX.2).mono ?_;intro e w3 hk;obtain⟨vx,lC,rfl,hs3⟩:=fu.after hk;have j8:=af hs3;clear hs3 hk;go_wp2_with fail;go_ret;have:=j8.go (ok:=fun en=>en=.returned (.int .i64 (au (.un a [33] x) w).1)) (e:=.returned (.int .i64 (au (.un a [33] x) w).1)) rfl;simp only[au,if_true]at this ⊢;exact this
 ·have e2:((⟨op.toArray⟩:ByteArray)==⟨#[33]⟩)=false:=by
   rw[show (⟨#[33]⟩:ByteArray)=⟨([33]:List UInt8).toArray⟩ from rfl,OX];simpa using hop
  have e3:(op==[33])=false:=by simpa using hop
  have HM:=af hop;clear hop;go_wp2_with fail;refine (AI fu.iG 1 { aM with code:=3,op:=[45],a:=(au x w).2.none,b:=(au x w).1 } _ (dF.bare _ rfl) sX.1 sX.2).mono ?_;intro e w3 hk;obtain⟨vx,lC,rfl,hs3⟩:=fu.after hk;have j8:=af hs3;clear hs3 hk;go_wp2_with fail;go_ret;rw[show au (.un a op x) w=bC 1 { aM with code:=3,op:=[45],a:=(au x w).2.none,b:=(au x w).1 } (au x w).2 by simp only[au,if_neg HM.out]];exact j8.go rfl
theorem bU.cells (h:bU W0 cw b_ b ak nm pr W P M w):W.cell? ⟨b,4,none⟩=some (.map (some ak))/\W.cell? ⟨b,5,none⟩=some (.int .i64 (w.labels:Int))/\W.cell? ⟨b,6,none⟩=some (.int .i64 w.none)/\b<W.heap.size:=by
 obtain⟨tv,sv,cs,gy,-⟩:=h.iG.blk;exact⟨gy.ah 4,gy.ah 5,gy.ah 6,gy.lt⟩
theorem bU.expr {n:Int} (ih:lr e) (h:bU W0 cw b_ b ak nm pr W P M w) (he:aX W0 (fun k=>¬cw k) e v) (hN:gl e) (hz:w.sz+8*bK e<=900000) (hr:au e w=(n,w')) :
 Calls prog 95 #[.pointer (some ⟨b,0,none⟩),v] W fun en wd=>∃P' M',en=.returned (.int .i64 n)/\bU W0 cw b_ b ak nm pr wd P' M' w':=by
 refine (ih v b ak P M nm pr w W h.iG (h.ex he) hN hz).mono ?_;rw[hr];exact fun e wd k=>h.after k
theorem bU.to {n:Int} (h:bU W0 cw b_ b ak nm pr W P M w) (k:Int) (s:ax) (hv:dF W (fun k=>¬P k) s v) (hz:w.sz<1000000) (hr:bC k s w=(n,w')) :
 Calls prog 33 #[.pointer (some ⟨b,0,none⟩),k,v] W fun en wd=>∃P' M',en=.returned (.int .i64 n)/\bU W0 cw b_ b ak nm pr wd P' M' w':=by
 refine (AI h.iG k s v hv (by have:=xN w;omega) (by have:=y7 w;omega)).mono ?_;have hn:n=(w.types.length:Int):=by rw[show n=(bC k s w).1 by rw[hr]];rfl
 rw[hr,hn];exact fun e wd k=>h.after k
theorem bU.add (h:bU W0 cw b_ b ak nm pr W P M w) (s:ax) (hv:dF W (fun k=>¬P k) s v) (hz:w.sz<1000000) (hr:a8 s w=w') :
 Calls prog 35 #[.pointer (some ⟨b,0,none⟩),v] W fun en wd=>∃P' M',en=.returned (.tuple #[])/\bU W0 cw b_ b ak nm pr wd P' M' w':=by
 refine (Fg h.iG s v hv (by have:=y7 w;omega)).mono ?_;rw[hr];exact fun e wd k=>h.after k
theorem bU.zero {n:Int} (h:bU W0 cw b_ b ak nm pr W P M w) (a:Int) (hz:w.sz<1000000) (hr:lR a w=(n,w')) :
 Calls prog 116 #[.pointer (some ⟨b,0,none⟩),a] W fun en wd=>∃P' M',en=.returned (.int .i64 n)/\bU W0 cw b_ b ak nm pr wd P' M' w':=by
 refine (XL h.iG a (by have:=xN w;omega) (by have:=y7 w;omega)).mono ?_;rw[hr];exact fun e wd k=>h.after k
theorem bU.label (h:bU W0 cw b_ b ak nm pr W P M w) (hz:w.sz<1000000) (hr:b7 w=(n,w')) :
 Calls prog 97 #[.pointer (some ⟨b,0,none⟩)] W fun en wd=>∃P' M',en=.returned (.int .i64 (n:Int))/\bU W0 cw b_ b ak nm pr wd P' M' w':=by
 refine (afn h.iG (by have:=ajZ w;omega)).mono ?_;rw[hr];exact fun e wd k=>h.after k
theorem aiQ {l:aL} (ih:lr l) (np:lr r) (a:Int) (v:Value) (b ak:Nat) (P M:Nat->Prop) (nm:List UInt8) (pr:Int) (w:Lw) (W:World) (h:fx W b ak P M nm pr w) (he:aX W (fun k=>¬P k) (.bin a [124,124] l r) v) (hN:gl (.bin a [124,124] l r)) (hs:w.sz+8*bK (.bin a [124,124] l r)<=900000) :
 Calls prog 117 #[.pointer (some ⟨b,0,none⟩),v] W (oJ W b ak P M nm pr (au (.bin a [124,124] l r) w).2 (fun en=>en=.returned (.int .i64 (au (.bin a [124,124] l r) w).1))):=by
 obtain⟨bf,w1,h1⟩:∃x y,b7 w=(x,y):=⟨_,_,rfl⟩;obtain⟨c1,c2,h2⟩:∃x y,au l w1=(x,y):=⟨_,_,rfl⟩;obtain⟨t1,t2,h3⟩:∃x y,bC 1 { aM with code:=3,op:=[33,61],a:=c1,b:=c2.none } c2=(x,y):=⟨_,_,rfl⟩;obtain⟨cS,z2,h4⟩:∃x y,lR t1 t2=(x,y):=⟨_,_,rfl⟩;obtain⟨aJ,h5⟩:=ae (a8 { aM with code:=5,a:=cS,label:=(bf:Int) } z2);obtain⟨r1,r2,h6⟩:∃x y,au r aJ=(x,y):=⟨_,_,rfl⟩;obtain⟨a7,h7⟩:=ae (a8 { aM with code:=3,op:=[33,61],dst:=t1,a:=r1,b:=r2.none } r2);obtain⟨fg,h8⟩:=ae (a8 { aM with code:=6,label:=(bf:Int) } a7);have hall:au (.bin a [124,124] l r) w=(t1,fg):=by
  simp only[au,iz,h1,h2,h3,h4,h5,h6,h7,h8];simp only[h4,h5,h6,h7,h8,if_true,or_true]
 rw[hall];clear hall;have oA:=wy w;have fP:=gZ l w1;have oB:=sJ 1 { aM with code:=3,op:=[33,61],a:=c1,b:=c2.none } c2;have rH:=KQ t1 t2;have rI:=k8 { aM with code:=5,a:=cS,label:=(bf:Int) } z2;have oC:=gZ r aJ;have rK:=k8 { aM with code:=3,op:=[33,61],dst:=t1,a:=r1,b:=r2.none } r2;rw[h1]at oA;rw[h2]at fP;rw[h3]at oB;rw[h4]at rH;rw[h5]at rI;rw[h6]at oC;rw[h7]at rK;simp only[gl,bK]at hN hs;simp only at oA fP oB rH rI oC rK;have bF:Hid ((w.sz<1000000/\w1.sz+8*bK l<=900000)/\(c2.sz<1000000/\t2.sz<1000000/\z2.sz<1000000)/\aJ.sz+8*bK r<=900000/\r2.sz<1000000/\a7.sz<1000000):=af (by refine⟨⟨?_,?_⟩,⟨?_,?_,?_⟩,?_,?_,?_⟩ <;> omega);have aT:=af hN.2;simp only[aX]at he;obtain⟨bq,iv,he,hx,hi⟩:=he;obtain⟨g,rfl,hg,hb⟩:=he.pt;obtain⟨gx,rfl⟩:=hx.ptr;obtain⟨nc,rfl⟩:=hi.ptr;have c5:W.drew.cell? ⟨g,5,none⟩=some (.pointer (some ⟨gx,0,none⟩)):=hb.ah 5;have gS:=hb.lt;have HS:=af ((bU.begin h).quiet (ag.refl ai W).drew);have aA:=af (anw hb hg);have aj:=af (anw hx hi);have dn:=af (anw h1 (anw h2 (anw h3 (anw h4 (anw h5 (anw h6 (anw h7 h8)))))));clear h he hN hs hb hx hi hg oA fP oB rH rI oC rK h1 h2 h3 h4 h5 h6 h7 h8;go_in;go_wp2_with fail
 go_region_held3 (fun w'=>w'.cell? ⟨g,5,none⟩=some (.pointer (some ⟨gx,0,none⟩)))
  (first|exact c5|assumption)
  ((first
    | (go_at_call 97;refine (HS.label bF.1.1 dn.1).mono ?_;rintro e w2 ⟨fD,M2,rfl,hs⟩;have aam:=(hs.node aA.1 aA.2).ah 5;have fu:=af hs;clear hs)
    | (go_at_call 95;refine (bU.expr ih fu aj.1 aT.1 bF.1.2 dn.2.1).mono ?_;rintro e w3 ⟨vx,lC,rfl,hs⟩;have c53:=(hs.node aA.1 aA.2).ah 5;have Fi:=hs.cells.2.2;have Z3:=hs.cells.2.2.2;have j8:=af hs;clear hs)))
 all_goals
  have XI:=Fi.1;clear Fi;go_wp2_with fail;refine (j8.to 1 { aM with code:=3,op:=[33,61],a:=c1,b:=c2.none } (dF.bare _ rfl) bF.2.1.1 dn.2.2.1).mono ?_;rintro e w4 ⟨pX,rY,rfl,hs⟩;have hb4:=hs.node aA.1 aA.2;have Fq:=hb4.ah 4;have Vp:=hb4.lt;unfold aB.str at Fq;have iU:=af hs;clear hs hb4;have e2:((⟨#[124,124]⟩:ByteArray)==⟨#[124,124]⟩)=true:=rfl;go_wp2_with fail;refine (iU.zero t1 bF.2.1.2.1 dn.2.2.2.1).mono ?_;rintro e ann ⟨E8,eH,rfl,hs⟩;have xY:=af hs;clear hs;go_wp2_with fail;refine (xY.add { aM with code:=5,a:=cS,label:=(bf:Int) } (dF.bare _ rfl) bF.2.1.2.2 dn.2.2.2.2.1).mono ?_;rintro e bw ⟨H3,CW,rfl,hs⟩;have dT:=hs.node aA.1 aA.2;have aan:=dT.ah 6;have Ar:=dT.lt;have qI:=af hs;clear hs dT;go_wp2_with fail;refine (bU.expr np qI aj.2 aT.2 bF.2.2.1 dn.2.2.2.2.2.1).mono ?_;rintro e akx ⟨H4,w6,rfl,hs⟩;have Z5:=hs.cells.2.2.1;have Z6:=hs.cells.2.2.2;have vh:=af hs;clear hs;go_wp2_with fail;refine (vh.add { aM with code:=3,op:=[33,61],dst:=t1,a:=r1,b:=r2.none } (dF.bare _ rfl) bF.2.2.2.1 dn.2.2.2.2.2.2.1).mono ?_;rintro e aky ⟨Rn,Rl,rfl,hs⟩;have EY:=af hs;clear hs;go_wp2_with fail;refine (EY.add { aM with code:=6,label:=(bf:Int) } (dF.bare _ rfl) bF.2.2.2.2 dn.2.2.2.2.2.2.2).mono ?_;rintro e akz ⟨ZB,Zu,rfl,hs⟩;have Lu:=af hs;clear hs;go_wp2_with fail;go_ret;exact Lu.go rfl
theorem aiM {l:aL} (ih:lr l) (np:lr r) (a:Int) (v:Value) (b ak:Nat) (P M:Nat->Prop) (nm:List UInt8) (pr:Int) (w:Lw) (W:World) (h:fx W b ak P M nm pr w) (he:aX W (fun k=>¬P k) (.bin a [38,38] l r) v) (hN:gl (.bin a [38,38] l r)) (hs:w.sz+8*bK (.bin a [38,38] l r)<=900000) :
 Calls prog 117 #[.pointer (some ⟨b,0,none⟩),v] W (oJ W b ak P M nm pr (au (.bin a [38,38] l r) w).2 (fun en=>en=.returned (.int .i64 (au (.bin a [38,38] l r) w).1))):=by
 obtain⟨bf,w1,h1⟩:∃x y,b7 w=(x,y):=⟨_,_,rfl⟩;obtain⟨c1,c2,h2⟩:∃x y,au l w1=(x,y):=⟨_,_,rfl⟩;obtain⟨t1,t2,h3⟩:∃x y,bC 1 { aM with code:=3,op:=[33,61],a:=c1,b:=c2.none } c2=(x,y):=⟨_,_,rfl⟩;obtain⟨cS,z2,h4⟩:∃x y,lR t1 t2=(x,y):=⟨_,_,rfl⟩;obtain⟨aJ,h5⟩:=ae (a8 { aM with code:=5,a:=t1,label:=(bf:Int) } t2);obtain⟨r1,r2,h6⟩:∃x y,au r aJ=(x,y):=⟨_,_,rfl⟩;obtain⟨a7,h7⟩:=ae (a8 { aM with code:=3,op:=[33,61],dst:=t1,a:=r1,b:=r2.none } r2);obtain⟨fg,h8⟩:=ae (a8 { aM with code:=6,label:=(bf:Int) } a7);have hall:au (.bin a [38,38] l r) w=(t1,fg):=by
  simp only[au,iz,h1,h2,h3,h4,h5,h6,h7,h8];simp[h5,h6,h7,h8]
 rw[hall];clear hall;have oA:=wy w;have fP:=gZ l w1;have oB:=sJ 1 { aM with code:=3,op:=[33,61],a:=c1,b:=c2.none } c2;have rH:=KQ t1 t2;have rI:=k8 { aM with code:=5,a:=t1,label:=(bf:Int) } t2;have oC:=gZ r aJ;have rK:=k8 { aM with code:=3,op:=[33,61],dst:=t1,a:=r1,b:=r2.none } r2;rw[h1]at oA;rw[h2]at fP;rw[h3]at oB;rw[h4]at rH;rw[h5]at rI;rw[h6]at oC;rw[h7]at rK;simp only[gl,bK]at hN hs;simp only at oA fP oB rH rI oC rK;have bF:Hid ((w.sz<1000000/\w1.sz+8*bK l<=900000)/\(c2.sz<1000000/\t2.sz<1000000/\z2.sz<1000000)/\aJ.sz+8*bK r<=900000/\r2.sz<1000000/\a7.sz<1000000):=af (by refine⟨⟨?_,?_⟩,⟨?_,?_,?_⟩,?_,?_,?_⟩ <;> omega);have aT:=af hN.2;simp only[aX]at he;obtain⟨bq,iv,he,hx,hi⟩:=he;obtain⟨g,rfl,hg,hb⟩:=he.pt;obtain⟨gx,rfl⟩:=hx.ptr;obtain⟨nc,rfl⟩:=hi.ptr;have c5:W.drew.cell? ⟨g,5,none⟩=some (.pointer (some ⟨gx,0,none⟩)):=hb.ah 5;have gS:=hb.lt;have HS:=af ((bU.begin h).quiet (ag.refl ai W).drew);have aA:=af (anw hb hg);have aj:=af (anw hx hi);have dn:=af (anw h1 (anw h2 (anw h3 (anw h4 (anw h5 (anw h6 (anw h7 h8)))))));clear h he hN hs hb hx hi hg oA fP oB rH rI oC rK h1 h2 h3 h4 h5 h6 h7 h8;go_in;go_wp2_with fail
 go_region_held3 (fun w'=>w'.cell? ⟨g,5,none⟩=some (.pointer (some ⟨gx,0,none⟩)))
  (first|exact c5|assumption)
  ((first
    | (go_at_call 97;refine (HS.label bF.1.1 dn.1).mono ?_;rintro e w2 ⟨fD,M2,rfl,hs⟩;have aam:=(hs.node aA.1 aA.2).ah 5;have fu:=af hs;clear hs)
    | (go_at_call 95;refine (bU.expr ih fu aj.1 aT.1 bF.1.2 dn.2.1).mono ?_;rintro e w3 ⟨vx,lC,rfl,hs⟩;have c53:=(hs.node aA.1 aA.2).ah 5;have Fi:=hs.cells.2.2;have Z3:=hs.cells.2.2.2;have j8:=af hs;clear hs)))
 all_goals
  have XI:=Fi.1;clear Fi;go_wp2_with fail;refine (j8.to 1 { aM with code:=3,op:=[33,61],a:=c1,b:=c2.none } (dF.bare _ rfl) bF.2.1.1 dn.2.2.1).mono ?_;rintro e w4 ⟨pX,rY,rfl,hs⟩;have hb4:=hs.node aA.1 aA.2;have Fq:=hb4.ah 4;have Vp:=hb4.lt;unfold aB.str at Fq;have iU:=af hs;clear hs hb4;have e2:((⟨#[38,38]⟩:ByteArray)==⟨#[124,124]⟩)=false:=rfl;go_wp2_with fail;have xY:=iU;refine (xY.add { aM with code:=5,a:=t1,label:=(bf:Int) } (dF.bare _ rfl) bF.2.1.2.1 dn.2.2.2.2.1).mono ?_;rintro e bw ⟨H3,CW,rfl,hs⟩;have dT:=hs.node aA.1 aA.2;have aan:=dT.ah 6;have Ar:=dT.lt;have qI:=af hs;clear hs dT;go_wp2_with fail;refine (bU.expr np qI aj.2 aT.2 bF.2.2.1 dn.2.2.2.2.2.1).mono ?_;rintro e akx ⟨H4,w6,rfl,hs⟩;have Z5:=hs.cells.2.2.1;have Z6:=hs.cells.2.2.2;have vh:=af hs;clear hs;go_wp2_with fail;refine (vh.add { aM with code:=3,op:=[33,61],dst:=t1,a:=r1,b:=r2.none } (dF.bare _ rfl) bF.2.2.2.1 dn.2.2.2.2.2.2.1).mono ?_;rintro e aky ⟨Rn,Rl,rfl,hs⟩;have EY:=af hs;clear hs;go_wp2_with fail;refine (EY.add { aM with code:=6,label:=(bf:Int) } (dF.bare _ rfl) bF.2.2.2.2 dn.2.2.2.2.2.2.2).mono ?_;rintro e akz ⟨ZB,Zu,rfl,hs⟩;have Lu:=af hs;clear hs;go_wp2_with fail;go_ret;exact Lu.go rfl
theorem afX {l:aL} (ih:lr l) (np:lr r) (a:Int) (op:List UInt8):lr (.bin a op l r):=by
 intro v b ak P M nm pr w W h he hN hs;by_cases DF:op=[124,124]
 ·subst DF
  have Lx:=af (aiQ ih np a v b ak P M nm pr w W h he hN hs);simp only[aX]at he;obtain⟨bq,iv,he,hx,hi⟩:=he;obtain⟨g,rfl,hg,hb⟩:=he.pt;have c0:=hb.ah 0;have c4:=hb.ah 4;have gS:=hb.lt;unfold aB.str at c4;have e1:((⟨#[124,124]⟩:ByteArray)==⟨#[38,38]⟩)=false:=rfl;have e2:((⟨#[124,124]⟩:ByteArray)==⟨#[124,124]⟩)=true:=rfl;have e3:(([124,124]:List UInt8)==[38,38])=false:=rfl;have e4:(([124,124]:List UInt8)==[124,124])=true:=rfl;clear h he hN hs hb hx hi hg;go_in;go_wp2_with fail;refine Lx.mono ?_;rintro e w2 ⟨fD,M2,rfl,hk⟩;have HK:=af hk;clear hk;go_wp2_with fail;go_ret;exact⟨fD,M2,rfl,HK⟩
 by_cases hand:op=[38,38]
 ·subst hand
  have Lx:=af (aiM ih np a v b ak P M nm pr w W h he hN hs);simp only[aX]at he;obtain⟨bq,iv,he,hx,hi⟩:=he;obtain⟨g,rfl,hg,hb⟩:=he.pt;have c0:=hb.ah 0;have c4:=hb.ah 4;have gS:=hb.lt;unfold aB.str at c4;have e1:((⟨#[38,38]⟩:ByteArray)==⟨#[38,38]⟩)=true:=rfl;have e3:(([38,38]:List UInt8)==[38,38])=true:=rfl;clear h he hN hs hb hx hi hg DF;go_in;go_wp2_with fail;refine Lx.mono ?_;rintro e w2 ⟨fD,M2,rfl,hk⟩;have HK:=af hk;clear hk;go_wp2_with fail;go_ret;exact⟨fD,M2,rfl,HK⟩
 obtain⟨c1,c2,h2⟩:∃x y,au l w=(x,y):=⟨_,_,rfl⟩;obtain⟨r1,r2,h6⟩:∃x y,au r c2=(x,y):=⟨_,_,rfl⟩;obtain⟨t1,t2,h3⟩:∃x y,bC 1 { aM with code:=3,op:=op,a:=c1,b:=r1 } r2=(x,y):=⟨_,_,rfl⟩;have hall:au (.bin a op l r) w=(t1,t2):=by
  simp only[au,if_neg (show ¬(op=[38,38]\/op=[124,124]) from fun e=>e.elim hand DF),h2,h6,h3]
 rw[hall];clear hall;have fP:=gZ l w;have oC:=gZ r c2;rw[h2]at fP;rw[h6]at oC;simp only[gl,bK]at hN hs;simp only at fP oC;have bF:Hid (w.sz+8*bK l<=900000/\c2.sz+8*bK r<=900000/\r2.sz<1000000):=af (by refine⟨?_,?_,?_⟩ <;> omega);have aT:=af hN.2;simp only[aX]at he;obtain⟨bq,iv,he,hx,hi⟩:=he;obtain⟨g,rfl,hg,hb⟩:=he.pt;obtain⟨gx,rfl⟩:=hx.ptr;obtain⟨nc,rfl⟩:=hi.ptr;obtain⟨c0,-,-,-,c4,c5⟩:=hb.gI;have gS:=hb.lt;unfold aB.str at c4;have HS:=af (bU.begin h);have aA:=af (anw hb hg);have aj:=af (anw hx hi);have dn:=af (anw h2 (anw h6 h3));have e1:((⟨op.toArray⟩:ByteArray)==⟨#[38,38]⟩)=false:=by
  rw[show (⟨#[38,38]⟩:ByteArray)=⟨([38,38]:List UInt8).toArray⟩ from rfl,OX];simpa using hand
 have e2:((⟨op.toArray⟩:ByteArray)==⟨#[124,124]⟩)=false:=by
  rw[show (⟨#[124,124]⟩:ByteArray)=⟨([124,124]:List UInt8).toArray⟩ from rfl,OX];simpa using DF
 have e3:(op==[38,38])=false:=by simpa using hand
 have e4:(op==[124,124])=false:=by simpa using DF
 clear h he hN hs hb hx hi hg fP oC h2 h6 h3 DF hand;go_in;go_wp2_with fail;refine (bU.expr ih HS aj.1 aT.1 bF.1 dn.1).mono ?_;rintro e w2 ⟨fD,M2,rfl,hs⟩;have hb2:=hs.node aA.1 aA.2;have c24:w2.drew.cell? ⟨g,4,none⟩=some (.string ⟨op.toArray⟩):=hb2.ah 4;have aaj:w2.drew.cell? ⟨g,6,none⟩=some (.pointer (some ⟨nc,0,none⟩)):=hb2.ah 6;have l2:=hb2.lt;have fu:=af (hs.quiet (ag.refl ai w2).drew);clear hs hb2;go_wp2_with fail
 go_region_held3 (fun w'=>w'.cell? ⟨g,4,none⟩=some (.string ⟨op.toArray⟩)/\w'.cell? ⟨g,6,none⟩=some (.pointer (some ⟨nc,0,none⟩)))
  (first|exact⟨c24,aaj⟩|assumption|exact⟨R1,aak⟩|exact⟨Fq,c46⟩)
  ((first
    | (go_at_call 95;refine (bU.expr np fu aj.2 aT.2 bF.2.1 dn.2.1).mono ?_;rintro e w3 ⟨vx,lC,rfl,hs⟩;have R1:w3.cell? ⟨g,4,none⟩=some (.string ⟨op.toArray⟩):=(hs.node aA.1 aA.2).ah 4;have aak:w3.cell? ⟨g,6,none⟩=some (.pointer (some ⟨nc,0,none⟩)):=(hs.node aA.1 aA.2).ah 6;have j8:=af hs;clear hs)
    | (go_at_call 33;refine (j8.to 1 { aM with code:=3,op:=op,a:=c1,b:=r1 } (dF.bare _ rfl) bF.2.2 dn.2.2).mono ?_;rintro e w4 ⟨pX,rY,rfl,hs⟩;have Fq:w4.cell? ⟨g,4,none⟩=some (.string ⟨op.toArray⟩):=(hs.node aA.1 aA.2).ah 4;have c46:w4.cell? ⟨g,6,none⟩=some (.pointer (some ⟨nc,0,none⟩)):=(hs.node aA.1 aA.2).ah 6;have iU:=af hs;clear hs)))
 all_goals
  go_wp2_with fail;go_ret;exact iU.go rfl
theorem RI:(l:List aL)->(e:aL)->(w:Lw)->eu (l++[e]) w=((eu l w).1++[(au e (eu l w).2).1],(au e (eu l w).2).2)
 | [],e,w=>by simp[eu]
 | a::l,e,w=>by
   simp only[aoq,eu];rw[RI l e]
theorem Sz:(l:List aL)->(i:Nat)->(e:aL)->l[i]?=some e->mA (l.take i)+bK e<=mA l
 | [],i,e,h=>by simp at h
 | a::l,0,e,h=>by
   simp only[anO,anG]at h;subst h;simp only[List.take_zero,mA];omega
 | a::l,i+1,e,h=>by
   have:=Sz l i e (by simpa using h);simp only[an4,mA];omega
theorem vv.get:{l:List aL}->vv l->{i:Nat}->{e:aL}->l[i]?=some e->gl e
 | [],h,i,e,he=>by simp at he
 | a::l,h,0,e,he=>by
   simp only[anO,anG]at he;subst he;simp only[vv]at h;exact h.1
 | a::l,h,i+1,e,he=>by
   simp only[vv]at h;exact vv.get h.2 (i:=i) (by simpa using he)
theorem VF:{l:List aL}->{vs:List Value}->eB W S l vs->(i:Nat)->(e:aL)->l[i]?=some e->∃v,vs[i]?=some v/\aX W S e v
 | [],vs,h,i,e,he=>by simp at he
 | a::r,vs,h,i,e,he=>by
   simp only[eB]at h;obtain⟨x,r2,rfl,h1,h2⟩:=h;cases i with
   | zero=>simp only[anO,anG]at he;subst he;exact⟨x,rfl,h1⟩
   | succ i=>exact VF h2 i e (by simpa using he)
theorem afJ {w:World} {args:List aL} {es:List Value} {aa:Option Addr} {an ac:Nat} (hr:fL w S 141 1 (.slice aa an ac) args.length es) (he:eB w S args es) (hi:args[i]?=some e):∃g y,aa=some ⟨g,0,none⟩/\w.cell? ⟨g,i,none⟩=some (.pointer (some ⟨y,0,none⟩))/\aX w S e (.pointer (some ⟨y,0,none⟩)):=by
 obtain⟨v,h1,h2⟩:=VF he i e hi;obtain⟨y,rfl⟩:=h2.ptr;have hlt:i<args.length:=(anA.1 hi).1;rcases hr.1.2 with⟨hv,h0⟩|⟨g,cap,cur,hv,_,h3,h4,h5,h6,h7⟩
 ·omega
 ·simp only[Value.slice.injEq]at hv
  obtain⟨rfl,rfl,rfl⟩:=hv;refine⟨g,y,rfl,?_,h2⟩;have:=hr.1.cells (g:=g) rfl i _ h1;cases i with
  | zero=>exact this
  | succ i=>simpa [Addr.add] using this
theorem VG {l:List Int} (h:W.ownsRow B 3 1 v l.length (l.map (.int .i64))) (hS:∀k,v.ownBlock=some k->¬S k):dh W S v l:=by
 rcases h.2 with⟨hv,h0⟩|⟨g,cap,cur,hv,h3,h4,h5,h6,h7,h8⟩
 ·obtain rfl:l=[]:=anJ h0
  exact⟨none,0,hv,anC _,anC _,fun _=>rfl,fun i s hs=>by simp at hs⟩
 ·refine⟨_,cap,hv,h5,h6,(fun h=>by cases h),fun i x hx=>⟨g,0,rfl,hS g (by rw[hv];rfl),?_⟩⟩
  have:=h.cells (g:=g) (by rw[hv];rfl) i (.int .i64 x) (by rw[anV,hx];rfl);rw[add_plain]at this;exact this
theorem bU.aside (h:bU W0 cw b_ b ak nm pr W P M w) (hm:ag S W wd) (hS:∀k,S k->¬M k/\¬P k/\W0.heap.size<=k):bU W0 cw b_ b ak nm pr wd P M w :=
 ⟨h.iG.aside hm (fun k hk=>⟨(hS k hk).1,(hS k hk).2.1⟩),h.ext.new hm (fun k hk hs=>by have:=(hS k hs).2.2;omega),h.up,h.back,h.sF⟩
theorem bU.give {Q:Nat->Prop} (h:bU W0 cw b_ b ak nm pr W P M w) (hQ:∀k,Q k->¬M k/\k<W.heap.size/\W0.heap.size<=k):bU W0 cw b_ b ak nm pr W (fun k=>P k\/Q k) M w :=
 ⟨h.iG.give (fun k hk=>Or.inl hk) (fun k hk=>hk.elim Or.inl (fun q=>Or.inr ⟨(hQ k q).1,(hQ k q).2.1⟩)),h.ext,fun k hk=>Or.inl (h.up k hk),fun k hk hp=>hp.elim (h.back k hk) (fun q=>by have:=(hQ k q).2.2;omega),h.sF⟩
structure Ez (W:World) (cw b_:Nat->Prop) (b ak:Nat) (nm:List UInt8) (pr:Int) (l:List aL) (w:Lw) (i:Nat) (v:Value) (wr:World) (P M:Nat->Prop) (acc:List Int) (wi:Lw):Prop where
 ls:bU W cw b_ b ak nm pr wr P M wi
 done:eu (l.take i) w=(acc,wi)
 len:acc.length=i
 row:wr.ownsRow W.heap.size 3 1 v i (acc.map (Value.int .i64))
 cQ:∀k,v.ownBlock=some k->¬M k/\¬P k
theorem Ez.next {l:List aL} {wi:Lw} {v':Value} {wr w2 w4:World} {acc:List Int} (h:Ez W cw b_ b ak nm pr l w i v wr P M acc wi) (he:l[i]?=some e)
 {en:Ending} (hk:oJ wr b ak P M nm pr (au e wi).2 (fun en=>en=.returned (.int .i64 (au e wi).1)) en w2) :
 en=.returned (.int .i64 (au e wi).1)/\∃fD M2,bU W cw b_ b ak nm pr w2 fD M2 (au e wi).2/\w2.ownsRow W.heap.size 3 1 v i (acc.map (Value.int .i64))/\(∀k,v.ownBlock=some k->¬M2 k/\¬fD k)/\∀ (v':Value) (w4:World),
  w4.ownsRow W.heap.size 3 1 v' (i+1) (acc.map (Value.int .i64)++[.int .i64 (au e wi).1])->kr (w2.alloc (.cells #[.int .i64 (au e wi).1] 3)) w4 v v' ->
  Ez W cw b_ b ak nm pr l w (i+1) v' w4 fD M2 (acc++[(au e wi).1]) (au e wi).2:=by
 have DB:=h.ls.after hk;obtain⟨fD,M2,rfl,g2,g3,g4,g5⟩:=hk;have yx:∀k,v.ownBlock=some k->¬M2 k/\¬fD k:=fun k hk=>⟨fun m=>(h.cQ k hk).1 (g3.back k (h.row.lt k hk).2 m),fun p=>(h.cQ k hk).2 (g5 k (h.row.lt k hk).2 p)⟩
 have hrow:=g3.mods.ownsRow h.row (fun k hk e=>e.elim id (h.cQ k hk).1);have hL2:bU W cw b_ b ak nm pr w2 fD M2 (au e wi).2:=⟨g2,h.ls.ext.trans g3,fun k hk=>g4 k (h.ls.up k hk),fun k hk hp=>h.ls.back k hk (g5 k (anE hk h.ls.ext.mods.size) hp),h.ls.sF⟩;refine⟨rfl,fD,M2,hL2,hrow,yx,fun v' w4 hown hg=>?_⟩;have Aa:ag ai w2 (w2.alloc (.cells #[.int .i64 (au e wi).1] 3)):=ay.alloc _;have hsz:(w2.alloc (.cells #[.int .i64 (au e wi).1] 3)).heap.size=w2.heap.size+1:=by simp
 refine⟨(hL2.quiet Aa).aside hg.mods (fun k hk=>⟨(yx k hk).1,(yx k hk).2,(h.row.lt k hk).1⟩),?_,by simp[h.len],by simpa using hown,fun k hk=>?_⟩
 ·rw[aod,he]
  show eu (l.take i++[e]) w=_
  rw[RI,h.done]
 ·rcases D1 hg hk with e'|e'
  ·exact yx k e'
  ·exact⟨fun m=>by have:=g2.old k m;omega,fun p=>by have:=g2.given k p;omega⟩
theorem afY {l:List aL} (ih:∀e∈l,lr e) (a:Int) (f:List UInt8):lr (.call a f l):=by
 intro v b ak P M nm pr w W h he hN hs;obtain⟨i0,gw,hz0,hz1,hz2⟩:=J7 JM;have aI:=af (anw gw (anw hz0 (anw hz1 hz2)));simp only[aX]at he;obtain⟨bq,vs,he,hr,hx⟩:=he;obtain⟨g,rfl,hg,hb⟩:=he.pt;obtain⟨aa,ac,rfl⟩:=ru hr.1;obtain⟨n,hn⟩:=aq (l.length);rw[<-hn]at hb;have c0:=hb.ah 0;have c7:=hb.ah 7;have gS:=hb.lt;have HS:=af (bU.begin h);have aA:=af (anw hb hg);have aj:=af (anw hr hx);simp only[gl,bK]at hN hs;have bF:=af (anw hN hs);have la:n<=1000000:=by rw[hn];exact hN.2.1
 have aT:=af hn;have uW:Hid (Ez W P M b ak nm pr l w 0 (.slice none 0 0) W P M [] w):=af ⟨bU.begin h,by simp[eu],rfl,World.ownsRow_nil _ _ _ _,fun k hk=>by cases hk⟩;clear h he hN hs hb hx hr gw hz0 hz1 hz2 hn hg;go_in;go_wp2_with fail
 go_loopw [7,9,103] (fun v7 v9 akr wr=>∃i P' M' acc wi,i<=n/\akr=.int .i64 ((i:Nat):Int)/\Hid (Ez W P M b ak nm pr l w i v7 wr P' M' acc wi)) (fun _ _ v _=>(n-intOf v).toNat)
 case atStart=>exact⟨0,P,M,[],w,anC _,rfl,uW⟩
 case round =>
  clear uW;obtain⟨w1,rfl⟩:=aq wr;obtain⟨i,vw,jR,acc,wi,hi,rfl,aU⟩:=hrel;obtain⟨aG,aF,rfl⟩:=ru aU.row;by_cases hlt:i<n
  ·have bm:i<l.length:=by rw[<-aT.out];exact hlt
   obtain⟨e,FW⟩:∃e,l[i]?=some e:=⟨_,anx bm⟩;obtain⟨ga,y,rfl,c1,hex⟩:=afJ (aU.ls.row aj.1) (aU.ls.exs aj.2) FW;have fc:=World.block_lt_of_cell? _ _ c1;have a_:=af (anw FW hex);have nj:=anF FW;have Bb:Hid (wi.sz+8*bK e<=900000):=af (by
        have h1:=H9 (l.take i) w;have h2:=Sz l i e FW;have h3:=bF.2;rw[aU.done]at h1;simp only at h1;omega)
   have cA:(i:Int)<(n:Int):=(by omega);clear FW hex bm;go_wp2_with fail;refine (ih e nj _ b ak vw jR nm pr wi w1 aU.ls.iG a_.2 (vv.get bF.1.2.2 a_.1) Bb).mono ?_;intro en w2 hk;obtain⟨rfl,fD,M2,k1,k2,k3,k4⟩:=aU.next (v':=.slice none 0 0) (w4:=w2) a_.1 hk;obtain⟨x1,hx1⟩:=aq ((au e wi).1);obtain⟨x2,hx2⟩:=aq ((au e wi).2);rw[<-hx1]at k4 ⊢;rw[<-hx2]at k4 k1;have hs2:=(ag.refl ai w2).alloc (.cells #[x1] 3);have fR:=af (hs2.ownsRow k2 (fun k hk f=>f));have bY:Hid (W.heap.size<=(w2.alloc (.cells #[x1] 3)).heap.size):=af (by have h1:=k1.ext.mods.size;have h2:=hs2.size;omega);have u9:=af k4;have oG:Hid (∀u∈[Value.int .i64 x1],u.oneCell'=true):=af (fun u hu=>by simp at hu;subst hu;rfl);clear hk k1 k2 k3 k4 hx1 hx2 hs2;go_wp2_with (at_builtin;refine wpList_append_own_at _ rfl _ _ 52 rfl W.heap.size 3 i0 _ 1 8 underlying52 aI.1 aI.2.1 aI.2.2.1 aI.2.2.2 rfl (by decide) (.slice aG i aF) i (acc.map (Value.int .i64)) rfl fR ⟨w2.heap.size,0,none⟩ 1 1 [x1] rfl rfl (Cu _ _ _) oG (by unfold maxLen;omega) (by omega) bY ?_;intro v' a7 hown cr hnil hloc;have b6:=af hown;have bZ:=af (py cr hloc);clear hown cr hnil hloc);have kW:=af (u9 v' a7 b6 bZ);go_roundw
   case rel=>exact⟨i+1,fD,M2,_,_,by omega,by go_num,kW⟩
   case measure=>simp only[intOf];omega
  ·obtain rfl:i=n:=by omega
   have hb1:=aU.ls.node aA.1 aA.2;have c3:=hb1.ah 3;have l1:=hb1.lt;unfold aB.str at c3;have DB:=aU.ls.give (Q:=fun k=>(Value.slice aG i aF).ownBlock=some k) (fun k hk=>⟨(aU.cQ k hk).1,(aU.row.lt k hk).2,(aU.row.lt k hk).1⟩);have hdone:=aU.done;have lL:l.take i=l:=anN (by rw[<-aT.out];exact anD _);rw[lL]at hdone;have EH:Hid (dh w1 (fun k=>¬(vw k\/(Value.slice aG i aF).ownBlock=some k)) (.slice aG i aF) acc):=af (VG (B:=W.heap.size) (by have h1:=aU.row;have h2:=aU.len;rw[h2];exact h1) (fun k hk hn=>hn (Or.inr hk)));have iN:=af DB;have HD:=af hdone;have cY:=af aU.len;have Bb:Hid (wi.sz<1000000):=af (by
        have h1:=H9 l w;have h3:=bF.2;rw[hdone]at h1;simp only at h1;omega)
   have cA:¬(i:Int)<(i:Int):=(by omega);clear DB hdone lL hb1;obtain⟨t1,t2,h3⟩:∃x y,bC 1 { aM with code:=7,name:=f,args:=acc } wi=(x,y):=⟨_,_,rfl⟩;have hall:au (.call a f l) w=(t1,t2):=by
        simp only[au,HD.out];exact h3
   have oD:=af hall;have cB:=af h3;clear h3 hall;go_wp2_with fail;refine (iN.to 1 { aM with code:=7,name:=f,args:=acc } (dF.mk { aM with code:=7,name:=f,args:=acc } cY.symm EH) Bb cB).mono ?_;rintro e w4 ⟨pX,rY,rfl,hs⟩;have iU:=af hs;clear hs;go_wp2_with fail;go_ret;rw[oD.out];exact iU.go rfl
mutual
theorem px:(e:aL)->lr e
 | .num a n=>af3 a n
 | .var a x=>af5 a x
 | .un a op x=>af4 (px x) a op
 | .bin a op l r=>afX (px l) (px r) a op
 | .call a f l=>afY (SA l) a f
 | .new a x=>af2 (px x) a
 | .len a x=>af1 (px x) a
 | .item a x i=>af0 (px x) (px i) a
 | .input a=>afZ a
theorem SA:(l:List aL)->∀e∈l,lr e
 | [],e,h=>by cases h
 | a::l,e,h=>by
   rcases anW.1 h with h1|h
   ·rw[h1]
    exact px a
   ·exact SA l e h
end
def pZ (s:St):Prop:=∀ (cs:List Value) (b ak:Nat) (P M:Nat->Prop) (nm:List UInt8) (pr:Int) (w:Lw) (W:World),fx W b ak P M nm pr w->cy W (fun k=>¬P k) s cs->mY s->kF w->w.sz+8*dH s<=900000 ->
 Calls prog 64 #[.pointer (some ⟨b,0,none⟩),.agg cs.toArray] W (oJ W b ak P M nm pr (bW s w) (fun en=>en=.returned (.tuple #[])))
def CH (l:List St):Prop:=∀ (lv:Value) (vs:List Value) (b ak:Nat) (P M:Nat->Prop) (nm:List UInt8) (pr:Int) (w:Lw) (W:World),fx W b ak P M nm pr w->fL W (fun k=>¬P k) 143 7 lv l.length vs->cE W (fun k=>¬P k) l vs->pV l->kF w->w.sz+8*jz l<=900000 ->
 Calls prog 34 #[.pointer (some ⟨b,0,none⟩),lv] W (oJ W b ak P M nm pr (cZ l w) (fun en=>en=.returned (.tuple #[])))
theorem bU.block {lv:Value} (ih:CH l) (h:bU W0 cw b_ b ak nm pr W P M w) (hr:fL W0 (fun k=>¬cw k) 143 7 lv l.length vs) (hs:cE W0 (fun k=>¬cw k) l vs) (hN:pV l) (hp:kF w) (hz:w.sz+8*jz l<=900000) (he:cZ l w=w') :
 Calls prog 34 #[.pointer (some ⟨b,0,none⟩),lv] W fun en wd=>∃P' M',en=.returned (.tuple #[])/\bU W0 cw b_ b ak nm pr wd P' M' w':=by
 refine (ih lv vs b ak P M nm pr w W h.iG (h.row hr) (cE.b8 (h.ext.mods.mono fun k _ hk=>hk.elim (fun f=>f.elim) (h.sF k)) (fun k _ hk hp=>hk (h.up k hp)) l vs hs) hN hp hz).mono ?_;rw[he];exact fun e wd k=>h.after k
structure j9 (W W1:World) (b ak:Nat) (P M:Nat->Prop) (nm:List UInt8) (pr:Int) (w:Lw) (cs:List Value):Prop where
 ls:bU W1 (fun k=>P k\/k=W.heap.size) M b ak nm pr W1 (fun k=>P k\/k=W.heap.size) M w
 blk:aw W1 W.heap.size cs 143
 mods:ag ai W W1
theorem j9.new (h:fx W b ak P M nm pr w) (cs:List Value):j9 W (W.alloc (.cells cs.toArray 143)) b ak P M nm pr w cs:=by
 have hm:ag ai W (W.alloc (.cells cs.toArray 143)):=ay.alloc _;refine⟨bU.begin ((h.quiet hm).give (fun k hk=>Or.inl hk) (fun k hk=>hk.elim Or.inl (fun e=>Or.inr ⟨fun m=>by have:=h.old k m;omega,by rw[e];simp⟩))),aw.new W _ _,hm⟩
theorem j9.done {e:Ending} (h:j9 W W1 b ak P M nm pr w cs) (hs:bU W1 (fun k=>P k\/k=W.heap.size) M b ak nm pr wd P' M' w') (aZ:ok e):oJ W b ak P M nm pr w' ok e wd :=
 (hs.go aZ).after (fun k=>k) (Ext.quiet h.mods) (fun k hk=>Or.inl hk) (fun k hk hp=>hp.elim id (fun e=>by omega))
theorem j9.ex (h:j9 W W1 b ak P M nm pr w cs) (he:aX W (fun k=>¬P k) e v):aX W1 (fun k=>¬(P k\/k=W.heap.size)) e v :=
 aX.b8 (h.mods.mono fun _ _ f=>f.elim) (fun k _ hk hp=>hk (Or.inl hp)) e v he
theorem j9.row (h:j9 W W1 b ak P M nm pr w cs) {e:TypeId} {x:Value} (he:fL W (fun k=>¬P k) e size x n vs):fL W1 (fun k=>¬(P k\/k=W.heap.size)) e size x n vs :=
 he.mods (h.mods.mono fun _ _ f=>f.elim) (fun k _ hk hp=>hk (Or.inl hp))
theorem j9.AG (h:j9 W W1 b ak P M nm pr w cs) (he:cE W (fun k=>¬P k) l vs):cE W1 (fun k=>¬(P k\/k=W.heap.size)) l vs :=
 cE.b8 (h.mods.mono fun _ _ f=>f.elim) (fun k _ hk hp=>hk (Or.inl hp)) l vs he
theorem j9.node (h:j9 W W1 b ak P M nm pr w cs) (hs:bU W1 (fun k=>P k\/k=W.heap.size) M b ak nm pr wd P' M' w'):aw wd W.heap.size cs 143:=hs.node h.blk (Or.inr rfl)
theorem bU.look (h:bU W0 cw b_ b ak nm pr W P M w) (x:List UInt8) (hx:mJ x):(Instr.lookup 87 (.map (some ak)) (.string ⟨x.toArray⟩) false).run prog W=.ok (.int .i64 (fl w.names x)) W:=by
 obtain⟨n,F,g1,g2,g3⟩:=h.iG.names;have hlk:=g1.look underlying87 (VK _) x (by unfold mJ at hx;unfold maxLen;omega);rw[g3]at hlk;exact hlk
theorem bU.name {n:Int} (h:bU W0 cw b_ b ak nm pr W P M w) (code a k:Int) (x:List UInt8) (p q aG ob:Option Addr) (on aF eX eW:Nat) (hx:mJ x) (hz:w.sz<1000000) (hr:fU x k w=(n,w')) :
 Calls prog 96 #[.pointer (some ⟨b,0,none⟩),.agg #[code,a,.string ⟨x.toArray⟩,.pointer p,.pointer q,.slice aG on aF,.slice ob eX eW],k] W fun en wd=>∃P' M',en=.returned (.int .i64 n)/\bU W0 cw b_ b ak nm pr wd P' M' w':=by
 refine (O3 h.iG code a k x p q aG ob on aF eX eW (by unfold mJ at hx;unfold maxLen;omega) (by have:=xN w;omega) (by have:=Xl w;omega)).mono ?_;rw[hr];exact fun e wd k=>h.after k
theorem bU.typed (h:bU W0 cw b_ b ak nm pr W P M w) {p:Nat} (hp:p<w.types.length):∃tg tc,W.cell? ⟨b,2,none⟩=some (.slice (some ⟨tg,0,none⟩) w.types.length tc)/\W.cell? ⟨tg,p,none⟩=some (.int .i64 (w.types.getD p 0))/\tg<W.heap.size:=by
 obtain⟨tv,sv,cs,gy,hr,-⟩:=h.iG.blk;rcases hr.2 with⟨hv,h0⟩|⟨g,cap,cur,hv,-⟩
 ·omega
 ·subst hv
  refine⟨g,cap,gy.ah 2,?_,(hr.lt g rfl).2⟩;have:=hr.cells (g:=g) rfl p (.int .i64 (w.types.getD p 0)) (by rw[anV,anM,anx hp];rfl);rw[add_plain,an9]at this;exact this
theorem afT (a:Int) (e:aL):pZ (.ret a e):=by
 intro cs b ak P M nm pr w W h hs hN hp hz;simp only[cy]at hs;obtain⟨v,rfl,hx⟩:=hs;obtain⟨gx,rfl⟩:=hx.ptr;simp only[mY,dH]at hN hz;obtain⟨c1,c2,h2⟩:∃x y,au e w=(x,y):=⟨_,_,rfl⟩;obtain⟨w3,h3⟩:=ae (a8 { aM with code:=8,a:=c1 } c2);have hall:bW (.ret a e) w=w3:=by simp only[bW,h2,h3]
 rw[hall];have fP:=gZ e w;rw[h2]at fP;simp only at fP;have bF:=af (show w.sz+8*bK e<=900000/\c2.sz<1000000 by refine⟨?_,?_⟩ <;> omega);have aT:=af hN;have dn:=af (anw h2 h3);simp only[dt,cV,bV,aB.str];obtain⟨W1,hW1⟩:=aq (W.alloc (.cells #[.int .i64 6,a,.string ⟨#[]⟩,.pointer none,.pointer (some ⟨gx,0,none⟩),.slice none 0 0,.slice none 0 0] 143));have hB:j9 W W1 b ak P M nm pr w [.int .i64 6,a,.string ⟨#[]⟩,.pointer none,.pointer (some ⟨gx,0,none⟩),.slice none 0 0,.slice none 0 0]:=by rw[hW1];exact j9.new h _
 have aj:=af (hB.ex hx);have x0:=hB.blk.ah 0;have Hc:=hB.blk.ah 4;have fc:=hB.blk.lt;have aA:=af hB;clear h hN hp hz hx h2 h3 hall hB fP;go_in;go_upto_region 1 with (fail)
 rw[<-hW1];clear hW1;go_wp2_with fail;refine (bU.expr (px e) aA.ls aj aT bF.1 dn.1).mono ?_;rintro en w2 ⟨fD,M2,rfl,hs⟩;have fu:=af hs;clear hs;go_wp2_with fail;refine (fu.add { aM with code:=8,a:=c1 } (dF.bare _ rfl) bF.2 dn.2).mono ?_;rintro en w4 ⟨pX,rY,rfl,hs⟩;have iU:=af hs;clear hs;go_wp2_with fail;go_end0;exact aA.done iU rfl
theorem afR (a:Int) (e:aL):pZ (.print a e):=by
 intro cs b ak P M nm pr w W h hs hN hp hz;simp only[cy]at hs;obtain⟨v,rfl,hx⟩:=hs;obtain⟨gx,rfl⟩:=hx.ptr;simp only[mY,dH]at hN hz;obtain⟨c1,c2,h2⟩:∃x y,au e w=(x,y):=⟨_,_,rfl⟩;obtain⟨w3,h3⟩:=ae (a8 { aM with code:=13,a:=c1 } c2);have hall:bW (.print a e) w=w3:=by simp only[bW,h2,h3]
 rw[hall];have fP:=gZ e w;rw[h2]at fP;simp only at fP;have bF:=af (show w.sz+8*bK e<=900000/\c2.sz<1000000 by refine⟨?_,?_⟩ <;> omega);have aT:=af hN;have dn:=af (anw h2 h3);simp only[dt,cV,bV,aB.str];obtain⟨W1,hW1⟩:=aq (W.alloc (.cells #[.int .i64 7,a,.string ⟨#[]⟩,.pointer none,.pointer (some ⟨gx,0,none⟩),.slice none 0 0,.slice none 0 0] 143));have hB:j9 W W1 b ak P M nm pr w [.int .i64 7,a,.string ⟨#[]⟩,.pointer none,.pointer (some ⟨gx,0,none⟩),.slice none 0 0,.slice none 0 0]:=by rw[hW1];exact j9.new h _
 have aj:=af (hB.ex hx);have x0:=hB.blk.ah 0;have Hc:=hB.blk.ah 4;have fc:=hB.blk.lt;have aA:=af hB;clear h hN hp hz hx h2 h3 hall hB fP;go_in;go_upto_region 1 with (fail)
 rw[<-hW1];clear hW1;go_wp2_with fail;refine (bU.expr (px e) aA.ls aj aT bF.1 dn.1).mono ?_;rintro en w2 ⟨fD,M2,rfl,hs⟩;have fu:=af hs;clear hs;go_wp2_with fail;refine (fu.add { aM with code:=13,a:=c1 } (dF.bare _ rfl) bF.2 dn.2).mono ?_;rintro en w4 ⟨pX,rY,rfl,hs⟩;have iU:=af hs;clear hs;go_wp2_with fail;go_end0;exact aA.done iU rfl
theorem afO (a:Int) (e:aL):pZ (.call a e):=by
 intro cs b ak P M nm pr w W h hs hN hp hz;simp only[cy]at hs;obtain⟨v,rfl,hx⟩:=hs;obtain⟨gx,rfl⟩:=hx.ptr;simp only[mY,dH]at hN hz;obtain⟨c1,c2,h2⟩:∃x y,au e w=(x,y):=⟨_,_,rfl⟩;have hall:bW (.call a e) w=c2:=by simp only[bW,h2]
 rw[hall];have fP:=gZ e w;rw[h2]at fP;simp only at fP;have bF:=af (show w.sz+8*bK e<=900000/\c2.sz<1000000 by refine⟨?_,?_⟩ <;> omega);have aT:=af hN;have dn:=af h2;simp only[dt,cV,bV,aB.str];obtain⟨W1,hW1⟩:=aq (W.alloc (.cells #[.int .i64 8,a,.string ⟨#[]⟩,.pointer none,.pointer (some ⟨gx,0,none⟩),.slice none 0 0,.slice none 0 0] 143));have hB:j9 W W1 b ak P M nm pr w [.int .i64 8,a,.string ⟨#[]⟩,.pointer none,.pointer (some ⟨gx,0,none⟩),.slice none 0 0,.slice none 0 0]:=by rw[hW1];exact j9.new h _
 have aj:=af (hB.ex hx);have x0:=hB.blk.ah 0;have Hc:=hB.blk.ah 4;have fc:=hB.blk.lt;have aA:=af hB;clear h hN hp hz hx h2 hall hB fP;go_in;go_upto_region 1 with (fail)
 rw[<-hW1];clear hW1;go_wp2_with fail;refine (bU.expr (px e) aA.ls aj aT bF.1 dn).mono ?_;rintro en w2 ⟨fD,M2,rfl,hs⟩;have fu:=af hs;clear hs;go_wp2_with fail;go_end0;exact aA.done fu rfl
theorem afU (a:Int) (x:List UInt8) (e:aL):pZ (.set a x e):=by
 intro cs b ak P M nm pr w W h hs hN hp hz;simp only[cy]at hs;obtain⟨v,rfl,hx⟩:=hs;obtain⟨gx,rfl⟩:=hx.ptr;simp only[mY,dH]at hN hz;obtain⟨c1,c2,h2⟩:∃x y,au e w=(x,y):=⟨_,_,rfl⟩;obtain⟨w3,h3⟩:=ae (a8 { aM with code:=2,dst:=fl c2.names x,a:=c1 } c2);have hall:bW (.set a x e) w=w3:=by simp only[bW,h2,h3]
 rw[hall];have fP:=gZ e w;rw[h2]at fP;simp only at fP;have bF:=af (show w.sz+8*bK e<=900000/\c2.sz<1000000 by refine⟨?_,?_⟩ <;> omega);have aT:=af hN;have dn:=af (anw h2 h3);simp only[dt,cV,bV,aB.str];obtain⟨W1,hW1⟩:=aq (W.alloc (.cells #[.int .i64 2,a,.string ⟨x.toArray⟩,.pointer none,.pointer (some ⟨gx,0,none⟩),.slice none 0 0,.slice none 0 0] 143));have hB:j9 W W1 b ak P M nm pr w [.int .i64 2,a,.string ⟨x.toArray⟩,.pointer none,.pointer (some ⟨gx,0,none⟩),.slice none 0 0,.slice none 0 0]:=by rw[hW1];exact j9.new h _
 have aj:=af (hB.ex hx);have x0:=hB.blk.ah 0;have Hc:=hB.blk.ah 4;have fc:=hB.blk.lt;have aA:=af hB;clear h hN hp hz hx h2 h3 hall hB fP;go_in;go_upto_region 1 with (fail)
 rw[<-hW1];clear hW1;go_wp2_with fail;refine (bU.expr (px e) aA.ls aj aT.2 bF.1 dn.1).mono ?_;rintro en w2 ⟨fD,M2,rfl,hs⟩;have hb2:=aA.node hs;have fB:=hb2.ah 2;have XK:=hb2.lt;obtain⟨b4,-,-,bl⟩:=hs.cells;have fu:=af (hs.quiet (ag.refl ai w2).drew);have hlk:=fu.look x aT.1;clear hs hb2;go_wp2_with fail
 go_region_law (go_simp;go_at_call 35;refine (fu.add { aM with code:=2,dst:=fl c2.names x,a:=c1 } (dF.bare _ rfl) bF.2 dn.2).mono ?_;rintro en w4 ⟨pX,rY,rfl,hs⟩;have iU:=af hs;clear hs)
 all_goals
  go_wp2_with fail;go_end0;exact aA.done iU rfl
theorem afS (a:Int) (x:List UInt8) (i e:aL):pZ (.put a x i e):=by
 intro cs b ak P M nm pr w W h hs hN hp hz;simp only[cy]at hs;obtain⟨iv,v,rfl,hi,hx⟩:=hs;obtain⟨nc,rfl⟩:=hi.ptr;obtain⟨gx,rfl⟩:=hx.ptr;simp only[mY,dH]at hN hz;obtain⟨i1,i2,h1⟩:∃x y,au i w=(x,y):=⟨_,_,rfl⟩;obtain⟨c1,c2,h2⟩:∃x y,au e i2=(x,y):=⟨_,_,rfl⟩;obtain⟨w3,h3⟩:=ae (a8 { aM with code:=12,a:=fl c2.names x,b:=i1,c:=c1 } c2);have hall:bW (.put a x i e) w=w3:=by simp only[bW,h1,h2,h3]
 rw[hall];have oA:=gZ i w;have fP:=gZ e i2;rw[h1]at oA;rw[h2]at fP;simp only at oA fP;have bF:=af (show w.sz+8*bK i<=900000/\i2.sz+8*bK e<=900000/\c2.sz<1000000 by refine⟨?_,?_,?_⟩ <;> omega);have aT:=af hN;have dn:=af (anw h1 (anw h2 h3));simp only[dt,cV,bV,aB.str];obtain⟨W1,hW1⟩:=aq (W.alloc (.cells #[.int .i64 3,a,.string ⟨x.toArray⟩,.pointer (some ⟨nc,0,none⟩),.pointer (some ⟨gx,0,none⟩),.slice none 0 0,.slice none 0 0] 143));have hB:j9 W W1 b ak P M nm pr w [.int .i64 3,a,.string ⟨x.toArray⟩,.pointer (some ⟨nc,0,none⟩),.pointer (some ⟨gx,0,none⟩),.slice none 0 0,.slice none 0 0]:=by rw[hW1];exact j9.new h _
 have aj:=af (anw (hB.ex hi) (hB.ex hx));have x0:=hB.blk.ah 0;have x3:=hB.blk.ah 3;have fc:=hB.blk.lt;have aA:=af hB;clear h hN hp hz hx h1 h2 h3 hall hB oA fP hi;go_in;go_upto_region 1 with (fail)
 rw[<-hW1];clear hW1;go_wp2_with fail;refine (bU.expr (px i) aA.ls aj.1 aT.2.1 bF.1 dn.1).mono ?_;rintro en w2 ⟨fD,M2,rfl,hs⟩;have l_:=(aA.node hs).ah 4;have XK:=(aA.node hs).lt;have fu:=af hs;clear hs;go_wp2_with fail;refine (bU.expr (px e) fu aj.2 aT.2.2 bF.2.1 dn.2.1).mono ?_;rintro en akw ⟨vx,lC,rfl,hs⟩;have q2:=(aA.node hs).ah 2;have ahQ:=(aA.node hs).lt;obtain⟨b4,-,-,bl⟩:=hs.cells;have j8:=af (hs.quiet (ag.refl ai akw).drew);have hlk:=j8.look x aT.1;clear hs;go_wp2_with fail
 go_region_law (go_simp;go_at_call 35;refine (j8.add { aM with code:=12,a:=fl c2.names x,b:=i1,c:=c1 } (dF.bare _ rfl) bF.2.2 dn.2.2).mono ?_;rintro en w4 ⟨pX,rY,rfl,hs⟩;have iU:=af hs;clear hs)
 all_goals
  go_wp2_with fail;go_end0;exact aA.done iU rfl
theorem afV (a:Int) (x:List UInt8) (e:aL):pZ (.var a x e):=by
 intro cs b ak P M nm pr w W h hs hN hp hz;simp only[cy]at hs;obtain⟨v,rfl,hx⟩:=hs;obtain⟨gx,rfl⟩:=hx.ptr;simp only[mY,dH]at hN hz;obtain⟨c1,c2,h2⟩:∃x y,au e w=(x,y):=⟨_,_,rfl⟩;obtain⟨k,hk⟩:=ae (c2.types.getD c1.toNat 0);obtain⟨n1,n2,h3⟩:∃z y,fU x k c2=(z,y):=⟨_,_,rfl⟩;obtain⟨w4,h4⟩:=ae (a8 { aM with code:=2,dst:=n1,a:=c1 } n2);have hall:bW (.var a x e) w=w4:=by simp only[bW,h2,hk,h3,h4]
 rw[hall];have fP:=gZ e w;have oB:=O4 x k c2;have tI:=mz e w hp;rw[h2]at fP tI;rw[h3]at oB;simp only at fP oB tI;obtain⟨p,rfl⟩:∃p:Nat,c1=(p:Int):=⟨c1.toNat,by have:=tI.2.1;omega⟩;have hpl:p<c2.types.length:=by have:=tI.2.2;omega
 rw[aoy]at hk;have bF:=af (show w.sz+8*bK e<=900000/\c2.sz<1000000/\n2.sz<1000000 by refine⟨?_,?_,?_⟩ <;> omega);have aT:=af hN;have dn:=af (anw h2 (anw hk (anw h3 h4)));simp only[dt,cV,bV,aB.str];obtain⟨W1,hW1⟩:=aq (W.alloc (.cells #[.int .i64 1,a,.string ⟨x.toArray⟩,.pointer none,.pointer (some ⟨gx,0,none⟩),.slice none 0 0,.slice none 0 0] 143));have hB:j9 W W1 b ak P M nm pr w [.int .i64 1,a,.string ⟨x.toArray⟩,.pointer none,.pointer (some ⟨gx,0,none⟩),.slice none 0 0,.slice none 0 0]:=by rw[hW1];exact j9.new h _
 have aj:=af (hB.ex hx);have HP:=af hpl;have x0:=hB.blk.ah 0;have Hc:=hB.blk.ah 4;have fc:=hB.blk.lt;have aA:=af hB;clear h hN hp hz hx h2 hk h3 h4 hall hB fP oB tI hpl;go_in;go_upto_region 1 with (fail)
 rw[<-hW1];clear hW1;go_wp2_with fail;refine (bU.expr (px e) aA.ls aj aT.2 bF.1 dn.1).mono ?_;rintro en w2 ⟨fD,M2,rfl,hs⟩;have hb2:=aA.node hs;obtain⟨jN,y1,fB,jA,l_,mP,lQ⟩:=hb2.gJ;have XK:=hb2.lt;obtain⟨tg,tc,t2,tp,tl⟩:=hs.typed HP;have HK:=dn.2.1;rw[HK]at tp;have bl:=hs.cells.2.2.2;obtain⟨tn,dL⟩:=aq (c2.types.length);have tA:(p:Int)<(tn:Int):=by have:=HP.out;omega
 rw[<-dL]at t2;have fu:=af (hs.quiet (ag.refl ai w2).drew);clear hs hb2 HK dL;go_wp2_with fail
 go_region_law (first|(go_simp;go_at_call 96;refine (fu.name 1 a k x none (some ⟨gx,0,none⟩) none none 0 0 0 0 aT.1 bF.2.1 dn.2.2.1).mono ?_;rintro en w3 ⟨vx,lC,rfl,hs⟩;have j8:=af hs;clear hs)|(go_simp;go_at_call 35;refine (j8.add { aM with code:=2,dst:=n1,a:=(p:Int) } (dF.bare _ rfl) bF.2.2 dn.2.2.2).mono ?_;rintro en anm ⟨pX,rY,rfl,hs⟩;have iU:=af hs;clear hs))
 all_goals
  go_wp2_with fail;go_end0;exact aA.done iU rfl
theorem afP {el:List St} (Ot:CH t) (km:CH el) (a:Int) (e:aL):pZ (.cond a e t el):=by
 intro cs b ak P M nm pr w W h hs hN hp hz;simp only[cy]at hs;obtain⟨v,ahk,jM,anb,dQ,rfl,hx,hr1,kM,hr2,cP⟩:=hs;obtain⟨gx,rfl⟩:=hx.ptr;obtain⟨bz,fe⟩:=aq (t.length);obtain⟨qn,yG⟩:=aq (el.length);obtain⟨pa,ck,B5⟩:=ru hr1.1;obtain⟨bg,br,UC⟩:=ru hr2.1;rw[<-fe]at B5;rw[<-yG]at UC;subst B5 UC;simp only[mY,dH]at hN hz;obtain⟨l1,w1,h1⟩:∃x y,b7 w=(x,y):=⟨_,_,rfl⟩;obtain⟨l2,w2,h2⟩:∃x y,b7 w1=(x,y):=⟨_,_,rfl⟩;obtain⟨c1,c2,h3⟩:∃x y,au e w2=(x,y):=⟨_,_,rfl⟩;obtain⟨w3,h4⟩:=ae (a8 { aM with code:=5,a:=c1,label:=(l1:Int) } c2);obtain⟨w4,h5⟩:=ae (cZ t w3);obtain⟨aJ,h6⟩:=ae (a8 { aM with code:=4,label:=(l2:Int) } w4);obtain⟨bw,h7⟩:=ae (a8 { aM with code:=6,label:=(l1:Int) } aJ);obtain⟨a7,h8⟩:=ae (cZ el bw);obtain⟨fg,dJ⟩:=ae (a8 { aM with code:=6,label:=(l2:Int) } a7);have hall:bW (.cond a e t el) w=fg:=by simp only[bW,h1,h2,h3,h4,h5,h6,h7,h8,dJ]
 rw[hall];have oA:=wy w;have fP:=wy w1;have oB:=gZ e w2;have rH:=k8 { aM with code:=5,a:=c1,label:=(l1:Int) } c2;have rI:=w_ t w3;have oC:=k8 { aM with code:=4,label:=(l2:Int) } w4;have rK:=k8 { aM with code:=6,label:=(l1:Int) } aJ;have PT:=w_ el bw;have Cp:=yQ hp;rw[h1]at oA Cp;have tI:=yQ Cp;rw[h2]at fP tI;have Cq:=(mz e w2 tI).1;rw[h3]at oB Cq;have yV:=m_ { aM with code:=5,a:=c1,label:=(l1:Int) } Cq;rw[h4]at rH yV;have Aw:=C8 t w3 yV;rw[h5]at rI Aw;have GH:=m_ { aM with code:=6,label:=(l1:Int) } (m_ { aM with code:=4,label:=(l2:Int) } Aw);rw[h6]at oC GH;rw[h7]at rK GH;rw[h8]at PT;simp only at oA fP oB rH rI oC rK PT yV GH;have HO:=af (anw yV GH);have bF:=af (show w.sz<1000000/\w1.sz<1000000/\w2.sz+8*bK e<=900000/\c2.sz<1000000/\w3.sz+8*jz t<=900000/\w4.sz<1000000/\aJ.sz<1000000/\bw.sz+8*jz el<=900000/\a7.sz<1000000 by refine⟨?_,?_,?_,?_,?_,?_,?_,?_,?_⟩ <;> omega);have aT:=af hN;have dn:=af (anw h1 (anw h2 (anw h3 (anw h4 (anw h5 (anw h6 (anw h7 (anw h8 dJ))))))));simp only[dt,cV,bV,aB.str];obtain⟨W1,hW1⟩:=aq (W.alloc (.cells #[.int .i64 4,a,.string ⟨#[]⟩,.pointer none,.pointer (some ⟨gx,0,none⟩),.slice pa bz ck,.slice bg qn br] 143));have hB:j9 W W1 b ak P M nm pr w [.int .i64 4,a,.string ⟨#[]⟩,.pointer none,.pointer (some ⟨gx,0,none⟩),.slice pa bz ck,.slice bg qn br]:=by rw[hW1];exact j9.new h _
 have aj:=af (anw (hB.ex hx) (anw (anw (hB.row hr1) (hB.AG kM)) (anw (hB.row hr2) (hB.AG cP))));have dy:=af hB.ls;have x0:=hB.blk.ah 0;have fc:=hB.blk.lt;have aA:=af hB;clear h hN hp hz hx h1 h2 h3 h4 h5 h6 h7 h8 dJ hall hB oA fP oB rH rI oC rK PT Cp tI Cq yV Aw GH hr1 kM hr2 cP fe yG;go_in;go_upto_region 1 with (fail)
 rw[<-hW1];clear hW1;go_wp2_with fail;refine (dy.label bF.1 dn.1).mono ?_;rintro en u0 ⟨cw,b_,rfl,hs⟩;have ahH:=(aA.node hs).lt;have rT:=af hs;clear hs;go_wp2_with fail;refine (rT.label bF.2.1 dn.2.1).mono ?_;rintro en akj ⟨vw,jR,rfl,hs⟩;have am5:=(aA.node hs).ah 4;have ahI:=(aA.node hs).lt;have eC:=af hs;clear hs;go_wp2_with fail;refine (bU.expr (px e) eC aj.1 aT.1 bF.2.2.1 dn.2.2.1).mono ?_;rintro en qw ⟨fD,M2,rfl,hs⟩;have ahJ:=(aA.node hs).lt;have fu:=af hs;clear hs;go_wp2_with fail;refine (fu.add { aM with code:=5,a:=c1,label:=(l1:Int) } (dF.bare _ rfl) bF.2.2.2.1 dn.2.2.2.1).mono ?_;rintro en KM ⟨vx,lC,rfl,hs⟩;have am7:=(aA.node hs).ah 5;have ahK:=(aA.node hs).lt;have j8:=af hs;clear hs;go_wp2_with fail;refine (bU.block Ot j8 aj.2.1.1 aj.2.1.2 aT.2.1 HO.1 bF.2.2.2.2.1 dn.2.2.2.2.1).mono ?_;rintro en u4 ⟨pX,rY,rfl,hs⟩;have ahL:=(aA.node hs).lt;have iU:=af hs;clear hs;go_wp2_with fail;refine (iU.add { aM with code:=4,label:=(l2:Int) } (dF.bare _ rfl) bF.2.2.2.2.2.1 dn.2.2.2.2.2.1).mono ?_;rintro en akk ⟨E8,eH,rfl,hs⟩;have ahM:=(aA.node hs).lt;have oI:=af hs;clear hs;go_wp2_with fail;refine (oI.add { aM with code:=6,label:=(l1:Int) } (dF.bare _ rfl) bF.2.2.2.2.2.2.1 dn.2.2.2.2.2.2.1).mono ?_;rintro en akl ⟨H3,CW,rfl,hs⟩;have am9:=(aA.node hs).ah 6;have ahN:=(aA.node hs).lt;have qI:=af hs;clear hs;go_wp2_with fail;refine (bU.block km qI aj.2.2.1 aj.2.2.2 aT.2.2 HO.2 bF.2.2.2.2.2.2.2.1 dn.2.2.2.2.2.2.2.1).mono ?_;rintro en Xy ⟨H4,w6,rfl,hs⟩;have ahP:=(aA.node hs).lt;have vh:=af hs;clear hs;go_wp2_with fail;refine (vh.add { aM with code:=6,label:=(l2:Int) } (dF.bare _ rfl) bF.2.2.2.2.2.2.2.2 dn.2.2.2.2.2.2.2.2).mono ?_;rintro en u8 ⟨Rn,Rl,rfl,hs⟩;have ana:=(aA.node hs).lt;have EY:=af hs;clear hs;go_wp2_with fail;go_end0;exact aA.done EY rfl
theorem afQ (Ot:CH t) (a:Int) (e:aL):pZ (.loop a e t):=by
 intro cs b ak P M nm pr w W h hs hN hp hz;simp only[cy]at hs;obtain⟨v,ahk,jM,rfl,hx,hr1,kM⟩:=hs;obtain⟨gx,rfl⟩:=hx.ptr;obtain⟨bz,fe⟩:=aq (t.length);obtain⟨pa,ck,B5⟩:=ru hr1.1;rw[<-fe]at B5;subst B5;simp only[mY,dH]at hN hz;obtain⟨l1,w1,h1⟩:∃x y,b7 w=(x,y):=⟨_,_,rfl⟩;obtain⟨l2,w2,h2⟩:∃x y,b7 w1=(x,y):=⟨_,_,rfl⟩;obtain⟨w3,h3⟩:=ae (a8 { aM with code:=6,label:=(l1:Int) } w2);obtain⟨c1,c2,h4⟩:∃x y,au e w3=(x,y):=⟨_,_,rfl⟩;obtain⟨w4,h5⟩:=ae (a8 { aM with code:=5,a:=c1,label:=(l2:Int) } c2);obtain⟨aJ,h6⟩:=ae (cZ t w4);obtain⟨bw,h7⟩:=ae (a8 { aM with code:=4,label:=(l1:Int) } aJ);obtain⟨a7,h8⟩:=ae (a8 { aM with code:=6,label:=(l2:Int) } bw);have hall:bW (.loop a e t) w=a7:=by simp only[bW,h1,h2,h3,h4,h5,h6,h7,h8]
 rw[hall];have oA:=wy w;have fP:=wy w1;have oB:=k8 { aM with code:=6,label:=(l1:Int) } w2;have rH:=gZ e w3;have rI:=k8 { aM with code:=5,a:=c1,label:=(l2:Int) } c2;have oC:=w_ t w4;have rK:=k8 { aM with code:=4,label:=(l1:Int) } aJ;have Cp:=yQ hp;rw[h1]at oA Cp;have tI:=yQ Cp;rw[h2]at fP tI;have Cq:=m_ { aM with code:=6,label:=(l1:Int) } tI;rw[h3]at oB Cq;have yV:=(mz e w3 Cq).1;rw[h4]at rH yV;have Aw:=m_ { aM with code:=5,a:=c1,label:=(l2:Int) } yV;rw[h5]at rI Aw;rw[h6]at oC;rw[h7]at rK;simp only at oA fP oB rH rI oC rK Aw;have HO:=af Aw;have bF:=af (show w.sz<1000000/\w1.sz<1000000/\w2.sz<1000000/\w3.sz+8*bK e<=900000/\c2.sz<1000000/\w4.sz+8*jz t<=900000/\aJ.sz<1000000/\bw.sz<1000000 by refine⟨?_,?_,?_,?_,?_,?_,?_,?_⟩ <;> omega);have aT:=af hN;have dn:=af (anw h1 (anw h2 (anw h3 (anw h4 (anw h5 (anw h6 (anw h7 h8)))))));simp only[dt,cV,bV,aB.str];obtain⟨W1,hW1⟩:=aq (W.alloc (.cells #[.int .i64 5,a,.string ⟨#[]⟩,.pointer none,.pointer (some ⟨gx,0,none⟩),.slice pa bz ck,.slice none 0 0] 143));have hB:j9 W W1 b ak P M nm pr w [.int .i64 5,a,.string ⟨#[]⟩,.pointer none,.pointer (some ⟨gx,0,none⟩),.slice pa bz ck,.slice none 0 0]:=by rw[hW1];exact j9.new h _
 have aj:=af (anw (hB.ex hx) (anw (hB.row hr1) (hB.AG kM)));have dy:=af hB.ls;have x0:=hB.blk.ah 0;have fc:=hB.blk.lt;have aA:=af hB;clear h hN hp hz hx h1 h2 h3 h4 h5 h6 h7 h8 hall hB oA fP oB rH rI oC rK Cp tI Cq yV Aw hr1 kM fe;go_in;go_upto_region 1 with (fail)
 rw[<-hW1];clear hW1;go_wp2_with fail;refine (dy.label bF.1 dn.1).mono ?_;rintro en u0 ⟨cw,b_,rfl,hs⟩;have ahH:=(aA.node hs).lt;have rT:=af hs;clear hs;go_wp2_with fail;refine (rT.label bF.2.1 dn.2.1).mono ?_;rintro en akj ⟨vw,jR,rfl,hs⟩;have ahI:=(aA.node hs).lt;have eC:=af hs;clear hs;go_wp2_with fail;refine (eC.add { aM with code:=6,label:=(l1:Int) } (dF.bare _ rfl) bF.2.2.1 dn.2.2.1).mono ?_;rintro en qw ⟨fD,M2,rfl,hs⟩;have am6:=(aA.node hs).ah 4;have ahJ:=(aA.node hs).lt;have fu:=af hs;clear hs;go_wp2_with fail;refine (bU.expr (px e) fu aj.1 aT.1 bF.2.2.2.1 dn.2.2.2.1).mono ?_;rintro en KM ⟨vx,lC,rfl,hs⟩;have ahK:=(aA.node hs).lt;have j8:=af hs;clear hs;go_wp2_with fail;refine (j8.add { aM with code:=5,a:=c1,label:=(l2:Int) } (dF.bare _ rfl) bF.2.2.2.2.1 dn.2.2.2.2.1).mono ?_;rintro en u4 ⟨pX,rY,rfl,hs⟩;have am8:=(aA.node hs).ah 5;have ahL:=(aA.node hs).lt;have iU:=af hs;clear hs;go_wp2_with fail;refine (bU.block Ot iU aj.2.1 aj.2.2 aT.2 HO bF.2.2.2.2.2.1 dn.2.2.2.2.2.1).mono ?_;rintro en akk ⟨E8,eH,rfl,hs⟩;have ahM:=(aA.node hs).lt;have oI:=af hs;clear hs;go_wp2_with fail;refine (oI.add { aM with code:=4,label:=(l1:Int) } (dF.bare _ rfl) bF.2.2.2.2.2.2.1 dn.2.2.2.2.2.2.1).mono ?_;rintro en akl ⟨H3,CW,rfl,hs⟩;have ahN:=(aA.node hs).lt;have qI:=af hs;clear hs;go_wp2_with fail;refine (qI.add { aM with code:=6,label:=(l2:Int) } (dF.bare _ rfl) bF.2.2.2.2.2.2.2 dn.2.2.2.2.2.2.2).mono ?_;rintro en Xy ⟨H4,w6,rfl,hs⟩;have ahP:=(aA.node hs).lt;have vh:=af hs;clear hs;go_wp2_with fail;go_end0;exact aA.done vh rfl
theorem afG {s:St} (h:cy W S s cs):cs.length=7:=by
 obtain⟨_,_,_,_,_,_,_,_,_,_,_,rfl⟩:=h.shape;rfl
theorem VJ:{l:List St}->{vs:List Value}->cE W S l vs->(i:Nat)->(s:St)->l[i]?=some s->∃cs,cy W S s cs/\∀j,j<7->vs[i*7+j]?=cs[j]?
 | [],vs,h,i,s,hs=>by simp at hs
 | a::r,vs,h,i,s,hs=>by
   simp only[cE]at h;obtain⟨cs,r2,rfl,h1,h2⟩:=h;have h7:=afG h1;cases i with
   | zero =>
     simp only[anO,anG]at hs;subst hs;refine⟨cs,h1,fun j hj=>?_⟩;rw[anI (by omega)]
     congr 1
     omega
   | succ i =>
     obtain⟨ds,h3,h4⟩:=VJ h2 i s (by simpa using hs);refine⟨ds,h3,fun j hj=>?_⟩;rw[anH (by omega),h7,<-h4 j hj]
     congr 1
     omega
theorem VI {e:TypeId} (h:W.ownsRow B e size v n vs):∃aG aF,v=.slice aG n aF/\n<=aF/\aF<=maxLen/\(∀j u,vs[j]?=some u->∃g,aG=some ⟨g,0,none⟩/\v.ownBlock=some g/\W.cell? ⟨g,j,none⟩=some u):=by
 rcases h.2 with⟨rfl,rfl⟩|⟨g,cap,cur,rfl,_,hg,h3,h4,_⟩
 ·have:vs=[]:=anJ (by simpa using h.1)
  subst this;exact⟨none,0,rfl,anD _,by decide,fun j u hj=>by simp at hj⟩
 ·refine⟨_,_,rfl,h3,h4,fun j u hj=>⟨g,rfl,rfl,?_⟩⟩
  have:=h.cells (g:=g) rfl j u hj;simpa [Addr.add_lit] using this
theorem afK {w:World} {sa:Option Addr} {sc:Nat} (hr:fL w S 143 7 (.slice sa l.length sc) l.length vs) (hst:cE w S l vs) (i:Nat) (hi:i<l.length) :
 ∃g code a name p q aG on aF ob eX eW,sa=some ⟨g,0,none⟩/\w.cell? ⟨g,i*7,none⟩=some (.int .i64 code)/\w.cell? ⟨g,i*7+1,none⟩=some (.int .i64 a)/\w.cell? ⟨g,i*7+2,none⟩=some (.string name)/\w.cell? ⟨g,i*7+3,none⟩=some (.pointer p)/\w.cell? ⟨g,i*7+4,none⟩=some (.pointer q)/\w.cell? ⟨g,i*7+5,none⟩=some (.slice aG on aF)/\w.cell? ⟨g,i*7+6,none⟩=some (.slice ob eX eW)/\
  cy w S l[i] [code,a,.string name,.pointer p,.pointer q,.slice aG on aF,.slice ob eX eW]:=by
 obtain⟨Pt,Pv,he,hsc,hsm,DK⟩:=VI hr.1;simp only[Value.slice.injEq]at he;obtain⟨rfl,-,rfl⟩:=he;obtain⟨cs,h1,h2⟩:=VJ hst i l[i] (anx hi);obtain⟨code,a,name,p,q,aG,on,aF,ob,eX,eW,rfl⟩:=h1.shape;have cell:∀j u,j<7->([.int .i64 code,.int .i64 a,.string name,.pointer p,.pointer q,.slice aG on aF,.slice ob eX eW]:List Value)[j]?=some u->∃g,sa=some ⟨g,0,none⟩/\w.cell? ⟨g,i*7+j,none⟩=some u:=by
  intro j u hj hu;obtain⟨g,e1,e2,e3⟩:=DK (i*7+j) u (by rw[h2 j hj];exact hu);exact⟨g,e1,e3⟩
 obtain⟨g,e0,ja⟩:=cell 0 _ (by omega) rfl;have nJ:∀j u,j<7->([.int .i64 code,.int .i64 a,.string name,.pointer p,.pointer q,.slice aG on aF,.slice ob eX eW]:List Value)[j]?=some u->w.cell? ⟨g,i*7+j,none⟩=some u:=by
  intro j u hj hu;obtain⟨g',e1,e2⟩:=cell j u hj hu;rw[e0]at e1;obtain rfl:g=g':=by simpa using e1
  exact e2
 exact⟨g,code,a,name,p,q,aG,on,aF,ob,eX,eW,e0,ja,nJ 1 _ (by omega) rfl,nJ 2 _ (by omega) rfl,nJ 3 _ (by omega) rfl,nJ 4 _ (by omega) rfl,nJ 5 _ (by omega) rfl,nJ 6 _ (by omega) rfl,h1⟩
theorem RU:(l:List St)->(s:St)->(w:Lw)->cZ (l++[s]) w=bW s (cZ l w)
 | [],s,w=>rfl
 | a::l,s,w=>by
   simp only[aoq,cZ];exact RU l s _
theorem Xf:(l:List St)->(i:Nat)->(s:St)->l[i]?=some s->jz (l.take i)+dH s<=jz l
 | [],i,s,h=>by simp at h
 | a::l,0,s,h=>by
   simp only[anO,anG]at h;subst h;simp only[List.take_zero,jz];omega
 | a::l,i+1,s,h=>by
   have:=Xf l i s (by simpa using h);simp only[an4,jz];omega
theorem pV.get:{l:List St}->pV l->{i:Nat}->{s:St}->l[i]?=some s->mY s
 | [],h,i,s,hs=>by simp at hs
 | a::l,h,0,s,hs=>by
   simp only[anO,anG]at hs;subst hs;simp only[pV]at h;exact h.1
 | a::l,h,i+1,s,hs=>by
   simp only[pV]at h;exact pV.get h.2 (i:=i) (by simpa using hs)
structure KT (W:World) (cw b_:Nat->Prop) (b ak:Nat) (nm:List UInt8) (pr:Int) (l:List St) (w:Lw) (i:Nat) (wr:World) (P M:Nat->Prop) (wi:Lw):Prop where
 ls:bU W cw b_ b ak nm pr wr P M wi
 done:cZ (l.take i) w=wi
theorem bU.AG (h:bU W0 cw b_ b ak nm pr W P M w) (he:cE W0 (fun k=>¬cw k) l vs):cE W (fun k=>¬P k) l vs :=
 cE.b8 (h.ext.mods.mono fun k _ hk=>hk.elim (fun f=>f.elim) (h.sF k)) (fun k _ hk hp=>hk (h.up k hp)) l vs he
theorem J2 (ih:∀s∈l,pZ s):CH l:=by
 intro lv vs b ak P M nm pr w W h hr hs hN hp hz;obtain⟨sa,sc,hlv⟩:=ru hr.1;subst hlv;obtain⟨n,hn⟩:=aq (l.length);have la:n<=9223372036854775807:=by
  obtain⟨Pt,Pv,he,hsc,hsm,-⟩:=VI hr.1;simp only[Value.slice.injEq]at he;unfold maxLen at hsm;omega
 rw[<-hn];have aj:=af (anw hr hs);have bF:=af (anw hN (anw hp hz));have aT:=af hn;have uW:Hid (KT W P M b ak nm pr l w 0 W P M w):=af ⟨bU.begin h,by simp[cZ]⟩;clear h hr hs hN hp hz hn;go_in;go_wp2_with fail
 go_loopw [5,8] (fun _ v8 wr=>∃i P' M' wi,i<=n/\v8=.int .i64 ((i:Nat):Int)/\Hid (KT W P M b ak nm pr l w i wr P' M' wi)) (fun _ v _=>(n-intOf v).toNat)
 case atStart=>exact⟨0,P,M,w,anC _,rfl,uW⟩
 case round =>
  clear uW;obtain⟨w1,rfl⟩:=aq wr;obtain⟨i,vw,jR,wi,hi,rfl,aU⟩:=hrel;by_cases hlt:i<n
  ·have bm:i<l.length:=by rw[<-aT.out];exact hlt
   obtain⟨g,code,a,name,p,q,aG,on,aF,ob,eX,eW,rfl,ja,k1,k2,k3,k4,gU,tD,hs⟩:=afK (aU.ls.row aj.1) (aU.ls.AG aj.2) i bm;have cA:(i:Int)<(n:Int):=(by omega);have nj:l[i]∈l:=aof bm;have Bb:Hid (wi.sz+8*dH l[i]<=900000/\kF wi/\mY l[i]):=af (by
        have h1:=w_ (l.take i) w;have h2:=Xf l i l[i] (anx bm);have h3:=bF.2.2;have h4:=C8 (l.take i) w bF.2.1;rw[aU.done]at h1 h4;exact⟨by omega,h4,pV.get bF.1 (anx bm)⟩)
   obtain⟨W1,hW1⟩:=aq (w1.alloc (.cells #[code,a,.string name,.pointer p,.pointer q,.slice aG on aF,.slice ob eX eW] 143));have Aa:ag ai w1 W1:=(by rw[hW1];exact ay.alloc _);have DB:=aU.ls.quiet Aa;have HS:=af (cy.b8 (Aa.mono fun _ _ f=>f.elim) (fun _ _ k=>k) _ _ hs);have iN:=af DB;have K1:Hid (cZ (l.take (i+1)) w=bW l[i] wi):=af (by
        rw[aod,anx bm]
        show cZ (l.take i++[l[i]]) w=_
        rw[RU,aU.done])
   have oW:(i:Int)<9223372036854775807:=(by omega);have Dy:=ih _ nj;clear hs Aa DB nj;go_wp2_with fail;rw[<-hW1];clear hW1 ja k1 k2 k3 k4 gU tD;refine (Dy _ b ak vw jR nm pr wi W1 iN.iG HS Bb.2.2 Bb.2.1 Bb.1).mono ?_;intro en w2 hk;obtain⟨fD,M2,rfl,hs⟩:=iN.after hk;have kW:Hid (KT W P M b ak nm pr l w (i+1) w2 fD M2 (bW l[i] wi)):=af ⟨hs,K1⟩;clear hk hs;go_wp2_with fail;go_roundw
   case rel=>exact⟨i+1,fD,M2,_,by omega,by go_num,kW⟩
   case measure=>simp only[intOf];omega
  ·obtain rfl:i=n:=by omega
   have cA:¬(i:Int)<(i:Int):=(by omega);have hdone:=aU.done;rw[anN (by rw[<-aT.out];exact anD _)]at hdone;have HD:=af hdone;clear hdone;go_wp2_with fail;go_end0;rw[HD.out];exact aU.ls.go rfl
mutual
theorem afW:(s:St)->pZ s
 | .var a x e=>afV a x e
 | .set a x e=>afU a x e
 | .put a x i e=>afS a x i e
 | .cond a e t el=>afP (J2 (Gw t)) (J2 (Gw el)) a e
 | .loop a e t=>afQ (J2 (Gw t)) a e
 | .ret a e=>afT a e
 | .print a e=>afR a e
 | .call a e=>afO a e
theorem Gw:(l:List St)->∀s∈l,pZ s
 | [],s,h=>by cases h
 | a::l,s,h=>by
   rcases anW.1 h with h1|h
   ·rw[h1]
    exact afW a
   ·exact Gw l s h
end
theorem L3 (l:List St):CH l:=J2 (Gw l)
end aW
namespace aB
open Go.RowKit bB Go.Proofs.Tryz
variable {N:Nm} {W W':World} {S T:Nat->Prop} {v:Value} {s:List UInt8} {i B n:Nat} {P:Program} {L:List Fn}
theorem air (w:World) (t ty e:TypeId) (i:TypeInfo) (z:Value) (size bytes:Nat) (ht:P.underlying t=some (.slice e)) (hi:P.info? e=some i) (hz:i.zero=some z)
 (hsize:i.size=size) (hby:i.bytes=bytes) (hzs:z.cells.size=size) (hsz:0<size)
 (b:Option Addr) (n:Nat) (xs:List Value) (xw:xs.length=n*size) (h0:b=none->n=0) (Oj:∀p j u,b=some p->xs[j]?=some u->w.cell? (p.add j)=some u)
 (a:Addr) (m c:Nat) (news:List Value) (hl:news.length=m*size) (hnews:∀j u,news[j]?=some u->w.cell? (a.add j)=some u) (hm:0<m)
 (h63:n+m<=maxLen) (hbytes:(n+m)*bytes<=140737488355328) :
 ∃v' w',(Builtin.append_ #[t,t] ty #[.slice b n n,.slice (some a) m c]).run P w=.ok v' w'/\w'.ownsRow w.heap.size e size v' (n+m) (xs++news)/\ag ai w w':=by
 subst hsize;subst hby;have amv:n+m<=9223372036854775807:=by simp only[maxLen]at h63;omega
 have hlen:(xs++news).length=(n+m)*i.size:=by rw[anU,xw,hl,Nat.add_mul]
 have grown:∀ (old:Nat),old<n+m ->
  (w.drew.alloc (.cells (xs.toArray++news.toArray++Builtin.zeroCells z.cells (grownCap w (n+m) old e-(n+m))) e)).ownsRow w.heap.size e i.size
        (.slice (some ⟨w.heap.size,0,none⟩) (n+m) (grownCap w (n+m) old e)) (n+m) (xs++news)/\
  ag ai w (w.drew.alloc (.cells (xs.toArray++news.toArray++Builtin.zeroCells z.cells (grownCap w (n+m) old e-(n+m))) e)):=by
  intro old ho;have si:=grownCap_ge w (n+m) old e;have hcm:grownCap w (n+m) old e<=maxLen:=grownCap_le_maxLen w (n+m) old e h63;refine⟨⟨hlen,.inr ⟨w.heap.size,_,_,rfl,anD _,heap_alloc_new w.drew _,si,hcm,?_,?_⟩⟩,ay.drew.alloc _⟩
  ·simp only[Array.size_append,aoz,size_zeroCells,hzs,xw,hl,<-Nat.add_mul]
   congr 1
   omega
  ·simp only[Array.toList_append,aoj]
   rw[<-aoj,<-hlen];exact List.take_left
 cases b with
 | none =>
   obtain rfl:=h0 rfl;have hx:xs=[]:=anJ (by simpa using xw);subst hx;have hr:=run_append_nil (P:=P) w t ty e i z ht hi hz a m c news hl hnews hm (by omega) (by have hb:=hbytes;simp only[an9]at hb;omega);have hgr:=grown 0 (by omega);simp only[an9,aom,Array.empty_append]at hgr ⊢;exact⟨_,_,hr,hgr.1,hgr.2⟩
 | some b =>
   have hr:=run_append_grow (P:=P) w t ty e i z ht hi hz b n n xs xw (fun j u hu=>Oj b j u rfl hu) a m c news hl hnews (by omega) (by omega) (growslice_fits (by omega) hbytes);have hgr:=grown n (by omega);exact⟨_,_,hr,hgr.1,hgr.2⟩
theorem ajy {ops:Array Oper} {o:Oper} {a:Act} {w:World} {K:Act->World->Prop} {Q:Exit->Act->World->Prop} {E:Prop} (hgd:o.guard=none) (s x:Operand) (t:TypeId)
 (ho:o.op=.call { callee:=.builtin .append,args:=#[s,x],argTypes:=#[t,t] })
 (e:TypeId) (i:TypeInfo) (z:Value) (size bytes:Nat) (ht:P.underlying t=some (.slice e)) (hi:P.info? e=some i) (hz:i.zero=some z)
 (hsize:i.size=size) (hby:i.bytes=bytes) (hzs:z.cells.size=size) (hsz:0<size)
 (b:Option Addr) (n:Nat) (xs:List Value) (hs:a.eval s=.slice b n n) (xw:xs.length=n*size) (h0:b=none->n=0) (Oj:∀p j u,b=some p->xs[j]?=some u->w.cell? (p.add j)=some u)
 (ad:Addr) (m c:Nat) (news:List Value) (hx:a.eval x=.slice (some ad) m c) (hl:news.length=m*size) (hnews:∀j u,news[j]?=some u->w.cell? (ad.add j)=some u) (hm:0<m)
 (h63:n+m<=maxLen) (hbytes:(n+m)*bytes<=140737488355328)
 (h:∀v' w',w'.ownsRow w.heap.size e size v' (n+m) (xs++news)->ag ai w w'->K (a.put o.dst v') w') :
 if Region.wanted o (yielded ops a.tmps)=true then Oper.wp P o a w K Q else E:=by
 have hw:Region.wanted o (yielded ops a.tmps)=true:=by simp[Region.wanted,hgd]
 rw[if_pos hw];obtain⟨v',w',hr,h2,h3⟩:=air (P:=P) w t o.type e i z size bytes ht hi hz hsize hby hzs hsz b n xs xw h0 Oj ad m c news hl hnews hm h63 hbytes;unfold Oper.wp execOp;simp only[ho,resolve,invoke,builtin,Sem.run_bind,Sem.run_pure,Result.andThen_ok,List.map_toArray,aow,List.map_nil,hs,hx,hr];exact h v' w' h2 h3
def vu (W:World) (S:Nat->Prop) (v:Value) (N:Nm):Prop :=
 ∃a n c,v=.slice a n c/\n=N.length/\n<=c/\c<=maxLen/\(a=none->n=0)/\∀i p,N[i]?=some p->∃g o,a=some ⟨g,o,none⟩/\¬S g/\W.cell? ⟨g,o+i*2,none⟩=some (str p.1)/\W.cell? ⟨g,o+i*2+1,none⟩=some (.int .i64 p.2)
theorem vu.mods (h:vu W S v N) (hm:ag S W W') (hT:∀k,k<W.heap.size->T k->S k):vu W' T v N:=by
 obtain⟨a,n,c,h1,h2,h3,h4,h5,h6⟩:=h;refine⟨a,n,c,h1,h2,h3,h4,h5,fun i p hp=>?_⟩;obtain⟨g,o,e1,e2,e3,e4⟩:=h6 i p hp;exact⟨g,o,e1,fun ht=>e2 (hT g (World.block_lt_of_cell? W _ e3) ht),hm.cellOf e3 e2,hm.cellOf e4 e2⟩
def lU (W:World) (S:Nat->Prop) (v:Value) (L:List Fn):Prop :=
 ∃a n c,v=.slice a n c/\n=L.length/\n<=c/\c<=maxLen/\(a=none->n=0)/\∀i f,L[i]?=some f->∃g o p q dQ,a=some ⟨g,o,none⟩/\¬S g /\
  W.cell? ⟨g,o+i*4,none⟩=some (str f.name)/\W.cell? ⟨g,o+i*4+1,none⟩=some (.int .i64 f.at_)/\W.cell? ⟨g,o+i*4+2,none⟩=some p/\W.cell? ⟨g,o+i*4+3,none⟩=some q /\
  fL W S 91 2 p f.params.length (kn f.params)/\fL W S 143 7 q f.body.length dQ/\cE W S f.body dQ
theorem lU.mods (h:lU W S v L) (hm:ag S W W') (hT:∀k,k<W.heap.size->T k->S k):lU W' T v L:=by
 obtain⟨a,n,c,h1,h2,h3,h4,h5,h6⟩:=h;refine⟨a,n,c,h1,h2,h3,h4,h5,fun i p hp=>?_⟩;obtain⟨g,o,p,q,dQ,e1,e2,e3,e4,cG,ew,dv,dc,fG⟩:=h6 i p hp;exact⟨g,o,p,q,dQ,e1,fun ht=>e2 (hT g (World.block_lt_of_cell? W _ e3) ht),hm.cellOf e3 e2,hm.cellOf e4 e2,hm.cellOf cG e2,hm.cellOf ew e2,dv.mods hm hT,dc.mods hm hT,cE.b8 hm hT _ _ fG⟩
structure kU (W:World) (b:Nat) (L:List Fn) (N:Nm) (m:Nat):Prop where
 few:m<=12
 len:N.length<=m
 at_:∃fv tH,aw W b [fv,tH,m] 104/\lU W (·=b) fv L/\vu W (·=b) tH N
theorem kU.mods {b:Nat} {m:Nat} (h:kU W b L N m) (hm:ag ai W W'):kU W' b L N m:=by
 obtain⟨fv,tH,h1,h2,h3⟩:=h.at_;exact⟨h.few,h.len,fv,tH,h1.mods hm id,h2.mods (hm.mono fun _ _ f=>f.elim) (fun _ _ k=>k),h3.mods (hm.mono fun _ _ f=>f.elim) (fun _ _ k=>k)⟩
def za (g:Nat):Value:=.iface 97 (.agg #[.iface 134 (.pointer (some ⟨g,0,none⟩))])
def LR (W:World) (n a:Int) (e:Ending) (w:World):Prop:=∃g,e=.panicked [{ v:=za g,recovered:=false }]/\aw w g [n,a] 136
theorem xc (n a:Int) (W:World):Calls prog 39 #[n,a] W fun e w=>LR W n a e w/\ag ai W w:=by
 go_in;go_wp2;exact⟨rfl,⟨_,rfl,aw.new W _ _⟩,ay.alloc _⟩
def mG:Nm->List UInt8->Option Nat
 | [],_=>none
 | p::r,s=>if p.1==s then some 0 else (mG r s).map (·+1)
def jy:Option Nat->Int
 | some i=>i
 | none=>-1
theorem abh (s:List UInt8) (a:List UInt8) (k:Int) (q:Nat) (W:World) (hq:W.cell? ⟨q,0,none⟩=some (str s)) :
 Calls prog 99 #[.agg #[str a,k],.pointer (some ⟨q,0,none⟩)] W fun e w=>e=.returned (.bool (a==s))/\ag ai W w:=by
 have hlt:q<W.heap.size:=World.block_lt_of_cell? W _ hq;have hne:q≠W.heap.size:=by omega
 unfold str at *;go_in;go_wp2;go_ret;refine⟨?_,ay.alloc _⟩;simp
theorem aeP (h:mG (N.take i) s=none) {p:List UInt8×Int} (hp:N[i]?=some p):mG (N.take (i+1)) s=if p.1==s then some i else none:=by
 induction N generalizing i with
 | nil=>simp at hp
 | cons a r ih =>
   cases i with
   | zero =>
     simp only[anO,anG]at hp;subst hp;simp[mG]
   | succ i =>
     simp only[an4,mG]at h ⊢;split at h
     ·cases h
     ·rename_i hn
      rw[if_neg hn];simp only[aoF]at h;rw[ih h (by simpa using hp)];split <;> rfl
theorem aeO {j:Nat} (h:mG (N.take i) s=some j):mG N s=some j:=by
 induction N generalizing i j with
 | nil=>simp[mG]at h
 | cons a r ih =>
   cases i with
   | zero=>simp[mG]at h
   | succ i =>
     simp only[an4,mG]at h ⊢;split at h
     ·rename_i hy
      rw[if_pos hy];exact h
     ·rename_i hn
      rw[if_neg hn];obtain⟨k,hk,rfl⟩:=an7.1 h;rw[ih hk];rfl
theorem aeT (s:List UInt8) (N:Nm) (v:Value) (q:Nat) (W:World) (hq:W.cell? ⟨q,0,none⟩=some (str s)) (hN:vu W ai v N) :
 Calls prog 98 #[v,.func (.func 99) #[] #[.pointer (some ⟨q,0,none⟩)]] W fun e w=>e=.returned (.int .i64 (jy (mG N s)))/\ag ai W w:=by
 obtain⟨a,n,c,rfl,hn,iZ,hcm,h0,hcell⟩:=hN;have aT:=af hn;have aU:=af (fun (w:World) (hm:ag ai W w) (i:Nat) (hi:i<n)=>(by
  have hE:i<N.length:=by omega
  obtain⟨g,o,e1,e2,e3,e4⟩:=hcell i N[i] (anx hE);exact⟨N[i].1,N[i].2,g,o,e1,anx hE,hm.cellOf e3 id,hm.cellOf e4 id⟩:∃x k g o,a=some ⟨g,o,none⟩/\N[i]?=some (x,k)/\w.cell? ⟨g,o+i*2,none⟩=some (str x)/\w.cell? ⟨g,o+i*2+1,none⟩=some (.int .i64 k)))
 have dy:=af (fun (w:World) (hm:ag ai W w)=>(hm.cellOf hq id:w.cell? ⟨q,0,none⟩=some (str s)));unfold maxLen at hcm;clear hn hcell hq;unfold str at *;go_in;go_wp2_with fail
 go_loopw [5,8] (fun _ iv wr=>∃i:Nat,i<=n/\iv=.int .i64 i/\Hid (mG (N.take i) s=none)/\Hid (ag ai W wr)) (fun _ iv _=>(n-intOf iv).toNat)
 case atStart=>exact⟨0,anC _,rfl,af (by simp[mG]),af ay⟩
 case round =>
  obtain⟨i,hi,rfl,aI,az⟩:=hrel;by_cases hlt:i<n
  ·obtain⟨x,k,g,o,rfl,hx,c1,c2⟩:=aU.out wr az i hlt
   have cA:(i:Int)<(n:Int):=(by omega);have bA:=af (aeP aI hx);have a_:=af (abh s x k q wr (dy wr az));clear hx;unfold str at *;go_wp2_with fail;refine a_.mono ?_;rintro e w1 ⟨rfl,aO⟩;have aD:=af (az.trans aO);clear aO;rcases hb:(x==s) with _|_
   ·have cW:Hid (mG (N.take (i+1)) s=none):=af (by rw[bA.out];simp only[hb];rfl)
    clear hb;go_wp2_with fail;exact⟨⟨i+1,by omega,by go_num,cW,aD⟩,by simp[intOf];omega⟩
   ·have cW:Hid (mG N s=some i):=af (aeO (i:=i+1) (by rw[bA.out];simp only[hb];rfl))
    clear hb;go_wp2_with fail;go_ret;refine⟨?_,aD⟩;rw[cW.out];rfl
  ·obtain rfl:i=n:=by omega
   have cA:¬(i:Int)<(i:Int):=(by omega);have cW:Hid (mG N s=none):=af (by
        have:=aI.out;rw[aT.out,aob]at this;exact this)
   go_wp2_with fail;go_ret;refine⟨?_,az⟩;rw[cW.out];rfl
theorem abO (h:mG N s=none):e9 N s=0:=by
 unfold e9;induction N with
 | nil=>rfl
 | cons a r ih =>
   simp only[mG]at h;split at h
   ·cases h
   ·rename_i hn
    rw[aoB]at hn;rw[aoa,hn];exact ih (by simpa using h)
theorem abP (h:mG N s=some i):∃p,N[i]?=some p/\e9 N s=p.2:=by
 unfold e9;induction N generalizing i with
 | nil=>simp[mG]at h
 | cons a r ih =>
   simp only[mG]at h;split at h
   ·rename_i hy
    obtain rfl:=anz h;exact⟨a,rfl,by rw[aoa,hy]⟩
   ·rename_i hn
    obtain⟨k,hk,rfl⟩:=an7.1 h;obtain⟨p,h1,h2⟩:=ih hk;refine⟨p,by simpa using h1,?_⟩;rw[aoB]at hn;rw[aoa,hn];exact h2
theorem Iu (b:Nat) (L:List Fn) (N:Nm) (m:Nat) (s:List UInt8) (W:World) (h:kU W b L N m) :
 Calls prog 66 #[.pointer (some ⟨b,0,none⟩),str s] W fun e w=>e=.returned (.int .i64 (e9 N s))/\ag ai W w:=by
 obtain⟨fv,tH,hb,hF,hN⟩:=h.at_;have aT:=af hN;obtain⟨a,n,c,rfl,hn,iZ,hcm,h0,hcell⟩:=hN;have c1:W.cell? ⟨b,1,none⟩=some (.slice a n c):=hb.cell rfl;have hbl:=hb.lt;obtain⟨W1,hW1⟩:=aq (W.alloc (.cells #[str s] 9));have aO:ag ai W W1:=by rw[hW1];exact ay.alloc _
 have hI:=aeT s N (.slice a n c) W.heap.size W1 (by rw[hW1];simp) (aT.mods (T:=ai) (S:=(·=b)) (by rw[hW1];exact ay.alloc _) (fun _ _ f=>f.elim));have aI:=af hI;have aD:=af aO;have aA:=af hb;have aU:=af hcell;have xV:=af hn;unfold maxLen at hcm;have c2:W1.cell? ⟨b,1,none⟩=some (.slice a n c):=aO.cellOf c1 id;clear hI aO hF hb hn hcell;have TD:b≠W.heap.size:=by omega
 unfold str at *;go_in;go_wp2_with fail;rw[<-hW1];clear hW1;go_at_call 98;refine aI.mono ?_;rintro e w2 ⟨rfl,aN⟩;have bJ:=af (aD.trans aN);have c3:w2.cell? ⟨b,1,none⟩=some (.slice a n c):=aN.cellOf c2 id;clear aN c2;cases hx:mG N s with
 | none =>
   have aP:=af (abO hx);clear hx;simp only[jy];go_wp2_with fail;go_ret;exact⟨by rw[aP.out];rfl,bJ⟩
 | some i =>
   obtain⟨p,hp,hf⟩:=abP hx;obtain⟨g,o,rfl,e2,e3,e4⟩:=aU.out i p hp;have hi:i<N.length:=(anA.1 hp).1;have ki:(i:Int)<(n:Int):=(by have:=xV.out;omega);have aP:=af hf;have c4:w2.cell? ⟨g,o+i*2+1,none⟩=some (.int .i64 p.2):=bJ.cellOf e4 id;clear hx hp hf e3 e4;simp only[jy];go_wp2_with fail;go_ret;exact⟨by rw[aP.out];rfl,bJ⟩
theorem aaM (a:Option Addr) (n c:Nat) (W:World) (iZ:n<=c) (hcm:c<=maxLen) (h0:a=none->n=0) :
 Calls prog 67 #[.slice a n c] W fun e w=>e=.returned (.slice a n n)/\W=w:=by
 unfold maxLen at hcm;cases a with
 | none =>
   obtain rfl:=h0 rfl;go_in;go_wp2;go_ret;exact⟨rfl,rfl⟩
 | some p =>
   obtain⟨g,o,s⟩:=p;go_in;go_wp2;go_ret;exact⟨rfl,rfl⟩
theorem D4:(N:Nm)->(i:Nat)->(p:List UInt8×Int)->N[i]?=some p->(kn N)[i*2]?=some (str p.1)/\(kn N)[i*2+1]?=some (.int .i64 p.2)
 | [],i,p,h=>by simp at h
 | a::r,0,p,h=>by
   simp only[anO,anG]at h;subst h;exact⟨rfl,rfl⟩
 | a::r,i+1,p,h=>by
   have:=D4 r i p (by simpa using h);rw[show (i+1)*2=i*2+2 by omega];exact this
theorem V0 (h:W.ownsRow B 91 2 v N.length (kn N)) (hS:∀k,v.ownBlock=some k->¬S k):vu W S v N:=by
 rcases h.2 with⟨rfl,h0⟩|⟨g,cap,cur,rfl,_,hg,h3,h4,_⟩
 ·have hN:N=[]:=anJ h0
  subst hN;exact⟨none,0,0,rfl,rfl,anD _,by decide,fun _=>rfl,fun i p hp=>by simp at hp⟩
 ·have hc:=h.cells (g:=g) rfl
  refine⟨some ⟨g,0,none⟩,N.length,cap,rfl,rfl,h3,h4,(fun h=>by cases h),fun i p hp=>?_⟩;obtain⟨h5,h6⟩:=D4 N i p hp;have e1:=hc _ _ h5;have e2:=hc _ _ h6;refine⟨g,0,rfl,hS g rfl,?_,?_⟩
  ·simpa [Addr.add_lit] using e1
  ·simpa [Addr.add_lit,aoI] using e2
theorem vu.cells {a:Option Addr} {c:Nat} (h:vu W S (.slice a n c) N):∀p j u,a=some p->(kn N)[j]?=some u->W.cell? (p.add j)=some u:=by
 obtain⟨a',n',c',e,h2,h3,h4,h5,h6⟩:=h;obtain⟨rfl,rfl,rfl⟩:=Value.slice.inj e;intro p j u hp hj;have hlen:(kn N).length=N.length*2:=by
  clear h2 h6 hj;induction N with
  | nil=>rfl
  | cons a r ih=>simp only[kn,anU,anK,anY]at ih ⊢;omega
 have ep:j<N.length*2:=by
  have:=(anA.1 hj).1;omega
 obtain⟨i,hi⟩:=aq (j / 2);have bm:i<N.length:=by omega
 obtain⟨g,o,e1,e2,e3,e4⟩:=h6 i N[i] (anx bm);rw[hp]at e1;obtain rfl:=anz e1;obtain⟨p1,p2⟩:=D4 N i N[i] (anx bm);rcases Nat.mod_two_eq_zero_or_one j with h0|h0
 ·have tq:j=i*2:=by omega
  rw[tq]at hj ⊢;rw[hj]at p1;rw[anz p1];simpa [Addr.add_lit] using e3
 ·have tq:j=i*2+1:=by omega
  rw[tq]at hj ⊢;rw[hj]at p2;rw[anz p2];simpa [Addr.add_lit,aoI] using e4
theorem ahx (N:Nm):(kn N).length=N.length*2:=by
 induction N with
 | nil=>rfl
 | cons a r ih=>simp only[kn,anU,anK,anY]at ih ⊢;omega
theorem y3 {e:TypeId} {size:Nat} {vs:List Value} (h:W.ownsRow B e size v n vs):∃aG aF,v=.slice aG n aF:=by
 rcases h.2 with⟨hv,h0⟩|⟨g,cap,cur,hv,_⟩
 ·exact⟨_,_,by rw[hv,h0]⟩
 ·exact⟨_,_,hv⟩
def mQ (W:World) (b:Nat) (L:List Fn):e6 (Nm×Nat)->Ending->World->Prop
 | .error (n,a)=>fun e w=>LR W n a e w/\ag (·=b) W w
 | .ok x=>fun e w=>e=.returned (.tuple #[])/\kU w b L x.1 x.2/\ag (·=b) W w
theorem Fg (b:Nat) (L:List Fn) (N:Nm) (m:Nat) (p:List UInt8×Int) (a:Int) (W:World) (h:kU W b L N m) :
 Calls prog 40 #[.pointer (some ⟨b,0,none⟩),.agg #[str p.1,.int .i64 p.2],a] W (mQ W b L (pg N m p a)):=by
 obtain⟨few,hlen,fv,tH,hb,hF,hN⟩:=h;have bb:=af hF;have aT:=af hN;obtain⟨eV,n,c,rfl,hn,iZ,hcm,h0,hcell⟩:=hN;have hbl:=hb.lt;have TD:b≠W.heap.size:=by omega
 obtain⟨W1,hW1⟩:=aq (W.alloc (.cells #[str p.1,.int .i64 p.2] 91));have aO:ag ai W W1:=by rw[hW1];exact ay.alloc _
 have hK:kU W b L N m:=⟨few,hlen,fv,_,hb,hF,aT⟩;have K5:=af (Iu b L N m p.1 W1 (hK.mods aO));have HK:=af (hK.mods aO);have bP:Hid (W1.cell? ⟨W.heap.size,0,none⟩=some (str p.1)/\W1.cell? ⟨W.heap.size,1,none⟩=some (.int .i64 p.2)):=af (by rw[hW1];simp);have aD:=af aO;have aA:=af hb;have aU:=af hcell;have xV:=af hn;have cu:=af hlen;unfold maxLen at hcm;clear aO hF hb hn hcell hK hlen;obtain⟨s,k⟩:=p;have ac6:∀ (e:Ending) (w2:World),(e=.returned (.int .i64 (e9 N s))/\ag ai W1 w2)->True:=fun _ _ _=>trivial
 clear ac6;by_cases hf:e9 N s≠0
 ·have xq:(e9 N s != 0)=true:=by simpa using hf
  have hr:pg N m (s,k) a=.error (9,a):=by unfold pg;rw[if_pos hf]
  rw[hr];clear hr hf;unfold mQ str at *;go_in;go_wp2_with fail;rw[<-hW1];clear hW1;go_at_call 66;refine K5.mono ?_;rintro e w2 ⟨rfl,aN⟩;have bJ:=af (aD.trans aN);go_wp2_with fail;refine (xc 9 a w2).mono ?_;rintro e w3 ⟨⟨g,rfl,hb3⟩,aR⟩;go_wp2;exact⟨rfl,⟨g,rfl,hb3⟩,(bJ.trans aR).mono fun _ _ f=>f.elim⟩
 ·have xq:(e9 N s != 0)=false:=by simpa using hf
  by_cases fM:m=12
  ·have hr:pg N m (s,k) a=.error (12,a):=by unfold pg;rw[if_neg hf,if_pos fM]
   rw[hr];clear hr hf;subst fM;unfold mQ str at *;go_in;go_wp2_with fail;rw[<-hW1];clear hW1;go_at_call 66;refine K5.mono ?_;rintro e w2 ⟨rfl,aN⟩;have bJ:=af (aD.trans aN);have aaO:w2.cell? ⟨b,2,none⟩=some (.int .i64 12):=bJ.cellOf (aA.cell rfl) id;go_wp2_with fail;refine (xc 12 a w2).mono ?_;rintro e w3 ⟨⟨g,rfl,hb3⟩,aR⟩;go_wp2;exact⟨rfl,⟨g,rfl,hb3⟩,(bJ.trans aR).mono fun _ _ f=>f.elim⟩
  ·have hr:pg N m (s,k) a=.ok (N++[(s,k)],m+1):=by unfold pg;rw[if_neg hf,if_neg fM]
   rw[hr];have ND:((m:Int)==12)=false:=(by simp;omega);obtain⟨i0,hi,hz0,hz1,hz2⟩:=info_parts Wd;have aI:=af (⟨hi,hz0,hz1,hz2⟩:_/\_/\_/\_);clear hr hf hi hz0 hz1 hz2;unfold mQ str at *;go_in;go_wp2_with fail;rw[<-hW1];clear hW1;go_at_call 66;refine K5.mono ?_;rintro e w2 ⟨rfl,aN⟩;have bJ:=af (aD.trans aN);have aaO:w2.cell? ⟨b,2,none⟩=some (.int .i64 m):=bJ.cellOf (aA.cell rfl) id;have aaP:w2.cell? ⟨b,1,none⟩=some (.slice eV n c):=bJ.cellOf (aA.cell rfl) id;have aaT:w2.cell? ⟨W.heap.size,0,none⟩=some (.string ⟨s.toArray⟩):=aN.cellOf bP.1 id;have ak8:w2.cell? ⟨W.heap.size,1,none⟩=some (.int .i64 k):=aN.cellOf bP.2 id;have alj:w2.frozen? ⟨b,1,none⟩=false:=((aA.mods bJ id).free 1);go_wp2_with fail;have alF:b<w2.heap.size:=(aA.mods bJ id).lt;have alG:b≠w2.heap.size:=(by omega);have amA:W.heap.size<w2.heap.size:=World.block_lt_of_cell? w2 _ aaT;have amB:W.heap.size≠w2.heap.size:=(by omega);have YP:=af (fun (w:World) (hm:ag ai w2 w) (p:Addr) (j:Nat) (u:Value) (hp:eV=some p) (hj:(kn N)[j]?=some u)=>(hm.cellOf ((aT.mods (T:=(·=b)) (bJ.mono fun _ _ f=>f.elim) (fun _ _ f=>f)).cells p j u hp hj) id:w.cell? (p.add j)=some u));have cY:Hid (kn N=kn N/\(kn N).length=n*2/\n<=12):=af ⟨rfl,by rw[ahx,xV.out],by have:=xV.out;have:=cu.out;omega⟩
   go_region_law (first|(refine ajy rfl (.tmp 27) (.tmp 29) 81 rfl 91 i0 _ 2 24 underlying81 aI.1 aI.2.1 aI.2.2.1 aI.2.2.2 rfl (by decide) eV n (kn N) (by simp[Act.eval,Act.put]) cY.2.1 h0 (fun p j u hp hj=>YP.out _ ((ag.refl ai w2).drew.alloc _) p j u hp hj) ⟨w2.heap.size,0,none⟩ 1 1 [.string ⟨s.toArray⟩,k] (by simp[Act.eval,Act.put]) rfl (Er _ _ _ _) (by decide) (by have:=cY.2.2;unfold maxLen;omega) (by have:=cY.2.2;omega) ?_;intro v' aJ hown bM;have b6:=af hown;have dx:=af (((ag.refl ai w2).drew.alloc (.cells #[.string ⟨s.toArray⟩,k] 91)).trans bM);clear hown bM;obtain⟨ra,rc,rfl⟩:=y3 b6;have c5:=dx.cellOf aaP id;have kv:=(aA.mods bJ id).mods dx id;have f5:=kv.free 1;have cM:=af kv;clear kv)|(go_simp;go_at_call 67;refine (aaM eV n c _ iZ (by unfold maxLen;omega) h0).mono ?_;rintro e w3 ⟨rfl,rfl⟩))
   all_goals
        have c6:(aJ.setCell ⟨b,1,none⟩ (.slice ra (n+1) rc)).cell? ⟨b,2,none⟩=some (.int .i64 m):=by
         have:=cM.set 1 (.slice ra (n+1) rc);exact this.cell rfl
        have f6:(aJ.setCell ⟨b,1,none⟩ (.slice ra (n+1) rc)).frozen? ⟨b,2,none⟩=false:=(cM.set 1 (.slice ra (n+1) rc)).free 2;have al7:¬9223372036854775807<(m:Int)+1:=(by omega);go_wp2_with fail;go_end0;have yv:ag (·=b) aJ ((aJ.setCell ⟨b,1,none⟩ (.slice ra (n+1) rc)).setCell ⟨b,2,none⟩ (.int .i64 ((m:Int)+1))):=ag.setCell (S:=(·=b)) (p:=⟨b,2,none⟩) (ag.setCell (S:=(·=b)) (p:=⟨b,1,none⟩) ay (fun _=>rfl) _) (fun _=>rfl) _;have hM:ag (·=b) W ((aJ.setCell ⟨b,1,none⟩ (.slice ra (n+1) rc)).setCell ⟨b,2,none⟩ (.int .i64 ((m:Int)+1))):=((bJ.trans dx).mono fun _ _ f=>f.elim).trans yv;have hrow:=b6.out;rw[show n+1=(N++[(s,k)]).length by simp[xV.out],show kn N++[.string ⟨s.toArray⟩,.int .i64 k]=kn (N++[(s,k)]) from (Eb N s k).symm]at hrow;have Td:=V0 (S:=(·=b)) hrow (fun q hq=>by have:=(hrow.lt q hq).1;simp at this;omega);rw[show (N++[(s,k)]).length=n+1 by simp[xV.out]]at Td;exact⟨rfl,⟨by omega,by have:=cu.out;simp;omega,fv,.slice ra (n+1) rc,by simpa using (cM.set 1 (.slice ra (n+1) rc)).set 2 (.int .i64 ((m:Int)+1)),bb.mods hM (fun _ _ f=>f),Td.mods yv (fun _ _ f=>f)⟩,hM⟩

/- Steps out of expressions. Conditions: what lower has and the expression lie. Steps out of && and ||, and of the marks of two. Printed by mklshort.py. Conditions: what lower has and the expression lie. Steps out of calls; every expression. Conditions: what lower has and the expression lie. -/
import Derived.Test.YtnicpmoanjddbaaGreatDoorMs13
import Derived.Test.YtnicpmoanjddbaaGreatDoorMs02
import Derived.Deep.RegionHeld3
namespace Go.Proofs.YtnicpmoanjddbaaGreatDoor.MidP
open Go.RowKit Go.Proofs.YtnicpmoanjddbaaGreatDoor.Wo Go.Maps Go.Proofs.YtnicpmoanjddbaaGreatDoor.TreeP
set_option linter.unusedVariables false
set_option linter.unusedSimpArgs false
structure LS (W0:World) (P0 M0:Nat→Prop) (b mb:Nat) (nm:List UInt8) (pr:Int) (W:World) (P M:Nat→Prop) (w:Lw):Prop where
 lat:LAt W b mb P M nm pr w
 ext:Ext None M0 M W0 W
 up:∀ k,P0 k→P k
 back:∀ k,k<W0.heap.size→P k→P0 k
 off0:∀ k,M0 k→¬ P0 k
theorem LS.begin {W:World} {P M:Nat→Prop} {b mb:Nat} {nm:List UInt8} {pr:Int} {w:Lw} (h:LAt W b mb P M nm pr w):LS W P M b mb nm pr W P M w:=⟨h,Ext.refl _ _ _,fun _ k=>k,fun _ _ k=>k,h.off⟩
theorem LS.after {W0 W wd:World} {P0 M0 P M:Nat→Prop} {b mb:Nat} {nm:List UInt8} {pr:Int} {w w':Lw} {ok:Ending→Prop} {e:Ending} (h:LS W0 P0 M0 b mb nm pr W P M w) (k:LGo W b mb P M nm pr w' ok e wd):∃ P' M',ok e∧LS W0 P0 M0 b mb nm pr wd P' M' w':=by
 obtain ⟨P',M',g1,g2,g3,g4,g5⟩:=k
 exact ⟨P',M',g1,g2,h.ext.trans g3,fun k hk=>g4 k (h.up k hk),fun k hk hp=>h.back k hk (g5 k (Nat.lt_of_lt_of_le hk h.ext.mods.size) hp),h.off0⟩
theorem LS.quiet {W0 W wd:World} {P0 M0 P M:Nat→Prop} {b mb:Nat} {nm:List UInt8} {pr:Int} {w:Lw} (h:LS W0 P0 M0 b mb nm pr W P M w) (hm:Mods None W wd):LS W0 P0 M0 b mb nm pr wd P M w :=
 ⟨h.lat.quiet hm,h.ext.trans (Ext.quiet hm),h.up,h.back,h.off0⟩
theorem LS.go {W0 W:World} {P0 M0 P M:Nat→Prop} {b mb:Nat} {nm:List UInt8} {pr:Int} {w:Lw} {ok:Ending→Prop} {e:Ending} (h:LS W0 P0 M0 b mb nm pr W P M w) (hok:ok e):LGo W0 b mb P0 M0 nm pr w ok e W:=⟨P,M,hok,h.lat,h.ext,h.up,h.back⟩
theorem LS.node {W0 W:World} {P0 M0 P M:Nat→Prop} {b mb:Nat} {nm:List UInt8} {pr:Int} {w:Lw} (h:LS W0 P0 M0 b mb nm pr W P M w) {g:Nat} {cs:List Value} {t:TypeId} (hb:Blk W0 g cs t) (hn:P0 g):Blk W g cs t :=
 hb.mods h.ext.mods (fun e=>e.elim (fun f=>f) (fun hm=>h.off0 g hm hn))
theorem LS.ex {W0 W:World} {P0 M0 P M:Nat→Prop} {b mb:Nat} {nm:List UInt8} {pr:Int} {w:Lw} (h:LS W0 P0 M0 b mb nm pr W P M w) {e:Ex} {v:Value} (he:ExAt W0 (fun k=>¬ P0 k) e v):ExAt W (fun k=>¬ P k) e v :=
 ExAt.modsTo (h.ext.mods.mono fun k _ hk=>hk.elim (fun f=>f.elim) (h.off0 k)) (fun k _ hk hp=>hk (h.up k hp)) e v he
theorem LS.exs {W0 W:World} {P0 M0 P M:Nat→Prop} {b mb:Nat} {nm:List UInt8} {pr:Int} {w:Lw} (h:LS W0 P0 M0 b mb nm pr W P M w) {l:List Ex} {vs:List Value} (he:ExsAt W0 (fun k=>¬ P0 k) l vs):ExsAt W (fun k=>¬ P k) l vs :=
 ExsAt.modsTo (h.ext.mods.mono fun k _ hk=>hk.elim (fun f=>f.elim) (h.off0 k)) (fun k _ hk hp=>hk (h.up k hp)) l vs he
theorem LS.row {W0 W:World} {P0 M0 P M:Nat→Prop} {b mb:Nat} {nm:List UInt8} {pr:Int} {w:Lw} (h:LS W0 P0 M0 b mb nm pr W P M w) {e:TypeId} {size n:Nat} {x:Value} {vs:List Value} (he:RowAt W0 (fun k=>¬ P0 k) e size x n vs):RowAt W (fun k=>¬ P k) e size x n vs :=
 he.mods (h.ext.mods.mono fun k _ hk=>hk.elim (fun f=>f.elim) (h.off0 k)) (fun k _ hk hp=>hk (h.up k hp))
theorem _root_.Go.Proofs.YtnicpmoanjddbaaGreatDoor.TreeP.Node.pt {W:World} {P:Nat→Prop} {v:Value} {cs:List Value} (h:TreeP.Node W (fun k=>¬ P k) v cs):∃ g,v=.pointer (some ⟨g,0,none⟩)∧P g∧Blk W g cs 223:=by
 obtain ⟨g,h1,h2,h3⟩:=h
 exact ⟨g,h1,Classical.byContradiction h2,h3⟩
def ExC (e:Ex):Prop:=∀ (v:Value) (b mb:Nat) (P M:Nat→Prop) (nm:List UInt8) (pr:Int) (w:Lw) (W:World),LAt W b mb P M nm pr w→ExAt W (fun k=>¬ P k) e v→NmE e→w.sz+8*exN e≤900000 →
 Calls Tryz.prog 95 #[.pointer (some ⟨b,0,none⟩),v] W (LGo W b mb P M nm pr (exprL e w).2 (fun en=>en=.returned (.int .i64 (exprL e w).1)))
theorem lstr_beq (a b:List UInt8):((⟨a.toArray⟩:ByteArray)==⟨b.toArray⟩)=(a==b):=by
 show (a.toArray==b.toArray)=(a==b)
 by_cases h:a=b
 · subst h;simp
 · rw [show (a==b)=false by simpa using h]
   simpa using h
theorem sz_types (w:Lw):w.types.length≤w.sz:=by unfold Lw.sz;omega
theorem sz_steps (w:Lw):w.steps.length≤w.sz:=by unfold Lw.sz;omega
theorem sz_labels (w:Lw):w.labels≤w.sz:=by unfold Lw.sz;omega
theorem sz_names (w:Lw):w.names.length≤w.sz:=by unfold Lw.sz;omega
set_option maxRecDepth 100000 in
set_option maxHeartbeats 1000000 in
theorem lx_num (a n:Int):ExC (.num a n):=by
 intro v b mb P M nm pr w W h he hN hs
 simp only [ExAt] at he
 obtain ⟨g,rfl,hg,hb⟩:=he.pt
 have c0:=hb.cell (i:=0) rfl
 have c2:=hb.cell (i:=2) rfl
 have hgl:=hb.lt
 have HS:=hiD (LS.begin h)
 have HZ:Hid (w.types.length<1000000∧w.steps.length<1000000):=hiD ⟨by have:=sz_types w;omega,by have:=sz_steps w;omega⟩
 clear h he hN hs hb
 go_enter Tryz.func95,Tryz.ntmps95
 go_wp2_with fail
 refine (to_any HS.out.lat 1 { stp0 with code:=1,n:=n } _ (StpV.bare _ rfl) HZ.out.1 HZ.out.2).mono ?_
 intro e w2 hk
 obtain ⟨P2,M2,rfl,hs2⟩:=HS.out.after hk
 have HS2:=hiD hs2
 clear hs2 hk
 go_wp2_with fail
 go_ret
 exact HS2.out.go rfl
set_option maxRecDepth 100000 in
set_option maxHeartbeats 1000000 in
theorem lx_input (a:Int):ExC (.input a):=by
 intro v b mb P M nm pr w W h he hN hs
 simp only [ExAt] at he
 obtain ⟨g,rfl,hg,hb⟩:=he.pt
 have c0:=hb.cell (i:=0) rfl
 have hgl:=hb.lt
 have HS:=hiD (LS.begin h)
 have HZ:Hid (w.types.length<1000000∧w.steps.length<1000000):=hiD ⟨by have:=sz_types w;omega,by have:=sz_steps w;omega⟩
 clear h he hN hs hb
 go_enter Tryz.func95,Tryz.ntmps95
 go_wp2_with fail
 refine (to_any HS.out.lat 1 { stp0 with code:=14 } _ (StpV.bare _ rfl) HZ.out.1 HZ.out.2).mono ?_
 intro e w2 hk
 obtain ⟨P2,M2,rfl,hs2⟩:=HS.out.after hk
 have HS2:=hiD hs2
 clear hs2 hk
 go_wp2_with fail
 go_ret
 exact HS2.out.go rfl
set_option maxRecDepth 100000 in
set_option maxHeartbeats 1000000 in
theorem lx_new {x:Ex} (ih:ExC x) (a:Int):ExC (.new a x):=by
 intro v b mb P M nm pr w W h he hN hs
 simp only [ExAt] at he
 obtain ⟨xv,he,hx⟩:=he
 obtain ⟨g,rfl,hg,hb⟩:=he.pt
 obtain ⟨gx,rfl⟩:=hx.ptr
 have c0:=hb.cell (i:=0) rfl
 have c5:=hb.cell (i:=5) rfl
 have hgl:=hb.lt
 have HS:=hiD (LS.begin h)
 have HX:=hiD hx
 simp only [NmE,exN] at hN hs
 have HZ:=hiD (And.intro hN hs)
 clear h he hN hs hb hx
 go_enter Tryz.func95,Tryz.ntmps95
 go_wp2_with fail
 refine (ih _ b mb P M nm pr w W HS.out.lat HX.out HZ.out.1 (by have:=HZ.out.2;omega)).mono ?_
 intro e w2 hk
 obtain ⟨P2,M2,rfl,hs2⟩:=HS.out.after hk
 have HS2:=hiD hs2
 have HZ2:Hid ((exprL x w).2.types.length<1000000∧(exprL x w).2.steps.length<1000000):=hiD (by have h1:=expr_sz x w;have h2:=HZ.out.2;exact ⟨by have:=sz_types (exprL x w).2;omega,by have:=sz_steps (exprL x w).2;omega⟩)
 clear hs2 hk
 go_wp2_with fail
 refine (to_any HS2.out.lat 2 { stp0 with code:=9,a:=(exprL x w).1 } _ (StpV.bare _ rfl) HZ2.out.1 HZ2.out.2).mono ?_
 intro e w3 hk
 obtain ⟨P3,M3,rfl,hs3⟩:=HS2.out.after hk
 have HS3:=hiD hs3
 clear hs3 hk
 go_wp2_with fail
 go_ret
 exact HS3.out.go rfl
set_option maxRecDepth 100000 in
set_option maxHeartbeats 1000000 in
theorem lx_len {x:Ex} (ih:ExC x) (a:Int):ExC (.len a x):=by
 intro v b mb P M nm pr w W h he hN hs
 simp only [ExAt] at he
 obtain ⟨xv,he,hx⟩:=he
 obtain ⟨g,rfl,hg,hb⟩:=he.pt
 obtain ⟨gx,rfl⟩:=hx.ptr
 have c0:=hb.cell (i:=0) rfl
 have c5:=hb.cell (i:=5) rfl
 have hgl:=hb.lt
 have HS:=hiD (LS.begin h)
 have HX:=hiD hx
 simp only [NmE,exN] at hN hs
 have HZ:=hiD (And.intro hN hs)
 clear h he hN hs hb hx
 go_enter Tryz.func95,Tryz.ntmps95
 go_wp2_with fail
 refine (ih _ b mb P M nm pr w W HS.out.lat HX.out HZ.out.1 (by have:=HZ.out.2;omega)).mono ?_
 intro e w2 hk
 obtain ⟨P2,M2,rfl,hs2⟩:=HS.out.after hk
 have HS2:=hiD hs2
 have HZ2:Hid ((exprL x w).2.types.length<1000000∧(exprL x w).2.steps.length<1000000):=hiD (by have h1:=expr_sz x w;have h2:=HZ.out.2;exact ⟨by have:=sz_types (exprL x w).2;omega,by have:=sz_steps (exprL x w).2;omega⟩)
 clear hs2 hk
 go_wp2_with fail
 refine (to_any HS2.out.lat 1 { stp0 with code:=10,a:=(exprL x w).1 } _ (StpV.bare _ rfl) HZ2.out.1 HZ2.out.2).mono ?_
 intro e w3 hk
 obtain ⟨P3,M3,rfl,hs3⟩:=HS2.out.after hk
 have HS3:=hiD hs3
 clear hs3 hk
 go_wp2_with fail
 go_ret
 exact HS3.out.go rfl
theorem lzero_int (w:World):(zeroValue 3).run Tryz.prog w=.ok (.int .i64 0) w:=by kernel_rfl
set_option maxRecDepth 100000 in
set_option maxHeartbeats 1000000 in
theorem lx_item {x i:Ex} (ih:ExC x) (ih2:ExC i) (a:Int):ExC (.item a x i):=by
 intro v b mb P M nm pr w W h he hN hs
 simp only [ExAt] at he
 obtain ⟨xv,iv,he,hx,hi⟩:=he
 obtain ⟨g,rfl,hg,hb⟩:=he.pt
 obtain ⟨gx,rfl⟩:=hx.ptr
 obtain ⟨gi,rfl⟩:=hi.ptr
 have c0:=hb.cell (i:=0) rfl
 have c5:=hb.cell (i:=5) rfl
 have hgl:=hb.lt
 have HS:=hiD (LS.begin h)
 have HB:=hiD (And.intro hb hg)
 have HX:=hiD (And.intro hx hi)
 simp only [NmE,exN] at hN hs
 have HZ:=hiD (And.intro hN hs)
 clear h he hN hs hb hx hi hg
 go_enter Tryz.func95,Tryz.ntmps95
 go_wp2_with fail
 refine (ih _ b mb P M nm pr w W HS.out.lat HX.out.1 HZ.out.1.1 (by have:=HZ.out.2;omega)).mono ?_
 intro e w2 hk
 obtain ⟨P2,M2,rfl,hs2⟩:=HS.out.after hk
 have hb2:=hs2.node HB.out.1 HB.out.2
 have c6:=hb2.cell (i:=6) rfl
 have hgl2:=hb2.lt
 have HS2:=hiD hs2
 have HX2:=hiD (hs2.ex HX.out.2)
 have HZ2:Hid ((exprL x w).2.sz+8*exN i≤900000):=hiD (by have h1:=expr_sz x w;have h2:=HZ.out.2;omega)
 clear hs2 hk hb2
 go_wp2_with fail
 refine (ih2 _ b mb P2 M2 nm pr (exprL x w).2 w2 HS2.out.lat HX2.out HZ.out.1.2 HZ2.out).mono ?_
 intro e w3 hk
 obtain ⟨P3,M3,rfl,hs3⟩:=HS2.out.after hk
 have HS3:=hiD hs3
 have HZ3:Hid ((exprL i (exprL x w).2).2.types.length<1000000∧(exprL i (exprL x w).2).2.steps.length<1000000):=hiD (by have h1:=expr_sz i (exprL x w).2;have h2:=HZ2.out;exact ⟨by have:=sz_types (exprL i (exprL x w).2).2;omega,by have:=sz_steps (exprL i (exprL x w).2).2;omega⟩)
 clear hs3 hk
 go_wp2_with fail
 refine (to_any HS3.out.lat 1 { stp0 with code:=11,a:=(exprL x w).1,b:=(exprL i (exprL x w).2).1 } _ (StpV.bare _ rfl) HZ3.out.1 HZ3.out.2).mono ?_
 intro e w4 hk
 obtain ⟨P4,M4,rfl,hs4⟩:=HS3.out.after hk
 have HS4:=hiD hs4
 clear hs4 hk
 go_wp2_with fail
 go_ret
 exact HS4.out.go rfl
set_option maxRecDepth 100000 in
set_option maxHeartbeats 1000000 in
theorem lx_var (a:Int) (x:List UInt8):ExC (.var a x):=by
 intro v b mb P M nm pr w W h he hN hs
 simp only [ExAt] at he
 obtain ⟨g,rfl,hg,hb⟩:=he.pt
 obtain ⟨tv,sv,cs,hlb,-⟩:=h.blk
 have c0:=hb.cell (i:=0) rfl
 have c3:=hb.cell (i:=3) rfl
 have hgl:=hb.lt
 have b4:=hlb.cell (i:=4) rfl
 have hbl:=hlb.lt
 simp only [NmE,nmOk] at hN
 obtain ⟨n,F,g1,g2,g3⟩:=h.names
 have hlk:=(g1.mods (Mods.refl None W).drew (fun f=>f)).look Tryz.underlying87 (lzero_int _) x (by unfold maxLen;omega)
 rw [g3] at hlk
 have HS:=hiD (LS.begin h)
 have HM:=hiD ((Mods.refl None W).drew)
 unfold MidP.str at hlk
 unfold TreeP.str at c3
 clear h he hN hs hb hlb g1 g2 g3
 go_enter Tryz.func95,Tryz.ntmps95
 go_wp2_with fail
 go_region
 all_goals
  go_wp2_with fail
  go_ret
  exact (HS.out.quiet HM.out).go rfl
set_option maxRecDepth 100000 in
set_option maxHeartbeats 1000000 in
theorem lx_un {x:Ex} (ih:ExC x) (a:Int) (op:List UInt8):ExC (.un a op x):=by
 intro v b mb P M nm pr w W h he hN hs
 simp only [ExAt] at he
 obtain ⟨xv,he,hx⟩:=he
 obtain ⟨g,rfl,hg,hb⟩:=he.pt
 obtain ⟨gx,rfl⟩:=hx.ptr
 have c0:=hb.cell (i:=0) rfl
 have c5:=hb.cell (i:=5) rfl
 have hgl:=hb.lt
 have HS:=hiD (LS.begin h)
 have HB:=hiD (And.intro hb hg)
 have HX:=hiD hx
 simp only [NmE,exN] at hN hs
 have HZ:=hiD (And.intro hN hs)
 clear h he hN hs hb hx hg
 go_enter Tryz.func95,Tryz.ntmps95
 go_wp2_with fail
 refine (ih _ b mb P M nm pr w W HS.out.lat HX.out HZ.out.1.2 (by have:=HZ.out.2;omega)).mono ?_
 intro e w2 hk
 obtain ⟨P2,M2,rfl,hs2⟩:=HS.out.after hk
 have hb2:=hs2.node HB.out.1 HB.out.2
 have d4:=hb2.cell (i:=4) rfl
 have hgl2:=hb2.lt
 obtain ⟨tv,sv,cs,hlb,-⟩:=hs2.lat.blk
 have b6:=hlb.cell (i:=6) rfl
 have hbl:=hlb.lt
 have HS2:=hiD hs2
 have HZ2:Hid ((exprL x w).2.types.length<1000000∧(exprL x w).2.steps.length<1000000):=hiD (by have h1:=expr_sz x w;have h2:=HZ.out.2;exact ⟨by have:=sz_types (exprL x w).2;omega,by have:=sz_steps (exprL x w).2;omega⟩)
 clear hs2 hk hb2 hlb
 unfold TreeP.str at d4
 by_cases hop:op=[33]
 · subst hop
   have e2:((⟨#[33]⟩:ByteArray)==⟨#[33]⟩)=true:=rfl
   go_wp2_with fail
   refine (zero_any HS2.out.lat (exprL x w).1 HZ2.out.1 HZ2.out.2).mono ?_
   intro e w3 hk
   obtain ⟨P3,M3,rfl,hs3⟩:=HS2.out.after hk
   have HS3:=hiD hs3
   clear hs3 hk
   go_wp2_with fail
   go_ret
   have:=HS3.out.go (ok:=fun en=>en=.returned (.int .i64 (exprL (.un a [33] x) w).1)) (e:=.returned (.int .i64 (exprL (.un a [33] x) w).1)) rfl
   simp only [exprL,if_true] at this ⊢
   exact this
 · have e2:((⟨op.toArray⟩:ByteArray)==⟨#[33]⟩)=false:=by
    rw [show (⟨#[33]⟩:ByteArray)=⟨([33]:List UInt8).toArray⟩ from rfl,lstr_beq];simpa using hop
   have e3:(op==[33])=false:=by simpa using hop
   have HOP:=hiD hop
   clear hop
   go_wp2_with fail
   refine (to_any HS2.out.lat 1 { stp0 with code:=3,op:=[45],a:=(exprL x w).2.none,b:=(exprL x w).1 } _ (StpV.bare _ rfl) HZ2.out.1 HZ2.out.2).mono ?_
   intro e w3 hk
   obtain ⟨P3,M3,rfl,hs3⟩:=HS2.out.after hk
   have HS3:=hiD hs3
   clear hs3 hk
   go_wp2_with fail
   go_ret
   rw [show exprL (.un a op x) w=toL 1 { stp0 with code:=3,op:=[45],a:=(exprL x w).2.none,b:=(exprL x w).1 } (exprL x w).2 by simp only [exprL,if_neg HOP.out]]
   exact HS3.out.go rfl
/-! The same,for a walk that began elsewhere;what comes out by names. -/
theorem LS.cells {W0 W:World} {P0 M0 P M:Nat→Prop} {b mb:Nat} {nm:List UInt8} {pr:Int} {w:Lw} (h:LS W0 P0 M0 b mb nm pr W P M w):W.cell? ⟨b,4,none⟩=some (.map (some mb))∧W.cell? ⟨b,5,none⟩=some (.int .i64 (w.labels:Int))∧W.cell? ⟨b,6,none⟩=some (.int .i64 w.none)∧b<W.heap.size:=by
 obtain ⟨tv,sv,cs,hlb,-⟩:=h.lat.blk
 exact ⟨hlb.cell (i:=4) rfl,hlb.cell (i:=5) rfl,hlb.cell (i:=6) rfl,hlb.lt⟩
theorem LS.expr {W0 W:World} {P0 M0 P M:Nat→Prop} {b mb:Nat} {nm:List UInt8} {pr:Int} {w w':Lw} {n:Int} {e:Ex} {v:Value} (ih:ExC e) (h:LS W0 P0 M0 b mb nm pr W P M w) (he:ExAt W0 (fun k=>¬ P0 k) e v) (hN:NmE e) (hz:w.sz+8*exN e≤900000) (hr:exprL e w=(n,w')) :
 Calls Tryz.prog 95 #[.pointer (some ⟨b,0,none⟩),v] W fun en wd=>∃ P' M',en=.returned (.int .i64 n)∧LS W0 P0 M0 b mb nm pr wd P' M' w':=by
 refine (ih v b mb P M nm pr w W h.lat (h.ex he) hN hz).mono ?_
 rw [hr]
 exact fun e wd k=>h.after k
theorem LS.to {W0 W:World} {P0 M0 P M:Nat→Prop} {b mb:Nat} {nm:List UInt8} {pr:Int} {w w':Lw} {n:Int} {v:Value} (h:LS W0 P0 M0 b mb nm pr W P M w) (k:Int) (s:Stp) (hv:StpV W (fun k=>¬ P k) s v) (hz:w.sz<1000000) (hr:toL k s w=(n,w')) :
 Calls Tryz.prog 33 #[.pointer (some ⟨b,0,none⟩),.int .i64 k,v] W fun en wd=>∃ P' M',en=.returned (.int .i64 n)∧LS W0 P0 M0 b mb nm pr wd P' M' w':=by
 refine (to_any h.lat k s v hv (by have:=sz_types w;omega) (by have:=sz_steps w;omega)).mono ?_
 have hn:n=(w.types.length:Int):=by rw [show n=(toL k s w).1 by rw [hr]];rfl
 rw [hr,hn]
 exact fun e wd k=>h.after k
theorem LS.add {W0 W:World} {P0 M0 P M:Nat→Prop} {b mb:Nat} {nm:List UInt8} {pr:Int} {w w':Lw} {v:Value} (h:LS W0 P0 M0 b mb nm pr W P M w) (s:Stp) (hv:StpV W (fun k=>¬ P k) s v) (hz:w.sz<1000000) (hr:addL s w=w') :
 Calls Tryz.prog 35 #[.pointer (some ⟨b,0,none⟩),v] W fun en wd=>∃ P' M',en=.returned (.tuple #[])∧LS W0 P0 M0 b mb nm pr wd P' M' w':=by
 refine (add_any h.lat s v hv (by have:=sz_steps w;omega)).mono ?_
 rw [hr]
 exact fun e wd k=>h.after k
theorem LS.zero {W0 W:World} {P0 M0 P M:Nat→Prop} {b mb:Nat} {nm:List UInt8} {pr:Int} {w w':Lw} {n:Int} (h:LS W0 P0 M0 b mb nm pr W P M w) (a:Int) (hz:w.sz<1000000) (hr:zeroL a w=(n,w')) :
 Calls Tryz.prog 116 #[.pointer (some ⟨b,0,none⟩),.int .i64 a] W fun en wd=>∃ P' M',en=.returned (.int .i64 n)∧LS W0 P0 M0 b mb nm pr wd P' M' w':=by
 refine (zero_any h.lat a (by have:=sz_types w;omega) (by have:=sz_steps w;omega)).mono ?_
 rw [hr]
 exact fun e wd k=>h.after k
theorem LS.label {W0 W:World} {P0 M0 P M:Nat→Prop} {b mb:Nat} {nm:List UInt8} {pr:Int} {w w':Lw} {n:Nat} (h:LS W0 P0 M0 b mb nm pr W P M w) (hz:w.sz<1000000) (hr:labelL w=(n,w')) :
 Calls Tryz.prog 97 #[.pointer (some ⟨b,0,none⟩)] W fun en wd=>∃ P' M',en=.returned (.int .i64 (n:Int))∧LS W0 P0 M0 b mb nm pr wd P' M' w':=by
 refine (label_any h.lat (by have:=sz_labels w;omega)).mono ?_
 rw [hr]
 exact fun e wd k=>h.after k
set_option maxRecDepth 100000 in
set_option maxHeartbeats 1000000 in
theorem short_or {l r:Ex} (ih:ExC l) (ih2:ExC r) (a:Int) (v:Value) (b mb:Nat) (P M:Nat→Prop) (nm:List UInt8) (pr:Int) (w:Lw) (W:World) (h:LAt W b mb P M nm pr w) (he:ExAt W (fun k=>¬ P k) (.bin a [124,124] l r) v) (hN:NmE (.bin a [124,124] l r)) (hs:w.sz+8*exN (.bin a [124,124] l r)≤900000) :
 Calls Tryz.prog 117 #[.pointer (some ⟨b,0,none⟩),v] W (LGo W b mb P M nm pr (exprL (.bin a [124,124] l r) w).2 (fun en=>en=.returned (.int .i64 (exprL (.bin a [124,124] l r) w).1))):=by
 obtain ⟨ln,w1,h1⟩:∃ x y,labelL w=(x,y):=⟨_,_,rfl⟩
 obtain ⟨c1,c2,h2⟩:∃ x y,exprL l w1=(x,y):=⟨_,_,rfl⟩
 obtain ⟨t1,t2,h3⟩:∃ x y,toL 1 { stp0 with code:=3,op:=[33,61],a:=c1,b:=c2.none } c2=(x,y):=⟨_,_,rfl⟩
 obtain ⟨z1,z2,h4⟩:∃ x y,zeroL t1 t2=(x,y):=⟨_,_,rfl⟩
 obtain ⟨w5,h5⟩:∃ x,addL { stp0 with code:=5,a:=z1,label:=(ln:Int) } z2=x:=⟨_,rfl⟩
 obtain ⟨r1,r2,h6⟩:∃ x y,exprL r w5=(x,y):=⟨_,_,rfl⟩
 obtain ⟨w7,h7⟩:∃ x,addL { stp0 with code:=3,op:=[33,61],dst:=t1,a:=r1,b:=r2.none } r2=x:=⟨_,rfl⟩
 obtain ⟨w8,h8⟩:∃ x,addL { stp0 with code:=6,label:=(ln:Int) } w7=x:=⟨_,rfl⟩
 have hall:exprL (.bin a [124,124] l r) w=(t1,w8):=by
  simp only [exprL,shortA,h1,h2,h3,h4,h5,h6,h7,h8]
  simp only [h4,h5,h6,h7,h8,if_true,or_true]
 rw [hall]
 clear hall
 have z1_:=label_sz w
 have z2_:=expr_sz l w1
 have z3_:=to_sz 1 { stp0 with code:=3,op:=[33,61],a:=c1,b:=c2.none } c2
 have z4_:=zero_sz t1 t2
 have z5_:=add_sz { stp0 with code:=5,a:=z1,label:=(ln:Int) } z2
 have z6_:=expr_sz r w5
 have z7_:=add_sz { stp0 with code:=3,op:=[33,61],dst:=t1,a:=r1,b:=r2.none } r2
 rw [h1] at z1_
 rw [h2] at z2_
 rw [h3] at z3_
 rw [h4] at z4_
 rw [h5] at z5_
 rw [h6] at z6_
 rw [h7] at z7_
 simp only [NmE,exN] at hN hs
 simp only at z1_ z2_ z3_ z4_ z5_ z6_ z7_
 have HZ:Hid ((w.sz<1000000∧w1.sz+8*exN l≤900000)∧(c2.sz<1000000∧t2.sz<1000000∧z2.sz<1000000)∧w5.sz+8*exN r≤900000∧r2.sz<1000000∧w7.sz<1000000):=hiD (by refine ⟨⟨?_,?_⟩,⟨?_,?_,?_⟩,?_,?_,?_⟩ <;> omega)
 have HN:=hiD hN.2
 simp only [ExAt] at he
 obtain ⟨xv,iv,he,hx,hi⟩:=he
 obtain ⟨g,rfl,hg,hb⟩:=he.pt
 obtain ⟨gx,rfl⟩:=hx.ptr
 obtain ⟨gi,rfl⟩:=hi.ptr
 have c5:W.drew.cell? ⟨g,5,none⟩=some (.pointer (some ⟨gx,0,none⟩)):=hb.cell (i:=5) rfl
 have hgl:=hb.lt
 have HS:=hiD ((LS.begin h).quiet (Mods.refl None W).drew)
 have HB:=hiD (And.intro hb hg)
 have HX:=hiD (And.intro hx hi)
 have H12:=hiD (And.intro h1 (And.intro h2 (And.intro h3 (And.intro h4 (And.intro h5 (And.intro h6 (And.intro h7 h8)))))))
 clear h he hN hs hb hx hi hg z1_ z2_ z3_ z4_ z5_ z6_ z7_ h1 h2 h3 h4 h5 h6 h7 h8
 go_enter Tryz.func117,Tryz.ntmps117
 go_wp2_with fail
 go_region_held3 (fun w'=>w'.cell? ⟨g,5,none⟩=some (.pointer (some ⟨gx,0,none⟩)))
  (first|exact c5|assumption)
  ((first
    | (go_at_call 97;refine (HS.out.label HZ.out.1.1 H12.out.1).mono ?_;rintro e w2 ⟨P2,M2,rfl,hs⟩;have c52:=(hs.node HB.out.1 HB.out.2).cell (i:=5) rfl;have HS2:=hiD hs;clear hs)
    | (go_at_call 95;refine (LS.expr ih HS2.out HX.out.1 HN.out.1 HZ.out.1.2 H12.out.2.1).mono ?_;rintro e w3 ⟨P3,M3,rfl,hs⟩;have c53:=(hs.node HB.out.1 HB.out.2).cell (i:=5) rfl;have b53:=hs.cells.2.2;have b54:=hs.cells.2.2.2;have HS3:=hiD hs;clear hs)))
 all_goals
  have x6:=b53.1
  clear b53
  go_wp2_with fail
  refine (HS3.out.to 1 { stp0 with code:=3,op:=[33,61],a:=c1,b:=c2.none } (StpV.bare _ rfl) HZ.out.2.1.1 H12.out.2.2.1).mono ?_
  rintro e w4 ⟨P4,M4,rfl,hs⟩
  have hb4:=hs.node HB.out.1 HB.out.2
  have c44:=hb4.cell (i:=4) rfl
  have l4:=hb4.lt
  unfold TreeP.str at c44
  have HS4:=hiD hs
  clear hs hb4
  have e2:((⟨#[124,124]⟩:ByteArray)==⟨#[124,124]⟩)=true:=rfl
  go_wp2_with fail
  refine (HS4.out.zero t1 HZ.out.2.1.2.1 H12.out.2.2.2.1).mono ?_
  rintro e w5_ ⟨P5,M5,rfl,hs⟩
  have HSZ:=hiD hs
  clear hs
  go_wp2_with fail
  refine (HSZ.out.add { stp0 with code:=5,a:=z1,label:=(ln:Int) } (StpV.bare _ rfl) HZ.out.2.1.2.2 H12.out.2.2.2.2.1).mono ?_
  rintro e w6 ⟨P6,M6,rfl,hs⟩
  have hb6:=hs.node HB.out.1 HB.out.2
  have c66:=hb6.cell (i:=6) rfl
  have l6:=hb6.lt
  have HS6:=hiD hs
  clear hs hb6
  go_wp2_with fail
  refine (LS.expr ih2 HS6.out HX.out.2 HN.out.2 HZ.out.2.2.1 H12.out.2.2.2.2.2.1).mono ?_
  rintro e w7_ ⟨P7,M7,rfl,hs⟩
  have b76:=hs.cells.2.2.1
  have b77:=hs.cells.2.2.2
  have HS7:=hiD hs
  clear hs
  go_wp2_with fail
  refine (HS7.out.add { stp0 with code:=3,op:=[33,61],dst:=t1,a:=r1,b:=r2.none } (StpV.bare _ rfl) HZ.out.2.2.2.1 H12.out.2.2.2.2.2.2.1).mono ?_
  rintro e w8_ ⟨P8,M8,rfl,hs⟩
  have HS8:=hiD hs
  clear hs
  go_wp2_with fail
  refine (HS8.out.add { stp0 with code:=6,label:=(ln:Int) } (StpV.bare _ rfl) HZ.out.2.2.2.2 H12.out.2.2.2.2.2.2.2).mono ?_
  rintro e w9_ ⟨P9,M9,rfl,hs⟩
  have HS9:=hiD hs
  clear hs
  go_wp2_with fail
  go_ret
  exact HS9.out.go rfl
set_option maxRecDepth 100000 in
set_option maxHeartbeats 1000000 in
theorem short_and {l r:Ex} (ih:ExC l) (ih2:ExC r) (a:Int) (v:Value) (b mb:Nat) (P M:Nat→Prop) (nm:List UInt8) (pr:Int) (w:Lw) (W:World) (h:LAt W b mb P M nm pr w) (he:ExAt W (fun k=>¬ P k) (.bin a [38,38] l r) v) (hN:NmE (.bin a [38,38] l r)) (hs:w.sz+8*exN (.bin a [38,38] l r)≤900000) :
 Calls Tryz.prog 117 #[.pointer (some ⟨b,0,none⟩),v] W (LGo W b mb P M nm pr (exprL (.bin a [38,38] l r) w).2 (fun en=>en=.returned (.int .i64 (exprL (.bin a [38,38] l r) w).1))):=by
 obtain ⟨ln,w1,h1⟩:∃ x y,labelL w=(x,y):=⟨_,_,rfl⟩
 obtain ⟨c1,c2,h2⟩:∃ x y,exprL l w1=(x,y):=⟨_,_,rfl⟩
 obtain ⟨t1,t2,h3⟩:∃ x y,toL 1 { stp0 with code:=3,op:=[33,61],a:=c1,b:=c2.none } c2=(x,y):=⟨_,_,rfl⟩
 obtain ⟨z1,z2,h4⟩:∃ x y,zeroL t1 t2=(x,y):=⟨_,_,rfl⟩
 obtain ⟨w5,h5⟩:∃ x,addL { stp0 with code:=5,a:=t1,label:=(ln:Int) } t2=x:=⟨_,rfl⟩
 obtain ⟨r1,r2,h6⟩:∃ x y,exprL r w5=(x,y):=⟨_,_,rfl⟩
 obtain ⟨w7,h7⟩:∃ x,addL { stp0 with code:=3,op:=[33,61],dst:=t1,a:=r1,b:=r2.none } r2=x:=⟨_,rfl⟩
 obtain ⟨w8,h8⟩:∃ x,addL { stp0 with code:=6,label:=(ln:Int) } w7=x:=⟨_,rfl⟩
 have hall:exprL (.bin a [38,38] l r) w=(t1,w8):=by
  simp only [exprL,shortA,h1,h2,h3,h4,h5,h6,h7,h8]
  simp [h5,h6,h7,h8]
 rw [hall]
 clear hall
 have z1_:=label_sz w
 have z2_:=expr_sz l w1
 have z3_:=to_sz 1 { stp0 with code:=3,op:=[33,61],a:=c1,b:=c2.none } c2
 have z4_:=zero_sz t1 t2
 have z5_:=add_sz { stp0 with code:=5,a:=t1,label:=(ln:Int) } t2
 have z6_:=expr_sz r w5
 have z7_:=add_sz { stp0 with code:=3,op:=[33,61],dst:=t1,a:=r1,b:=r2.none } r2
 rw [h1] at z1_
 rw [h2] at z2_
 rw [h3] at z3_
 rw [h4] at z4_
 rw [h5] at z5_
 rw [h6] at z6_
 rw [h7] at z7_
 simp only [NmE,exN] at hN hs
 simp only at z1_ z2_ z3_ z4_ z5_ z6_ z7_
 have HZ:Hid ((w.sz<1000000∧w1.sz+8*exN l≤900000)∧(c2.sz<1000000∧t2.sz<1000000∧z2.sz<1000000)∧w5.sz+8*exN r≤900000∧r2.sz<1000000∧w7.sz<1000000):=hiD (by refine ⟨⟨?_,?_⟩,⟨?_,?_,?_⟩,?_,?_,?_⟩ <;> omega)
 have HN:=hiD hN.2
 simp only [ExAt] at he
 obtain ⟨xv,iv,he,hx,hi⟩:=he
 obtain ⟨g,rfl,hg,hb⟩:=he.pt
 obtain ⟨gx,rfl⟩:=hx.ptr
 obtain ⟨gi,rfl⟩:=hi.ptr
 have c5:W.drew.cell? ⟨g,5,none⟩=some (.pointer (some ⟨gx,0,none⟩)):=hb.cell (i:=5) rfl
 have hgl:=hb.lt
 have HS:=hiD ((LS.begin h).quiet (Mods.refl None W).drew)
 have HB:=hiD (And.intro hb hg)
 have HX:=hiD (And.intro hx hi)
 have H12:=hiD (And.intro h1 (And.intro h2 (And.intro h3 (And.intro h4 (And.intro h5 (And.intro h6 (And.intro h7 h8)))))))
 clear h he hN hs hb hx hi hg z1_ z2_ z3_ z4_ z5_ z6_ z7_ h1 h2 h3 h4 h5 h6 h7 h8
 go_enter Tryz.func117,Tryz.ntmps117
 go_wp2_with fail
 go_region_held3 (fun w'=>w'.cell? ⟨g,5,none⟩=some (.pointer (some ⟨gx,0,none⟩)))
  (first|exact c5|assumption)
  ((first
    | (go_at_call 97;refine (HS.out.label HZ.out.1.1 H12.out.1).mono ?_;rintro e w2 ⟨P2,M2,rfl,hs⟩;have c52:=(hs.node HB.out.1 HB.out.2).cell (i:=5) rfl;have HS2:=hiD hs;clear hs)
    | (go_at_call 95;refine (LS.expr ih HS2.out HX.out.1 HN.out.1 HZ.out.1.2 H12.out.2.1).mono ?_;rintro e w3 ⟨P3,M3,rfl,hs⟩;have c53:=(hs.node HB.out.1 HB.out.2).cell (i:=5) rfl;have b53:=hs.cells.2.2;have b54:=hs.cells.2.2.2;have HS3:=hiD hs;clear hs)))
 all_goals
  have x6:=b53.1
  clear b53
  go_wp2_with fail
  refine (HS3.out.to 1 { stp0 with code:=3,op:=[33,61],a:=c1,b:=c2.none } (StpV.bare _ rfl) HZ.out.2.1.1 H12.out.2.2.1).mono ?_
  rintro e w4 ⟨P4,M4,rfl,hs⟩
  have hb4:=hs.node HB.out.1 HB.out.2
  have c44:=hb4.cell (i:=4) rfl
  have l4:=hb4.lt
  unfold TreeP.str at c44
  have HS4:=hiD hs
  clear hs hb4
  have e2:((⟨#[38,38]⟩:ByteArray)==⟨#[124,124]⟩)=false:=rfl
  go_wp2_with fail
  have HSZ:=HS4
  refine (HSZ.out.add { stp0 with code:=5,a:=t1,label:=(ln:Int) } (StpV.bare _ rfl) HZ.out.2.1.2.1 H12.out.2.2.2.2.1).mono ?_
  rintro e w6 ⟨P6,M6,rfl,hs⟩
  have hb6:=hs.node HB.out.1 HB.out.2
  have c66:=hb6.cell (i:=6) rfl
  have l6:=hb6.lt
  have HS6:=hiD hs
  clear hs hb6
  go_wp2_with fail
  refine (LS.expr ih2 HS6.out HX.out.2 HN.out.2 HZ.out.2.2.1 H12.out.2.2.2.2.2.1).mono ?_
  rintro e w7_ ⟨P7,M7,rfl,hs⟩
  have b76:=hs.cells.2.2.1
  have b77:=hs.cells.2.2.2
  have HS7:=hiD hs
  clear hs
  go_wp2_with fail
  refine (HS7.out.add { stp0 with code:=3,op:=[33,61],dst:=t1,a:=r1,b:=r2.none } (StpV.bare _ rfl) HZ.out.2.2.2.1 H12.out.2.2.2.2.2.2.1).mono ?_
  rintro e w8_ ⟨P8,M8,rfl,hs⟩
  have HS8:=hiD hs
  clear hs
  go_wp2_with fail
  refine (HS8.out.add { stp0 with code:=6,label:=(ln:Int) } (StpV.bare _ rfl) HZ.out.2.2.2.2 H12.out.2.2.2.2.2.2.2).mono ?_
  rintro e w9_ ⟨P9,M9,rfl,hs⟩
  have HS9:=hiD hs
  clear hs
  go_wp2_with fail
  go_ret
  exact HS9.out.go rfl
set_option maxRecDepth 100000 in
set_option maxHeartbeats 1000000 in
theorem lx_bin {l r:Ex} (ih:ExC l) (ih2:ExC r) (a:Int) (op:List UInt8):ExC (.bin a op l r):=by
 intro v b mb P M nm pr w W h he hN hs
 by_cases hor:op=[124,124]
 · subst hor
   have HSH:=hiD (short_or ih ih2 a v b mb P M nm pr w W h he hN hs)
   simp only [ExAt] at he
   obtain ⟨xv,iv,he,hx,hi⟩:=he
   obtain ⟨g,rfl,hg,hb⟩:=he.pt
   have c0:=hb.cell (i:=0) rfl
   have c4:=hb.cell (i:=4) rfl
   have hgl:=hb.lt
   unfold TreeP.str at c4
   have e1:((⟨#[124,124]⟩:ByteArray)==⟨#[38,38]⟩)=false:=rfl
   have e2:((⟨#[124,124]⟩:ByteArray)==⟨#[124,124]⟩)=true:=rfl
   have e3:(([124,124]:List UInt8)==[38,38])=false:=rfl
   have e4:(([124,124]:List UInt8)==[124,124])=true:=rfl
   clear h he hN hs hb hx hi hg
   go_enter Tryz.func95,Tryz.ntmps95
   go_wp2_with fail
   refine HSH.out.mono ?_
   rintro e w2 ⟨P2,M2,rfl,hk⟩
   have HK:=hiD hk
   clear hk
   go_wp2_with fail
   go_ret
   exact ⟨P2,M2,rfl,HK.out⟩
 by_cases hand:op=[38,38]
 · subst hand
   have HSH:=hiD (short_and ih ih2 a v b mb P M nm pr w W h he hN hs)
   simp only [ExAt] at he
   obtain ⟨xv,iv,he,hx,hi⟩:=he
   obtain ⟨g,rfl,hg,hb⟩:=he.pt
   have c0:=hb.cell (i:=0) rfl
   have c4:=hb.cell (i:=4) rfl
   have hgl:=hb.lt
   unfold TreeP.str at c4
   have e1:((⟨#[38,38]⟩:ByteArray)==⟨#[38,38]⟩)=true:=rfl
   have e3:(([38,38]:List UInt8)==[38,38])=true:=rfl
   clear h he hN hs hb hx hi hg hor
   go_enter Tryz.func95,Tryz.ntmps95
   go_wp2_with fail
   refine HSH.out.mono ?_
   rintro e w2 ⟨P2,M2,rfl,hk⟩
   have HK:=hiD hk
   clear hk
   go_wp2_with fail
   go_ret
   exact ⟨P2,M2,rfl,HK.out⟩
 obtain ⟨c1,c2,h2⟩:∃ x y,exprL l w=(x,y):=⟨_,_,rfl⟩
 obtain ⟨r1,r2,h6⟩:∃ x y,exprL r c2=(x,y):=⟨_,_,rfl⟩
 obtain ⟨t1,t2,h3⟩:∃ x y,toL 1 { stp0 with code:=3,op:=op,a:=c1,b:=r1 } r2=(x,y):=⟨_,_,rfl⟩
 have hall:exprL (.bin a op l r) w=(t1,t2):=by
  simp only [exprL,if_neg (show ¬ (op=[38,38]∨op=[124,124]) from fun e=>e.elim hand hor),h2,h6,h3]
 rw [hall]
 clear hall
 have z2_:=expr_sz l w
 have z6_:=expr_sz r c2
 rw [h2] at z2_
 rw [h6] at z6_
 simp only [NmE,exN] at hN hs
 simp only at z2_ z6_
 have HZ:Hid (w.sz+8*exN l≤900000∧c2.sz+8*exN r≤900000∧r2.sz<1000000):=hiD (by refine ⟨?_,?_,?_⟩ <;> omega)
 have HN:=hiD hN.2
 simp only [ExAt] at he
 obtain ⟨xv,iv,he,hx,hi⟩:=he
 obtain ⟨g,rfl,hg,hb⟩:=he.pt
 obtain ⟨gx,rfl⟩:=hx.ptr
 obtain ⟨gi,rfl⟩:=hi.ptr
 have c0:=hb.cell (i:=0) rfl
 have c4:=hb.cell (i:=4) rfl
 have c5:=hb.cell (i:=5) rfl
 have hgl:=hb.lt
 unfold TreeP.str at c4
 have HS:=hiD (LS.begin h)
 have HB:=hiD (And.intro hb hg)
 have HX:=hiD (And.intro hx hi)
 have H12:=hiD (And.intro h2 (And.intro h6 h3))
 have e1:((⟨op.toArray⟩:ByteArray)==⟨#[38,38]⟩)=false:=by
  rw [show (⟨#[38,38]⟩:ByteArray)=⟨([38,38]:List UInt8).toArray⟩ from rfl,lstr_beq];simpa using hand
 have e2:((⟨op.toArray⟩:ByteArray)==⟨#[124,124]⟩)=false:=by
  rw [show (⟨#[124,124]⟩:ByteArray)=⟨([124,124]:List UInt8).toArray⟩ from rfl,lstr_beq];simpa using hor
 have e3:(op==[38,38])=false:=by simpa using hand
 have e4:(op==[124,124])=false:=by simpa using hor
 clear h he hN hs hb hx hi hg z2_ z6_ h2 h6 h3 hor hand
 go_enter Tryz.func95,Tryz.ntmps95
 go_wp2_with fail
 refine (LS.expr ih HS.out HX.out.1 HN.out.1 HZ.out.1 H12.out.1).mono ?_
 rintro e w2 ⟨P2,M2,rfl,hs⟩
 have hb2:=hs.node HB.out.1 HB.out.2
 have c24:w2.drew.cell? ⟨g,4,none⟩=some (.string ⟨op.toArray⟩):=hb2.cell (i:=4) rfl
 have c26:w2.drew.cell? ⟨g,6,none⟩=some (.pointer (some ⟨gi,0,none⟩)):=hb2.cell (i:=6) rfl
 have l2:=hb2.lt
 have HS2:=hiD (hs.quiet (Mods.refl None w2).drew)
 clear hs hb2
 go_wp2_with fail
 go_region_held3 (fun w'=>w'.cell? ⟨g,4,none⟩=some (.string ⟨op.toArray⟩)∧w'.cell? ⟨g,6,none⟩=some (.pointer (some ⟨gi,0,none⟩)))
  (first|exact ⟨c24,c26⟩|assumption|exact ⟨c34,c36⟩|exact ⟨c44,c46⟩)
  ((first
    | (go_at_call 95;refine (LS.expr ih2 HS2.out HX.out.2 HN.out.2 HZ.out.2.1 H12.out.2.1).mono ?_;rintro e w3 ⟨P3,M3,rfl,hs⟩;have c34:w3.cell? ⟨g,4,none⟩=some (.string ⟨op.toArray⟩):=(hs.node HB.out.1 HB.out.2).cell (i:=4) rfl;have c36:w3.cell? ⟨g,6,none⟩=some (.pointer (some ⟨gi,0,none⟩)):=(hs.node HB.out.1 HB.out.2).cell (i:=6) rfl;have HS3:=hiD hs;clear hs)
    | (go_at_call 33;refine (HS3.out.to 1 { stp0 with code:=3,op:=op,a:=c1,b:=r1 } (StpV.bare _ rfl) HZ.out.2.2 H12.out.2.2).mono ?_;rintro e w4 ⟨P4,M4,rfl,hs⟩;have c44:w4.cell? ⟨g,4,none⟩=some (.string ⟨op.toArray⟩):=(hs.node HB.out.1 HB.out.2).cell (i:=4) rfl;have c46:w4.cell? ⟨g,6,none⟩=some (.pointer (some ⟨gi,0,none⟩)):=(hs.node HB.out.1 HB.out.2).cell (i:=6) rfl;have HS4:=hiD hs;clear hs)))
 all_goals
  go_wp2_with fail
  go_ret
  exact HS4.out.go rfl
theorem argsL_snoc:(l:List Ex)→(e:Ex)→(w:Lw)→argsL (l++[e]) w=((argsL l w).1++[(exprL e (argsL l w).2).1],(exprL e (argsL l w).2).2)
 | [],e,w=>by simp [argsL]
 | a::l,e,w=>by
   simp only [List.cons_append,argsL]
   rw [argsL_snoc l e]
theorem exsN_take:(l:List Ex)→(i:Nat)→(e:Ex)→l[i]?=some e→exsN (l.take i)+exN e≤exsN l
 | [],i,e,h=>by simp at h
 | a::l,0,e,h=>by
   simp only [List.getElem?_cons_zero,Option.some.injEq] at h
   subst h
   simp only [List.take_zero,exsN]
   omega
 | a::l,i+1,e,h=>by
   have:=exsN_take l i e (by simpa using h)
   simp only [List.take_succ_cons,exsN]
   omega
theorem NmEs.get:{l:List Ex}→NmEs l→{i:Nat}→{e:Ex}→l[i]?=some e→NmE e
 | [],h,i,e,he=>by simp at he
 | a::l,h,0,e,he=>by
   simp only [List.getElem?_cons_zero,Option.some.injEq] at he
   subst he
   simp only [NmEs] at h
   exact h.1
 | a::l,h,i+1,e,he=>by
   simp only [NmEs] at h
   exact NmEs.get h.2 (i:=i) (by simpa using he)
theorem low_exs {W:World} {S:Nat→Prop}:{l:List Ex}→{vs:List Value}→ExsAt W S l vs→(i:Nat)→(e:Ex)→l[i]?=some e→∃ v,vs[i]?=some v∧ExAt W S e v
 | [],vs,h,i,e,he=>by simp at he
 | a::r,vs,h,i,e,he=>by
   simp only [ExsAt] at h
   obtain ⟨x,r2,rfl,h1,h2⟩:=h
   cases i with
   | zero=>simp only [List.getElem?_cons_zero,Option.some.injEq] at he;subst he;exact ⟨x,rfl,h1⟩
   | succ i=>exact low_exs h2 i e (by simpa using he)
theorem low_ptr {w:World} {S:Nat→Prop} {args:List Ex} {es:List Value} {aa:Option Addr} {an ac:Nat} (hr:RowAt w S 141 1 (.slice aa an ac) args.length es) (he:ExsAt w S args es) {i:Nat} {e:Ex} (hi:args[i]?=some e):∃ g y,aa=some ⟨g,0,none⟩∧w.cell? ⟨g,i,none⟩=some (.pointer (some ⟨y,0,none⟩))∧ExAt w S e (.pointer (some ⟨y,0,none⟩)):=by
 obtain ⟨v,h1,h2⟩:=low_exs he i e hi
 obtain ⟨y,rfl⟩:=h2.ptr
 have hlt:i<args.length:=(List.getElem?_eq_some_iff.1 hi).1
 rcases hr.1.2 with ⟨hv,h0⟩|⟨g,cap,cur,hv,_,h3,h4,h5,h6,h7⟩
 · omega
 · simp only [Value.slice.injEq] at hv
   obtain ⟨rfl,rfl,rfl⟩:=hv
   refine ⟨g,y,rfl,?_,h2⟩
   have:=hr.1.cells (g:=g) rfl i _ h1
   cases i with
   | zero=>exact this
   | succ i=>simpa [Addr.add] using this
theorem low_ints {W:World} {S:Nat→Prop} {B:Nat} {v:Value} {l:List Int} (h:W.ownsRow B 3 1 v l.length (l.map (.int .i64))) (hS:∀ k,v.ownBlock=some k→¬ S k):IntsAt W S v l:=by
 rcases h.2 with ⟨hv,h0⟩|⟨g,cap,cur,hv,h3,h4,h5,h6,h7,h8⟩
 · obtain rfl:l=[]:=List.eq_nil_of_length_eq_zero h0
   exact ⟨none,0,hv,Nat.zero_le _,Nat.zero_le _,fun _=>rfl,fun i s hs=>by simp at hs⟩
 · refine ⟨_,cap,hv,h5,h6,(fun h=>by cases h),fun i x hx=>⟨g,0,rfl,hS g (by rw [hv];rfl),?_⟩⟩
   have:=h.cells (g:=g) (by rw [hv];rfl) i (.int .i64 x) (by rw [List.getElem?_map,hx];rfl)
   rw [add_plain] at this
   exact this
theorem LS.aside {W0 W wd:World} {P0 M0 P M S:Nat→Prop} {b mb:Nat} {nm:List UInt8} {pr:Int} {w:Lw} (h:LS W0 P0 M0 b mb nm pr W P M w) (hm:Mods S W wd) (hS:∀ k,S k→¬ M k∧¬ P k∧W0.heap.size≤k):LS W0 P0 M0 b mb nm pr wd P M w :=
 ⟨h.lat.aside hm (fun k hk=>⟨(hS k hk).1,(hS k hk).2.1⟩),h.ext.new hm (fun k hk hs=>by have:=(hS k hs).2.2;omega),h.up,h.back,h.off0⟩
theorem LS.give {W0 W:World} {P0 M0 P M Q:Nat→Prop} {b mb:Nat} {nm:List UInt8} {pr:Int} {w:Lw} (h:LS W0 P0 M0 b mb nm pr W P M w) (hQ:∀ k,Q k→¬ M k∧k<W.heap.size∧W0.heap.size≤k):LS W0 P0 M0 b mb nm pr W (fun k=>P k∨Q k) M w :=
 ⟨h.lat.give (fun k hk=>Or.inl hk) (fun k hk=>hk.elim Or.inl (fun q=>Or.inr ⟨(hQ k q).1,(hQ k q).2.1⟩)),h.ext,fun k hk=>Or.inl (h.up k hk),fun k hk hp=>hp.elim (h.back k hk) (fun q=>by have:=(hQ k q).2.2;omega),h.off0⟩
structure CArg (W:World) (P0 M0:Nat→Prop) (b mb:Nat) (nm:List UInt8) (pr:Int) (l:List Ex) (w:Lw) (i:Nat) (v:Value) (wr:World) (P M:Nat→Prop) (acc:List Int) (wi:Lw):Prop where
 ls:LS W P0 M0 b mb nm pr wr P M wi
 done:argsL (l.take i) w=(acc,wi)
 len:acc.length=i
 row:wr.ownsRow W.heap.size 3 1 v i (acc.map (Value.int .i64))
 far:∀ k,v.ownBlock=some k→¬ M k∧¬ P k
theorem CArg.next {W:World} {P0 M0 P M:Nat→Prop} {b mb:Nat} {nm:List UInt8} {pr:Int} {l:List Ex} {w wi:Lw} {i:Nat} {v v':Value} {wr w2 w4:World} {acc:List Int} (h:CArg W P0 M0 b mb nm pr l w i v wr P M acc wi) {e:Ex} (he:l[i]?=some e)
 {en:Ending} (hk:LGo wr b mb P M nm pr (exprL e wi).2 (fun en=>en=.returned (.int .i64 (exprL e wi).1)) en w2) :
 en=.returned (.int .i64 (exprL e wi).1)∧∃ P2 M2,LS W P0 M0 b mb nm pr w2 P2 M2 (exprL e wi).2∧w2.ownsRow W.heap.size 3 1 v i (acc.map (Value.int .i64))∧(∀ k,v.ownBlock=some k→¬ M2 k∧¬ P2 k)∧∀ (v':Value) (w4:World),
  w4.ownsRow W.heap.size 3 1 v' (i+1) (acc.map (Value.int .i64)++[.int .i64 (exprL e wi).1])→Grew (w2.alloc (.cells #[.int .i64 (exprL e wi).1] 3)) w4 v v' →
  CArg W P0 M0 b mb nm pr l w (i+1) v' w4 P2 M2 (acc++[(exprL e wi).1]) (exprL e wi).2:=by
 have hls:=h.ls.after hk
 obtain ⟨P2,M2,rfl,g2,g3,g4,g5⟩:=hk
 have hfar:∀ k,v.ownBlock=some k→¬ M2 k∧¬ P2 k:=fun k hk=>⟨fun m=>(h.far k hk).1 (g3.back k (h.row.lt k hk).2 m),fun p=>(h.far k hk).2 (g5 k (h.row.lt k hk).2 p)⟩
 have hrow:=g3.mods.ownsRow h.row (fun k hk e=>e.elim (fun f=>f) (h.far k hk).1)
 have hL2:LS W P0 M0 b mb nm pr w2 P2 M2 (exprL e wi).2:=⟨g2,h.ls.ext.trans g3,fun k hk=>g4 k (h.ls.up k hk),fun k hk hp=>h.ls.back k hk (g5 k (Nat.lt_of_lt_of_le hk h.ls.ext.mods.size) hp),h.ls.off0⟩
 refine ⟨rfl,P2,M2,hL2,hrow,hfar,fun v' w4 hown hg=>?_⟩
 have hma:Mods None w2 (w2.alloc (.cells #[.int .i64 (exprL e wi).1] 3)):=(Mods.refl _ _).alloc _
 have hsz:(w2.alloc (.cells #[.int .i64 (exprL e wi).1] 3)).heap.size=w2.heap.size+1:=by simp
 refine ⟨(hL2.quiet hma).aside hg.mods (fun k hk=>⟨(hfar k hk).1,(hfar k hk).2,(h.row.lt k hk).1⟩),?_,by simp [h.len],by simpa using hown,fun k hk=>?_⟩
 · rw [List.take_add_one,he]
   show argsL (l.take i++[e]) w=_
   rw [argsL_snoc,h.done]
 · rcases low_own hg hk with e'|e'
   · exact hfar k e'
   · exact ⟨fun m=>by have:=g2.old k m;omega,fun p=>by have:=g2.given k p;omega⟩
set_option maxRecDepth 100000 in
set_option maxHeartbeats 1000000 in
theorem lx_call {l:List Ex} (ih:∀ e∈l,ExC e) (a:Int) (f:List UInt8):ExC (.call a f l):=by
 intro v b mb P M nm pr w W h he hN hs
 obtain ⟨i0,hi0,hz0,hz1,hz2⟩:=low_info int_info
 have HI:=hiD (And.intro hi0 (And.intro hz0 (And.intro hz1 hz2)))
 simp only [ExAt] at he
 obtain ⟨xv,vs,he,hr,hx⟩:=he
 obtain ⟨g,rfl,hg,hb⟩:=he.pt
 obtain ⟨aa,ac,rfl⟩:=low_form hr.1
 obtain ⟨n,hn⟩:∃ n,n=l.length:=⟨_,rfl⟩
 rw [← hn] at hb
 have c0:=hb.cell (i:=0) rfl
 have c7:=hb.cell (i:=7) rfl
 have hgl:=hb.lt
 have HS:=hiD (LS.begin h)
 have HB:=hiD (And.intro hb hg)
 have HX:=hiD (And.intro hr hx)
 simp only [NmE,exN] at hN hs
 have HZ:=hiD (And.intro hN hs)
 have hn1:n≤1000000:=by rw [hn];exact hN.2.1
 have HN:=hiD hn
 have HC0:Hid (CArg W P M b mb nm pr l w 0 (.slice none 0 0) W P M [] w):=hiD ⟨LS.begin h,by simp [argsL],rfl,World.ownsRow_nil _ _ _ _,fun k hk=>by cases hk⟩
 clear h he hN hs hb hx hr hi0 hz0 hz1 hz2 hn hg
 go_enter Tryz.func95,Tryz.ntmps95
 go_wp2_with fail
 go_loopw [7,9,103] (fun v7 v9 v103 wr=>∃ i P' M' acc wi,i≤n∧v103=.int .i64 ((i:Nat):Int)∧Hid (CArg W P M b mb nm pr l w i v7 wr P' M' acc wi)) (fun _ _ v _=>(n-intOf v).toNat)
 case atStart=>exact ⟨0,P,M,[],w,Nat.zero_le _,rfl,HC0⟩
 case round =>
  clear HC0
  obtain ⟨w1,rfl⟩:∃ w1:World,w1=wr:=⟨_,rfl⟩
  obtain ⟨i,P1,M1,acc,wi,hi,rfl,HC⟩:=hrel
  obtain ⟨oa,oc,rfl⟩:=low_form HC.out.row
  by_cases hlt:i<n
  · have hil:i<l.length:=by rw [← HN.out];exact hlt
    obtain ⟨e,hei⟩:∃ e,l[i]?=some e:=⟨_,List.getElem?_eq_getElem hil⟩
    obtain ⟨ga,y,rfl,c1,hex⟩:=low_ptr (HC.out.ls.row HX.out.1) (HC.out.ls.exs HX.out.2) hei
    have hl1:=World.block_lt_of_cell? _ _ c1
    have HE:=hiD (And.intro hei hex)
    have hmem:=List.mem_of_getElem? hei
    have HZ1:Hid (wi.sz+8*exN e≤900000):=hiD (by
        have h1:=args_sz (l.take i) w
        have h2:=exsN_take l i e hei
        have h3:=HZ.out.2
        rw [HC.out.done] at h1
        simp only at h1
        omega)
    have hpi:(i:Int)<(n:Int):=by omega
    clear hei hex hil
    go_wp2_with fail
    refine (ih e hmem _ b mb P1 M1 nm pr wi w1 HC.out.ls.lat HE.out.2 (NmEs.get HZ.out.1.2.2 HE.out.1) HZ1.out).mono ?_
    intro en w2 hk
    obtain ⟨rfl,P2,M2,k1,k2,k3,k4⟩:=HC.out.next (v':=.slice none 0 0) (w4:=w2) HE.out.1 hk
    obtain ⟨x1,hx1⟩:∃ x,x=(exprL e wi).1:=⟨_,rfl⟩
    obtain ⟨x2,hx2⟩:∃ x,x=(exprL e wi).2:=⟨_,rfl⟩
    rw [← hx1] at k4 ⊢
    rw [← hx2] at k4 k1
    have hs2:=(Mods.refl None w2).alloc (.cells #[.int .i64 x1] 3)
    have HOA:=hiD (hs2.ownsRow k2 (fun k hk f=>f))
    have HB2:Hid (W.heap.size≤(w2.alloc (.cells #[.int .i64 x1] 3)).heap.size):=hiD (by have h1:=k1.ext.mods.size;have h2:=hs2.size;omega)
    have HNX:=hiD k4
    have HON:Hid (∀ u∈[Value.int .i64 x1],u.oneCell'=true):=hiD (fun u hu=>by simp at hu;subst hu;rfl)
    clear hk k1 k2 k3 k4 hx1 hx2 hs2
    go_wp2_with (at_builtin;refine wpList_append_own_at _ rfl _ _ 52 rfl W.heap.size 3 i0 _ 1 8 Tryz.underlying52 HI.out.1 HI.out.2.1 HI.out.2.2.1 HI.out.2.2.2 rfl (by decide) (.slice oa i oc) i (acc.map (Value.int .i64)) rfl HOA.out ⟨w2.heap.size,0,none⟩ 1 1 [.int .i64 x1] rfl rfl (one_new _ _ _) HON.out (by unfold maxLen;omega) (by omega) HB2.out ?_;intro v' w7 hown hgrow hnil hloc;have HOW:=hiD hown;have HGR:=hiD (grew_of hgrow hloc);clear hown hgrow hnil hloc)
    have HC2:=hiD (HNX.out v' w7 HOW.out HGR.out)
    go_roundw
    case rel=>exact ⟨i+1,P2,M2,_,_,by omega,by go_num,HC2⟩
    case measure=>simp only [intOf];omega
  · obtain rfl:i=n:=by omega
    have hb1:=HC.out.ls.node HB.out.1 HB.out.2
    have c3:=hb1.cell (i:=3) rfl
    have l1:=hb1.lt
    unfold TreeP.str at c3
    have hls:=HC.out.ls.give (Q:=fun k=>(Value.slice oa i oc).ownBlock=some k) (fun k hk=>⟨(HC.out.far k hk).1,(HC.out.row.lt k hk).2,(HC.out.row.lt k hk).1⟩)
    have hdone:=HC.out.done
    have htk:l.take i=l:=List.take_of_length_le (by rw [← HN.out];exact Nat.le_refl _)
    rw [htk] at hdone
    have HARG:Hid (IntsAt w1 (fun k=>¬ (P1 k∨(Value.slice oa i oc).ownBlock=some k)) (.slice oa i oc) acc):=hiD (low_ints (B:=W.heap.size) (by have h1:=HC.out.row;have h2:=HC.out.len;rw [h2];exact h1) (fun k hk hn=>hn (Or.inr hk)))
    have HLS:=hiD hls
    have HD:=hiD hdone
    have HLN:=hiD HC.out.len
    have HZ1:Hid (wi.sz<1000000):=hiD (by
        have h1:=args_sz l w
        have h3:=HZ.out.2
        rw [hdone] at h1
        simp only at h1
        omega)
    have hpi:¬ (i:Int)<(i:Int):=by omega
    clear hls hdone htk hb1
    obtain ⟨t1,t2,h3⟩:∃ x y,toL 1 { stp0 with code:=7,name:=f,args:=acc } wi=(x,y):=⟨_,_,rfl⟩
    have hall:exprL (.call a f l) w=(t1,t2):=by
        simp only [exprL,HD.out]
        exact h3
    have HALL:=hiD hall
    have H3:=hiD h3
    clear h3 hall
    go_wp2_with fail
    refine (HLS.out.to 1 { stp0 with code:=7,name:=f,args:=acc } (StpV.mk { stp0 with code:=7,name:=f,args:=acc } HLN.out.symm HARG.out) HZ1.out H3.out).mono ?_
    rintro e w4 ⟨P4,M4,rfl,hs⟩
    have HS4:=hiD hs
    clear hs
    go_wp2_with fail
    go_ret
    rw [HALL.out]
    exact HS4.out.go rfl
mutual
theorem ex_any:(e:Ex)→ExC e
 | .num a n=>lx_num a n
 | .var a x=>lx_var a x
 | .un a op x=>lx_un (ex_any x) a op
 | .bin a op l r=>lx_bin (ex_any l) (ex_any r) a op
 | .call a f l=>lx_call (exs_any l) a f
 | .new a x=>lx_new (ex_any x) a
 | .len a x=>lx_len (ex_any x) a
 | .item a x i=>lx_item (ex_any x) (ex_any i) a
 | .input a=>lx_input a
theorem exs_any:(l:List Ex)→∀ e∈l,ExC e
 | [],e,h=>by cases h
 | a::l,e,h=>by
   rcases List.mem_cons.1 h with h1|h
   · rw [h1]
     exact ex_any a
   · exact exs_any l e h
end
end Go.Proofs.YtnicpmoanjddbaaGreatDoor.MidP

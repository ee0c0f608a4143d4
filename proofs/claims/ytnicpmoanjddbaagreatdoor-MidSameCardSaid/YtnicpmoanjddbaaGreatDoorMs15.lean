/- Steps out of statements. Conditions: what lower has and the statement lie. Steps out of blocks; every statement. Conditions: what lower has and the statements lie. -/
import Derived.Test.YtnicpmoanjddbaaGreatDoorMs14
namespace Go.Proofs.YtnicpmoanjddbaaGreatDoor.MidP
open Go.RowKit Go.Proofs.YtnicpmoanjddbaaGreatDoor.Wo Go.Maps Go.Proofs.YtnicpmoanjddbaaGreatDoor.TreeP
set_option linter.unusedVariables false
set_option linter.unusedSimpArgs false
def StC (s:St):Prop:=∀ (cs:List Value) (b mb:Nat) (P M:Nat→Prop) (nm:List UInt8) (pr:Int) (w:Lw) (W:World),LAt W b mb P M nm pr w→StAt W (fun k=>¬ P k) s cs→NmS s→PlOk w→w.sz+8*stN s≤900000 →
 Calls Tryz.prog 64 #[.pointer (some ⟨b,0,none⟩),.agg cs.toArray] W (LGo W b mb P M nm pr (stmtL s w) (fun en=>en=.returned (.tuple #[])))
def BlC (l:List St):Prop:=∀ (lv:Value) (vs:List Value) (b mb:Nat) (P M:Nat→Prop) (nm:List UInt8) (pr:Int) (w:Lw) (W:World),LAt W b mb P M nm pr w→RowAt W (fun k=>¬ P k) 143 7 lv l.length vs→StsAt W (fun k=>¬ P k) l vs→NmSs l→PlOk w→w.sz+8*stsN l≤900000 →
 Calls Tryz.prog 34 #[.pointer (some ⟨b,0,none⟩),lv] W (LGo W b mb P M nm pr (blockL l w) (fun en=>en=.returned (.tuple #[])))
theorem LS.block {W0 W:World} {P0 M0 P M:Nat→Prop} {b mb:Nat} {nm:List UInt8} {pr:Int} {w w':Lw} {l:List St} {lv:Value} {vs:List Value} (ih:BlC l) (h:LS W0 P0 M0 b mb nm pr W P M w) (hr:RowAt W0 (fun k=>¬ P0 k) 143 7 lv l.length vs) (hs:StsAt W0 (fun k=>¬ P0 k) l vs) (hN:NmSs l) (hp:PlOk w) (hz:w.sz+8*stsN l≤900000) (he:blockL l w=w') :
 Calls Tryz.prog 34 #[.pointer (some ⟨b,0,none⟩),lv] W fun en wd=>∃ P' M',en=.returned (.tuple #[])∧LS W0 P0 M0 b mb nm pr wd P' M' w':=by
 refine (ih lv vs b mb P M nm pr w W h.lat (h.row hr) (StsAt.modsTo (h.ext.mods.mono fun k _ hk=>hk.elim (fun f=>f.elim) (h.off0 k)) (fun k _ hk hp=>hk (h.up k hp)) l vs hs) hN hp hz).mono ?_
 rw [he]
 exact fun e wd k=>h.after k
structure SBox (W W1:World) (b mb:Nat) (P M:Nat→Prop) (nm:List UInt8) (pr:Int) (w:Lw) (cs:List Value):Prop where
 ls:LS W1 (fun k=>P k∨k=W.heap.size) M b mb nm pr W1 (fun k=>P k∨k=W.heap.size) M w
 blk:Blk W1 W.heap.size cs 143
 mods:Mods None W W1
theorem SBox.new {W:World} {b mb:Nat} {P M:Nat→Prop} {nm:List UInt8} {pr:Int} {w:Lw} (h:LAt W b mb P M nm pr w) (cs:List Value):SBox W (W.alloc (.cells cs.toArray 143)) b mb P M nm pr w cs:=by
 have hm:Mods None W (W.alloc (.cells cs.toArray 143)):=(Mods.refl _ _).alloc _
 refine ⟨LS.begin ((h.quiet hm).give (fun k hk=>Or.inl hk) (fun k hk=>hk.elim Or.inl (fun e=>Or.inr ⟨fun m=>by have:=h.old k m;omega,by rw [e];simp⟩))),Blk.new W _ _,hm⟩
theorem SBox.done {W W1 wd:World} {b mb:Nat} {P M P' M':Nat→Prop} {nm:List UInt8} {pr:Int} {w w':Lw} {cs:List Value} {ok:Ending→Prop} {e:Ending} (h:SBox W W1 b mb P M nm pr w cs) (hs:LS W1 (fun k=>P k∨k=W.heap.size) M b mb nm pr wd P' M' w') (hok:ok e):LGo W b mb P M nm pr w' ok e wd :=
 (hs.go hok).after (fun k=>k) (Ext.quiet h.mods) (fun k hk=>Or.inl hk) (fun k hk hp=>hp.elim id (fun e=>by omega))
theorem SBox.ex {W W1:World} {b mb:Nat} {P M:Nat→Prop} {nm:List UInt8} {pr:Int} {w:Lw} {cs:List Value} (h:SBox W W1 b mb P M nm pr w cs) {e:Ex} {v:Value} (he:ExAt W (fun k=>¬ P k) e v):ExAt W1 (fun k=>¬ (P k∨k=W.heap.size)) e v :=
 ExAt.modsTo (h.mods.mono fun _ _ f=>f.elim) (fun k _ hk hp=>hk (Or.inl hp)) e v he
theorem SBox.row {W W1:World} {b mb:Nat} {P M:Nat→Prop} {nm:List UInt8} {pr:Int} {w:Lw} {cs:List Value} (h:SBox W W1 b mb P M nm pr w cs) {e:TypeId} {size n:Nat} {x:Value} {vs:List Value} (he:RowAt W (fun k=>¬ P k) e size x n vs):RowAt W1 (fun k=>¬ (P k∨k=W.heap.size)) e size x n vs :=
 he.mods (h.mods.mono fun _ _ f=>f.elim) (fun k _ hk hp=>hk (Or.inl hp))
theorem SBox.sts {W W1:World} {b mb:Nat} {P M:Nat→Prop} {nm:List UInt8} {pr:Int} {w:Lw} {cs:List Value} (h:SBox W W1 b mb P M nm pr w cs) {l:List St} {vs:List Value} (he:StsAt W (fun k=>¬ P k) l vs):StsAt W1 (fun k=>¬ (P k∨k=W.heap.size)) l vs :=
 StsAt.modsTo (h.mods.mono fun _ _ f=>f.elim) (fun k _ hk hp=>hk (Or.inl hp)) l vs he
theorem SBox.node {W W1 wd:World} {b mb:Nat} {P M P' M':Nat→Prop} {nm:List UInt8} {pr:Int} {w w':Lw} {cs:List Value} (h:SBox W W1 b mb P M nm pr w cs) (hs:LS W1 (fun k=>P k∨k=W.heap.size) M b mb nm pr wd P' M' w'):Blk wd W.heap.size cs 143:=hs.node h.blk (Or.inr rfl)
theorem LS.look {W0 W:World} {P0 M0 P M:Nat→Prop} {b mb:Nat} {nm:List UInt8} {pr:Int} {w:Lw} (h:LS W0 P0 M0 b mb nm pr W P M w) (x:List UInt8) (hx:nmOk x):(Instr.lookup 87 (.map (some mb)) (.string ⟨x.toArray⟩) false).run Tryz.prog W=.ok (.int .i64 (getN w.names x)) W:=by
 obtain ⟨n,F,g1,g2,g3⟩:=h.lat.names
 have hlk:=g1.look Tryz.underlying87 (lzero_int _) x (by unfold nmOk at hx;unfold maxLen;omega)
 rw [g3] at hlk
 exact hlk
theorem LS.name {W0 W:World} {P0 M0 P M:Nat→Prop} {b mb:Nat} {nm:List UInt8} {pr:Int} {w w':Lw} {n:Int} (h:LS W0 P0 M0 b mb nm pr W P M w) (code a k:Int) (x:List UInt8) (p q oa ob:Option Addr) (on oc om od:Nat) (hx:nmOk x) (hz:w.sz<1000000) (hr:nameL x k w=(n,w')) :
 Calls Tryz.prog 96 #[.pointer (some ⟨b,0,none⟩),.agg #[.int .i64 code,.int .i64 a,.string ⟨x.toArray⟩,.pointer p,.pointer q,.slice oa on oc,.slice ob om od],.int .i64 k] W fun en wd=>∃ P' M',en=.returned (.int .i64 n)∧LS W0 P0 M0 b mb nm pr wd P' M' w':=by
 refine (name_any h.lat code a k x p q oa ob on oc om od (by unfold nmOk at hx;unfold maxLen;omega) (by have:=sz_types w;omega) (by have:=sz_names w;omega)).mono ?_
 rw [hr]
 exact fun e wd k=>h.after k
theorem LS.typed {W0 W:World} {P0 M0 P M:Nat→Prop} {b mb:Nat} {nm:List UInt8} {pr:Int} {w:Lw} (h:LS W0 P0 M0 b mb nm pr W P M w) {p:Nat} (hp:p<w.types.length):∃ tg tc,W.cell? ⟨b,2,none⟩=some (.slice (some ⟨tg,0,none⟩) w.types.length tc)∧W.cell? ⟨tg,p,none⟩=some (.int .i64 (w.types.getD p 0))∧tg<W.heap.size:=by
 obtain ⟨tv,sv,cs,hlb,hr,-⟩:=h.lat.blk
 rcases hr.2 with ⟨hv,h0⟩|⟨g,cap,cur,hv,-⟩
 · omega
 · subst hv
   refine ⟨g,cap,hlb.cell (i:=2) rfl,?_,(hr.lt g rfl).2⟩
   have:=hr.cells (g:=g) rfl p (.int .i64 (w.types.getD p 0)) (by rw [List.getElem?_map,List.getD_eq_getElem?_getD,List.getElem?_eq_getElem hp];rfl)
   rw [add_plain,Nat.zero_add] at this
   exact this
set_option maxRecDepth 100000 in
set_option maxHeartbeats 1000000 in
theorem ls_ret (a:Int) (e:Ex):StC (.ret a e):=by
 intro cs b mb P M nm pr w W h hs hN hp hz
 simp only [StAt] at hs
 obtain ⟨v,rfl,hx⟩:=hs
 obtain ⟨gx,rfl⟩:=hx.ptr
 simp only [NmS,stN] at hN hz
 obtain ⟨c1,c2,h2⟩:∃ x y,exprL e w=(x,y):=⟨_,_,rfl⟩
 obtain ⟨w3,h3⟩:∃ y,addL { stp0 with code:=8,a:=c1 } c2=y:=⟨_,rfl⟩
 have hall:stmtL (.ret a e) w=w3:=by simp only [stmtL,h2,h3]
 rw [hall]
 have z2_:=expr_sz e w
 rw [h2] at z2_
 simp only at z2_
 have HZ:=hiD (show w.sz+8*exN e≤900000∧c2.sz<1000000 by refine ⟨?_,?_⟩ <;> omega)
 have HN:=hiD hN
 have H12:=hiD (And.intro h2 h3)
 simp only [cells7,nilP,nilS,TreeP.str]
 obtain ⟨W1,hW1⟩:∃ W1,W1=W.alloc (.cells #[.int .i64 6,.int .i64 a,.string ⟨#[]⟩,.pointer none,.pointer (some ⟨gx,0,none⟩),.slice none 0 0,.slice none 0 0] 143):=⟨_,rfl⟩
 have hB:SBox W W1 b mb P M nm pr w [.int .i64 6,.int .i64 a,.string ⟨#[]⟩,.pointer none,.pointer (some ⟨gx,0,none⟩),.slice none 0 0,.slice none 0 0]:=by rw [hW1];exact SBox.new h _
 have HX:=hiD (hB.ex hx)
 have x0:=hB.blk.cell (i:=0) rfl
 have x4:=hB.blk.cell (i:=4) rfl
 have hl1:=hB.blk.lt
 have HB:=hiD hB
 clear h hN hp hz hx h2 h3 hall hB z2_
 go_enter Tryz.func64,Tryz.ntmps64
 go_upto_region 1 with (fail)
 rw [← hW1]
 clear hW1
 go_wp2_with fail
 refine (LS.expr (ex_any e) HB.out.ls HX.out HN.out HZ.out.1 H12.out.1).mono ?_
 rintro en w2 ⟨P2,M2,rfl,hs⟩
 have HS2:=hiD hs
 clear hs
 go_wp2_with fail
 refine (HS2.out.add { stp0 with code:=8,a:=c1 } (StpV.bare _ rfl) HZ.out.2 H12.out.2).mono ?_
 rintro en w4 ⟨P4,M4,rfl,hs⟩
 have HS4:=hiD hs
 clear hs
 go_wp2_with fail
 go_end0
 exact HB.out.done HS4.out rfl
set_option maxRecDepth 100000 in
set_option maxHeartbeats 1000000 in
theorem ls_print (a:Int) (e:Ex):StC (.print a e):=by
 intro cs b mb P M nm pr w W h hs hN hp hz
 simp only [StAt] at hs
 obtain ⟨v,rfl,hx⟩:=hs
 obtain ⟨gx,rfl⟩:=hx.ptr
 simp only [NmS,stN] at hN hz
 obtain ⟨c1,c2,h2⟩:∃ x y,exprL e w=(x,y):=⟨_,_,rfl⟩
 obtain ⟨w3,h3⟩:∃ y,addL { stp0 with code:=13,a:=c1 } c2=y:=⟨_,rfl⟩
 have hall:stmtL (.print a e) w=w3:=by simp only [stmtL,h2,h3]
 rw [hall]
 have z2_:=expr_sz e w
 rw [h2] at z2_
 simp only at z2_
 have HZ:=hiD (show w.sz+8*exN e≤900000∧c2.sz<1000000 by refine ⟨?_,?_⟩ <;> omega)
 have HN:=hiD hN
 have H12:=hiD (And.intro h2 h3)
 simp only [cells7,nilP,nilS,TreeP.str]
 obtain ⟨W1,hW1⟩:∃ W1,W1=W.alloc (.cells #[.int .i64 7,.int .i64 a,.string ⟨#[]⟩,.pointer none,.pointer (some ⟨gx,0,none⟩),.slice none 0 0,.slice none 0 0] 143):=⟨_,rfl⟩
 have hB:SBox W W1 b mb P M nm pr w [.int .i64 7,.int .i64 a,.string ⟨#[]⟩,.pointer none,.pointer (some ⟨gx,0,none⟩),.slice none 0 0,.slice none 0 0]:=by rw [hW1];exact SBox.new h _
 have HX:=hiD (hB.ex hx)
 have x0:=hB.blk.cell (i:=0) rfl
 have x4:=hB.blk.cell (i:=4) rfl
 have hl1:=hB.blk.lt
 have HB:=hiD hB
 clear h hN hp hz hx h2 h3 hall hB z2_
 go_enter Tryz.func64,Tryz.ntmps64
 go_upto_region 1 with (fail)
 rw [← hW1]
 clear hW1
 go_wp2_with fail
 refine (LS.expr (ex_any e) HB.out.ls HX.out HN.out HZ.out.1 H12.out.1).mono ?_
 rintro en w2 ⟨P2,M2,rfl,hs⟩
 have HS2:=hiD hs
 clear hs
 go_wp2_with fail
 refine (HS2.out.add { stp0 with code:=13,a:=c1 } (StpV.bare _ rfl) HZ.out.2 H12.out.2).mono ?_
 rintro en w4 ⟨P4,M4,rfl,hs⟩
 have HS4:=hiD hs
 clear hs
 go_wp2_with fail
 go_end0
 exact HB.out.done HS4.out rfl
set_option maxRecDepth 100000 in
set_option maxHeartbeats 1000000 in
theorem ls_call (a:Int) (e:Ex):StC (.call a e):=by
 intro cs b mb P M nm pr w W h hs hN hp hz
 simp only [StAt] at hs
 obtain ⟨v,rfl,hx⟩:=hs
 obtain ⟨gx,rfl⟩:=hx.ptr
 simp only [NmS,stN] at hN hz
 obtain ⟨c1,c2,h2⟩:∃ x y,exprL e w=(x,y):=⟨_,_,rfl⟩
 have hall:stmtL (.call a e) w=c2:=by simp only [stmtL,h2]
 rw [hall]
 have z2_:=expr_sz e w
 rw [h2] at z2_
 simp only at z2_
 have HZ:=hiD (show w.sz+8*exN e≤900000∧c2.sz<1000000 by refine ⟨?_,?_⟩ <;> omega)
 have HN:=hiD hN
 have H12:=hiD h2
 simp only [cells7,nilP,nilS,TreeP.str]
 obtain ⟨W1,hW1⟩:∃ W1,W1=W.alloc (.cells #[.int .i64 8,.int .i64 a,.string ⟨#[]⟩,.pointer none,.pointer (some ⟨gx,0,none⟩),.slice none 0 0,.slice none 0 0] 143):=⟨_,rfl⟩
 have hB:SBox W W1 b mb P M nm pr w [.int .i64 8,.int .i64 a,.string ⟨#[]⟩,.pointer none,.pointer (some ⟨gx,0,none⟩),.slice none 0 0,.slice none 0 0]:=by rw [hW1];exact SBox.new h _
 have HX:=hiD (hB.ex hx)
 have x0:=hB.blk.cell (i:=0) rfl
 have x4:=hB.blk.cell (i:=4) rfl
 have hl1:=hB.blk.lt
 have HB:=hiD hB
 clear h hN hp hz hx h2 hall hB z2_
 go_enter Tryz.func64,Tryz.ntmps64
 go_upto_region 1 with (fail)
 rw [← hW1]
 clear hW1
 go_wp2_with fail
 refine (LS.expr (ex_any e) HB.out.ls HX.out HN.out HZ.out.1 H12.out).mono ?_
 rintro en w2 ⟨P2,M2,rfl,hs⟩
 have HS2:=hiD hs
 clear hs
 go_wp2_with fail
 go_end0
 exact HB.out.done HS2.out rfl
set_option maxRecDepth 100000 in
set_option maxHeartbeats 1000000 in
theorem ls_set (a:Int) (x:List UInt8) (e:Ex):StC (.set a x e):=by
 intro cs b mb P M nm pr w W h hs hN hp hz
 simp only [StAt] at hs
 obtain ⟨v,rfl,hx⟩:=hs
 obtain ⟨gx,rfl⟩:=hx.ptr
 simp only [NmS,stN] at hN hz
 obtain ⟨c1,c2,h2⟩:∃ x y,exprL e w=(x,y):=⟨_,_,rfl⟩
 obtain ⟨w3,h3⟩:∃ y,addL { stp0 with code:=2,dst:=getN c2.names x,a:=c1 } c2=y:=⟨_,rfl⟩
 have hall:stmtL (.set a x e) w=w3:=by simp only [stmtL,h2,h3]
 rw [hall]
 have z2_:=expr_sz e w
 rw [h2] at z2_
 simp only at z2_
 have HZ:=hiD (show w.sz+8*exN e≤900000∧c2.sz<1000000 by refine ⟨?_,?_⟩ <;> omega)
 have HN:=hiD hN
 have H12:=hiD (And.intro h2 h3)
 simp only [cells7,nilP,nilS,TreeP.str]
 obtain ⟨W1,hW1⟩:∃ W1,W1=W.alloc (.cells #[.int .i64 2,.int .i64 a,.string ⟨x.toArray⟩,.pointer none,.pointer (some ⟨gx,0,none⟩),.slice none 0 0,.slice none 0 0] 143):=⟨_,rfl⟩
 have hB:SBox W W1 b mb P M nm pr w [.int .i64 2,.int .i64 a,.string ⟨x.toArray⟩,.pointer none,.pointer (some ⟨gx,0,none⟩),.slice none 0 0,.slice none 0 0]:=by rw [hW1];exact SBox.new h _
 have HX:=hiD (hB.ex hx)
 have x0:=hB.blk.cell (i:=0) rfl
 have x4:=hB.blk.cell (i:=4) rfl
 have hl1:=hB.blk.lt
 have HB:=hiD hB
 clear h hN hp hz hx h2 h3 hall hB z2_
 go_enter Tryz.func64,Tryz.ntmps64
 go_upto_region 1 with (fail)
 rw [← hW1]
 clear hW1
 go_wp2_with fail
 refine (LS.expr (ex_any e) HB.out.ls HX.out HN.out.2 HZ.out.1 H12.out.1).mono ?_
 rintro en w2 ⟨P2,M2,rfl,hs⟩
 have hb2:=HB.out.node hs
 have y2:=hb2.cell (i:=2) rfl
 have yl:=hb2.lt
 obtain ⟨b4,-,-,bl⟩:=hs.cells
 have HS2:=hiD (hs.quiet (Mods.refl None w2).drew)
 have hlk:=HS2.out.look x HN.out.1
 clear hs hb2
 go_wp2_with fail
 go_region_law (go_simp;go_at_call 35;refine (HS2.out.add { stp0 with code:=2,dst:=getN c2.names x,a:=c1 } (StpV.bare _ rfl) HZ.out.2 H12.out.2).mono ?_;rintro en w4 ⟨P4,M4,rfl,hs⟩;have HS4:=hiD hs;clear hs)
 all_goals
  go_wp2_with fail
  go_end0
  exact HB.out.done HS4.out rfl
set_option maxRecDepth 100000 in
set_option maxHeartbeats 1000000 in
theorem ls_put (a:Int) (x:List UInt8) (i e:Ex):StC (.put a x i e):=by
 intro cs b mb P M nm pr w W h hs hN hp hz
 simp only [StAt] at hs
 obtain ⟨iv,v,rfl,hi,hx⟩:=hs
 obtain ⟨gi,rfl⟩:=hi.ptr
 obtain ⟨gx,rfl⟩:=hx.ptr
 simp only [NmS,stN] at hN hz
 obtain ⟨i1,i2,h1⟩:∃ x y,exprL i w=(x,y):=⟨_,_,rfl⟩
 obtain ⟨c1,c2,h2⟩:∃ x y,exprL e i2=(x,y):=⟨_,_,rfl⟩
 obtain ⟨w3,h3⟩:∃ y,addL { stp0 with code:=12,a:=getN c2.names x,b:=i1,c:=c1 } c2=y:=⟨_,rfl⟩
 have hall:stmtL (.put a x i e) w=w3:=by simp only [stmtL,h1,h2,h3]
 rw [hall]
 have z1_:=expr_sz i w
 have z2_:=expr_sz e i2
 rw [h1] at z1_
 rw [h2] at z2_
 simp only at z1_ z2_
 have HZ:=hiD (show w.sz+8*exN i≤900000∧i2.sz+8*exN e≤900000∧c2.sz<1000000 by refine ⟨?_,?_,?_⟩ <;> omega)
 have HN:=hiD hN
 have H12:=hiD (And.intro h1 (And.intro h2 h3))
 simp only [cells7,nilP,nilS,TreeP.str]
 obtain ⟨W1,hW1⟩:∃ W1,W1=W.alloc (.cells #[.int .i64 3,.int .i64 a,.string ⟨x.toArray⟩,.pointer (some ⟨gi,0,none⟩),.pointer (some ⟨gx,0,none⟩),.slice none 0 0,.slice none 0 0] 143):=⟨_,rfl⟩
 have hB:SBox W W1 b mb P M nm pr w [.int .i64 3,.int .i64 a,.string ⟨x.toArray⟩,.pointer (some ⟨gi,0,none⟩),.pointer (some ⟨gx,0,none⟩),.slice none 0 0,.slice none 0 0]:=by rw [hW1];exact SBox.new h _
 have HX:=hiD (And.intro (hB.ex hi) (hB.ex hx))
 have x0:=hB.blk.cell (i:=0) rfl
 have x3:=hB.blk.cell (i:=3) rfl
 have hl1:=hB.blk.lt
 have HB:=hiD hB
 clear h hN hp hz hx h1 h2 h3 hall hB z1_ z2_ hi
 go_enter Tryz.func64,Tryz.ntmps64
 go_upto_region 1 with (fail)
 rw [← hW1]
 clear hW1
 go_wp2_with fail
 refine (LS.expr (ex_any i) HB.out.ls HX.out.1 HN.out.2.1 HZ.out.1 H12.out.1).mono ?_
 rintro en w2 ⟨P2,M2,rfl,hs⟩
 have y4:=(HB.out.node hs).cell (i:=4) rfl
 have yl:=(HB.out.node hs).lt
 have HS2:=hiD hs
 clear hs
 go_wp2_with fail
 refine (LS.expr (ex_any e) HS2.out HX.out.2 HN.out.2.2 HZ.out.2.1 H12.out.2.1).mono ?_
 rintro en w3_ ⟨P3,M3,rfl,hs⟩
 have q2:=(HB.out.node hs).cell (i:=2) rfl
 have ql:=(HB.out.node hs).lt
 obtain ⟨b4,-,-,bl⟩:=hs.cells
 have HS3:=hiD (hs.quiet (Mods.refl None w3_).drew)
 have hlk:=HS3.out.look x HN.out.1
 clear hs
 go_wp2_with fail
 go_region_law (go_simp;go_at_call 35;refine (HS3.out.add { stp0 with code:=12,a:=getN c2.names x,b:=i1,c:=c1 } (StpV.bare _ rfl) HZ.out.2.2 H12.out.2.2).mono ?_;rintro en w4 ⟨P4,M4,rfl,hs⟩;have HS4:=hiD hs;clear hs)
 all_goals
  go_wp2_with fail
  go_end0
  exact HB.out.done HS4.out rfl
set_option maxRecDepth 100000 in
set_option maxHeartbeats 1000000 in
theorem ls_var (a:Int) (x:List UInt8) (e:Ex):StC (.var a x e):=by
 intro cs b mb P M nm pr w W h hs hN hp hz
 simp only [StAt] at hs
 obtain ⟨v,rfl,hx⟩:=hs
 obtain ⟨gx,rfl⟩:=hx.ptr
 simp only [NmS,stN] at hN hz
 obtain ⟨c1,c2,h2⟩:∃ x y,exprL e w=(x,y):=⟨_,_,rfl⟩
 obtain ⟨k,hk⟩:∃ y,c2.types.getD c1.toNat 0=y:=⟨_,rfl⟩
 obtain ⟨n1,n2,h3⟩:∃ z y,nameL x k c2=(z,y):=⟨_,_,rfl⟩
 obtain ⟨w4,h4⟩:∃ y,addL { stp0 with code:=2,dst:=n1,a:=c1 } n2=y:=⟨_,rfl⟩
 have hall:stmtL (.var a x e) w=w4:=by simp only [stmtL,h2,hk,h3,h4]
 rw [hall]
 have z2_:=expr_sz e w
 have z3_:=name_sz x k c2
 have o2_:=expr_ok e w hp
 rw [h2] at z2_ o2_
 rw [h3] at z3_
 simp only at z2_ z3_ o2_
 obtain ⟨p,rfl⟩:∃ p:Nat,c1=(p:Int):=⟨c1.toNat,by have:=o2_.2.1;omega⟩
 have hpl:p<c2.types.length:=by have:=o2_.2.2;omega
 rw [Int.toNat_natCast] at hk
 have HZ:=hiD (show w.sz+8*exN e≤900000∧c2.sz<1000000∧n2.sz<1000000 by refine ⟨?_,?_,?_⟩ <;> omega)
 have HN:=hiD hN
 have H12:=hiD (And.intro h2 (And.intro hk (And.intro h3 h4)))
 simp only [cells7,nilP,nilS,TreeP.str]
 obtain ⟨W1,hW1⟩:∃ W1,W1=W.alloc (.cells #[.int .i64 1,.int .i64 a,.string ⟨x.toArray⟩,.pointer none,.pointer (some ⟨gx,0,none⟩),.slice none 0 0,.slice none 0 0] 143):=⟨_,rfl⟩
 have hB:SBox W W1 b mb P M nm pr w [.int .i64 1,.int .i64 a,.string ⟨x.toArray⟩,.pointer none,.pointer (some ⟨gx,0,none⟩),.slice none 0 0,.slice none 0 0]:=by rw [hW1];exact SBox.new h _
 have HX:=hiD (hB.ex hx)
 have HPL:=hiD hpl
 have x0:=hB.blk.cell (i:=0) rfl
 have x4:=hB.blk.cell (i:=4) rfl
 have hl1:=hB.blk.lt
 have HB:=hiD hB
 clear h hN hp hz hx h2 hk h3 h4 hall hB z2_ z3_ o2_ hpl
 go_enter Tryz.func64,Tryz.ntmps64
 go_upto_region 1 with (fail)
 rw [← hW1]
 clear hW1
 go_wp2_with fail
 refine (LS.expr (ex_any e) HB.out.ls HX.out HN.out.2 HZ.out.1 H12.out.1).mono ?_
 rintro en w2 ⟨P2,M2,rfl,hs⟩
 have hb2:=HB.out.node hs
 have y0:=hb2.cell (i:=0) rfl
 have y1:=hb2.cell (i:=1) rfl
 have y2:=hb2.cell (i:=2) rfl
 have y3:=hb2.cell (i:=3) rfl
 have y4:=hb2.cell (i:=4) rfl
 have y5:=hb2.cell (i:=5) rfl
 have y6:=hb2.cell (i:=6) rfl
 have yl:=hb2.lt
 obtain ⟨tg,tc,t2,tp,tl⟩:=hs.typed HPL.out
 have HK:=H12.out.2.1
 rw [HK] at tp
 have bl:=hs.cells.2.2.2
 obtain ⟨tn,htn⟩:∃ tn,tn=c2.types.length:=⟨_,rfl⟩
 have hpt:(p:Int)<(tn:Int):=by have:=HPL.out;omega
 rw [← htn] at t2
 have HS2:=hiD (hs.quiet (Mods.refl None w2).drew)
 clear hs hb2 HK htn
 go_wp2_with fail
 go_region_law (first|(go_simp;go_at_call 96;refine (HS2.out.name 1 a k x none (some ⟨gx,0,none⟩) none none 0 0 0 0 HN.out.1 HZ.out.2.1 H12.out.2.2.1).mono ?_;rintro en w3 ⟨P3,M3,rfl,hs⟩;have HS3:=hiD hs;clear hs)|(go_simp;go_at_call 35;refine (HS3.out.add { stp0 with code:=2,dst:=n1,a:=(p:Int) } (StpV.bare _ rfl) HZ.out.2.2 H12.out.2.2.2).mono ?_;rintro en w4_ ⟨P4,M4,rfl,hs⟩;have HS4:=hiD hs;clear hs))
 all_goals
  go_wp2_with fail
  go_end0
  exact HB.out.done HS4.out rfl
set_option maxRecDepth 100000 in
set_option maxHeartbeats 1000000 in
theorem ls_cond {t el:List St} (iht:BlC t) (ihe:BlC el) (a:Int) (e:Ex):StC (.cond a e t el):=by
 intro cs b mb P M nm pr w W h hs hN hp hz
 simp only [StAt] at hs
 obtain ⟨v,p_,vp,q_,vq,rfl,hx,hr1,ht1,hr2,ht2⟩:=hs
 obtain ⟨gx,rfl⟩:=hx.ptr
 obtain ⟨pn,hpn⟩:∃ n,n=t.length:=⟨_,rfl⟩
 obtain ⟨qn,hqn⟩:∃ n,n=el.length:=⟨_,rfl⟩
 obtain ⟨pa,pc,hpv⟩:=low_form hr1.1
 obtain ⟨qa,qc,hqv⟩:=low_form hr2.1
 rw [← hpn] at hpv
 rw [← hqn] at hqv
 subst hpv hqv
 simp only [NmS,stN] at hN hz
 obtain ⟨l1,w1,h1⟩:∃ x y,labelL w=(x,y):=⟨_,_,rfl⟩
 obtain ⟨l2,w2,h2⟩:∃ x y,labelL w1=(x,y):=⟨_,_,rfl⟩
 obtain ⟨c1,c2,h3⟩:∃ x y,exprL e w2=(x,y):=⟨_,_,rfl⟩
 obtain ⟨w3,h4⟩:∃ y,addL { stp0 with code:=5,a:=c1,label:=(l1:Int) } c2=y:=⟨_,rfl⟩
 obtain ⟨w4,h5⟩:∃ y,blockL t w3=y:=⟨_,rfl⟩
 obtain ⟨w5,h6⟩:∃ y,addL { stp0 with code:=4,label:=(l2:Int) } w4=y:=⟨_,rfl⟩
 obtain ⟨w6,h7⟩:∃ y,addL { stp0 with code:=6,label:=(l1:Int) } w5=y:=⟨_,rfl⟩
 obtain ⟨w7,h8⟩:∃ y,blockL el w6=y:=⟨_,rfl⟩
 obtain ⟨w8,h9⟩:∃ y,addL { stp0 with code:=6,label:=(l2:Int) } w7=y:=⟨_,rfl⟩
 have hall:stmtL (.cond a e t el) w=w8:=by simp only [stmtL,h1,h2,h3,h4,h5,h6,h7,h8,h9]
 rw [hall]
 have z1_:=label_sz w
 have z2_:=label_sz w1
 have z3_:=expr_sz e w2
 have z4_:=add_sz { stp0 with code:=5,a:=c1,label:=(l1:Int) } c2
 have z5_:=block_sz t w3
 have z6_:=add_sz { stp0 with code:=4,label:=(l2:Int) } w4
 have z7_:=add_sz { stp0 with code:=6,label:=(l1:Int) } w5
 have z8_:=block_sz el w6
 have o1_:=label_ok hp
 rw [h1] at z1_ o1_
 have o2_:=label_ok o1_
 rw [h2] at z2_ o2_
 have o3_:=(expr_ok e w2 o2_).1
 rw [h3] at z3_ o3_
 have o4_:=add_ok { stp0 with code:=5,a:=c1,label:=(l1:Int) } o3_
 rw [h4] at z4_ o4_
 have o5_:=block_ok t w3 o4_
 rw [h5] at z5_ o5_
 have o6_:=add_ok { stp0 with code:=6,label:=(l1:Int) } (add_ok { stp0 with code:=4,label:=(l2:Int) } o5_)
 rw [h6] at z6_ o6_
 rw [h7] at z7_ o6_
 rw [h8] at z8_
 simp only at z1_ z2_ z3_ z4_ z5_ z6_ z7_ z8_ o4_ o6_
 have HO:=hiD (And.intro o4_ o6_)
 have HZ:=hiD (show w.sz<1000000∧w1.sz<1000000∧w2.sz+8*exN e≤900000∧c2.sz<1000000∧w3.sz+8*stsN t≤900000∧w4.sz<1000000∧w5.sz<1000000∧w6.sz+8*stsN el≤900000∧w7.sz<1000000 by refine ⟨?_,?_,?_,?_,?_,?_,?_,?_,?_⟩ <;> omega)
 have HN:=hiD hN
 have H12:=hiD (And.intro h1 (And.intro h2 (And.intro h3 (And.intro h4 (And.intro h5 (And.intro h6 (And.intro h7 (And.intro h8 h9))))))))
 simp only [cells7,nilP,nilS,TreeP.str]
 obtain ⟨W1,hW1⟩:∃ W1,W1=W.alloc (.cells #[.int .i64 4,.int .i64 a,.string ⟨#[]⟩,.pointer none,.pointer (some ⟨gx,0,none⟩),.slice pa pn pc,.slice qa qn qc] 143):=⟨_,rfl⟩
 have hB:SBox W W1 b mb P M nm pr w [.int .i64 4,.int .i64 a,.string ⟨#[]⟩,.pointer none,.pointer (some ⟨gx,0,none⟩),.slice pa pn pc,.slice qa qn qc]:=by rw [hW1];exact SBox.new h _
 have HX:=hiD (And.intro (hB.ex hx) (And.intro (And.intro (hB.row hr1) (hB.sts ht1)) (And.intro (hB.row hr2) (hB.sts ht2))))
 have HQ:=hiD hB.ls
 have x0:=hB.blk.cell (i:=0) rfl
 have hl1:=hB.blk.lt
 have HB:=hiD hB
 clear h hN hp hz hx h1 h2 h3 h4 h5 h6 h7 h8 h9 hall hB z1_ z2_ z3_ z4_ z5_ z6_ z7_ z8_ o1_ o2_ o3_ o4_ o5_ o6_ hr1 ht1 hr2 ht2 hpn hqn
 go_enter Tryz.func64,Tryz.ntmps64
 go_upto_region 1 with (fail)
 rw [← hW1]
 clear hW1
 go_wp2_with fail
 refine (HQ.out.label HZ.out.1 H12.out.1).mono ?_
 rintro en u0 ⟨P0,M0,rfl,hs⟩
 have q0_l:=(HB.out.node hs).lt
 have HS0:=hiD hs
 clear hs
 go_wp2_with fail
 refine (HS0.out.label HZ.out.2.1 H12.out.2.1).mono ?_
 rintro en u1 ⟨P1,M1,rfl,hs⟩
 have q1_4:=(HB.out.node hs).cell (i:=4) rfl
 have q1_l:=(HB.out.node hs).lt
 have HS1:=hiD hs
 clear hs
 go_wp2_with fail
 refine (LS.expr (ex_any e) HS1.out HX.out.1 HN.out.1 HZ.out.2.2.1 H12.out.2.2.1).mono ?_
 rintro en u2 ⟨P2,M2,rfl,hs⟩
 have q2_l:=(HB.out.node hs).lt
 have HS2:=hiD hs
 clear hs
 go_wp2_with fail
 refine (HS2.out.add { stp0 with code:=5,a:=c1,label:=(l1:Int) } (StpV.bare _ rfl) HZ.out.2.2.2.1 H12.out.2.2.2.1).mono ?_
 rintro en u3 ⟨P3,M3,rfl,hs⟩
 have q3_5:=(HB.out.node hs).cell (i:=5) rfl
 have q3_l:=(HB.out.node hs).lt
 have HS3:=hiD hs
 clear hs
 go_wp2_with fail
 refine (LS.block iht HS3.out HX.out.2.1.1 HX.out.2.1.2 HN.out.2.1 HO.out.1 HZ.out.2.2.2.2.1 H12.out.2.2.2.2.1).mono ?_
 rintro en u4 ⟨P4,M4,rfl,hs⟩
 have q4_l:=(HB.out.node hs).lt
 have HS4:=hiD hs
 clear hs
 go_wp2_with fail
 refine (HS4.out.add { stp0 with code:=4,label:=(l2:Int) } (StpV.bare _ rfl) HZ.out.2.2.2.2.2.1 H12.out.2.2.2.2.2.1).mono ?_
 rintro en u5 ⟨P5,M5,rfl,hs⟩
 have q5_l:=(HB.out.node hs).lt
 have HS5:=hiD hs
 clear hs
 go_wp2_with fail
 refine (HS5.out.add { stp0 with code:=6,label:=(l1:Int) } (StpV.bare _ rfl) HZ.out.2.2.2.2.2.2.1 H12.out.2.2.2.2.2.2.1).mono ?_
 rintro en u6 ⟨P6,M6,rfl,hs⟩
 have q6_6:=(HB.out.node hs).cell (i:=6) rfl
 have q6_l:=(HB.out.node hs).lt
 have HS6:=hiD hs
 clear hs
 go_wp2_with fail
 refine (LS.block ihe HS6.out HX.out.2.2.1 HX.out.2.2.2 HN.out.2.2 HO.out.2 HZ.out.2.2.2.2.2.2.2.1 H12.out.2.2.2.2.2.2.2.1).mono ?_
 rintro en u7 ⟨P7,M7,rfl,hs⟩
 have q7_l:=(HB.out.node hs).lt
 have HS7:=hiD hs
 clear hs
 go_wp2_with fail
 refine (HS7.out.add { stp0 with code:=6,label:=(l2:Int) } (StpV.bare _ rfl) HZ.out.2.2.2.2.2.2.2.2 H12.out.2.2.2.2.2.2.2.2).mono ?_
 rintro en u8 ⟨P8,M8,rfl,hs⟩
 have q8_l:=(HB.out.node hs).lt
 have HS8:=hiD hs
 clear hs
 go_wp2_with fail
 go_end0
 exact HB.out.done HS8.out rfl
set_option maxRecDepth 100000 in
set_option maxHeartbeats 1000000 in
theorem ls_loop {t:List St} (iht:BlC t) (a:Int) (e:Ex):StC (.loop a e t):=by
 intro cs b mb P M nm pr w W h hs hN hp hz
 simp only [StAt] at hs
 obtain ⟨v,p_,vp,rfl,hx,hr1,ht1⟩:=hs
 obtain ⟨gx,rfl⟩:=hx.ptr
 obtain ⟨pn,hpn⟩:∃ n,n=t.length:=⟨_,rfl⟩
 obtain ⟨pa,pc,hpv⟩:=low_form hr1.1
 rw [← hpn] at hpv
 subst hpv
 simp only [NmS,stN] at hN hz
 obtain ⟨l1,w1,h1⟩:∃ x y,labelL w=(x,y):=⟨_,_,rfl⟩
 obtain ⟨l2,w2,h2⟩:∃ x y,labelL w1=(x,y):=⟨_,_,rfl⟩
 obtain ⟨w3,h3⟩:∃ y,addL { stp0 with code:=6,label:=(l1:Int) } w2=y:=⟨_,rfl⟩
 obtain ⟨c1,c2,h4⟩:∃ x y,exprL e w3=(x,y):=⟨_,_,rfl⟩
 obtain ⟨w4,h5⟩:∃ y,addL { stp0 with code:=5,a:=c1,label:=(l2:Int) } c2=y:=⟨_,rfl⟩
 obtain ⟨w5,h6⟩:∃ y,blockL t w4=y:=⟨_,rfl⟩
 obtain ⟨w6,h7⟩:∃ y,addL { stp0 with code:=4,label:=(l1:Int) } w5=y:=⟨_,rfl⟩
 obtain ⟨w7,h8⟩:∃ y,addL { stp0 with code:=6,label:=(l2:Int) } w6=y:=⟨_,rfl⟩
 have hall:stmtL (.loop a e t) w=w7:=by simp only [stmtL,h1,h2,h3,h4,h5,h6,h7,h8]
 rw [hall]
 have z1_:=label_sz w
 have z2_:=label_sz w1
 have z3_:=add_sz { stp0 with code:=6,label:=(l1:Int) } w2
 have z4_:=expr_sz e w3
 have z5_:=add_sz { stp0 with code:=5,a:=c1,label:=(l2:Int) } c2
 have z6_:=block_sz t w4
 have z7_:=add_sz { stp0 with code:=4,label:=(l1:Int) } w5
 have o1_:=label_ok hp
 rw [h1] at z1_ o1_
 have o2_:=label_ok o1_
 rw [h2] at z2_ o2_
 have o3_:=add_ok { stp0 with code:=6,label:=(l1:Int) } o2_
 rw [h3] at z3_ o3_
 have o4_:=(expr_ok e w3 o3_).1
 rw [h4] at z4_ o4_
 have o5_:=add_ok { stp0 with code:=5,a:=c1,label:=(l2:Int) } o4_
 rw [h5] at z5_ o5_
 rw [h6] at z6_
 rw [h7] at z7_
 simp only at z1_ z2_ z3_ z4_ z5_ z6_ z7_ o5_
 have HO:=hiD o5_
 have HZ:=hiD (show w.sz<1000000∧w1.sz<1000000∧w2.sz<1000000∧w3.sz+8*exN e≤900000∧c2.sz<1000000∧w4.sz+8*stsN t≤900000∧w5.sz<1000000∧w6.sz<1000000 by refine ⟨?_,?_,?_,?_,?_,?_,?_,?_⟩ <;> omega)
 have HN:=hiD hN
 have H12:=hiD (And.intro h1 (And.intro h2 (And.intro h3 (And.intro h4 (And.intro h5 (And.intro h6 (And.intro h7 h8)))))))
 simp only [cells7,nilP,nilS,TreeP.str]
 obtain ⟨W1,hW1⟩:∃ W1,W1=W.alloc (.cells #[.int .i64 5,.int .i64 a,.string ⟨#[]⟩,.pointer none,.pointer (some ⟨gx,0,none⟩),.slice pa pn pc,.slice none 0 0] 143):=⟨_,rfl⟩
 have hB:SBox W W1 b mb P M nm pr w [.int .i64 5,.int .i64 a,.string ⟨#[]⟩,.pointer none,.pointer (some ⟨gx,0,none⟩),.slice pa pn pc,.slice none 0 0]:=by rw [hW1];exact SBox.new h _
 have HX:=hiD (And.intro (hB.ex hx) (And.intro (hB.row hr1) (hB.sts ht1)))
 have HQ:=hiD hB.ls
 have x0:=hB.blk.cell (i:=0) rfl
 have hl1:=hB.blk.lt
 have HB:=hiD hB
 clear h hN hp hz hx h1 h2 h3 h4 h5 h6 h7 h8 hall hB z1_ z2_ z3_ z4_ z5_ z6_ z7_ o1_ o2_ o3_ o4_ o5_ hr1 ht1 hpn
 go_enter Tryz.func64,Tryz.ntmps64
 go_upto_region 1 with (fail)
 rw [← hW1]
 clear hW1
 go_wp2_with fail
 refine (HQ.out.label HZ.out.1 H12.out.1).mono ?_
 rintro en u0 ⟨P0,M0,rfl,hs⟩
 have q0_l:=(HB.out.node hs).lt
 have HS0:=hiD hs
 clear hs
 go_wp2_with fail
 refine (HS0.out.label HZ.out.2.1 H12.out.2.1).mono ?_
 rintro en u1 ⟨P1,M1,rfl,hs⟩
 have q1_l:=(HB.out.node hs).lt
 have HS1:=hiD hs
 clear hs
 go_wp2_with fail
 refine (HS1.out.add { stp0 with code:=6,label:=(l1:Int) } (StpV.bare _ rfl) HZ.out.2.2.1 H12.out.2.2.1).mono ?_
 rintro en u2 ⟨P2,M2,rfl,hs⟩
 have q2_4:=(HB.out.node hs).cell (i:=4) rfl
 have q2_l:=(HB.out.node hs).lt
 have HS2:=hiD hs
 clear hs
 go_wp2_with fail
 refine (LS.expr (ex_any e) HS2.out HX.out.1 HN.out.1 HZ.out.2.2.2.1 H12.out.2.2.2.1).mono ?_
 rintro en u3 ⟨P3,M3,rfl,hs⟩
 have q3_l:=(HB.out.node hs).lt
 have HS3:=hiD hs
 clear hs
 go_wp2_with fail
 refine (HS3.out.add { stp0 with code:=5,a:=c1,label:=(l2:Int) } (StpV.bare _ rfl) HZ.out.2.2.2.2.1 H12.out.2.2.2.2.1).mono ?_
 rintro en u4 ⟨P4,M4,rfl,hs⟩
 have q4_5:=(HB.out.node hs).cell (i:=5) rfl
 have q4_l:=(HB.out.node hs).lt
 have HS4:=hiD hs
 clear hs
 go_wp2_with fail
 refine (LS.block iht HS4.out HX.out.2.1 HX.out.2.2 HN.out.2 HO.out HZ.out.2.2.2.2.2.1 H12.out.2.2.2.2.2.1).mono ?_
 rintro en u5 ⟨P5,M5,rfl,hs⟩
 have q5_l:=(HB.out.node hs).lt
 have HS5:=hiD hs
 clear hs
 go_wp2_with fail
 refine (HS5.out.add { stp0 with code:=4,label:=(l1:Int) } (StpV.bare _ rfl) HZ.out.2.2.2.2.2.2.1 H12.out.2.2.2.2.2.2.1).mono ?_
 rintro en u6 ⟨P6,M6,rfl,hs⟩
 have q6_l:=(HB.out.node hs).lt
 have HS6:=hiD hs
 clear hs
 go_wp2_with fail
 refine (HS6.out.add { stp0 with code:=6,label:=(l2:Int) } (StpV.bare _ rfl) HZ.out.2.2.2.2.2.2.2 H12.out.2.2.2.2.2.2.2).mono ?_
 rintro en u7 ⟨P7,M7,rfl,hs⟩
 have q7_l:=(HB.out.node hs).lt
 have HS7:=hiD hs
 clear hs
 go_wp2_with fail
 go_end0
 exact HB.out.done HS7.out rfl
theorem low_len7 {W:World} {S:Nat→Prop} {s:St} {cs:List Value} (h:StAt W S s cs):cs.length=7:=by
 obtain ⟨_,_,_,_,_,_,_,_,_,_,_,rfl⟩:=h.shape
 rfl
theorem low_sts_get {W:World} {S:Nat→Prop}:{l:List St}→{vs:List Value}→StsAt W S l vs→(i:Nat)→(s:St)→l[i]?=some s→∃ cs,StAt W S s cs∧∀ j,j<7→vs[i*7+j]?=cs[j]?
 | [],vs,h,i,s,hs=>by simp at hs
 | a::r,vs,h,i,s,hs=>by
   simp only [StsAt] at h
   obtain ⟨cs,r2,rfl,h1,h2⟩:=h
   have h7:=low_len7 h1
   cases i with
   | zero =>
     simp only [List.getElem?_cons_zero,Option.some.injEq] at hs
     subst hs
     refine ⟨cs,h1,fun j hj=>?_⟩
     rw [List.getElem?_append_left (by omega)]
     congr 1
     omega
   | succ i =>
     obtain ⟨ds,h3,h4⟩:=low_sts_get h2 i s (by simpa using hs)
     refine ⟨ds,h3,fun j hj=>?_⟩
     rw [List.getElem?_append_right (by omega),h7,← h4 j hj]
     congr 1
     omega
theorem low_slice {W:World} {B:Nat} {e:TypeId} {size n:Nat} {v:Value} {vs:List Value} (h:W.ownsRow B e size v n vs):∃ oa oc,v=.slice oa n oc∧n≤oc∧oc≤maxLen∧(∀ j u,vs[j]?=some u→∃ g,oa=some ⟨g,0,none⟩∧v.ownBlock=some g∧W.cell? ⟨g,j,none⟩=some u):=by
 rcases h.2 with ⟨rfl,rfl⟩|⟨g,cap,cur,rfl,_,hg,h3,h4,_⟩
 · have:vs=[]:=List.eq_nil_of_length_eq_zero (by simpa using h.1)
   subst this
   exact ⟨none,0,rfl,Nat.le_refl _,by decide,fun j u hj=>by simp at hj⟩
 · refine ⟨_,_,rfl,h3,h4,fun j u hj=>⟨g,rfl,rfl,?_⟩⟩
   have:=h.cells (g:=g) rfl j u hj
   simpa [Addr.add_lit] using this
theorem low_row_cells {w:World} {S:Nat→Prop} {l:List St} {sa:Option Addr} {sc:Nat} {vs:List Value} (hr:RowAt w S 143 7 (.slice sa l.length sc) l.length vs) (hst:StsAt w S l vs) (i:Nat) (hi:i<l.length) :
 ∃ g code a name p q oa on oc ob om od,sa=some ⟨g,0,none⟩∧w.cell? ⟨g,i*7,none⟩=some (.int .i64 code)∧w.cell? ⟨g,i*7+1,none⟩=some (.int .i64 a)∧w.cell? ⟨g,i*7+2,none⟩=some (.string name)∧w.cell? ⟨g,i*7+3,none⟩=some (.pointer p)∧w.cell? ⟨g,i*7+4,none⟩=some (.pointer q)∧w.cell? ⟨g,i*7+5,none⟩=some (.slice oa on oc)∧w.cell? ⟨g,i*7+6,none⟩=some (.slice ob om od) ∧
   StAt w S l[i] [.int .i64 code,.int .i64 a,.string name,.pointer p,.pointer q,.slice oa on oc,.slice ob om od]:=by
 obtain ⟨sa2,sc2,he,hsc,hsm,hscell⟩:=low_slice hr.1
 simp only [Value.slice.injEq] at he
 obtain ⟨rfl,-,rfl⟩:=he
 obtain ⟨cs,h1,h2⟩:=low_sts_get hst i l[i] (List.getElem?_eq_getElem hi)
 obtain ⟨code,a,name,p,q,oa,on,oc,ob,om,od,rfl⟩:=h1.shape
 have cell:∀ j u,j<7→([.int .i64 code,.int .i64 a,.string name,.pointer p,.pointer q,.slice oa on oc,.slice ob om od]:List Value)[j]?=some u→∃ g,sa=some ⟨g,0,none⟩∧w.cell? ⟨g,i*7+j,none⟩=some u:=by
  intro j u hj hu
  obtain ⟨g,e1,e2,e3⟩:=hscell (i*7+j) u (by rw [h2 j hj];exact hu)
  exact ⟨g,e1,e3⟩
 obtain ⟨g,e0,k0⟩:=cell 0 _ (by omega) rfl
 have cell2:∀ j u,j<7→([.int .i64 code,.int .i64 a,.string name,.pointer p,.pointer q,.slice oa on oc,.slice ob om od]:List Value)[j]?=some u→w.cell? ⟨g,i*7+j,none⟩=some u:=by
  intro j u hj hu
  obtain ⟨g',e1,e2⟩:=cell j u hj hu
  rw [e0] at e1
  obtain rfl:g=g':=by simpa using e1
  exact e2
 exact ⟨g,code,a,name,p,q,oa,on,oc,ob,om,od,e0,k0,cell2 1 _ (by omega) rfl,cell2 2 _ (by omega) rfl,cell2 3 _ (by omega) rfl,cell2 4 _ (by omega) rfl,cell2 5 _ (by omega) rfl,cell2 6 _ (by omega) rfl,h1⟩
theorem blockL_snoc:(l:List St)→(s:St)→(w:Lw)→blockL (l++[s]) w=stmtL s (blockL l w)
 | [],s,w=>rfl
 | a::l,s,w=>by
   simp only [List.cons_append,blockL]
   exact blockL_snoc l s _
theorem stsN_take:(l:List St)→(i:Nat)→(s:St)→l[i]?=some s→stsN (l.take i)+stN s≤stsN l
 | [],i,s,h=>by simp at h
 | a::l,0,s,h=>by
   simp only [List.getElem?_cons_zero,Option.some.injEq] at h
   subst h
   simp only [List.take_zero,stsN]
   omega
 | a::l,i+1,s,h=>by
   have:=stsN_take l i s (by simpa using h)
   simp only [List.take_succ_cons,stsN]
   omega
theorem NmSs.get:{l:List St}→NmSs l→{i:Nat}→{s:St}→l[i]?=some s→NmS s
 | [],h,i,s,hs=>by simp at hs
 | a::l,h,0,s,hs=>by
   simp only [List.getElem?_cons_zero,Option.some.injEq] at hs
   subst hs
   simp only [NmSs] at h
   exact h.1
 | a::l,h,i+1,s,hs=>by
   simp only [NmSs] at h
   exact NmSs.get h.2 (i:=i) (by simpa using hs)
structure BSt (W:World) (P0 M0:Nat→Prop) (b mb:Nat) (nm:List UInt8) (pr:Int) (l:List St) (w:Lw) (i:Nat) (wr:World) (P M:Nat→Prop) (wi:Lw):Prop where
 ls:LS W P0 M0 b mb nm pr wr P M wi
 done:blockL (l.take i) w=wi
theorem LS.sts {W0 W:World} {P0 M0 P M:Nat→Prop} {b mb:Nat} {nm:List UInt8} {pr:Int} {w:Lw} (h:LS W0 P0 M0 b mb nm pr W P M w) {l:List St} {vs:List Value} (he:StsAt W0 (fun k=>¬ P0 k) l vs):StsAt W (fun k=>¬ P k) l vs :=
 StsAt.modsTo (h.ext.mods.mono fun k _ hk=>hk.elim (fun f=>f.elim) (h.off0 k)) (fun k _ hk hp=>hk (h.up k hp)) l vs he
set_option maxRecDepth 100000 in
set_option maxHeartbeats 1000000 in
theorem lblk_any {l:List St} (ih:∀ s∈l,StC s):BlC l:=by
 intro lv vs b mb P M nm pr w W h hr hs hN hp hz
 obtain ⟨sa,sc,hlv⟩:=low_form hr.1
 subst hlv
 obtain ⟨n,hn⟩:∃ n,n=l.length:=⟨_,rfl⟩
 have hn1:n≤9223372036854775807:=by
  obtain ⟨sa2,sc2,he,hsc,hsm,-⟩:=low_slice hr.1
  simp only [Value.slice.injEq] at he
  unfold maxLen at hsm
  omega
 rw [← hn]
 have HX:=hiD (And.intro hr hs)
 have HZ:=hiD (And.intro hN (And.intro hp hz))
 have HN:=hiD hn
 have HC0:Hid (BSt W P M b mb nm pr l w 0 W P M w):=hiD ⟨LS.begin h,by simp [blockL]⟩
 clear h hr hs hN hp hz hn
 go_enter Tryz.func34,Tryz.ntmps34
 go_wp2_with fail
 go_loopw [5,8] (fun _ v8 wr=>∃ i P' M' wi,i≤n∧v8=.int .i64 ((i:Nat):Int)∧Hid (BSt W P M b mb nm pr l w i wr P' M' wi)) (fun _ v _=>(n-intOf v).toNat)
 case atStart=>exact ⟨0,P,M,w,Nat.zero_le _,rfl,HC0⟩
 case round =>
  clear HC0
  obtain ⟨w1,rfl⟩:∃ w1:World,w1=wr:=⟨_,rfl⟩
  obtain ⟨i,P1,M1,wi,hi,rfl,HC⟩:=hrel
  by_cases hlt:i<n
  · have hil:i<l.length:=by rw [← HN.out];exact hlt
    obtain ⟨g,code,a,name,p,q,oa,on,oc,ob,om,od,rfl,k0,k1,k2,k3,k4,k5,k6,hs⟩:=low_row_cells (HC.out.ls.row HX.out.1) (HC.out.ls.sts HX.out.2) i hil
    have hpi:(i:Int)<(n:Int):=by omega
    have hmem:l[i]∈l:=List.getElem_mem hil
    have HZ1:Hid (wi.sz+8*stN l[i]≤900000∧PlOk wi∧NmS l[i]):=hiD (by
        have h1:=block_sz (l.take i) w
        have h2:=stsN_take l i l[i] (List.getElem?_eq_getElem hil)
        have h3:=HZ.out.2.2
        have h4:=block_ok (l.take i) w HZ.out.2.1
        rw [HC.out.done] at h1 h4
        exact ⟨by omega,h4,NmSs.get HZ.out.1 (List.getElem?_eq_getElem hil)⟩)
    obtain ⟨W1,hW1⟩:∃ W1,W1=w1.alloc (.cells #[.int .i64 code,.int .i64 a,.string name,.pointer p,.pointer q,.slice oa on oc,.slice ob om od] 143):=⟨_,rfl⟩
    have hma:Mods None w1 W1:=by rw [hW1];exact (Mods.refl _ _).alloc _
    have hls:=HC.out.ls.quiet hma
    have HS:=hiD (StAt.modsTo (hma.mono fun _ _ f=>f.elim) (fun _ _ k=>k) _ _ hs)
    have HLS:=hiD hls
    have HDN:Hid (blockL (l.take (i+1)) w=stmtL l[i] wi):=hiD (by
        rw [List.take_add_one,List.getElem?_eq_getElem hil]
        show blockL (l.take i++[l[i]]) w=_
        rw [blockL_snoc,HC.out.done])
    have hi7:(i:Int)<9223372036854775807:=by omega
    have hih:=ih _ hmem
    clear hs hma hls hmem
    go_wp2_with fail
    rw [← hW1]
    clear hW1 k0 k1 k2 k3 k4 k5 k6
    refine (hih _ b mb P1 M1 nm pr wi W1 HLS.out.lat HS.out HZ1.out.2.2 HZ1.out.2.1 HZ1.out.1).mono ?_
    intro en w2 hk
    obtain ⟨P2,M2,rfl,hs⟩:=HLS.out.after hk
    have HC2:Hid (BSt W P M b mb nm pr l w (i+1) w2 P2 M2 (stmtL l[i] wi)):=hiD ⟨hs,HDN.out⟩
    clear hk hs
    go_wp2_with fail
    go_roundw
    case rel=>exact ⟨i+1,P2,M2,_,by omega,by go_num,HC2⟩
    case measure=>simp only [intOf];omega
  · obtain rfl:i=n:=by omega
    have hpi:¬ (i:Int)<(i:Int):=by omega
    have hdone:=HC.out.done
    rw [List.take_of_length_le (by rw [← HN.out];exact Nat.le_refl _)] at hdone
    have HD:=hiD hdone
    clear hdone
    go_wp2_with fail
    go_end0
    rw [HD.out]
    exact HC.out.ls.go rfl
mutual
theorem lst_any:(s:St)→StC s
 | .var a x e=>ls_var a x e
 | .set a x e=>ls_set a x e
 | .put a x i e=>ls_put a x i e
 | .cond a e t el=>ls_cond (lblk_any (lsts_any t)) (lblk_any (lsts_any el)) a e
 | .loop a e t=>ls_loop (lblk_any (lsts_any t)) a e
 | .ret a e=>ls_ret a e
 | .print a e=>ls_print a e
 | .call a e=>ls_call a e
theorem lsts_any:(l:List St)→∀ s∈l,StC s
 | [],s,h=>by cases h
 | a::l,s,h=>by
   rcases List.mem_cons.1 h with h1|h
   · rw [h1]
     exact lst_any a
   · exact lsts_any l s h
end
theorem block_any (l:List St):BlC l:=lblk_any (lsts_any l)
end Go.Proofs.YtnicpmoanjddbaaGreatDoor.MidP

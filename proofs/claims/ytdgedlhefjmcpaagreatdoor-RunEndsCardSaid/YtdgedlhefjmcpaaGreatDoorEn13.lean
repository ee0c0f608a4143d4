/- The document's reader: a statement. Printed by mkrefs2.py. Conditions: what is read within is read so. -/
import Derived.Test.YtdgedlhefjmcpaaGreatDoorEn12
namespace Go.Proofs.YtdgedlhefjmcpaaGreatDoor.TreeP.R
open Go.RowKit Go.Proofs.YtdgedlhefjmcpaaGreatDoor.Wo Go.Proofs.YtdgedlhefjmcpaaGreatDoor.TreeP
set_option linter.unusedVariables false
set_option linter.unusedSimpArgs false
theorem NG.since {W0 w1 w:World} {b sb:Nat} {S:Nat→Prop} {ts:List Tok} {cs:List Value} (h:NG w1 w b sb S ts cs) (hm:Mods (Two b sb) W0 w1):NG W0 w b sb S ts cs :=
 ⟨⟨h.st.base,h.st.own,h.st.hasS,h.st.lt,hm.trans h.st.mods⟩,h.par⟩
theorem NB.since {W0 w1 w:World} {b sb:Nat} {S:Nat→Prop} {n a:Int} {cs:List Value} (h:NB w1 w b sb S n a cs) (hm:Mods (Two b sb) W0 w1):NB W0 w b sb S n a cs :=
 ⟨⟨h.st.base,h.st.own,h.st.hasS,h.st.lt,hm.trans h.st.mods⟩,h.bad⟩
theorem NG.self {W0 w:World} {b sb:Nat} {S:Nat→Prop} {ts:List Tok} {cs:List Value} (h:NG W0 w b sb S ts cs):NG w w b sb S ts cs :=
 ⟨⟨h.st.base,h.st.own,h.st.hasS,h.st.lt,Mods.refl _ _⟩,h.par⟩
structure Begun (W w0:World) (b:Nat) (S:Nat→Prop):Prop where
 mods:Mods None W w0
 res:Blk w0 W.heap.size zeros7 143
 lt:b<W.heap.size
 has:S b
theorem stmt_start {W:World} {b:Nat} {S:Nat→Prop} {ts:List Tok} (h:Rd W b S ts) (ta:Int) {w0:World} (hw:w0=((W.alloc (.cells #[.int .i64 0,.int .i64 0,.string ⟨#[]⟩,.pointer none,.pointer none,.slice none 0 0,.slice none 0 0] 143)).alloc (.cells #[.int .i64 0,.int .i64 ta,.string ⟨#[]⟩,.pointer none,.pointer none,.slice none 0 0,.slice none 0 0] 143))) :
  Begun W w0 b S∧NG w0 w0 b (W.heap.size+1) (Three S W.heap.size) ts (cells7 0 ta [] nilP nilP nilS nilS):=by
 have hm:Mods None W w0:=by rw [hw];exact ((Mods.refl _ _).alloc _).alloc _
 have hb:=h.base.old b h.base.has
 have h1:=Blk.new W #[.int .i64 0,.int .i64 0,.string ⟨#[]⟩,.pointer none,.pointer none,.slice none 0 0,.slice none 0 0] 143
 have h2:=Blk.new (W.alloc (.cells #[.int .i64 0,.int .i64 0,.string ⟨#[]⟩,.pointer none,.pointer none,.slice none 0 0,.slice none 0 0] 143)) #[.int .i64 0,.int .i64 ta,.string ⟨#[]⟩,.pointer none,.pointer none,.slice none 0 0,.slice none 0 0] 143
 rw [show (W.alloc (.cells #[.int .i64 0,.int .i64 0,.string ⟨#[]⟩,.pointer none,.pointer none,.slice none 0 0,.slice none 0 0] 143)).heap.size=W.heap.size+1 by simp,← hw] at h2
 have h1':Blk w0 W.heap.size zeros7 143:=by rw [hw];exact h1.alloc _
 have hR:=h.quiet hm
 have hlt:=h2.lt
 refine ⟨⟨hm,h1',hb,h.base.has⟩,⟨⟨hR.base.fine,hR.base.most,hR.base.rng,Or.inl hR.base.has,?_⟩,h2,Or.inr (Or.inr rfl),by omega,Mods.refl _ _⟩,hR.par⟩
 rintro k (hk|rfl|rfl)
 ·exact hR.base.old k hk
 ·omega
 ·omega
theorem res_at {W w0 w:World} {b:Nat} {S:Nat→Prop} {cs:List Value} (hB:Begun W w0 b S) (h:St7 w0 w b (W.heap.size+1) (Three S W.heap.size) cs):Blk w W.heap.size zeros7 143 :=
 hB.res.mods h.mods (by have:=hB.lt;rintro (e|e) <;> omega)
theorem ret_of {W w0 w:World} {b:Nat} {S:Nat→Prop} {z0 z1 z2 z3 z4 z5 z6:Value} (hB:Begun W w0 b S) (h:St7 w0 w b (W.heap.size+1) (Three S W.heap.size) [z0,z1,z2,z3,z4,z5,z6]) {wf:World}
  (hw:wf=((((((w.setCell ⟨W.heap.size,0,none⟩ z0).setCell ⟨W.heap.size,1,none⟩ z1).setCell ⟨W.heap.size,2,none⟩ z2).setCell ⟨W.heap.size,3,none⟩ z3).setCell ⟨W.heap.size,4,none⟩ z4).setCell ⟨W.heap.size,5,none⟩ z5).setCell ⟨W.heap.size,6,none⟩ z6) :
  Blk wf W.heap.size [z0,z1,z2,z3,z4,z5,z6] 143∧Mods (·=b) W wf∧Mods (·=W.heap.size) w wf∧Base wf b S:=by
 have hlt:=hB.lt
 have hm:Mods (·=W.heap.size) w wf:=by
  rw [hw]
  exact ((((((mods_put w _ 0 z0).trans (mods_put _ _ 1 z1)).trans (mods_put _ _ 2 z2)).trans (mods_put _ _ 3 z3)).trans (mods_put _ _ 4 z4)).trans (mods_put _ _ 5 z5)).trans (mods_put _ _ 6 z6)
 have hm0:Mods (·=b) W w:=(mods_b hB.mods).trans' h.mods (by rintro k (rfl|rfl) hk;rfl;omega)
 refine ⟨?_,hm0.trans' hm (by rintro k rfl hk;omega),hm,?_⟩
 ·rw [hw]
  exact blk_put (blk_put (blk_put (blk_put (blk_put (blk_put (blk_put (res_at hB h) 0 z0 rfl) 1 z1 rfl) 2 z2 rfl) 3 z3 rfl) 4 z4 rfl) 5 z5 rfl) 6 z6 rfl
 ·have hb:=h.base.far hm (by rintro k rfl;omega)
  exact ⟨hb.fine,hb.most,hb.rng,hB.has,fun k hk=>hb.old k (Or.inl hk)⟩
theorem NG.ret {W w0 w:World} {b:Nat} {S:Nat→Prop} {ts:List Tok} {z0 z1 z2 z3 z4 z5 z6:Value} (h:NG w0 w b (W.heap.size+1) (Three S W.heap.size) ts [z0,z1,z2,z3,z4,z5,z6]) (hB:Begun W w0 b S) {wf:World}
  (hw:wf=((((((w.setCell ⟨W.heap.size,0,none⟩ z0).setCell ⟨W.heap.size,1,none⟩ z1).setCell ⟨W.heap.size,2,none⟩ z2).setCell ⟨W.heap.size,3,none⟩ z3).setCell ⟨W.heap.size,4,none⟩ z4).setCell ⟨W.heap.size,5,none⟩ z5).setCell ⟨W.heap.size,6,none⟩ z6) :
  Blk wf W.heap.size [z0,z1,z2,z3,z4,z5,z6] 143∧Mods (·=b) W wf∧Par wf b ts∧Mods (Three S W.heap.size) w wf:=by
 obtain ⟨h1,h2,h3,h4⟩:=ret_of hB h.st hw
 exact ⟨h1,h2,h.par.far h3 (by rintro k rfl;exact hB.lt),h3.mono fun k _ hk=>Or.inr (Or.inl hk)⟩
theorem NB.ret {W w0 w:World} {b:Nat} {S:Nat→Prop} {n a:Int} {z0 z1 z2 z3 z4 z5 z6:Value} (h:NB w0 w b (W.heap.size+1) (Three S W.heap.size) n a [z0,z1,z2,z3,z4,z5,z6]) (hB:Begun W w0 b S) {wf:World}
  (hw:wf=((((((w.setCell ⟨W.heap.size,0,none⟩ z0).setCell ⟨W.heap.size,1,none⟩ z1).setCell ⟨W.heap.size,2,none⟩ z2).setCell ⟨W.heap.size,3,none⟩ z3).setCell ⟨W.heap.size,4,none⟩ z4).setCell ⟨W.heap.size,5,none⟩ z5).setCell ⟨W.heap.size,6,none⟩ z6) :
  Blk wf W.heap.size [z0,z1,z2,z3,z4,z5,z6] 143∧Mods (·=b) W wf∧Rb wf b S n a:=by
 obtain ⟨h1,h2,h3,h4⟩:=ret_of hB h.st hw
 exact ⟨h1,h2,h.bad.far h3 (by rintro k rfl;exact hB.lt),h4⟩
def IsStV (x:Value):Prop:=∃ cs,x=.agg cs.toArray∧Seven cs
def StmtIs (S:Nat→Prop) (s:St) (v:Value) (w:World):Prop:=∃ cs,v=.agg cs.toArray∧StAt w S s cs
def BlockC (f:Nat):Prop:=∀ (b:Nat) (S:Nat→Prop) (deep:Nat) (ts:List Tok) (W:World) (x:Except (Int×Int) (List St×List Tok)),deep≤13→Rd W b S ts→blockF f deep ts=some x →
 Calls Tryz.prog 47 #[.pointer (some ⟨b,0,none⟩),.int .i64 deep] W (Got (·=b) W b S IsSl (StsIs S) (some x))
def StmtC (f:Nat):Prop:=∀ (b:Nat) (S:Nat→Prop) (deep:Nat) (ts:List Tok) (W:World) (x:Except (Int×Int) (St×List Tok)),deep≤12→Rd W b S ts→stmtF f deep ts=some x →
 Calls Tryz.prog 79 #[.pointer (some ⟨b,0,none⟩),.int .i64 deep] W (Got (·=b) W b S IsStV (StmtIs S) (some x))
theorem see_two {s t:List UInt8} {ts:List Tok} (h:seeB s ts=true) (hne:s≠t):seeB t ts=false:=by
 unfold seeB at h ⊢
 simp only [Bool.and_eq_true,beq_iff_eq] at h
 rw [h.1]
 simp [hne]
theorem var_shape (f:Nat) (ta:Int) (ts:List Tok):(andThen (nameP ts.tail) fun n r=>andThen (must [61] r) fun _ r2=>andThen (exprF f 0 0 r2) fun v r3=>andThen (must [59] r3) fun _ r4=>okP (St.var ta n v) r4) =
  andThen (andThen (nameP ts.tail) fun n r=>andThen (must [61] r) fun _ r2=>andThen (exprF f 0 0 r2) fun v r3=>okP (St.var ta n v) r3) fun s r=>andThen (must [59] r) fun _ r2=>okP s r2:=by
 simp only [andThen_assoc]
 rfl
set_option maxRecDepth 100000 in
set_option maxHeartbeats 4000000 in
theorem stmt_if (f:Nat) (A:AllC f) (hB:BlockC f) (b:Nat) (S:Nat→Prop) (deep:Nat) (ts:List Tok) (W:World) (x:Except (Int×Int) (St×List Tok)) (hd:deep≤12) (h:Rd W b S ts) (hx:stmtF (f+1) deep ts=some x) (hs:seeB kIf ts=true) :
  Calls Tryz.prog 79 #[.pointer (some ⟨b,0,none⟩),.int .i64 deep] W (Got (·=b) W b S IsStV (StmtIs S) (some x)):=by
 simp only [stmtF] at hx
 have HR:=hiD h
 have HD:=hiD hd
 have hds:Hid ((deep:Int)+1=((deep+1:Nat):Int)):=hiD (by omega)
 have hd0:0≤(deep:Int)∧(deep:Int)≤12:=by omega
 obtain ⟨g,o,c,hp⟩:=h.par
 obtain ⟨t,rr,rfl⟩:=ends_cons hp.ends
 have hl:=hp.cl
 have ha:=hp.ca
 have hcap:=hp.cap
 have hmax:=hp.max
 have hbl:b<W.heap.size:=HR.out.base.old b HR.out.base.has
 have hgl:g<W.heap.size:=Nat.lt_trans hp.lt hbl
 have hta:headAt (t::rr)=t.at_:=rfl
 obtain ⟨ta,hta2⟩:∃ ta,ta=t.at_:=⟨_,rfl⟩
 rw [← hta2] at ha hta
 simp only [List.length_cons] at hcap
 obtain ⟨ts,hts⟩:∃ ts,ts=t::rr:=⟨_,rfl⟩
 rw [← hts] at hx HR hta hs
 rw [hta] at hx
 have HT:=hiD hta
 have hs2:=hs
 have HW:=hiD hs
 rw [if_pos hs] at hx
 clear hs2 hs
 have HX:=hiD hx
 clear hp hta hta2 hts hd hx h
 go_enter Tryz.func79,Tryz.ntmps79
 go_wp2_with fail
 go_at_call 46
 obtain ⟨w0,hw0⟩:∃ q,q=(W.alloc (.cells #[.int .i64 0,.int .i64 0,.string ⟨#[]⟩,.pointer none,.pointer none,.slice none 0 0,.slice none 0 0] 143)).alloc (.cells #[.int .i64 0,.int .i64 ta,.string ⟨#[]⟩,.pointer none,.pointer none,.slice none 0 0,.slice none 0 0] 143):=⟨_,rfl⟩
 obtain ⟨hbg,hng⟩:=stmt_start HR.out ta hw0
 have HBG:=hiD hbg
 have H0:=hiD hng
 rw [← hw0]
 clear hw0 HR hl ha hcap hmax hbl hgl hbg hng
 refine (take_yes b _ kIf ts _ H0.out.rd HW.out).mono ?_
 rintro e w1 ⟨rfl,hp,hm⟩
 have H1:=hiD (H0.out.next hp hm)
 clear hp hm H0 HW
 go_wp2_with fail
 go_at_call 110
 refine bind_of (hiD (Mods.refl _ _)) (hiD H1.out.rd) HX (fun y hy=>A.alone b (Three S W.heap.size) 0 ts.tail w1 y (by omega) H1.out.rd hy) ?_ ?_
 ·rintro en ea rfl xv w2 ⟨p2,rfl⟩ HB hm -
  have B2:=hiD (H1.out.fail HB.out.bad hm.out)
  clear HB hm H1 HX
  have c0:=B2.out.st.own.cell (i:=0) rfl
  have f0:=B2.out.st.own.free 0
  have c4:=B2.out.st.own.cell (i:=4) rfl
  have f4:=B2.out.st.own.free 4
  have hl:=B2.out.st.own.lt
  go_wp2_with fail
  have HQ:=((B2.out.st.putMods 0 (.int .i64 4)).trans ((B2.out.put (ds:=_) 0 (.int .i64 4) rfl).st.putMods 4 (.pointer p2)))
  have B3:=hiD ((B2.out.put (ds:=_) 0 (.int .i64 4) rfl).put (ds:=[.int .i64 4,.int .i64 ta,.string ⟨#[]⟩,.pointer none,.pointer p2,.slice none 0 0,.slice none 0 0]) 4 (.pointer p2) rfl)
  obtain ⟨w3,hw⟩:∃ q,q=((w2.setCell ⟨(W.heap.size+1),0,none⟩ (.int .i64 4)).setCell ⟨(W.heap.size+1),4,none⟩ (.pointer p2)):=⟨_,rfl⟩
  clear HQ
  rw [← hw] at B3 ⊢
  clear hw hl B2 c0 f0 c4 f4
  go_at_call 42
  refine okb_of (hiD (Mods.refl _ _)) (hiD B3.out.rb) ?_
  rintro w4-hm -
  have B4:=hiD (B3.out.next hm.out)
  clear hm B3
  go_wp2_with fail
  go_at_call 46
  refine takeb_of (s:=kElse) (hiD (Mods.refl _ _)) (hiD B4.out.rb) ?_
  rintro w5-hm -
  have B5:=hiD (B4.out.next hm.out)
  clear hm B4
  have c0:=B5.out.st.own.cell (i:=0) rfl
  have c1:=B5.out.st.own.cell (i:=1) rfl
  have c2:=B5.out.st.own.cell (i:=2) rfl
  have c3:=B5.out.st.own.cell (i:=3) rfl
  have c4:=B5.out.st.own.cell (i:=4) rfl
  have c5:=B5.out.st.own.cell (i:=5) rfl
  have c6:=B5.out.st.own.cell (i:=6) rfl
  have hRS:=res_at HBG.out B5.out.st
  have d0:=hRS.cell (i:=0) rfl
  have d1:=hRS.cell (i:=1) rfl
  have d2:=hRS.cell (i:=2) rfl
  have d3:=hRS.cell (i:=3) rfl
  have d4:=hRS.cell (i:=4) rfl
  have d5:=hRS.cell (i:=5) rfl
  have d6:=hRS.cell (i:=6) rfl
  have e0:=hRS.free 0
  have e1:=hRS.free 1
  have e2:=hRS.free 2
  have e3:=hRS.free 3
  have e4:=hRS.free 4
  have e5:=hRS.free 5
  have e6:=hRS.free 6
  clear hRS
  go_wp2
  obtain ⟨hq1,hq2,hq3⟩:=B5.out.ret HBG.out rfl
  have q0:=hq1.cell (i:=0) rfl
  have q1:=hq1.cell (i:=1) rfl
  have q2:=hq1.cell (i:=2) rfl
  have q3:=hq1.cell (i:=3) rfl
  have q4:=hq1.cell (i:=4) rfl
  have q5:=hq1.cell (i:=5) rfl
  have q6:=hq1.cell (i:=6) rfl
  refine bodyPost_ret (v:=.agg #[.int .i64 4,.int .i64 ta,.string ⟨#[]⟩,.pointer none,.pointer p2,.slice none 0 0,.slice none 0 0]) (by simp [results,Tryz.results79,go_sem,q0,q1,q2,q3,q4,q5,q6]) rfl ?_
  exact ⟨_,rfl,⟨_,rfl,⟨_,_,_,_,_,_,_,_,_,_,_,rfl⟩⟩,hq3,hq2⟩
 clear HX
 rintro v r2-HX xv w2 hv HR hm -
 obtain ⟨g2,rfl⟩:=ExAt.ptr hv
 have HV2:=hiD (show ExAt w2 (Three S W.heap.size) v _ from hv)
 have H2:=hiD (H1.out.next HR.out.par hm.out)
 clear hm HR hv H1
 have c0:=H2.out.st.own.cell (i:=0) rfl
 have f0:=H2.out.st.own.free 0
 have c4:=H2.out.st.own.cell (i:=4) rfl
 have f4:=H2.out.st.own.free 4
 have hl:=H2.out.st.own.lt
 go_upto_region 5 with (fail)
 have HQ:=((H2.out.st.putMods 0 (.int .i64 4)).trans ((H2.out.put (ds:=_) 0 (.int .i64 4) rfl).st.putMods 4 (.pointer (some ⟨g2,0,none⟩))))
 have HV3:=hiD (HV2.out.mods HQ)
 have H3:=hiD ((H2.out.put (ds:=_) 0 (.int .i64 4) rfl).put (ds:=[.int .i64 4,.int .i64 ta,.string ⟨#[]⟩,.pointer none,.pointer (some ⟨g2,0,none⟩),.slice none 0 0,.slice none 0 0]) 4 (.pointer (some ⟨g2,0,none⟩)) rfl)
 obtain ⟨w3,hw⟩:∃ q,q=((w2.setCell ⟨(W.heap.size+1),0,none⟩ (.int .i64 4)).setCell ⟨(W.heap.size+1),4,none⟩ (.pointer (some ⟨g2,0,none⟩))):=⟨_,rfl⟩
 clear HQ
 rw [← hw] at H3 HV3 ⊢
 clear hw hl H2 HV2 c0 f0 c4 f4
 go_wp2_with fail
 go_at_call 42
 refine ok_of (hiD (Mods.refl _ _)) (hiD H3.out.rd) ?_
 rintro w4 HR hm -
 have H4:=hiD (H3.out.next HR.out.par (mods_b hm.out))
 have HV4:=hiD (HV3.out.mods (H3.out.st.bMods (mods_b hm.out)))
 clear hm HR H3 HV3
 go_wp2_with fail
 go_at_call 47
 rw [hds.out]
 refine bind_of (hiD (Mods.refl _ _)) (hiD H4.out.rd) HX (fun y hy=>hB b (Three S W.heap.size) (deep+1) r2 w4 y (by have:=HD.out;omega) H4.out.rd hy) ?_ ?_
 ·rintro en ea rfl xv w5 ⟨pa5,pn5,pc5,rfl⟩ HB hm -
  have B5:=hiD (H4.out.fail HB.out.bad hm.out)
  clear HB hm HV4 H4 HX
  have c5:=B5.out.st.own.cell (i:=5) rfl
  have f5:=B5.out.st.own.free 5
  have hl:=B5.out.st.own.lt
  go_wp2_with fail
  have HQ:=(B5.out.st.putMods 5 (.slice pa5 pn5 pc5))
  have B6:=hiD (B5.out.put (ds:=[.int .i64 4,.int .i64 ta,.string ⟨#[]⟩,.pointer none,.pointer (some ⟨g2,0,none⟩),.slice pa5 pn5 pc5,.slice none 0 0]) 5 (.slice pa5 pn5 pc5) rfl)
  obtain ⟨w6,hw⟩:∃ q,q=(w5.setCell ⟨(W.heap.size+1),5,none⟩ (.slice pa5 pn5 pc5)):=⟨_,rfl⟩
  clear HQ
  rw [← hw] at B6 ⊢
  clear hw hl B5 c5 f5
  go_at_call 46
  refine takeb_of (s:=kElse) (hiD (Mods.refl _ _)) (hiD B6.out.rb) ?_
  rintro w7-hm -
  have B7:=hiD (B6.out.next hm.out)
  clear hm B6
  have c0:=B7.out.st.own.cell (i:=0) rfl
  have c1:=B7.out.st.own.cell (i:=1) rfl
  have c2:=B7.out.st.own.cell (i:=2) rfl
  have c3:=B7.out.st.own.cell (i:=3) rfl
  have c4:=B7.out.st.own.cell (i:=4) rfl
  have c5:=B7.out.st.own.cell (i:=5) rfl
  have c6:=B7.out.st.own.cell (i:=6) rfl
  have hRS:=res_at HBG.out B7.out.st
  have d0:=hRS.cell (i:=0) rfl
  have d1:=hRS.cell (i:=1) rfl
  have d2:=hRS.cell (i:=2) rfl
  have d3:=hRS.cell (i:=3) rfl
  have d4:=hRS.cell (i:=4) rfl
  have d5:=hRS.cell (i:=5) rfl
  have d6:=hRS.cell (i:=6) rfl
  have e0:=hRS.free 0
  have e1:=hRS.free 1
  have e2:=hRS.free 2
  have e3:=hRS.free 3
  have e4:=hRS.free 4
  have e5:=hRS.free 5
  have e6:=hRS.free 6
  clear hRS
  go_wp2
  obtain ⟨hq1,hq2,hq3⟩:=B7.out.ret HBG.out rfl
  have q0:=hq1.cell (i:=0) rfl
  have q1:=hq1.cell (i:=1) rfl
  have q2:=hq1.cell (i:=2) rfl
  have q3:=hq1.cell (i:=3) rfl
  have q4:=hq1.cell (i:=4) rfl
  have q5:=hq1.cell (i:=5) rfl
  have q6:=hq1.cell (i:=6) rfl
  refine bodyPost_ret (v:=.agg #[.int .i64 4,.int .i64 ta,.string ⟨#[]⟩,.pointer none,.pointer (some ⟨g2,0,none⟩),.slice pa5 pn5 pc5,.slice none 0 0]) (by simp [results,Tryz.results79,go_sem,q0,q1,q2,q3,q4,q5,q6]) rfl ?_
  exact ⟨_,rfl,⟨_,rfl,⟨_,_,_,_,_,_,_,_,_,_,_,rfl⟩⟩,hq3,hq2⟩
 clear HX
 rintro l r3-HX xv w5 hv HR hm -
 obtain ⟨vs5,hrow,hsts⟩:=hv
 obtain ⟨oa5,on5,oc5,rfl⟩:=hrow.form
 have HT_w5:=hiD hrow
 have HT_s5:=hiD hsts
 have H5:=hiD (H4.out.next HR.out.par hm.out)
 have HV5:=hiD (HV4.out.mods (H4.out.st.bMods hm.out))
 clear hm HR hrow hsts H4 HV4
 have c5:=H5.out.st.own.cell (i:=5) rfl
 have f5:=H5.out.st.own.free 5
 have hl:=H5.out.st.own.lt
 go_wp2_with fail
 have HQ:=(H5.out.st.putMods 5 (.slice oa5 on5 oc5))
 have HV6:=hiD (HV5.out.mods HQ)
 have HT_w6:=hiD (HT_w5.out.mods HQ (fun _ _ h=>h))
 have HT_s6:=hiD (StsAt.modsTo HQ (fun _ _ h=>h) _ _ HT_s5.out)
 have H6:=hiD (H5.out.put (ds:=[.int .i64 4,.int .i64 ta,.string ⟨#[]⟩,.pointer none,.pointer (some ⟨g2,0,none⟩),.slice oa5 on5 oc5,.slice none 0 0]) 5 (.slice oa5 on5 oc5) rfl)
 obtain ⟨w6,hw⟩:∃ q,q=(w5.setCell ⟨(W.heap.size+1),5,none⟩ (.slice oa5 on5 oc5)):=⟨_,rfl⟩
 clear HQ
 rw [← hw] at H6 HV6 HT_w6 HT_s6 ⊢
 clear hw hl H5 HV5 HT_w5 HT_s5 c5 f5
 go_at_call 46
 refine take_of (s:=kElse) (hiD (Mods.refl _ _)) (hiD H6.out.rd) HX ?_ ?_
 ·clear HX
  rintro-HX w7 HR hm -
  have H7:=hiD (H6.out.next HR.out.par hm.out)
  have HV7:=hiD (HV6.out.mods (H6.out.st.bMods hm.out))
  have HT_w7:=hiD (HT_w6.out.mods (H6.out.st.bMods hm.out) (fun _ _ h=>h))
  have HT_s7:=hiD (StsAt.modsTo (H6.out.st.bMods hm.out) (fun _ _ h=>h) _ _ HT_s6.out)
  clear hm HR H6 HV6 HT_w6 HT_s6
  go_wp2_with fail
  go_at_call 47
  rw [hds.out]
  refine bind_of (hiD (Mods.refl _ _)) (hiD H7.out.rd) HX (fun y hy=>hB b (Three S W.heap.size) (deep+1) r3.tail w7 y (by have:=HD.out;omega) H7.out.rd hy) ?_ ?_
  ·rintro en ea rfl xv w8 ⟨pa8,pn8,pc8,rfl⟩ HB hm -
   have B8:=hiD (H7.out.fail HB.out.bad hm.out)
   clear HB hm HV7 HT_w7 HT_s7 H7 HX
   have c6:=B8.out.st.own.cell (i:=6) rfl
   have f6:=B8.out.st.own.free 6
   have hl:=B8.out.st.own.lt
   go_upto_region 9 with (fail)
   have HQ:=(B8.out.st.putMods 6 (.slice pa8 pn8 pc8))
   have B9:=hiD (B8.out.put (ds:=[.int .i64 4,.int .i64 ta,.string ⟨#[]⟩,.pointer none,.pointer (some ⟨g2,0,none⟩),.slice oa5 on5 oc5,.slice pa8 pn8 pc8]) 6 (.slice pa8 pn8 pc8) rfl)
   obtain ⟨w9,hw⟩:∃ q,q=(w8.setCell ⟨(W.heap.size+1),6,none⟩ (.slice pa8 pn8 pc8)):=⟨_,rfl⟩
   clear HQ
   rw [← hw] at B9 ⊢
   clear hw hl B8 c6 f6
   have c0:=B9.out.st.own.cell (i:=0) rfl
   have c1:=B9.out.st.own.cell (i:=1) rfl
   have c2:=B9.out.st.own.cell (i:=2) rfl
   have c3:=B9.out.st.own.cell (i:=3) rfl
   have c4:=B9.out.st.own.cell (i:=4) rfl
   have c5:=B9.out.st.own.cell (i:=5) rfl
   have c6:=B9.out.st.own.cell (i:=6) rfl
   have hRS:=res_at HBG.out B9.out.st
   have d0:=hRS.cell (i:=0) rfl
   have d1:=hRS.cell (i:=1) rfl
   have d2:=hRS.cell (i:=2) rfl
   have d3:=hRS.cell (i:=3) rfl
   have d4:=hRS.cell (i:=4) rfl
   have d5:=hRS.cell (i:=5) rfl
   have d6:=hRS.cell (i:=6) rfl
   have e0:=hRS.free 0
   have e1:=hRS.free 1
   have e2:=hRS.free 2
   have e3:=hRS.free 3
   have e4:=hRS.free 4
   have e5:=hRS.free 5
   have e6:=hRS.free 6
   clear hRS
   go_wp2
   obtain ⟨hq1,hq2,hq3⟩:=B9.out.ret HBG.out rfl
   have q0:=hq1.cell (i:=0) rfl
   have q1:=hq1.cell (i:=1) rfl
   have q2:=hq1.cell (i:=2) rfl
   have q3:=hq1.cell (i:=3) rfl
   have q4:=hq1.cell (i:=4) rfl
   have q5:=hq1.cell (i:=5) rfl
   have q6:=hq1.cell (i:=6) rfl
   refine bodyPost_ret (v:=.agg #[.int .i64 4,.int .i64 ta,.string ⟨#[]⟩,.pointer none,.pointer (some ⟨g2,0,none⟩),.slice oa5 on5 oc5,.slice pa8 pn8 pc8]) (by simp [results,Tryz.results79,go_sem,q0,q1,q2,q3,q4,q5,q6]) rfl ?_
   exact ⟨_,rfl,⟨_,rfl,⟨_,_,_,_,_,_,_,_,_,_,_,rfl⟩⟩,hq3,hq2⟩
  clear HX
  rintro el r6-HX xv w8 hv HR hm -
  obtain ⟨vs8,hrow,hsts⟩:=hv
  obtain ⟨oa8,on8,oc8,rfl⟩:=hrow.form
  have HEw8:=hiD hrow
  have HEs8:=hiD hsts
  have H8:=hiD (H7.out.next HR.out.par hm.out)
  have HV8:=hiD (HV7.out.mods (H7.out.st.bMods hm.out))
  have HT_w8:=hiD (HT_w7.out.mods (H7.out.st.bMods hm.out) (fun _ _ h=>h))
  have HT_s8:=hiD (StsAt.modsTo (H7.out.st.bMods hm.out) (fun _ _ h=>h) _ _ HT_s7.out)
  clear hm HR hrow hsts H7 HV7 HT_w7 HT_s7
  have c6:=H8.out.st.own.cell (i:=6) rfl
  have f6:=H8.out.st.own.free 6
  have hl:=H8.out.st.own.lt
  go_upto_region 9 with (fail)
  have HQ:=(H8.out.st.putMods 6 (.slice oa8 on8 oc8))
  have HV9:=hiD (HV8.out.mods HQ)
  have HT_w9:=hiD (HT_w8.out.mods HQ (fun _ _ h=>h))
  have HT_s9:=hiD (StsAt.modsTo HQ (fun _ _ h=>h) _ _ HT_s8.out)
  have HEw9:=hiD (HEw8.out.mods HQ (fun _ _ h=>h))
  have HEs9:=hiD (StsAt.modsTo HQ (fun _ _ h=>h) _ _ HEs8.out)
  have H9:=hiD (H8.out.put (ds:=[.int .i64 4,.int .i64 ta,.string ⟨#[]⟩,.pointer none,.pointer (some ⟨g2,0,none⟩),.slice oa5 on5 oc5,.slice oa8 on8 oc8]) 6 (.slice oa8 on8 oc8) rfl)
  obtain ⟨w9,hw⟩:∃ q,q=(w8.setCell ⟨(W.heap.size+1),6,none⟩ (.slice oa8 on8 oc8)):=⟨_,rfl⟩
  clear HQ
  rw [← hw] at H9 HV9 HT_w9 HT_s9 HEw9 HEs9 ⊢
  clear hw hl H8 HV8 HT_w8 HT_s8 HEw8 HEs8 c6 f6
  obtain rfl:=(Option.some.inj HX.out).symm
  have c0:=H9.out.st.own.cell (i:=0) rfl
  have c1:=H9.out.st.own.cell (i:=1) rfl
  have c2:=H9.out.st.own.cell (i:=2) rfl
  have c3:=H9.out.st.own.cell (i:=3) rfl
  have c4:=H9.out.st.own.cell (i:=4) rfl
  have c5:=H9.out.st.own.cell (i:=5) rfl
  have c6:=H9.out.st.own.cell (i:=6) rfl
  have hRS:=res_at HBG.out H9.out.st
  have d0:=hRS.cell (i:=0) rfl
  have d1:=hRS.cell (i:=1) rfl
  have d2:=hRS.cell (i:=2) rfl
  have d3:=hRS.cell (i:=3) rfl
  have d4:=hRS.cell (i:=4) rfl
  have d5:=hRS.cell (i:=5) rfl
  have d6:=hRS.cell (i:=6) rfl
  have e0:=hRS.free 0
  have e1:=hRS.free 1
  have e2:=hRS.free 2
  have e3:=hRS.free 3
  have e4:=hRS.free 4
  have e5:=hRS.free 5
  have e6:=hRS.free 6
  clear hRS
  go_wp2
  obtain ⟨hq1,hq2,hq3,hq4⟩:=H9.out.ret HBG.out rfl
  have q0:=hq1.cell (i:=0) rfl
  have q1:=hq1.cell (i:=1) rfl
  have q2:=hq1.cell (i:=2) rfl
  have q3:=hq1.cell (i:=3) rfl
  have q4:=hq1.cell (i:=4) rfl
  have q5:=hq1.cell (i:=5) rfl
  have q6:=hq1.cell (i:=6) rfl
  refine bodyPost_ret (v:=.agg #[.int .i64 4,.int .i64 ta,.string ⟨#[]⟩,.pointer none,.pointer (some ⟨g2,0,none⟩),.slice oa5 on5 oc5,.slice oa8 on8 oc8]) (by simp [results,Tryz.results79,go_sem,q0,q1,q2,q3,q4,q5,q6]) rfl ?_
  refine ⟨_,rfl,⟨_,rfl,StAt.modsTo hq4 sub_three (.cond ta v l el) _ ?_⟩,hq3,hq2⟩
  simp only [StAt]
  exact ⟨_,_,_,_,_,rfl,HV9.out,HT_w9.out,HT_s9.out,HEw9.out,HEs9.out⟩
 clear HX
 rintro-HX w7 HR hm -
 have H7:=hiD (H6.out.next HR.out.par (mods_b hm.out))
 have HV7:=hiD (HV6.out.mods (H6.out.st.bMods (mods_b hm.out)))
 have HT_w7:=hiD (HT_w6.out.mods (H6.out.st.bMods (mods_b hm.out)) (fun _ _ h=>h))
 have HT_s7:=hiD (StsAt.modsTo (H6.out.st.bMods (mods_b hm.out)) (fun _ _ h=>h) _ _ HT_s6.out)
 clear hm HR H6 HV6 HT_w6 HT_s6
 obtain rfl:=(Option.some.inj HX.out).symm
 have c0:=H7.out.st.own.cell (i:=0) rfl
 have c1:=H7.out.st.own.cell (i:=1) rfl
 have c2:=H7.out.st.own.cell (i:=2) rfl
 have c3:=H7.out.st.own.cell (i:=3) rfl
 have c4:=H7.out.st.own.cell (i:=4) rfl
 have c5:=H7.out.st.own.cell (i:=5) rfl
 have c6:=H7.out.st.own.cell (i:=6) rfl
 have hRS:=res_at HBG.out H7.out.st
 have d0:=hRS.cell (i:=0) rfl
 have d1:=hRS.cell (i:=1) rfl
 have d2:=hRS.cell (i:=2) rfl
 have d3:=hRS.cell (i:=3) rfl
 have d4:=hRS.cell (i:=4) rfl
 have d5:=hRS.cell (i:=5) rfl
 have d6:=hRS.cell (i:=6) rfl
 have e0:=hRS.free 0
 have e1:=hRS.free 1
 have e2:=hRS.free 2
 have e3:=hRS.free 3
 have e4:=hRS.free 4
 have e5:=hRS.free 5
 have e6:=hRS.free 6
 clear hRS
 go_wp2
 obtain ⟨hq1,hq2,hq3,hq4⟩:=H7.out.ret HBG.out rfl
 have q0:=hq1.cell (i:=0) rfl
 have q1:=hq1.cell (i:=1) rfl
 have q2:=hq1.cell (i:=2) rfl
 have q3:=hq1.cell (i:=3) rfl
 have q4:=hq1.cell (i:=4) rfl
 have q5:=hq1.cell (i:=5) rfl
 have q6:=hq1.cell (i:=6) rfl
 refine bodyPost_ret (v:=.agg #[.int .i64 4,.int .i64 ta,.string ⟨#[]⟩,.pointer none,.pointer (some ⟨g2,0,none⟩),.slice oa5 on5 oc5,.slice none 0 0]) (by simp [results,Tryz.results79,go_sem,q0,q1,q2,q3,q4,q5,q6]) rfl ?_
 refine ⟨_,rfl,⟨_,rfl,StAt.modsTo hq4 sub_three (.cond ta v l []) _ ?_⟩,hq3,hq2⟩
 simp only [StAt]
 exact ⟨_,_,_,_,_,rfl,HV7.out,HT_w7.out,HT_s7.out,⟨World.ownsRow_nil _ _ _ _,fun _ hk=>by cases hk⟩,by simp only [StsAt]⟩
set_option maxRecDepth 100000 in
set_option maxHeartbeats 4000000 in
theorem stmt_while (f:Nat) (A:AllC f) (hB:BlockC f) (b:Nat) (S:Nat→Prop) (deep:Nat) (ts:List Tok) (W:World) (x:Except (Int×Int) (St×List Tok)) (hd:deep≤12) (h:Rd W b S ts) (hx:stmtF (f+1) deep ts=some x) (hs:seeB kWhile ts=true) :
  Calls Tryz.prog 79 #[.pointer (some ⟨b,0,none⟩),.int .i64 deep] W (Got (·=b) W b S IsStV (StmtIs S) (some x)):=by
 simp only [stmtF] at hx
 have HR:=hiD h
 have HD:=hiD hd
 have hds:Hid ((deep:Int)+1=((deep+1:Nat):Int)):=hiD (by omega)
 have hd0:0≤(deep:Int)∧(deep:Int)≤12:=by omega
 obtain ⟨g,o,c,hp⟩:=h.par
 obtain ⟨t,rr,rfl⟩:=ends_cons hp.ends
 have hl:=hp.cl
 have ha:=hp.ca
 have hcap:=hp.cap
 have hmax:=hp.max
 have hbl:b<W.heap.size:=HR.out.base.old b HR.out.base.has
 have hgl:g<W.heap.size:=Nat.lt_trans hp.lt hbl
 have hta:headAt (t::rr)=t.at_:=rfl
 obtain ⟨ta,hta2⟩:∃ ta,ta=t.at_:=⟨_,rfl⟩
 rw [← hta2] at ha hta
 simp only [List.length_cons] at hcap
 obtain ⟨ts,hts⟩:∃ ts,ts=t::rr:=⟨_,rfl⟩
 rw [← hts] at hx HR hta hs
 rw [hta] at hx
 have HT:=hiD hta
 have hs2:=hs
 have HW:=hiD hs
 rw [if_neg (by rw [see_two hs (by decide)];simp)] at hx
 rw [if_pos hs] at hx
 clear hs2 hs
 have HX:=hiD hx
 clear hp hta hta2 hts hd hx h
 go_enter Tryz.func79,Tryz.ntmps79
 go_wp2_with fail
 go_at_call 46
 obtain ⟨w0,hw0⟩:∃ q,q=(W.alloc (.cells #[.int .i64 0,.int .i64 0,.string ⟨#[]⟩,.pointer none,.pointer none,.slice none 0 0,.slice none 0 0] 143)).alloc (.cells #[.int .i64 0,.int .i64 ta,.string ⟨#[]⟩,.pointer none,.pointer none,.slice none 0 0,.slice none 0 0] 143):=⟨_,rfl⟩
 obtain ⟨hbg,hng⟩:=stmt_start HR.out ta hw0
 have HBG:=hiD hbg
 have H0:=hiD hng
 rw [← hw0]
 clear hw0 HR hl ha hcap hmax hbl hgl hbg hng
 refine (take_no b _ _ ts _ H0.out.rd (see_two HW.out (by decide))).mono ?_
 rintro e w1 ⟨rfl,hm⟩
 have H1:=hiD (H0.out.next (H0.out.par.mods hm) (mods_b hm))
 clear hm H0
 go_wp2_with fail
 go_at_call 46
 refine (take_yes b _ kWhile ts _ H1.out.rd HW.out).mono ?_
 rintro e w2 ⟨rfl,hp,hm⟩
 have H2:=hiD (H1.out.next hp hm)
 clear hp hm H1 HW
 go_wp2_with fail
 go_at_call 110
 refine bind_of (hiD (Mods.refl _ _)) (hiD H2.out.rd) HX (fun y hy=>A.alone b (Three S W.heap.size) 0 ts.tail w2 y (by omega) H2.out.rd hy) ?_ ?_
 ·rintro en ea rfl xv w3 ⟨p3,rfl⟩ HB hm -
  have B3:=hiD (H2.out.fail HB.out.bad hm.out)
  clear HB hm H2 HX
  have c0:=B3.out.st.own.cell (i:=0) rfl
  have f0:=B3.out.st.own.free 0
  have c4:=B3.out.st.own.cell (i:=4) rfl
  have f4:=B3.out.st.own.free 4
  have hl:=B3.out.st.own.lt
  go_wp2_with fail
  have HQ:=((B3.out.st.putMods 0 (.int .i64 5)).trans ((B3.out.put (ds:=_) 0 (.int .i64 5) rfl).st.putMods 4 (.pointer p3)))
  have B4:=hiD ((B3.out.put (ds:=_) 0 (.int .i64 5) rfl).put (ds:=[.int .i64 5,.int .i64 ta,.string ⟨#[]⟩,.pointer none,.pointer p3,.slice none 0 0,.slice none 0 0]) 4 (.pointer p3) rfl)
  obtain ⟨w4,hw⟩:∃ q,q=((w3.setCell ⟨(W.heap.size+1),0,none⟩ (.int .i64 5)).setCell ⟨(W.heap.size+1),4,none⟩ (.pointer p3)):=⟨_,rfl⟩
  clear HQ
  rw [← hw] at B4 ⊢
  clear hw hl B3 c0 f0 c4 f4
  go_at_call 42
  refine okb_of (hiD (Mods.refl _ _)) (hiD B4.out.rb) ?_
  rintro w5-hm -
  have B5:=hiD (B4.out.next hm.out)
  clear hm B4
  have c0:=B5.out.st.own.cell (i:=0) rfl
  have c1:=B5.out.st.own.cell (i:=1) rfl
  have c2:=B5.out.st.own.cell (i:=2) rfl
  have c3:=B5.out.st.own.cell (i:=3) rfl
  have c4:=B5.out.st.own.cell (i:=4) rfl
  have c5:=B5.out.st.own.cell (i:=5) rfl
  have c6:=B5.out.st.own.cell (i:=6) rfl
  have hRS:=res_at HBG.out B5.out.st
  have d0:=hRS.cell (i:=0) rfl
  have d1:=hRS.cell (i:=1) rfl
  have d2:=hRS.cell (i:=2) rfl
  have d3:=hRS.cell (i:=3) rfl
  have d4:=hRS.cell (i:=4) rfl
  have d5:=hRS.cell (i:=5) rfl
  have d6:=hRS.cell (i:=6) rfl
  have e0:=hRS.free 0
  have e1:=hRS.free 1
  have e2:=hRS.free 2
  have e3:=hRS.free 3
  have e4:=hRS.free 4
  have e5:=hRS.free 5
  have e6:=hRS.free 6
  clear hRS
  go_wp2
  obtain ⟨hq1,hq2,hq3⟩:=B5.out.ret HBG.out rfl
  have q0:=hq1.cell (i:=0) rfl
  have q1:=hq1.cell (i:=1) rfl
  have q2:=hq1.cell (i:=2) rfl
  have q3:=hq1.cell (i:=3) rfl
  have q4:=hq1.cell (i:=4) rfl
  have q5:=hq1.cell (i:=5) rfl
  have q6:=hq1.cell (i:=6) rfl
  refine bodyPost_ret (v:=.agg #[.int .i64 5,.int .i64 ta,.string ⟨#[]⟩,.pointer none,.pointer p3,.slice none 0 0,.slice none 0 0]) (by simp [results,Tryz.results79,go_sem,q0,q1,q2,q3,q4,q5,q6]) rfl ?_
  exact ⟨_,rfl,⟨_,rfl,⟨_,_,_,_,_,_,_,_,_,_,_,rfl⟩⟩,hq3,hq2⟩
 clear HX
 rintro v r2-HX xv w3 hv HR hm -
 obtain ⟨g3,rfl⟩:=ExAt.ptr hv
 have HV3:=hiD (show ExAt w3 (Three S W.heap.size) v _ from hv)
 have H3:=hiD (H2.out.next HR.out.par hm.out)
 clear hm HR hv H2
 have c0:=H3.out.st.own.cell (i:=0) rfl
 have f0:=H3.out.st.own.free 0
 have c4:=H3.out.st.own.cell (i:=4) rfl
 have f4:=H3.out.st.own.free 4
 have hl:=H3.out.st.own.lt
 go_upto_region 12 with (fail)
 have HQ:=((H3.out.st.putMods 0 (.int .i64 5)).trans ((H3.out.put (ds:=_) 0 (.int .i64 5) rfl).st.putMods 4 (.pointer (some ⟨g3,0,none⟩))))
 have HV4:=hiD (HV3.out.mods HQ)
 have H4:=hiD ((H3.out.put (ds:=_) 0 (.int .i64 5) rfl).put (ds:=[.int .i64 5,.int .i64 ta,.string ⟨#[]⟩,.pointer none,.pointer (some ⟨g3,0,none⟩),.slice none 0 0,.slice none 0 0]) 4 (.pointer (some ⟨g3,0,none⟩)) rfl)
 obtain ⟨w4,hw⟩:∃ q,q=((w3.setCell ⟨(W.heap.size+1),0,none⟩ (.int .i64 5)).setCell ⟨(W.heap.size+1),4,none⟩ (.pointer (some ⟨g3,0,none⟩))):=⟨_,rfl⟩
 clear HQ
 rw [← hw] at H4 HV4 ⊢
 clear hw hl H3 HV3 c0 f0 c4 f4
 go_wp2_with fail
 go_at_call 42
 refine ok_of (hiD (Mods.refl _ _)) (hiD H4.out.rd) ?_
 rintro w5 HR hm -
 have H5:=hiD (H4.out.next HR.out.par (mods_b hm.out))
 have HV5:=hiD (HV4.out.mods (H4.out.st.bMods (mods_b hm.out)))
 clear hm HR H4 HV4
 go_wp2_with fail
 go_at_call 47
 rw [hds.out]
 refine bind_of (hiD (Mods.refl _ _)) (hiD H5.out.rd) HX (fun y hy=>hB b (Three S W.heap.size) (deep+1) r2 w5 y (by have:=HD.out;omega) H5.out.rd hy) ?_ ?_
 ·rintro en ea rfl xv w6 ⟨pa6,pn6,pc6,rfl⟩ HB hm -
  have B6:=hiD (H5.out.fail HB.out.bad hm.out)
  clear HB hm HV5 H5 HX
  have c5:=B6.out.st.own.cell (i:=5) rfl
  have f5:=B6.out.st.own.free 5
  have hl:=B6.out.st.own.lt
  go_upto_region 14 with (fail)
  have HQ:=(B6.out.st.putMods 5 (.slice pa6 pn6 pc6))
  have B7:=hiD (B6.out.put (ds:=[.int .i64 5,.int .i64 ta,.string ⟨#[]⟩,.pointer none,.pointer (some ⟨g3,0,none⟩),.slice pa6 pn6 pc6,.slice none 0 0]) 5 (.slice pa6 pn6 pc6) rfl)
  obtain ⟨w7,hw⟩:∃ q,q=(w6.setCell ⟨(W.heap.size+1),5,none⟩ (.slice pa6 pn6 pc6)):=⟨_,rfl⟩
  clear HQ
  rw [← hw] at B7 ⊢
  clear hw hl B6 c5 f5
  have c0:=B7.out.st.own.cell (i:=0) rfl
  have c1:=B7.out.st.own.cell (i:=1) rfl
  have c2:=B7.out.st.own.cell (i:=2) rfl
  have c3:=B7.out.st.own.cell (i:=3) rfl
  have c4:=B7.out.st.own.cell (i:=4) rfl
  have c5:=B7.out.st.own.cell (i:=5) rfl
  have c6:=B7.out.st.own.cell (i:=6) rfl
  have hRS:=res_at HBG.out B7.out.st
  have d0:=hRS.cell (i:=0) rfl
  have d1:=hRS.cell (i:=1) rfl
  have d2:=hRS.cell (i:=2) rfl
  have d3:=hRS.cell (i:=3) rfl
  have d4:=hRS.cell (i:=4) rfl
  have d5:=hRS.cell (i:=5) rfl
  have d6:=hRS.cell (i:=6) rfl
  have e0:=hRS.free 0
  have e1:=hRS.free 1
  have e2:=hRS.free 2
  have e3:=hRS.free 3
  have e4:=hRS.free 4
  have e5:=hRS.free 5
  have e6:=hRS.free 6
  clear hRS
  go_wp2
  obtain ⟨hq1,hq2,hq3⟩:=B7.out.ret HBG.out rfl
  have q0:=hq1.cell (i:=0) rfl
  have q1:=hq1.cell (i:=1) rfl
  have q2:=hq1.cell (i:=2) rfl
  have q3:=hq1.cell (i:=3) rfl
  have q4:=hq1.cell (i:=4) rfl
  have q5:=hq1.cell (i:=5) rfl
  have q6:=hq1.cell (i:=6) rfl
  refine bodyPost_ret (v:=.agg #[.int .i64 5,.int .i64 ta,.string ⟨#[]⟩,.pointer none,.pointer (some ⟨g3,0,none⟩),.slice pa6 pn6 pc6,.slice none 0 0]) (by simp [results,Tryz.results79,go_sem,q0,q1,q2,q3,q4,q5,q6]) rfl ?_
  exact ⟨_,rfl,⟨_,rfl,⟨_,_,_,_,_,_,_,_,_,_,_,rfl⟩⟩,hq3,hq2⟩
 clear HX
 rintro l r3-HX xv w6 hv HR hm -
 obtain ⟨vs6,hrow,hsts⟩:=hv
 obtain ⟨oa6,on6,oc6,rfl⟩:=hrow.form
 have HT_w6:=hiD hrow
 have HT_s6:=hiD hsts
 have H6:=hiD (H5.out.next HR.out.par hm.out)
 have HV6:=hiD (HV5.out.mods (H5.out.st.bMods hm.out))
 clear hm HR hrow hsts H5 HV5
 have c5:=H6.out.st.own.cell (i:=5) rfl
 have f5:=H6.out.st.own.free 5
 have hl:=H6.out.st.own.lt
 go_upto_region 14 with (fail)
 have HQ:=(H6.out.st.putMods 5 (.slice oa6 on6 oc6))
 have HV7:=hiD (HV6.out.mods HQ)
 have HT_w7:=hiD (HT_w6.out.mods HQ (fun _ _ h=>h))
 have HT_s7:=hiD (StsAt.modsTo HQ (fun _ _ h=>h) _ _ HT_s6.out)
 have H7:=hiD (H6.out.put (ds:=[.int .i64 5,.int .i64 ta,.string ⟨#[]⟩,.pointer none,.pointer (some ⟨g3,0,none⟩),.slice oa6 on6 oc6,.slice none 0 0]) 5 (.slice oa6 on6 oc6) rfl)
 obtain ⟨w7,hw⟩:∃ q,q=(w6.setCell ⟨(W.heap.size+1),5,none⟩ (.slice oa6 on6 oc6)):=⟨_,rfl⟩
 clear HQ
 rw [← hw] at H7 HV7 HT_w7 HT_s7 ⊢
 clear hw hl H6 HV6 HT_w6 HT_s6 c5 f5
 obtain rfl:=(Option.some.inj HX.out).symm
 have c0:=H7.out.st.own.cell (i:=0) rfl
 have c1:=H7.out.st.own.cell (i:=1) rfl
 have c2:=H7.out.st.own.cell (i:=2) rfl
 have c3:=H7.out.st.own.cell (i:=3) rfl
 have c4:=H7.out.st.own.cell (i:=4) rfl
 have c5:=H7.out.st.own.cell (i:=5) rfl
 have c6:=H7.out.st.own.cell (i:=6) rfl
 have hRS:=res_at HBG.out H7.out.st
 have d0:=hRS.cell (i:=0) rfl
 have d1:=hRS.cell (i:=1) rfl
 have d2:=hRS.cell (i:=2) rfl
 have d3:=hRS.cell (i:=3) rfl
 have d4:=hRS.cell (i:=4) rfl
 have d5:=hRS.cell (i:=5) rfl
 have d6:=hRS.cell (i:=6) rfl
 have e0:=hRS.free 0
 have e1:=hRS.free 1
 have e2:=hRS.free 2
 have e3:=hRS.free 3
 have e4:=hRS.free 4
 have e5:=hRS.free 5
 have e6:=hRS.free 6
 clear hRS
 go_wp2
 obtain ⟨hq1,hq2,hq3,hq4⟩:=H7.out.ret HBG.out rfl
 have q0:=hq1.cell (i:=0) rfl
 have q1:=hq1.cell (i:=1) rfl
 have q2:=hq1.cell (i:=2) rfl
 have q3:=hq1.cell (i:=3) rfl
 have q4:=hq1.cell (i:=4) rfl
 have q5:=hq1.cell (i:=5) rfl
 have q6:=hq1.cell (i:=6) rfl
 refine bodyPost_ret (v:=.agg #[.int .i64 5,.int .i64 ta,.string ⟨#[]⟩,.pointer none,.pointer (some ⟨g3,0,none⟩),.slice oa6 on6 oc6,.slice none 0 0]) (by simp [results,Tryz.results79,go_sem,q0,q1,q2,q3,q4,q5,q6]) rfl ?_
 refine ⟨_,rfl,⟨_,rfl,StAt.modsTo hq4 sub_three (.loop ta v l) _ ?_⟩,hq3,hq2⟩
 simp only [StAt]
 exact ⟨_,_,_,rfl,HV7.out,HT_w7.out,HT_s7.out⟩
set_option maxRecDepth 100000 in
set_option maxHeartbeats 4000000 in
theorem stmt_ret (f:Nat) (A:AllC f) (hB:BlockC f) (b:Nat) (S:Nat→Prop) (deep:Nat) (ts:List Tok) (W:World) (x:Except (Int×Int) (St×List Tok)) (hd:deep≤12) (h:Rd W b S ts) (hx:stmtF (f+1) deep ts=some x) (hs:seeB kReturn ts=true) :
  Calls Tryz.prog 79 #[.pointer (some ⟨b,0,none⟩),.int .i64 deep] W (Got (·=b) W b S IsStV (StmtIs S) (some x)):=by
 simp only [stmtF] at hx
 have HR:=hiD h
 have HD:=hiD hd
 have hds:Hid ((deep:Int)+1=((deep+1:Nat):Int)):=hiD (by omega)
 have hd0:0≤(deep:Int)∧(deep:Int)≤12:=by omega
 obtain ⟨g,o,c,hp⟩:=h.par
 obtain ⟨t,rr,rfl⟩:=ends_cons hp.ends
 have hl:=hp.cl
 have ha:=hp.ca
 have hcap:=hp.cap
 have hmax:=hp.max
 have hbl:b<W.heap.size:=HR.out.base.old b HR.out.base.has
 have hgl:g<W.heap.size:=Nat.lt_trans hp.lt hbl
 have hta:headAt (t::rr)=t.at_:=rfl
 obtain ⟨ta,hta2⟩:∃ ta,ta=t.at_:=⟨_,rfl⟩
 rw [← hta2] at ha hta
 simp only [List.length_cons] at hcap
 obtain ⟨ts,hts⟩:∃ ts,ts=t::rr:=⟨_,rfl⟩
 rw [← hts] at hx HR hta hs
 rw [hta] at hx
 have HT:=hiD hta
 have hs2:=hs
 have HW:=hiD hs
 rw [if_neg (by rw [see_two hs (by decide)];simp)] at hx
 rw [if_neg (by rw [see_two hs (by decide)];simp)] at hx
 rw [if_neg (by rw [see_two hs (by decide)];simp)] at hx
 rw [if_pos hs] at hx
 clear hs2 hs
 have HX:=hiD hx
 clear hp hta hta2 hts hd hx h
 go_enter Tryz.func79,Tryz.ntmps79
 go_wp2_with fail
 go_at_call 46
 obtain ⟨w0,hw0⟩:∃ q,q=(W.alloc (.cells #[.int .i64 0,.int .i64 0,.string ⟨#[]⟩,.pointer none,.pointer none,.slice none 0 0,.slice none 0 0] 143)).alloc (.cells #[.int .i64 0,.int .i64 ta,.string ⟨#[]⟩,.pointer none,.pointer none,.slice none 0 0,.slice none 0 0] 143):=⟨_,rfl⟩
 obtain ⟨hbg,hng⟩:=stmt_start HR.out ta hw0
 have HBG:=hiD hbg
 have H0:=hiD hng
 rw [← hw0]
 clear hw0 HR hl ha hcap hmax hbl hgl hbg hng
 refine (take_no b _ _ ts _ H0.out.rd (see_two HW.out (by decide))).mono ?_
 rintro e w1 ⟨rfl,hm⟩
 have H1:=hiD (H0.out.next (H0.out.par.mods hm) (mods_b hm))
 clear hm H0
 go_wp2_with fail
 go_at_call 46
 refine (take_no b _ _ ts _ H1.out.rd (see_two HW.out (by decide))).mono ?_
 rintro e w2 ⟨rfl,hm⟩
 have H2:=hiD (H1.out.next (H1.out.par.mods hm) (mods_b hm))
 clear hm H1
 go_wp2_with fail
 go_at_call 46
 refine (take_yes b _ kReturn ts _ H2.out.rd HW.out).mono ?_
 rintro e w3 ⟨rfl,hp,hm⟩
 have H3:=hiD (H2.out.next hp hm)
 clear hp hm H2 HW
 go_wp2_with fail
 go_at_call 111
 refine bind_of (hiD (Mods.refl _ _)) (hiD H3.out.rd) HX (fun y hy=>A.expr b (Three S W.heap.size) 0 0 ts.tail w3 y (by omega) (by omega) H3.out.rd hy) ?_ ?_
 ·rintro en ea rfl xv w4 ⟨p4,rfl⟩ HB hm -
  have B4:=hiD (H3.out.fail HB.out.bad hm.out)
  clear HB hm H3 HX
  have c0:=B4.out.st.own.cell (i:=0) rfl
  have f0:=B4.out.st.own.free 0
  have c4:=B4.out.st.own.cell (i:=4) rfl
  have f4:=B4.out.st.own.free 4
  have hl:=B4.out.st.own.lt
  go_wp2_with fail
  have HQ:=((B4.out.st.putMods 0 (.int .i64 6)).trans ((B4.out.put (ds:=_) 0 (.int .i64 6) rfl).st.putMods 4 (.pointer p4)))
  have B5:=hiD ((B4.out.put (ds:=_) 0 (.int .i64 6) rfl).put (ds:=[.int .i64 6,.int .i64 ta,.string ⟨#[]⟩,.pointer none,.pointer p4,.slice none 0 0,.slice none 0 0]) 4 (.pointer p4) rfl)
  obtain ⟨w5,hw⟩:∃ q,q=((w4.setCell ⟨(W.heap.size+1),0,none⟩ (.int .i64 6)).setCell ⟨(W.heap.size+1),4,none⟩ (.pointer p4)):=⟨_,rfl⟩
  clear HQ
  rw [← hw] at B5 ⊢
  clear hw hl B4 c0 f0 c4 f4
  go_at_call 44
  refine mustb_of (s:=[59]) (hiD (Mods.refl _ _)) (hiD B5.out.rb) ?_
  rintro w6-hm -
  have B6:=hiD (B5.out.next hm.out)
  clear hm B5
  have c0:=B6.out.st.own.cell (i:=0) rfl
  have c1:=B6.out.st.own.cell (i:=1) rfl
  have c2:=B6.out.st.own.cell (i:=2) rfl
  have c3:=B6.out.st.own.cell (i:=3) rfl
  have c4:=B6.out.st.own.cell (i:=4) rfl
  have c5:=B6.out.st.own.cell (i:=5) rfl
  have c6:=B6.out.st.own.cell (i:=6) rfl
  have hRS:=res_at HBG.out B6.out.st
  have d0:=hRS.cell (i:=0) rfl
  have d1:=hRS.cell (i:=1) rfl
  have d2:=hRS.cell (i:=2) rfl
  have d3:=hRS.cell (i:=3) rfl
  have d4:=hRS.cell (i:=4) rfl
  have d5:=hRS.cell (i:=5) rfl
  have d6:=hRS.cell (i:=6) rfl
  have e0:=hRS.free 0
  have e1:=hRS.free 1
  have e2:=hRS.free 2
  have e3:=hRS.free 3
  have e4:=hRS.free 4
  have e5:=hRS.free 5
  have e6:=hRS.free 6
  clear hRS
  go_wp2
  obtain ⟨hq1,hq2,hq3⟩:=B6.out.ret HBG.out rfl
  have q0:=hq1.cell (i:=0) rfl
  have q1:=hq1.cell (i:=1) rfl
  have q2:=hq1.cell (i:=2) rfl
  have q3:=hq1.cell (i:=3) rfl
  have q4:=hq1.cell (i:=4) rfl
  have q5:=hq1.cell (i:=5) rfl
  have q6:=hq1.cell (i:=6) rfl
  refine bodyPost_ret (v:=.agg #[.int .i64 6,.int .i64 ta,.string ⟨#[]⟩,.pointer none,.pointer p4,.slice none 0 0,.slice none 0 0]) (by simp [results,Tryz.results79,go_sem,q0,q1,q2,q3,q4,q5,q6]) rfl ?_
  exact ⟨_,rfl,⟨_,rfl,⟨_,_,_,_,_,_,_,_,_,_,_,rfl⟩⟩,hq3,hq2⟩
 clear HX
 rintro v r2-HX xv w4 hv HR hm -
 obtain ⟨g4,rfl⟩:=ExAt.ptr hv
 have HV4:=hiD (show ExAt w4 (Three S W.heap.size) v _ from hv)
 have H4:=hiD (H3.out.next HR.out.par hm.out)
 clear hm HR hv H3
 have c0:=H4.out.st.own.cell (i:=0) rfl
 have f0:=H4.out.st.own.free 0
 have c4:=H4.out.st.own.cell (i:=4) rfl
 have f4:=H4.out.st.own.free 4
 have hl:=H4.out.st.own.lt
 go_wp2_with fail
 have HQ:=((H4.out.st.putMods 0 (.int .i64 6)).trans ((H4.out.put (ds:=_) 0 (.int .i64 6) rfl).st.putMods 4 (.pointer (some ⟨g4,0,none⟩))))
 have HV5:=hiD (HV4.out.mods HQ)
 have H5:=hiD ((H4.out.put (ds:=_) 0 (.int .i64 6) rfl).put (ds:=[.int .i64 6,.int .i64 ta,.string ⟨#[]⟩,.pointer none,.pointer (some ⟨g4,0,none⟩),.slice none 0 0,.slice none 0 0]) 4 (.pointer (some ⟨g4,0,none⟩)) rfl)
 obtain ⟨w5,hw⟩:∃ q,q=((w4.setCell ⟨(W.heap.size+1),0,none⟩ (.int .i64 6)).setCell ⟨(W.heap.size+1),4,none⟩ (.pointer (some ⟨g4,0,none⟩))):=⟨_,rfl⟩
 clear HQ
 rw [← hw] at H5 HV5 ⊢
 clear hw hl H4 HV4 c0 f0 c4 f4
 go_at_call 44
 refine must_of (s:=[59]) (hiD (Mods.refl _ _)) (hiD H5.out.rd) HX ?_ ?_
 ·rintro en ea rfl w6 HB hm -
  have B6:=hiD (H5.out.fail HB.out.bad hm.out)
  clear HB hm HV5 H5 HX
  have c0:=B6.out.st.own.cell (i:=0) rfl
  have c1:=B6.out.st.own.cell (i:=1) rfl
  have c2:=B6.out.st.own.cell (i:=2) rfl
  have c3:=B6.out.st.own.cell (i:=3) rfl
  have c4:=B6.out.st.own.cell (i:=4) rfl
  have c5:=B6.out.st.own.cell (i:=5) rfl
  have c6:=B6.out.st.own.cell (i:=6) rfl
  have hRS:=res_at HBG.out B6.out.st
  have d0:=hRS.cell (i:=0) rfl
  have d1:=hRS.cell (i:=1) rfl
  have d2:=hRS.cell (i:=2) rfl
  have d3:=hRS.cell (i:=3) rfl
  have d4:=hRS.cell (i:=4) rfl
  have d5:=hRS.cell (i:=5) rfl
  have d6:=hRS.cell (i:=6) rfl
  have e0:=hRS.free 0
  have e1:=hRS.free 1
  have e2:=hRS.free 2
  have e3:=hRS.free 3
  have e4:=hRS.free 4
  have e5:=hRS.free 5
  have e6:=hRS.free 6
  clear hRS
  go_wp2
  obtain ⟨hq1,hq2,hq3⟩:=B6.out.ret HBG.out rfl
  have q0:=hq1.cell (i:=0) rfl
  have q1:=hq1.cell (i:=1) rfl
  have q2:=hq1.cell (i:=2) rfl
  have q3:=hq1.cell (i:=3) rfl
  have q4:=hq1.cell (i:=4) rfl
  have q5:=hq1.cell (i:=5) rfl
  have q6:=hq1.cell (i:=6) rfl
  refine bodyPost_ret (v:=.agg #[.int .i64 6,.int .i64 ta,.string ⟨#[]⟩,.pointer none,.pointer (some ⟨g4,0,none⟩),.slice none 0 0,.slice none 0 0]) (by simp [results,Tryz.results79,go_sem,q0,q1,q2,q3,q4,q5,q6]) rfl ?_
  exact ⟨_,rfl,⟨_,rfl,⟨_,_,_,_,_,_,_,_,_,_,_,rfl⟩⟩,hq3,hq2⟩
 clear HX
 rintro r6-HX w6 HR hm -
 have H6:=hiD (H5.out.next HR.out.par hm.out)
 have HV6:=hiD (HV5.out.mods (H5.out.st.bMods hm.out))
 clear hm HR H5 HV5
 obtain rfl:=(Option.some.inj HX.out).symm
 have c0:=H6.out.st.own.cell (i:=0) rfl
 have c1:=H6.out.st.own.cell (i:=1) rfl
 have c2:=H6.out.st.own.cell (i:=2) rfl
 have c3:=H6.out.st.own.cell (i:=3) rfl
 have c4:=H6.out.st.own.cell (i:=4) rfl
 have c5:=H6.out.st.own.cell (i:=5) rfl
 have c6:=H6.out.st.own.cell (i:=6) rfl
 have hRS:=res_at HBG.out H6.out.st
 have d0:=hRS.cell (i:=0) rfl
 have d1:=hRS.cell (i:=1) rfl
 have d2:=hRS.cell (i:=2) rfl
 have d3:=hRS.cell (i:=3) rfl
 have d4:=hRS.cell (i:=4) rfl
 have d5:=hRS.cell (i:=5) rfl
 have d6:=hRS.cell (i:=6) rfl
 have e0:=hRS.free 0
 have e1:=hRS.free 1
 have e2:=hRS.free 2
 have e3:=hRS.free 3
 have e4:=hRS.free 4
 have e5:=hRS.free 5
 have e6:=hRS.free 6
 clear hRS
 go_wp2
 obtain ⟨hq1,hq2,hq3,hq4⟩:=H6.out.ret HBG.out rfl
 have q0:=hq1.cell (i:=0) rfl
 have q1:=hq1.cell (i:=1) rfl
 have q2:=hq1.cell (i:=2) rfl
 have q3:=hq1.cell (i:=3) rfl
 have q4:=hq1.cell (i:=4) rfl
 have q5:=hq1.cell (i:=5) rfl
 have q6:=hq1.cell (i:=6) rfl
 refine bodyPost_ret (v:=.agg #[.int .i64 6,.int .i64 ta,.string ⟨#[]⟩,.pointer none,.pointer (some ⟨g4,0,none⟩),.slice none 0 0,.slice none 0 0]) (by simp [results,Tryz.results79,go_sem,q0,q1,q2,q3,q4,q5,q6]) rfl ?_
 refine ⟨_,rfl,⟨_,rfl,StAt.modsTo hq4 sub_three (.ret ta v) _ ?_⟩,hq3,hq2⟩
 simp only [StAt]
 exact ⟨_,rfl,HV6.out⟩
set_option maxRecDepth 100000 in
set_option maxHeartbeats 4000000 in
theorem stmt_print (f:Nat) (A:AllC f) (hB:BlockC f) (b:Nat) (S:Nat→Prop) (deep:Nat) (ts:List Tok) (W:World) (x:Except (Int×Int) (St×List Tok)) (hd:deep≤12) (h:Rd W b S ts) (hx:stmtF (f+1) deep ts=some x) (hs:seeB kPrint ts=true) :
  Calls Tryz.prog 79 #[.pointer (some ⟨b,0,none⟩),.int .i64 deep] W (Got (·=b) W b S IsStV (StmtIs S) (some x)):=by
 simp only [stmtF] at hx
 have HR:=hiD h
 have HD:=hiD hd
 have hds:Hid ((deep:Int)+1=((deep+1:Nat):Int)):=hiD (by omega)
 have hd0:0≤(deep:Int)∧(deep:Int)≤12:=by omega
 obtain ⟨g,o,c,hp⟩:=h.par
 obtain ⟨t,rr,rfl⟩:=ends_cons hp.ends
 have hl:=hp.cl
 have ha:=hp.ca
 have hcap:=hp.cap
 have hmax:=hp.max
 have hbl:b<W.heap.size:=HR.out.base.old b HR.out.base.has
 have hgl:g<W.heap.size:=Nat.lt_trans hp.lt hbl
 have hta:headAt (t::rr)=t.at_:=rfl
 obtain ⟨ta,hta2⟩:∃ ta,ta=t.at_:=⟨_,rfl⟩
 rw [← hta2] at ha hta
 simp only [List.length_cons] at hcap
 obtain ⟨ts,hts⟩:∃ ts,ts=t::rr:=⟨_,rfl⟩
 rw [← hts] at hx HR hta hs
 rw [hta] at hx
 have HT:=hiD hta
 have hs2:=hs
 have HW:=hiD hs
 rw [if_neg (by rw [see_two hs (by decide)];simp)] at hx
 rw [if_neg (by rw [see_two hs (by decide)];simp)] at hx
 rw [if_neg (by rw [see_two hs (by decide)];simp)] at hx
 rw [if_neg (by rw [see_two hs (by decide)];simp)] at hx
 rw [if_pos hs] at hx
 clear hs2 hs
 have HX:=hiD hx
 clear hp hta hta2 hts hd hx h
 go_enter Tryz.func79,Tryz.ntmps79
 go_wp2_with fail
 go_at_call 46
 obtain ⟨w0,hw0⟩:∃ q,q=(W.alloc (.cells #[.int .i64 0,.int .i64 0,.string ⟨#[]⟩,.pointer none,.pointer none,.slice none 0 0,.slice none 0 0] 143)).alloc (.cells #[.int .i64 0,.int .i64 ta,.string ⟨#[]⟩,.pointer none,.pointer none,.slice none 0 0,.slice none 0 0] 143):=⟨_,rfl⟩
 obtain ⟨hbg,hng⟩:=stmt_start HR.out ta hw0
 have HBG:=hiD hbg
 have H0:=hiD hng
 rw [← hw0]
 clear hw0 HR hl ha hcap hmax hbl hgl hbg hng
 refine (take_no b _ _ ts _ H0.out.rd (see_two HW.out (by decide))).mono ?_
 rintro e w1 ⟨rfl,hm⟩
 have H1:=hiD (H0.out.next (H0.out.par.mods hm) (mods_b hm))
 clear hm H0
 go_wp2_with fail
 go_at_call 46
 refine (take_no b _ _ ts _ H1.out.rd (see_two HW.out (by decide))).mono ?_
 rintro e w2 ⟨rfl,hm⟩
 have H2:=hiD (H1.out.next (H1.out.par.mods hm) (mods_b hm))
 clear hm H1
 go_wp2_with fail
 go_at_call 46
 refine (take_no b _ _ ts _ H2.out.rd (see_two HW.out (by decide))).mono ?_
 rintro e w3 ⟨rfl,hm⟩
 have H3:=hiD (H2.out.next (H2.out.par.mods hm) (mods_b hm))
 clear hm H2
 go_wp2_with fail
 go_at_call 46
 refine (take_yes b _ kPrint ts _ H3.out.rd HW.out).mono ?_
 rintro e w4 ⟨rfl,hp,hm⟩
 have H4:=hiD (H3.out.next hp hm)
 clear hp hm H3 HW
 go_wp2_with fail
 go_at_call 111
 refine bind_of (hiD (Mods.refl _ _)) (hiD H4.out.rd) HX (fun y hy=>A.expr b (Three S W.heap.size) 0 0 ts.tail w4 y (by omega) (by omega) H4.out.rd hy) ?_ ?_
 ·rintro en ea rfl xv w5 ⟨p5,rfl⟩ HB hm -
  have B5:=hiD (H4.out.fail HB.out.bad hm.out)
  clear HB hm H4 HX
  have c0:=B5.out.st.own.cell (i:=0) rfl
  have f0:=B5.out.st.own.free 0
  have c4:=B5.out.st.own.cell (i:=4) rfl
  have f4:=B5.out.st.own.free 4
  have hl:=B5.out.st.own.lt
  go_wp2_with fail
  have HQ:=((B5.out.st.putMods 0 (.int .i64 7)).trans ((B5.out.put (ds:=_) 0 (.int .i64 7) rfl).st.putMods 4 (.pointer p5)))
  have B6:=hiD ((B5.out.put (ds:=_) 0 (.int .i64 7) rfl).put (ds:=[.int .i64 7,.int .i64 ta,.string ⟨#[]⟩,.pointer none,.pointer p5,.slice none 0 0,.slice none 0 0]) 4 (.pointer p5) rfl)
  obtain ⟨w6,hw⟩:∃ q,q=((w5.setCell ⟨(W.heap.size+1),0,none⟩ (.int .i64 7)).setCell ⟨(W.heap.size+1),4,none⟩ (.pointer p5)):=⟨_,rfl⟩
  clear HQ
  rw [← hw] at B6 ⊢
  clear hw hl B5 c0 f0 c4 f4
  go_at_call 44
  refine mustb_of (s:=[59]) (hiD (Mods.refl _ _)) (hiD B6.out.rb) ?_
  rintro w7-hm -
  have B7:=hiD (B6.out.next hm.out)
  clear hm B6
  have c0:=B7.out.st.own.cell (i:=0) rfl
  have c1:=B7.out.st.own.cell (i:=1) rfl
  have c2:=B7.out.st.own.cell (i:=2) rfl
  have c3:=B7.out.st.own.cell (i:=3) rfl
  have c4:=B7.out.st.own.cell (i:=4) rfl
  have c5:=B7.out.st.own.cell (i:=5) rfl
  have c6:=B7.out.st.own.cell (i:=6) rfl
  have hRS:=res_at HBG.out B7.out.st
  have d0:=hRS.cell (i:=0) rfl
  have d1:=hRS.cell (i:=1) rfl
  have d2:=hRS.cell (i:=2) rfl
  have d3:=hRS.cell (i:=3) rfl
  have d4:=hRS.cell (i:=4) rfl
  have d5:=hRS.cell (i:=5) rfl
  have d6:=hRS.cell (i:=6) rfl
  have e0:=hRS.free 0
  have e1:=hRS.free 1
  have e2:=hRS.free 2
  have e3:=hRS.free 3
  have e4:=hRS.free 4
  have e5:=hRS.free 5
  have e6:=hRS.free 6
  clear hRS
  go_wp2
  obtain ⟨hq1,hq2,hq3⟩:=B7.out.ret HBG.out rfl
  have q0:=hq1.cell (i:=0) rfl
  have q1:=hq1.cell (i:=1) rfl
  have q2:=hq1.cell (i:=2) rfl
  have q3:=hq1.cell (i:=3) rfl
  have q4:=hq1.cell (i:=4) rfl
  have q5:=hq1.cell (i:=5) rfl
  have q6:=hq1.cell (i:=6) rfl
  refine bodyPost_ret (v:=.agg #[.int .i64 7,.int .i64 ta,.string ⟨#[]⟩,.pointer none,.pointer p5,.slice none 0 0,.slice none 0 0]) (by simp [results,Tryz.results79,go_sem,q0,q1,q2,q3,q4,q5,q6]) rfl ?_
  exact ⟨_,rfl,⟨_,rfl,⟨_,_,_,_,_,_,_,_,_,_,_,rfl⟩⟩,hq3,hq2⟩
 clear HX
 rintro v r2-HX xv w5 hv HR hm -
 obtain ⟨g5,rfl⟩:=ExAt.ptr hv
 have HV5:=hiD (show ExAt w5 (Three S W.heap.size) v _ from hv)
 have H5:=hiD (H4.out.next HR.out.par hm.out)
 clear hm HR hv H4
 have c0:=H5.out.st.own.cell (i:=0) rfl
 have f0:=H5.out.st.own.free 0
 have c4:=H5.out.st.own.cell (i:=4) rfl
 have f4:=H5.out.st.own.free 4
 have hl:=H5.out.st.own.lt
 go_wp2_with fail
 have HQ:=((H5.out.st.putMods 0 (.int .i64 7)).trans ((H5.out.put (ds:=_) 0 (.int .i64 7) rfl).st.putMods 4 (.pointer (some ⟨g5,0,none⟩))))
 have HV6:=hiD (HV5.out.mods HQ)
 have H6:=hiD ((H5.out.put (ds:=_) 0 (.int .i64 7) rfl).put (ds:=[.int .i64 7,.int .i64 ta,.string ⟨#[]⟩,.pointer none,.pointer (some ⟨g5,0,none⟩),.slice none 0 0,.slice none 0 0]) 4 (.pointer (some ⟨g5,0,none⟩)) rfl)
 obtain ⟨w6,hw⟩:∃ q,q=((w5.setCell ⟨(W.heap.size+1),0,none⟩ (.int .i64 7)).setCell ⟨(W.heap.size+1),4,none⟩ (.pointer (some ⟨g5,0,none⟩))):=⟨_,rfl⟩
 clear HQ
 rw [← hw] at H6 HV6 ⊢
 clear hw hl H5 HV5 c0 f0 c4 f4
 go_at_call 44
 refine must_of (s:=[59]) (hiD (Mods.refl _ _)) (hiD H6.out.rd) HX ?_ ?_
 ·rintro en ea rfl w7 HB hm -
  have B7:=hiD (H6.out.fail HB.out.bad hm.out)
  clear HB hm HV6 H6 HX
  have c0:=B7.out.st.own.cell (i:=0) rfl
  have c1:=B7.out.st.own.cell (i:=1) rfl
  have c2:=B7.out.st.own.cell (i:=2) rfl
  have c3:=B7.out.st.own.cell (i:=3) rfl
  have c4:=B7.out.st.own.cell (i:=4) rfl
  have c5:=B7.out.st.own.cell (i:=5) rfl
  have c6:=B7.out.st.own.cell (i:=6) rfl
  have hRS:=res_at HBG.out B7.out.st
  have d0:=hRS.cell (i:=0) rfl
  have d1:=hRS.cell (i:=1) rfl
  have d2:=hRS.cell (i:=2) rfl
  have d3:=hRS.cell (i:=3) rfl
  have d4:=hRS.cell (i:=4) rfl
  have d5:=hRS.cell (i:=5) rfl
  have d6:=hRS.cell (i:=6) rfl
  have e0:=hRS.free 0
  have e1:=hRS.free 1
  have e2:=hRS.free 2
  have e3:=hRS.free 3
  have e4:=hRS.free 4
  have e5:=hRS.free 5
  have e6:=hRS.free 6
  clear hRS
  go_wp2
  obtain ⟨hq1,hq2,hq3⟩:=B7.out.ret HBG.out rfl
  have q0:=hq1.cell (i:=0) rfl
  have q1:=hq1.cell (i:=1) rfl
  have q2:=hq1.cell (i:=2) rfl
  have q3:=hq1.cell (i:=3) rfl
  have q4:=hq1.cell (i:=4) rfl
  have q5:=hq1.cell (i:=5) rfl
  have q6:=hq1.cell (i:=6) rfl
  refine bodyPost_ret (v:=.agg #[.int .i64 7,.int .i64 ta,.string ⟨#[]⟩,.pointer none,.pointer (some ⟨g5,0,none⟩),.slice none 0 0,.slice none 0 0]) (by simp [results,Tryz.results79,go_sem,q0,q1,q2,q3,q4,q5,q6]) rfl ?_
  exact ⟨_,rfl,⟨_,rfl,⟨_,_,_,_,_,_,_,_,_,_,_,rfl⟩⟩,hq3,hq2⟩
 clear HX
 rintro r7-HX w7 HR hm -
 have H7:=hiD (H6.out.next HR.out.par hm.out)
 have HV7:=hiD (HV6.out.mods (H6.out.st.bMods hm.out))
 clear hm HR H6 HV6
 obtain rfl:=(Option.some.inj HX.out).symm
 have c0:=H7.out.st.own.cell (i:=0) rfl
 have c1:=H7.out.st.own.cell (i:=1) rfl
 have c2:=H7.out.st.own.cell (i:=2) rfl
 have c3:=H7.out.st.own.cell (i:=3) rfl
 have c4:=H7.out.st.own.cell (i:=4) rfl
 have c5:=H7.out.st.own.cell (i:=5) rfl
 have c6:=H7.out.st.own.cell (i:=6) rfl
 have hRS:=res_at HBG.out H7.out.st
 have d0:=hRS.cell (i:=0) rfl
 have d1:=hRS.cell (i:=1) rfl
 have d2:=hRS.cell (i:=2) rfl
 have d3:=hRS.cell (i:=3) rfl
 have d4:=hRS.cell (i:=4) rfl
 have d5:=hRS.cell (i:=5) rfl
 have d6:=hRS.cell (i:=6) rfl
 have e0:=hRS.free 0
 have e1:=hRS.free 1
 have e2:=hRS.free 2
 have e3:=hRS.free 3
 have e4:=hRS.free 4
 have e5:=hRS.free 5
 have e6:=hRS.free 6
 clear hRS
 go_wp2
 obtain ⟨hq1,hq2,hq3,hq4⟩:=H7.out.ret HBG.out rfl
 have q0:=hq1.cell (i:=0) rfl
 have q1:=hq1.cell (i:=1) rfl
 have q2:=hq1.cell (i:=2) rfl
 have q3:=hq1.cell (i:=3) rfl
 have q4:=hq1.cell (i:=4) rfl
 have q5:=hq1.cell (i:=5) rfl
 have q6:=hq1.cell (i:=6) rfl
 refine bodyPost_ret (v:=.agg #[.int .i64 7,.int .i64 ta,.string ⟨#[]⟩,.pointer none,.pointer (some ⟨g5,0,none⟩),.slice none 0 0,.slice none 0 0]) (by simp [results,Tryz.results79,go_sem,q0,q1,q2,q3,q4,q5,q6]) rfl ?_
 refine ⟨_,rfl,⟨_,rfl,StAt.modsTo hq4 sub_three (.print ta v) _ ?_⟩,hq3,hq2⟩
 simp only [StAt]
 exact ⟨_,rfl,HV7.out⟩
theorem named_any (f:Nat) (A:∀ g,g≤f→AllC g) (b sb:Nat) (S:Nat→Prop) (ts:List Tok) (W:World) (x:Except (Int×Int) (St×List Tok)) (ta:Int) (hta:headAt ts=ta) (hv:seeB kVar ts=false)
  (h:NG W W b sb S ts (cells7 0 ta [] nilP nilP nilS nilS)) (hx:namedF f ts=some x) :
  Calls Tryz.prog 112 #[.pointer (some ⟨b,0,none⟩),.pointer (some ⟨sb,0,none⟩)] W (NamedTo W b sb S x):=by
 cases f with
 | zero=>simp [namedF] at hx
 | succ f=>exact named_other f (A f (by omega)) b sb S ts W x ta hta hv h hx
set_option maxRecDepth 100000 in
set_option maxHeartbeats 4000000 in
theorem stmt_var (f:Nat) (A:AllC f) (hB:BlockC f) (b:Nat) (S:Nat→Prop) (deep:Nat) (ts:List Tok) (W:World) (x:Except (Int×Int) (St×List Tok)) (hd:deep≤12) (h:Rd W b S ts) (hx:stmtF (f+1) deep ts=some x) (hs:seeB kVar ts=true) (hno:∀ k∈[kIf,kWhile,kReturn,kPrint],seeB k ts=false) :
  Calls Tryz.prog 79 #[.pointer (some ⟨b,0,none⟩),.int .i64 deep] W (Got (·=b) W b S IsStV (StmtIs S) (some x)):=by
 simp only [stmtF] at hx
 have HR:=hiD h
 have HD:=hiD hd
 have hds:Hid ((deep:Int)+1=((deep+1:Nat):Int)):=hiD (by omega)
 have hd0:0≤(deep:Int)∧(deep:Int)≤12:=by omega
 obtain ⟨g,o,c,hp⟩:=h.par
 obtain ⟨t,rr,rfl⟩:=ends_cons hp.ends
 have hl:=hp.cl
 have ha:=hp.ca
 have hcap:=hp.cap
 have hmax:=hp.max
 have hbl:b<W.heap.size:=HR.out.base.old b HR.out.base.has
 have hgl:g<W.heap.size:=Nat.lt_trans hp.lt hbl
 have hta:headAt (t::rr)=t.at_:=rfl
 obtain ⟨ta,hta2⟩:∃ ta,ta=t.at_:=⟨_,rfl⟩
 rw [← hta2] at ha hta
 simp only [List.length_cons] at hcap
 obtain ⟨ts,hts⟩:∃ ts,ts=t::rr:=⟨_,rfl⟩
 rw [← hts] at hx HR hta hs hno
 rw [hta] at hx
 have HT:=hiD hta
 have HN1:=hiD (hno kIf (by simp))
 have HN2:=hiD (hno kWhile (by simp))
 have HN4:=hiD (hno kReturn (by simp))
 have HN5:=hiD (hno kPrint (by simp))
 rw [if_neg (by rw [HN1.out];simp),if_neg (by rw [HN2.out];simp)] at hx
 rw [if_pos hs,var_shape] at hx
 have HVV:=hiD hs
 clear hno hs
 have HX:=hiD hx
 clear hp hta hta2 hts hd hx h
 go_enter Tryz.func79,Tryz.ntmps79
 go_wp2_with fail
 go_at_call 46
 obtain ⟨w0,hw0⟩:∃ q,q=(W.alloc (.cells #[.int .i64 0,.int .i64 0,.string ⟨#[]⟩,.pointer none,.pointer none,.slice none 0 0,.slice none 0 0] 143)).alloc (.cells #[.int .i64 0,.int .i64 ta,.string ⟨#[]⟩,.pointer none,.pointer none,.slice none 0 0,.slice none 0 0] 143):=⟨_,rfl⟩
 obtain ⟨hbg,hng⟩:=stmt_start HR.out ta hw0
 have HBG:=hiD hbg
 have H0:=hiD hng
 rw [← hw0]
 clear hw0 HR hl ha hcap hmax hbl hgl hbg hng
 refine (take_no b _ _ ts _ H0.out.rd HN1.out).mono ?_
 rintro e w1 ⟨rfl,hm⟩
 have H1:=hiD (H0.out.next (H0.out.par.mods hm) (mods_b hm))
 clear hm H0
 go_wp2_with fail
 go_at_call 46
 refine (take_no b _ _ ts _ H1.out.rd HN2.out).mono ?_
 rintro e w2 ⟨rfl,hm⟩
 have H2:=hiD (H1.out.next (H1.out.par.mods hm) (mods_b hm))
 clear hm H1
 go_wp2_with fail
 go_at_call 46
 refine (take_no b _ _ ts _ H2.out.rd HN4.out).mono ?_
 rintro e w3 ⟨rfl,hm⟩
 have H3:=hiD (H2.out.next (H2.out.par.mods hm) (mods_b hm))
 clear hm H2
 go_wp2_with fail
 go_at_call 46
 refine (take_no b _ _ ts _ H3.out.rd HN5.out).mono ?_
 rintro e w4 ⟨rfl,hm⟩
 have H4:=hiD (H3.out.next (H3.out.par.mods hm) (mods_b hm))
 clear hm H3
 go_wp2_with fail
 clear HN1 HN2 HN4 HN5
 go_at_call 112
 rcases bind_cases HX with ⟨en,ea,hy,rfl⟩|⟨s,r5,hy,HX2⟩
 ·refine (named_var f A b (W.heap.size+1) _ ts w4 _ ta HVV.out H4.out.self hy).mono ?_
  rintro e w5 ⟨rfl,cs,hb,z0,z1,z2,z3,z4,oa,on,oc,ob,om,od,rfl⟩
  have B5:=hiD (hb.since H4.out.st.mods)
  clear hb hy HX H4
  go_wp2_with fail
  go_at_call 44
  refine mustb_of (s:=[59]) (hiD (Mods.refl _ _)) (hiD B5.out.rb) ?_
  rintro w6-hm -
  have B6:=hiD (B5.out.next hm.out)
  clear hm B5
  have c0:=B6.out.st.own.cell (i:=0) rfl
  have c1:=B6.out.st.own.cell (i:=1) rfl
  have c2:=B6.out.st.own.cell (i:=2) rfl
  have c3:=B6.out.st.own.cell (i:=3) rfl
  have c4:=B6.out.st.own.cell (i:=4) rfl
  have c5:=B6.out.st.own.cell (i:=5) rfl
  have c6:=B6.out.st.own.cell (i:=6) rfl
  have hRS:=res_at HBG.out B6.out.st
  have d0:=hRS.cell (i:=0) rfl
  have d1:=hRS.cell (i:=1) rfl
  have d2:=hRS.cell (i:=2) rfl
  have d3:=hRS.cell (i:=3) rfl
  have d4:=hRS.cell (i:=4) rfl
  have d5:=hRS.cell (i:=5) rfl
  have d6:=hRS.cell (i:=6) rfl
  have e0:=hRS.free 0
  have e1:=hRS.free 1
  have e2:=hRS.free 2
  have e3:=hRS.free 3
  have e4:=hRS.free 4
  have e5:=hRS.free 5
  have e6:=hRS.free 6
  clear hRS
  go_wp2
  obtain ⟨hq1,hq2,hq3⟩:=B6.out.ret HBG.out rfl
  have q0:=hq1.cell (i:=0) rfl
  have q1:=hq1.cell (i:=1) rfl
  have q2:=hq1.cell (i:=2) rfl
  have q3:=hq1.cell (i:=3) rfl
  have q4:=hq1.cell (i:=4) rfl
  have q5:=hq1.cell (i:=5) rfl
  have q6:=hq1.cell (i:=6) rfl
  refine bodyPost_ret (v:=.agg #[.int .i64 z0,.int .i64 z1,.string z2,.pointer z3,.pointer z4,.slice oa on oc,.slice ob om od]) (by simp [results,Tryz.results79,go_sem,q0,q1,q2,q3,q4,q5,q6]) rfl ?_
  exact ⟨_,rfl,⟨_,rfl,⟨_,_,_,_,_,_,_,_,_,_,_,rfl⟩⟩,hq3,hq2⟩
 refine (named_var f A b (W.heap.size+1) _ ts w4 _ ta HVV.out H4.out.self hy).mono ?_
 rintro e w5 ⟨rfl,cs,hg,hst⟩
 obtain ⟨z0,z1,z2,z3,z4,oa,on,oc,ob,om,od,rfl⟩:=hst.shape
 have H5:=hiD (hg.since H4.out.st.mods)
 have HV5:=hiD hst
 have HX:=HX2
 clear hg hst hy H4 HX2
 go_wp2_with fail
 go_at_call 44
 refine must_of (s:=[59]) (hiD (Mods.refl _ _)) (hiD H5.out.rd) HX ?_ ?_
 ·rintro en ea rfl w6 HB hm -
  have B6:=hiD (H5.out.fail HB.out.bad hm.out)
  clear HB hm HV5 H5 HX
  have c0:=B6.out.st.own.cell (i:=0) rfl
  have c1:=B6.out.st.own.cell (i:=1) rfl
  have c2:=B6.out.st.own.cell (i:=2) rfl
  have c3:=B6.out.st.own.cell (i:=3) rfl
  have c4:=B6.out.st.own.cell (i:=4) rfl
  have c5:=B6.out.st.own.cell (i:=5) rfl
  have c6:=B6.out.st.own.cell (i:=6) rfl
  have hRS:=res_at HBG.out B6.out.st
  have d0:=hRS.cell (i:=0) rfl
  have d1:=hRS.cell (i:=1) rfl
  have d2:=hRS.cell (i:=2) rfl
  have d3:=hRS.cell (i:=3) rfl
  have d4:=hRS.cell (i:=4) rfl
  have d5:=hRS.cell (i:=5) rfl
  have d6:=hRS.cell (i:=6) rfl
  have e0:=hRS.free 0
  have e1:=hRS.free 1
  have e2:=hRS.free 2
  have e3:=hRS.free 3
  have e4:=hRS.free 4
  have e5:=hRS.free 5
  have e6:=hRS.free 6
  clear hRS
  go_wp2
  obtain ⟨hq1,hq2,hq3⟩:=B6.out.ret HBG.out rfl
  have q0:=hq1.cell (i:=0) rfl
  have q1:=hq1.cell (i:=1) rfl
  have q2:=hq1.cell (i:=2) rfl
  have q3:=hq1.cell (i:=3) rfl
  have q4:=hq1.cell (i:=4) rfl
  have q5:=hq1.cell (i:=5) rfl
  have q6:=hq1.cell (i:=6) rfl
  refine bodyPost_ret (v:=.agg #[.int .i64 z0,.int .i64 z1,.string z2,.pointer z3,.pointer z4,.slice oa on oc,.slice ob om od]) (by simp [results,Tryz.results79,go_sem,q0,q1,q2,q3,q4,q5,q6]) rfl ?_
  exact ⟨_,rfl,⟨_,rfl,⟨_,_,_,_,_,_,_,_,_,_,_,rfl⟩⟩,hq3,hq2⟩
 clear HX
 rintro r6-HX w6 HR hm -
 have H6:=hiD (H5.out.next HR.out.par hm.out)
 have HV6:=hiD (StAt.modsTo (H5.out.st.bMods hm.out) (fun _ _ h=>h) _ _ HV5.out)
 clear hm HR H5 HV5
 obtain rfl:=(Option.some.inj HX.out).symm
 have c0:=H6.out.st.own.cell (i:=0) rfl
 have c1:=H6.out.st.own.cell (i:=1) rfl
 have c2:=H6.out.st.own.cell (i:=2) rfl
 have c3:=H6.out.st.own.cell (i:=3) rfl
 have c4:=H6.out.st.own.cell (i:=4) rfl
 have c5:=H6.out.st.own.cell (i:=5) rfl
 have c6:=H6.out.st.own.cell (i:=6) rfl
 have hRS:=res_at HBG.out H6.out.st
 have d0:=hRS.cell (i:=0) rfl
 have d1:=hRS.cell (i:=1) rfl
 have d2:=hRS.cell (i:=2) rfl
 have d3:=hRS.cell (i:=3) rfl
 have d4:=hRS.cell (i:=4) rfl
 have d5:=hRS.cell (i:=5) rfl
 have d6:=hRS.cell (i:=6) rfl
 have e0:=hRS.free 0
 have e1:=hRS.free 1
 have e2:=hRS.free 2
 have e3:=hRS.free 3
 have e4:=hRS.free 4
 have e5:=hRS.free 5
 have e6:=hRS.free 6
 clear hRS
 go_wp2
 obtain ⟨hq1,hq2,hq3,hq4⟩:=H6.out.ret HBG.out rfl
 have q0:=hq1.cell (i:=0) rfl
 have q1:=hq1.cell (i:=1) rfl
 have q2:=hq1.cell (i:=2) rfl
 have q3:=hq1.cell (i:=3) rfl
 have q4:=hq1.cell (i:=4) rfl
 have q5:=hq1.cell (i:=5) rfl
 have q6:=hq1.cell (i:=6) rfl
 refine bodyPost_ret (v:=.agg #[.int .i64 z0,.int .i64 z1,.string z2,.pointer z3,.pointer z4,.slice oa on oc,.slice ob om od]) (by simp [results,Tryz.results79,go_sem,q0,q1,q2,q3,q4,q5,q6]) rfl ?_
 exact ⟨_,rfl,⟨_,rfl,StAt.modsTo hq4 sub_three _ _ HV6.out⟩,hq3,hq2⟩
set_option maxRecDepth 100000 in
set_option maxHeartbeats 4000000 in
theorem stmt_named (f:Nat) (A0:∀ g,g≤f→AllC g) (b:Nat) (S:Nat→Prop) (deep:Nat) (ts:List Tok) (W:World) (x:Except (Int×Int) (St×List Tok)) (hd:deep≤12) (h:Rd W b S ts) (hx:stmtF (f+1) deep ts=some x) (hs:seeB kVar ts=false) (hno:∀ k∈[kIf,kWhile,kReturn,kPrint],seeB k ts=false) :
  Calls Tryz.prog 79 #[.pointer (some ⟨b,0,none⟩),.int .i64 deep] W (Got (·=b) W b S IsStV (StmtIs S) (some x)):=by
 simp only [stmtF] at hx
 have HR:=hiD h
 have HD:=hiD hd
 have hd0:0≤(deep:Int)∧(deep:Int)≤12:=by omega
 obtain ⟨g,o,c,hp⟩:=h.par
 obtain ⟨t,rr,rfl⟩:=ends_cons hp.ends
 have hl:=hp.cl
 have ha:=hp.ca
 have hcap:=hp.cap
 have hmax:=hp.max
 have hbl:b<W.heap.size:=HR.out.base.old b HR.out.base.has
 have hgl:g<W.heap.size:=Nat.lt_trans hp.lt hbl
 have hta:headAt (t::rr)=t.at_:=rfl
 obtain ⟨ta,hta2⟩:∃ ta,ta=t.at_:=⟨_,rfl⟩
 rw [← hta2] at ha hta
 simp only [List.length_cons] at hcap
 obtain ⟨ts,hts⟩:∃ ts,ts=t::rr:=⟨_,rfl⟩
 rw [← hts] at hx HR hta hs hno
 rw [hta] at hx
 have HT:=hiD hta
 have HN1:=hiD (hno kIf (by simp))
 have HN2:=hiD (hno kWhile (by simp))
 have HN4:=hiD (hno kReturn (by simp))
 have HN5:=hiD (hno kPrint (by simp))
 rw [if_neg (by rw [HN1.out];simp),if_neg (by rw [HN2.out];simp)] at hx
 rw [if_neg (by rw [hs];simp),if_neg (by rw [HN4.out];simp),if_neg (by rw [HN5.out];simp)] at hx
 have HVV:=hiD hs
 clear hno hs
 have HX:=hiD hx
 clear hp hta hta2 hts hd hx h
 go_enter Tryz.func79,Tryz.ntmps79
 go_wp2_with fail
 go_at_call 46
 obtain ⟨w0,hw0⟩:∃ q,q=(W.alloc (.cells #[.int .i64 0,.int .i64 0,.string ⟨#[]⟩,.pointer none,.pointer none,.slice none 0 0,.slice none 0 0] 143)).alloc (.cells #[.int .i64 0,.int .i64 ta,.string ⟨#[]⟩,.pointer none,.pointer none,.slice none 0 0,.slice none 0 0] 143):=⟨_,rfl⟩
 obtain ⟨hbg,hng⟩:=stmt_start HR.out ta hw0
 have HBG:=hiD hbg
 have H0:=hiD hng
 rw [← hw0]
 clear hw0 HR hl ha hcap hmax hbl hgl hbg hng
 refine (take_no b _ _ ts _ H0.out.rd HN1.out).mono ?_
 rintro e w1 ⟨rfl,hm⟩
 have H1:=hiD (H0.out.next (H0.out.par.mods hm) (mods_b hm))
 clear hm H0
 go_wp2_with fail
 go_at_call 46
 refine (take_no b _ _ ts _ H1.out.rd HN2.out).mono ?_
 rintro e w2 ⟨rfl,hm⟩
 have H2:=hiD (H1.out.next (H1.out.par.mods hm) (mods_b hm))
 clear hm H1
 go_wp2_with fail
 go_at_call 46
 refine (take_no b _ _ ts _ H2.out.rd HN4.out).mono ?_
 rintro e w3 ⟨rfl,hm⟩
 have H3:=hiD (H2.out.next (H2.out.par.mods hm) (mods_b hm))
 clear hm H2
 go_wp2_with fail
 go_at_call 46
 refine (take_no b _ _ ts _ H3.out.rd HN5.out).mono ?_
 rintro e w4 ⟨rfl,hm⟩
 have H4:=hiD (H3.out.next (H3.out.par.mods hm) (mods_b hm))
 clear hm H3
 go_wp2_with fail
 clear HN1 HN2 HN4 HN5
 go_at_call 112
 rcases bind_cases HX with ⟨en,ea,hy,rfl⟩|⟨s,r5,hy,HX2⟩
 ·refine (named_any f A0 b (W.heap.size+1) _ ts w4 _ ta HT.out HVV.out H4.out.self hy).mono ?_
  rintro e w5 ⟨rfl,cs,hb,z0,z1,z2,z3,z4,oa,on,oc,ob,om,od,rfl⟩
  have B5:=hiD (hb.since H4.out.st.mods)
  clear hb hy HX H4
  go_wp2_with fail
  go_at_call 44
  refine mustb_of (s:=[59]) (hiD (Mods.refl _ _)) (hiD B5.out.rb) ?_
  rintro w6-hm -
  have B6:=hiD (B5.out.next hm.out)
  clear hm B5
  have c0:=B6.out.st.own.cell (i:=0) rfl
  have c1:=B6.out.st.own.cell (i:=1) rfl
  have c2:=B6.out.st.own.cell (i:=2) rfl
  have c3:=B6.out.st.own.cell (i:=3) rfl
  have c4:=B6.out.st.own.cell (i:=4) rfl
  have c5:=B6.out.st.own.cell (i:=5) rfl
  have c6:=B6.out.st.own.cell (i:=6) rfl
  have hRS:=res_at HBG.out B6.out.st
  have d0:=hRS.cell (i:=0) rfl
  have d1:=hRS.cell (i:=1) rfl
  have d2:=hRS.cell (i:=2) rfl
  have d3:=hRS.cell (i:=3) rfl
  have d4:=hRS.cell (i:=4) rfl
  have d5:=hRS.cell (i:=5) rfl
  have d6:=hRS.cell (i:=6) rfl
  have e0:=hRS.free 0
  have e1:=hRS.free 1
  have e2:=hRS.free 2
  have e3:=hRS.free 3
  have e4:=hRS.free 4
  have e5:=hRS.free 5
  have e6:=hRS.free 6
  clear hRS
  go_wp2
  obtain ⟨hq1,hq2,hq3⟩:=B6.out.ret HBG.out rfl
  have q0:=hq1.cell (i:=0) rfl
  have q1:=hq1.cell (i:=1) rfl
  have q2:=hq1.cell (i:=2) rfl
  have q3:=hq1.cell (i:=3) rfl
  have q4:=hq1.cell (i:=4) rfl
  have q5:=hq1.cell (i:=5) rfl
  have q6:=hq1.cell (i:=6) rfl
  refine bodyPost_ret (v:=.agg #[.int .i64 z0,.int .i64 z1,.string z2,.pointer z3,.pointer z4,.slice oa on oc,.slice ob om od]) (by simp [results,Tryz.results79,go_sem,q0,q1,q2,q3,q4,q5,q6]) rfl ?_
  exact ⟨_,rfl,⟨_,rfl,⟨_,_,_,_,_,_,_,_,_,_,_,rfl⟩⟩,hq3,hq2⟩
 refine (named_any f A0 b (W.heap.size+1) _ ts w4 _ ta HT.out HVV.out H4.out.self hy).mono ?_
 rintro e w5 ⟨rfl,cs,hg,hst⟩
 obtain ⟨z0,z1,z2,z3,z4,oa,on,oc,ob,om,od,rfl⟩:=hst.shape
 have H5:=hiD (hg.since H4.out.st.mods)
 have HV5:=hiD hst
 have HX:=HX2
 clear hg hst hy H4 HX2
 go_wp2_with fail
 go_at_call 44
 refine must_of (s:=[59]) (hiD (Mods.refl _ _)) (hiD H5.out.rd) HX ?_ ?_
 ·rintro en ea rfl w6 HB hm -
  have B6:=hiD (H5.out.fail HB.out.bad hm.out)
  clear HB hm HV5 H5 HX
  have c0:=B6.out.st.own.cell (i:=0) rfl
  have c1:=B6.out.st.own.cell (i:=1) rfl
  have c2:=B6.out.st.own.cell (i:=2) rfl
  have c3:=B6.out.st.own.cell (i:=3) rfl
  have c4:=B6.out.st.own.cell (i:=4) rfl
  have c5:=B6.out.st.own.cell (i:=5) rfl
  have c6:=B6.out.st.own.cell (i:=6) rfl
  have hRS:=res_at HBG.out B6.out.st
  have d0:=hRS.cell (i:=0) rfl
  have d1:=hRS.cell (i:=1) rfl
  have d2:=hRS.cell (i:=2) rfl
  have d3:=hRS.cell (i:=3) rfl
  have d4:=hRS.cell (i:=4) rfl
  have d5:=hRS.cell (i:=5) rfl
  have d6:=hRS.cell (i:=6) rfl
  have e0:=hRS.free 0
  have e1:=hRS.free 1
  have e2:=hRS.free 2
  have e3:=hRS.free 3
  have e4:=hRS.free 4
  have e5:=hRS.free 5
  have e6:=hRS.free 6
  clear hRS
  go_wp2
  obtain ⟨hq1,hq2,hq3⟩:=B6.out.ret HBG.out rfl
  have q0:=hq1.cell (i:=0) rfl
  have q1:=hq1.cell (i:=1) rfl
  have q2:=hq1.cell (i:=2) rfl
  have q3:=hq1.cell (i:=3) rfl
  have q4:=hq1.cell (i:=4) rfl
  have q5:=hq1.cell (i:=5) rfl
  have q6:=hq1.cell (i:=6) rfl
  refine bodyPost_ret (v:=.agg #[.int .i64 z0,.int .i64 z1,.string z2,.pointer z3,.pointer z4,.slice oa on oc,.slice ob om od]) (by simp [results,Tryz.results79,go_sem,q0,q1,q2,q3,q4,q5,q6]) rfl ?_
  exact ⟨_,rfl,⟨_,rfl,⟨_,_,_,_,_,_,_,_,_,_,_,rfl⟩⟩,hq3,hq2⟩
 clear HX
 rintro r6-HX w6 HR hm -
 have H6:=hiD (H5.out.next HR.out.par hm.out)
 have HV6:=hiD (StAt.modsTo (H5.out.st.bMods hm.out) (fun _ _ h=>h) _ _ HV5.out)
 clear hm HR H5 HV5
 obtain rfl:=(Option.some.inj HX.out).symm
 have c0:=H6.out.st.own.cell (i:=0) rfl
 have c1:=H6.out.st.own.cell (i:=1) rfl
 have c2:=H6.out.st.own.cell (i:=2) rfl
 have c3:=H6.out.st.own.cell (i:=3) rfl
 have c4:=H6.out.st.own.cell (i:=4) rfl
 have c5:=H6.out.st.own.cell (i:=5) rfl
 have c6:=H6.out.st.own.cell (i:=6) rfl
 have hRS:=res_at HBG.out H6.out.st
 have d0:=hRS.cell (i:=0) rfl
 have d1:=hRS.cell (i:=1) rfl
 have d2:=hRS.cell (i:=2) rfl
 have d3:=hRS.cell (i:=3) rfl
 have d4:=hRS.cell (i:=4) rfl
 have d5:=hRS.cell (i:=5) rfl
 have d6:=hRS.cell (i:=6) rfl
 have e0:=hRS.free 0
 have e1:=hRS.free 1
 have e2:=hRS.free 2
 have e3:=hRS.free 3
 have e4:=hRS.free 4
 have e5:=hRS.free 5
 have e6:=hRS.free 6
 clear hRS
 go_wp2
 obtain ⟨hq1,hq2,hq3,hq4⟩:=H6.out.ret HBG.out rfl
 have q0:=hq1.cell (i:=0) rfl
 have q1:=hq1.cell (i:=1) rfl
 have q2:=hq1.cell (i:=2) rfl
 have q3:=hq1.cell (i:=3) rfl
 have q4:=hq1.cell (i:=4) rfl
 have q5:=hq1.cell (i:=5) rfl
 have q6:=hq1.cell (i:=6) rfl
 refine bodyPost_ret (v:=.agg #[.int .i64 z0,.int .i64 z1,.string z2,.pointer z3,.pointer z4,.slice oa on oc,.slice ob om od]) (by simp [results,Tryz.results79,go_sem,q0,q1,q2,q3,q4,q5,q6]) rfl ?_
 exact ⟨_,rfl,⟨_,rfl,StAt.modsTo hq4 sub_three _ _ HV6.out⟩,hq3,hq2⟩
theorem stmt_of (f:Nat) (A:∀ g,g≤f→AllC g) (hB:BlockC f):StmtC (f+1):=by
 intro b S deep ts W x hd h hx
 by_cases h1:seeB kIf ts=true
 ·exact stmt_if f (A f (Nat.le_refl _)) hB b S deep ts W x hd h hx h1
 by_cases h2:seeB kWhile ts=true
 ·exact stmt_while f (A f (Nat.le_refl _)) hB b S deep ts W x hd h hx h2
 by_cases h4:seeB kReturn ts=true
 ·exact stmt_ret f (A f (Nat.le_refl _)) hB b S deep ts W x hd h hx h4
 by_cases h5:seeB kPrint ts=true
 ·exact stmt_print f (A f (Nat.le_refl _)) hB b S deep ts W x hd h hx h5
 have hno:∀ k∈[kIf,kWhile,kReturn,kPrint],seeB k ts=false:=by
  intro k hk
  simp only [List.mem_cons,List.not_mem_nil,or_false] at hk
  rcases hk with rfl|rfl|rfl|rfl
  ·simpa using h1
  ·simpa using h2
  ·simpa using h4
  ·simpa using h5
 by_cases h3:seeB kVar ts=true
 ·exact stmt_var f (A f (Nat.le_refl _)) hB b S deep ts W x hd h hx h3 hno
 ·exact stmt_named f A b S deep ts W x hd h hx (by simpa using h3) hno
end Go.Proofs.YtdgedlhefjmcpaaGreatDoor.TreeP.R

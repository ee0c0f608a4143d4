/- What begins with a name. Conditions: what is read within is read so. A statement. Printed by mkstmt.py. Conditions: what is read within is read so. { STMT .. }. Conditions: what is read within is read so. Statements are read as the plain reader says, with any number of rounds. No conditions beyond the memory's. A function. Printed by mkfn2.py. Conditions: what is read within is read so. -/
import Derived.Test.YtnicpmoanjddbaaGreatDoorMs02
import Derived.Test.YtnicpmoanjddbaaGreatDoorMs04
import Derived.Deep.Cut
import Derived.Test.YtnicpmoanjddbaaGreatDoorMs01
namespace Go.Proofs.YtnicpmoanjddbaaGreatDoor.TreeP
open Go.RowKit Go.Proofs.YtnicpmoanjddbaaGreatDoor.Wo
set_option linter.unusedVariables false
set_option linter.unusedSimpArgs false
theorem call_done {b sb:Nat} {S:Nat→Prop} {W w3:World} {ta:Int} {n:List UInt8} {l:List Ex} {vs:List Value} {r3:List Tok} {oa:Option Addr} {on oc:Nat} (hS:S sb) (hlt:b<sb) (HR3:Rd w3 b S r3)
 (HB3:Blk w3 sb [.int .i64 0,.int .i64 ta,.string ⟨n.toArray⟩,.pointer none,.pointer none,.slice none 0 0,.slice none 0 0] 143)
 (HW3:RowAt w3 S 141 1 (.slice oa on oc) l.length vs) (HV3:ExsAt w3 S l vs) (HM3:Mods (Two b sb) W w3) :
 Got (Two b sb) W b (fun s v w=>v=.tuple #[]∧∃ cs,Blk w sb cs 143∧StAt w S s cs) (some (.ok (.call ta (.call ta n l),r3))) (.returned (.tuple #[]))
  ((((w3.setCell ⟨sb,4,none⟩ (.pointer (some ⟨w3.heap.size,0,none⟩))).setCell ⟨sb,0,none⟩ (.int .i64 8)).setCell ⟨sb,2,none⟩ (.string ⟨#[]⟩)).alloc (.cells #[.int .i64 5,.int .i64 ta,.int .i64 0,.string ⟨n.toArray⟩,.string ⟨#[]⟩,.pointer none,.pointer none,.slice oa on oc] 223)):=by
 have hm:=((mods_put w3 sb 4 (.pointer (some ⟨w3.heap.size,0,none⟩))).trans (mods_put _ sb 0 (.int .i64 8))).trans (mods_put _ sb 2 (.string ⟨#[]⟩))
 have hm2:=hm.alloc (.cells #[.int .i64 5,.int .i64 ta,.int .i64 0,.string ⟨n.toArray⟩,.string ⟨#[]⟩,.pointer none,.pointer none,.slice oa on oc] 223)
 have hmS:=hm2.mono (T:=S) (fun k _ hk=>by rw [hk];exact hS)
 have hR:=HR3.far hm (by rintro k rfl;exact hlt)
 have hB:=((blk_put (ds:=_) (blk_put (ds:=_) (blk_put (ds:=_) HB3 4 (.pointer (some ⟨w3.heap.size,0,none⟩)) rfl) 0 (.int .i64 8) rfl) 2 (.string ⟨#[]⟩) rfl).alloc (.cells #[.int .i64 5,.int .i64 ta,.int .i64 0,.string ⟨n.toArray⟩,.string ⟨#[]⟩,.pointer none,.pointer none,.slice oa on oc] 223))
 have hN:=Node.new hR.old #[.int .i64 5,.int .i64 ta,.int .i64 0,.string ⟨n.toArray⟩,.string ⟨#[]⟩,.pointer none,.pointer none,.slice oa on oc]
 have hsz:(((w3.setCell ⟨sb,4,none⟩ (.pointer (some ⟨w3.heap.size,0,none⟩))).setCell ⟨sb,0,none⟩ (.int .i64 8)).setCell ⟨sb,2,none⟩ (.string ⟨#[]⟩)).heap.size=w3.heap.size:=by simp [World.setCell]
 rw [hsz] at hN
 refine ⟨_,rfl,⟨rfl,_,hB,?_⟩,(HR3.far hm2 (by rintro k rfl;exact hlt)).par,HM3.trans (mods_two hm2)⟩
 simp only [StAt]
 refine ⟨_,rfl,?_⟩
 simp only [ExAt]
 exact ⟨_,_,hN,HW3.mods hmS (fun _ _ h=>h),ExsAt.modsTo hmS (fun _ _ h=>h) _ _ HV3⟩
set_option maxRecDepth 100000 in
set_option maxHeartbeats 1600000 in
theorem named_of (f:Nat) (A:AllC f):NamedC (f+1):=by
 intro b sb S ts W x hS hlt h hB hx
 simp only [namedF] at hx
 obtain ⟨ta,hta⟩:∃ ta,ta=headAt ts:=⟨_,rfl⟩
 rw [← hta] at hB hx
 have HX:=hiD hx
 have HR:=hiD h
 have HB:=hiD hB
 have hne:Hid (¬ sb=b):=hiD (by omega)
 have HL:=hiD hlt
 have HS:=hiD hS
 clear hx h hB hta hlt hS
 go_enter Tryz.func115,Tryz.ntmps115
 go_wp2_with fail
 go_at_call 61
 refine name_of (hiD (Mods.refl _ _)) HR HX ?_ ?_
 · rintro n a rfl g w HB HM1
   go_wp2
   exact ⟨rfl,g,rfl,HB.out,mods_one HM1.out⟩
 clear HX
 rintro n r-HX w1 HR1 hm1 -
 have HB1:=hiD (HB.out.mods hm1.out hne.out)
 have c2:=HB1.out.cell (i:=2) rfl
 have f2:=HB1.out.free 2
 go_wp2_with fail
 go_at_call 93
 have hm2:=hiD (mods_put w1 sb 2 (.string ⟨n.toArray⟩))
 have HB2:=hiD (blk_put (ds:=[.int .i64 0,.int .i64 ta,.string ⟨n.toArray⟩,.pointer none,.pointer none,.slice none 0 0,.slice none 0 0]) HB1.out 2 (.string ⟨n.toArray⟩) rfl)
 have HR2:=hiD (HR1.out.far hm2.out (by rintro k rfl;exact HL.out))
 have HM2:=hiD ((mods_one (sb:=sb) hm1.out).trans (mods_two hm2.out))
 clear HB HB1 HR1 HR hm1
 obtain ⟨w2,hw2⟩:∃ q,q=w1.setCell ⟨sb,2,none⟩ (.string ⟨n.toArray⟩):=⟨_,rfl⟩
 rw [← hw2] at hm2 HB2 HR2 HM2 ⊢
 clear hm2 hw2 c2 f2
 refine see_of (s:=[40]) HR2 HX ?_ ?_
 · clear HX
   rintro-HX
   have c1:=HB2.out.cell (i:=1) rfl
   have c2:=HB2.out.cell (i:=2) rfl
   have HRd:=hiD (HR2.out.quiet (Mods.refl None w2).drew)
   have HMd:=hiD HM2.out.drew
   go_wp2_with fail
   rcases bind_cases HX with ⟨n,a,hy,rfl⟩|⟨l,r3,hy,HX2⟩
   · have HC:=hiD (A.args b S 0 r _ _ (by omega) HRd.out hy)
     clear hy HX
     go_region_with (first|(go_at_call 128;refine HC.out.mono ?_;rintro e w3 ⟨g3,rfl,hb3,hm3⟩;refine panic_way Tryz.prog w3 ⟨rfl,g3,rfl,hb3,HMd.out.trans (mods_one hm3)⟩ ?_))
     all_goals trivial
   · have HC:=hiD (A.args b S 0 r _ _ (by omega) HRd.out hy)
     clear hy HX
     obtain rfl:=(Option.some.inj HX2.out).symm
     go_region_with (first|(go_at_call 128;refine HC.out.mono ?_;rintro e w3 ⟨y3,rfl,⟨vs,hr3,hv3⟩,hp3,hm3⟩;obtain ⟨oa,on,oc,rfl⟩:=RowAt.form hr3;have hB3:=HB2.out.drew.mods hm3 hne.out;have c31:=hB3.cell (i:=1) rfl;have c32:=hB3.cell (i:=2) rfl;have c34:=hB3.cell (i:=4) rfl;have c30:=hB3.cell (i:=0) rfl;have f34:=hB3.free 4;have f30:=hB3.free 0;have f32:=hB3.free 2;have hl3:=hB3.lt))
     all_goals
        have HR3:=hiD (HRd.out.next hp3 hm3)
        have HW3:=hiD hr3
        have HV3:=hiD hv3
        have HM3:=hiD (HMd.out.trans (mods_one hm3))
        have HB3:=hiD hB3
        clear hp3 hm3 hv3 hr3 hB3
        go_wp2
        refine bodyPost_ret (results_none rfl _ _ _) rfl ?_
        exact call_done HS.out HL.out HR3.out HB3.out HW3.out HV3.out HM3.out
 clear HX
 rintro-HX
 go_wp2_with fail
 go_at_call 62
 refine take_of (s:=[91]) (hiD (Mods.refl _ _)) HR2 HX ?_ ?_
 · clear HX
   rintro-HX w3 HR3 hm3 -
   have HB3:=hiD (HB2.out.mods hm3.out hne.out)
   have HM3:=hiD (HM2.out.trans (mods_one hm3.out))
   clear hm3 HB2 HR2 HM2
   go_wp2_with fail
   go_at_call 114
   refine bind_of (hiD (Mods.refl _ _)) HR3 HX (fun y hy=>A.expr b S 0 1 r.tail w3 y (by omega) (by omega) HR3.out hy) ?_ ?_
   · rintro n a rfl g w HB HM1
     go_wp2
     exact ⟨rfl,g,rfl,HB.out,HM3.out.trans (mods_one HM1.out)⟩
   clear HX
   rintro i r4-HX xv w4 hv HR4 hm4 -
   obtain ⟨g4,rfl⟩:=ExAt.ptr hv
   have HV4:=hiD (show ExAt w4 S i _ from hv)
   have HB4:=hiD (HB3.out.mods hm4.out hne.out)
   have HM4:=hiD (HM3.out.trans (mods_one hm4.out))
   have c40:=HB4.out.cell (i:=0) rfl
   have c43:=HB4.out.cell (i:=3) rfl
   have f40:=HB4.out.free 0
   have f43:=HB4.out.free 3
   clear hm4 hv HB3 HR3 HM3
   go_wp2_with fail
   go_at_call 60
   have hm5:=hiD ((mods_put w4 sb 0 (.int .i64 3)).trans (mods_put _ sb 3 (.pointer (some ⟨g4,0,none⟩))))
   have HB5:=hiD (blk_put (ds:=[.int .i64 3,.int .i64 ta,.string ⟨n.toArray⟩,.pointer (some ⟨g4,0,none⟩),.pointer none,.slice none 0 0,.slice none 0 0]) (blk_put (ds:=_) HB4.out 0 (.int .i64 3) rfl) 3 (.pointer (some ⟨g4,0,none⟩)) rfl)
   have HR5:=hiD (HR4.out.far hm5.out (by rintro k rfl;exact HL.out))
   have HM5:=hiD (HM4.out.trans (mods_two hm5.out))
   have HV5:=hiD (HV4.out.mods (hm5.out.mono fun k _ hk=>by rw [hk];exact HS.out))
   obtain ⟨w5,hw5⟩:∃ q,q=(w4.setCell ⟨sb,0,none⟩ (.int .i64 3)).setCell ⟨sb,3,none⟩ (.pointer (some ⟨g4,0,none⟩)):=⟨_,rfl⟩
   rw [← hw5] at hm5 HB5 HR5 HM5 HV5 ⊢
   clear hw5 hm5 HB4 HR4 HM4 HV4 c40 c43 f40 f43
   refine must_of (s:=[93]) (hiD (Mods.refl _ _)) HR5 HX ?_ ?_
   · rintro n a rfl g w HB HM1
     go_wp2
     exact ⟨rfl,g,rfl,HB.out,HM5.out.trans (mods_one HM1.out)⟩
   clear HX
   rintro r6-HX w6 HR6 hm6 -
   have HB6:=hiD (HB5.out.mods hm6.out hne.out)
   have HM6:=hiD (HM5.out.trans (mods_one hm6.out))
   have HV6:=hiD (HV5.out.by HR5.out hm6.out)
   clear hm6 HB5 HR5 HM5 HV5
   go_wp2_with fail
   go_at_call 60
   refine must_of (s:=[61]) (hiD (Mods.refl _ _)) HR6 HX ?_ ?_
   · rintro n a rfl g w HB HM1
     go_wp2
     exact ⟨rfl,g,rfl,HB.out,HM6.out.trans (mods_one HM1.out)⟩
   clear HX
   rintro r7-HX w7 HR7 hm7 -
   have HB7:=hiD (HB6.out.mods hm7.out hne.out)
   have HM7:=hiD (HM6.out.trans (mods_one hm7.out))
   have HV7:=hiD (HV6.out.by HR6.out hm7.out)
   clear hm7 HB6 HR6 HM6 HV6
   go_wp2_with fail
   go_at_call 114
   refine bind_of (hiD (Mods.refl _ _)) HR7 HX (fun y hy=>A.expr b S 0 0 r7 w7 y (by omega) (by omega) HR7.out hy) ?_ ?_
   · rintro n a rfl g w HB HM1
     go_wp2
     exact ⟨rfl,g,rfl,HB.out,HM7.out.trans (mods_one HM1.out)⟩
   clear HX
   rintro v r8-HX xv w8 hv HR8 hm8 -
   obtain ⟨g8,rfl⟩:=ExAt.ptr hv
   have HV8:=hiD (show ExAt w8 S v _ from hv)
   have HI8:=hiD (HV7.out.by HR7.out hm8.out)
   have HB8:=hiD (HB7.out.mods hm8.out hne.out)
   have HM8:=hiD (HM7.out.trans (mods_one hm8.out))
   have c84:=HB8.out.cell (i:=4) rfl
   have f84:=HB8.out.free 4
   clear hm8 hv HB7 HR7 HM7 HV7
   obtain rfl:=(Option.some.inj HX.out).symm
   go_wp2
   go_end0
   have hm9:=mods_put w8 sb 4 (.pointer (some ⟨g8,0,none⟩))
   have hmS:=hm9.mono (T:=S) (fun k _ hk=>by rw [hk];exact HS.out)
   refine ⟨_,rfl,⟨rfl,_,blk_put (ds:=_) HB8.out 4 _ rfl,?_⟩,(HR8.out.far hm9 (by rintro k rfl;exact HL.out)).par,HM8.out.trans (mods_two hm9)⟩
   simp only [StAt]
   exact ⟨_,_,rfl,HI8.out.mods hmS,HV8.out.mods hmS⟩
 clear HX
 rintro-HX
 have c20:=HB2.out.cell (i:=0) rfl
 have f20:=HB2.out.free 0
 go_wp2_with fail
 go_at_call 60
 have hm5:=hiD (mods_put w2 sb 0 (.int .i64 2))
 have HB5:=hiD (blk_put (ds:=[.int .i64 2,.int .i64 ta,.string ⟨n.toArray⟩,.pointer none,.pointer none,.slice none 0 0,.slice none 0 0]) HB2.out 0 (.int .i64 2) rfl)
 have HR5:=hiD (HR2.out.far hm5.out (by rintro k rfl;exact HL.out))
 have HM5:=hiD (HM2.out.trans (mods_two hm5.out))
 obtain ⟨w5,hw5⟩:∃ q,q=w2.setCell ⟨sb,0,none⟩ (.int .i64 2):=⟨_,rfl⟩
 rw [← hw5] at hm5 HB5 HR5 HM5 ⊢
 clear hw5 hm5 HB2 HR2 HM2 c20 f20
 refine must_of (s:=[61]) (hiD (Mods.refl _ _)) HR5 HX ?_ ?_
 · rintro n a rfl g w HB HM1
   go_wp2
   exact ⟨rfl,g,rfl,HB.out,HM5.out.trans (mods_one HM1.out)⟩
 clear HX
 rintro r7-HX w7 HR7 hm7 -
 have HB7:=hiD (HB5.out.mods hm7.out hne.out)
 have HM7:=hiD (HM5.out.trans (mods_one hm7.out))
 clear hm7 HB5 HR5 HM5
 go_wp2_with fail
 go_at_call 114
 refine bind_of (hiD (Mods.refl _ _)) HR7 HX (fun y hy=>A.expr b S 0 0 r7 w7 y (by omega) (by omega) HR7.out hy) ?_ ?_
 · rintro n a rfl g w HB HM1
   go_wp2
   exact ⟨rfl,g,rfl,HB.out,HM7.out.trans (mods_one HM1.out)⟩
 clear HX
 rintro v r8-HX xv w8 hv HR8 hm8 -
 obtain ⟨g8,rfl⟩:=ExAt.ptr hv
 have HV8:=hiD (show ExAt w8 S v _ from hv)
 have HB8:=hiD (HB7.out.mods hm8.out hne.out)
 have HM8:=hiD (HM7.out.trans (mods_one hm8.out))
 have c84:=HB8.out.cell (i:=4) rfl
 have f84:=HB8.out.free 4
 clear hm8 hv HB7 HR7 HM7
 obtain rfl:=(Option.some.inj HX.out).symm
 go_wp2
 go_end0
 have hm9:=mods_put w8 sb 4 (.pointer (some ⟨g8,0,none⟩))
 have hmS:=hm9.mono (T:=S) (fun k _ hk=>by rw [hk];exact HS.out)
 refine ⟨_,rfl,⟨rfl,_,blk_put (ds:=_) HB8.out 4 _ rfl,?_⟩,(HR8.out.far hm9 (by rintro k rfl;exact HL.out)).par,HM8.out.trans (mods_two hm9)⟩
 simp only [StAt]
 exact ⟨_,rfl,HV8.out.mods hmS⟩
set_option maxRecDepth 100000 in
set_option maxHeartbeats 4000000 in
theorem stmt_of (f:Nat) (A:AllC f) (hB:BlockC f) (hN:NamedC f):StmtC (f+1):=by
 intro b S deep ts W x hd h hx
 simp only [stmtF] at hx
 have HR:=hiD h
 have HD:=hiD hd
 have hds:Hid ((deep:Int)+1=((deep+1:Nat):Int)):=hiD (by omega)
 have hd0:0≤(deep:Int)∧(deep:Int)≤12:=by omega
 obtain ⟨⟨g,o,c,hp⟩,hL,_,_,_⟩:=h
 obtain ⟨t,rr,rfl⟩:=ends_cons hp.ends
 have hl:=hp.cl
 have ha:=hp.ca
 have hcap:=hp.cap
 have hmax:=hp.max
 have hbl:b<W.heap.size:=HR.out.old b HR.out.has
 have hgl:g<W.heap.size:=Nat.lt_trans hp.lt hbl
 have hta:headAt (t::rr)=t.at_:=rfl
 obtain ⟨ta,hta2⟩:∃ ta,ta=t.at_:=⟨_,rfl⟩
 rw [← hta2] at ha hta
 simp only [List.length_cons] at hcap
 obtain ⟨ts,hts⟩:∃ ts,ts=t::rr:=⟨_,rfl⟩
 rw [← hts] at hx HR hta
 rw [hta] at hx
 have HX:=hiD hx
 have HT:=hiD hta
 clear hp hL hta hta2 hts hd hx
 go_enter Tryz.func94,Tryz.ntmps94
 go_wp2_with fail
 go_at_call 62
 have H0:=hiD (Stm.start HR.out ta)
 obtain ⟨w0,hw0⟩:∃ q,q=(W.alloc (.cells #[.int .i64 0,.int .i64 0,.string ⟨#[]⟩,.pointer none,.pointer none,.slice none 0 0,.slice none 0 0] 143)).alloc (.cells #[.int .i64 0,.int .i64 ta,.string ⟨#[]⟩,.pointer none,.pointer none,.slice none 0 0,.slice none 0 0] 143):=⟨_,rfl⟩
 rw [← hw0] at H0 ⊢
 clear hw0 HR hl ha hcap hmax hbl hgl
 refine take_of (s:=kIf) (hiD (Mods.refl _ _)) (hiD H0.out.rd) HX ?_ ?_
 · clear HX
   rintro-HX w1 HR1 hm1 -
   have H1:=hiD (H0.out.next HR1.out hm1.out)
   clear H0 HR1 hm1
   go_wp2_with fail
   go_at_call 113
   refine bind_of (hiD (Mods.refl _ _)) (hiD H1.out.rd) HX (fun y hy=>A.alone b (Three S W.heap.size) 0 ts.tail w1 y (by omega) H1.out.rd hy) ?_ ?_
   · rintro n a rfl g w HB HM1
     go_wp2
     exact ⟨rfl,g,rfl,HB.out,H1.out.mods.trans HM1.out⟩
   clear HX
   rintro v r2-HX xv w2 hv HR2 hm2 -
   obtain ⟨g2,rfl⟩:=ExAt.ptr hv
   have HV2:=hiD (show ExAt w2 (Three S W.heap.size) v _ from hv)
   have H2:=hiD (H1.out.next HR2.out hm2.out)
   clear hm2 HR2 H1 hv
   go_wp2_with fail
   go_at_call 63
   rw [hds.out]
   refine bind_of (hiD (Mods.refl _ _)) (hiD H2.out.rd) HX (fun y hy=>hB b (Three S W.heap.size) (deep+1) r2 w2 y (by have:=HD.out;omega) H2.out.rd hy) ?_ ?_
   · rintro n a rfl g w HB HM1
     go_wp2
     exact ⟨rfl,g,rfl,HB.out,H2.out.mods.trans HM1.out⟩
   clear HX
   rintro l r3-HX xv w3 hv HR3 hm3 -
   obtain ⟨vs3,hrow,hsts⟩:=hv
   obtain ⟨oa3,on3,oc3,rfl⟩:=hrow.form
   have HTw3:=hiD hrow
   have HTs3:=hiD hsts
   have H3:=hiD (H2.out.next HR3.out hm3.out)
   have HV3:=hiD (HV2.out.by H2.out.rd hm3.out)
   clear hm3 HR3 H2 HV2 hrow hsts
   have c0:=H3.out.own.cell (i:=0) rfl
   have f0:=H3.out.own.free 0
   have c4:=H3.out.own.cell (i:=4) rfl
   have f4:=H3.out.own.free 4
   have c5:=H3.out.own.cell (i:=5) rfl
   have f5:=H3.out.own.free 5
   have hl3:=H3.out.own.lt
   go_wp2_with fail
   have HQ4:=(((H3.out.putMods 0 (.int .i64 4)).trans ((H3.out.put (ds:=_) 0 (.int .i64 4) rfl).putMods 4 (.pointer (some ⟨g2,0,none⟩)))).trans (((H3.out.put (ds:=_) 0 (.int .i64 4) rfl).put (ds:=_) 4 (.pointer (some ⟨g2,0,none⟩)) rfl).putMods 5 (.slice oa3 on3 oc3)))
   have HV4:=hiD (HV3.out.mods HQ4)
   have HTw4:=hiD (HTw3.out.mods HQ4 (fun _ _ h=>h))
   have HTs4:=hiD (StsAt.modsTo HQ4 (fun _ _ h=>h) _ _ HTs3.out)
   have H4:=hiD (((H3.out.put (ds:=_) 0 (.int .i64 4) rfl).put (ds:=_) 4 (.pointer (some ⟨g2,0,none⟩)) rfl).put (ds:=[.int .i64 4,.int .i64 ta,.string ⟨#[]⟩,.pointer none,.pointer (some ⟨g2,0,none⟩),.slice oa3 on3 oc3,.slice none 0 0]) 5 (.slice oa3 on3 oc3) rfl)
   obtain ⟨w4,hw4⟩:∃ q,q=(((w3.setCell ⟨W.heap.size+1,0,none⟩ (.int .i64 4)).setCell ⟨W.heap.size+1,4,none⟩ (.pointer (some ⟨g2,0,none⟩))).setCell ⟨W.heap.size+1,5,none⟩ (.slice oa3 on3 oc3)):=⟨_,rfl⟩
   clear HQ4
   rw [← hw4] at H4 HV4 HTw4 HTs4 ⊢
   clear hw4 hl3 H3 HV3 HTw3 HTs3 c0 f0 c4 f4 c5 f5
   go_at_call 62
   refine take_of (s:=kElse) (hiD (Mods.refl _ _)) (hiD H4.out.rd) HX ?_ ?_
   · clear HX
     rintro-HX w5 HR5 hm5 -
     have H5:=hiD (H4.out.next HR5.out hm5.out)
     have HV5:=hiD (HV4.out.by H4.out.rd hm5.out)
     have HTw5:=hiD (HTw4.out.mods (hm5.out.mono fun k _ hk=>by rw [hk];exact H4.out.rd.has) (fun _ _ h=>h))
     have HTs5:=hiD (StsAt.modsTo (hm5.out.mono fun k _ hk=>by rw [hk];exact H4.out.rd.has) (fun _ _ h=>h) _ _ HTs4.out)
     clear hm5 HR5 H4 HV4 HTw4 HTs4
     go_wp2_with fail
     go_at_call 63
     rw [hds.out]
     refine bind_of (hiD (Mods.refl _ _)) (hiD H5.out.rd) HX (fun y hy=>hB b (Three S W.heap.size) (deep+1) r3.tail w5 y (by have:=HD.out;omega) H5.out.rd hy) ?_ ?_
     · rintro n a rfl g w HB HM1
       go_wp2
       exact ⟨rfl,g,rfl,HB.out,H5.out.mods.trans HM1.out⟩
     clear HX
     rintro el r6-HX xv w6 hv HR6 hm6 -
     obtain ⟨vs6,hrow,hsts⟩:=hv
     obtain ⟨oa6,on6,oc6,rfl⟩:=hrow.form
     have HEw6:=hiD hrow
     have HEs6:=hiD hsts
     have H6:=hiD (H5.out.next HR6.out hm6.out)
     have HV6:=hiD (HV5.out.by H5.out.rd hm6.out)
     have HTw6:=hiD (HTw5.out.mods (hm6.out.mono fun k _ hk=>by rw [hk];exact H5.out.rd.has) (fun _ _ h=>h))
     have HTs6:=hiD (StsAt.modsTo (hm6.out.mono fun k _ hk=>by rw [hk];exact H5.out.rd.has) (fun _ _ h=>h) _ _ HTs5.out)
     clear hm6 HR6 H5 HV5 HTw5 HTs5 hrow hsts
     have c6:=H6.out.own.cell (i:=6) rfl
     have f6:=H6.out.own.free 6
     have hl6:=H6.out.own.lt
     go_upto_region 7 with fail
     have HQ7:=(H6.out.putMods 6 (.slice oa6 on6 oc6))
     have HV7:=hiD (HV6.out.mods HQ7)
     have HTw7:=hiD (HTw6.out.mods HQ7 (fun _ _ h=>h))
     have HTs7:=hiD (StsAt.modsTo HQ7 (fun _ _ h=>h) _ _ HTs6.out)
     have HEw7:=hiD (HEw6.out.mods HQ7 (fun _ _ h=>h))
     have HEs7:=hiD (StsAt.modsTo HQ7 (fun _ _ h=>h) _ _ HEs6.out)
     have H7:=hiD (H6.out.put (ds:=[.int .i64 4,.int .i64 ta,.string ⟨#[]⟩,.pointer none,.pointer (some ⟨g2,0,none⟩),.slice oa3 on3 oc3,.slice oa6 on6 oc6]) 6 (.slice oa6 on6 oc6) rfl)
     obtain ⟨w7,hw7⟩:∃ q,q=(w6.setCell ⟨W.heap.size+1,6,none⟩ (.slice oa6 on6 oc6)):=⟨_,rfl⟩
     clear HQ7
     rw [← hw7] at H7 HV7 HTw7 HTs7 HEw7 HEs7 ⊢
     clear hw7 hl6 H6 HV6 HTw6 HTs6 HEw6 HEs6 c6 f6
     obtain rfl:=(Option.some.inj HX.out).symm
     have c0:=H7.out.own.cell (i:=0) rfl
     have c1:=H7.out.own.cell (i:=1) rfl
     have c2:=H7.out.own.cell (i:=2) rfl
     have c3:=H7.out.own.cell (i:=3) rfl
     have c4:=H7.out.own.cell (i:=4) rfl
     have c5:=H7.out.own.cell (i:=5) rfl
     have c6:=H7.out.own.cell (i:=6) rfl
     have d0:=H7.out.res.cell (i:=0) rfl
     have e0:=H7.out.res.free 0
     have d1:=H7.out.res.cell (i:=1) rfl
     have e1:=H7.out.res.free 1
     have d2:=H7.out.res.cell (i:=2) rfl
     have e2:=H7.out.res.free 2
     have d3:=H7.out.res.cell (i:=3) rfl
     have e3:=H7.out.res.free 3
     have d4:=H7.out.res.cell (i:=4) rfl
     have e4:=H7.out.res.free 4
     have d5:=H7.out.res.cell (i:=5) rfl
     have e5:=H7.out.res.free 5
     have d6:=H7.out.res.cell (i:=6) rfl
     have e6:=H7.out.res.free 6
     go_wp2
     obtain ⟨hq1,hq2,hq3,hq4⟩:=H7.out.ret rfl
     have q0:=hq1.cell (i:=0) rfl
     have q1:=hq1.cell (i:=1) rfl
     have q2:=hq1.cell (i:=2) rfl
     have q3:=hq1.cell (i:=3) rfl
     have q4:=hq1.cell (i:=4) rfl
     have q5:=hq1.cell (i:=5) rfl
     have q6:=hq1.cell (i:=6) rfl
     refine bodyPost_ret (v:=.agg #[.int .i64 4,.int .i64 ta,.string ⟨#[]⟩,.pointer none,.pointer (some ⟨g2,0,none⟩),.slice oa3 on3 oc3,.slice oa6 on6 oc6]) (by simp [results,Tryz.results94,go_sem,q0,q1,q2,q3,q4,q5,q6]) rfl ?_
     refine ⟨_,rfl,⟨_,rfl,StAt.modsTo hq4 sub_three (.cond ta v l el) _ ?_⟩,hq3,hq2⟩
     simp only [StAt]
     exact ⟨_,_,_,_,_,rfl,HV7.out,HTw7.out,HTs7.out,HEw7.out,HEs7.out⟩
   clear HX
   rintro-HX
   obtain rfl:=(Option.some.inj HX.out).symm
   have c0:=H4.out.own.cell (i:=0) rfl
   have c1:=H4.out.own.cell (i:=1) rfl
   have c2:=H4.out.own.cell (i:=2) rfl
   have c3:=H4.out.own.cell (i:=3) rfl
   have c4:=H4.out.own.cell (i:=4) rfl
   have c5:=H4.out.own.cell (i:=5) rfl
   have c6:=H4.out.own.cell (i:=6) rfl
   have d0:=H4.out.res.cell (i:=0) rfl
   have e0:=H4.out.res.free 0
   have d1:=H4.out.res.cell (i:=1) rfl
   have e1:=H4.out.res.free 1
   have d2:=H4.out.res.cell (i:=2) rfl
   have e2:=H4.out.res.free 2
   have d3:=H4.out.res.cell (i:=3) rfl
   have e3:=H4.out.res.free 3
   have d4:=H4.out.res.cell (i:=4) rfl
   have e4:=H4.out.res.free 4
   have d5:=H4.out.res.cell (i:=5) rfl
   have e5:=H4.out.res.free 5
   have d6:=H4.out.res.cell (i:=6) rfl
   have e6:=H4.out.res.free 6
   go_wp2
   obtain ⟨hq1,hq2,hq3,hq4⟩:=H4.out.ret rfl
   have q0:=hq1.cell (i:=0) rfl
   have q1:=hq1.cell (i:=1) rfl
   have q2:=hq1.cell (i:=2) rfl
   have q3:=hq1.cell (i:=3) rfl
   have q4:=hq1.cell (i:=4) rfl
   have q5:=hq1.cell (i:=5) rfl
   have q6:=hq1.cell (i:=6) rfl
   refine bodyPost_ret (v:=.agg #[.int .i64 4,.int .i64 ta,.string ⟨#[]⟩,.pointer none,.pointer (some ⟨g2,0,none⟩),.slice oa3 on3 oc3,.slice none 0 0]) (by simp [results,Tryz.results94,go_sem,q0,q1,q2,q3,q4,q5,q6]) rfl ?_
   refine ⟨_,rfl,⟨_,rfl,StAt.modsTo hq4 sub_three (.cond ta v l []) _ ?_⟩,hq3,hq2⟩
   simp only [StAt]
   exact ⟨_,_,_,_,_,rfl,HV4.out,HTw4.out,HTs4.out,⟨World.ownsRow_nil _ _ _ _,fun _ hk=>by cases hk⟩,by simp only [StsAt]⟩
 clear HX
 rintro-HX
 go_wp2_with fail
 go_at_call 62
 refine take_of (s:=kWhile) (hiD (Mods.refl _ _)) (hiD H0.out.rd) HX ?_ ?_
 · clear HX
   rintro-HX w1 HR1 hm1 -
   have H1:=hiD (H0.out.next HR1.out hm1.out)
   clear H0 HR1 hm1
   go_wp2_with fail
   go_at_call 113
   refine bind_of (hiD (Mods.refl _ _)) (hiD H1.out.rd) HX (fun y hy=>A.alone b (Three S W.heap.size) 0 ts.tail w1 y (by omega) H1.out.rd hy) ?_ ?_
   · rintro n a rfl g w HB HM1
     go_wp2
     exact ⟨rfl,g,rfl,HB.out,H1.out.mods.trans HM1.out⟩
   clear HX
   rintro v r2-HX xv w2 hv HR2 hm2 -
   obtain ⟨g2,rfl⟩:=ExAt.ptr hv
   have HV2:=hiD (show ExAt w2 (Three S W.heap.size) v _ from hv)
   have H2:=hiD (H1.out.next HR2.out hm2.out)
   clear hm2 HR2 H1 hv
   go_wp2_with fail
   go_at_call 63
   rw [hds.out]
   refine bind_of (hiD (Mods.refl _ _)) (hiD H2.out.rd) HX (fun y hy=>hB b (Three S W.heap.size) (deep+1) r2 w2 y (by have:=HD.out;omega) H2.out.rd hy) ?_ ?_
   · rintro n a rfl g w HB HM1
     go_wp2
     exact ⟨rfl,g,rfl,HB.out,H2.out.mods.trans HM1.out⟩
   clear HX
   rintro l r3-HX xv w3 hv HR3 hm3 -
   obtain ⟨vs3,hrow,hsts⟩:=hv
   obtain ⟨oa3,on3,oc3,rfl⟩:=hrow.form
   have HTw3:=hiD hrow
   have HTs3:=hiD hsts
   have H3:=hiD (H2.out.next HR3.out hm3.out)
   have HV3:=hiD (HV2.out.by H2.out.rd hm3.out)
   clear hm3 HR3 H2 HV2 hrow hsts
   have c0:=H3.out.own.cell (i:=0) rfl
   have f0:=H3.out.own.free 0
   have c4:=H3.out.own.cell (i:=4) rfl
   have f4:=H3.out.own.free 4
   have c5:=H3.out.own.cell (i:=5) rfl
   have f5:=H3.out.own.free 5
   have hl3:=H3.out.own.lt
   go_upto_region 10 with fail
   have HQ4:=(((H3.out.putMods 0 (.int .i64 5)).trans ((H3.out.put (ds:=_) 0 (.int .i64 5) rfl).putMods 4 (.pointer (some ⟨g2,0,none⟩)))).trans (((H3.out.put (ds:=_) 0 (.int .i64 5) rfl).put (ds:=_) 4 (.pointer (some ⟨g2,0,none⟩)) rfl).putMods 5 (.slice oa3 on3 oc3)))
   have HV4:=hiD (HV3.out.mods HQ4)
   have HTw4:=hiD (HTw3.out.mods HQ4 (fun _ _ h=>h))
   have HTs4:=hiD (StsAt.modsTo HQ4 (fun _ _ h=>h) _ _ HTs3.out)
   have H4:=hiD (((H3.out.put (ds:=_) 0 (.int .i64 5) rfl).put (ds:=_) 4 (.pointer (some ⟨g2,0,none⟩)) rfl).put (ds:=[.int .i64 5,.int .i64 ta,.string ⟨#[]⟩,.pointer none,.pointer (some ⟨g2,0,none⟩),.slice oa3 on3 oc3,.slice none 0 0]) 5 (.slice oa3 on3 oc3) rfl)
   obtain ⟨w4,hw4⟩:∃ q,q=(((w3.setCell ⟨W.heap.size+1,0,none⟩ (.int .i64 5)).setCell ⟨W.heap.size+1,4,none⟩ (.pointer (some ⟨g2,0,none⟩))).setCell ⟨W.heap.size+1,5,none⟩ (.slice oa3 on3 oc3)):=⟨_,rfl⟩
   clear HQ4
   rw [← hw4] at H4 HV4 HTw4 HTs4 ⊢
   clear hw4 hl3 H3 HV3 HTw3 HTs3 c0 f0 c4 f4 c5 f5
   obtain rfl:=(Option.some.inj HX.out).symm
   have c0:=H4.out.own.cell (i:=0) rfl
   have c1:=H4.out.own.cell (i:=1) rfl
   have c2:=H4.out.own.cell (i:=2) rfl
   have c3:=H4.out.own.cell (i:=3) rfl
   have c4:=H4.out.own.cell (i:=4) rfl
   have c5:=H4.out.own.cell (i:=5) rfl
   have c6:=H4.out.own.cell (i:=6) rfl
   have d0:=H4.out.res.cell (i:=0) rfl
   have e0:=H4.out.res.free 0
   have d1:=H4.out.res.cell (i:=1) rfl
   have e1:=H4.out.res.free 1
   have d2:=H4.out.res.cell (i:=2) rfl
   have e2:=H4.out.res.free 2
   have d3:=H4.out.res.cell (i:=3) rfl
   have e3:=H4.out.res.free 3
   have d4:=H4.out.res.cell (i:=4) rfl
   have e4:=H4.out.res.free 4
   have d5:=H4.out.res.cell (i:=5) rfl
   have e5:=H4.out.res.free 5
   have d6:=H4.out.res.cell (i:=6) rfl
   have e6:=H4.out.res.free 6
   go_wp2
   obtain ⟨hq1,hq2,hq3,hq4⟩:=H4.out.ret rfl
   have q0:=hq1.cell (i:=0) rfl
   have q1:=hq1.cell (i:=1) rfl
   have q2:=hq1.cell (i:=2) rfl
   have q3:=hq1.cell (i:=3) rfl
   have q4:=hq1.cell (i:=4) rfl
   have q5:=hq1.cell (i:=5) rfl
   have q6:=hq1.cell (i:=6) rfl
   refine bodyPost_ret (v:=.agg #[.int .i64 5,.int .i64 ta,.string ⟨#[]⟩,.pointer none,.pointer (some ⟨g2,0,none⟩),.slice oa3 on3 oc3,.slice none 0 0]) (by simp [results,Tryz.results94,go_sem,q0,q1,q2,q3,q4,q5,q6]) rfl ?_
   refine ⟨_,rfl,⟨_,rfl,StAt.modsTo hq4 sub_three (.loop ta v l) _ ?_⟩,hq3,hq2⟩
   simp only [StAt]
   exact ⟨_,_,_,rfl,HV4.out,HTw4.out,HTs4.out⟩
 clear HX
 rintro-HX
 go_wp2_with fail
 go_at_call 62
 refine take_of (s:=kVar) (hiD (Mods.refl _ _)) (hiD H0.out.rd) HX ?_ ?_
 · clear HX
   rintro-HX w1 HR1 hm1 -
   have H1:=hiD (H0.out.next HR1.out hm1.out)
   clear H0 HR1 hm1
   go_wp2_with fail
   go_at_call 61
   refine name_of (hiD (Mods.refl _ _)) (hiD H1.out.rd) HX ?_ ?_
   · rintro n a rfl g w HB HM1
     go_wp2
     exact ⟨rfl,g,rfl,HB.out,H1.out.mods.trans HM1.out⟩
   clear HX
   rintro n r2-HX w2 HR2 hm2 -
   have H2:=hiD (H1.out.next HR2.out hm2.out)
   clear hm2 HR2 H1
   have c0:=H2.out.own.cell (i:=0) rfl
   have f0:=H2.out.own.free 0
   have c2:=H2.out.own.cell (i:=2) rfl
   have f2:=H2.out.own.free 2
   have hl2:=H2.out.own.lt
   go_upto_region 13 with fail
   have HQ3:=((H2.out.putMods 0 (.int .i64 1)).trans ((H2.out.put (ds:=_) 0 (.int .i64 1) rfl).putMods 2 (.string ⟨n.toArray⟩)))
   have H3:=hiD ((H2.out.put (ds:=_) 0 (.int .i64 1) rfl).put (ds:=[.int .i64 1,.int .i64 ta,.string ⟨n.toArray⟩,.pointer none,.pointer none,.slice none 0 0,.slice none 0 0]) 2 (.string ⟨n.toArray⟩) rfl)
   obtain ⟨w3,hw3⟩:∃ q,q=((w2.setCell ⟨W.heap.size+1,0,none⟩ (.int .i64 1)).setCell ⟨W.heap.size+1,2,none⟩ (.string ⟨n.toArray⟩)):=⟨_,rfl⟩
   clear HQ3
   rw [← hw3] at H3 ⊢
   clear hw3 hl2 H2 c0 f0 c2 f2
   go_wp2_with fail
   go_at_call 60
   refine must_of (s:=[61]) (hiD (Mods.refl _ _)) (hiD H3.out.rd) HX ?_ ?_
   · rintro n a rfl g w HB HM1
     go_wp2
     exact ⟨rfl,g,rfl,HB.out,H3.out.mods.trans HM1.out⟩
   clear HX
   rintro r4-HX w4 HR4 hm4 -
   have H4:=hiD (H3.out.next HR4.out hm4.out)
   clear hm4 HR4 H3
   go_wp2_with fail
   go_at_call 114
   refine bind_of (hiD (Mods.refl _ _)) (hiD H4.out.rd) HX (fun y hy=>A.expr b (Three S W.heap.size) 0 0 r4 w4 y (by omega) (by omega) H4.out.rd hy) ?_ ?_
   · rintro n a rfl g w HB HM1
     go_wp2
     exact ⟨rfl,g,rfl,HB.out,H4.out.mods.trans HM1.out⟩
   clear HX
   rintro v r5-HX xv w5 hv HR5 hm5 -
   obtain ⟨g5,rfl⟩:=ExAt.ptr hv
   have HV5:=hiD (show ExAt w5 (Three S W.heap.size) v _ from hv)
   have H5:=hiD (H4.out.next HR5.out hm5.out)
   clear hm5 HR5 H4 hv
   have c4:=H5.out.own.cell (i:=4) rfl
   have f4:=H5.out.own.free 4
   have hl5:=H5.out.own.lt
   go_upto_region 19 with fail
   have HQ6:=(H5.out.putMods 4 (.pointer (some ⟨g5,0,none⟩)))
   have HV6:=hiD (HV5.out.mods HQ6)
   have H6:=hiD (H5.out.put (ds:=[.int .i64 1,.int .i64 ta,.string ⟨n.toArray⟩,.pointer none,.pointer (some ⟨g5,0,none⟩),.slice none 0 0,.slice none 0 0]) 4 (.pointer (some ⟨g5,0,none⟩)) rfl)
   obtain ⟨w6,hw6⟩:∃ q,q=(w5.setCell ⟨W.heap.size+1,4,none⟩ (.pointer (some ⟨g5,0,none⟩))):=⟨_,rfl⟩
   clear HQ6
   rw [← hw6] at H6 HV6 ⊢
   clear hw6 hl5 H5 HV5 c4 f4
   go_wp2_with fail
   go_at_call 60
   refine must_of (s:=[59]) (hiD (Mods.refl _ _)) (hiD H6.out.rd) HX ?_ ?_
   · rintro n a rfl g w HB HM1
     go_wp2
     exact ⟨rfl,g,rfl,HB.out,H6.out.mods.trans HM1.out⟩
   clear HX
   rintro r7-HX w7 HR7 hm7 -
   have H7:=hiD (H6.out.next HR7.out hm7.out)
   have HV7:=hiD (HV6.out.by H6.out.rd hm7.out)
   clear hm7 HR7 H6 HV6
   obtain rfl:=(Option.some.inj HX.out).symm
   go_upto_region 20 with fail
   have c0:=H7.out.own.cell (i:=0) rfl
   have c1:=H7.out.own.cell (i:=1) rfl
   have c2:=H7.out.own.cell (i:=2) rfl
   have c3:=H7.out.own.cell (i:=3) rfl
   have c4:=H7.out.own.cell (i:=4) rfl
   have c5:=H7.out.own.cell (i:=5) rfl
   have c6:=H7.out.own.cell (i:=6) rfl
   have d0:=H7.out.res.cell (i:=0) rfl
   have e0:=H7.out.res.free 0
   have d1:=H7.out.res.cell (i:=1) rfl
   have e1:=H7.out.res.free 1
   have d2:=H7.out.res.cell (i:=2) rfl
   have e2:=H7.out.res.free 2
   have d3:=H7.out.res.cell (i:=3) rfl
   have e3:=H7.out.res.free 3
   have d4:=H7.out.res.cell (i:=4) rfl
   have e4:=H7.out.res.free 4
   have d5:=H7.out.res.cell (i:=5) rfl
   have e5:=H7.out.res.free 5
   have d6:=H7.out.res.cell (i:=6) rfl
   have e6:=H7.out.res.free 6
   go_wp2
   obtain ⟨hq1,hq2,hq3,hq4⟩:=H7.out.ret rfl
   have q0:=hq1.cell (i:=0) rfl
   have q1:=hq1.cell (i:=1) rfl
   have q2:=hq1.cell (i:=2) rfl
   have q3:=hq1.cell (i:=3) rfl
   have q4:=hq1.cell (i:=4) rfl
   have q5:=hq1.cell (i:=5) rfl
   have q6:=hq1.cell (i:=6) rfl
   refine bodyPost_ret (v:=.agg #[.int .i64 1,.int .i64 ta,.string ⟨n.toArray⟩,.pointer none,.pointer (some ⟨g5,0,none⟩),.slice none 0 0,.slice none 0 0]) (by simp [results,Tryz.results94,go_sem,q0,q1,q2,q3,q4,q5,q6]) rfl ?_
   refine ⟨_,rfl,⟨_,rfl,StAt.modsTo hq4 sub_three (.var ta n v) _ ?_⟩,hq3,hq2⟩
   simp only [StAt]
   exact ⟨_,rfl,HV7.out⟩
 clear HX
 rintro-HX
 go_wp2_with fail
 go_at_call 62
 refine take_of (s:=kReturn) (hiD (Mods.refl _ _)) (hiD H0.out.rd) HX ?_ ?_
 · clear HX
   rintro-HX w1 HR1 hm1 -
   have H1:=hiD (H0.out.next HR1.out hm1.out)
   clear H0 HR1 hm1
   go_wp2_with fail
   go_at_call 114
   refine bind_of (hiD (Mods.refl _ _)) (hiD H1.out.rd) HX (fun y hy=>A.expr b (Three S W.heap.size) 0 0 ts.tail w1 y (by omega) (by omega) H1.out.rd hy) ?_ ?_
   · rintro n a rfl g w HB HM1
     go_wp2
     exact ⟨rfl,g,rfl,HB.out,H1.out.mods.trans HM1.out⟩
   clear HX
   rintro v r2-HX xv w2 hv HR2 hm2 -
   obtain ⟨g2,rfl⟩:=ExAt.ptr hv
   have HV2:=hiD (show ExAt w2 (Three S W.heap.size) v _ from hv)
   have H2:=hiD (H1.out.next HR2.out hm2.out)
   clear hm2 HR2 H1 hv
   have c0:=H2.out.own.cell (i:=0) rfl
   have f0:=H2.out.own.free 0
   have c4:=H2.out.own.cell (i:=4) rfl
   have f4:=H2.out.own.free 4
   have hl2:=H2.out.own.lt
   go_upto_region 19 with fail
   have HQ3:=((H2.out.putMods 0 (.int .i64 6)).trans ((H2.out.put (ds:=_) 0 (.int .i64 6) rfl).putMods 4 (.pointer (some ⟨g2,0,none⟩))))
   have HV3:=hiD (HV2.out.mods HQ3)
   have H3:=hiD ((H2.out.put (ds:=_) 0 (.int .i64 6) rfl).put (ds:=[.int .i64 6,.int .i64 ta,.string ⟨#[]⟩,.pointer none,.pointer (some ⟨g2,0,none⟩),.slice none 0 0,.slice none 0 0]) 4 (.pointer (some ⟨g2,0,none⟩)) rfl)
   obtain ⟨w3,hw3⟩:∃ q,q=((w2.setCell ⟨W.heap.size+1,0,none⟩ (.int .i64 6)).setCell ⟨W.heap.size+1,4,none⟩ (.pointer (some ⟨g2,0,none⟩))):=⟨_,rfl⟩
   clear HQ3
   rw [← hw3] at H3 HV3 ⊢
   clear hw3 hl2 H2 HV2 c0 f0 c4 f4
   go_wp2_with fail
   go_at_call 60
   refine must_of (s:=[59]) (hiD (Mods.refl _ _)) (hiD H3.out.rd) HX ?_ ?_
   · rintro n a rfl g w HB HM1
     go_wp2
     exact ⟨rfl,g,rfl,HB.out,H3.out.mods.trans HM1.out⟩
   clear HX
   rintro r4-HX w4 HR4 hm4 -
   have H4:=hiD (H3.out.next HR4.out hm4.out)
   have HV4:=hiD (HV3.out.by H3.out.rd hm4.out)
   clear hm4 HR4 H3 HV3
   obtain rfl:=(Option.some.inj HX.out).symm
   go_upto_region 20 with fail
   have c0:=H4.out.own.cell (i:=0) rfl
   have c1:=H4.out.own.cell (i:=1) rfl
   have c2:=H4.out.own.cell (i:=2) rfl
   have c3:=H4.out.own.cell (i:=3) rfl
   have c4:=H4.out.own.cell (i:=4) rfl
   have c5:=H4.out.own.cell (i:=5) rfl
   have c6:=H4.out.own.cell (i:=6) rfl
   have d0:=H4.out.res.cell (i:=0) rfl
   have e0:=H4.out.res.free 0
   have d1:=H4.out.res.cell (i:=1) rfl
   have e1:=H4.out.res.free 1
   have d2:=H4.out.res.cell (i:=2) rfl
   have e2:=H4.out.res.free 2
   have d3:=H4.out.res.cell (i:=3) rfl
   have e3:=H4.out.res.free 3
   have d4:=H4.out.res.cell (i:=4) rfl
   have e4:=H4.out.res.free 4
   have d5:=H4.out.res.cell (i:=5) rfl
   have e5:=H4.out.res.free 5
   have d6:=H4.out.res.cell (i:=6) rfl
   have e6:=H4.out.res.free 6
   go_wp2
   obtain ⟨hq1,hq2,hq3,hq4⟩:=H4.out.ret rfl
   have q0:=hq1.cell (i:=0) rfl
   have q1:=hq1.cell (i:=1) rfl
   have q2:=hq1.cell (i:=2) rfl
   have q3:=hq1.cell (i:=3) rfl
   have q4:=hq1.cell (i:=4) rfl
   have q5:=hq1.cell (i:=5) rfl
   have q6:=hq1.cell (i:=6) rfl
   refine bodyPost_ret (v:=.agg #[.int .i64 6,.int .i64 ta,.string ⟨#[]⟩,.pointer none,.pointer (some ⟨g2,0,none⟩),.slice none 0 0,.slice none 0 0]) (by simp [results,Tryz.results94,go_sem,q0,q1,q2,q3,q4,q5,q6]) rfl ?_
   refine ⟨_,rfl,⟨_,rfl,StAt.modsTo hq4 sub_three (.ret ta v) _ ?_⟩,hq3,hq2⟩
   simp only [StAt]
   exact ⟨_,rfl,HV4.out⟩
 clear HX
 rintro-HX
 go_wp2_with fail
 go_at_call 62
 refine take_of (s:=kPrint) (hiD (Mods.refl _ _)) (hiD H0.out.rd) HX ?_ ?_
 · clear HX
   rintro-HX w1 HR1 hm1 -
   have H1:=hiD (H0.out.next HR1.out hm1.out)
   clear H0 HR1 hm1
   go_wp2_with fail
   go_at_call 114
   refine bind_of (hiD (Mods.refl _ _)) (hiD H1.out.rd) HX (fun y hy=>A.expr b (Three S W.heap.size) 0 0 ts.tail w1 y (by omega) (by omega) H1.out.rd hy) ?_ ?_
   · rintro n a rfl g w HB HM1
     go_wp2
     exact ⟨rfl,g,rfl,HB.out,H1.out.mods.trans HM1.out⟩
   clear HX
   rintro v r2-HX xv w2 hv HR2 hm2 -
   obtain ⟨g2,rfl⟩:=ExAt.ptr hv
   have HV2:=hiD (show ExAt w2 (Three S W.heap.size) v _ from hv)
   have H2:=hiD (H1.out.next HR2.out hm2.out)
   clear hm2 HR2 H1 hv
   have c0:=H2.out.own.cell (i:=0) rfl
   have f0:=H2.out.own.free 0
   have c4:=H2.out.own.cell (i:=4) rfl
   have f4:=H2.out.own.free 4
   have hl2:=H2.out.own.lt
   go_upto_region 19 with fail
   have HQ3:=((H2.out.putMods 0 (.int .i64 7)).trans ((H2.out.put (ds:=_) 0 (.int .i64 7) rfl).putMods 4 (.pointer (some ⟨g2,0,none⟩))))
   have HV3:=hiD (HV2.out.mods HQ3)
   have H3:=hiD ((H2.out.put (ds:=_) 0 (.int .i64 7) rfl).put (ds:=[.int .i64 7,.int .i64 ta,.string ⟨#[]⟩,.pointer none,.pointer (some ⟨g2,0,none⟩),.slice none 0 0,.slice none 0 0]) 4 (.pointer (some ⟨g2,0,none⟩)) rfl)
   obtain ⟨w3,hw3⟩:∃ q,q=((w2.setCell ⟨W.heap.size+1,0,none⟩ (.int .i64 7)).setCell ⟨W.heap.size+1,4,none⟩ (.pointer (some ⟨g2,0,none⟩))):=⟨_,rfl⟩
   clear HQ3
   rw [← hw3] at H3 HV3 ⊢
   clear hw3 hl2 H2 HV2 c0 f0 c4 f4
   go_wp2_with fail
   go_at_call 60
   refine must_of (s:=[59]) (hiD (Mods.refl _ _)) (hiD H3.out.rd) HX ?_ ?_
   · rintro n a rfl g w HB HM1
     go_wp2
     exact ⟨rfl,g,rfl,HB.out,H3.out.mods.trans HM1.out⟩
   clear HX
   rintro r4-HX w4 HR4 hm4 -
   have H4:=hiD (H3.out.next HR4.out hm4.out)
   have HV4:=hiD (HV3.out.by H3.out.rd hm4.out)
   clear hm4 HR4 H3 HV3
   obtain rfl:=(Option.some.inj HX.out).symm
   go_upto_region 20 with fail
   have c0:=H4.out.own.cell (i:=0) rfl
   have c1:=H4.out.own.cell (i:=1) rfl
   have c2:=H4.out.own.cell (i:=2) rfl
   have c3:=H4.out.own.cell (i:=3) rfl
   have c4:=H4.out.own.cell (i:=4) rfl
   have c5:=H4.out.own.cell (i:=5) rfl
   have c6:=H4.out.own.cell (i:=6) rfl
   have d0:=H4.out.res.cell (i:=0) rfl
   have e0:=H4.out.res.free 0
   have d1:=H4.out.res.cell (i:=1) rfl
   have e1:=H4.out.res.free 1
   have d2:=H4.out.res.cell (i:=2) rfl
   have e2:=H4.out.res.free 2
   have d3:=H4.out.res.cell (i:=3) rfl
   have e3:=H4.out.res.free 3
   have d4:=H4.out.res.cell (i:=4) rfl
   have e4:=H4.out.res.free 4
   have d5:=H4.out.res.cell (i:=5) rfl
   have e5:=H4.out.res.free 5
   have d6:=H4.out.res.cell (i:=6) rfl
   have e6:=H4.out.res.free 6
   go_wp2
   obtain ⟨hq1,hq2,hq3,hq4⟩:=H4.out.ret rfl
   have q0:=hq1.cell (i:=0) rfl
   have q1:=hq1.cell (i:=1) rfl
   have q2:=hq1.cell (i:=2) rfl
   have q3:=hq1.cell (i:=3) rfl
   have q4:=hq1.cell (i:=4) rfl
   have q5:=hq1.cell (i:=5) rfl
   have q6:=hq1.cell (i:=6) rfl
   refine bodyPost_ret (v:=.agg #[.int .i64 7,.int .i64 ta,.string ⟨#[]⟩,.pointer none,.pointer (some ⟨g2,0,none⟩),.slice none 0 0,.slice none 0 0]) (by simp [results,Tryz.results94,go_sem,q0,q1,q2,q3,q4,q5,q6]) rfl ?_
   refine ⟨_,rfl,⟨_,rfl,StAt.modsTo hq4 sub_three (.print ta v) _ ?_⟩,hq3,hq2⟩
   simp only [StAt]
   exact ⟨_,rfl,HV4.out⟩
 clear HX
 rintro-HX
 go_wp2_with fail
 go_at_call 115
 rcases bind_cases HX with ⟨n,a,hy,rfl⟩|⟨s,r2,hy,HX2⟩
 · have HC:=hiD (hN b (W.heap.size+1) (Three S W.heap.size) ts w0 _ (Or.inr (Or.inr rfl)) (by have:=H0.out.lt;omega) H0.out.rd (by rw [HT.out];exact H0.out.own) hy)
   clear hy HX
   refine HC.out.mono ?_
   rintro e w ⟨g,rfl,hb,hm⟩
   have HB:=hiD hb
   have HM:=hiD hm
   clear hb hm
   go_wp2
   exact ⟨rfl,g,rfl,HB.out,H0.out.mods.trans' HM.out (by rintro k (rfl|rfl) hk;rfl;omega)⟩
 have HC:=hiD (hN b (W.heap.size+1) (Three S W.heap.size) ts w0 _ (Or.inr (Or.inr rfl)) (by have:=H0.out.lt;omega) H0.out.rd (by rw [HT.out];exact H0.out.own) hy)
 clear hy HX
 refine HC.out.mono ?_
 rintro e w1 ⟨xv,rfl,⟨rfl,cs,hb,hst⟩,hp,hm⟩
 obtain ⟨z0,z1,z2,z3,z4,oa,on,oc,ob,om,od,rfl⟩:=hst.shape
 have H1:=hiD (H0.out.two hp hb hm)
 have HV1:=hiD hst
 clear H0 hp hb hm hst HC
 go_wp2_with fail
 go_at_call 60
 refine must_of (s:=[59]) (hiD (Mods.refl _ _)) (hiD H1.out.rd) HX2 ?_ ?_
 · rintro n a rfl g w HB HM1
   go_wp2
   exact ⟨rfl,g,rfl,HB.out,H1.out.mods.trans HM1.out⟩
 clear HX2
 rintro r3-HX w2 HR2 hm2 -
 have H2:=hiD (H1.out.next HR2.out hm2.out)
 have HV2:=hiD (StAt.modsTo (hm2.out.mono fun k _ hk=>by rw [hk];exact H1.out.rd.has) (fun _ _ h=>h) _ _ HV1.out)
 clear hm2 HR2 H1 HV1
 obtain rfl:=(Option.some.inj HX.out).symm
 go_upto_region 20 with fail
 have c0:=H2.out.own.cell (i:=0) rfl
 have c1:=H2.out.own.cell (i:=1) rfl
 have c2:=H2.out.own.cell (i:=2) rfl
 have c3:=H2.out.own.cell (i:=3) rfl
 have c4:=H2.out.own.cell (i:=4) rfl
 have c5:=H2.out.own.cell (i:=5) rfl
 have c6:=H2.out.own.cell (i:=6) rfl
 have d0:=H2.out.res.cell (i:=0) rfl
 have e0:=H2.out.res.free 0
 have d1:=H2.out.res.cell (i:=1) rfl
 have e1:=H2.out.res.free 1
 have d2:=H2.out.res.cell (i:=2) rfl
 have e2:=H2.out.res.free 2
 have d3:=H2.out.res.cell (i:=3) rfl
 have e3:=H2.out.res.free 3
 have d4:=H2.out.res.cell (i:=4) rfl
 have e4:=H2.out.res.free 4
 have d5:=H2.out.res.cell (i:=5) rfl
 have e5:=H2.out.res.free 5
 have d6:=H2.out.res.cell (i:=6) rfl
 have e6:=H2.out.res.free 6
 go_wp2
 obtain ⟨hq1,hq2,hq3,hq4⟩:=H2.out.ret rfl
 have q0:=hq1.cell (i:=0) rfl
 have q1:=hq1.cell (i:=1) rfl
 have q2:=hq1.cell (i:=2) rfl
 have q3:=hq1.cell (i:=3) rfl
 have q4:=hq1.cell (i:=4) rfl
 have q5:=hq1.cell (i:=5) rfl
 have q6:=hq1.cell (i:=6) rfl
 refine bodyPost_ret (v:=.agg #[.int .i64 z0,.int .i64 z1,.string z2,.pointer z3,.pointer z4,.slice oa on oc,.slice ob om od]) (by simp [results,Tryz.results94,go_sem,q0,q1,q2,q3,q4,q5,q6]) rfl ?_
 refine ⟨_,rfl,⟨_,rfl,StAt.modsTo hq4 sub_three s _ ?_⟩,hq3,hq2⟩
 exact HV2.out
theorem seven_new (W:World) (z0 z1 z2 z3 z4 z5 z6:Value) (e:TypeId):∀ j u,[z0,z1,z2,z3,z4,z5,z6][j]?=some u→(W.alloc (.cells #[z0,z1,z2,z3,z4,z5,z6] e)).cell? ((⟨W.heap.size,0,none⟩:Addr).add j)=some u:=by
 intro j u hj
 have h:=(Blk.new W #[z0,z1,z2,z3,z4,z5,z6] e).cell (i:=j) (v:=u) hj
 cases j with
 | zero=>exact h
 | succ j=>simpa [Addr.add] using h
theorem seven_one (a b:Int) (s:ByteArray) (p q:Option Addr) (oa:Option Addr) (on oc:Nat) (ob:Option Addr) (om od:Nat):∀ u∈[Value.int .i64 a,.int .i64 b,.string s,.pointer p,.pointer q,.slice oa on oc,.slice ob om od],u.oneCell'=true:=by
 intro u hu
 simp only [List.mem_cons,List.not_mem_nil,or_false] at hu
 rcases hu with rfl|rfl|rfl|rfl|rfl|rfl|rfl <;> rfl
def SeqAt (S:Nat→Prop) (b f deep:Nat) (W:World) (x:Except (Int×Int) (List St×List Tok)) (lv:Value) (wr:World):Prop :=
 ∃ ff l r vs,ff≤f∧stmtsF ff deep l r=some x∧Grows wr W.heap.size S 143 7 lv l.length vs∧StsAt wr (Own S lv) l vs∧Rd wr b S r∧Mods (·=b) W wr∧l.length+r.length≤10000000
set_option maxRecDepth 100000 in
set_option maxHeartbeats 1600000 in
theorem block_of (f:Nat) (hS:∀ g,g≤f→StmtC g):BlockC (f+1):=by
 intro b S deep ts W x hd h hx
 simp only [blockF] at hx
 have HR:=hiD h
 have HM:=hiD (Mods.refl (·=b) W)
 have HN:=hiD h.par.short
 have HG:=hiD (fun (w:World) (hm:Mods (·=b) W w)=>Grows.nil 143 7 h hm)
 have hd0:0≤(deep:Int)∧(deep:Int)≤13:=by omega
 obtain ⟨i0,hi,hz0,hz1,hz2⟩:=info_parts stmt_info
 have HI:=hiD (⟨hi,hz0,hz1,hz2⟩:_∧_∧_∧_)
 clear h hd hi hz0 hz1 hz2
 by_cases hdd:12<deep
 · rw [if_pos hdd] at hx
   have HX:=hiD hx
   have hg:12<(deep:Int):=by omega
   clear hx hdd
   go_enter Tryz.func63,Tryz.ntmps63
   go_wp2_with fail
   go_at_call 30
   refine fail_of HM HR HX ?_
   rintro n a rfl g w HB HM1
   go_wp2
   exact ⟨rfl,g,rfl,HB.out,HM1.out⟩
 rw [if_neg hdd] at hx
 have HD:=hiD hdd
 have hg:¬ 12<(deep:Int):=by omega
 have HX:=hiD hx
 clear hx hdd
 go_enter Tryz.func63,Tryz.ntmps63
 go_wp2_with fail
 go_at_call 60
 refine must_of (s:=[123]) HM HR HX ?_ ?_
 · rintro n a rfl g w HB HM1
   go_wp2
   exact ⟨rfl,g,rfl,HB.out,HM1.out⟩
 clear HX
 rintro r1 HT HX w1 HR1-HM1
 go_wp2_with fail
 go_loopw [5] (fun lv wr=>SeqAt S b f deep W x lv wr) (fun _ wr=>lenOf wr b)
 case atStart=>exact ⟨f,[],r1,[],Nat.le_refl _,HX.out,HG.out _ HM1.out,by simp [StsAt],HR1.out,HM1.out,by rw [HT.out.2];have:=HN.out;simp;omega⟩
 case round =>
  clear HX HR1 HM1 HR HM HT HN HG
  obtain ⟨ff,l,r,vs,hff,hb,hg,hv,hR1,hmm,hn⟩:=hrel
  have HG1:=hiD hg
  have HV1:=hiD hv
  have HR1:=hiD hR1
  have HM1:=hiD hmm
  have HN1:=hiD hn
  clear hg hv hR1 hmm hn
  cases ff with
  | zero=>simp [stmtsF] at hb
  | succ f1 =>
    simp only [stmtsF] at hb
    have HB:=hiD hb
    clear hb
    go_wp2_with fail
    go_at_call 62
    refine take_of (s:=[125]) HM1 HR1 HB ?_ ?_
    · clear HB
      rintro-HX w3 HR3 hm3 HM3
      obtain rfl:=(Option.some.inj HX.out).symm
      obtain ⟨oa,on,oc,rfl⟩:=HG1.out.form
      go_wp2
      go_ret
      exact ⟨_,rfl,⟨vs,(HG1.out.next HR1.out.has hm3.out).rowAt,StsAt.modsTo (hm3.out.mono fun k _ hk=>Or.inl (hk ▸ HR1.out.has)) own_sub _ _ HV1.out⟩,HR3.out.par,HM3.out⟩
    · clear HB
      rintro-HX
      obtain ⟨oa,on,oc,rfl⟩:=HG1.out.form
      go_wp2_with fail
      go_at_call 94
      refine bind_of HM1 HR1 HX (fun z hz=>hS f1 (by omega) b (Own S (.slice oa on oc)) deep r wr z (by have:=HD.out;omega) (HG1.out.rd HR1.out) hz) ?_ ?_
      · rintro n a rfl g w HB HM1
        go_wp2
        exact ⟨rfl,g,rfl,HB.out,HM1.out⟩
      clear HX
      rintro y2 r2 HP HX xv w4 ⟨cs,rfl,hv4⟩ HR4 hm4 HM4
      obtain ⟨z0,z1,z2,z3,z4,pa,pn,pc,qa,qn,qc,rfl⟩:=hv4.shape
      have HV4:=hiD hv4
      have HG4:=hiD ((HG1.out.next HR1.out.has hm4.out).alloc (.cells #[.int .i64 z0,.int .i64 z1,.string z2,.pointer z3,.pointer z4,.slice pa pn pc,.slice qa qn qc] 143))
      clear hv4
      go_wp2_with (at_builtin;refine wpList_append_own_at _ rfl _ _ 82 rfl W.heap.size 143 i0 _ 7 96 Tryz.underlying82 HI.out.1 HI.out.2.1 HI.out.2.2.1 HI.out.2.2.2 rfl (by decide) _ l.length vs rfl HG4.out.row ⟨w4.heap.size,0,none⟩ 1 1 [.int .i64 z0,.int .i64 z1,.string z2,.pointer z3,.pointer z4,.slice pa pn pc,.slice qa qn qc] rfl rfl (seven_new _ _ _ _ _ _ _ _ _) (seven_one _ _ _ _ _ _ _ _ _ _ _) (by have:=HN1.out;unfold maxLen;omega) (by have:=HN1.out;omega) HG4.out.base ?_;intro v' w5 hown hgrow hnil hloc;have HGR:Hid (Grew (w4.alloc (.cells #[.int .i64 z0,.int .i64 z1,.string z2,.pointer z3,.pointer z4,.slice pa pn pc,.slice qa qn qc] 143)) w5 (.slice oa on oc) v'):=hiD (grew_of hgrow hloc);have HOW:=hiD (HG4.out.grew HGR.out hown);clear hown hgrow hnil hloc;refine Hid.out ?_)
      refine hiD ?_
      have hMA:∀ (S:Nat→Prop) (o:Obj),Mods S w4 (w4.alloc o):=fun S o=>(Mods.refl _ _).alloc _
      go_wp2_with fail
      refine ⟨⟨f1,l++[y2],r2,vs++[.int .i64 z0,.int .i64 z1,.string z2,.pointer z3,.pointer z4,.slice pa pn pc,.slice qa qn qc],by omega,HX.out,by simpa using HOW.out,?_,HG4.out.rdGrew HGR.out (HR4.out.quiet (hMA _ _)),HG4.out.modsGrew HGR.out (HM4.out.alloc _),?_⟩,?_⟩
      · have hA:Mods (Own S (.slice oa on oc)) wr (w4.alloc (.cells #[.int .i64 z0,.int .i64 z1,.string z2,.pointer z3,.pointer z4,.slice pa pn pc,.slice qa qn qc] 143)):=(hm4.out.mono fun k _ hk=>Or.inl (hk ▸ HR1.out.has)).trans (hMA _ _)
        exact StsAt.append (StsAt.modsTo HGR.out.own HGR.out.to _ _ (StsAt.modsTo hA (fun _ _ h=>h) _ _ HV1.out)) (StAt.modsTo HGR.out.own HGR.out.to _ _ (StAt.modsTo (hMA _ _) (fun _ _ h=>h) _ _ HV4.out))
      · have h1:=(slens f1).stmt HP.out
        have h2:=HN1.out
        simp only [List.length_append,List.length_cons,List.length_nil] at h2 ⊢
        omega
      · rw [(HG4.out.rdGrew HGR.out (HR4.out.quiet (hMA _ _))).par.len,HR1.out.par.len]
        exact (slens f1).stmt HP.out
structure SAllC (f:Nat):Prop where
 block:BlockC f
 stmt:StmtC f
 named:NamedC f
theorem sall:∀ f,SAllC f:=by
 intro f
 induction f using Nat.strongRecOn with
 | ind f ih =>
   cases f with
   | zero=>exact ⟨fun _ _ _ _ _ _ _ _ h=>by simp [blockF] at h,fun _ _ _ _ _ _ _ _ h=>by simp [stmtF] at h,fun _ _ _ _ _ _ _ _ _ _ h=>by simp [namedF] at h⟩
   | succ f =>
     have h:=ih f (by omega)
     exact ⟨block_of f (fun g hg=>(ih g (by omega)).stmt),stmt_of f (exprs f) h.block h.named,named_of f (exprs f)⟩
def behind (f:Nat) (n:List UInt8) (ta:Int) (ps:List (List UInt8×Int)) (r4:List Tok):PR Fn:=andThen (blockF f 0 r4) fun b r5=>okP ⟨n,ta,ps,b⟩ r5
def PsAt (S:Nat→Prop) (b f:Nat) (n:List UInt8) (ta:Int) (W:World) (x:Except (Int×Int) (Fn×List Tok)) (fv:Value) (wr:World):Prop :=
 ∃ ff first l r oa on oc,ff≤f∧fv=.bool first∧andThen (paramsF ff first l r) (behind f n ta)=some x∧Fun W wr b S r [.string ⟨n.toArray⟩,.int .i64 ta,.slice oa on oc,.slice none 0 0]∧Grows wr (W.heap.size+2) (Three S W.heap.size) 91 2 (.slice oa on oc) l.length (pcells l)∧l.length+r.length≤10000000
set_option maxRecDepth 100000 in
set_option maxHeartbeats 4000000 in
theorem function_of (f:Nat):FunctionC (f+1):=by
 intro b S ts W x h hx
 simp only [functionF] at hx
 have hx:andThen (must kFn ts) (fun _ r=>andThen (nameP r) fun n r2=>andThen (must [40] r2) fun _ r3=>andThen (paramsF f true [] r3) (behind f n (headAt ts)))=some x:=hx
 have HR:=hiD h
 have HB:=hiD (sall f).block
 obtain ⟨i0,hi,hz0,hz1,hz2⟩:=info_parts param_info
 have HI:=hiD (⟨hi,hz0,hz1,hz2⟩:_∧_∧_∧_)
 obtain ⟨⟨g,o,c,hp⟩,hL,_,_,_⟩:=h
 obtain ⟨t,rr,rfl⟩:=ends_cons hp.ends
 have hl:=hp.cl
 have ha:=hp.ca
 have hcap:=hp.cap
 have hmax:=hp.max
 have hbl:b<W.heap.size:=HR.out.old b HR.out.has
 have hgl:g<W.heap.size:=Nat.lt_trans hp.lt hbl
 have hta:headAt (t::rr)=t.at_:=rfl
 obtain ⟨ta,hta2⟩:∃ ta,ta=t.at_:=⟨_,rfl⟩
 rw [← hta2] at ha hta
 simp only [List.length_cons] at hcap
 have hN:(t::rr).length≤10000000:=HR.out.par.short
 obtain ⟨ts,hts⟩:∃ ts,ts=t::rr:=⟨_,rfl⟩
 rw [← hts] at hx HR hta hN
 rw [hta] at hx
 have HX:=hiD hx
 have HNN:=hiD hN
 clear hp hL hta hta2 hts hx hN hi hz0 hz1 hz2
 go_enter Tryz.func31,Tryz.ntmps31
 go_wp2_with fail
 go_at_call 60
 have H0:=hiD (Fun.start HR.out ta)
 obtain ⟨w0,hw0⟩:∃ q,q=(W.alloc (.cells #[.string ⟨#[]⟩,.int .i64 0,.slice none 0 0,.slice none 0 0] 84)).alloc (.cells #[.string ⟨#[]⟩,.int .i64 ta,.slice none 0 0,.slice none 0 0] 84):=⟨_,rfl⟩
 rw [← hw0] at H0 ⊢
 have hsz:Hid (w0.heap.size=W.heap.size+2):=hiD (by rw [hw0];simp)
 clear hw0 HR hl ha hcap hmax hbl hgl
 have HG0:=hiD (hsz.out ▸ Grows.nil 91 2 H0.out.rd (Mods.refl (·=b) w0):Grows w0 (W.heap.size+2) (Three S W.heap.size) 91 2 (.slice none 0 0) 0 [])
 clear hsz
 refine must_of (s:=kFn) (hiD (Mods.refl _ _)) (hiD H0.out.rd) HX ?_ ?_
 · rintro n a rfl g w HB HM1
   go_wp2
   exact ⟨rfl,g,rfl,HB.out,H0.out.mods.trans HM1.out⟩
 clear HX
 rintro r1 HT1 HX w1 HR1 hm1 -
 have H1:=hiD (H0.out.next HR1.out hm1.out)
 have HG1:=hiD (HG0.out.next H0.out.rd.has hm1.out)
 clear hm1 HR1 H0 HG0
 go_wp2_with fail
 go_at_call 61
 refine name_of (hiD (Mods.refl _ _)) (hiD H1.out.rd) HX ?_ ?_
 · rintro n a rfl g w HB HM1
   go_wp2
   exact ⟨rfl,g,rfl,HB.out,H1.out.mods.trans HM1.out⟩
 clear HX
 rintro n r2 HT2 HX w2 HR2 hm2 -
 have H2:=hiD (H1.out.next HR2.out hm2.out)
 have HG2:=hiD (HG1.out.next H1.out.rd.has hm2.out)
 clear hm2 HR2 H1 HG1
 have c0:=H2.out.own.cell (i:=0) rfl
 have f0:=H2.out.own.free 0
 go_wp2_with fail
 go_at_call 60
 have H3:=hiD (H2.out.put (ds:=[.string ⟨n.toArray⟩,.int .i64 ta,.slice none 0 0,.slice none 0 0]) 0 (.string ⟨n.toArray⟩) rfl)
 have HG3:=hiD (HG2.out.keep (mods_put w2 (W.heap.size+1) 0 (.string ⟨n.toArray⟩)) (by intro k hk;cases hk))
 obtain ⟨w3,hw3⟩:∃ q,q=w2.setCell ⟨W.heap.size+1,0,none⟩ (.string ⟨n.toArray⟩):=⟨_,rfl⟩
 rw [← hw3] at H3 HG3 ⊢
 clear hw3 H2 HG2 c0 f0
 refine must_of (s:=[40]) (hiD (Mods.refl _ _)) (hiD H3.out.rd) HX ?_ ?_
 · rintro n a rfl g w HB HM1
   go_wp2
   exact ⟨rfl,g,rfl,HB.out,H3.out.mods.trans HM1.out⟩
 clear HX
 rintro r4 HT4 HX w4 HR4 hm4 -
 have H4:=hiD (H3.out.next HR4.out hm4.out)
 have HG4:=hiD (HG3.out.next H3.out.rd.has hm4.out)
 clear hm4 HR4 H3 HG3
 go_wp2_with fail
 go_loopw [4] (fun fv wr=>PsAt S b f n ta W x fv wr) (fun _ wr=>lenOf wr b)
 case atStart =>
  refine ⟨f,true,[],r4,_,_,_,Nat.le_refl _,rfl,HX.out,H4.out,HG4.out,?_⟩
  have a1:=HNN.out
  have a2:=congrArg List.length HT1.out.2
  have a3:=name_less HT2.out
  have a4:=congrArg List.length HT4.out.2
  simp only [List.length_nil,List.length_tail] at *
  omega
 case round =>
  clear HX H4 HG4 HNN HT1 HT2 HT4
  obtain ⟨ff,first,l,r,oa,on,oc,hff,rfl,hb,hfun,hg,hn⟩:=hrel
  have H1:=hiD hfun
  have HG1:=hiD hg
  have HN:=hiD hn
  clear hfun hg hn
  cases ff with
  | zero=>simp [paramsF,andThen] at hb
  | succ f1 =>
    rw [params_step] at hb
    have HX:=hiD hb
    clear hb
    go_wp2_with fail
    go_at_call 62
    refine take_of (s:=[41]) (hiD (Mods.refl _ _)) (hiD H1.out.rd) HX ?_ ?_
    · clear HX
      rintro-HX w2 HR2 hm2 -
      have H2:=hiD (H1.out.next HR2.out hm2.out)
      have HG2:=hiD (HG1.out.next H1.out.rd.has hm2.out)
      clear hm2 HR2 H1 HG1
      have HX2:Hid (andThen (blockF f 0 r.tail) (fun b r5=>okP (⟨n,ta,l,b⟩:Fn) r5)=some x):=HX
      clear HX
      go_wp2_with fail
      go_at_call 63
      refine bind_of (hiD (Mods.refl _ _)) (hiD H2.out.rd) HX2 (fun y hy=>HB.out b (Three S W.heap.size) 0 r.tail w2 y (by omega) H2.out.rd hy) ?_ ?_
      · rintro n a rfl g w HB HM1
        go_wp2
        exact ⟨rfl,g,rfl,HB.out,H2.out.mods.trans HM1.out⟩
      clear HX2
      rintro bl r3-HX xv w3 hv HR3 hm3 -
      obtain ⟨vs3,hrow,hsts⟩:=hv
      obtain ⟨ba,bn,bc,rfl⟩:=hrow.form
      have HW3:=hiD hrow
      have HS3:=hiD hsts
      have HV3:=hiD (HG2.out.next H2.out.rd.has hm3.out).rowAt
      have H3:=hiD (H2.out.next HR3.out hm3.out)
      clear hm3 HR3 hrow hsts H2 HG2
      obtain rfl:=(Option.some.inj HX.out).symm
      have c3:=H3.out.own.cell (i:=3) rfl
      have f3:=H3.out.own.free 3
      have hl3:=H3.out.own.lt
      go_upto_region 17 with fail
      have HQ:=H3.out.putMods 3 (.slice ba bn bc)
      have HS4:=hiD (StsAt.modsTo HQ (fun _ _ h=>h) _ _ HS3.out)
      have HW4:=hiD (HW3.out.mods HQ (fun _ _ h=>h))
      have HV4:=hiD (HV3.out.mods HQ (fun _ _ h=>h))
      have H4:=hiD (H3.out.put (ds:=[.string ⟨n.toArray⟩,.int .i64 ta,.slice oa on oc,.slice ba bn bc]) 3 (.slice ba bn bc) rfl)
      obtain ⟨w4,hw4⟩:∃ q,q=w3.setCell ⟨W.heap.size+1,3,none⟩ (.slice ba bn bc):=⟨_,rfl⟩
      clear HQ
      rw [← hw4] at H4 HS4 HW4 HV4 ⊢
      clear hw4 hl3 H3 HS3 HW3 HV3 c3 f3
      have c0:=H4.out.own.cell (i:=0) rfl
      have c1:=H4.out.own.cell (i:=1) rfl
      have c2:=H4.out.own.cell (i:=2) rfl
      have c3:=H4.out.own.cell (i:=3) rfl
      have d0:=H4.out.res.cell (i:=0) rfl
      have e0:=H4.out.res.free 0
      have d1:=H4.out.res.cell (i:=1) rfl
      have e1:=H4.out.res.free 1
      have d2:=H4.out.res.cell (i:=2) rfl
      have e2:=H4.out.res.free 2
      have d3:=H4.out.res.cell (i:=3) rfl
      have e3:=H4.out.res.free 3
      go_wp2
      obtain ⟨hq1,hq2,hq3,hq4⟩:=H4.out.ret rfl
      have q0:=hq1.cell (i:=0) rfl
      have q1:=hq1.cell (i:=1) rfl
      have q2:=hq1.cell (i:=2) rfl
      have q3:=hq1.cell (i:=3) rfl
      refine bodyPost_ret (v:=.agg #[.string ⟨n.toArray⟩,.int .i64 ta,.slice oa on oc,.slice ba bn bc]) (by simp [results,Tryz.results31,go_sem,q0,q1,q2,q3]) rfl ?_
      exact ⟨_,rfl,⟨_,rfl,FnAt.modsTo (x:=⟨n,ta,l,bl⟩) ⟨_,_,_,rfl,HV4.out,HW4.out,HS4.out⟩ hq4 sub_three⟩,hq3,hq2⟩
    · clear HX
      rintro-HX
      cases first
      · have HX1:Hid (andThen (must [44] r) (fun _ r=>andThen (nameP r) fun n2 r2=>andThen (must [58] r2) fun _ r3=>if seeB kArr r3 then andThen (paramsF f1 false (l++[(n2,2)]) r3.tail) (behind f n ta) else andThen (must kInt r3) fun _ r4=>andThen (paramsF f1 false (l++[(n2,1)]) r4) (behind f n ta))=some x):=HX
        clear HX
        go_wp2_with fail
        go_at_call 60
        refine must_of (s:=[44]) (hiD (Mods.refl _ _)) (hiD H1.out.rd) HX1 ?_ ?_
        · rintro n a rfl g w HB HM1
          go_wp2
          exact ⟨rfl,g,rfl,HB.out,H1.out.mods.trans HM1.out⟩
        clear HX1
        rintro q2 HT2 HX w2 HR2 hm2 -
        have H2:=hiD (H1.out.next HR2.out hm2.out)
        have HG2:=hiD (HG1.out.next H1.out.rd.has hm2.out)
        clear hm2 HR2 HG1
        go_wp2_with fail
        go_at_call 61
        refine name_of (hiD (Mods.refl _ _)) (hiD H2.out.rd) HX ?_ ?_
        · rintro n a rfl g w HB HM1
          go_wp2
          exact ⟨rfl,g,rfl,HB.out,H2.out.mods.trans HM1.out⟩
        clear HX
        rintro pn q3 HT3 HX w3 HR3 hm3 -
        have H3:=hiD (H2.out.next HR3.out hm3.out)
        have HG3:=hiD (HG2.out.next H2.out.rd.has hm3.out)
        clear hm3 HR3 H2 HG2
        go_wp2_with fail
        go_at_call 60
        have HMB:=hiD ((Mods.refl None w3).alloc (.cells #[.string ⟨pn.toArray⟩,.int .i64 1] 91))
        have H4:=hiD (H3.out.quiet HMB.out)
        have HG4:=hiD (HG3.out.alloc (.cells #[.string ⟨pn.toArray⟩,.int .i64 1] 91))
        obtain ⟨pb,hpe⟩:∃ q,q=w3.heap.size:=⟨_,rfl⟩
        have HP4:=hiD (Blk.new w3 #[.string ⟨pn.toArray⟩,.int .i64 1] 91)
        have hpb:Hid (¬ pb=b):=hiD (by have:=H3.out.rd.old b H3.out.rd.has;omega)
        have hpn:Hid (W.heap.size+1<pb):=hiD (by have:=H3.out.own.lt;omega)
        have hpo:Hid (∀ k,(Value.slice oa on oc).ownBlock=some k→¬ k=pb):=hiD (by intro k hk he;have:=(HG3.out.row.lt k hk).2;omega)
        obtain ⟨w4,hw4⟩:∃ q,q=w3.alloc (.cells #[.string ⟨pn.toArray⟩,.int .i64 1] 91):=⟨_,rfl⟩
        rw [← hw4] at H4 HG4 HP4 HMB ⊢
        rw [← hpe] at HP4 ⊢
        clear hw4 hpe H3 HG3 HMB
        refine must_of (s:=[58]) (hiD (Mods.refl _ _)) (hiD H4.out.rd) HX ?_ ?_
        · rintro n a rfl g w HB HM1
          go_wp2
          exact ⟨rfl,g,rfl,HB.out,H4.out.mods.trans HM1.out⟩
        clear HX
        rintro q5 HT5 HX w5 HR5 hm5 -
        have H5:=hiD (H4.out.next HR5.out hm5.out)
        have HG5:=hiD (HG4.out.next H4.out.rd.has hm5.out)
        have HP5:=hiD (HP4.out.mods hm5.out hpb.out)
        clear hm5 HR5 H4 HG4 HP4
        go_wp2_with fail
        go_at_call 62
        refine take_of (s:=kArr) (hiD (Mods.refl _ _)) (hiD H5.out.rd) HX ?_ ?_
        · clear HX
          rintro-HX w6 HR6 hm6 -
          have H6:=hiD (H5.out.next HR6.out hm6.out)
          have HG6:=hiD (HG5.out.next H5.out.rd.has hm6.out)
          have HP6:=hiD (HP5.out.mods hm6.out hpb.out)
          clear hm6 HR6 H5 HG5 HP5
          have p1:=HP6.out.cell (i:=1) rfl
          have f1x:=HP6.out.free 1
          go_upto_region 15 with fail
          have HMP:=mods_put w6 pb 1 (.int .i64 2)
          have H7:=hiD (H6.out.far HMP (by rintro k rfl;exact hpn.out))
          have HP7:=hiD (blk_put (ds:=[.string ⟨pn.toArray⟩,.int .i64 2]) HP6.out 1 (.int .i64 2) rfl)
          have HG7:=hiD (HG6.out.keep HMP hpo.out)
          obtain ⟨w7,hw7⟩:∃ q,q=w6.setCell ⟨pb,1,none⟩ (.int .i64 2):=⟨_,rfl⟩
          rw [← hw7] at H7 HG7 HP7 HMP ⊢
          clear hw7 H6 HG6 HP6 HMP p1 f1x
          have c2:=H7.out.own.cell (i:=2) rfl
          have p0:=HP7.out.cell (i:=0) rfl
          have p1:=HP7.out.cell (i:=1) rfl
          have HGA:=hiD (HG7.out.alloc (.cells #[.string ⟨pn.toArray⟩,.int .i64 2] 91))
          have HMA:=hiD ((Mods.refl None w7).alloc (.cells #[.string ⟨pn.toArray⟩,.int .i64 2] 91))
          have HFA:=hiD (H7.out.quiet HMA.out)
          go_wp2_with (at_builtin;refine wpList_append_own_at _ rfl _ _ 81 rfl (W.heap.size+2) 91 i0 _ 2 24 Tryz.underlying81 HI.out.1 HI.out.2.1 HI.out.2.2.1 HI.out.2.2.2 rfl (by decide) (.slice oa on oc) l.length (pcells l) rfl HGA.out.row ⟨w7.heap.size,0,none⟩ 1 1 [.string ⟨pn.toArray⟩,.int .i64 2] rfl rfl (two_new _ _ _ _) (two_one _ _) (by have:=HN.out;unfold maxLen;omega) (by have:=HN.out;omega) HGA.out.base ?_;intro v' w20 hown hgrow hnil hloc;have HGR:Hid (Grew (w7.alloc (.cells #[.string ⟨pn.toArray⟩,.int .i64 2] 91)) w20 (.slice oa on oc) v'):=hiD (grew_of hgrow hloc);have HOW:=hiD (HGA.out.grew HGR.out hown);clear hown hgrow hnil hloc;refine Hid.out ?_)
          refine hiD ?_
          have HF20:=hiD (HFA.out.far HGR.out.mods (fun k hk=>by have:=(HGA.out.row.lt k hk).1;omega))
          obtain ⟨qa,qn,qc,rfl⟩:=HOW.out.form
          have c20:=HF20.out.own.cell (i:=2) rfl
          have f20:=HF20.out.own.free 2
          have hl20:=HF20.out.own.lt
          go_wp2_with fail
          have HF21:=HF20.out.put (ds:=[.string ⟨n.toArray⟩,.int .i64 ta,.slice qa qn qc,.slice none 0 0]) 2 (.slice qa qn qc) rfl
          refine ⟨⟨f1,false,l++[(pn,2)],_,qa,qn,qc,by omega,rfl,HX.out,HF21,?_,?_⟩,?_⟩
          · rw [pcells_append]
            have:=HOW.out.keep (mods_put w20 (W.heap.size+1) 2 (.slice qa qn qc)) (by intro k hk he;have:=(HOW.out.row.lt k hk).1;omega)
            simpa [str] using this
          · have h2:=HN.out
            have a1:=name_less HT3.out
            have a2:=congrArg List.length HT5.out.2
            have a3:=congrArg List.length HT2.out.2
            simp only [List.length_append,List.length_cons,List.length_nil,List.length_tail] at *
            omega
          · rw [HF21.rd.par.len,H1.out.rd.par.len]
            have a1:=name_less HT3.out
            have a2:=congrArg List.length HT5.out.2
            have a3:=congrArg List.length HT2.out.2
            simp only [List.length_tail] at *
            omega
        clear HX
        rintro-HX
        go_wp2_with fail
        go_at_call 60
        refine must_of (s:=kInt) (hiD (Mods.refl _ _)) (hiD H5.out.rd) HX ?_ ?_
        · rintro n a rfl g w HB HM1
          go_wp2
          exact ⟨rfl,g,rfl,HB.out,H5.out.mods.trans HM1.out⟩
        clear HX
        rintro q6 HT6 HX w6 HR6 hm6 -
        have H6:=hiD (H5.out.next HR6.out hm6.out)
        have HG6:=hiD (HG5.out.next H5.out.rd.has hm6.out)
        have HP6:=hiD (HP5.out.mods hm6.out hpb.out)
        clear hm6 HR6 H5 HG5 HP5
        go_upto_region 15 with fail
        have c2:=H6.out.own.cell (i:=2) rfl
        have p0:=HP6.out.cell (i:=0) rfl
        have p1:=HP6.out.cell (i:=1) rfl
        have HGA:=hiD (HG6.out.alloc (.cells #[.string ⟨pn.toArray⟩,.int .i64 1] 91))
        have HMA:=hiD ((Mods.refl None w6).alloc (.cells #[.string ⟨pn.toArray⟩,.int .i64 1] 91))
        have HFA:=hiD (H6.out.quiet HMA.out)
        go_wp2_with (at_builtin;refine wpList_append_own_at _ rfl _ _ 81 rfl (W.heap.size+2) 91 i0 _ 2 24 Tryz.underlying81 HI.out.1 HI.out.2.1 HI.out.2.2.1 HI.out.2.2.2 rfl (by decide) (.slice oa on oc) l.length (pcells l) rfl HGA.out.row ⟨w6.heap.size,0,none⟩ 1 1 [.string ⟨pn.toArray⟩,.int .i64 1] rfl rfl (two_new _ _ _ _) (two_one _ _) (by have:=HN.out;unfold maxLen;omega) (by have:=HN.out;omega) HGA.out.base ?_;intro v' w20 hown hgrow hnil hloc;have HGR:Hid (Grew (w6.alloc (.cells #[.string ⟨pn.toArray⟩,.int .i64 1] 91)) w20 (.slice oa on oc) v'):=hiD (grew_of hgrow hloc);have HOW:=hiD (HGA.out.grew HGR.out hown);clear hown hgrow hnil hloc;refine Hid.out ?_)
        refine hiD ?_
        have HF20:=hiD (HFA.out.far HGR.out.mods (fun k hk=>by have:=(HGA.out.row.lt k hk).1;omega))
        obtain ⟨qa,qn,qc,rfl⟩:=HOW.out.form
        have c20:=HF20.out.own.cell (i:=2) rfl
        have f20:=HF20.out.own.free 2
        have hl20:=HF20.out.own.lt
        go_wp2_with fail
        have HF21:=HF20.out.put (ds:=[.string ⟨n.toArray⟩,.int .i64 ta,.slice qa qn qc,.slice none 0 0]) 2 (.slice qa qn qc) rfl
        refine ⟨⟨f1,false,l++[(pn,1)],_,qa,qn,qc,by omega,rfl,HX.out,HF21,?_,?_⟩,?_⟩
        · rw [pcells_append]
          have:=HOW.out.keep (mods_put w20 (W.heap.size+1) 2 (.slice qa qn qc)) (by intro k hk he;have:=(HOW.out.row.lt k hk).1;omega)
          simpa [str] using this
        · have h2:=HN.out
          have a1:=name_less HT3.out
          have a2:=congrArg List.length HT5.out.2
          have a3:=congrArg List.length HT2.out.2
          have a4:=congrArg List.length HT6.out.2
          simp only [List.length_append,List.length_cons,List.length_nil,List.length_tail] at *
          omega
        · rw [HF21.rd.par.len,H1.out.rd.par.len]
          have a1:=name_less HT3.out
          have a2:=congrArg List.length HT5.out.2
          have a3:=congrArg List.length HT2.out.2
          have a4:=congrArg List.length HT6.out.2
          simp only [List.length_tail] at *
          omega
      · have HX1:Hid (andThen (nameP r) (fun n2 r2=>andThen (must [58] r2) fun _ r3=>if seeB kArr r3 then andThen (paramsF f1 false (l++[(n2,2)]) r3.tail) (behind f n ta) else andThen (must kInt r3) fun _ r4=>andThen (paramsF f1 false (l++[(n2,1)]) r4) (behind f n ta))=some x):=HX
        clear HX
        have HX:=HX1
        clear HX1
        go_wp2_with fail
        go_at_call 61
        refine name_of (hiD (Mods.refl _ _)) (hiD H1.out.rd) HX ?_ ?_
        · rintro n a rfl g w HB HM1
          go_wp2
          exact ⟨rfl,g,rfl,HB.out,H1.out.mods.trans HM1.out⟩
        clear HX
        rintro pn q2 HT2 HX w2 HR2 hm2 -
        have H2:=hiD (H1.out.next HR2.out hm2.out)
        have HG2:=hiD (HG1.out.next H1.out.rd.has hm2.out)
        clear hm2 HR2 HG1
        go_wp2_with fail
        go_at_call 60
        have HMB:=hiD ((Mods.refl None w2).alloc (.cells #[.string ⟨pn.toArray⟩,.int .i64 1] 91))
        have H3:=hiD (H2.out.quiet HMB.out)
        have HG3:=hiD (HG2.out.alloc (.cells #[.string ⟨pn.toArray⟩,.int .i64 1] 91))
        obtain ⟨pb,hpe⟩:∃ q,q=w2.heap.size:=⟨_,rfl⟩
        have HP3:=hiD (Blk.new w2 #[.string ⟨pn.toArray⟩,.int .i64 1] 91)
        have hpb:Hid (¬ pb=b):=hiD (by have:=H2.out.rd.old b H2.out.rd.has;omega)
        have hpn:Hid (W.heap.size+1<pb):=hiD (by have:=H2.out.own.lt;omega)
        have hpo:Hid (∀ k,(Value.slice oa on oc).ownBlock=some k→¬ k=pb):=hiD (by intro k hk he;have:=(HG2.out.row.lt k hk).2;omega)
        obtain ⟨w3,hw3⟩:∃ q,q=w2.alloc (.cells #[.string ⟨pn.toArray⟩,.int .i64 1] 91):=⟨_,rfl⟩
        rw [← hw3] at H3 HG3 HP3 HMB ⊢
        rw [← hpe] at HP3 ⊢
        clear hw3 hpe H2 HG2 HMB
        refine must_of (s:=[58]) (hiD (Mods.refl _ _)) (hiD H3.out.rd) HX ?_ ?_
        · rintro n a rfl g w HB HM1
          go_wp2
          exact ⟨rfl,g,rfl,HB.out,H3.out.mods.trans HM1.out⟩
        clear HX
        rintro q4 HT4 HX w4 HR4 hm4 -
        have H4:=hiD (H3.out.next HR4.out hm4.out)
        have HG4:=hiD (HG3.out.next H3.out.rd.has hm4.out)
        have HP4:=hiD (HP3.out.mods hm4.out hpb.out)
        clear hm4 HR4 H3 HG3 HP3
        go_wp2_with fail
        go_at_call 62
        refine take_of (s:=kArr) (hiD (Mods.refl _ _)) (hiD H4.out.rd) HX ?_ ?_
        · clear HX
          rintro-HX w5 HR5 hm5 -
          have H5:=hiD (H4.out.next HR5.out hm5.out)
          have HG5:=hiD (HG4.out.next H4.out.rd.has hm5.out)
          have HP5:=hiD (HP4.out.mods hm5.out hpb.out)
          clear hm5 HR5 H4 HG4 HP4
          have p1:=HP5.out.cell (i:=1) rfl
          have f1x:=HP5.out.free 1
          go_upto_region 15 with fail
          have HMP:=mods_put w5 pb 1 (.int .i64 2)
          have H6:=hiD (H5.out.far HMP (by rintro k rfl;exact hpn.out))
          have HP6:=hiD (blk_put (ds:=[.string ⟨pn.toArray⟩,.int .i64 2]) HP5.out 1 (.int .i64 2) rfl)
          have HG6:=hiD (HG5.out.keep HMP hpo.out)
          obtain ⟨w6,hw6⟩:∃ q,q=w5.setCell ⟨pb,1,none⟩ (.int .i64 2):=⟨_,rfl⟩
          rw [← hw6] at H6 HG6 HP6 HMP ⊢
          clear hw6 H5 HG5 HP5 HMP p1 f1x
          have c2:=H6.out.own.cell (i:=2) rfl
          have p0:=HP6.out.cell (i:=0) rfl
          have p1:=HP6.out.cell (i:=1) rfl
          have HGA:=hiD (HG6.out.alloc (.cells #[.string ⟨pn.toArray⟩,.int .i64 2] 91))
          have HMA:=hiD ((Mods.refl None w6).alloc (.cells #[.string ⟨pn.toArray⟩,.int .i64 2] 91))
          have HFA:=hiD (H6.out.quiet HMA.out)
          go_wp2_with (at_builtin;refine wpList_append_own_at _ rfl _ _ 81 rfl (W.heap.size+2) 91 i0 _ 2 24 Tryz.underlying81 HI.out.1 HI.out.2.1 HI.out.2.2.1 HI.out.2.2.2 rfl (by decide) (.slice oa on oc) l.length (pcells l) rfl HGA.out.row ⟨w6.heap.size,0,none⟩ 1 1 [.string ⟨pn.toArray⟩,.int .i64 2] rfl rfl (two_new _ _ _ _) (two_one _ _) (by have:=HN.out;unfold maxLen;omega) (by have:=HN.out;omega) HGA.out.base ?_;intro v' w20 hown hgrow hnil hloc;have HGR:Hid (Grew (w6.alloc (.cells #[.string ⟨pn.toArray⟩,.int .i64 2] 91)) w20 (.slice oa on oc) v'):=hiD (grew_of hgrow hloc);have HOW:=hiD (HGA.out.grew HGR.out hown);clear hown hgrow hnil hloc;refine Hid.out ?_)
          refine hiD ?_
          have HF20:=hiD (HFA.out.far HGR.out.mods (fun k hk=>by have:=(HGA.out.row.lt k hk).1;omega))
          obtain ⟨qa,qn,qc,rfl⟩:=HOW.out.form
          have c20:=HF20.out.own.cell (i:=2) rfl
          have f20:=HF20.out.own.free 2
          have hl20:=HF20.out.own.lt
          go_wp2_with fail
          have HF21:=HF20.out.put (ds:=[.string ⟨n.toArray⟩,.int .i64 ta,.slice qa qn qc,.slice none 0 0]) 2 (.slice qa qn qc) rfl
          refine ⟨⟨f1,false,l++[(pn,2)],_,qa,qn,qc,by omega,rfl,HX.out,HF21,?_,?_⟩,?_⟩
          · rw [pcells_append]
            have:=HOW.out.keep (mods_put w20 (W.heap.size+1) 2 (.slice qa qn qc)) (by intro k hk he;have:=(HOW.out.row.lt k hk).1;omega)
            simpa [str] using this
          · have h2:=HN.out
            have a1:=name_less HT2.out
            have a2:=congrArg List.length HT4.out.2
            simp only [List.length_append,List.length_cons,List.length_nil,List.length_tail] at *
            omega
          · rw [HF21.rd.par.len,H1.out.rd.par.len]
            have a1:=name_less HT2.out
            have a2:=congrArg List.length HT4.out.2
            simp only [List.length_tail] at *
            omega
        clear HX
        rintro-HX
        go_wp2_with fail
        go_at_call 60
        refine must_of (s:=kInt) (hiD (Mods.refl _ _)) (hiD H4.out.rd) HX ?_ ?_
        · rintro n a rfl g w HB HM1
          go_wp2
          exact ⟨rfl,g,rfl,HB.out,H4.out.mods.trans HM1.out⟩
        clear HX
        rintro q5 HT5 HX w5 HR5 hm5 -
        have H5:=hiD (H4.out.next HR5.out hm5.out)
        have HG5:=hiD (HG4.out.next H4.out.rd.has hm5.out)
        have HP5:=hiD (HP4.out.mods hm5.out hpb.out)
        clear hm5 HR5 H4 HG4 HP4
        go_upto_region 15 with fail
        have c2:=H5.out.own.cell (i:=2) rfl
        have p0:=HP5.out.cell (i:=0) rfl
        have p1:=HP5.out.cell (i:=1) rfl
        have HGA:=hiD (HG5.out.alloc (.cells #[.string ⟨pn.toArray⟩,.int .i64 1] 91))
        have HMA:=hiD ((Mods.refl None w5).alloc (.cells #[.string ⟨pn.toArray⟩,.int .i64 1] 91))
        have HFA:=hiD (H5.out.quiet HMA.out)
        go_wp2_with (at_builtin;refine wpList_append_own_at _ rfl _ _ 81 rfl (W.heap.size+2) 91 i0 _ 2 24 Tryz.underlying81 HI.out.1 HI.out.2.1 HI.out.2.2.1 HI.out.2.2.2 rfl (by decide) (.slice oa on oc) l.length (pcells l) rfl HGA.out.row ⟨w5.heap.size,0,none⟩ 1 1 [.string ⟨pn.toArray⟩,.int .i64 1] rfl rfl (two_new _ _ _ _) (two_one _ _) (by have:=HN.out;unfold maxLen;omega) (by have:=HN.out;omega) HGA.out.base ?_;intro v' w20 hown hgrow hnil hloc;have HGR:Hid (Grew (w5.alloc (.cells #[.string ⟨pn.toArray⟩,.int .i64 1] 91)) w20 (.slice oa on oc) v'):=hiD (grew_of hgrow hloc);have HOW:=hiD (HGA.out.grew HGR.out hown);clear hown hgrow hnil hloc;refine Hid.out ?_)
        refine hiD ?_
        have HF20:=hiD (HFA.out.far HGR.out.mods (fun k hk=>by have:=(HGA.out.row.lt k hk).1;omega))
        obtain ⟨qa,qn,qc,rfl⟩:=HOW.out.form
        have c20:=HF20.out.own.cell (i:=2) rfl
        have f20:=HF20.out.own.free 2
        have hl20:=HF20.out.own.lt
        go_wp2_with fail
        have HF21:=HF20.out.put (ds:=[.string ⟨n.toArray⟩,.int .i64 ta,.slice qa qn qc,.slice none 0 0]) 2 (.slice qa qn qc) rfl
        refine ⟨⟨f1,false,l++[(pn,1)],_,qa,qn,qc,by omega,rfl,HX.out,HF21,?_,?_⟩,?_⟩
        · rw [pcells_append]
          have:=HOW.out.keep (mods_put w20 (W.heap.size+1) 2 (.slice qa qn qc)) (by intro k hk he;have:=(HOW.out.row.lt k hk).1;omega)
          simpa [str] using this
        · have h2:=HN.out
          have a1:=name_less HT2.out
          have a2:=congrArg List.length HT4.out.2
          have a4:=congrArg List.length HT5.out.2
          simp only [List.length_append,List.length_cons,List.length_nil,List.length_tail] at *
          omega
        · rw [HF21.rd.par.len,H1.out.rd.par.len]
          have a1:=name_less HT2.out
          have a2:=congrArg List.length HT4.out.2
          have a4:=congrArg List.length HT5.out.2
          simp only [List.length_tail] at *
          omega
end Go.Proofs.YtnicpmoanjddbaaGreatDoor.TreeP

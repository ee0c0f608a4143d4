/- The document's reader: what begins with a name; a statement. Printed by mkrefs.py. Conditions: what is read within is read so. -/
import Derived.Test.YtdgedlhefjmcpaaGreatDoorEn11
namespace Go.Proofs.YtdgedlhefjmcpaaGreatDoor.TreeP.R
open Go.RowKit Go.Proofs.YtdgedlhefjmcpaaGreatDoor.Wo Go.Proofs.YtdgedlhefjmcpaaGreatDoor.TreeP
set_option linter.unusedVariables false
set_option linter.unusedSimpArgs false
theorem call_good {W0 w:World} {b sb:Nat} {S:Nat→Prop} {ts:List Tok} {ta:Int} {n:List UInt8} {l:List Ex} {vs:List Value} {oa:Option Addr} {on oc:Nat}
  (h:NG W0 w b sb S ts [.int .i64 2,.int .i64 ta,.string ⟨n.toArray⟩,.pointer none,.pointer none,.slice none 0 0,.slice none 0 0]) (HW3:RowAt w S 141 1 (.slice oa on oc) l.length vs) (HV3:ExsAt w S l vs) :
  NG W0 ((((w.setCell ⟨sb,0,none⟩ (.int .i64 8)).setCell ⟨sb,4,none⟩ (.pointer (some ⟨w.heap.size,0,none⟩))).setCell ⟨sb,2,none⟩ (.string ⟨#[]⟩)).alloc (.cells #[.int .i64 5,.int .i64 ta,.int .i64 0,.string ⟨n.toArray⟩,.string ⟨#[]⟩,.pointer none,.pointer none,.slice oa on oc] 195)) b sb S ts
   [.int .i64 8,.int .i64 ta,.string ⟨#[]⟩,.pointer none,.pointer (some ⟨w.heap.size,0,none⟩),.slice none 0 0,.slice none 0 0] ∧
  StAt ((((w.setCell ⟨sb,0,none⟩ (.int .i64 8)).setCell ⟨sb,4,none⟩ (.pointer (some ⟨w.heap.size,0,none⟩))).setCell ⟨sb,2,none⟩ (.string ⟨#[]⟩)).alloc (.cells #[.int .i64 5,.int .i64 ta,.int .i64 0,.string ⟨n.toArray⟩,.string ⟨#[]⟩,.pointer none,.pointer none,.slice oa on oc] 195)) S (.call ta (.call ta n l))
   [.int .i64 8,.int .i64 ta,.string ⟨#[]⟩,.pointer none,.pointer (some ⟨w.heap.size,0,none⟩),.slice none 0 0,.slice none 0 0]:=by
 have hm:=((mods_put w sb 0 (.int .i64 8)).trans (mods_put _ sb 4 (.pointer (some ⟨w.heap.size,0,none⟩)))).trans (mods_put _ sb 2 (.string ⟨#[]⟩))
 have hm2:=hm.alloc (.cells #[.int .i64 5,.int .i64 ta,.int .i64 0,.string ⟨n.toArray⟩,.string ⟨#[]⟩,.pointer none,.pointer none,.slice oa on oc] 195)
 have hmS:=hm2.mono (T:=S) (fun k _ hk=>by rw [hk];exact h.st.hasS)
 have hG:=((h.put 0 (.int .i64 8) rfl).put 4 (.pointer (some ⟨w.heap.size,0,none⟩)) rfl).put 2 (.string ⟨#[]⟩) (ds:=[.int .i64 8,.int .i64 ta,.string ⟨#[]⟩,.pointer none,.pointer (some ⟨w.heap.size,0,none⟩),.slice none 0 0,.slice none 0 0]) rfl
 have hN:=Node.new hG.st.base.old #[.int .i64 5,.int .i64 ta,.int .i64 0,.string ⟨n.toArray⟩,.string ⟨#[]⟩,.pointer none,.pointer none,.slice oa on oc]
 have hsz:(((w.setCell ⟨sb,0,none⟩ (.int .i64 8)).setCell ⟨sb,4,none⟩ (.pointer (some ⟨w.heap.size,0,none⟩))).setCell ⟨sb,2,none⟩ (.string ⟨#[]⟩)).heap.size=w.heap.size:=by simp [World.setCell]
 rw [hsz] at hN
 refine ⟨hG.next (hG.par.mods ((Mods.refl _ _).alloc _)) (mods_b ((Mods.refl _ _).alloc _)),?_⟩
 simp only [StAt]
 refine ⟨_,rfl,?_⟩
 simp only [ExAt]
 exact ⟨_,_,hN,HW3.mods hmS (fun _ _ h=>h),ExsAt.modsTo hmS (fun _ _ h=>h) _ _ HV3⟩
theorem call_fail {W0 w:World} {b sb:Nat} {S:Nat→Prop} {en ea ta:Int} {n:List UInt8} {oa:Option Addr} {on oc:Nat}
  (h:NB W0 w b sb S en ea [.int .i64 2,.int .i64 ta,.string ⟨n.toArray⟩,.pointer none,.pointer none,.slice none 0 0,.slice none 0 0]) :
  NB W0 ((((w.setCell ⟨sb,0,none⟩ (.int .i64 8)).setCell ⟨sb,4,none⟩ (.pointer (some ⟨w.heap.size,0,none⟩))).setCell ⟨sb,2,none⟩ (.string ⟨#[]⟩)).alloc (.cells #[.int .i64 5,.int .i64 ta,.int .i64 0,.string ⟨n.toArray⟩,.string ⟨#[]⟩,.pointer none,.pointer none,.slice oa on oc] 195)) b sb S en ea
   [.int .i64 8,.int .i64 ta,.string ⟨#[]⟩,.pointer none,.pointer (some ⟨w.heap.size,0,none⟩),.slice none 0 0,.slice none 0 0] :=
 (((h.put 0 (.int .i64 8) rfl).put 4 (.pointer (some ⟨w.heap.size,0,none⟩)) rfl).put 2 (.string ⟨#[]⟩) (ds:=[.int .i64 8,.int .i64 ta,.string ⟨#[]⟩,.pointer none,.pointer (some ⟨w.heap.size,0,none⟩),.slice none 0 0,.slice none 0 0]) rfl).next ((Mods.refl _ _).alloc _)
set_option maxRecDepth 100000 in
set_option maxHeartbeats 2400000 in
theorem named_var (f:Nat) (A:AllC f) (b sb:Nat) (S:Nat→Prop) (ts:List Tok) (W:World) (x:Except (Int×Int) (St×List Tok)) (ta:Int) (hv:seeB kVar ts=true)
  (h:NG W W b sb S ts (cells7 0 ta [] nilP nilP nilS nilS)) (hx:(andThen (nameP ts.tail) fun n r=>andThen (must [61] r) fun _ r2=>andThen (exprF f 0 0 r2) fun v r3=>okP (St.var ta n v) r3)=some x) :
  Calls Tryz.prog 112 #[.pointer (some ⟨b,0,none⟩),.pointer (some ⟨sb,0,none⟩)] W (NamedTo W b sb S x):=by
 have HX:=hiD hx
 have H0:=hiD h
 have HVV:=hiD hv
 clear hx h hv
 go_enter Tryz.func112,Tryz.ntmps112
 go_wp2_with fail
 go_at_call 46
 refine (take_yes b S kVar ts W H0.out.rd HVV.out).mono ?_
 rintro e w1 ⟨rfl,hp,hm⟩
 have H1:=hiD (H0.out.next hp hm)
 clear hp hm H0 HVV
 go_wp2_with fail
 go_at_call 45
 refine name_of (hiD (Mods.refl _ _)) (hiD H1.out.rd) HX ?_ ?_
 ·rintro en ea rfl n w2-HB hm -
  have B2:=hiD (H1.out.fail HB.out.bad hm.out)
  clear HB hm H1 HX
  have c2:=B2.out.st.own.cell (i:=2) rfl
  have f2:=B2.out.st.own.free 2
  have c0:=B2.out.st.own.cell (i:=0) rfl
  have f0:=B2.out.st.own.free 0
  have hl:=B2.out.st.own.lt
  go_wp2_with fail
  have HQ:=(((B2.out.st.putMods 2 (.string ⟨n.toArray⟩)).trans ((B2.out.put (ds:=_) 2 (.string ⟨n.toArray⟩) rfl).st.putMods 0 (.int .i64 2))).trans (((B2.out.put (ds:=_) 2 (.string ⟨n.toArray⟩) rfl).put (ds:=_) 0 (.int .i64 2) rfl).st.putMods 0 (.int .i64 1)))
  have B3:=hiD (((B2.out.put (ds:=_) 2 (.string ⟨n.toArray⟩) rfl).put (ds:=_) 0 (.int .i64 2) rfl).put (ds:=[.int .i64 1,.int .i64 ta,.string ⟨n.toArray⟩,.pointer none,.pointer none,.slice none 0 0,.slice none 0 0]) 0 (.int .i64 1) rfl)
  obtain ⟨w3,hw⟩:∃ q,q=(((w2.setCell ⟨sb,2,none⟩ (.string ⟨n.toArray⟩)).setCell ⟨sb,0,none⟩ (.int .i64 2)).setCell ⟨sb,0,none⟩ (.int .i64 1)):=⟨_,rfl⟩
  clear HQ
  rw [← hw] at B3 ⊢
  clear hw hl B2 c2 f2 c0 f0
  go_at_call 44
  refine mustb_of (s:=[61]) (hiD (Mods.refl _ _)) (hiD B3.out.rb) ?_
  rintro w4-hm -
  have B4:=hiD (B3.out.next hm.out)
  clear hm B3
  go_wp2_with fail
  go_at_call 42
  refine okb_of (hiD (Mods.refl _ _)) (hiD B4.out.rb) ?_
  rintro w5-hm -
  have B5:=hiD (B4.out.next hm.out)
  clear hm B4
  go_wp2_with fail
  go_end0
  exact ⟨rfl,_,B5.out,⟨_,_,_,_,_,_,_,_,_,_,_,rfl⟩⟩
 clear HX
 rintro n r2-HX w2 HR2 hm2 -
 have H2:=hiD (H1.out.next HR2.out.par hm2.out)
 clear HR2 hm2 H1
 have c2:=H2.out.st.own.cell (i:=2) rfl
 have f2:=H2.out.st.own.free 2
 have c0:=H2.out.st.own.cell (i:=0) rfl
 have f0:=H2.out.st.own.free 0
 have hl:=H2.out.st.own.lt
 go_wp2_with fail
 have HQ:=(((H2.out.st.putMods 2 (.string ⟨n.toArray⟩)).trans ((H2.out.put (ds:=_) 2 (.string ⟨n.toArray⟩) rfl).st.putMods 0 (.int .i64 2))).trans (((H2.out.put (ds:=_) 2 (.string ⟨n.toArray⟩) rfl).put (ds:=_) 0 (.int .i64 2) rfl).st.putMods 0 (.int .i64 1)))
 have H3:=hiD (((H2.out.put (ds:=_) 2 (.string ⟨n.toArray⟩) rfl).put (ds:=_) 0 (.int .i64 2) rfl).put (ds:=[.int .i64 1,.int .i64 ta,.string ⟨n.toArray⟩,.pointer none,.pointer none,.slice none 0 0,.slice none 0 0]) 0 (.int .i64 1) rfl)
 obtain ⟨w3,hw⟩:∃ q,q=(((w2.setCell ⟨sb,2,none⟩ (.string ⟨n.toArray⟩)).setCell ⟨sb,0,none⟩ (.int .i64 2)).setCell ⟨sb,0,none⟩ (.int .i64 1)):=⟨_,rfl⟩
 clear HQ
 rw [← hw] at H3 ⊢
 clear hw hl H2 c2 f2 c0 f0
 go_at_call 44
 refine must_of (s:=[61]) (hiD (Mods.refl _ _)) (hiD H3.out.rd) HX ?_ ?_
 ·rintro en ea rfl w4 HB hm -
  have B4:=hiD (H3.out.fail HB.out.bad hm.out)
  clear HB hm H3 HX
  go_wp2_with fail
  go_at_call 42
  refine okb_of (hiD (Mods.refl _ _)) (hiD B4.out.rb) ?_
  rintro w5-hm -
  have B5:=hiD (B4.out.next hm.out)
  clear hm B4
  go_wp2_with fail
  go_end0
  exact ⟨rfl,_,B5.out,⟨_,_,_,_,_,_,_,_,_,_,_,rfl⟩⟩
 clear HX
 rintro r4-HX w4 HR hm -
 have H4:=hiD (H3.out.next HR.out.par hm.out)
 clear hm HR H3
 go_wp2_with fail
 go_at_call 42
 refine ok_of (hiD (Mods.refl _ _)) (hiD H4.out.rd) ?_
 rintro w5 HR hm -
 have H5:=hiD (H4.out.next HR.out.par (mods_b hm.out))
 clear hm HR H4
 go_wp2_with fail
 go_at_call 111
 refine bind_of (hiD (Mods.refl _ _)) (hiD H5.out.rd) HX (fun y hy=>A.expr b S 0 0 r4 w5 y (by omega) (by omega) H5.out.rd hy) ?_ ?_
 ·rintro en ea rfl xv w6 ⟨p6,rfl⟩ HB hm -
  have B6:=hiD (H5.out.fail HB.out.bad hm.out)
  clear HB hm H5 HX
  have c4:=B6.out.st.own.cell (i:=4) rfl
  have f4:=B6.out.st.own.free 4
  have hl:=B6.out.st.own.lt
  go_wp2_with fail
  have HQ:=(B6.out.st.putMods 4 (.pointer p6))
  have B7:=hiD (B6.out.put (ds:=[.int .i64 1,.int .i64 ta,.string ⟨n.toArray⟩,.pointer none,.pointer p6,.slice none 0 0,.slice none 0 0]) 4 (.pointer p6) rfl)
  obtain ⟨w7,hw⟩:∃ q,q=(w6.setCell ⟨sb,4,none⟩ (.pointer p6)):=⟨_,rfl⟩
  clear HQ
  rw [← hw] at B7 ⊢
  clear hw hl B6 c4 f4
  go_end0
  exact ⟨rfl,_,B7.out,⟨_,_,_,_,_,_,_,_,_,_,_,rfl⟩⟩
 clear HX
 rintro v r5-HX xv w6 hv HR hm -
 obtain ⟨g6,rfl⟩:=ExAt.ptr hv
 have HV6:=hiD (show ExAt w6 S v _ from hv)
 have H6:=hiD (H5.out.next HR.out.par hm.out)
 clear hm HR hv H5
 have c4:=H6.out.st.own.cell (i:=4) rfl
 have f4:=H6.out.st.own.free 4
 have hl:=H6.out.st.own.lt
 go_wp2_with fail
 have HQ:=(H6.out.st.putMods 4 (.pointer (some ⟨g6,0,none⟩)))
 have HV7:=hiD (HV6.out.mods HQ)
 have H7:=hiD (H6.out.put (ds:=[.int .i64 1,.int .i64 ta,.string ⟨n.toArray⟩,.pointer none,.pointer (some ⟨g6,0,none⟩),.slice none 0 0,.slice none 0 0]) 4 (.pointer (some ⟨g6,0,none⟩)) rfl)
 obtain ⟨w7,hw⟩:∃ q,q=(w6.setCell ⟨sb,4,none⟩ (.pointer (some ⟨g6,0,none⟩))):=⟨_,rfl⟩
 clear HQ
 rw [← hw] at H7 HV7 ⊢
 clear hw hl H6 HV6 c4 f4
 obtain rfl:=(Option.some.inj HX.out).symm
 go_end0
 refine ⟨rfl,_,H7.out,?_⟩
 simp only [StAt]
 exact ⟨_,rfl,HV7.out⟩
set_option maxRecDepth 100000 in
set_option maxHeartbeats 2400000 in
theorem named_other (f:Nat) (A:AllC f) (b sb:Nat) (S:Nat→Prop) (ts:List Tok) (W:World) (x:Except (Int×Int) (St×List Tok)) (ta:Int) (hta:headAt ts=ta) (hv:seeB kVar ts=false)
  (h:NG W W b sb S ts (cells7 0 ta [] nilP nilP nilS nilS)) (hx:namedF (f+1) ts=some x) :
  Calls Tryz.prog 112 #[.pointer (some ⟨b,0,none⟩),.pointer (some ⟨sb,0,none⟩)] W (NamedTo W b sb S x):=by
 simp only [namedF] at hx
 rw [hta] at hx
 have HX:=hiD hx
 have H0:=hiD h
 have HVV:=hiD hv
 clear hx h hv hta
 go_enter Tryz.func112,Tryz.ntmps112
 go_wp2_with fail
 go_at_call 46
 refine (take_no b S kVar ts W H0.out.rd HVV.out).mono ?_
 rintro e w1 ⟨rfl,hm⟩
 have H1:=hiD (H0.out.next (H0.out.par.mods hm) (mods_b hm))
 clear hm H0 HVV
 go_wp2_with fail
 go_at_call 45
 refine name_of (hiD (Mods.refl _ _)) (hiD H1.out.rd) HX ?_ ?_
 ·rintro en ea rfl n w2-HB hm -
  have B2:=hiD (H1.out.fail HB.out.bad hm.out)
  clear HB hm H1 HX
  have c2:=B2.out.st.own.cell (i:=2) rfl
  have f2:=B2.out.st.own.free 2
  have c0:=B2.out.st.own.cell (i:=0) rfl
  have f0:=B2.out.st.own.free 0
  have hl:=B2.out.st.own.lt
  go_wp2_with fail
  have HQ:=((B2.out.st.putMods 2 (.string ⟨n.toArray⟩)).trans ((B2.out.put (ds:=_) 2 (.string ⟨n.toArray⟩) rfl).st.putMods 0 (.int .i64 2)))
  have B3:=hiD ((B2.out.put (ds:=_) 2 (.string ⟨n.toArray⟩) rfl).put (ds:=[.int .i64 2,.int .i64 ta,.string ⟨n.toArray⟩,.pointer none,.pointer none,.slice none 0 0,.slice none 0 0]) 0 (.int .i64 2) rfl)
  obtain ⟨w3,hw⟩:∃ q,q=((w2.setCell ⟨sb,2,none⟩ (.string ⟨n.toArray⟩)).setCell ⟨sb,0,none⟩ (.int .i64 2)):=⟨_,rfl⟩
  clear HQ
  rw [← hw] at B3 ⊢
  clear hw hl B2 c2 f2 c0 f0
  go_at_call 78
  refine seeb_of (s:=[40]) (hiD (Mods.refl _ _)) (hiD B3.out.rb) ?_
  rintro w4-hm -
  have B4:=hiD (B3.out.next hm.out)
  clear hm B3
  go_wp2_with fail
  go_at_call 46
  refine takeb_of (s:=[91]) (hiD (Mods.refl _ _)) (hiD B4.out.rb) ?_
  rintro w5-hm -
  have B5:=hiD (B4.out.next hm.out)
  clear hm B4
  go_wp2_with fail
  go_at_call 44
  refine mustb_of (s:=[61]) (hiD (Mods.refl _ _)) (hiD B5.out.rb) ?_
  rintro w6-hm -
  have B6:=hiD (B5.out.next hm.out)
  clear hm B5
  go_wp2_with fail
  go_at_call 42
  refine okb_of (hiD (Mods.refl _ _)) (hiD B6.out.rb) ?_
  rintro w7-hm -
  have B7:=hiD (B6.out.next hm.out)
  clear hm B6
  go_wp2_with fail
  go_end0
  exact ⟨rfl,_,B7.out,⟨_,_,_,_,_,_,_,_,_,_,_,rfl⟩⟩
 clear HX
 rintro n r2-HX w2 HR2 hm2 -
 have H2:=hiD (H1.out.next HR2.out.par hm2.out)
 clear HR2 hm2 H1
 have c2:=H2.out.st.own.cell (i:=2) rfl
 have f2:=H2.out.st.own.free 2
 have c0:=H2.out.st.own.cell (i:=0) rfl
 have f0:=H2.out.st.own.free 0
 have hl:=H2.out.st.own.lt
 go_wp2_with fail
 have HQ:=((H2.out.st.putMods 2 (.string ⟨n.toArray⟩)).trans ((H2.out.put (ds:=_) 2 (.string ⟨n.toArray⟩) rfl).st.putMods 0 (.int .i64 2)))
 have H3:=hiD ((H2.out.put (ds:=_) 2 (.string ⟨n.toArray⟩) rfl).put (ds:=[.int .i64 2,.int .i64 ta,.string ⟨n.toArray⟩,.pointer none,.pointer none,.slice none 0 0,.slice none 0 0]) 0 (.int .i64 2) rfl)
 obtain ⟨w3,hw⟩:∃ q,q=((w2.setCell ⟨sb,2,none⟩ (.string ⟨n.toArray⟩)).setCell ⟨sb,0,none⟩ (.int .i64 2)):=⟨_,rfl⟩
 clear HQ
 rw [← hw] at H3 ⊢
 clear hw hl H2 c2 f2 c0 f0
 go_at_call 78
 refine see_of (s:=[40]) (hiD (Mods.refl _ _)) (hiD H3.out.rd) HX ?_ ?_
 ·clear HX
  rintro-HX w4 HR hm -
  have H4:=hiD (H3.out.next HR.out.par (mods_b hm.out))
  clear HR hm H3
  have c1:=H4.out.st.own.cell (i:=1) rfl
  have c2:=H4.out.st.own.cell (i:=2) rfl
  have HN4:=hiD (H4.out.next (H4.out.par.mods (Mods.refl None w4).drew) (mods_b (Mods.refl None w4).drew))
  go_wp2_with fail
  rcases bind_cases HX with ⟨en,ea,hy,rfl⟩|⟨l,r5,hy,HX2⟩
  ·have HC:=hiD (A.args b S 0 r2 _ _ (by omega) HN4.out.rd hy)
   clear hy HX
   go_region_with (first|(go_at_call 137;refine HC.out.mono ?_;rintro e w5 ⟨y5,rfl,⟨oa,on,oc,rfl⟩,hp5,hm5⟩;have hB5:=HN4.out.st.own.mods hm5 (fun e=>Nat.ne_of_gt HN4.out.st.lt e);have c51:=hB5.cell (i:=1) rfl;have c52:=hB5.cell (i:=2) rfl;have c54:=hB5.cell (i:=4) rfl;have c50:=hB5.cell (i:=0) rfl;have f54:=hB5.free 4;have f50:=hB5.free 0;have f52:=hB5.free 2;have hl5:=hB5.lt))
   all_goals
    have BB:=hiD (HN4.out.fail hp5.bad hm5)
    clear hp5 hm5 hB5
    go_wp2
    refine bodyPost_ret (results_none rfl _ _ _) rfl ?_
    exact ⟨rfl,_,call_fail BB.out,⟨_,_,_,_,_,_,_,_,_,_,_,rfl⟩⟩
  ·have HC:=hiD (A.args b S 0 r2 _ _ (by omega) HN4.out.rd hy)
   clear hy HX
   obtain rfl:=(Option.some.inj HX2.out).symm
   go_region_with (first|(go_at_call 137;refine HC.out.mono ?_;rintro e w5 ⟨y5,rfl,⟨vs,hr5,hv5⟩,hp5,hm5⟩;obtain ⟨oa,on,oc,rfl⟩:=RowAt.form hr5;have hB5:=HN4.out.st.own.mods hm5 (fun e=>Nat.ne_of_gt HN4.out.st.lt e);have c51:=hB5.cell (i:=1) rfl;have c52:=hB5.cell (i:=2) rfl;have c54:=hB5.cell (i:=4) rfl;have c50:=hB5.cell (i:=0) rfl;have f54:=hB5.free 4;have f50:=hB5.free 0;have f52:=hB5.free 2;have hl5:=hB5.lt))
   all_goals
    have HG:=hiD (HN4.out.next hp5 hm5)
    have HW5:=hiD hr5
    have HV5:=hiD hv5
    clear hp5 hm5 hr5 hv5 hB5
    go_wp2
    refine bodyPost_ret (results_none rfl _ _ _) rfl ?_
    exact ⟨rfl,_,call_good HG.out HW5.out HV5.out⟩
 clear HX
 rintro-HX w4 HR hm -
 have H4:=hiD (H3.out.next HR.out.par (mods_b hm.out))
 clear HR hm H3
 go_wp2_with fail
 go_at_call 46
 refine take_of (s:=[91]) (hiD (Mods.refl _ _)) (hiD H4.out.rd) HX ?_ ?_
 ·clear HX
  rintro-HX w5 HR hm -
  have H5:=hiD (H4.out.next HR.out.par hm.out)
  clear HR hm H4
  go_wp2_with fail
  go_at_call 111
  refine bind_of (hiD (Mods.refl _ _)) (hiD H5.out.rd) HX (fun y hy=>A.expr b S 0 1 r2.tail w5 y (by omega) (by omega) H5.out.rd hy) ?_ ?_
  ·rintro en ea rfl xv w6 ⟨p6,rfl⟩ HB hm -
   have B6:=hiD (H5.out.fail HB.out.bad hm.out)
   clear HB hm H5 HX
   have c0:=B6.out.st.own.cell (i:=0) rfl
   have f0:=B6.out.st.own.free 0
   have c3:=B6.out.st.own.cell (i:=3) rfl
   have f3:=B6.out.st.own.free 3
   have hl:=B6.out.st.own.lt
   go_wp2_with fail
   have HQ:=((B6.out.st.putMods 0 (.int .i64 3)).trans ((B6.out.put (ds:=_) 0 (.int .i64 3) rfl).st.putMods 3 (.pointer p6)))
   have B7:=hiD ((B6.out.put (ds:=_) 0 (.int .i64 3) rfl).put (ds:=[.int .i64 3,.int .i64 ta,.string ⟨n.toArray⟩,.pointer p6,.pointer none,.slice none 0 0,.slice none 0 0]) 3 (.pointer p6) rfl)
   obtain ⟨w7,hw⟩:∃ q,q=((w6.setCell ⟨sb,0,none⟩ (.int .i64 3)).setCell ⟨sb,3,none⟩ (.pointer p6)):=⟨_,rfl⟩
   clear HQ
   rw [← hw] at B7 ⊢
   clear hw hl B6 c0 f0 c3 f3
   go_at_call 44
   refine mustb_of (s:=[93]) (hiD (Mods.refl _ _)) (hiD B7.out.rb) ?_
   rintro w8-hm -
   have B8:=hiD (B7.out.next hm.out)
   clear hm B7
   go_wp2_with fail
   go_at_call 44
   refine mustb_of (s:=[61]) (hiD (Mods.refl _ _)) (hiD B8.out.rb) ?_
   rintro w9-hm -
   have B9:=hiD (B8.out.next hm.out)
   clear hm B8
   go_wp2_with fail
   go_at_call 42
   refine okb_of (hiD (Mods.refl _ _)) (hiD B9.out.rb) ?_
   rintro w10-hm -
   have B10:=hiD (B9.out.next hm.out)
   clear hm B9
   go_wp2_with fail
   go_end0
   exact ⟨rfl,_,B10.out,⟨_,_,_,_,_,_,_,_,_,_,_,rfl⟩⟩
  clear HX
  rintro iv r6-HX xv w6 hv HR hm -
  obtain ⟨g6,rfl⟩:=ExAt.ptr hv
  have HI6:=hiD (show ExAt w6 S iv _ from hv)
  have H6:=hiD (H5.out.next HR.out.par hm.out)
  clear hm HR hv H5
  have c0:=H6.out.st.own.cell (i:=0) rfl
  have f0:=H6.out.st.own.free 0
  have c3:=H6.out.st.own.cell (i:=3) rfl
  have f3:=H6.out.st.own.free 3
  have hl:=H6.out.st.own.lt
  go_wp2_with fail
  have HQ:=((H6.out.st.putMods 0 (.int .i64 3)).trans ((H6.out.put (ds:=_) 0 (.int .i64 3) rfl).st.putMods 3 (.pointer (some ⟨g6,0,none⟩))))
  have HI7:=hiD (HI6.out.mods HQ)
  have H7:=hiD ((H6.out.put (ds:=_) 0 (.int .i64 3) rfl).put (ds:=[.int .i64 3,.int .i64 ta,.string ⟨n.toArray⟩,.pointer (some ⟨g6,0,none⟩),.pointer none,.slice none 0 0,.slice none 0 0]) 3 (.pointer (some ⟨g6,0,none⟩)) rfl)
  obtain ⟨w7,hw⟩:∃ q,q=((w6.setCell ⟨sb,0,none⟩ (.int .i64 3)).setCell ⟨sb,3,none⟩ (.pointer (some ⟨g6,0,none⟩))):=⟨_,rfl⟩
  clear HQ
  rw [← hw] at H7 HI7 ⊢
  clear hw hl H6 HI6 c0 f0 c3 f3
  go_at_call 44
  refine must_of (s:=[93]) (hiD (Mods.refl _ _)) (hiD H7.out.rd) HX ?_ ?_
  ·rintro en ea rfl w8 HB hm -
   have B8:=hiD (H7.out.fail HB.out.bad hm.out)
   clear HB hm HI7 H7 HX
   go_wp2_with fail
   go_at_call 44
   refine mustb_of (s:=[61]) (hiD (Mods.refl _ _)) (hiD B8.out.rb) ?_
   rintro w9-hm -
   have B9:=hiD (B8.out.next hm.out)
   clear hm B8
   go_wp2_with fail
   go_at_call 42
   refine okb_of (hiD (Mods.refl _ _)) (hiD B9.out.rb) ?_
   rintro w10-hm -
   have B10:=hiD (B9.out.next hm.out)
   clear hm B9
   go_wp2_with fail
   go_end0
   exact ⟨rfl,_,B10.out,⟨_,_,_,_,_,_,_,_,_,_,_,rfl⟩⟩
  clear HX
  rintro r8-HX w8 HR hm -
  have H8:=hiD (H7.out.next HR.out.par hm.out)
  have HI8:=hiD (HI7.out.mods (H7.out.st.bMods hm.out))
  clear hm HR H7 HI7
  go_wp2_with fail
  go_at_call 44
  refine must_of (s:=[61]) (hiD (Mods.refl _ _)) (hiD H8.out.rd) HX ?_ ?_
  ·rintro en ea rfl w9 HB hm -
   have B9:=hiD (H8.out.fail HB.out.bad hm.out)
   clear HB hm HI8 H8 HX
   go_wp2_with fail
   go_at_call 42
   refine okb_of (hiD (Mods.refl _ _)) (hiD B9.out.rb) ?_
   rintro w10-hm -
   have B10:=hiD (B9.out.next hm.out)
   clear hm B9
   go_wp2_with fail
   go_end0
   exact ⟨rfl,_,B10.out,⟨_,_,_,_,_,_,_,_,_,_,_,rfl⟩⟩
  clear HX
  rintro r9-HX w9 HR hm -
  have H9:=hiD (H8.out.next HR.out.par hm.out)
  have HI9:=hiD (HI8.out.mods (H8.out.st.bMods hm.out))
  clear hm HR H8 HI8
  go_wp2_with fail
  go_at_call 42
  refine ok_of (hiD (Mods.refl _ _)) (hiD H9.out.rd) ?_
  rintro w10 HR hm -
  have H10:=hiD (H9.out.next HR.out.par (mods_b hm.out))
  have HI10:=hiD (HI9.out.mods (H9.out.st.bMods (mods_b hm.out)))
  clear hm HR H9 HI9
  go_wp2_with fail
  go_at_call 111
  refine bind_of (hiD (Mods.refl _ _)) (hiD H10.out.rd) HX (fun y hy=>A.expr b S 0 0 r9 w10 y (by omega) (by omega) H10.out.rd hy) ?_ ?_
  ·rintro en ea rfl xv w11 ⟨p11,rfl⟩ HB hm -
   have B11:=hiD (H10.out.fail HB.out.bad hm.out)
   clear HB hm HI10 H10 HX
   have c4:=B11.out.st.own.cell (i:=4) rfl
   have f4:=B11.out.st.own.free 4
   have hl:=B11.out.st.own.lt
   go_wp2_with fail
   have HQ:=(B11.out.st.putMods 4 (.pointer p11))
   have B12:=hiD (B11.out.put (ds:=[.int .i64 3,.int .i64 ta,.string ⟨n.toArray⟩,.pointer (some ⟨g6,0,none⟩),.pointer p11,.slice none 0 0,.slice none 0 0]) 4 (.pointer p11) rfl)
   obtain ⟨w12,hw⟩:∃ q,q=(w11.setCell ⟨sb,4,none⟩ (.pointer p11)):=⟨_,rfl⟩
   clear HQ
   rw [← hw] at B12 ⊢
   clear hw hl B11 c4 f4
   go_end0
   exact ⟨rfl,_,B12.out,⟨_,_,_,_,_,_,_,_,_,_,_,rfl⟩⟩
  clear HX
  rintro v rz-HX xv w11 hv HR hm -
  obtain ⟨g11,rfl⟩:=ExAt.ptr hv
  have HV11:=hiD (show ExAt w11 S v _ from hv)
  have H11:=hiD (H10.out.next HR.out.par hm.out)
  have HI11:=hiD (HI10.out.mods (H10.out.st.bMods hm.out))
  clear hm HR hv H10 HI10
  have c4:=H11.out.st.own.cell (i:=4) rfl
  have f4:=H11.out.st.own.free 4
  have hl:=H11.out.st.own.lt
  go_wp2_with fail
  have HQ:=(H11.out.st.putMods 4 (.pointer (some ⟨g11,0,none⟩)))
  have HI12:=hiD (HI11.out.mods HQ)
  have HV12:=hiD (HV11.out.mods HQ)
  have H12:=hiD (H11.out.put (ds:=[.int .i64 3,.int .i64 ta,.string ⟨n.toArray⟩,.pointer (some ⟨g6,0,none⟩),.pointer (some ⟨g11,0,none⟩),.slice none 0 0,.slice none 0 0]) 4 (.pointer (some ⟨g11,0,none⟩)) rfl)
  obtain ⟨w12,hw⟩:∃ q,q=(w11.setCell ⟨sb,4,none⟩ (.pointer (some ⟨g11,0,none⟩))):=⟨_,rfl⟩
  clear HQ
  rw [← hw] at H12 HI12 HV12 ⊢
  clear hw hl H11 HI11 HV11 c4 f4
  obtain rfl:=(Option.some.inj HX.out).symm
  go_end0
  refine ⟨rfl,_,H12.out,?_⟩
  simp only [StAt]
  exact ⟨_,_,rfl,HI12.out,HV12.out⟩
 clear HX
 rintro-HX w5 HR hm -
 have H5:=hiD (H4.out.next HR.out.par (mods_b hm.out))
 clear HR hm H4
 go_wp2_with fail
 go_at_call 44
 refine must_of (s:=[61]) (hiD (Mods.refl _ _)) (hiD H5.out.rd) HX ?_ ?_
 ·rintro en ea rfl w6 HB hm -
  have B6:=hiD (H5.out.fail HB.out.bad hm.out)
  clear HB hm H5 HX
  go_wp2_with fail
  go_at_call 42
  refine okb_of (hiD (Mods.refl _ _)) (hiD B6.out.rb) ?_
  rintro w7-hm -
  have B7:=hiD (B6.out.next hm.out)
  clear hm B6
  go_wp2_with fail
  go_end0
  exact ⟨rfl,_,B7.out,⟨_,_,_,_,_,_,_,_,_,_,_,rfl⟩⟩
 clear HX
 rintro r6-HX w6 HR hm -
 have H6:=hiD (H5.out.next HR.out.par hm.out)
 clear hm HR H5
 go_wp2_with fail
 go_at_call 42
 refine ok_of (hiD (Mods.refl _ _)) (hiD H6.out.rd) ?_
 rintro w7 HR hm -
 have H7:=hiD (H6.out.next HR.out.par (mods_b hm.out))
 clear hm HR H6
 go_wp2_with fail
 go_at_call 111
 refine bind_of (hiD (Mods.refl _ _)) (hiD H7.out.rd) HX (fun y hy=>A.expr b S 0 0 r6 w7 y (by omega) (by omega) H7.out.rd hy) ?_ ?_
 ·rintro en ea rfl xv w8 ⟨p8,rfl⟩ HB hm -
  have B8:=hiD (H7.out.fail HB.out.bad hm.out)
  clear HB hm H7 HX
  have c4:=B8.out.st.own.cell (i:=4) rfl
  have f4:=B8.out.st.own.free 4
  have hl:=B8.out.st.own.lt
  go_wp2_with fail
  have HQ:=(B8.out.st.putMods 4 (.pointer p8))
  have B9:=hiD (B8.out.put (ds:=[.int .i64 2,.int .i64 ta,.string ⟨n.toArray⟩,.pointer none,.pointer p8,.slice none 0 0,.slice none 0 0]) 4 (.pointer p8) rfl)
  obtain ⟨w9,hw⟩:∃ q,q=(w8.setCell ⟨sb,4,none⟩ (.pointer p8)):=⟨_,rfl⟩
  clear HQ
  rw [← hw] at B9 ⊢
  clear hw hl B8 c4 f4
  go_end0
  exact ⟨rfl,_,B9.out,⟨_,_,_,_,_,_,_,_,_,_,_,rfl⟩⟩
 clear HX
 rintro v rz-HX xv w8 hv HR hm -
 obtain ⟨g8,rfl⟩:=ExAt.ptr hv
 have HV8:=hiD (show ExAt w8 S v _ from hv)
 have H8:=hiD (H7.out.next HR.out.par hm.out)
 clear hm HR hv H7
 have c4:=H8.out.st.own.cell (i:=4) rfl
 have f4:=H8.out.st.own.free 4
 have hl:=H8.out.st.own.lt
 go_wp2_with fail
 have HQ:=(H8.out.st.putMods 4 (.pointer (some ⟨g8,0,none⟩)))
 have HV9:=hiD (HV8.out.mods HQ)
 have H9:=hiD (H8.out.put (ds:=[.int .i64 2,.int .i64 ta,.string ⟨n.toArray⟩,.pointer none,.pointer (some ⟨g8,0,none⟩),.slice none 0 0,.slice none 0 0]) 4 (.pointer (some ⟨g8,0,none⟩)) rfl)
 obtain ⟨w9,hw⟩:∃ q,q=(w8.setCell ⟨sb,4,none⟩ (.pointer (some ⟨g8,0,none⟩))):=⟨_,rfl⟩
 clear HQ
 rw [← hw] at H9 HV9 ⊢
 clear hw hl H8 HV8 c4 f4
 obtain rfl:=(Option.some.inj HX.out).symm
 go_end0
 refine ⟨rfl,_,H9.out,?_⟩
 simp only [StAt]
 exact ⟨_,rfl,HV9.out⟩
end Go.Proofs.YtdgedlhefjmcpaaGreatDoor.TreeP.R

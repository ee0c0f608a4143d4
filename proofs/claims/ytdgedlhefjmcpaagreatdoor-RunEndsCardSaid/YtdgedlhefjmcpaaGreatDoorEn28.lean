/- The document's runner: an array's number. Conditions: what it has lies. The document's runner: ops of two sides. Conditions: what it has lies. -/
import Derived.Test.YtdgedlhefjmcpaaGreatDoorEn27
namespace Go.Proofs.YtdgedlhefjmcpaaGreatDoor.TreeP.R
open Go.RowKit Go.Proofs.YtdgedlhefjmcpaaGreatDoor.Wo Go.Proofs.YtdgedlhefjmcpaaGreatDoor.TreeP Go.Proofs.YtdgedlhefjmcpaaGreatDoor.AluP
set_option linter.unusedVariables false
set_option linter.unusedSimpArgs false
theorem Pre.left {L:List Fn} {K f:Nat} (hL:∀ x∈L,FewSs K x.body) (hN:∀ x∈L,NumSts x.body) {W w:World} {b:Nat} {P M M':Nat→Prop} {A A':List (Nat×Nat)} {s s1:RS} {N:Nm} {F:Fr} {nb n:Nat} {lv:Value} {x:Ex} {t:Int} {vx:V} {c B d:Nat}
 (h:Pre L W b P M A s N F nb n lv) (hk:exprK L N x=.ok t) (hf:Fit x d) (hy:evE L f s F x=some (.ok vx,s1)) (hE:Ext None M M' W w) (hw:WAt w b P M' A' s1) (hB:s.arrs.length+K*s.fuel+(newsE x+c)≤B) :
 Pre L w b P M' A' s1 N F nb n lv∧s1.arrs.length+K*s1.fuel+c≤B∧VTy s1 t vx∧I64 vx.n:=by
 obtain ⟨h1,h2⟩:=ev_typed h.ty hk hy
 obtain ⟨h3,h4⟩:=(((rg_all hN f).1 s F x h.rs h.fr (fit_num x d hf)) _ hy).1 vx rfl
 have h5:=(paid_all hL f).1 s F x _ hy
 simp only at h5
 exact ⟨h.ext hE hw h2 h4,by omega,h1,h3⟩
set_option maxRecDepth 100000 in
set_option maxHeartbeats 1000000 in
theorem ew_item {L:List Fn} {K f:Nat} (hL:∀ x∈L,FewSs K x.body) (hN:∀ x∈L,NumSts x.body) (ih:EwC L K f) (a:Int) (x i:Ex):EwAt L K (f+1) (.item a x i):=by
 intro b P M A s N F nb n la ln lc W v t r h hg ht hfew he hr
 have hmf:∀ (fn:Go.Fn) (first cap:Array Value) (w:World),(Instr.makeFunc fn first cap).run Tryz.prog w=.ok (.func fn first cap) w:=fun _ _ _ _=>rfl
 simp only [ExAt] at he
 obtain ⟨vx,vi,⟨g,rfl,hpg,hv⟩,hx,hi⟩:=he
 have HP:=hiD h
 obtain ⟨W3,hW3⟩:∃ W3,W3=boxed W b (.slice la ln lc) nb (.pointer (some ⟨g,0,none⟩)):=⟨_,rfl⟩
 have HM:Hid (Mods None W W3):=hiD (by rw [hW3];exact boxed_mods _ _ _ _ _)
 have HB:Hid (Bz W W3 P M b (.slice la ln lc) nb (.pointer (some ⟨g,0,none⟩)) W.heap.size):=hiD (by rw [hW3];exact Bz.new _ _ _ h.wd.old h.wd.given)
 have HP3:=hiD (h.quiet HM.out)
 obtain ⟨av,iv,k0,ov,hb,-⟩:=HP3.out.wd.blk
 have w4:W3.cell? ⟨b,4,none⟩=some (.int .i64 0):=hb.cell rfl
 have d0:W3.cell? ⟨g,0,none⟩=some (.int .i64 8):=HM.out.cellOf (hv.cell rfl) (fun f=>f)
 have q4:=HB.out.c4.cell (i:=0) rfl
 have q5:=HB.out.c5.cell (i:=0) rfl
 have q6:=HB.out.c6.cell (i:=0) rfl
 have q7:=HB.out.c7.cell (i:=0) rfl
 clear hb
 obtain ⟨d,hd⟩:=hg
 simp only [Fit] at hd
 obtain ⟨d2,hd2⟩:∃ d',Fit x d':=by
  have:=hd.2.1
  split at this
  · exact ⟨_,this⟩
  · split at this
    · exact ⟨_,this.2⟩
    · exact ⟨_,this⟩
 have hdi:=hd.2.2
 simp only [exprK] at ht
 obtain ⟨tx,ht1,ht⟩:=bindK_ok2 ht
 obtain ⟨u0,ht2,ht⟩:=bindK_ok2 ht
 obtain rfl:=wantT_ok ht2
 have ht:bindK (exprK L N i) (fun u=>bindK (wantT i 1 u) fun _=>(.ok 1:CK Int))=.ok t:=ht
 obtain ⟨ti,ht3,ht⟩:=bindK_ok2 ht
 obtain ⟨u1,ht4,ht⟩:=bindK_ok2 ht
 obtain rfl:=wantT_ok ht4
 have ht:(1:Int)=t:=Except.ok.inj ht
 subst ht
 obtain ⟨xg,rfl⟩:=hx.ptr
 obtain ⟨ig,rfl⟩:=hi.ptr
 have hpg:P g:=Classical.not_not.1 hpg
 have d5:W3.cell? ⟨g,5,none⟩=some (.pointer (some ⟨xg,0,none⟩)):=HM.out.cellOf (hv.cell rfl) (fun f=>f)
 simp only [evE] at hr
 have hfew2:s.arrs.length+K*s.fuel+(newsE x+newsE i)≤1000000000000:=by simp only [newsE] at hfew;omega
 have hfewx:s.arrs.length+K*s.fuel+newsE x≤1000000000000:=by omega
 obtain ⟨y,hy⟩:∃ y,evE L f s F x=some y:=by
  cases hy:evE L f s F x with
  | none=>rw [hy] at hr;cases hr
  | some y=>exact ⟨y,rfl⟩
 have HP4:=hiD (HP3.out.quiet ((Mods.refl None W3).drew))
 have HL:=hiD (left_of (R:=ResE W3.drew b P M A 2 y) HB.out d5 ((ih x b P M A s N F nb n la ln lc W3.drew _ 2 y HP4.out ⟨d2,hd2⟩ ht1 hfewx (ew_far hx HM.out.drew) hy).mono (fun e w h=>h.int)))
 have HV:=hiD (fun (w:World) (M':Nat→Prop) (hE:Ext None M M' W3.drew w)=>(⟨(HB.out.step (Ext.quiet (Mods.refl _ _).drew)).step hE,blk_far (hv.mods HM.out.drew (fun f=>f)) hpg hE h.wd.off,(ew_far hi HM.out.drew).ext hE (fun k hk=>hk.elim (fun f=>f.elim) (h.wd.off k))⟩:Bz W w P M' b (.slice la ln lc) nb (.pointer (some ⟨g,0,none⟩)) W.heap.size∧Blk w g (cells8 8 a 0 [] [] (.pointer (some ⟨xg,0,none⟩)) (.pointer (some ⟨ig,0,none⟩)) nilS) 195∧ExAt w (fun k=>¬ P k) i (.pointer (some ⟨ig,0,none⟩))))
 have HE0:Hid (Ext None M M W W3.drew):=hiD (Ext.quiet HM.out.drew)
 clear h hd ht2 ht4 hfew hfewx hv hpg hx hi d5 HP3
 unfold boxed at hW3
 go_enter Tryz.func146,Tryz.ntmps146
 go_upto_region 1 with (fail)
 rw [← hW3]
 clear hW3
 go_wp2_with fail
 go_at_call 164
 refine HL.out.mono ?_
 rintro e w ⟨m,rfl,hR⟩
 rw [hy] at hr
 clear w4 d0 q4 q5 q6 q7 HL
 obtain ⟨y,s1⟩:=y
 cases y with
 | error sg =>
   obtain rfl:=(Option.some.inj hr).symm
   cases sg with
   | ret k=>exact hR.elim
   | stop k =>
     obtain ⟨n',M',he,-,-,hW,hE⟩:=hR
     obtain ⟨hB5,hv5,-⟩:=HV.out w M' hE
     have hB6:=hB5.step (Ext.quiet (T:=None) (Mods.refl None w).drew)
     have q4:=hB5.c4.cell (i:=0) rfl
     have q5:=hB5.c5.cell (i:=0) rfl
     have q6:=hB5.c6.cell (i:=0) rfl
     have q7:=hB5.c7.cell (i:=0) rfl
     have d6:w.cell? ⟨g,6,none⟩=some (.pointer (some ⟨ig,0,none⟩)):=hv5.cell rfl
     have HW:=hiD (hW.quiet (Mods.refl None w).drew)
     have HE:=hiD (HE0.out.trans (hE.trans (Ext.quiet (Mods.refl None w).drew)))
     have HB6:=hiD hB6
     obtain ⟨W4,hW4⟩:∃ W4,W4=w.drew:=⟨_,rfl⟩
     rw [← hW4] at HW HE HB6
     clear hW hE hB5 hB6 hv5 HV ih ht1 ht3 hy he
     go_wp2_with fail
     go_still_tail 7,(by kernel_rfl)
     change wpList _ _ _ _ _ w.drew
     rw [← hW4]
     clear hW4 q4 q5 q6 q7 d6
     go_wp2_with fail
     go_at_call 146
     refine (ex_ended la ln lc b nb ig P M' k s1.out W4 HW.out).mono ?_
     rintro e w5 ⟨rfl,hm⟩
     obtain ⟨av,iv,k0,c,ov,m9,r9,hb,-⟩:=(HW.out.quiet hm).blk
     have w4:w5.cell? ⟨b,4,none⟩=some (.int .i64 k):=hb.cell rfl
     have hk:(k==0)=false:=by have:=HW.out.way;simp;omega
     have q4:=(HB6.out.step (Ext.quiet (T:=None) hm)).c4.cell (i:=0) rfl
     have HF:=hiD (show ResE W b P M A 1 (.error (.stop k),s1) (.returned (.int .i64 0)) w5 from ⟨0,M',rfl,i64_zero,fun _=>rfl,HW.out.quiet hm,HE.out.trans (Ext.quiet hm)⟩)
     clear hb hm HW HE HB6
     go_wp2_with fail
     go_ret
     exact HF.out
 | ok v1 =>
   obtain ⟨he,M',A',h1,h2,h3⟩:=hR
   simp only [Ending.returned.injEq,Value.int.injEq,true_and] at he
   obtain ⟨hP5,hfew5,hty,-⟩:=Pre.left hL hN HP4.out ht1 hd2 hy h2 h1 hfew2
   obtain ⟨j,hj,hjl⟩:∃ j,v1.arr=some j∧j<s1.arrs.length:=by
    rcases hty with ⟨h4,-⟩|⟨-,-,i,hi,hil⟩
    · cases h4
    · exact ⟨i,hi,hil⟩
   have hm:m=((j+1:Nat):Int):=by
    rw [he]
    unfold rep
    rw [hj]
    simp
   subst hm
   obtain ⟨j1,hj1⟩:∃ j1,j1=j+1:=⟨_,rfl⟩
   rw [← hj1]
   obtain ⟨hB5,hv5,hi5⟩:=HV.out w M' h2
   have q4:=hB5.c4.cell (i:=0) rfl
   have q5:=hB5.c5.cell (i:=0) rfl
   have q6:=hB5.c6.cell (i:=0) rfl
   have q7:=hB5.c7.cell (i:=0) rfl
   have d6:w.cell? ⟨g,6,none⟩=some (.pointer (some ⟨ig,0,none⟩)):=hv5.cell rfl
   have hr:bindR (evE L f s1 F i) (fun k s=>bindR (placeR s v1 k.n) fun n s=>okR (numV n) s)=some r:=hr
   obtain ⟨z,hz⟩:∃ z,evE L f s1 F i=some z:=by
    cases hz:evE L f s1 F i with
    | none=>rw [hz] at hr;cases hr
    | some z=>exact ⟨z,rfl⟩
   have HC:=hiD (ih i b P M' A' s1 N F nb n la ln lc w.drew _ 1 z (hP5.quiet (Mods.refl None w).drew) ⟨_,hdi⟩ ht3 hfew5 (ew_far hi5 (Mods.refl None w).drew) hz)
   have HB6:=hiD (hB5.step (Ext.quiet (T:=None) (Mods.refl None w).drew))
   have HE:=hiD (HE0.out.trans (h2.trans (Ext.quiet (Mods.refl None w).drew)))
   have HA:=hiD h3
   have HTY:=hiD (fun v2 s2 (e:z=(.ok v2,s2))=>ev_typed hP5.ty ht3 (by rw [hz,e]))
   obtain ⟨W4,hW4⟩:∃ W4,W4=w.drew:=⟨_,rfl⟩
   rw [← hW4] at HC HE HB6
   have HX:=hiD (And.intro hj (And.intro hjl hj1))
   rw [hz] at hr
   have HR:=hiD hr
   clear hB5 hv5 hi5 HV h1 h2 h3 hP5 hfew5 hty hz hr ih he hy ht1 ht3 hj hjl hj1 hd2 hdi HP4
   go_wp2_with fail
   go_still_tail 7,(by kernel_rfl)
   change wpList _ _ _ _ _ w.drew
   rw [← hW4]
   clear hW4 q4 q5 q6 q7 d6
   go_wp2_with fail
   go_at_call 146
   refine HC.out.mono ?_
   intro e w5 hR2
   clear HC
   obtain ⟨z,s2⟩:=z
   cases z with
   | error sg =>
     have hr:=HR.out
     obtain rfl:=(Option.some.inj hr).symm
     cases sg with
     | ret k=>exact hR2.elim
     | stop k =>
       obtain ⟨n2,M2,rfl,-,-,hW,hE2⟩:=hR2
       obtain ⟨av,iv,k0,c,ov,m9,r9,hb,-⟩:=hW.blk
       have w4:w5.cell? ⟨b,4,none⟩=some (.int .i64 k):=hb.cell rfl
       have hk:(k==0)=false:=by have:=hW.way;simp;omega
       have q4:=(HB6.out.step hE2).c4.cell (i:=0) rfl
       have HF:=hiD (show ResE W b P M A 1 (.error (.stop k),s2) (.returned (.int .i64 0)) w5 from ⟨0,M2,rfl,i64_zero,fun _=>rfl,hW,HE.out.trans hE2⟩)
       clear hb hW hE2 HE HB6 hr HR HTY
       go_wp2_with fail
       go_ret
       exact HF.out
   | ok v2 =>
     obtain ⟨rfl,M2,A2,k1,k2,k3⟩:=hR2
     obtain ⟨hv2,hon⟩:=HTY.out v2 s2 rfl
     obtain ⟨hj,hjl,hj1⟩:=HX.out
     rw [rep_num hv2]
     have hr:bindR (placeR s2 v1 v2.n) (fun n s=>okR (numV n) s)=some r:=HR.out
     have hj2:j<s2.arrs.length:=Nat.lt_of_lt_of_le hjl hon
     obtain ⟨l2,hl2⟩:∃ l2,s2.arrs[j]?=some l2:=⟨_,List.getElem?_eq_getElem hj2⟩
     have ha:arrOf s2 v1=l2:=by
        unfold arrOf
        rw [hj]
        simp only
        rw [List.getD_eq_getElem?_getD,hl2]
        rfl
     unfold placeR at hr
     rw [ha] at hr
     obtain ⟨av,iv,k0,ov,hb,-⟩:=k1.blk
     have w4:w5.cell? ⟨b,4,none⟩=some (.int .i64 0):=hb.cell rfl
     have q4:=(HB6.out.step k2).c4.cell (i:=0) rfl
     have K1:=hiD k1
     have HE5:=hiD (HE.out.trans k2)
     have HA5:=hiD (HA.out.trans k3)
     obtain ⟨g3,e1,e2,-⟩:=k1.arr j l2 hl2
     by_cases hn:v2.n<0∨v2.n≥l2.length
     · rw [if_pos hn] at hr
       obtain rfl:=(Option.some.inj hr).symm
       have HC2:=hiD (item_out None b P M2 A2 s2 j j1 l2 v2.n w5 K1.out hl2 hj1 hn)
       clear hb k1 k2 k3 hr HR HTY HX hj hjl hj1 ha hl2 hj2 hn e1 e2 hv2 hon HE HA HB6
       go_wp2_with fail
       go_at_call 147
       refine HC2.out.mono ?_
       rintro e w6 ⟨rfl,x1,x2⟩
       have HF:=hiD (show ResE W b P M A 1 (.error (.stop 3),s2) (.returned (.int .i64 0)) w6 from ⟨0,M2,rfl,i64_zero,fun _=>rfl,x1,HE5.out.trans x2⟩)
       clear x1 x2 HC2
       go_wp2_with fail
       go_ret
       exact HF.out
     · rw [if_neg hn] at hr
       obtain rfl:=(Option.some.inj hr).symm
       have hn2:0≤v2.n∧v2.n<l2.length:=by omega
       have HC2:=hiD (item_in b P M2 A2 s2 j j1 l2 v2.n w5 K1.out hl2 hj1 hn2)
       obtain ⟨p2,hp2⟩:∃ p2,p2=v2.n.toNat:=⟨_,rfl⟩
       have c3:w5.cell? ⟨g3,p2,none⟩=some (.int .i64 (l2.getD p2 0)):=by
         have hlt:p2<l2.length:=by omega
         refine e2.cell ?_
         rw [List.getElem?_map,List.getElem?_eq_getElem hlt,List.getD_eq_getElem?_getD,List.getElem?_eq_getElem hlt]
         rfl
       rw [← hp2] at HC2
       have HF:=hiD (show ResE W b P M A 1 (.ok (numV (l2.getD p2 0)),s2) (.returned (.int .i64 (l2.getD p2 0))) w5 from ⟨rfl,M2,A2,K1.out,HE5.out,HA5.out⟩)
       rw [hp2] at HF
       have HP2:=hiD hp2
       have E1:=hiD e1
       clear hb k1 k2 k3 hr HR HTY HX hj hjl hj1 ha hl2 hj2 hn e1 e2 hv2 hon HE HA HB6 hn2 hp2
       go_wp2_with fail
       go_at_call 147
       refine HC2.out.mono ?_
       rintro e w6 ⟨⟨g4,y1,rfl⟩,rfl⟩
       obtain rfl:g4=g3:=by
         have:=E1.out
         rw [y1] at this
         simpa using this
       clear HC2 y1
       go_wp2_with fail
       go_ret
       have hf:=HF.out
       rw [← HP2.out] at hf
       first
         | exact hf
         | (rw [HP2.out] at hf ⊢;exact hf)
theorem op_high {op:List UInt8} (h:∃ k,2≤k∧k<6∧op∈levelList.getD k []):(op==[38,38])=false∧(op==[124,124])=false:=by
 obtain ⟨k,h2,h6,hk⟩:=h
 obtain rfl|rfl|rfl|rfl:k=2∨k=3∨k=4∨k=5:=by omega
 all_goals
  simp [levelList] at hk
  first
   | (rcases hk with h|h <;> subst h <;> decide)
   | (rcases hk with h|h|h <;> subst h <;> decide)
   | (rcases hk with h|h|h|h <;> subst h <;> decide)
set_option maxRecDepth 100000 in
set_option maxHeartbeats 1000000 in
theorem ew_op {L:List Fn} {K f:Nat} (hL:∀ x∈L,FewSs K x.body) (hN:∀ x∈L,NumSts x.body) (ih:EwC L K f) (a:Int) (op:List UInt8) (hop:∃ k,2≤k∧k<6∧op∈levelList.getD k []) (x i:Ex):EwAt L K (f+1) (.bin a op x i):=by
 intro b P M A s N F nb n la ln lc W v t r h hg ht hfew he hr
 have hmf:∀ (fn:Go.Fn) (first cap:Array Value) (w:World),(Instr.makeFunc fn first cap).run Tryz.prog w=.ok (.func fn first cap) w:=fun _ _ _ _=>rfl
 simp only [ExAt] at he
 obtain ⟨vx,vi,⟨g,rfl,hpg,hv⟩,hx,hi⟩:=he
 have HP:=hiD h
 obtain ⟨W3,hW3⟩:∃ W3,W3=boxed W b (.slice la ln lc) nb (.pointer (some ⟨g,0,none⟩)):=⟨_,rfl⟩
 have HM:Hid (Mods None W W3):=hiD (by rw [hW3];exact boxed_mods _ _ _ _ _)
 have HB:Hid (Bz W W3 P M b (.slice la ln lc) nb (.pointer (some ⟨g,0,none⟩)) W.heap.size):=hiD (by rw [hW3];exact Bz.new _ _ _ h.wd.old h.wd.given)
 have HP3:=hiD (h.quiet HM.out)
 obtain ⟨av,iv,k0,ov,hb,-⟩:=HP3.out.wd.blk
 have w4:W3.cell? ⟨b,4,none⟩=some (.int .i64 0):=hb.cell rfl
 have d0:W3.cell? ⟨g,0,none⟩=some (.int .i64 3):=HM.out.cellOf (hv.cell rfl) (fun f=>f)
 have q4:=HB.out.c4.cell (i:=0) rfl
 have q5:=HB.out.c5.cell (i:=0) rfl
 have q6:=HB.out.c6.cell (i:=0) rfl
 have q7:=HB.out.c7.cell (i:=0) rfl
 clear hb
 obtain ⟨n1,n2⟩:=op_high hop
 obtain ⟨d,hd⟩:=hg
 simp only [Fit] at hd
 obtain ⟨d2,hd2⟩:∃ d',Fit x d':=by
  have:=hd.2.1
  split at this
  · exact ⟨_,this.2⟩
  · exact ⟨_,this⟩
 obtain ⟨d3,hdi⟩:∃ d',Fit i d':=by
  have:=hd.2.2
  split at this
  · exact ⟨_,this.2⟩
  · exact ⟨_,this⟩
 simp only [exprK] at ht
 obtain ⟨tx,ht1,ht⟩:=bindK_ok2 ht
 obtain ⟨u0,ht2,ht⟩:=bindK_ok2 ht
 obtain rfl:=wantT_ok ht2
 have ht:bindK (exprK L N i) (fun u=>bindK (wantT i 1 u) fun _=>(.ok 1:CK Int))=.ok t:=ht
 obtain ⟨ti,ht3,ht⟩:=bindK_ok2 ht
 obtain ⟨u1,ht4,ht⟩:=bindK_ok2 ht
 obtain rfl:=wantT_ok ht4
 have ht:(1:Int)=t:=Except.ok.inj ht
 subst ht
 obtain ⟨xg,rfl⟩:=hx.ptr
 obtain ⟨ig,rfl⟩:=hi.ptr
 have hpg:P g:=Classical.not_not.1 hpg
 have d5:W3.cell? ⟨g,5,none⟩=some (.pointer (some ⟨xg,0,none⟩)):=HM.out.cellOf (hv.cell rfl) (fun f=>f)
 simp only [evE] at hr
 have hno:¬ (op=[38,38]∨op=[124,124]):=by
  rintro (h|h)
  · rw [h] at n1;simp at n1
  · rw [h] at n2;simp at n2
 simp only [if_neg hno] at hr
 have hfew2:s.arrs.length+K*s.fuel+(newsE x+newsE i)≤1000000000000:=by simp only [newsE] at hfew;omega
 have hfewx:s.arrs.length+K*s.fuel+newsE x≤1000000000000:=by omega
 obtain ⟨y,hy⟩:∃ y,evE L f s F x=some y:=by
  cases hy:evE L f s F x with
  | none=>rw [hy] at hr;cases hr
  | some y=>exact ⟨y,rfl⟩
 have HP4:=hiD (HP3.out.quiet ((Mods.refl None W3).drew))
 have HL:=hiD (left_of (R:=ResE W3.drew b P M A 1 y) HB.out d5 ((ih x b P M A s N F nb n la ln lc W3.drew _ 1 y HP4.out ⟨d2,hd2⟩ ht1 hfewx (ew_far hx HM.out.drew) hy).mono (fun e w h=>h.int)))
 have HV:=hiD (fun (w:World) (M':Nat→Prop) (hE:Ext None M M' W3.drew w)=>(⟨(HB.out.step (Ext.quiet (Mods.refl _ _).drew)).step hE,blk_far (hv.mods HM.out.drew (fun f=>f)) hpg hE h.wd.off,(ew_far hi HM.out.drew).ext hE (fun k hk=>hk.elim (fun f=>f.elim) (h.wd.off k))⟩:Bz W w P M' b (.slice la ln lc) nb (.pointer (some ⟨g,0,none⟩)) W.heap.size∧Blk w g (cells8 3 a 0 [] op (.pointer (some ⟨xg,0,none⟩)) (.pointer (some ⟨ig,0,none⟩)) nilS) 195∧ExAt w (fun k=>¬ P k) i (.pointer (some ⟨ig,0,none⟩))))
 have HE0:Hid (Ext None M M W W3.drew):=hiD (Ext.quiet HM.out.drew)
 have HPG:=hiD hpg
 have HOP:=hiD hop
 clear h hd ht2 ht4 hfew hfewx hv hpg hx hi d5 HP3 hop hno
 unfold boxed at hW3
 go_enter Tryz.func146,Tryz.ntmps146
 go_upto_region 1 with (fail)
 rw [← hW3]
 clear hW3
 go_wp2_with fail
 go_at_call 164
 refine HL.out.mono ?_
 rintro e w ⟨m,rfl,hR⟩
 rw [hy] at hr
 clear w4 d0 q4 q5 q6 q7 HL
 obtain ⟨y,s1⟩:=y
 cases y with
 | error sg =>
   obtain rfl:=(Option.some.inj hr).symm
   cases sg with
   | ret k=>exact hR.elim
   | stop k =>
     obtain ⟨n',M',he,-,-,hW,hE⟩:=hR
     obtain ⟨hB5,hv5,-⟩:=HV.out w M' hE
     have hB6:=hB5.step (Ext.quiet (T:=None) (Mods.refl None w).drew)
     have q4:=hB5.c4.cell (i:=0) rfl
     have q5:=hB5.c5.cell (i:=0) rfl
     have q6:=hB5.c6.cell (i:=0) rfl
     have q7:=hB5.c7.cell (i:=0) rfl
     have d4:w.cell? ⟨g,4,none⟩=some (.string ⟨op.toArray⟩):=hv5.cell rfl
     have d6:w.cell? ⟨g,6,none⟩=some (.pointer (some ⟨ig,0,none⟩)):=hv5.cell rfl
     have HW:=hiD (hW.quiet (Mods.refl None w).drew)
     have HE:=hiD (HE0.out.trans (hE.trans (Ext.quiet (Mods.refl None w).drew)))
     have HB6:=hiD hB6
     have HV6:=hiD (hv5.mods (Mods.refl None w).drew (fun f=>f))
     obtain ⟨W4,hW4⟩:∃ W4,W4=w.drew:=⟨_,rfl⟩
     rw [← hW4] at HW HE HB6 HV6
     clear hW hE hB5 hB6 hv5 HV ih ht1 ht3 hy he
     go_wp2_with fail
     go_still_tail 7,(by kernel_rfl)
     change wpList _ _ _ _ _ w.drew
     rw [← hW4]
     clear hW4 q4 q5 q6 q7 d6 d4
     go_wp2_with fail
     go_at_call 146
     refine (ex_ended la ln lc b nb ig P M' k s1.out W4 HW.out).mono ?_
     rintro e w5 ⟨rfl,hm⟩
     obtain ⟨av,iv,k0,c,ov,m9,r9,hb,-⟩:=(HW.out.quiet hm).blk
     have w4:w5.cell? ⟨b,4,none⟩=some (.int .i64 k):=hb.cell rfl
     have hk:(k==0)=false:=by have:=HW.out.way;simp;omega
     have q4:=(HB6.out.step (Ext.quiet (T:=None) hm)).c4.cell (i:=0) rfl
     have q7:=(HB6.out.step (Ext.quiet (T:=None) hm)).c7.cell (i:=0) rfl
     have d4:w5.cell? ⟨g,4,none⟩=some (.string ⟨op.toArray⟩):=hm.cellOf (HV6.out.cell rfl) (fun f=>f)
     have HF:=hiD (show ResE W b P M A 1 (.error (.stop k),s1) (.returned (.int .i64 0)) w5 from ⟨0,M',rfl,i64_zero,fun _=>rfl,HW.out.quiet hm,HE.out.trans (Ext.quiet hm)⟩)
     clear hb hm HW HE HB6 HV6
     go_wp2_with fail
     go_ret
     exact HF.out
 | ok v1 =>
   obtain ⟨he,M',A',h1,h2,h3⟩:=hR
   simp only [Ending.returned.injEq,Value.int.injEq,true_and] at he
   obtain ⟨hP5,hfew5,hty,hi1⟩:=Pre.left hL hN HP4.out ht1 hd2 hy h2 h1 hfew2
   rw [rep_num hty] at he
   subst he
   obtain ⟨hB5,hv5,hi5⟩:=HV.out w M' h2
   have q4:=hB5.c4.cell (i:=0) rfl
   have q5:=hB5.c5.cell (i:=0) rfl
   have q6:=hB5.c6.cell (i:=0) rfl
   have q7:=hB5.c7.cell (i:=0) rfl
   have d4:w.cell? ⟨g,4,none⟩=some (.string ⟨op.toArray⟩):=hv5.cell rfl
   have d6:w.cell? ⟨g,6,none⟩=some (.pointer (some ⟨ig,0,none⟩)):=hv5.cell rfl
   have hr:bindR (evE L f s1 F i) (fun k s=>match twoP op v1.n k.n with
    | some n=>okR (numV n) s
    | none=>stopR 2 s)=some r:=hr
   obtain ⟨z,hz⟩:∃ z,evE L f s1 F i=some z:=by
    cases hz:evE L f s1 F i with
    | none=>rw [hz] at hr;cases hr
    | some z=>exact ⟨z,rfl⟩
   have HC:=hiD (ih i b P M' A' s1 N F nb n la ln lc w.drew _ 1 z (hP5.quiet (Mods.refl None w).drew) ⟨_,hdi⟩ ht3 hfew5 (ew_far hi5 (Mods.refl None w).drew) hz)
   have HB6:=hiD (hB5.step (Ext.quiet (T:=None) (Mods.refl None w).drew))
   have HV6:=hiD (hv5.mods (Mods.refl None w).drew (fun f=>f))
   have HE:=hiD (HE0.out.trans (h2.trans (Ext.quiet (Mods.refl None w).drew)))
   have HA:=hiD h3
   have HOF:=hiD h1.off
   have HI1:=hiD hi1
   have HTY:=hiD (fun v2 s2 (e:z=(.ok v2,s2))=>(⟨(ev_typed hP5.ty ht3 (by rw [hz,e])).1,((((rg_all hN f).1 s1 F i hP5.rs hP5.fr (fit_num i d3 hdi)) _ (by rw [hz,e])).1 v2 rfl).1⟩:VTy s2 1 v2∧I64 v2.n))
   obtain ⟨W4,hW4⟩:∃ W4,W4=w.drew:=⟨_,rfl⟩
   rw [← hW4] at HC HE HB6 HV6
   rw [hz] at hr
   have HR:=hiD hr
   clear hB5 hv5 hi5 HV h1 h2 h3 hP5 hfew5 hty hz hr ih hy ht1 ht3 hd2 hdi HP4 hi1
   go_wp2_with fail
   go_still_tail 7,(by kernel_rfl)
   change wpList _ _ _ _ _ w.drew
   rw [← hW4]
   clear hW4 q4 q5 q6 q7 d6 d4
   go_wp2_with fail
   go_at_call 146
   refine HC.out.mono ?_
   intro e w5 hR2
   clear HC
   obtain ⟨z,s2⟩:=z
   cases z with
   | error sg =>
     have hr:=HR.out
     obtain rfl:=(Option.some.inj hr).symm
     cases sg with
     | ret k=>exact hR2.elim
     | stop k =>
       obtain ⟨n2',M2,rfl,-,-,hW,hE2⟩:=hR2
       obtain ⟨av,iv,k0,c,ov,m9,r9,hb,-⟩:=hW.blk
       have w4:w5.cell? ⟨b,4,none⟩=some (.int .i64 k):=hb.cell rfl
       have hk:(k==0)=false:=by have:=hW.way;simp;omega
       have q4:=(HB6.out.step hE2).c4.cell (i:=0) rfl
       have q7:=(HB6.out.step hE2).c7.cell (i:=0) rfl
       have d4:w5.cell? ⟨g,4,none⟩=some (.string ⟨op.toArray⟩):=(blk_far HV6.out HPG.out hE2 HOF.out).cell rfl
       have HF:=hiD (show ResE W b P M A 1 (.error (.stop k),s2) (.returned (.int .i64 0)) w5 from ⟨0,M2,rfl,i64_zero,fun _=>rfl,hW,HE.out.trans hE2⟩)
       clear hb hW hE2 HE HB6 hr HR HTY HV6
       go_wp2_with fail
       go_ret
       exact HF.out
   | ok v2 =>
     obtain ⟨rfl,M2,A2,k1,k2,k3⟩:=hR2
     obtain ⟨hv2,hi2⟩:=HTY.out v2 s2 rfl
     rw [rep_num hv2]
     have hr:(match twoP op v1.n v2.n with
        | some n=>okR (numV n) s2
        | none=>stopR 2 s2:RM V)=some r:=HR.out
     obtain ⟨av,iv,k0,ov,hb,-⟩:=k1.blk
     have w4:w5.cell? ⟨b,4,none⟩=some (.int .i64 0):=hb.cell rfl
     have q4:=(HB6.out.step k2).c4.cell (i:=0) rfl
     have q7:=(HB6.out.step k2).c7.cell (i:=0) rfl
     have d4:w5.cell? ⟨g,4,none⟩=some (.string ⟨op.toArray⟩):=(blk_far HV6.out HPG.out k2 HOF.out).cell rfl
     have HB7:=hiD (HB6.out.step k2)
     have K1:=hiD k1
     have HE5:=hiD (HE.out.trans k2)
     have HA5:=hiD (HA.out.trans k3)
     have HC2:=hiD (both_any op v1.n v2.n HI1.out hi2 HOP.out w5)
     have HRR:=hiD hr
     clear hb k1 k2 k3 hr HR HTY hv2 hi2 HE HA HB6 HV6
     go_wp2_with fail
     go_at_call 166
     refine HC2.out.mono ?_
     cases h2:twoP op v1.n v2.n with
     | some k =>
       have hr:=HRR.out
       rw [h2] at hr
       obtain rfl:=(Option.some.inj hr).symm
       rintro e w6 ⟨rfl,hm⟩
       have HF:=hiD (show ResE W b P M A 1 (.ok (numV k),s2) (.returned (.int .i64 k)) w6 from ⟨rfl,M2,A2,K1.out.quiet hm,HE5.out.trans (Ext.quiet hm),HA5.out⟩)
       unfold bothV
       clear hr h2 HRR HC2 w4 q4 q7 d4 hm
       go_wp2_with fail
       go_ret
       exact HF.out
     | none =>
       have hr:=HRR.out
       rw [h2] at hr
       obtain rfl:=(Option.some.inj hr).symm
       rintro e w6 ⟨rfl,hm⟩
       have q4:=(HB7.out.step (Ext.quiet (T:=None) hm)).c4.cell (i:=0) rfl
       have HCE:=hiD (ends_any 2 (by decide) b P M2 A2 s2 w6 (K1.out.quiet hm))
       have HEM:=hiD (HE5.out.trans (Ext.quiet hm))
       unfold bothV
       clear hr h2 HRR HC2 w4 q7 d4 hm
       go_wp2_with fail
       go_at_call 124
       refine HCE.out.mono ?_
       rintro e w7 ⟨rfl,x1,x2⟩
       have HF:=hiD (show ResE W b P M A 1 (.error (.stop 2),s2) (.returned (.int .i64 0)) w7 from ⟨0,M2,rfl,i64_zero,fun _=>rfl,x1,HEM.out.trans (x2 None)⟩)
       clear x1 x2 HCE
       go_wp2_with fail
       go_ret
       exact HF.out
end Go.Proofs.YtdgedlhefjmcpaaGreatDoor.TreeP.R

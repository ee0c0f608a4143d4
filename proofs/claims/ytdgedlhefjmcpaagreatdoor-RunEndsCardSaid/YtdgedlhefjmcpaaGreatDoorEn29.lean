/- The document's runner: && and ||. Conditions: what it has lies. What the runner makes of an expression: the ends. Conditions: what it has lies. -/
import Derived.Test.YtdgedlhefjmcpaaGreatDoorEn28
import Derived.Test.YtdgedlhefjmcpaaGreatDoorEn26
import Derived.Deep.Cut
namespace Go.Proofs.YtdgedlhefjmcpaaGreatDoor.TreeP.R
open Go.RowKit Go.Proofs.YtdgedlhefjmcpaaGreatDoor.Wo Go.Proofs.YtdgedlhefjmcpaaGreatDoor.TreeP Go.Proofs.YtdgedlhefjmcpaaGreatDoor.AluP
set_option linter.unusedVariables false
set_option linter.unusedSimpArgs false
set_option maxRecDepth 100000 in
set_option maxHeartbeats 1000000 in
theorem ew_and {L:List Fn} {K f:Nat} (hL:∀ x∈L,FewSs K x.body) (hN:∀ x∈L,NumSts x.body) (ih:EwC L K f) (a:Int) (x i:Ex):EwAt L K (f+1) (.bin a [38,38] x i):=by
 intro b P M A s N F nb n la ln lc W v t r h hg ht hfew he hr
 have hmf:∀ (fn:Go.Fn) (first cap:Array Value) (w:World),(Instr.makeFunc fn first cap).run Tryz.prog w=.ok (.func fn first cap) w:=fun _ _ _ _=>rfl
 simp only [ExAt] at he
 obtain ⟨vx,vi,⟨g,rfl,hpg,hv⟩,hx,hi⟩:=he
 have HP:=hiD h
 obtain ⟨W3,hW3⟩:∃ W3,W3=boxed W b (.slice la ln lc) nb (.pointer (some ⟨g,0,none⟩)):=⟨_,rfl⟩
 have HM:Hid (Mods None W W3):=hiD (by rw [hW3];exact boxed_mods _ _ _ _ _)
 have HB:Hid (Bz W W3 P M b (.slice la ln lc) nb (.pointer (some ⟨g,0,none⟩)) W.heap.size):=hiD (by rw [hW3];exact Bz.new _ _ _ h.wd.old h.wd.given)
 have HP3:=hiD (h.quiet HM.out)
 obtain ⟨av,iv,k0,ov,hb,-⟩:=HP3.out.wd.blk
 have w4:W3.cell? ⟨b,4,none⟩=some (.int .i64 0):=hb.cell rfl
 have d0:W3.cell? ⟨g,0,none⟩=some (.int .i64 3):=HM.out.cellOf (hv.cell rfl) (fun f=>f)
 have q4:=HB.out.c4.cell (i:=0) rfl
 have q5:=HB.out.c5.cell (i:=0) rfl
 have q6:=HB.out.c6.cell (i:=0) rfl
 have q7:=HB.out.c7.cell (i:=0) rfl
 clear hb
 obtain ⟨d,hd⟩:=hg
 simp only [Fit] at hd
 obtain ⟨d2,hd2⟩:∃ d',Fit x d':=by
  have:=hd.2.1
  split at this
  · exact ⟨_,this.2⟩
  · exact ⟨_,this⟩
 obtain ⟨d3,hdi⟩:∃ d',Fit i d':=by
  have:=hd.2.2
  split at this
  · exact ⟨_,this.2⟩
  · exact ⟨_,this⟩
 simp only [exprK] at ht
 obtain ⟨tx,ht1,ht⟩:=bindK_ok2 ht
 obtain ⟨u0,ht2,ht⟩:=bindK_ok2 ht
 obtain rfl:=wantT_ok ht2
 have ht:bindK (exprK L N i) (fun u=>bindK (wantT i 1 u) fun _=>(.ok 1:CK Int))=.ok t:=ht
 obtain ⟨ti,ht3,ht⟩:=bindK_ok2 ht
 obtain ⟨u1,ht4,ht⟩:=bindK_ok2 ht
 obtain rfl:=wantT_ok ht4
 have ht:(1:Int)=t:=Except.ok.inj ht
 subst ht
 obtain ⟨xg,rfl⟩:=hx.ptr
 obtain ⟨ig,rfl⟩:=hi.ptr
 have hpg:P g:=Classical.not_not.1 hpg
 have d5:W3.cell? ⟨g,5,none⟩=some (.pointer (some ⟨xg,0,none⟩)):=HM.out.cellOf (hv.cell rfl) (fun f=>f)
 simp only [evE] at hr
 have hr:bindR (evE L f s F x) (fun (v:V) (s:RS)=>if v.n=0 then okR (numV (oneB (v.n != 0))) s else bindR (evE L f s F i) fun b s=>okR (numV (oneB (b.n != 0))) s)=some r:=by
  rw [← hr]
  refine congrArg (bindR _) (funext fun v=>funext fun s=>?_)
  by_cases h0:v.n=0 <;> simp [h0]
 have hfew2:s.arrs.length+K*s.fuel+(newsE x+newsE i)≤1000000000000:=by simp only [newsE] at hfew;omega
 have hfewx:s.arrs.length+K*s.fuel+newsE x≤1000000000000:=by omega
 obtain ⟨y,hy⟩:∃ y,evE L f s F x=some y:=by
  cases hy:evE L f s F x with
  | none=>rw [hy] at hr;cases hr
  | some y=>exact ⟨y,rfl⟩
 have HP4:=hiD (HP3.out.quiet ((Mods.refl None W3).drew))
 have HL:=hiD (left_of (R:=ResE W3.drew b P M A 1 y) HB.out d5 ((ih x b P M A s N F nb n la ln lc W3.drew _ 1 y HP4.out ⟨d2,hd2⟩ ht1 hfewx (ew_far hx HM.out.drew) hy).mono (fun e w h=>h.int)))
 have HV:=hiD (fun (w:World) (M':Nat→Prop) (hE:Ext None M M' W3.drew w)=>(⟨(HB.out.step (Ext.quiet (Mods.refl _ _).drew)).step hE,blk_far (hv.mods HM.out.drew (fun f=>f)) hpg hE h.wd.off,(ew_far hi HM.out.drew).ext hE (fun k hk=>hk.elim (fun f=>f.elim) (h.wd.off k))⟩:Bz W w P M' b (.slice la ln lc) nb (.pointer (some ⟨g,0,none⟩)) W.heap.size∧Blk w g (cells8 3 a 0 [] [38,38] (.pointer (some ⟨xg,0,none⟩)) (.pointer (some ⟨ig,0,none⟩)) nilS) 195∧ExAt w (fun k=>¬ P k) i (.pointer (some ⟨ig,0,none⟩))))
 have HE0:Hid (Ext None M M W W3.drew):=hiD (Ext.quiet HM.out.drew)
 have HPG:=hiD hpg
 clear h hd ht2 ht4 hfew hfewx hv hpg hx hi d5 HP3
 unfold boxed at hW3
 go_enter Tryz.func146,Tryz.ntmps146
 go_upto_region 1 with (fail)
 rw [← hW3]
 clear hW3
 go_wp2_with fail
 go_at_call 164
 refine HL.out.mono ?_
 rintro e w ⟨m,rfl,hR⟩
 rw [hy] at hr
 clear w4 d0 q4 q5 q6 q7 HL
 obtain ⟨y,s1⟩:=y
 cases y with
 | error sg =>
   obtain rfl:=(Option.some.inj hr).symm
   cases sg with
   | ret k=>exact hR.elim
   | stop k =>
     obtain ⟨n',M',he,-,-,hW,hE⟩:=hR
     obtain ⟨hB5,hv5,-⟩:=HV.out w M' hE
     have hB6:=hB5.step (Ext.quiet (T:=None) (Mods.refl None w).drew)
     have q4:=hB5.c4.cell (i:=0) rfl
     have q5:=hB5.c5.cell (i:=0) rfl
     have q6:=hB5.c6.cell (i:=0) rfl
     have q7:=hB5.c7.cell (i:=0) rfl
     have d4:w.cell? ⟨g,4,none⟩=some (.string ⟨#[38,38]⟩):=hv5.cell rfl
     have d6:w.cell? ⟨g,6,none⟩=some (.pointer (some ⟨ig,0,none⟩)):=hv5.cell rfl
     have HW:=hiD (hW.quiet (Mods.refl None w).drew)
     have HE:=hiD (HE0.out.trans (hE.trans (Ext.quiet (Mods.refl None w).drew)))
     have HB6:=hiD hB6
     have HV6:=hiD (hv5.mods (Mods.refl None w).drew (fun f=>f))
     obtain ⟨W4,hW4⟩:∃ W4,W4=w.drew:=⟨_,rfl⟩
     rw [← hW4] at HW HE HB6 HV6
     have HWW:=hiD hW
     have HEE:=hiD (HE0.out.trans hE)
     clear hW hE hB5 hB6 hv5 HV ih ht1 ht3 hy he
     by_cases hm0:m=0
     · have hz1:(m==0)=true:=by simpa using hm0
       have hz2:(m != 0)=false:=by simpa using hm0
       have HM0:=hiD hm0
       clear hm0
       have HF:=hiD (show ResE W b P M A 1 (.error (.stop k),s1) (.returned (.int .i64 (oneB false))) w from ⟨_,M',rfl,i64_oneB _,(fun h=>absurd h (by decide)),HWW.out,HEE.out⟩)
       go_wp2_with fail
       go_at_call 165
       refine (yes_any _ _).mono ?_
       rintro e wq ⟨rfl,rfl⟩
       go_wp2_with fail
       go_ret
       exact HF.out
     · have hz1:(m==0)=false:=by simpa using hm0
       have hz2:(m != 0)=true:=by simpa using hm0
       have HM0:=hiD hm0
       clear hm0
       go_wp2_with fail
       go_still_tail 7,(by kernel_rfl)
       change wpList _ _ _ _ _ w.drew
       rw [← hW4]
       clear hW4 q4 q5 q6 q7 d6 d4
       go_wp2_with fail
       go_at_call 146
       refine (ex_ended la ln lc b nb ig P M' k s1.out W4 HW.out).mono ?_
       rintro e w5 ⟨rfl,hm⟩
       obtain ⟨av,iv,k0,c,ov,m9,r9,hb,-⟩:=(HW.out.quiet hm).blk
       have w4:w5.cell? ⟨b,4,none⟩=some (.int .i64 k):=hb.cell rfl
       have hk:(k==0)=false:=by have:=HW.out.way;simp;omega
       have q4:=(HB6.out.step (Ext.quiet (T:=None) hm)).c4.cell (i:=0) rfl
       have q7:=(HB6.out.step (Ext.quiet (T:=None) hm)).c7.cell (i:=0) rfl
       have d4:w5.cell? ⟨g,4,none⟩=some (.string ⟨#[38,38]⟩):=hm.cellOf (HV6.out.cell rfl) (fun f=>f)
       have HF:=hiD (show ResE W b P M A 1 (.error (.stop k),s1) (.returned (.int .i64 (oneB false))) w5 from ⟨_,M',rfl,i64_zero,fun _=>rfl,HW.out.quiet hm,HE.out.trans (Ext.quiet hm)⟩)
       clear hb hm HW HE HB6 HV6
       go_wp2_with fail
       go_at_call 165
       refine (yes_any _ _).mono ?_
       rintro e wq ⟨rfl,rfl⟩
       go_wp2_with fail
       go_ret
       exact HF.out
 | ok v1 =>
   obtain ⟨he,M',A',h1,h2,h3⟩:=hR
   simp only [Ending.returned.injEq,Value.int.injEq,true_and] at he
   obtain ⟨hP5,hfew5,hty,hi1⟩:=Pre.left hL hN HP4.out ht1 hd2 hy h2 h1 hfew2
   rw [rep_num hty] at he
   subst he
   obtain ⟨hB5,hv5,hi5⟩:=HV.out w M' h2
   have q4:=hB5.c4.cell (i:=0) rfl
   have q5:=hB5.c5.cell (i:=0) rfl
   have q6:=hB5.c6.cell (i:=0) rfl
   have q7:=hB5.c7.cell (i:=0) rfl
   have d4:w.cell? ⟨g,4,none⟩=some (.string ⟨#[38,38]⟩):=hv5.cell rfl
   have d6:w.cell? ⟨g,6,none⟩=some (.pointer (some ⟨ig,0,none⟩)):=hv5.cell rfl
   have hr:(if v1.n=0 then okR (numV (oneB (v1.n != 0))) s1 else bindR (evE L f s1 F i) fun b s=>okR (numV (oneB (b.n != 0))) s)=some r:=hr
   by_cases hm0:v1.n=0
   · rw [if_pos hm0] at hr
     obtain rfl:=(Option.some.inj hr).symm
     have hz1:(v1.n==0)=true:=by simpa using hm0
     have hz2:(v1.n != 0)=false:=by simpa using hm0
     have HF:=hiD (show ResE W b P M A 1 (.ok (numV (oneB (v1.n != 0))),s1) (.returned (.int .i64 (oneB false))) w from ⟨by rw [hz2];rfl,M',A',h1,HE0.out.trans h2,h3⟩)
     have HM0:=hiD hm0
     clear hm0 hr
     go_wp2_with fail
     go_at_call 165
     refine (yes_any _ _).mono ?_
     rintro e wq ⟨rfl,rfl⟩
     go_wp2_with fail
     go_ret
     exact HF.out
   rw [if_neg hm0] at hr
   have hz1:(v1.n==0)=false:=by simpa using hm0
   have hz2:(v1.n != 0)=true:=by simpa using hm0
   have HM0:=hiD hm0
   clear hm0
   obtain ⟨z,hz⟩:∃ z,evE L f s1 F i=some z:=by
    cases hz:evE L f s1 F i with
    | none=>rw [hz] at hr;cases hr
    | some z=>exact ⟨z,rfl⟩
   have HC:=hiD (ih i b P M' A' s1 N F nb n la ln lc w.drew _ 1 z (hP5.quiet (Mods.refl None w).drew) ⟨_,hdi⟩ ht3 hfew5 (ew_far hi5 (Mods.refl None w).drew) hz)
   have HB6:=hiD (hB5.step (Ext.quiet (T:=None) (Mods.refl None w).drew))
   have HV6:=hiD (hv5.mods (Mods.refl None w).drew (fun f=>f))
   have HE:=hiD (HE0.out.trans (h2.trans (Ext.quiet (Mods.refl None w).drew)))
   have HA:=hiD h3
   have HOF:=hiD h1.off
   have HI1:=hiD hi1
   have HTY:=hiD (fun v2 s2 (e:z=(.ok v2,s2))=>(⟨(ev_typed hP5.ty ht3 (by rw [hz,e])).1,((((rg_all hN f).1 s1 F i hP5.rs hP5.fr (fit_num i d3 hdi)) _ (by rw [hz,e])).1 v2 rfl).1⟩:VTy s2 1 v2∧I64 v2.n))
   obtain ⟨W4,hW4⟩:∃ W4,W4=w.drew:=⟨_,rfl⟩
   rw [← hW4] at HC HE HB6 HV6
   rw [hz] at hr
   have HR:=hiD hr
   clear hB5 hv5 hi5 HV h1 h2 h3 hP5 hfew5 hty hz hr ih hy ht1 ht3 hd2 hdi HP4 hi1
   go_wp2_with fail
   go_still_tail 7,(by kernel_rfl)
   change wpList _ _ _ _ _ w.drew
   rw [← hW4]
   clear hW4 q4 q5 q6 q7 d6 d4
   go_wp2_with fail
   go_at_call 146
   refine HC.out.mono ?_
   intro e w5 hR2
   clear HC
   obtain ⟨z,s2⟩:=z
   cases z with
   | error sg =>
     have hr:=HR.out
     obtain rfl:=(Option.some.inj hr).symm
     cases sg with
     | ret k=>exact hR2.elim
     | stop k =>
       obtain ⟨n2',M2,rfl,-,-,hW,hE2⟩:=hR2
       obtain ⟨av,iv,k0,c,ov,m9,r9,hb,-⟩:=hW.blk
       have w4:w5.cell? ⟨b,4,none⟩=some (.int .i64 k):=hb.cell rfl
       have hk:(k==0)=false:=by have:=hW.way;simp;omega
       have q4:=(HB6.out.step hE2).c4.cell (i:=0) rfl
       have q7:=(HB6.out.step hE2).c7.cell (i:=0) rfl
       have d4:w5.cell? ⟨g,4,none⟩=some (.string ⟨#[38,38]⟩):=(blk_far HV6.out HPG.out hE2 HOF.out).cell rfl
       have HF:=hiD (show ResE W b P M A 1 (.error (.stop k),s2) (.returned (.int .i64 (oneB (n2' != 0)))) w5 from ⟨_,M2,rfl,i64_oneB _,(fun h=>absurd h (by decide)),hW,HE.out.trans hE2⟩)
       clear hb hW hE2 HE HB6 hr HR HTY HV6
       go_wp2_with fail
       go_at_call 165
       refine (yes_any _ _).mono ?_
       rintro e wq ⟨rfl,rfl⟩
       go_wp2_with fail
       go_ret
       exact HF.out
   | ok v2 =>
     obtain ⟨rfl,M2,A2,k1,k2,k3⟩:=hR2
     obtain ⟨hv2,hi2⟩:=HTY.out v2 s2 rfl
     rw [rep_num hv2]
     have hr:=HR.out
     obtain rfl:=(Option.some.inj hr).symm
     obtain ⟨av,iv,k0,ov,hb,-⟩:=k1.blk
     have w4:w5.cell? ⟨b,4,none⟩=some (.int .i64 0):=hb.cell rfl
     have q4:=(HB6.out.step k2).c4.cell (i:=0) rfl
     have q7:=(HB6.out.step k2).c7.cell (i:=0) rfl
     have d4:w5.cell? ⟨g,4,none⟩=some (.string ⟨#[38,38]⟩):=(blk_far HV6.out HPG.out k2 HOF.out).cell rfl
     have HB7:=hiD (HB6.out.step k2)
     have K1:=hiD k1
     have HE5:=hiD (HE.out.trans k2)
     have HA5:=hiD (HA.out.trans k3)
     have HF:=hiD (show ResE W b P M A 1 (.ok (numV (oneB (v2.n != 0))),s2) (.returned (.int .i64 (oneB (v2.n != 0)))) w5 from ⟨rfl,M2,A2,K1.out,HE5.out,HA5.out⟩)
     clear hb k1 k2 k3 hr HR HTY hv2 hi2 HE HA HB6 HV6
     go_wp2_with fail
     go_at_call 165
     refine (yes_any _ _).mono ?_
     rintro e wq ⟨rfl,rfl⟩
     go_wp2_with fail
     go_ret
     exact HF.out
set_option maxRecDepth 100000 in
set_option maxHeartbeats 1000000 in
theorem ew_or {L:List Fn} {K f:Nat} (hL:∀ x∈L,FewSs K x.body) (hN:∀ x∈L,NumSts x.body) (ih:EwC L K f) (a:Int) (x i:Ex):EwAt L K (f+1) (.bin a [124,124] x i):=by
 intro b P M A s N F nb n la ln lc W v t r h hg ht hfew he hr
 have hmf:∀ (fn:Go.Fn) (first cap:Array Value) (w:World),(Instr.makeFunc fn first cap).run Tryz.prog w=.ok (.func fn first cap) w:=fun _ _ _ _=>rfl
 simp only [ExAt] at he
 obtain ⟨vx,vi,⟨g,rfl,hpg,hv⟩,hx,hi⟩:=he
 have HP:=hiD h
 obtain ⟨W3,hW3⟩:∃ W3,W3=boxed W b (.slice la ln lc) nb (.pointer (some ⟨g,0,none⟩)):=⟨_,rfl⟩
 have HM:Hid (Mods None W W3):=hiD (by rw [hW3];exact boxed_mods _ _ _ _ _)
 have HB:Hid (Bz W W3 P M b (.slice la ln lc) nb (.pointer (some ⟨g,0,none⟩)) W.heap.size):=hiD (by rw [hW3];exact Bz.new _ _ _ h.wd.old h.wd.given)
 have HP3:=hiD (h.quiet HM.out)
 obtain ⟨av,iv,k0,ov,hb,-⟩:=HP3.out.wd.blk
 have w4:W3.cell? ⟨b,4,none⟩=some (.int .i64 0):=hb.cell rfl
 have d0:W3.cell? ⟨g,0,none⟩=some (.int .i64 3):=HM.out.cellOf (hv.cell rfl) (fun f=>f)
 have q4:=HB.out.c4.cell (i:=0) rfl
 have q5:=HB.out.c5.cell (i:=0) rfl
 have q6:=HB.out.c6.cell (i:=0) rfl
 have q7:=HB.out.c7.cell (i:=0) rfl
 clear hb
 obtain ⟨d,hd⟩:=hg
 simp only [Fit] at hd
 obtain ⟨d2,hd2⟩:∃ d',Fit x d':=by
  have:=hd.2.1
  split at this
  · exact ⟨_,this.2⟩
  · exact ⟨_,this⟩
 obtain ⟨d3,hdi⟩:∃ d',Fit i d':=by
  have:=hd.2.2
  split at this
  · exact ⟨_,this.2⟩
  · exact ⟨_,this⟩
 simp only [exprK] at ht
 obtain ⟨tx,ht1,ht⟩:=bindK_ok2 ht
 obtain ⟨u0,ht2,ht⟩:=bindK_ok2 ht
 obtain rfl:=wantT_ok ht2
 have ht:bindK (exprK L N i) (fun u=>bindK (wantT i 1 u) fun _=>(.ok 1:CK Int))=.ok t:=ht
 obtain ⟨ti,ht3,ht⟩:=bindK_ok2 ht
 obtain ⟨u1,ht4,ht⟩:=bindK_ok2 ht
 obtain rfl:=wantT_ok ht4
 have ht:(1:Int)=t:=Except.ok.inj ht
 subst ht
 obtain ⟨xg,rfl⟩:=hx.ptr
 obtain ⟨ig,rfl⟩:=hi.ptr
 have hpg:P g:=Classical.not_not.1 hpg
 have d5:W3.cell? ⟨g,5,none⟩=some (.pointer (some ⟨xg,0,none⟩)):=HM.out.cellOf (hv.cell rfl) (fun f=>f)
 simp only [evE] at hr
 have hr:bindR (evE L f s F x) (fun (v:V) (s:RS)=>if ¬ v.n=0 then okR (numV (oneB (v.n != 0))) s else bindR (evE L f s F i) fun b s=>okR (numV (oneB (b.n != 0))) s)=some r:=by
  rw [← hr]
  refine congrArg (bindR _) (funext fun v=>funext fun s=>?_)
  by_cases h0:v.n=0 <;> simp [h0]
 have hfew2:s.arrs.length+K*s.fuel+(newsE x+newsE i)≤1000000000000:=by simp only [newsE] at hfew;omega
 have hfewx:s.arrs.length+K*s.fuel+newsE x≤1000000000000:=by omega
 obtain ⟨y,hy⟩:∃ y,evE L f s F x=some y:=by
  cases hy:evE L f s F x with
  | none=>rw [hy] at hr;cases hr
  | some y=>exact ⟨y,rfl⟩
 have HP4:=hiD (HP3.out.quiet ((Mods.refl None W3).drew))
 have HL:=hiD (left_of (R:=ResE W3.drew b P M A 1 y) HB.out d5 ((ih x b P M A s N F nb n la ln lc W3.drew _ 1 y HP4.out ⟨d2,hd2⟩ ht1 hfewx (ew_far hx HM.out.drew) hy).mono (fun e w h=>h.int)))
 have HV:=hiD (fun (w:World) (M':Nat→Prop) (hE:Ext None M M' W3.drew w)=>(⟨(HB.out.step (Ext.quiet (Mods.refl _ _).drew)).step hE,blk_far (hv.mods HM.out.drew (fun f=>f)) hpg hE h.wd.off,(ew_far hi HM.out.drew).ext hE (fun k hk=>hk.elim (fun f=>f.elim) (h.wd.off k))⟩:Bz W w P M' b (.slice la ln lc) nb (.pointer (some ⟨g,0,none⟩)) W.heap.size∧Blk w g (cells8 3 a 0 [] [124,124] (.pointer (some ⟨xg,0,none⟩)) (.pointer (some ⟨ig,0,none⟩)) nilS) 195∧ExAt w (fun k=>¬ P k) i (.pointer (some ⟨ig,0,none⟩))))
 have HE0:Hid (Ext None M M W W3.drew):=hiD (Ext.quiet HM.out.drew)
 have HPG:=hiD hpg
 clear h hd ht2 ht4 hfew hfewx hv hpg hx hi d5 HP3
 unfold boxed at hW3
 go_enter Tryz.func146,Tryz.ntmps146
 go_upto_region 1 with (fail)
 rw [← hW3]
 clear hW3
 go_wp2_with fail
 go_at_call 164
 refine HL.out.mono ?_
 rintro e w ⟨m,rfl,hR⟩
 rw [hy] at hr
 clear w4 d0 q4 q5 q6 q7 HL
 obtain ⟨y,s1⟩:=y
 cases y with
 | error sg =>
   obtain rfl:=(Option.some.inj hr).symm
   cases sg with
   | ret k=>exact hR.elim
   | stop k =>
     obtain ⟨n',M',he,-,-,hW,hE⟩:=hR
     obtain ⟨hB5,hv5,-⟩:=HV.out w M' hE
     have hB6:=hB5.step (Ext.quiet (T:=None) (Mods.refl None w).drew)
     have q4:=hB5.c4.cell (i:=0) rfl
     have q5:=hB5.c5.cell (i:=0) rfl
     have q6:=hB5.c6.cell (i:=0) rfl
     have q7:=hB5.c7.cell (i:=0) rfl
     have d4:w.cell? ⟨g,4,none⟩=some (.string ⟨#[124,124]⟩):=hv5.cell rfl
     have d6:w.cell? ⟨g,6,none⟩=some (.pointer (some ⟨ig,0,none⟩)):=hv5.cell rfl
     have HW:=hiD (hW.quiet (Mods.refl None w).drew)
     have HE:=hiD (HE0.out.trans (hE.trans (Ext.quiet (Mods.refl None w).drew)))
     have HB6:=hiD hB6
     have HV6:=hiD (hv5.mods (Mods.refl None w).drew (fun f=>f))
     obtain ⟨W4,hW4⟩:∃ W4,W4=w.drew:=⟨_,rfl⟩
     rw [← hW4] at HW HE HB6 HV6
     have HWW:=hiD hW
     have HEE:=hiD (HE0.out.trans hE)
     clear hW hE hB5 hB6 hv5 HV ih ht1 ht3 hy he
     by_cases hm0:¬ m=0
     · have hz1:(m==0)=false:=by simpa using hm0
       have hz2:(m != 0)=true:=by simpa using hm0
       have HM0:=hiD hm0
       clear hm0
       have HF:=hiD (show ResE W b P M A 1 (.error (.stop k),s1) (.returned (.int .i64 (oneB true))) w from ⟨_,M',rfl,i64_oneB _,(fun h=>absurd h (by decide)),HWW.out,HEE.out⟩)
       go_wp2_with fail
       go_at_call 165
       refine (yes_any _ _).mono ?_
       rintro e wq ⟨rfl,rfl⟩
       go_wp2_with fail
       go_ret
       exact HF.out
     · have hz1:(m==0)=true:=by simpa using hm0
       have hz2:(m != 0)=false:=by simpa using hm0
       have HM0:=hiD hm0
       clear hm0
       go_wp2_with fail
       go_still_tail 7,(by kernel_rfl)
       change wpList _ _ _ _ _ w.drew
       rw [← hW4]
       clear hW4 q4 q5 q6 q7 d6 d4
       go_wp2_with fail
       go_at_call 146
       refine (ex_ended la ln lc b nb ig P M' k s1.out W4 HW.out).mono ?_
       rintro e w5 ⟨rfl,hm⟩
       obtain ⟨av,iv,k0,c,ov,m9,r9,hb,-⟩:=(HW.out.quiet hm).blk
       have w4:w5.cell? ⟨b,4,none⟩=some (.int .i64 k):=hb.cell rfl
       have hk:(k==0)=false:=by have:=HW.out.way;simp;omega
       have q4:=(HB6.out.step (Ext.quiet (T:=None) hm)).c4.cell (i:=0) rfl
       have q7:=(HB6.out.step (Ext.quiet (T:=None) hm)).c7.cell (i:=0) rfl
       have d4:w5.cell? ⟨g,4,none⟩=some (.string ⟨#[124,124]⟩):=hm.cellOf (HV6.out.cell rfl) (fun f=>f)
       have HF:=hiD (show ResE W b P M A 1 (.error (.stop k),s1) (.returned (.int .i64 (oneB false))) w5 from ⟨_,M',rfl,i64_zero,fun _=>rfl,HW.out.quiet hm,HE.out.trans (Ext.quiet hm)⟩)
       clear hb hm HW HE HB6 HV6
       go_wp2_with fail
       go_at_call 165
       refine (yes_any _ _).mono ?_
       rintro e wq ⟨rfl,rfl⟩
       go_wp2_with fail
       go_ret
       exact HF.out
 | ok v1 =>
   obtain ⟨he,M',A',h1,h2,h3⟩:=hR
   simp only [Ending.returned.injEq,Value.int.injEq,true_and] at he
   obtain ⟨hP5,hfew5,hty,hi1⟩:=Pre.left hL hN HP4.out ht1 hd2 hy h2 h1 hfew2
   rw [rep_num hty] at he
   subst he
   obtain ⟨hB5,hv5,hi5⟩:=HV.out w M' h2
   have q4:=hB5.c4.cell (i:=0) rfl
   have q5:=hB5.c5.cell (i:=0) rfl
   have q6:=hB5.c6.cell (i:=0) rfl
   have q7:=hB5.c7.cell (i:=0) rfl
   have d4:w.cell? ⟨g,4,none⟩=some (.string ⟨#[124,124]⟩):=hv5.cell rfl
   have d6:w.cell? ⟨g,6,none⟩=some (.pointer (some ⟨ig,0,none⟩)):=hv5.cell rfl
   have hr:(if ¬ v1.n=0 then okR (numV (oneB (v1.n != 0))) s1 else bindR (evE L f s1 F i) fun b s=>okR (numV (oneB (b.n != 0))) s)=some r:=hr
   by_cases hm0:¬ v1.n=0
   · rw [if_pos hm0] at hr
     obtain rfl:=(Option.some.inj hr).symm
     have hz1:(v1.n==0)=false:=by simpa using hm0
     have hz2:(v1.n != 0)=true:=by simpa using hm0
     have HF:=hiD (show ResE W b P M A 1 (.ok (numV (oneB (v1.n != 0))),s1) (.returned (.int .i64 (oneB true))) w from ⟨by rw [hz2];rfl,M',A',h1,HE0.out.trans h2,h3⟩)
     have HM0:=hiD hm0
     clear hm0 hr
     go_wp2_with fail
     go_at_call 165
     refine (yes_any _ _).mono ?_
     rintro e wq ⟨rfl,rfl⟩
     go_wp2_with fail
     go_ret
     exact HF.out
   rw [if_neg hm0] at hr
   have hz1:(v1.n==0)=true:=by simpa using hm0
   have hz2:(v1.n != 0)=false:=by simpa using hm0
   have HM0:=hiD hm0
   clear hm0
   obtain ⟨z,hz⟩:∃ z,evE L f s1 F i=some z:=by
    cases hz:evE L f s1 F i with
    | none=>rw [hz] at hr;cases hr
    | some z=>exact ⟨z,rfl⟩
   have HC:=hiD (ih i b P M' A' s1 N F nb n la ln lc w.drew _ 1 z (hP5.quiet (Mods.refl None w).drew) ⟨_,hdi⟩ ht3 hfew5 (ew_far hi5 (Mods.refl None w).drew) hz)
   have HB6:=hiD (hB5.step (Ext.quiet (T:=None) (Mods.refl None w).drew))
   have HV6:=hiD (hv5.mods (Mods.refl None w).drew (fun f=>f))
   have HE:=hiD (HE0.out.trans (h2.trans (Ext.quiet (Mods.refl None w).drew)))
   have HA:=hiD h3
   have HOF:=hiD h1.off
   have HI1:=hiD hi1
   have HTY:=hiD (fun v2 s2 (e:z=(.ok v2,s2))=>(⟨(ev_typed hP5.ty ht3 (by rw [hz,e])).1,((((rg_all hN f).1 s1 F i hP5.rs hP5.fr (fit_num i d3 hdi)) _ (by rw [hz,e])).1 v2 rfl).1⟩:VTy s2 1 v2∧I64 v2.n))
   obtain ⟨W4,hW4⟩:∃ W4,W4=w.drew:=⟨_,rfl⟩
   rw [← hW4] at HC HE HB6 HV6
   rw [hz] at hr
   have HR:=hiD hr
   clear hB5 hv5 hi5 HV h1 h2 h3 hP5 hfew5 hty hz hr ih hy ht1 ht3 hd2 hdi HP4 hi1
   go_wp2_with fail
   go_still_tail 7,(by kernel_rfl)
   change wpList _ _ _ _ _ w.drew
   rw [← hW4]
   clear hW4 q4 q5 q6 q7 d6 d4
   go_wp2_with fail
   go_at_call 146
   refine HC.out.mono ?_
   intro e w5 hR2
   clear HC
   obtain ⟨z,s2⟩:=z
   cases z with
   | error sg =>
     have hr:=HR.out
     obtain rfl:=(Option.some.inj hr).symm
     cases sg with
     | ret k=>exact hR2.elim
     | stop k =>
       obtain ⟨n2',M2,rfl,-,-,hW,hE2⟩:=hR2
       obtain ⟨av,iv,k0,c,ov,m9,r9,hb,-⟩:=hW.blk
       have w4:w5.cell? ⟨b,4,none⟩=some (.int .i64 k):=hb.cell rfl
       have hk:(k==0)=false:=by have:=hW.way;simp;omega
       have q4:=(HB6.out.step hE2).c4.cell (i:=0) rfl
       have q7:=(HB6.out.step hE2).c7.cell (i:=0) rfl
       have d4:w5.cell? ⟨g,4,none⟩=some (.string ⟨#[124,124]⟩):=(blk_far HV6.out HPG.out hE2 HOF.out).cell rfl
       have HF:=hiD (show ResE W b P M A 1 (.error (.stop k),s2) (.returned (.int .i64 (oneB (n2' != 0)))) w5 from ⟨_,M2,rfl,i64_oneB _,(fun h=>absurd h (by decide)),hW,HE.out.trans hE2⟩)
       clear hb hW hE2 HE HB6 hr HR HTY HV6
       go_wp2_with fail
       go_at_call 165
       refine (yes_any _ _).mono ?_
       rintro e wq ⟨rfl,rfl⟩
       go_wp2_with fail
       go_ret
       exact HF.out
   | ok v2 =>
     obtain ⟨rfl,M2,A2,k1,k2,k3⟩:=hR2
     obtain ⟨hv2,hi2⟩:=HTY.out v2 s2 rfl
     rw [rep_num hv2]
     have hr:=HR.out
     obtain rfl:=(Option.some.inj hr).symm
     obtain ⟨av,iv,k0,ov,hb,-⟩:=k1.blk
     have w4:w5.cell? ⟨b,4,none⟩=some (.int .i64 0):=hb.cell rfl
     have q4:=(HB6.out.step k2).c4.cell (i:=0) rfl
     have q7:=(HB6.out.step k2).c7.cell (i:=0) rfl
     have d4:w5.cell? ⟨g,4,none⟩=some (.string ⟨#[124,124]⟩):=(blk_far HV6.out HPG.out k2 HOF.out).cell rfl
     have HB7:=hiD (HB6.out.step k2)
     have K1:=hiD k1
     have HE5:=hiD (HE.out.trans k2)
     have HA5:=hiD (HA.out.trans k3)
     have HF:=hiD (show ResE W b P M A 1 (.ok (numV (oneB (v2.n != 0))),s2) (.returned (.int .i64 (oneB (v2.n != 0)))) w5 from ⟨rfl,M2,A2,K1.out,HE5.out,HA5.out⟩)
     clear hb k1 k2 k3 hr HR HTY hv2 hi2 HE HA HB6 HV6
     go_wp2_with fail
     go_at_call 165
     refine (yes_any _ _).mono ?_
     rintro e wq ⟨rfl,rfl⟩
     go_wp2_with fail
     go_ret
     exact HF.out
end Go.Proofs.YtdgedlhefjmcpaaGreatDoor.TreeP.R
namespace Go.Proofs.YtdgedlhefjmcpaaGreatDoor.TreeP
open Go.RowKit Go.Proofs.YtdgedlhefjmcpaaGreatDoor.Wo
set_option linter.unusedVariables false
set_option linter.unusedSimpArgs false
theorem Ext.new {T M0 M S:Nat→Prop} {W0 W W':World} (h:Ext T M0 M W0 W) (hm:Mods S W W') (hS:∀ k,k<W0.heap.size→¬ S k):Ext T M0 M W0 W' :=
 ⟨h.mods.trans' hm (fun k hs hk=>(hS k hk hs).elim),h.back⟩
structure Bx (W0 w:World) (P M:Nat→Prop) (b fm q:Nat):Prop where
 c3:Blk w q [.pointer (some ⟨b,0,none⟩)] 102
 c4:Blk w (q+1) [.map (some fm)] 156
 c6:Blk w (q+1+1) [.int .i64 0,.slice none 0 0] 158
 nm:∀ k,q≤k→k≤q+1+1→¬ M k∧¬ P k
 at_:W0.heap.size≤q
theorem Bx.step {W0 w w':World} {P M M':Nat→Prop} {b fm q:Nat} (h:Bx W0 w P M b fm q) (hE:Ext None M M' w w'):Bx W0 w' P M' b fm q:=by
 have hl:=h.c6.lt
 refine ⟨(keep_blk h.c3 hE (h.nm q (by omega) (by omega)).1 (fun f=>f)).1,(keep_blk h.c4 hE (h.nm (q+1) (by omega) (by omega)).1 (fun f=>f)).1,(keep_blk h.c6 hE (h.nm (q+1+1) (by omega) (by omega)).1 (fun f=>f)).1,fun k h1 h2=>⟨fun hm=>(h.nm k h1 h2).1 (hE.back k (by omega) hm),(h.nm k h1 h2).2⟩,h.at_⟩
theorem Bx.new {W:World} {b mb:Nat} {L:List Fn} {P M:Nat→Prop} {A:List (Nat×Nat)} {s:RS} (fm:Nat) (h:RAt W b mb L P M A s) :
 Bx W (((W.alloc (.cells #[.pointer (some ⟨b,0,none⟩)] 102)).alloc (.cells #[.map (some fm)] 156)).alloc (.cells #[.int .i64 0,.slice none 0 0] 158)) P M b fm W.heap.size:=by
 have e1:(W.alloc (.cells #[.pointer (some ⟨b,0,none⟩)] 102)).heap.size=W.heap.size+1:=by simp
 have e2:((W.alloc (.cells #[.pointer (some ⟨b,0,none⟩)] 102)).alloc (.cells #[.map (some fm)] 156)).heap.size=W.heap.size+1+1:=by simp
 refine ⟨?_,?_,?_,fun k h1 _=>⟨fun hm=>absurd (h.old k hm) (by omega),fun hp=>absurd (h.given k hp) (by omega)⟩,Nat.le_refl _⟩
 · exact (((Blk.new W _ _).mods ((Mods.refl None _).alloc _) (fun f=>f)).mods ((Mods.refl None _).alloc _) (fun f=>f))
 · have:=(Blk.new (W.alloc (.cells #[.pointer (some ⟨b,0,none⟩)] 102)) #[.map (some fm)] 156).mods ((Mods.refl None _).alloc (.cells #[.int .i64 0,.slice none 0 0] 158)) (fun f=>f)
   rw [e1] at this
   exact this
 · have:=Blk.new ((W.alloc (.cells #[.pointer (some ⟨b,0,none⟩)] 102)).alloc (.cells #[.map (some fm)] 156)) #[.int .i64 0,.slice none 0 0] 158
   rw [e2] at this
   exact this
theorem RAt.newArr {w:World} {b mb:Nat} {L:List Fn} {P M:Nat→Prop} {A:List (Nat×Nat)} {s:RS} (h:RAt w b mb L P M A s) (n:Nat) (hn:n≤40) :
 RAt (w.alloc (.cells ((List.replicate n (0:Int)).map (Value.int .i64)).toArray 2)) b mb L P (fun k=>M k∨k=w.heap.size) (A++[(w.heap.size,n)]) { s with arrs:=s.arrs++[List.replicate n 0] }∧Ext None M (fun k=>M k∨k=w.heap.size) w (w.alloc (.cells ((List.replicate n (0:Int)).map (Value.int .i64)).toArray 2)):=by
 have hm:Mods None w (w.alloc (.cells ((List.replicate n (0:Int)).map (Value.int .i64)).toArray 2)):=(Mods.refl _ _).alloc _
 have hsz:(w.alloc (.cells ((List.replicate n (0:Int)).map (Value.int .i64)).toArray 2)).heap.size=w.heap.size+1:=by simp
 have h':=h.quiet hm
 have ho:=h.old
 have hg:=h.given
 refine ⟨⟨?_,Or.inl h'.has,h'.fns,?_,?_,?_,?_,?_,?_,h'.given,h'.few,h'.calls,h'.fuel⟩,⟨hm.mono fun _ _ f=>f.elim,?_⟩⟩
 · obtain ⟨iv,ov,h1,h2,h3,h4⟩:=h'.blk
   refine ⟨iv,ov,h1,h2,h3,fun k hk=>⟨Or.inl (h4 k hk).1,(h4 k hk).2.1,?_⟩⟩
   intro g m hgm
   rcases List.mem_append.1 hgm with hgm|hgm
   · exact (h4 k hk).2.2 g m hgm
   · simp only [List.mem_singleton,Prod.mk.injEq] at hgm
     have:=ho k (h4 k hk).1
     omega
 · simp [h.arrs]
 · intro i l hl
   rcases Nat.lt_or_ge i s.arrs.length with hi|hi
   · have hl2:s.arrs[i]?=some l:=by simpa [List.getElem?_append_left hi] using hl
     obtain ⟨g,e1,e2,e3⟩:=h'.arr i l hl2
     exact ⟨g,by rw [List.getElem?_append_left (by rw [h.arrs];exact hi)];exact e1,e2,e3⟩
   · simp only [List.getElem?_append_right hi] at hl
     obtain ⟨hi2,hl⟩:=List.getElem?_eq_some_iff.1 hl
     simp only [List.length_singleton] at hi2
     obtain rfl:i=s.arrs.length:=by omega
     simp only [Nat.sub_self,List.getElem_cons_zero] at hl
     subst hl
     refine ⟨w.heap.size,?_,Blk.new w _ _,by simpa using hn⟩
     rw [List.getElem?_append_right (by rw [h.arrs];exact Nat.le_refl _)]
     simp [h.arrs]
 · intro g m hgm
   rcases List.mem_append.1 hgm with hgm|hgm
   · exact ⟨Or.inl (h.mine g m hgm).1,(h.mine g m hgm).2⟩
   · simp only [List.mem_singleton,Prod.mk.injEq] at hgm
     have:=ho b h.has
     exact ⟨Or.inr hgm.1,by omega⟩
 · refine List.pairwise_append.2 ⟨h.apart,List.pairwise_singleton _ _,?_⟩
   intro x hx y hy
   simp only [List.mem_singleton] at hy
   subst hy
   have:=ho x.1 (h.mine x.1 x.2 hx).1
   show x.1≠w.heap.size
   omega
 · intro k hk
   rw [hsz]
   rcases hk with hk|hk
   · have:=ho k hk
     omega
   · omega
 · intro k hk hp
   rcases hk with hk|hk
   · exact h.off k hk hp
   · have:=hg k hp
     omega
 · intro k hk hm
   rcases hm with hm|hm
   · exact hm
   · omega
theorem RAt.taken {W:World} {b mb:Nat} {L:List Fn} {P M:Nat→Prop} {A:List (Nat×Nat)} {s:RS} (h:RAt W b mb L P M A s) (r:List Int) (iv:Value) (hi:InAt W (fun k=>¬ P k) iv r):RAt (W.setCell ⟨b,1,none⟩ iv) b mb L P M A { s with inp:=r } :=
 h.own (mods_put _ _ _ _) rfl rfl h.calls h.fuel (fun iv' ov h1 h2=>⟨iv,h1.set 1 _,hi⟩)
theorem Bx.end_ {W0 W:World} {P M M':Nat→Prop} {A A':List (Nat×Nat)} {b mb fm q:Nat} {L:List Fn} {s:RS} {x:V} {u v:Value} (hB:Bx W0 W P M' b fm q) (hR:RAt W b mb L P M' A' s) (hE:Ext None M M' W0 W) (hA:A <+: A') (hv:VAt A' x (.agg #[u,v])) :
 Ran W0 b mb L P None M A retV (.ok x,s) (.returned (.agg #[u,v])) ((W.setCell ⟨q+1+1,0,none⟩ u).setCell ⟨q+1+1,1,none⟩ v):=by
 have hm:Mods (·=q+1+1) W ((W.setCell ⟨q+1+1,0,none⟩ u).setCell ⟨q+1+1,1,none⟩ v):=(mods_put _ _ _ _).trans (mods_put _ _ _ _)
 have hat:=hB.at_
 exact ⟨M',A',⟨_,rfl,hv⟩,hR.aside hm (fun k hk=>by rw [hk];exact hB.nm _ (by omega) (by omega)),hE.new hm (fun k h1 h2=>by omega),hA⟩
theorem Bx.ret {fn:Func} {W0 W w:World} {P M M':Nat→Prop} {A A':List (Nat×Nat)} {a:Act} {b mb fm q:Nat} {L:List Fn} {s:RS} {x:V} {u v:Value} (hB:Bx W0 W P M' b fm q) (hR:RAt W b mb L P M' A' s) (hE:Ext None M M' W0 W) (hA:A <+: A') (hv:VAt A' x (.agg #[u,v]))
 (hfn:fn.results=#[.cell 6 158]) (hp:a.tmps.getD 6 undef=.pointer (some ⟨q+1+1,0,none⟩)) (hd:a.defers=[]) (hw:w=(W.setCell ⟨q+1+1,0,none⟩ u).setCell ⟨q+1+1,1,none⟩ v) :
 bodyPost Tryz.prog fn (Ran W0 b mb L P None M A retV (.ok x,s)) .ret a w:=by
 subst hw
 have h6:=(hB.c6.set 0 u).set 1 v
 exact bodyPost_ret (results_cell_row hfn a.tmps _ _ _ #[u,v] _ _ hp h6 Tryz.underlying158 rfl (by kernel_rfl)) hd (hB.end_ hR hE hA hv)
set_option maxRecDepth 100000 in
set_option maxHeartbeats 400000 in
theorem ev_num {L:List Fn} {f:Nat} (a k:Int) (b mb:Nat) (P M:Nat→Prop) (A:List (Nat×Nat)) (s:RS) (fm:Nat) (W:World) (v:Value) (h:RAt W b mb L P M A s) (he:ExAt W (fun k=>¬ P k) (.num a k) v) :
 Calls Tryz.prog 139 #[.pointer (some ⟨b,0,none⟩),.map (some fm),v] W (Ran W b mb L P None M A retV (.ok (numV k),s)):=by
 simp only [ExAt] at he
 obtain ⟨g,rfl,hg,hv⟩:=he
 have hmf:∀ (fn:Go.Fn) (first cap:Array Value) (w:World),(Instr.makeFunc fn first cap).run Tryz.prog w=.ok (.func fn first cap) w:=fun _ _ _ _=>rfl
 obtain ⟨W3,hW3⟩:∃ W3,W3=((W.alloc (.cells #[.pointer (some ⟨b,0,none⟩)] 102)).alloc (.cells #[.map (some fm)] 156)).alloc (.cells #[.int .i64 0,.slice none 0 0] 158):=⟨_,rfl⟩
 have HM:Hid (Mods None W W3):=hiD (by rw [hW3];exact (((Mods.refl _ _).alloc _).alloc _).alloc _)
 have HB:Hid (Bx W W3 P M b fm W.heap.size):=hiD (by rw [hW3];exact Bx.new fm h)
 have H:=hiD (h.quiet HM.out)
 have d0:W3.cell? ⟨g,0,none⟩=some (.int .i64 1):=HM.out.cellOf (hv.cell rfl) (fun f=>f)
 have d2:W3.cell? ⟨g,2,none⟩=some (.int .i64 k):=HM.out.cellOf (hv.cell rfl) (fun f=>f)
 have hl:=hv.lt
 have r0:=HB.out.c6.cell (i:=0) rfl
 have r1:=HB.out.c6.cell (i:=1) rfl
 have z0:=HB.out.c6.free 0
 have z1:=HB.out.c6.free 1
 clear h hv hg
 go_enter Tryz.func139,Tryz.ntmps139
 go_upto_region 2 with (fail)
 rw [← hW3]
 clear hW3
 go_wp2_with fail
 exact HB.out.ret H.out (Ext.quiet HM.out) (List.prefix_refl _) (Or.inl ⟨rfl,rfl⟩) rfl rfl rfl rfl
end Go.Proofs.YtdgedlhefjmcpaaGreatDoor.TreeP

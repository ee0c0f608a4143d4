/- The document's runner: expressions, kind by kind. Conditions: what it has lies. The document's runner: its names as they lie, and how statements end. Conditions: what it has lies. -/
import Derived.Test.YtdgedlhefjmcpaaGreatDoorEn26
import Derived.Test.YtdgedlhefjmcpaaGreatDoorEn08
import Derived.Test.YtdgedlhefjmcpaaGreatDoorEn22
namespace Go.Proofs.YtdgedlhefjmcpaaGreatDoor.TreeP.R
open Go.RowKit Go.Proofs.YtdgedlhefjmcpaaGreatDoor.Wo Go.Proofs.YtdgedlhefjmcpaaGreatDoor.TreeP Go.Proofs.YtdgedlhefjmcpaaGreatDoor.AluP
set_option linter.unusedVariables false
set_option linter.unusedSimpArgs false
theorem zero_int (w:World):(zeroValue 2).run Tryz.prog w=.ok (.int .i64 0) w:=by kernel_rfl
set_option maxRecDepth 100000 in
set_option maxHeartbeats 1000000 in
theorem ew_num {L:List Fn} {K f:Nat} (a k:Int):EwAt L K (f+1) (.num a k):=by
 intro b P M A s N F nb n la ln lc W v t r h hg ht hfew he hr
 have hmf:∀ (fn:Go.Fn) (first cap:Array Value) (w:World),(Instr.makeFunc fn first cap).run Tryz.prog w=.ok (.func fn first cap) w:=fun _ _ _ _=>rfl
 simp only [ExAt] at he
 obtain ⟨g,rfl,hpg,hv⟩:=he
 have HP:=hiD h
 obtain ⟨W3,hW3⟩:∃ W3,W3=boxed W b (.slice la ln lc) nb (.pointer (some ⟨g,0,none⟩)):=⟨_,rfl⟩
 have HM:Hid (Mods None W W3):=hiD (by rw [hW3];exact boxed_mods _ _ _ _ _)
 have HB:Hid (Bz W W3 P M b (.slice la ln lc) nb (.pointer (some ⟨g,0,none⟩)) W.heap.size):=hiD (by rw [hW3];exact Bz.new _ _ _ h.wd.old h.wd.given)
 have HP3:=hiD (h.quiet HM.out)
 obtain ⟨av,iv,k0,ov,hb,-⟩:=HP3.out.wd.blk
 have w4:W3.cell? ⟨b,4,none⟩=some (.int .i64 0):=hb.cell rfl
 have d0:W3.cell? ⟨g,0,none⟩=some (.int .i64 1):=HM.out.cellOf (hv.cell rfl) (fun f=>f)
 have q4:=HB.out.c4.cell (i:=0) rfl
 have q5:=HB.out.c5.cell (i:=0) rfl
 have q6:=HB.out.c6.cell (i:=0) rfl
 have q7:=HB.out.c7.cell (i:=0) rfl
 clear hb
 have d2:W3.cell? ⟨g,2,none⟩=some (.int .i64 k):=HM.out.cellOf (hv.cell rfl) (fun f=>f)
 simp only [evE] at hr
 obtain rfl:=(Option.some.inj hr).symm
 clear h hg ht hfew hr hv hpg
 unfold boxed at hW3
 go_enter Tryz.func146,Tryz.ntmps146
 go_upto_region 1 with (fail)
 rw [← hW3]
 clear hW3
 go_wp2_with fail
 go_ret
 unfold ResE
 exact ⟨rfl,M,A,HP3.out.wd,Ext.quiet HM.out,List.prefix_refl _⟩
set_option maxRecDepth 100000 in
set_option maxHeartbeats 1000000 in
theorem ew_var {L:List Fn} {K f:Nat} (a:Int) (x:List UInt8):EwAt L K (f+1) (.var a x):=by
 intro b P M A s N F nb n la ln lc W v t r h hg ht hfew he hr
 have hmf:∀ (fn:Go.Fn) (first cap:Array Value) (w:World),(Instr.makeFunc fn first cap).run Tryz.prog w=.ok (.func fn first cap) w:=fun _ _ _ _=>rfl
 simp only [ExAt] at he
 obtain ⟨g,rfl,hpg,hv⟩:=he
 have HP:=hiD h
 obtain ⟨W3,hW3⟩:∃ W3,W3=boxed W b (.slice la ln lc) nb (.pointer (some ⟨g,0,none⟩)):=⟨_,rfl⟩
 have HM:Hid (Mods None W W3):=hiD (by rw [hW3];exact boxed_mods _ _ _ _ _)
 have HB:Hid (Bz W W3 P M b (.slice la ln lc) nb (.pointer (some ⟨g,0,none⟩)) W.heap.size):=hiD (by rw [hW3];exact Bz.new _ _ _ h.wd.old h.wd.given)
 have HP3:=hiD (h.quiet HM.out)
 obtain ⟨av,iv,k0,ov,hb,-⟩:=HP3.out.wd.blk
 have w4:W3.cell? ⟨b,4,none⟩=some (.int .i64 0):=hb.cell rfl
 have d0:W3.cell? ⟨g,0,none⟩=some (.int .i64 2):=HM.out.cellOf (hv.cell rfl) (fun f=>f)
 have q4:=HB.out.c4.cell (i:=0) rfl
 have q5:=HB.out.c5.cell (i:=0) rfl
 have q6:=HB.out.c6.cell (i:=0) rfl
 have q7:=HB.out.c7.cell (i:=0) rfl
 clear hb
 have d3:W3.cell? ⟨g,3,none⟩=some (.string ⟨x.toArray⟩):=HM.out.cellOf (hv.cell rfl) (fun f=>f)
 simp only [evE] at hr
 obtain rfl:=(Option.some.inj hr).symm
 obtain ⟨mb,F',hnb,hmap,hget,-⟩:=HP3.out.ns
 have n0:W3.cell? ⟨nb,0,none⟩=some (.map (some mb)):=hnb.cell rfl
 have hg:x.length≤10000000:=by
  obtain ⟨d,hd⟩:=hg
  simp only [Fit] at hd
  exact Nat.le_trans hd.2.2.2.2 (by decide)
 have hlook:=(hmap.mods ((Mods.refl None W3).drew) (fun f=>f)).look (t:=169) Tryz.underlying169 (zero_int _) x hg
 rw [hget x] at hlook
 unfold str at hlook
 clear h hg ht hfew hr hv hpg hnb hmap hget
 unfold boxed at hW3
 go_enter Tryz.func146,Tryz.ntmps146
 go_upto_region 1 with (fail)
 rw [← hW3]
 clear hW3
 go_wp2_with fail
 go_region
 go_wp2_with fail
 go_ret
 unfold ResE
 exact ⟨rfl,M,A,HP3.out.wd.quiet (Mods.refl _ _).drew,Ext.quiet HM.out.drew,List.prefix_refl _⟩
set_option maxRecDepth 100000 in
set_option maxHeartbeats 1000000 in
theorem ew_input {L:List Fn} {K f:Nat} (a:Int):EwAt L K (f+1) (.input a):=by
 intro b P M A s N F nb n la ln lc W v t r h hg ht hfew he hr
 have hmf:∀ (fn:Go.Fn) (first cap:Array Value) (w:World),(Instr.makeFunc fn first cap).run Tryz.prog w=.ok (.func fn first cap) w:=fun _ _ _ _=>rfl
 simp only [ExAt] at he
 obtain ⟨g,rfl,hpg,hv⟩:=he
 have HP:=hiD h
 obtain ⟨W3,hW3⟩:∃ W3,W3=boxed W b (.slice la ln lc) nb (.pointer (some ⟨g,0,none⟩)):=⟨_,rfl⟩
 have HM:Hid (Mods None W W3):=hiD (by rw [hW3];exact boxed_mods _ _ _ _ _)
 have HB:Hid (Bz W W3 P M b (.slice la ln lc) nb (.pointer (some ⟨g,0,none⟩)) W.heap.size):=hiD (by rw [hW3];exact Bz.new _ _ _ h.wd.old h.wd.given)
 have HP3:=hiD (h.quiet HM.out)
 obtain ⟨av,iv,k0,ov,hb,-⟩:=HP3.out.wd.blk
 have w4:W3.cell? ⟨b,4,none⟩=some (.int .i64 0):=hb.cell rfl
 have d0:W3.cell? ⟨g,0,none⟩=some (.int .i64 9):=HM.out.cellOf (hv.cell rfl) (fun f=>f)
 have q4:=HB.out.c4.cell (i:=0) rfl
 have q5:=HB.out.c5.cell (i:=0) rfl
 have q6:=HB.out.c6.cell (i:=0) rfl
 have q7:=HB.out.c7.cell (i:=0) rfl
 clear hb
 simp only [evE] at hr
 cases hin:s.inp with
 | nil =>
   rw [hin] at hr
   obtain rfl:=(Option.some.inj hr).symm
   have HC:=hiD (input_none b P M A s W3 HP3.out.wd hin)
   clear h hg ht hfew hr hv hpg hin
   unfold boxed at hW3
   go_enter Tryz.func146,Tryz.ntmps146
   go_upto_region 1 with (fail)
   rw [← hW3]
   clear hW3
   go_wp2_with fail
   go_at_call 168
   refine HC.out.mono ?_
   rintro e w ⟨rfl,rfl⟩
   go_wp2_with fail
   go_ret
   unfold ResE
   exact ⟨rfl,M,A,HP3.out.wd,Ext.quiet HM.out,List.prefix_refl _⟩
 | cons k l =>
   rw [hin] at hr
   obtain rfl:=(Option.some.inj hr).symm
   have HC:=hiD (input_some None b P M A s k l W3 HP3.out.wd hin)
   clear h hg ht hfew hr hv hpg hin
   unfold boxed at hW3
   go_enter Tryz.func146,Tryz.ntmps146
   go_upto_region 1 with (fail)
   rw [← hW3]
   clear hW3
   go_wp2_with fail
   go_at_call 168
   refine HC.out.mono ?_
   rintro e w ⟨rfl,k1,k2⟩
   have K1:=hiD k1
   have K2:=hiD k2
   clear k1 k2
   go_wp2_with fail
   go_ret
   unfold ResE
   exact ⟨rfl,M,A,K1.out,(Ext.quiet HM.out).trans K2.out,List.prefix_refl _⟩
theorem yes_any (c:Bool) (W:World):Calls Tryz.prog 165 #[.bool c] W fun e w=>e=.returned (.int .i64 (oneB c))∧W=w:=by
 cases c
 all_goals
  go_enter Tryz.func165,Tryz.ntmps165
  go_wp2_with fail
  go_ret
  exact ⟨rfl,rfl⟩
theorem rep_num {s:RS} {v:V} (h:VTy s 1 v):rep v=v.n:=by
 rcases h with ⟨-,h⟩|⟨h,-⟩
 · unfold rep;rw [h]
 · cases h
theorem ew_far {W W':World} {P:Nat→Prop} {e:Ex} {v:Value} (h:ExAt W (fun k=>¬ P k) e v) (hm:Mods None W W'):ExAt W' (fun k=>¬ P k) e v:=ExAt.modsTo (hm.mono fun _ _ f=>f.elim) (fun _ _ k=>k) e v h
set_option maxRecDepth 100000 in
set_option maxHeartbeats 1000000 in
theorem ew_un {L:List Fn} {K f:Nat} (ih:EwC L K f) (a:Int) (op:List UInt8) (x:Ex):EwAt L K (f+1) (.un a op x):=by
 intro b P M A s N F nb n la ln lc W v t r h hg ht hfew he hr
 have hmf:∀ (fn:Go.Fn) (first cap:Array Value) (w:World),(Instr.makeFunc fn first cap).run Tryz.prog w=.ok (.func fn first cap) w:=fun _ _ _ _=>rfl
 simp only [ExAt] at he
 obtain ⟨vx,⟨g,rfl,hpg,hv⟩,hx⟩:=he
 have HP:=hiD h
 obtain ⟨W3,hW3⟩:∃ W3,W3=boxed W b (.slice la ln lc) nb (.pointer (some ⟨g,0,none⟩)):=⟨_,rfl⟩
 have HM:Hid (Mods None W W3):=hiD (by rw [hW3];exact boxed_mods _ _ _ _ _)
 have HB:Hid (Bz W W3 P M b (.slice la ln lc) nb (.pointer (some ⟨g,0,none⟩)) W.heap.size):=hiD (by rw [hW3];exact Bz.new _ _ _ h.wd.old h.wd.given)
 have HP3:=hiD (h.quiet HM.out)
 obtain ⟨av,iv,k0,ov,hb,-⟩:=HP3.out.wd.blk
 have w4:W3.cell? ⟨b,4,none⟩=some (.int .i64 0):=hb.cell rfl
 have d0:W3.cell? ⟨g,0,none⟩=some (.int .i64 4):=HM.out.cellOf (hv.cell rfl) (fun f=>f)
 have q4:=HB.out.c4.cell (i:=0) rfl
 have q5:=HB.out.c5.cell (i:=0) rfl
 have q6:=HB.out.c6.cell (i:=0) rfl
 have q7:=HB.out.c7.cell (i:=0) rfl
 clear hb
 obtain ⟨d,hd⟩:=hg
 simp only [Fit] at hd
 obtain ⟨d2,hd2⟩:∃ d',Fit x d':=by
  have:=hd.2.2
  split at this
  · exact ⟨_,this.2⟩
  · exact ⟨_,this⟩
 have hop:=hd.2.1
 simp only [exprK] at ht
 obtain ⟨tx,ht1,ht⟩:=bindK_ok2 ht
 obtain ⟨u0,ht2,ht⟩:=bindK_ok2 ht
 obtain rfl:=wantT_ok ht2
 have ht:(1:Int)=t:=Except.ok.inj ht
 subst ht
 obtain ⟨xg,rfl⟩:=hx.ptr
 have hpg:P g:=Classical.not_not.1 hpg
 have d5:W3.cell? ⟨g,5,none⟩=some (.pointer (some ⟨xg,0,none⟩)):=HM.out.cellOf (hv.cell rfl) (fun f=>f)
 simp only [evE] at hr
 have hfew:s.arrs.length+K*s.fuel+newsE x≤1000000000000:=hfew
 obtain ⟨y,hy⟩:∃ y,evE L f s F x=some y:=by
  cases hy:evE L f s F x with
  | none=>rw [hy] at hr;cases hr
  | some y=>exact ⟨y,rfl⟩
 have HL:=hiD (left_of (R:=ResE W3.drew b P M A 1 y) HB.out d5 ((ih x b P M A s N F nb n la ln lc W3.drew _ 1 y (HP3.out.quiet ((Mods.refl _ _).drew)) ⟨d2,hd2⟩ ht1 hfew (ew_far hx HM.out.drew) hy).mono (fun e w h=>h.int)))
 have HF:Hid (∀ m w,ResE W3.drew b P M A 1 y (.returned (.int .i64 m)) w→(∃ M',Ext None M M' W3.drew w)∧ResE W b P M A 1 r (.returned (.int .i64 (if op=[45] then wrap64 (-m) else oneB (m==0)))) w):=hiD (by
  intro m w hR
  rw [hy] at hr
  obtain ⟨y,s1⟩:=y
  cases y with
  | ok vx =>
    obtain ⟨he,M',A',h1,h2,h3⟩:=hR
    obtain rfl:=(Option.some.inj hr).symm
    have hm:m=vx.n:=by
        have h4:=rep_num (ev_typed h.ty ht1 hy).1
        simp only [Ending.returned.injEq,Value.int.injEq,true_and] at he
        rw [he,h4]
    subst hm
    exact ⟨⟨M',h2⟩,rfl,M',A',h1,(Ext.quiet HM.out.drew).trans h2,h3⟩
  | error sg =>
    obtain rfl:=(Option.some.inj hr).symm
    cases sg with
    | ret k=>exact hR.elim
    | stop k =>
      obtain ⟨n',M',he,hi,h0,hW,hE⟩:=hR
      exact ⟨⟨M',hE⟩,_,M',rfl,(by split;exact i64_wrap64 _;exact i64_oneB _),(fun h=>absurd h (by decide)),hW,(Ext.quiet HM.out.drew).trans hE⟩)
 have HV:=hiD (fun (w:World) (M':Nat→Prop) (hE:Ext None M M' W3.drew w)=>(⟨(HB.out.step (Ext.quiet (Mods.refl _ _).drew)).step hE,blk_far (hv.mods HM.out.drew (fun f=>f)) hpg hE h.wd.off⟩:Bz W w P M' b (.slice la ln lc) nb (.pointer (some ⟨g,0,none⟩)) W.heap.size∧Blk w g (cells8 4 a 0 [] op (.pointer (some ⟨xg,0,none⟩)) nilP nilS) 195))
 clear h hd hd2 ht1 ht2 hfew hr hv hpg hx ih d5 hy
 unfold boxed at hW3
 go_enter Tryz.func146,Tryz.ntmps146
 go_upto_region 1 with (fail)
 rw [← hW3]
 clear hW3
 go_wp2_with fail
 go_at_call 164
 refine HL.out.mono ?_
 rintro e w ⟨m,rfl,hR⟩
 obtain ⟨⟨M',hE⟩,hfin⟩:=HF.out m w hR
 obtain ⟨hB5,hv5⟩:=HV.out w M' hE
 have HFIN:=hiD hfin
 have d4:w.cell? ⟨g,4,none⟩=some (.string ⟨op.toArray⟩):=hv5.cell rfl
 have q7:=hB5.c7.cell (i:=0) rfl
 clear hR hE hB5 hv5 HF HV HL hfin w4 d0 q4 q5 q6
 rcases hop with rfl|rfl
 · rw [if_pos rfl] at HFIN
   go_wp2_with fail
   go_ret
   exact HFIN.out
 · rw [if_neg (by decide)] at HFIN
   go_wp2_with fail
   go_at_call 165
   refine (yes_any _ _).mono ?_
   rintro e w ⟨rfl,rfl⟩
   go_wp2_with fail
   go_ret
   exact HFIN.out
set_option maxRecDepth 100000 in
set_option maxHeartbeats 1000000 in
theorem ew_len {L:List Fn} {K f:Nat} (ih:EwC L K f) (a:Int) (x:Ex):EwAt L K (f+1) (.len a x):=by
 intro b P M A s N F nb n la ln lc W v t r h hg ht hfew he hr
 have hmf:∀ (fn:Go.Fn) (first cap:Array Value) (w:World),(Instr.makeFunc fn first cap).run Tryz.prog w=.ok (.func fn first cap) w:=fun _ _ _ _=>rfl
 simp only [ExAt] at he
 obtain ⟨vx,⟨g,rfl,hpg,hv⟩,hx⟩:=he
 have HP:=hiD h
 obtain ⟨W3,hW3⟩:∃ W3,W3=boxed W b (.slice la ln lc) nb (.pointer (some ⟨g,0,none⟩)):=⟨_,rfl⟩
 have HM:Hid (Mods None W W3):=hiD (by rw [hW3];exact boxed_mods _ _ _ _ _)
 have HB:Hid (Bz W W3 P M b (.slice la ln lc) nb (.pointer (some ⟨g,0,none⟩)) W.heap.size):=hiD (by rw [hW3];exact Bz.new _ _ _ h.wd.old h.wd.given)
 have HP3:=hiD (h.quiet HM.out)
 obtain ⟨av,iv,k0,ov,hb,-⟩:=HP3.out.wd.blk
 have w4:W3.cell? ⟨b,4,none⟩=some (.int .i64 0):=hb.cell rfl
 have d0:W3.cell? ⟨g,0,none⟩=some (.int .i64 7):=HM.out.cellOf (hv.cell rfl) (fun f=>f)
 have q4:=HB.out.c4.cell (i:=0) rfl
 have q5:=HB.out.c5.cell (i:=0) rfl
 have q6:=HB.out.c6.cell (i:=0) rfl
 have q7:=HB.out.c7.cell (i:=0) rfl
 clear hb
 obtain ⟨d,hd⟩:=hg
 simp only [Fit] at hd
 simp only [exprK] at ht
 obtain ⟨tx,ht1,ht⟩:=bindK_ok2 ht
 obtain ⟨u0,ht2,ht⟩:=bindK_ok2 ht
 obtain rfl:=wantT_ok ht2
 have ht:(1:Int)=t:=Except.ok.inj ht
 subst ht
 obtain ⟨xg,rfl⟩:=hx.ptr
 have hpg:P g:=Classical.not_not.1 hpg
 have d5:W3.cell? ⟨g,5,none⟩=some (.pointer (some ⟨xg,0,none⟩)):=HM.out.cellOf (hv.cell rfl) (fun f=>f)
 simp only [evE] at hr
 have hfewx:s.arrs.length+K*s.fuel+newsE x≤1000000000000:=by simp only [newsE] at hfew;omega
 obtain ⟨y,hy⟩:∃ y,evE L f s F x=some y:=by
  cases hy:evE L f s F x with
  | none=>rw [hy] at hr;cases hr
  | some y=>exact ⟨y,rfl⟩
 have HL:=hiD (left_of (R:=ResE W3.drew b P M A 2 y) HB.out d5 ((ih x b P M A s N F nb n la ln lc W3.drew _ 2 y (HP3.out.quiet ((Mods.refl _ _).drew)) ⟨_,hd.2⟩ ht1 hfewx (ew_far hx HM.out.drew) hy).mono (fun e w h=>h.int)))
 have HV:=hiD (fun (w:World) (M':Nat→Prop) (hE:Ext None M M' W3.drew w)=>(HB.out.step (Ext.quiet (Mods.refl _ _).drew)).step hE)
 have HF:Hid (∀ m w,ResE W3.drew b P M A 2 y (.returned (.int .i64 m)) w→(∃ M',Ext None M M' W3.drew w)∧∃ (j q2 m2 c2 sl sc:Nat) (sa:Option Addr),m=(j:Int)∧j<m2∧m2≤c2∧c2≤9223372036854775807∧w.cell? ⟨b,0,none⟩=some (.slice (some ⟨q2,0,none⟩) m2 c2)∧w.cell? ⟨q2,j,none⟩=some (.slice sa sl sc)∧ResE W b P M A 1 r (.returned (.int .i64 sl)) w):=hiD (by
  intro m w hR
  rw [hy] at hr
  obtain ⟨y,s1⟩:=y
  cases y with
  | ok vx =>
    obtain ⟨he,M',A',h1,h2,h3⟩:=hR
    obtain rfl:=(Option.some.inj hr).symm
    refine ⟨⟨M',h2⟩,?_⟩
    simp only [Ending.returned.injEq,Value.int.injEq,true_and] at he
    rcases (ev_typed h.ty ht1 hy).1 with ⟨h4,-⟩|⟨-,hn0,i,hi,hil⟩
    · cases h4
    · have hl:s1.arrs[i]?=some (s1.arrs[i]):=List.getElem?_eq_getElem hil
      obtain ⟨q,c,g2,c0,k1,k2,k3,k4,-,-,k40⟩:=h1.place hl
      have ha:arrOf s1 vx=s1.arrs[i]:=by
        unfold arrOf
        rw [hi]
        simp only
        rw [List.getD_eq_getElem?_getD,hl]
        rfl
      have hm:m=((i+1:Nat):Int):=by
        rw [he]
        unfold rep
        rw [hi]
        simp
      exact ⟨i+1,q,A'.length+1,c,_,_,_,hm,by omega,k1,k2,c0,k4,by
        refine ⟨?_,M',A',h1,(Ext.quiet HM.out.drew).trans h2,h3⟩
        rw [ha]
        rfl⟩
  | error sg =>
    obtain rfl:=(Option.some.inj hr).symm
    cases sg with
    | ret k=>exact hR.elim
    | stop k =>
      obtain ⟨n',M',he,hi,h0,hW,hE⟩:=hR
      refine ⟨⟨M',hE⟩,?_⟩
      simp only [Ending.returned.injEq,Value.int.injEq,true_and] at he
      obtain ⟨av,iv,k0,c,ov,m9,r9,hb,-,-,h6,-⟩:=hW.blk
      obtain ⟨q,c9,rfl,k1,k2,k3⟩:=row_pt h6 (by omega)
      refine ⟨0,q,m9+1,c9,0,0,Option.none,by rw [he,h0 rfl];rfl,by omega,k1,k2,hb.cell rfl,k3 0 _ rfl,0,M',rfl,by unfold I64;omega,fun _=>rfl,hW,(Ext.quiet HM.out.drew).trans hE⟩)
 clear h hd ht1 ht2 hfew hfewx hr hv hpg hx ih d5 hy
 unfold boxed at hW3
 go_enter Tryz.func146,Tryz.ntmps146
 go_upto_region 1 with (fail)
 rw [← hW3]
 clear hW3
 go_wp2_with fail
 go_at_call 164
 refine HL.out.mono ?_
 rintro e w ⟨m,rfl,hR⟩
 obtain ⟨⟨M',hE⟩,j,q2,m2,c2,sl,sc,sa,rfl,hj,hmc,hc2,b0,b1,hfin⟩:=HF.out m w hR
 have hB5:=HV.out w M' hE
 have HFIN:=hiD hfin
 have q4:=hB5.c4.cell (i:=0) rfl
 have hj0:(0:Int)≤(j:Int):=by omega
 have hjm:(j:Int)<(m2:Int):=by omega
 clear hR hE hB5 HF HV HL hfin w4 d0 q5 q6 q7
 go_wp2_with fail
 go_ret
 exact HFIN.out
set_option maxRecDepth 100000 in
set_option maxHeartbeats 1000000 in
theorem ew_new {L:List Fn} {K f:Nat} (hL:∀ x∈L,FewSs K x.body) (ih:EwC L K f) (a:Int) (x:Ex):EwAt L K (f+1) (.new a x):=by
 intro b P M A s N F nb n la ln lc W v t r h hg ht hfew he hr
 have hmf:∀ (fn:Go.Fn) (first cap:Array Value) (w:World),(Instr.makeFunc fn first cap).run Tryz.prog w=.ok (.func fn first cap) w:=fun _ _ _ _=>rfl
 simp only [ExAt] at he
 obtain ⟨vx,⟨g,rfl,hpg,hv⟩,hx⟩:=he
 have HP:=hiD h
 obtain ⟨W3,hW3⟩:∃ W3,W3=boxed W b (.slice la ln lc) nb (.pointer (some ⟨g,0,none⟩)):=⟨_,rfl⟩
 have HM:Hid (Mods None W W3):=hiD (by rw [hW3];exact boxed_mods _ _ _ _ _)
 have HB:Hid (Bz W W3 P M b (.slice la ln lc) nb (.pointer (some ⟨g,0,none⟩)) W.heap.size):=hiD (by rw [hW3];exact Bz.new _ _ _ h.wd.old h.wd.given)
 have HP3:=hiD (h.quiet HM.out)
 obtain ⟨av,iv,k0,ov,hb,-⟩:=HP3.out.wd.blk
 have w4:W3.cell? ⟨b,4,none⟩=some (.int .i64 0):=hb.cell rfl
 have d0:W3.cell? ⟨g,0,none⟩=some (.int .i64 6):=HM.out.cellOf (hv.cell rfl) (fun f=>f)
 have q4:=HB.out.c4.cell (i:=0) rfl
 have q5:=HB.out.c5.cell (i:=0) rfl
 have q6:=HB.out.c6.cell (i:=0) rfl
 have q7:=HB.out.c7.cell (i:=0) rfl
 clear hb
 obtain ⟨d,hd⟩:=hg
 simp only [Fit] at hd
 simp only [exprK] at ht
 obtain ⟨tx,ht1,ht⟩:=bindK_ok2 ht
 obtain ⟨u0,ht2,ht⟩:=bindK_ok2 ht
 obtain rfl:=wantT_ok ht2
 have ht:(2:Int)=t:=Except.ok.inj ht
 subst ht
 obtain ⟨xg,rfl⟩:=hx.ptr
 have hpg:P g:=Classical.not_not.1 hpg
 have d5:W3.cell? ⟨g,5,none⟩=some (.pointer (some ⟨xg,0,none⟩)):=HM.out.cellOf (hv.cell rfl) (fun f=>f)
 simp only [evE] at hr
 have hfewx:s.arrs.length+K*s.fuel+newsE x≤1000000000000:=by simp only [newsE] at hfew;omega
 obtain ⟨y,hy⟩:∃ y,evE L f s F x=some y:=by
  cases hy:evE L f s F x with
  | none=>rw [hy] at hr;cases hr
  | some y=>exact ⟨y,rfl⟩
 have HL:=hiD (left_of (R:=ResE W3.drew b P M A 1 y) HB.out d5 ((ih x b P M A s N F nb n la ln lc W3.drew _ 1 y (HP3.out.quiet ((Mods.refl _ _).drew)) ⟨_,hd.2⟩ ht1 hfewx (ew_far hx HM.out.drew) hy).mono (fun e w h=>h.int)))
 have HV:=hiD (fun (w:World) (M':Nat→Prop) (hE:Ext None M M' W3.drew w)=>(HB.out.step (Ext.quiet (Mods.refl _ _).drew)).step hE)
 have hpd:=(paid_all hL f).1 s F x y hy
 have HT:=hiD (fun vx s1 (h2:y=(.ok vx,s1))=>rep_num (ev_typed h.ty ht1 (by rw [hy,h2])).1)
 clear h hd ht1 ht2 hv hpg hx ih d5 hfew
 unfold boxed at hW3
 go_enter Tryz.func146,Tryz.ntmps146
 go_upto_region 1 with (fail)
 rw [← hW3]
 clear hW3
 go_wp2_with fail
 go_at_call 164
 refine HL.out.mono ?_
 rintro e w ⟨m,rfl,hR⟩
 rw [hy] at hr
 clear w4 d0 q4 q5 q6 q7 HL hy
 obtain ⟨y,s1⟩:=y
 cases y with
 | ok vx =>
   obtain ⟨he,M',A',h1,h2,h3⟩:=hR
   simp only [Ending.returned.injEq,Value.int.injEq,true_and] at he
   rw [HT.out vx s1 rfl] at he
   subst he
   have hr:(if vx.n<0∨vx.n > 40 then stopR 4 s1 else okR ⟨0,some s1.arrs.length⟩ { s1 with arrs:=s1.arrs++[List.replicate vx.n.toNat 0] })=some r:=hr
   have hB5:=HV.out w M' h2
   have q4:=hB5.c4.cell (i:=0) rfl
   obtain ⟨av,iv,k0,ov,hb,-⟩:=h1.blk
   have w4:w.cell? ⟨b,4,none⟩=some (.int .i64 0):=hb.cell rfl
   have H1:=hiD h1
   have HE:=hiD ((Ext.quiet (T:=None) HM.out.drew).trans h2)
   have HA:=hiD h3
   have hlen:A'.length≤4000000000000:=by
    have:=h1.arrs
    simp only at hpd
    omega
   have HLEN:=hiD hlen
   clear hB5 hb h1 h2 h3 hpd hfewx hlen HV HT
   by_cases hn:vx.n<0∨vx.n > 40
   · rw [if_pos hn] at hr
     obtain rfl:=(Option.some.inj hr).symm
     have HC:=hiD (make_no None b P M' A' s1 vx.n w H1.out hn)
     clear hr hn
     go_wp2_with fail
     go_at_call 167
     refine HC.out.mono ?_
     rintro e w5 ⟨rfl,k1,k2⟩
     have K1:=hiD k1
     have K2:=hiD k2
     clear k1 k2
     go_wp2_with fail
     go_ret
     exact ⟨0,M',rfl,by unfold I64;omega,fun _=>rfl,K1.out,HE.out.trans K2.out⟩
   · rw [if_neg hn] at hr
     obtain rfl:=(Option.some.inj hr).symm
     obtain ⟨k,hk⟩:=Int.eq_ofNat_of_zero_le (by omega:0≤vx.n)
     have HC:=hiD (make_yes None b P M' A' s1 k w H1.out (by omega) HLEN.out)
     have hkn:vx.n.toNat=k:=by rw [hk];simp
     have HKN:=hiD hkn
     rw [hk]
     clear hr hn hkn hk
     go_wp2_with fail
     go_at_call 167
     refine HC.out.mono ?_
     rintro e w5 ⟨rfl,M2,A2,k1,k2,k3⟩
     have K1:=hiD k1
     have K2:=hiD k2
     have K3:=hiD k3
     clear k1 k2 k3
     go_wp2_with fail
     go_ret
     have k9:=K1.out
     rw [← HKN.out] at k9
     exact ⟨rfl,M2,A2,k9,HE.out.trans K2.out,HA.out.trans K3.out⟩
 | error sg =>
   obtain rfl:=(Option.some.inj hr).symm
   cases sg with
   | ret k=>exact hR.elim
   | stop k =>
     obtain ⟨n',M',he,hi,h0,hW,hE⟩:=hR
     have hB5:=HV.out w M' hE
     have q4:=hB5.c4.cell (i:=0) rfl
     obtain ⟨av,iv,k0,c,ov,m9,r9,hb,-⟩:=hW.blk
     have w4:w.cell? ⟨b,4,none⟩=some (.int .i64 k):=hb.cell rfl
     have hk:(k==0)=false:=by have:=hW.way;simp;omega
     have HW:=hiD hW
     have HE:=hiD ((Ext.quiet (T:=None) HM.out.drew).trans hE)
     clear hB5 hb hW hE hi h0 he hpd hfewx HV HT
     go_wp2_with fail
     go_ret
     exact ⟨0,M',rfl,by unfold I64;omega,fun _=>rfl,HW.out,HE.out⟩
def NtAt (W:World) (P M:Nat→Prop) (nb mb n:Nat) (F:Fr) (told:Bool) (out:Int):Prop :=
 ∃ F',Blk W nb [.map (some mb),.bool told,.int .i64 out] 171∧NameMap W mb n (.int .i64 0) F'∧(∀ s,getL (.int .i64 0) F' s=.int .i64 (rep (F.get s)))∧¬ M nb∧¬ P nb∧¬ M mb∧¬ P mb∧nb≠mb
theorem NtAt.ns {W:World} {P M:Nat→Prop} {nb mb n:Nat} {F:Fr} {told:Bool} {out:Int} (h:NtAt W P M nb mb n F told out):NsAt W P M nb n F told out:=by
 obtain ⟨F',h⟩:=h
 exact ⟨mb,F',h⟩
theorem NtAt.ext {W W':World} {P M M':Nat→Prop} {nb mb n:Nat} {F:Fr} {told:Bool} {out:Int} (h:NtAt W P M nb mb n F told out) (hE:Ext None M M' W W'):NtAt W' P M' nb mb n F told out:=by
 obtain ⟨F',h1,h2,h3,h4,h5,h6,h7,h8⟩:=h
 exact ⟨F',h1.mods hE.mods (fun k=>k.elim (fun f=>f.elim) h4),h2.mods hE.mods (fun k=>k.elim (fun f=>f.elim) h6),h3,fun hm=>h4 (hE.back nb h1.lt hm),h5,fun hm=>h6 (hE.back mb h2.lt hm),h7,h8⟩
theorem NtAt.cells {W:World} {P M:Nat→Prop} {nb mb n:Nat} {F:Fr} {told:Bool} {out:Int} (h:NtAt W P M nb mb n F told out):W.cell? ⟨nb,0,none⟩=some (.map (some mb))∧W.cell? ⟨nb,1,none⟩=some (.bool told)∧W.cell? ⟨nb,2,none⟩=some (.int .i64 out)∧W.frozen? ⟨nb,1,none⟩=false∧W.frozen? ⟨nb,2,none⟩=false:=by
 obtain ⟨F',h1,-⟩:=h
 exact ⟨h1.cell rfl,h1.cell rfl,h1.cell rfl,h1.free 1,h1.free 2⟩
theorem NtAt.off {W:World} {P M:Nat→Prop} {nb mb n:Nat} {F:Fr} {told:Bool} {out:Int} (h:NtAt W P M nb mb n F told out):(¬ M nb∧¬ P nb)∧(¬ M mb∧¬ P mb)∧nb≠mb∧nb<W.heap.size∧mb<W.heap.size:=by
 obtain ⟨F',h1,h2,h3,h4,h5,h6,h7,h8⟩:=h
 exact ⟨⟨h4,h5⟩,⟨h6,h7⟩,h8,h1.lt,h2.lt⟩
theorem NtAt.put {W:World} {P M:Nat→Prop} {nb mb n:Nat} {F:Fr} {told:Bool} {out:Int} (h:NtAt W P M nb mb n F told out) (s:List UInt8) (hs:s.length≤10000000) (x:V) (hn:n<maxLen) :
 ∃ w',(Instr.mapUpdate 169 (.map (some mb)) (str s) (.int .i64 (rep x))).run Tryz.prog W=.ok () w'∧NtAt w' P M nb mb (n+1) (F.put s x) told out∧Mods (·=mb) W w':=by
 obtain ⟨F',h1,h2,h3,h4⟩:=h
 obtain ⟨w',k1,k2,k3⟩:=h2.put (t:=169) Tryz.underlying169 s hs (.int .i64 (rep x)) hn
 refine ⟨w',k1,⟨_,h1.mods k3 (fun e=>h4.2.2.2.2 e),k2,fun y=>?_,h4⟩,k3⟩
 rw [getL_put,Fr.get_put]
 split
 · rfl
 · exact h3 y
theorem NtAt.tell {W:World} {P M:Nat→Prop} {nb mb n:Nat} {F:Fr} {told:Bool} {out:Int} (h:NtAt W P M nb mb n F told out) (v:Int):NtAt ((W.setCell ⟨nb,2,none⟩ (.int .i64 v)).setCell ⟨nb,1,none⟩ (.bool true)) P M nb mb n F true v:=by
 obtain ⟨F',h1,h2,h3,h4⟩:=h
 have hne:nb≠mb:=h4.2.2.2.2
 exact ⟨F',(h1.set 2 (.int .i64 v)).set 1 (.bool true),(h2.mods (mods_put W nb 2 (.int .i64 v)) (fun e=>hne e.symm)).mods (mods_put _ nb 1 (.bool true)) (fun e=>hne e.symm),h3,h4⟩
def Tn (nb mb:Nat):Nat→Prop:=fun k=>k=nb∨k=mb
theorem _root_.Go.Proofs.YtdgedlhefjmcpaaGreatDoor.TreeP.Ext.sole {T M M':Nat→Prop} {W W':World} (h:Ext None M M' W W'):Ext T M M' W W':=h.more (fun _ _ f=>f.elim)
def ResS (W:World) (b:Nat) (P M:Nat→Prop) (A:List (Nat×Nat)) (nb mb NN:Nat):Except Sig Fr×RS→Ending→World→Prop
 | (.ok G,s)=>fun e w=>e=.returned (.tuple #[])∧∃ M' A' n,WAt w b P M' A' s∧NtAt w P M' nb mb n G false 0∧n+s.fuel≤NN∧Ext (Tn nb mb) M M' W w∧A <+: A'
 | (.error (.ret v),s)=>fun e w=>e=.returned (.tuple #[])∧∃ M' A' n G,WAt w b P M' A' s∧NtAt w P M' nb mb n G true v∧Ext (Tn nb mb) M M' W w∧A <+: A'
 | (.error (.stop k),s)=>fun e w=>e=.returned (.tuple #[])∧∃ M' n G,WEnd w b P M' k s.out∧NtAt w P M' nb mb n G false 0∧Ext (Tn nb mb) M M' W w
structure PreS (L:List Fn) (W:World) (b:Nat) (P M:Nat→Prop) (A:List (Nat×Nat)) (s:RS) (N:Nm) (F:Fr) (nb mb n:Nat) (lv:Value):Prop where
 wd:WAt W b P M A s
 ns:NtAt W P M nb mb n F false 0
 fs:FsAt W (fun k=>¬ P k) lv L
 ty:FTy s N F
 rs:RsOk s
 fr:FrOk F
 nm:NmOk N
theorem PreS.pre {L:List Fn} {W:World} {b:Nat} {P M:Nat→Prop} {A:List (Nat×Nat)} {s:RS} {N:Nm} {F:Fr} {nb mb n:Nat} {lv:Value} (h:PreS L W b P M A s N F nb mb n lv):Pre L W b P M A s N F nb n lv :=
 ⟨h.wd,h.ns.ns,h.fs,h.ty,h.rs,h.fr⟩
theorem PreS.quiet {L:List Fn} {W W':World} {b:Nat} {P M:Nat→Prop} {A:List (Nat×Nat)} {s:RS} {N:Nm} {F:Fr} {nb mb n:Nat} {lv:Value} (h:PreS L W b P M A s N F nb mb n lv) (hm:Mods None W W'):PreS L W' b P M A s N F nb mb n lv :=
 ⟨h.wd.quiet hm,h.ns.ext (Ext.quiet hm),h.fs.mods (hm.mono fun _ _ f=>f.elim) (fun _ _ k=>k),h.ty,h.rs,h.fr,h.nm⟩
theorem PreS.ext {L:List Fn} {W W':World} {b:Nat} {P M M':Nat→Prop} {A A':List (Nat×Nat)} {s s':RS} {N:Nm} {F:Fr} {nb mb n:Nat} {lv:Value} (h:PreS L W b P M A s N F nb mb n lv) (hE:Ext None M M' W W') (hw:WAt W' b P M' A' s') (ho:ArrsOn s s') (hr:RsOk s'):PreS L W' b P M' A' s' N F nb mb n lv :=
 ⟨hw,h.ns.ext hE,h.fs.mods (hE.mods.mono fun k _ hk=>hk.elim (fun f=>f.elim) (h.wd.off k)) (fun _ _ k=>k),h.ty.on ho,hr,h.fr,h.nm⟩
theorem PreS.after {L:List Fn} {K f:Nat} (hL:∀ x∈L,FewSs K x.body) (hN:∀ x∈L,NumSts x.body) {W w:World} {b:Nat} {P M M':Nat→Prop} {A A':List (Nat×Nat)} {s s1:RS} {N:Nm} {F:Fr} {nb mb n:Nat} {lv:Value} {x:Ex} {t:Int} {vx:V} {c B d:Nat}
 (h:PreS L W b P M A s N F nb mb n lv) (hk:exprK L N x=.ok t) (hf:Fit x d) (hy:evE L f s F x=some (.ok vx,s1)) (hE:Ext None M M' W w) (hw:WAt w b P M' A' s1) (hB:s.arrs.length+K*s.fuel+(newsE x+c)≤B) :
 PreS L w b P M' A' s1 N F nb mb n lv∧s1.arrs.length+K*s1.fuel+c≤B∧VTy s1 t vx∧I64 vx.n:=by
 obtain ⟨h1,h2⟩:=ev_typed h.ty hk hy
 obtain ⟨h3,h4⟩:=(((rg_all hN f).1 s F x h.rs h.fr (fit_num x d hf)) _ hy).1 vx rfl
 have h5:=(paid_all hL f).1 s F x _ hy
 simp only at h5
 exact ⟨h.ext hE hw h2 h4,by omega,h1,h3⟩
def stmtB (L:List Fn) (f:Nat) (s:RS) (F:Fr):St→RM Fr
 | .var _ n v=>bindR (evE L f s F v) fun y s=>okR (F.put n y) s
 | .set _ n v=>bindR (evE L f s F v) fun y s=>okR (F.put n y) s
 | .put _ n i v=>bindR (evE L f s F i) fun k s=>bindR (evE L f s F v) fun y s=>bindR (placeR s (F.get n) k.n) fun _ s=>okR F (putArr s (F.get n) k.n y.n)
 | .cond _ v t e=>bindR (evE L f s F v) fun c s=>if c.n≠0 then blockR L f s F t else blockR L f s F e
 | .loop _ v t=>whileR L f s F v t
 | .ret _ v=>bindR (evE L f s F v) fun y s=>some (.error (.ret y.n),s)
 | .print _ v=>bindR (evE L f s F v) fun y s=>if s.out.length≥200 then stopR 7 s else okR F { s with out:=s.out++[y.n] }
 | .call _ v=>bindR (evE L f s F v) fun _ s=>okR F s
theorem stmtR_eq (L:List Fn) (f:Nat) (s:RS) (F:Fr) (x:St):stmtR L (f+1) s F x=bindR (stepR s) fun _ s=>stmtB L f s F x:=by
 simp only [stmtR]
 refine congrArg _ (funext fun _=>funext fun s=>?_)
 cases x <;> rfl
def SwC (L:List Fn) (K f:Nat):Prop:=∀ (x:St) (cs:List Value) (b:Nat) (P M:Nat→Prop) (A:List (Nat×Nat)) (s:RS) (N N':Nm) (m m':Nat) (F:Fr) (nb mb n NN d:Nat) (la:Option Addr) (ln lc:Nat) (W:World) (r:Except Sig Fr×RS),
 PreS L W b P M A s N F nb mb n (.slice la ln lc)→FitS x d→FewS K x→stmtK L N m x=.ok (N',m')→s.arrs.length+K*s.fuel+K≤1000000000000→n+1+s.fuel≤NN→NN≤4100000000000000000→StAt W (fun k=>¬ P k) x cs→stmtB L f s F x=some r →
 Calls Tryz.prog 126 #[.pointer (some ⟨b,0,none⟩),.slice la ln lc,.pointer (some ⟨nb,0,none⟩),.agg cs.toArray] W (ResS W b P M A nb mb NN r)
def BwC (L:List Fn) (K f:Nat):Prop:=∀ (l:List St) (lv:Value) (vs:List Value) (b:Nat) (P M:Nat→Prop) (A:List (Nat×Nat)) (s:RS) (N N':Nm) (m m':Nat) (F:Fr) (nb mb n NN d:Nat) (la:Option Addr) (ln lc:Nat) (W:World) (r:Except Sig Fr×RS),
 PreS L W b P M A s N F nb mb n (.slice la ln lc)→FitSs l d→FewSs K l→stmtsK L N m l=.ok (N',m')→s.arrs.length+K*s.fuel≤1000000000000→n+s.fuel≤NN→NN≤4100000000000000000→RowAt W (fun k=>¬ P k) 143 7 lv l.length vs→StsAt W (fun k=>¬ P k) l vs→blockR L f s F l=some r →
 Calls Tryz.prog 94 #[.pointer (some ⟨b,0,none⟩),.slice la ln lc,.pointer (some ⟨nb,0,none⟩),lv] W (ResS W b P M A nb mb NN r)
def Dead (W:World) (b:Nat) (P M:Nat→Prop) (A:List (Nat×Nat)) (nb mb NN:Nat) (r:Except Sig Fr×RS) (wr:World):Prop:=ResS W b P M A nb mb NN r (.returned (.tuple #[])) wr∧∃ sg s',r=(.error sg,s')
theorem Dead.flags {W:World} {b:Nat} {P M:Nat→Prop} {A:List (Nat×Nat)} {nb mb NN:Nat} {r:Except Sig Fr×RS} {wr:World} (h:Dead W b P M A nb mb NN r wr):∃ (told:Bool) (k:Int),wr.cell? ⟨nb,1,none⟩=some (.bool told)∧wr.cell? ⟨b,4,none⟩=some (.int .i64 k)∧(told=true∨(told=false∧(k==0)=false)):=by
 obtain ⟨h,sg,s',rfl⟩:=h
 cases sg with
 | ret v =>
   obtain ⟨-,M',A',n,G,h1,h2,-⟩:=h
   obtain ⟨av,iv,k,ov,hb,-⟩:=h1.blk
   exact ⟨true,0,h2.cells.2.1,hb.cell rfl,Or.inl rfl⟩
 | stop k =>
   obtain ⟨-,M',n,G,h1,h2,-⟩:=h
   obtain ⟨av,iv,k0,c,ov,m,r,hb,-⟩:=h1.blk
   exact ⟨false,k,h2.cells.2.1,hb.cell rfl,Or.inr ⟨rfl,by have:=h1.way;simp;omega⟩⟩
theorem WAt.setArr {w:World} {b:Nat} {P M:Nat→Prop} {A:List (Nat×Nat)} {s:RS} (h:WAt w b P M A s) {i g:Nat} {l:List Int} (h2:A[i]?=some (g,l.length)) (hl:s.arrs[i]?=some l) (j:Nat) (x:Int) :
 WAt (w.setCell ⟨g,j,none⟩ (.int .i64 x)) b P M A { s with arrs:=s.arrs.set i (l.set j x) }∧Ext None M M w (w.setCell ⟨g,j,none⟩ (.int .i64 x)):=by
 obtain ⟨av,iv,k,ov,k1,k2,k3,k4,k5,k6,k7,k8⟩:=h.blk
 have hm:Mods (·=g) w (w.setCell ⟨g,j,none⟩ (.int .i64 x)):=mods_put _ _ _ _
 have hgm:=List.mem_of_getElem? h2
 have hMg:=(h.mine g _ hgm).1
 have hmP:Mods (fun k=>¬ P k) w (w.setCell ⟨g,j,none⟩ (.int .i64 x)):=hm.mono fun k _ e=>by rw [e];exact h.off g hMg
 refine ⟨⟨⟨av,iv,k,ov,k1.mods hm (fun e=>(h.mine g _ hgm).2 e.symm),k2,k3.mods hmP (fun _ _ k=>k),hm.ownsRow k4 (fun k hk e=>(k5 k hk).2.2 g _ hgm e.symm),k5,hm.ownsRow k6 (fun k hk e=>(k7 k hk).2.2 g _ hgm e.symm),k7,k8⟩,h.has,by simpa using h.arrs,?_,h.mine,h.apart,fun k hk=>Nat.lt_of_lt_of_le (h.old k hk) hm.size,h.off,fun k hk=>Nat.lt_of_lt_of_le (h.given k hk) hm.size,h.few,h.calls⟩,⟨hm.mono fun k _ e=>Or.inr (by rw [e];exact hMg),fun _ _ k=>k⟩⟩
 intro i2 l2 hl2
 by_cases hi:i2=i
 · subst hi
   have hlt:i2<s.arrs.length:=(List.getElem?_eq_some_iff.1 hl).1
   rw [List.getElem?_set_self hlt] at hl2
   obtain rfl:=Option.some.inj hl2
   obtain ⟨g',e1,e2,e3⟩:=h.arr i2 l hl
   rw [h2] at e1
   obtain ⟨rfl,-⟩:=Prod.mk.inj (Option.some.inj e1)
   refine ⟨g,by rw [List.length_set];exact h2,?_,by rw [List.length_set];exact e3⟩
   rw [List.map_set]
   exact e2.set j (.int .i64 x)
 · rw [List.getElem?_set_ne (fun e=>hi e.symm)] at hl2
   obtain ⟨g',e1,e2,e3⟩:=h.arr i2 l2 hl2
   refine ⟨g',e1,e2.mods hm ?_,e3⟩
   intro e
   subst e
   have hlt1:i2<A.length:=(List.getElem?_eq_some_iff.1 e1).1
   have hlt2:i<A.length:=(List.getElem?_eq_some_iff.1 h2).1
   have hp:=List.pairwise_iff_getElem.1 h.apart
   have q1:=(List.getElem?_eq_some_iff.1 e1).2
   have q2:=(List.getElem?_eq_some_iff.1 h2).2
   rcases Nat.lt_or_gt_of_ne hi with hlt|hlt
   · exact hp i2 i hlt1 hlt2 hlt (by rw [q1,q2])
   · exact hp i i2 hlt2 hlt1 hlt (by rw [q1,q2])
theorem ResS.quiet {W w w':World} {b:Nat} {P M:Nat→Prop} {A:List (Nat×Nat)} {nb mb NN:Nat} {r:Except Sig Fr×RS} {e:Ending} (h:ResS W b P M A nb mb NN r e w) (hm:Mods None w w'):ResS W b P M A nb mb NN r e w':=by
 obtain ⟨y,s⟩:=r
 cases y with
 | ok G =>
   obtain ⟨h0,M',A',n,h1,h2,h3,h4,h5⟩:=h
   exact ⟨h0,M',A',n,h1.quiet hm,h2.ext (Ext.quiet hm),h3,h4.trans (Ext.quiet hm),h5⟩
 | error g =>
   cases g with
   | ret v =>
     obtain ⟨h0,M',A',n,G,h1,h2,h3,h4⟩:=h
     exact ⟨h0,M',A',n,G,h1.quiet hm,h2.ext (Ext.quiet hm),h3.trans (Ext.quiet hm),h4⟩
   | stop k =>
     obtain ⟨h0,M',n,G,h1,h2,h3⟩:=h
     exact ⟨h0,M',n,G,h1.quiet hm,h2.ext (Ext.quiet hm),h3.trans (Ext.quiet hm)⟩
theorem ResS.told {W w:World} {b:Nat} {P M:Nat→Prop} {A:List (Nat×Nat)} {nb mb NN:Nat} {r:Except Sig Fr×RS} {e:Ending} (h:ResS W b P M A nb mb NN r e w):e=.returned (.tuple #[]):=by
 obtain ⟨y,s⟩:=r
 cases y with
 | ok G=>exact h.1
 | error g=>cases g <;> exact h.1
theorem ResS.off {W w:World} {b:Nat} {P M:Nat→Prop} {A:List (Nat×Nat)} {nb mb NN:Nat} {r:Except Sig Fr×RS} {e:Ending} (h:ResS W b P M A nb mb NN r e w):∃ M',Ext (Tn nb mb) M M' W w:=by
 obtain ⟨y,s⟩:=r
 cases y with
 | ok G =>
   obtain ⟨h0,M',A',n,h1,h2,h3,h4,h5⟩:=h
   exact ⟨M',h4⟩
 | error g =>
   cases g with
   | ret v =>
     obtain ⟨h0,M',A',n,G,h1,h2,h3,h4⟩:=h
     exact ⟨M',h3⟩
   | stop k =>
     obtain ⟨h0,M',n,G,h1,h2,h3⟩:=h
     exact ⟨M',h3⟩
theorem ResS.before {W w w':World} {b:Nat} {P M M1:Nat→Prop} {A A1:List (Nat×Nat)} {nb mb NN:Nat} {r:Except Sig Fr×RS} {e:Ending} (h:ResS w b P M1 A1 nb mb NN r e w') (hE:Ext (Tn nb mb) M M1 W w) (hA:A <+: A1):ResS W b P M A nb mb NN r e w':=by
 obtain ⟨y,s⟩:=r
 cases y with
 | ok G =>
   obtain ⟨h0,M',A',n,h1,h2,h3,h4,h5⟩:=h
   exact ⟨h0,M',A',n,h1,h2,h3,hE.trans h4,hA.trans h5⟩
 | error g =>
   cases g with
   | ret v =>
     obtain ⟨h0,M',A',n,G,h1,h2,h3,h4⟩:=h
     exact ⟨h0,M',A',n,G,h1,h2,hE.trans h3,hA.trans h4⟩
   | stop k =>
     obtain ⟨h0,M',n,G,h1,h2,h3⟩:=h
     exact ⟨h0,M',n,G,h1,h2,hE.trans h3⟩
end Go.Proofs.YtdgedlhefjmcpaaGreatDoor.TreeP.R

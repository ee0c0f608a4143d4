/- The document's runner: a block. Conditions: what it has lies. The document's runner: a call in an expression. Conditions: what it has lies. The document's runner: all of it. Conditions: what it has lies. Plainly: a program that was read makes few arrays at each step; its numbers. No program in sight. No conditions. The runner, whole. Conditions: what it has lies; functions are right. -/
import Derived.Test.YtdgedlhefjmcpaaGreatDoorEn27
import Derived.Test.YtdgedlhefjmcpaaGreatDoorEn34
import Derived.Test.YtdgedlhefjmcpaaGreatDoorEn31
import Derived.Test.YtdgedlhefjmcpaaGreatDoorEn23
import Derived.Test.YtdgedlhefjmcpaaGreatDoorEn35
import Derived.Test.YtdgedlhefjmcpaaGreatDoorEn36
import Derived.Test.YtdgedlhefjmcpaaGreatDoorEn26
import Derived.Test.YtdgedlhefjmcpaaGreatDoorEn08
namespace Go.Proofs.YtdgedlhefjmcpaaGreatDoor.TreeP.R
open Go.RowKit Go.Proofs.YtdgedlhefjmcpaaGreatDoor.Wo Go.Proofs.YtdgedlhefjmcpaaGreatDoor.TreeP Go.Proofs.YtdgedlhefjmcpaaGreatDoor.AluP
set_option linter.unusedVariables false
set_option linter.unusedSimpArgs false
theorem fitSs_at:{l:List St}→{d:Nat}→FitSs l d→(i:Nat)→(x:St)→l[i]?=some x→FitS x d
 | [],d,_,i,x,h=>by simp at h
 | a::r,d,hg,0,x,h=>by
   simp only [FitSs] at hg
   simp only [List.getElem?_cons_zero,Option.some.injEq] at h
   exact h ▸ hg.1
 | a::r,d,hg,i+1,x,h=>by
   simp only [FitSs] at hg
   exact fitSs_at hg.2 i x (by simpa using h)
theorem fewSs_at {K:Nat}:{l:List St}→FewSs K l→(i:Nat)→(x:St)→l[i]?=some x→FewS K x
 | [],_,i,x,h=>by simp at h
 | a::r,hg,0,x,h=>by
   simp only [FewSs] at hg
   simp only [List.getElem?_cons_zero,Option.some.injEq] at h
   exact h ▸ hg.1
 | a::r,hg,i+1,x,h=>by
   simp only [FewSs] at hg
   exact fewSs_at hg.2 i x (by simpa using h)
theorem drop_at {l:List St} {i:Nat} {x:St} (h:l[i]?=some x):l.drop i=x::l.drop (i+1):=by
 obtain ⟨h1,h2⟩:=List.getElem?_eq_some_iff.1 h
 rw [← h2]
 exact List.drop_eq_getElem_cons h1
structure Live (L:List Fn) (K f:Nat) (W:World) (b:Nat) (P M:Nat→Prop) (A:List (Nat×Nat)) (nb mb NN:Nat) (lv:Value) (l:List St) (r:Except Sig Fr×RS) (i k:Nat) (s:RS) (N:Nm) (F:Fr) (M':Nat→Prop) (A':List (Nat×Nat)) (n:Nat) (wr:World):Prop where
 le:k≤f
 run:blockR L k s F (l.drop i)=some r
 pre:PreS L wr b P M' A' s N F nb mb n lv
 typ:∃ N' m m',stmtsK L N m (l.drop i)=.ok (N',m')
 few:s.arrs.length+K*s.fuel≤1000000000000
 room:n+s.fuel≤NN
 ext:Ext (Tn nb mb) M M' W wr
 more:A <+: A'
theorem Live.next {L:List Fn} {K f:Nat} (hL:∀ x∈L,FewSs K x.body) (hN:∀ x∈L,NumSts x.body) {W:World} {b:Nat} {P M:Nat→Prop} {A:List (Nat×Nat)} {nb mb NN:Nat} {lv:Value} {l:List St} {r:Except Sig Fr×RS} {i k:Nat} {s:RS} {N:Nm} {F:Fr} {M':Nat→Prop} {A':List (Nat×Nat)} {n:Nat} {wr:World} {x:St} {d:Nat}
 (h:Live L K f W b P M A nb mb NN lv l r i (k+1) s N F M' A' n wr) (hx:l[i]?=some x) (hd:FitSs l d) (hk:FewSs K l) {y:Except Sig Fr×RS} (hy:stmtR L k s F x=some y) {w:World} {e:Ending} (hR:ResS wr b P M' A' nb mb NN y e w) :
 e=.returned (.tuple #[])∧((∃ k s N F M' A' n,Live L K f W b P M A nb mb NN lv l r (i+1) k s N F M' A' n w)∨Dead W b P M A nb mb NN r w):=by
 have hdrop:l.drop i=x::l.drop (i+1):=by
  obtain ⟨h1,h2⟩:=List.getElem?_eq_some_iff.1 hx
  rw [← h2]
  exact List.drop_eq_getElem_cons h1
 have hrun:=h.run
 rw [hdrop] at hrun
 simp only [blockR,hy] at hrun
 obtain ⟨N',m,m',htyp⟩:=h.typ
 rw [hdrop] at htyp
 simp only [stmtsK] at htyp
 obtain ⟨⟨N1,m1⟩,ht1,ht2⟩:=bindK_ok2 htyp
 obtain ⟨y,s2⟩:=y
 cases y with
 | ok G =>
   obtain ⟨rfl,M2,A2,n2,k1,k2,k3,k4,k5⟩:=hR
   have h1:=(stmts_typed L k).1 s N N1 m m1 F x h.pre.nm h.pre.ty ht1 _ hy
   have hnum:NumSt x:=NumSts.at_ (fitSs_num l d hd) i x hx
   have h2:=(((rg_all hN k).2.2.2.2.1 s F x h.pre.rs h.pre.fr hnum) _ hy).1 G rfl
   have h3:=(paid_all hL k).2.2.2.2.1 s F x (fewSs_at hk i x hx) _ hy
   have hmP:Mods (fun k=>¬ P k) wr w:=k4.mods.mono fun k _ hk=>hk.elim (fun e=>by
    obtain ⟨o1,o2,-⟩:=k2.off
    rcases e with rfl|rfl
    · exact o1.2
    · exact o2.2) (h.pre.wd.off k)
   refine ⟨rfl,Or.inl ⟨k,s2,N1,G,M2,A2,n2,?_⟩⟩
   exact ⟨by have:=h.le;omega,hrun,⟨k1,k2,h.pre.fs.mods hmP (fun _ _ k=>k),h1.2 G rfl,h2.2,h2.1,(stmtK_ext L x N N1 m m1 h.pre.nm ht1).ok⟩,⟨N',m1,m',ht2⟩,by have:=h.few;simp only at h3;omega,k3,h.ext.trans k4,h.more.trans k5⟩
 | error g =>
   obtain rfl:=(Option.some.inj hrun).symm
   cases g with
   | ret v =>
     obtain ⟨rfl,M2,A2,n2,G,k1,k2,k3,k4⟩:=hR
     exact ⟨rfl,Or.inr ⟨⟨rfl,M2,A2,n2,G,k1,k2,h.ext.trans k3,h.more.trans k4⟩,_,_,rfl⟩⟩
   | stop q =>
     obtain ⟨rfl,M2,n2,G,k1,k2,k3⟩:=hR
     exact ⟨rfl,Or.inr ⟨⟨rfl,M2,n2,G,k1,k2,h.ext.trans k3⟩,_,_,rfl⟩⟩
theorem Live.flags {L:List Fn} {K f:Nat} {W:World} {b:Nat} {P M:Nat→Prop} {A:List (Nat×Nat)} {nb mb NN:Nat} {lv:Value} {l:List St} {r:Except Sig Fr×RS} {i k:Nat} {s:RS} {N:Nm} {F:Fr} {M':Nat→Prop} {A':List (Nat×Nat)} {n:Nat} {wr:World}
 (h:Live L K f W b P M A nb mb NN lv l r i k s N F M' A' n wr):wr.cell? ⟨nb,1,none⟩=some (.bool false)∧wr.cell? ⟨b,4,none⟩=some (.int .i64 0):=by
 obtain ⟨av,iv,k,ov,hb,-⟩:=h.pre.wd.blk
 exact ⟨h.pre.ns.cells.2.1,hb.cell rfl⟩
theorem Live.burnt {L:List Fn} {K f:Nat} {W:World} {b:Nat} {P M:Nat→Prop} {A:List (Nat×Nat)} {nb mb NN:Nat} {lv:Value} {l:List St} {r:Except Sig Fr×RS} {i k:Nat} {s:RS} {N:Nm} {F:Fr} {M':Nat→Prop} {A':List (Nat×Nat)} {n:Nat} {wr w:World} {x:St} {q:Int} {s2:RS}
 (h:Live L K f W b P M A nb mb NN lv l r i (k+1+1) s N F M' A' n wr) (hx:l[i]?=some x) (hst:stepR s=some (.error (.stop q),s2)) {M2:Nat→Prop} (h1:WEnd w b P M2 q s2.out) (h2:Ext None M' M2 wr w):ResS W b P M A nb mb NN r (.returned (.tuple #[])) w:=by
 have hdrop:l.drop i=x::l.drop (i+1):=by
  obtain ⟨h1,h2⟩:=List.getElem?_eq_some_iff.1 hx
  rw [← h2]
  exact List.drop_eq_getElem_cons h1
 have hrun:=h.run
 rw [hdrop] at hrun
 simp only [blockR,stmtR_eq,hst] at hrun
 obtain rfl:=(Option.some.inj hrun).symm
 exact ⟨rfl,M2,n,F,h1,h.pre.ns.ext h2,h.ext.trans h2.sole⟩
set_option maxRecDepth 100000 in
set_option maxHeartbeats 1600000 in
theorem bw_any {L:List Fn} {K f:Nat} (hL:∀ x∈L,FewSs K x.body) (hN:∀ x∈L,NumSts x.body) (ih:∀ k,k<f→SwC L K k):BwC L K f:=by
 intro l lv vs b P M A s N N' m m' F nb mb n NN d la ln lc W r h hd hk ht hfew hroom hNN hrow hst hr
 have HL0:Hid (Live L K f W b P M A nb mb NN (.slice la ln lc) l r 0 f s N F M A n W):=hiD ⟨Nat.le_refl _,hr,h,⟨N',m,m',ht⟩,hfew,hroom,Ext.refl _ _ _,List.prefix_refl _⟩
 obtain ⟨sa,sc,rfl⟩:=lex_form hrow.1
 have hcap:l.length≤sc∧sc≤maxLen:=by
  obtain ⟨sa2,sc2,he,hsc,hsm,-⟩:=ownsRow_slice hrow.1
  simp only [Value.slice.injEq] at he
  obtain ⟨-,-,rfl⟩:=he
  exact ⟨hsc,hsm⟩
 have HRC:=hiD (fun (w:World) (hm:Mods (fun k=>¬ P k) W w)=>row_cells (hrow.mods hm (fun _ _ k=>k)) (StsAt.modsTo hm (fun _ _ k=>k) _ _ hst))
 have HP:Hid (∀ k,(Tn nb mb k∨M k)→¬ P k):=hiD (fun k hk=>hk.elim (fun e=>by
  obtain ⟨o1,o2,-⟩:=h.ns.off
  rcases e with rfl|rfl
  · exact o1.2
  · exact o2.2) (h.wd.off k))
 have HG:=hiD (And.intro hd (And.intro hk hNN))
 have HIH:=hiD ih
 have HLL:=hiD (And.intro hL hN)
 obtain ⟨nl,hnl⟩:∃ nl,nl=l.length:=⟨_,rfl⟩
 have HNL:=hiD hnl
 rw [← hnl] at hcap
 obtain ⟨hc1,hc2⟩:=hcap
 unfold maxLen at hc2
 rw [← hnl]
 clear h hd hk ht hfew hroom hNN hrow hst hr ih hL hN hnl
 go_enter Tryz.func94,Tryz.ntmps94
 go_wp2_with fail
 go_loopw [9,12] (fun _ iv wr=>∃ (i:Nat),i≤nl∧iv=.int .i64 i∧Hid ((∃ k s N F M' A' n,Live L K f W b P M A nb mb NN (.slice la ln lc) l r i k s N F M' A' n wr)∨Dead W b P M A nb mb NN r wr)) (fun _ iv _=>(nl-intOf iv).toNat)
 case atStart=>exact ⟨0,Nat.zero_le _,rfl,hiD (Or.inl ⟨_,_,_,_,_,_,_,HL0.out⟩)⟩
 case round =>
  clear HL0
  obtain ⟨i,hi,rfl,HS⟩:=hrel
  by_cases hlt:i<nl
  · have hil:i<l.length:=by have:=HNL.out;omega
    have hx:l[i]?=some l[i]:=List.getElem?_eq_getElem hil
    have hmP:Mods (fun k=>¬ P k) W wr:=by
        rcases HS.out with ⟨k,s,N,F,M',A',n,h⟩|⟨h,-⟩
        · exact h.ext.mods.mono (fun k _ hk=>HP.out k hk)
        · obtain ⟨M',h1⟩:=h.off
          exact h1.mods.mono (fun k _ hk=>HP.out k hk)
    obtain ⟨g,code,a,name,p,q,oa,on,oc,ob,om,od,rfl,k0,k1,k2,k3,k4,k5,k6,hs⟩:=HRC.out wr hmP i hil
    obtain ⟨x,hxe⟩:∃ x,x=l[i]:=⟨_,rfl⟩
    rw [← hxe] at hs hx
    clear hxe
    have hpi:(i:Int)<(nl:Int):=by omega
    obtain ⟨W1,hW1⟩:∃ W1,W1=wr.alloc (.cells #[.int .i64 code,.int .i64 a,.string name,.pointer p,.pointer q,.slice oa on oc,.slice ob om od] 143):=⟨_,rfl⟩
    have hMA:Mods None wr W1:=by rw [hW1];exact (Mods.refl _ _).alloc _
    have HMA:=hiD hMA
    have HB1:Hid (Blk W1 wr.heap.size [.int .i64 code,.int .i64 a,.string name,.pointer p,.pointer q,.slice oa on oc,.slice ob om od] 143):=hiD (by rw [hW1];exact Blk.new wr _ _)
    have hi7:(i:Int)<9223372036854775807:=by omega
    rcases HS.out with ⟨k,s1,N1,F1,M1,A1,n1,hlive⟩|hdead
    · obtain ⟨k,rfl⟩:∃ k',k=k'+1+1:=by
       have hrun:=hlive.run
       rw [drop_at hx] at hrun
       rcases k with _|_|k
       · simp only [blockR] at hrun;cases hrun
       · simp only [blockR,stmtR,bindR] at hrun;cases hrun
       · exact ⟨k,rfl⟩
      have HV:=hiD hlive
      obtain ⟨t1,w4⟩:=hlive.flags
      have t1:=hMA.cellOf t1 (fun f=>f)
      have w4:=hMA.cellOf w4 (fun f=>f)
      obtain ⟨y,hy⟩:∃ y,stepR s1=some y:=by unfold stepR;split <;> exact ⟨_,rfl⟩
      have HY:=hiD hy
      have HSP:=hiD (spend_any None b P M1 A1 s1 W1 y (hlive.pre.wd.quiet hMA) hy)
      have HSX:=hiD (StAt.modsTo (hMA.mono fun _ _ f=>f.elim) (fun _ _ k=>k) _ _ hs)
      have HPX:=hiD (hlive.pre.quiet hMA)
      clear hs hmP hMA hlive HS hi hil hy
      have HX:=hiD hx
      clear hx
      go_upto_region 3 with (fail)
      rw [← hW1]
      clear hW1 k0 k1 k2 k3 k4 k5 k6
      go_wp2_with fail
      go_at_call 125
      refine HSP.out.mono ?_
      intro e w hZ
      obtain ⟨y,s2⟩:=y
      cases y with
      | error sg =>
        cases sg with
        | ret v=>exact hZ.elim
        | stop q2 =>
          obtain ⟨rfl,M2,e1,e2⟩:=hZ
          have HF:=hiD (HV.out.burnt HX.out HY.out e1 ((Ext.quiet HMA.out).trans e2))
          clear e1 e2 t1 w4
          go_wp2_with fail
          go_end0
          exact HF.out
      | ok u =>
        obtain ⟨M2,A2,rfl,e1,e2,e3⟩:=hZ
        have hfu:=step_ok HY.out
        have hs2:s2={ s1 with fuel:=s1.fuel-1 }:=by
         have:=HY.out
         unfold stepR at this
         split at this
         · cases this
         · exact (Prod.mk.inj (Option.some.inj this)).2.symm
        have hdrop:=drop_at HX.out
        have hrun:=HV.out.run
        rw [hdrop] at hrun
        simp only [blockR] at hrun
        obtain ⟨z,hz⟩:∃ z,stmtR L (k+1) s1 F1 x=some z:=by
         cases hz:stmtR L (k+1) s1 F1 x with
         | none=>rw [hz] at hrun;cases hrun
         | some z=>exact ⟨z,rfl⟩
        have hz2:=hz
        rw [stmtR_eq,HY.out] at hz2
        have hz2:stmtB L k s2 F1 x=some z:=hz2
        obtain ⟨N9,m1,m9,htyp⟩:=HV.out.typ
        rw [hdrop] at htyp
        simp only [stmtsK] at htyp
        obtain ⟨⟨N2,m2⟩,ht1,-⟩:=bindK_ok2 htyp
        have hpre:=HPX.out.ext e2 e1 (by rw [hs2];exact Nat.le_refl _) (by rw [hs2];exact HPX.out.rs)
        have hmPx:Mods (fun k=>¬ P k) W1 w:=e2.mods.mono fun k _ hk=>hk.elim (fun f=>f.elim) (HPX.out.wd.off k)
        have hlefk:=HV.out.le
        have hfew:=HV.out.few
        have hroom:=HV.out.room
        have hfew2:s2.arrs.length+K*s2.fuel+K≤1000000000000:=by
         have h1:s2.arrs=s1.arrs:=by rw [hs2]
         rw [h1]
         rw [← hfu,Nat.mul_add,Nat.mul_one] at hfew
         omega
        have HC:=hiD (HIH.out k (by omega) _ _ b P M2 A2 s2 N1 N2 m1 m2 F1 nb mb n1 NN d la ln lc w z hpre (fitSs_at HG.out.1 i _ HX.out) (fewSs_at HG.out.2.1 i _ HX.out) ht1 hfew2 (by omega) HG.out.2.2 (StAt.modsTo hmPx (fun _ _ k=>k) _ _ HSX.out) hz2)
        have HZ:=hiD hz
        have HE:=hiD (((Ext.quiet HMA.out).trans e2).sole (T:=Tn nb mb))
        have HA:=hiD e3
        have b1:=(HB1.out.mods e2.mods (fun hk=>hk.elim (fun f=>f.elim) (fun hm=>absurd (HV.out.pre.wd.old _ hm) (Nat.lt_irrefl _)))).cell (i:=0) rfl
        have HB9:=hiD (HB1.out.mods e2.mods (fun hk=>hk.elim (fun f=>f.elim) (fun hm=>absurd (HV.out.pre.wd.old _ hm) (Nat.lt_irrefl _))))
        have b2:=HB9.out.cell (i:=1) rfl
        have b3:=HB9.out.cell (i:=2) rfl
        have b4:=HB9.out.cell (i:=3) rfl
        have b5:=HB9.out.cell (i:=4) rfl
        have b6:=HB9.out.cell (i:=5) rfl
        have b7:=HB9.out.cell (i:=6) rfl
        have HHI:=hiD (show i<nl by have h1:=(List.getElem?_eq_some_iff.1 HX.out).1;have h2:=HNL.out;omega)
        clear e1 e2 e3 t1 w4 hpre hmPx hlefk hfew hroom hfew2 hz hz2 htyp ht1 hrun hdrop hs2 hfu
        go_wp2_with fail
        go_at_call 126
        refine HC.out.mono ?_
        intro e w9 hR
        obtain ⟨rfl,hnext⟩:=HV.out.next HLL.out.1 HLL.out.2 HX.out HG.out.1 HG.out.2.1 HZ.out (hR.before HE.out HA.out)
        have HN:=hiD hnext
        clear hR hnext HC
        go_wp2_with fail
        exact ⟨⟨i+1,by have:=HHI.out;omega,by go_num,HN⟩,by have:=HHI.out;simp [intOf];omega⟩
    · obtain ⟨told,q4,t1,w4,hflag⟩:=hdead.flags
      have t1:=hMA.cellOf t1 (fun f=>f)
      have w4:=hMA.cellOf w4 (fun f=>f)
      have HF:=hiD (hdead.1.quiet hMA)
      clear hs hmP hMA hdead HS hi hil hx
      rcases hflag with rfl|⟨rfl,hk0⟩
      · go_upto_region 3 with (fail)
        rw [← hW1]
        clear hW1 k0 k1 k2 k3 k4 k5 k6
        go_wp2_with fail
        go_end0
        exact HF.out
      · have hk1:(q4 != 0)=true:=by simpa using hk0
        go_upto_region 3 with (fail)
        rw [← hW1]
        clear hW1 k0 k1 k2 k3 k4 k5 k6
        go_wp2_with fail
        go_end0
        exact HF.out
  · obtain rfl:i=nl:=by omega
    have hpi:¬ (i:Int)<(i:Int):=by omega
    have hd:l.drop i=[]:=by rw [HNL.out];exact List.drop_length
    have HF:Hid (ResS W b P M A nb mb NN r (.returned (.tuple #[])) wr):=hiD (by
        rcases HS.out with ⟨k,s,N,F,M',A',n,h⟩|⟨h,-⟩
        · have hx:=h.run
          rw [hd] at hx
          cases k with
          | zero=>simp only [blockR] at hx;cases hx
          | succ k =>
            simp only [blockR] at hx
            obtain rfl:=(Option.some.inj hx).symm
            exact ⟨rfl,M',A',n,h.pre.wd,h.pre.ns,h.room,h.ext,h.more⟩
        · exact h)
    clear HS hd
    go_wp2_with fail
    go_end0
    exact HF.out
theorem fits_at:{l:List Ex}→{d:Nat}→Fits l d→(i:Nat)→(e:Ex)→l[i]?=some e→Fit e d
 | [],d,_,i,e,h=>by simp at h
 | a::r,d,hg,0,e,h=>by
   simp only [Fits] at hg
   simp only [List.getElem?_cons_zero,Option.some.injEq] at h
   exact h ▸ hg.1
 | a::r,d,hg,i+1,e,h=>by
   simp only [Fits] at hg
   exact fits_at hg.2 i e (by simpa using h)
theorem args_typ {L:List Fn} {N:Nm}:{l:List Ex}→{ks:List Int}→argsK L N l ks=.ok ()→l.length=ks.length→(i:Nat)→(e:Ex)→l[i]?=some e→∃ t,exprK L N e=.ok t
 | [],ks,_,_,i,e,h=>by simp at h
 | a::r,[],_,hl,i,e,h=>by simp at hl
 | a::r,k::ks,hk,hl,i,e,h=>by
   simp only [argsK] at hk
   obtain ⟨t,h1,hk⟩:=bindK_ok2 hk
   obtain ⟨u,h2,hk⟩:=bindK_ok2 hk
   cases i with
   | zero =>
     simp only [List.getElem?_cons_zero,Option.some.injEq] at h
     exact h ▸ ⟨t,h1⟩
   | succ i=>exact args_typ hk (by simpa using hl) i e (by simpa using h)
set_option maxRecDepth 100000 in
set_option maxHeartbeats 1600000 in
theorem ew_call {L:List Fn} {K f:Nat} (hL:∀ x∈L,FewSs K x.body) (hN:∀ x∈L,NumSts x.body) (hS:Small L) (ih:∀ k,k≤f→EwC L K k) (ihc:CwC L K f) (a:Int) (x:List UInt8) (args:List Ex):EwAt L K (f+1) (.call a x args):=by
 intro b P M A s N F nb n la ln lc W v t r h hg ht hfew he hr
 have hmf:∀ (fn:Go.Fn) (first cap:Array Value) (w:World),(Instr.makeFunc fn first cap).run Tryz.prog w=.ok (.func fn first cap) w:=fun _ _ _ _=>rfl
 obtain ⟨i0,hi,hz0,hz1,hz2⟩:=info_parts infoI
 have HI:=hiD (And.intro hi (And.intro hz0 (And.intro hz1 hz2)))
 simp only [ExAt] at he
 obtain ⟨av,es,⟨g,rfl,hpg,hv⟩,hrow,hex⟩:=he
 have HP:=hiD h
 obtain ⟨W3,hW3⟩:∃ W3,W3=boxed W b (.slice la ln lc) nb (.pointer (some ⟨g,0,none⟩)):=⟨_,rfl⟩
 have HM:Hid (Mods None W W3):=hiD (by rw [hW3];exact boxed_mods _ _ _ _ _)
 have HB:Hid (Bz W W3 P M b (.slice la ln lc) nb (.pointer (some ⟨g,0,none⟩)) W.heap.size):=hiD (by rw [hW3];exact Bz.new _ _ _ h.wd.old h.wd.given)
 have HP3:=hiD (h.quiet HM.out)
 obtain ⟨aa,ac,rfl⟩:=lex_form hrow.1
 obtain ⟨avv,iv,k0,ov,hb,-⟩:=HP3.out.wd.blk
 have w4:W3.cell? ⟨b,4,none⟩=some (.int .i64 0):=hb.cell rfl
 have d0:W3.cell? ⟨g,0,none⟩=some (.int .i64 5):=HM.out.cellOf (hv.cell rfl) (fun f=>f)
 have d7:W3.cell? ⟨g,7,none⟩=some (.slice aa args.length ac):=HM.out.cellOf (hv.cell rfl) (fun f=>f)
 have q4:=HB.out.c4.cell (i:=0) rfl
 have q5:=HB.out.c5.cell (i:=0) rfl
 have q6:=HB.out.c6.cell (i:=0) rfl
 have q7:=HB.out.c7.cell (i:=0) rfl
 clear hb
 obtain ⟨d,hd0⟩:=hg
 have hd:=hd0
 simp only [Fit] at hd
 simp only [exprK] at ht
 obtain ⟨fn,hfn⟩:∃ fn,fnOf L x=some fn:=by
  cases hfn:fnOf L x with
  | none=>rw [hfn] at ht;cases ht
  | some fn=>exact ⟨fn,rfl⟩
 rw [hfn] at ht
 simp only at ht
 by_cases hal:args.length=fn.params.length
 case neg=>rw [if_neg hal] at ht;cases ht
 rw [if_pos hal] at ht
 obtain ⟨u,ht1,ht2⟩:=bindK_ok2 ht
 have ht2:(1:Int)=t:=Except.ok.inj ht2
 subst ht2
 have hpl:args.length≤900000:=by rw [hal];exact (hS fn (List.mem_of_find?_eq_some hfn)).2.1
 have hpg:P g:=Classical.not_not.1 hpg
 simp only [evE] at hr
 obtain ⟨y,hy⟩:∃ y,evA L f s F args []=some y:=by
  cases hy:evA L f s F args [] with
  | none=>rw [hy] at hr;cases hr
  | some y=>exact ⟨y,rfl⟩
 rw [hy] at hr
 have HTY:=hiD (fun (j:Nat) (e:Ex) (hj:args[j]?=some e)=>(⟨(args_typ ht1 (by simpa using hal) j e hj).choose,d+1,(args_typ ht1 (by simpa using hal) j e hj).choose_spec,fits_at hd.2.2 j e hj⟩:∃ t d,exprK L N e=.ok t∧Fit e d))
 have HVS:Hid (∀ vs s1,y=(.ok vs,s1)→VsTy s1 vs (fn.params.map (·.2))∧(∀ v∈vs,VOk v)):=hiD (fun vs s1 e=>by
  have h1:=((exprs_typed L f).2 s N F args (fn.params.map (·.2)) [] [] h.ty ht1 (by simpa using hal) trivial) _ hy
  have h2:=((rg_all hN f).2.1 s F args [] h.rs h.fr (fit_num (.call a x args) d hd0) (fun v hv=>by cases hv)) _ hy
  subst e
  exact ⟨by simpa using h1.2 vs rfl,(h2.1 vs rfl).1⟩)
 have hm3:Mods (fun k=>¬ P k) W W3:=HM.out.mono fun _ _ f=>f.elim
 have HST:Hid (AgSt L K f W b P M A s N F nb (.slice la ln lc) (.pointer (some ⟨g,0,none⟩)) args (.slice aa args.length ac) es y 0 [] M W3):=hiD ⟨HB.out,Ext.quiet HM.out,hrow.mods hm3 (fun _ _ k=>k),ExsAt.modsTo hm3 (fun _ _ k=>k) _ _ hex,rfl,HP3.out.wd.old,Or.inl ⟨f,A,s,[],Nat.le_refl _,hy,HP3.out.wd,h.rs,Nat.le_refl _,List.prefix_refl _,rfl,by simp only [newsE] at hfew;exact hfew⟩⟩
 have HNU:=hiD (Nums.none_ W3 (W.heap.size+4) P M)
 have HR:=hiD hr
 have HIH:=hiD ih
 have HIC:=hiD ihc
 have HLL:=hiD (And.intro hL hN)
 have HPL:=hiD hpl
 have HFN:=hiD hfn
 have HG:Hid (∀ (w:World) (M':Nat→Prop),Ext None M M' W w→w.cell? ⟨g,3,none⟩=some (str x)∧FsAt w (fun k=>¬ P k) (.slice la ln lc) L):=hiD (fun w M' hE=>⟨(blk_far hv hpg hE h.wd.off).cell rfl,h.fs.mods (hE.mods.mono fun k _ hk=>hk.elim (fun f=>f.elim) (h.wd.off k)) (fun _ _ k=>k)⟩)
 obtain ⟨al,hal2⟩:∃ al,al=args.length:=⟨_,rfl⟩
 rw [← hal2] at d7
 have HALE:=hiD hal2
 clear h hd hd0 ht ht1 hfew hv hpg hrow hex hm3 hr ih ihc hL hN hS hpl hal hfn hy hi hz0 hz1 hz2 HB HP3 hal2
 unfold boxed at hW3
 go_enter Tryz.func146,Tryz.ntmps146
 go_upto_region 1 with (fail)
 rw [← hW3]
 clear hW3
 go_wp2_with fail
 go_loopw [16,18,148] (fun lv _ iv wr=>∃ (i:Nat) (ns:List Int) (M':Nat→Prop),i≤al∧iv=.int .i64 i∧Hid (AgSt L K f W b P M A s N F nb (.slice la ln lc) (.pointer (some ⟨g,0,none⟩)) args (.slice aa args.length ac) es y i ns M' wr)∧Hid (Nums wr (W.heap.size+4) P M' lv ns)) (fun _ _ iv _=>(al-intOf iv).toNat)
 case atStart=>exact ⟨0,[],M,Nat.zero_le _,rfl,HST,HNU⟩
 case round =>
  clear HST HNU w4 d0 d7 q4 q5 q6 q7
  obtain ⟨i,ns,M1,hi,rfl,HS,HNS⟩:=hrel
  obtain ⟨oa,oc,rfl⟩:=sl_form HNS.out.1
  have b4:=HS.out.bz.c4.cell (i:=0) rfl
  have b5:=HS.out.bz.c5.cell (i:=0) rfl
  have b6:=HS.out.bz.c6.cell (i:=0) rfl
  by_cases hlt:i<al
  · obtain ⟨qa,ac',qy,hav,⟨h4,h5⟩,hcell,hC⟩:=AgSt.step HLL.out.1 HLL.out.2 HIH.out HP.out HTY.out HS.out (by rw [← HALE.out];exact hlt)
    obtain ⟨rfl,-,rfl⟩:=Value.slice.inj hav
    have HC:=hiD hC
    have hil:(i:Int)<(al:Int):=by omega
    have hac:(al:Int)≤(ac:Int):=by have:=HALE.out;omega
    have hnl:=HS.out.len
    have HNL:=hiD hnl
    have HLT:=hiD hlt
    unfold maxLen at h5
    clear hC hav h4 hnl hlt
    go_wp2_with fail
    go_at_call 146
    refine HC.out.mono ?_
    rintro e w ⟨m,M2,rfl,hS2,hE2⟩
    have HS2:=hiD hS2
    have HN2:=hiD (HNS.out.ext hE2)
    have hmA:Mods None w (w.alloc (.cells #[.int .i64 m] 2)):=(Mods.refl _ _).alloc _
    have HMA:=hiD hmA
    have HOA:=hiD (HN2.out.1.alloc (.cells #[.int .i64 m] 2))
    have HBS:Hid (W.heap.size+4≤(w.alloc (.cells #[.int .i64 m] 2)).heap.size):=hiD (by have h1:=hS2.bz.c7.lt;have h2:=hmA.size;omega)
    clear hS2 hE2 hmA HC b4 b5 b6 hcell hil hac h5 hi
    go_wp2_with (at_builtin;refine wpList_append_own_at _ rfl _ _ 46 rfl (W.heap.size+4) 2 i0 _ 1 8 Tryz.underlying46 HI.out.1 HI.out.2.1 HI.out.2.2.1 HI.out.2.2.2 rfl (by decide) (.slice oa ns.length oc) ns.length (ns.map (Value.int .i64)) rfl HOA.out ⟨w.heap.size,0,none⟩ 1 1 [.int .i64 m] rfl rfl (cell_one_new _ _ _) (ints_oneCell .i64 [m]) (by have:=HPL.out;have:=HALE.out;have:=HNL.out;have:=HLT.out;unfold maxLen;omega) (by have:=HPL.out;have:=HALE.out;have:=HNL.out;have:=HLT.out;omega) HBS.out ?_;intro v' w5 hown hgrow hnil hloc;have HOW:=hiD hown;have HGR:=hiD (grew_of hgrow hloc);clear hown hgrow hnil hloc;refine Hid.out ?_)
    refine hiD ?_
    obtain ⟨qa',qc,rfl⟩:=sl_form HOW.out
    have hi9:i<1000000:=by have:=HPL.out;have:=HALE.out;have:=HLT.out;omega
    go_wp2_with fail
    have hlt:=HLT.out
    refine ⟨⟨i+1,ns++[m],M2,by omega,by go_num,hiD ?_,hiD ?_⟩,by simp [intOf];omega⟩
    · exact (HS2.out.quiet HMA.out).aside HGR.out.mods (fun k hk=>⟨(HN2.out.2 k hk).1,(HN2.out.2 k hk).2,(HN2.out.1.lt k hk).1⟩)
    · exact Nums.grow ⟨HOA.out,HN2.out.2⟩ HOW.out HGR.out.loc (fun k hk=>Nat.lt_of_lt_of_le (HS2.out.old k hk) HMA.out.size) (fun k hk=>Nat.lt_of_lt_of_le (Nat.lt_of_lt_of_le (HP.out.wd.given k hk) HS2.out.ext.mods.size) HMA.out.size)
  · obtain rfl:i=al:=by omega
    have hil:¬ (i:Int)<(i:Int):=by omega
    obtain ⟨cl,hcl⟩:∃ cl,cl=ns.length:=⟨_,rfl⟩
    rw [← hcl] at HNS ⊢
    clear hcl
    have hdone:=AgSt.done HLL.out.1 (by have:=HS.out;rw [HALE.out] at this;exact this)
    rcases hdone with ⟨A1,s1,vs,rfl,hw,hrs,hpre,rfl,hfew⟩|⟨k,s1,rfl,hw⟩
    · obtain ⟨avv,iv,k0,ov,hb,-⟩:=hw.blk
      have w4:wr.cell? ⟨b,4,none⟩=some (.int .i64 0):=hb.cell rfl
      have b7:=HS.out.bz.c7.cell (i:=0) rfl
      obtain ⟨d3,hfs⟩:=HG.out wr M1 HS.out.ext
      have hq:Mods None wr wr.drew:=(Mods.refl None wr).drew
      obtain ⟨hvt,hvo⟩:=HVS.out vs s1 rfl
      have hr:bindR (callR L f s1 x vs) (fun n s=>okR (numV n) s)=some r:=HR.out
      obtain ⟨z,hz⟩:∃ z,callR L f s1 x vs=some z:=by
       cases hz:callR L f s1 x vs with
       | none=>rw [hz] at hr;cases hr
       | some z=>exact ⟨z,rfl⟩
      have HC:=hiD (HIC.out x vs b (W.heap.size+4) P M1 A1 s1 la ln lc wr.drew _ z (hw.quiet hq) (hfs.mods (hq.mono fun _ _ f=>f.elim) (fun _ _ k=>k)) hrs hvo (HNS.out.ext (Ext.quiet hq)) ⟨fn,HFN.out,hvt⟩ hfew hz)
      rw [hz] at hr
      have HRR:=hiD hr
      have HE:=hiD (HS.out.ext.trans (Ext.quiet hq))
      have HA:=hiD hpre
      have HBQ:=hiD (HS.out.bz.step (Ext.quiet (T:=None) hq))
      obtain ⟨W4,hW4⟩:∃ W4,W4=wr.drew:=⟨_,rfl⟩
      rw [← hW4] at HC HE HBQ
      unfold str at d3 HC
      clear hw hrs hpre hfew hb hfs hq hvt hvo hr hz HS HNS
      go_wp2_with fail
      go_still_tail 7,(by kernel_rfl)
      change wpList _ _ _ _ _ wr.drew
      rw [← hW4]
      clear hW4 w4 b4 b5 b6 b7 d3
      go_wp2_with fail
      go_at_call 63
      refine HC.out.mono ?_
      intro e w5 hR
      have HF:Hid (∃ m,e=.returned (.int .i64 m)∧ResE W b P M A 1 r (.returned (.int .i64 m)) w5):=hiD (by
       have hr:=HRR.out
       obtain ⟨z,s2⟩:=z
       cases z with
       | ok m =>
         obtain ⟨rfl,M2,A2,k1,k2,k3⟩:=hR
         obtain rfl:=(Option.some.inj hr).symm
         exact ⟨_,rfl,rfl,M2,A2,k1,HE.out.trans k2,HA.out.trans k3⟩
       | error sg =>
         obtain rfl:=(Option.some.inj hr).symm
         cases sg with
         | ret q=>exact hR.elim
         | stop q =>
           obtain ⟨m,M2,rfl,k0,k1,k2⟩:=hR
           exact ⟨m,rfl,m,M2,rfl,k0,fun h=>absurd h (by decide),k1,HE.out.trans k2⟩)
      obtain ⟨m,he,hres⟩:=HF.out
      subst he
      have HF2:=hiD hres
      clear hres HF hR HC HRR HE HA
      go_wp2_with fail
      go_ret
      exact HF2.out
    · obtain ⟨avv,iv,k0,c,ov,m9,r9,hb,-⟩:=hw.blk
      have w4:wr.cell? ⟨b,4,none⟩=some (.int .i64 k):=hb.cell rfl
      have hk:(k != 0)=true:=by have:=hw.way;simp;omega
      have HF:Hid (ResE W b P M A 1 r (.returned (.int .i64 0)) wr):=hiD (by
       have hr:=HR.out
       obtain rfl:=(Option.some.inj hr).symm
       exact ⟨0,M1,rfl,i64_zero,fun _=>rfl,hw,HS.out.ext⟩)
      clear hw hb HS HNS
      go_wp2_with fail
      go_ret
      exact HF.out
theorem ew_zero (L:List Fn) (K:Nat):EwC L K 0:=by
 intro e b P M A s N F nb n la ln lc W v t r h hg ht hfew he hr
 simp only [evE] at hr
 cases hr
theorem ew_any {L:List Fn} {K f:Nat} (hL:∀ x∈L,FewSs K x.body) (hN:∀ x∈L,NumSts x.body) (hS:Small L) (ih:∀ k,k≤f→EwC L K k) (ihc:CwC L K f):EwC L K (f+1):=by
 intro e
 have ih0:=ih f (Nat.le_refl _)
 cases e with
 | num a n=>exact ew_num a n
 | var a x=>exact ew_var a x
 | un a op x=>exact ew_un ih0 a op x
 | call a x args=>exact ew_call hL hN hS ih ihc a x args
 | new a x=>exact ew_new hL ih0 a x
 | len a x=>exact ew_len ih0 a x
 | item a x i=>exact ew_item hL hN ih0 a x i
 | input a=>exact ew_input a
 | bin a op x i =>
   intro b P M A s N F nb n la ln lc W v t r h hg ht hfew he hr
   obtain ⟨d,hd⟩:=hg
   have hd':=hd
   simp only [Fit] at hd'
   obtain ⟨⟨k,hk,hop⟩,-⟩:=hd'
   rcases Nat.lt_or_ge k 2 with h2|h2
   · obtain rfl|rfl:k=0∨k=1:=by omega
     · obtain rfl:op=[124,124]:=by simpa [levelList] using hop
       exact ew_or hL hN ih0 a x i b P M A s N F nb n la ln lc W v t r h ⟨d,hd⟩ ht hfew he hr
     · obtain rfl:op=[38,38]:=by simpa [levelList] using hop
       exact ew_and hL hN ih0 a x i b P M A s N F nb n la ln lc W v t r h ⟨d,hd⟩ ht hfew he hr
   · exact ew_op hL hN ih0 a op ⟨k,h2,hk,hop⟩ x i b P M A s N F nb n la ln lc W v t r h ⟨d,hd⟩ ht hfew he hr
theorem rw_all {L:List Fn} {K:Nat} (hL:∀ x∈L,FewSs K x.body) (hN:∀ x∈L,NumSts x.body) (hS:Small L) (hF:∀ x∈L,FitF x) (hA:Apart L) (hK:∀ x∈L,fnK L x=.ok ()) (hl:L.length≤1000000):∀ f,(∀ k,k≤f→EwC L K k)∧(∀ k,k≤f→CwC L K k)∧(∀ k,k≤f→BwC L K k)∧(∀ k,k≤f→SwC L K k)
 | 0=>by
   have he:∀ k,k≤0→EwC L K k:=fun k hk=>by cases Nat.le_zero.1 hk;exact ew_zero L K
   have hc:∀ k,k≤0→CwC L K k:=fun k hk=>by cases Nat.le_zero.1 hk;exact cw_zero L K
   have hb:∀ k,k≤0→BwC L K k:=fun k hk=>by cases Nat.le_zero.1 hk;exact bw_any hL hN (fun k hk=>absurd hk (by omega))
   exact ⟨he,hc,hb,fun k hk=>by cases Nat.le_zero.1 hk;exact sw_any hL hN he hb⟩
 | f+1=>by
   obtain ⟨e,c,b,s⟩:=rw_all hL hN hS hF hA hK hl f
   have upto:∀ {C:Nat→Prop},(∀ k,k≤f→C k)→C (f+1)→∀ k,k≤f+1→C k:=fun h1 h2 k hk=>by
    rcases Nat.lt_or_ge f k with h3|h3
    · obtain rfl:k=f+1:=by omega
      exact h2
    · exact h1 k h3
   have e':=upto e (ew_any hL hN hS e (c f (Nat.le_refl _)))
   have c':=upto c (cw_any hL hN hS hF hA hK hl (b f (Nat.le_refl _)))
   have b':=upto b (bw_any hL hN (fun k hk=>s k (by omega)))
   exact ⟨e',c',b',upto s (sw_any hL hN e' b')⟩
end Go.Proofs.YtdgedlhefjmcpaaGreatDoor.TreeP.R
namespace Go.Proofs.YtdgedlhefjmcpaaGreatDoor.TreeP
open Go.RowKit
set_option linter.unusedVariables false
set_option linter.unusedSimpArgs false
mutual
theorem news_cnt:(e:Ex)→newsE e≤cnt e
 | .num _ n=>by simp only [newsE,cnt];omega
 | .var _ s=>by simp only [newsE,cnt];omega
 | .bin _ op l r=>by
   have h1:=news_cnt l
   have h2:=news_cnt r
   simp only [newsE,cnt]
   omega
 | .un _ _ x=>by
   have h1:=news_cnt x
   simp only [newsE,cnt]
   omega
 | .call _ _ args=>by
   have h1:=news_cnts args
   simp only [newsE,cnt]
   omega
 | .new _ x=>by
   have h1:=news_cnt x
   simp only [newsE,cnt]
   omega
 | .len _ x=>by
   have h1:=news_cnt x
   simp only [newsE,cnt]
   omega
 | .item _ x i=>by
   have h1:=news_cnt x
   have h2:=news_cnt i
   simp only [newsE,cnt]
   omega
 | .input _=>by simp only [newsE,cnt];omega
theorem news_cnts:(l:List Ex)→newsEs l≤cnts l
 | []=>by simp only [newsEs,cnts];omega
 | [e]=>by
   have h1:=news_cnt e
   simp only [newsEs,cnts]
   omega
 | e::x::r=>by
   have h1:=news_cnt e
   have h2:=news_cnts (x::r)
   have h3:newsEs (e::x::r)=newsE e+newsEs (x::r):=rfl
   have h4:cnts (e::x::r)=cnt e+(1+cnts (x::r)):=rfl
   omega
end
mutual
theorem few_cnt {K:Nat}:(x:St)→cntS x≤K→FewS K x
 | .var _ s v,h=>by
   have:=news_cnt v
   simp only [cntS] at h
   simp only [FewS]
   omega
 | .set _ s v,h=>by
   have:=news_cnt v
   simp only [cntS] at h
   simp only [FewS]
   omega
 | .put _ s i v,h=>by
   have:=news_cnt v
   have:=news_cnt i
   simp only [cntS] at h
   simp only [FewS]
   omega
 | .cond _ v t e,h=>by
   have h1:=news_cnt v
   simp only [cntS] at h
   simp only [FewS]
   refine ⟨by omega,few_cnts t (by omega),?_⟩
   cases e with
   | nil=>simp only [FewSs]
   | cons x r =>
     simp only [List.isEmpty_cons,Bool.false_eq_true,if_false] at h
     exact few_cnts (x::r) (by omega)
 | .loop _ v t,h=>by
   have h1:=news_cnt v
   simp only [cntS] at h
   simp only [FewS]
   exact ⟨by omega,few_cnts t (by omega)⟩
 | .ret _ v,h=>by
   have:=news_cnt v
   simp only [cntS] at h
   simp only [FewS]
   omega
 | .print _ v,h=>by
   have:=news_cnt v
   simp only [cntS] at h
   simp only [FewS]
   omega
 | .call _ v,h=>by
   have:=news_cnt v
   simp only [cntS] at h
   simp only [FewS]
   omega
theorem few_cnts {K:Nat}:(l:List St)→cntSs l≤K→FewSs K l
 | [],h=>by simp only [FewSs]
 | s::r,h=>by
   simp only [cntSs] at h
   simp only [FewSs]
   exact ⟨few_cnt s (by omega),few_cnts r (by omega)⟩
end
theorem few_of_fs:{L:List Fn}→{x:Fn}→x∈L→cntF x≤cntFs L
 | a::r,x,h=>by
   simp only [cntFs]
   rcases List.mem_cons.1 h with rfl|h
   · omega
   · have:=few_of_fs h
     omega
theorem few_prog {L:List Fn} (h:Prog L):∀ x∈L,FewSs 1500 x.body:=fun x hx=>by
 have h1:=few_of_fs hx
 have h2:=h.cnt
 have h3:cntF x=6+cntPs x.params+cntSs x.body:=rfl
 exact few_cnts x.body (by omega)
theorem nums_prog {L:List Fn} (h:Prog L):∀ x∈L,NumSts x.body:=fun x hx=>fitSs_num x.body 0 (h.fit x hx).2.2
def FoundK {α:Type} (x:CK α):Prop:=∀ n a,x=.error (n,a)→n=1∨n=2∨n=7∨n=9∨n=12
theorem FoundK.ok {α:Type} (a:α):FoundK (.ok a:CK α):=fun n b h=>by cases h
theorem FoundK.err {α:Type} {n:Int} (a:Int) (h:n=1∨n=2∨n=7∨n=9∨n=12):FoundK (.error (n,a):CK α):=fun m b e=>by cases e;exact h
theorem FoundK.bind {α β:Type} {x:CK α} {f:α→CK β} (h:FoundK x) (hf:∀ a,FoundK (f a)):FoundK (bindK x f):=by
 cases x with
 | ok a=>exact hf a
 | error e =>
   obtain ⟨n,a⟩:=e
   intro m b he
   cases he
   exact h n a rfl
theorem found_want (e:Ex) (k t:Int):FoundK (wantT e k t):=by
 unfold wantT
 split
 · exact FoundK.ok _
 · exact FoundK.err _ (by decide)
theorem found_add (N:Nm) (m:Nat) (p:List UInt8×Int) (a:Int):FoundK (addN N m p a):=by
 unfold addN
 split
 · exact FoundK.err _ (by decide)
 · split
   · exact FoundK.err _ (by decide)
   · exact FoundK.ok _
mutual
theorem found_ex (L:List Fn) (N:Nm):(e:Ex)→FoundK (exprK L N e)
 | .num _ _=>by simp only [exprK];exact FoundK.ok _
 | .var a s=>by
   simp only [exprK]
   split
   · exact FoundK.err _ (by decide)
   · exact FoundK.ok _
 | .bin _ _ l r=>by
   simp only [exprK]
   exact (found_ex L N l).bind fun t=>(found_want l 1 t).bind fun _=>(found_ex L N r).bind fun u=>(found_want r 1 u).bind fun _=>FoundK.ok _
 | .un _ _ x=>by
   simp only [exprK]
   exact (found_ex L N x).bind fun t=>(found_want x 1 t).bind fun _=>FoundK.ok _
 | .call a f args=>by
   simp only [exprK]
   split
   · exact FoundK.err _ (by decide)
   · split
     · exact (found_exs L N args _).bind fun _=>FoundK.ok _
     · exact FoundK.err _ (by decide)
 | .new _ x=>by
   simp only [exprK]
   exact (found_ex L N x).bind fun t=>(found_want x 1 t).bind fun _=>FoundK.ok _
 | .len _ x=>by
   simp only [exprK]
   exact (found_ex L N x).bind fun t=>(found_want x 2 t).bind fun _=>FoundK.ok _
 | .item _ x i=>by
   simp only [exprK]
   exact (found_ex L N x).bind fun t=>(found_want x 2 t).bind fun _=>(found_ex L N i).bind fun u=>(found_want i 1 u).bind fun _=>FoundK.ok _
 | .input _=>by simp only [exprK];exact FoundK.ok _
theorem found_exs (L:List Fn) (N:Nm):(l:List Ex)→(ks:List Int)→FoundK (argsK L N l ks)
 | [],ks=>by simp only [argsK];exact FoundK.ok _
 | e::r,[]=>by simp only [argsK];exact FoundK.ok _
 | e::r,k::ks=>by
   simp only [argsK]
   exact (found_ex L N e).bind fun t=>(found_want e k t).bind fun _=>found_exs L N r ks
end
theorem found_wantK (L:List Fn) (N:Nm) (e:Ex) (k:Int):FoundK (wantK L N e k):=(found_ex L N e).bind fun t=>found_want e k t
mutual
theorem found_st (L:List Fn):(N:Nm)→(m:Nat)→(s:St)→FoundK (stmtK L N m s)
 | N,m,.var a s v=>by
   simp only [stmtK]
   exact (found_ex L N v).bind fun t=>found_add _ _ _ _
 | N,m,.set a s v=>by
   simp only [stmtK]
   split
   · exact FoundK.err _ (by decide)
   · exact (found_wantK L N v _).bind fun _=>FoundK.ok _
 | N,m,.put a s i v=>by
   simp only [stmtK]
   split
   · exact FoundK.err _ (by decide)
   · split
     · exact FoundK.err _ (by decide)
     · exact (found_wantK L N i _).bind fun _=>(found_wantK L N v _).bind fun _=>FoundK.ok _
 | N,m,.cond _ v t e=>by
   simp only [stmtK]
   exact (found_wantK L N v _).bind fun _=>(found_sts L N m t).bind fun x=>(found_sts L N x.2 e).bind fun y=>FoundK.ok _
 | N,m,.loop _ v t=>by
   simp only [stmtK]
   exact (found_wantK L N v _).bind fun _=>(found_sts L N m t).bind fun x=>FoundK.ok _
 | N,m,.ret _ v=>by
   simp only [stmtK]
   exact (found_wantK L N v _).bind fun _=>FoundK.ok _
 | N,m,.print _ v=>by
   simp only [stmtK]
   exact (found_wantK L N v _).bind fun _=>FoundK.ok _
 | N,m,.call _ v=>by
   simp only [stmtK]
   exact (found_wantK L N v _).bind fun _=>FoundK.ok _
theorem found_sts (L:List Fn):(N:Nm)→(m:Nat)→(l:List St)→FoundK (stmtsK L N m l)
 | N,m,[]=>by simp only [stmtsK];exact FoundK.ok _
 | N,m,s::r=>by
   simp only [stmtsK]
   exact (found_st L N m s).bind fun x=>found_sts L x.1 x.2 r
end
theorem found_ps (a:Int):(N:Nm)→(m:Nat)→(l:List (List UInt8×Int))→FoundK (paramsK N m a l)
 | N,m,[]=>FoundK.ok _
 | N,m,p::r=>(found_add N m p a).bind fun x=>found_ps a x.1 x.2 r
theorem found_fns (M:List Fn):(L:List Fn)→FoundK (fnsK M L)
 | []=>FoundK.ok _
 | f::r=>((found_ps f.at_ [] 0 f.params).bind fun x=>(found_sts M x.1 x.2 f.body).bind fun _=>FoundK.ok _).bind fun _=>found_fns M r
theorem found_twice:(A L:List Fn)→FoundK (twiceK A L)
 | A,[]=>FoundK.ok _
 | A,f::r=>by
   unfold twiceK
   split
   · exact FoundK.err _ (by decide)
   · exact found_twice _ r
theorem found_all (L:List Fn):FoundK (bindK (twiceK [] L) fun _=>bindK (fnsK L L) fun _=>.ok (L.any mainB)) :=
 (found_twice [] L).bind fun _=>(found_fns L L).bind fun _=>FoundK.ok _
end Go.Proofs.YtdgedlhefjmcpaaGreatDoor.TreeP
namespace Go.Proofs.YtdgedlhefjmcpaaGreatDoor.TreeP
open Go.RowKit Go.Proofs.YtdgedlhefjmcpaaGreatDoor.Wo
set_option linter.unusedVariables false
set_option linter.unusedSimpArgs false
theorem call_zero (L:List Fn):CallC L 0:=by
 intro g vs b mb base P M A s W lv r h hv hgl hfn hr
 simp only [callR] at hr
 cases hr
theorem run_all {L:List Fn} (hL:GoodL L):∀ f,EvC L f∧CallC L f∧StC L f:=by
 intro f
 induction f using Nat.strongRecOn with
 | ind f ih =>
   have hblk:∀ k,k≤f→BlkC L k:=fun k hk=>blk_any (fun j hj=>(ih j (by omega)).2.2)
   cases f with
   | zero=>exact ⟨expr_zero L,call_zero L,stmt_zero L⟩
   | succ f =>
     have he:∀ k,k≤f→EvC L k:=fun k hk=>(ih k (by omega)).1
     have hc:CallC L f:=(ih f (by omega)).2.1
     exact ⟨expr_any he hc,call_any hL (hblk f (by omega)),stmt_any he (fun k hk=>hblk k (by omega))⟩
theorem call_good {L:List Fn} (hL:GoodL L) (f:Nat):CallC L f:=(run_all hL f).2.1
end Go.Proofs.YtdgedlhefjmcpaaGreatDoor.TreeP

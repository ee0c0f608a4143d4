/- The document's runner: a call. Conditions: what it has lies. -/
import Derived.Test.YtdgedlhefjmcpaaGreatDoorEn27
import Derived.Test.YtdgedlhefjmcpaaGreatDoorEn31
import Derived.Test.YtdgedlhefjmcpaaGreatDoorEn23
import Derived.Test.YtdgedlhefjmcpaaGreatDoorEn34
namespace Go.Proofs.YtdgedlhefjmcpaaGreatDoor.TreeP.R
open Go.RowKit Go.Proofs.YtdgedlhefjmcpaaGreatDoor.Wo Go.Proofs.YtdgedlhefjmcpaaGreatDoor.TreeP Go.Proofs.YtdgedlhefjmcpaaGreatDoor.AluP
set_option linter.unusedVariables false
set_option linter.unusedSimpArgs false
theorem cw_zero (L:List Fn) (K:Nat):CwC L K 0:=by
 intro g vs b base P M A s la ln lc W lv r h hfs hrs hvo hnum hfn hfew hr
 simp only [callR] at hr
 cases hr
theorem fs_get {w:World} {S:Nat→Prop} {fa:Option Addr} {fn fc:Nat} {L:List Fn} (h:FsAt w S (.slice fa fn fc) L) {i:Nat} {x:Fn} (hx:L[i]?=some x) :
 ∃ g o pa pc qa qc vq,fa=some ⟨g,o,none⟩∧w.cell? ⟨g,o+i*4,none⟩=some (str x.name)∧w.cell? ⟨g,o+i*4+1,none⟩=some (.int .i64 x.at_)∧w.cell? ⟨g,o+i*4+2,none⟩=some (.slice pa x.params.length pc)∧w.cell? ⟨g,o+i*4+3,none⟩=some (.slice qa x.body.length qc)∧x.params.length≤pc∧pc≤maxLen∧(∀ j u,(pcells x.params)[j]?=some u→∃ pg,pa=some ⟨pg,0,none⟩∧¬ S pg∧w.cell? ⟨pg,j,none⟩=some u)∧RowAt w S 143 7 (.slice qa x.body.length qc) x.body.length vq∧StsAt w S x.body vq:=by
 obtain ⟨fa',fn',fc',e,hfn,hfc,hfm,hf0,hfcell⟩:=h
 obtain ⟨rfl,rfl,rfl⟩:=Value.slice.inj e
 obtain ⟨g,o,p,q,vq,e1,e2,e3,e4,e5,e6,e7,e8,e9⟩:=hfcell i x hx
 obtain ⟨pa,pc,rfl,hpc,hpm,hpcell⟩:=ownsRow_slice e7.1
 obtain ⟨qa,qc,rfl⟩:=lex_form e8.1
 refine ⟨g,o,pa,pc,qa,qc,vq,e1,e3,e4,e5,e6,hpc,hpm,fun j t h=>?_,e8,e9⟩
 obtain ⟨pg,hpg,ho,d1⟩:=hpcell _ _ h
 exact ⟨pg,hpg,e7.2 _ ho,d1⟩
theorem ResS.out {L:List Fn} {f:Nat} {W w:World} {b:Nat} {P M:Nat→Prop} {A:List (Nat×Nat)} {nb mb NN:Nat} {s:RS} {F:Fr} {l:List St} {r:Except Sig Fr×RS} {x:Except Sig Int×RS} {e:Ending} (h:ResS W b P M A nb mb NN r e w) (hrun:blockR L f s F l=some r) (hs:1≤s.calls)
 (hx:(match blockR L f s F l with
  | some (.ok _,t)=>okR 0 { t with calls:=t.calls-1 }
  | some (.error (.ret n),t)=>okR n { t with calls:=t.calls-1 }
  | some (.error (.stop w),t)=>stopR w t
  | none=>none)=some x) (hnb:nb≠b) :
 ∃ c out,w.cell? ⟨b,3,none⟩=some (.int .i64 c)∧w.frozen? ⟨b,3,none⟩=false∧w.cell? ⟨nb,2,none⟩=some (.int .i64 out)∧∃ M',Ext (Tn nb mb) M M' W (w.setCell ⟨b,3,none⟩ (.int .i64 (wrap64 (c-1)))) ∧
   match x with
   | (.ok n,t)=>n=out∧∃ A',WAt (w.setCell ⟨b,3,none⟩ (.int .i64 (wrap64 (c-1)))) b P M' A' t∧A <+: A'
   | (.error (.stop k),t)=>I64 out∧WEnd (w.setCell ⟨b,3,none⟩ (.int .i64 (wrap64 (c-1)))) b P M' k t.out
   | (.error (.ret _),_)=>False:=by
 have hkept:=(kept_all L f).2.2.2.1 s F l _ hrun
 rw [hrun] at hx
 obtain ⟨y,t⟩:=r
 have live:∀ {M':Nat→Prop} {A':List (Nat×Nat)},WAt w b P M' A' t→t.calls=s.calls→w.cell? ⟨b,3,none⟩=some (.int .i64 t.calls)∧w.frozen? ⟨b,3,none⟩=false∧WAt (w.setCell ⟨b,3,none⟩ (.int .i64 (wrap64 ((t.calls:Int)-1)))) b P M' A' { t with calls:=t.calls-1 }∧Ext (Tn nb mb) M' M' w (w.setCell ⟨b,3,none⟩ (.int .i64 (wrap64 ((t.calls:Int)-1)))):=by
  intro M' A' h1 hc
  obtain ⟨av,iv,k,ov,hb,-⟩:=h1.blk
  have hle:=h1.calls
  have hw:wrap64 ((t.calls:Int)-1)=((t.calls-1:Nat):Int):=by unfold wrap64;omega
  rw [hw]
  exact ⟨hb.cell rfl,hb.free 3,h1.setCalls (t.calls-1) (by omega),h1.ext _ _ _⟩
 cases y with
 | ok G =>
   obtain ⟨rfl,M',A',n,h1,h2,h3,h4,h5⟩:=h
   obtain rfl:=(Option.some.inj hx).symm
   obtain ⟨k1,k2,k3,k4⟩:=live h1 (hkept.elim (fun ⟨w,hw⟩=>by cases hw) id)
   exact ⟨_,0,k1,k2,h2.cells.2.2.1,M',h4.trans k4,rfl,A',k3,h5⟩
 | error g =>
   cases g with
   | ret v =>
     obtain ⟨rfl,M',A',n,G,h1,h2,h3,h4⟩:=h
     obtain rfl:=(Option.some.inj hx).symm
     obtain ⟨k1,k2,k3,k4⟩:=live h1 (hkept.elim (fun ⟨w,hw⟩=>by cases hw) id)
     exact ⟨_,v,k1,k2,h2.cells.2.2.1,M',h3.trans k4,rfl,A',k3,h4⟩
   | stop k =>
     obtain ⟨rfl,M',n,G,h1,h2,h3⟩:=h
     obtain rfl:=(Option.some.inj hx).symm
     obtain ⟨av,iv,k0,c,ov,m,r,hb,e1,e2,e3,e4⟩:=h1.blk
     have hm:Mods (·=b) w (w.setCell ⟨b,3,none⟩ (.int .i64 (wrap64 (c-1)))):=mods_put _ _ _ _
     have hb2:=hb.set 3 (.int .i64 (wrap64 (c-1)))
     exact ⟨c,0,hb.cell rfl,hb.free 3,h2.cells.2.2.1,M',h3.trans ⟨hm.mono (fun k _ e=>Or.inr (by rw [e];exact h1.has)),fun _ _ k=>k⟩,i64_zero,
        ⟨av,iv,k0,_,ov,m,r,hb2,hm.ownsRow e1 (fun k hk e=>(e2 k hk).2 e),e2,hm.ownsRow e3 (fun k hk e=>(e4 k hk).2 e),e4⟩,h1.has,fun k hk=>Nat.lt_of_lt_of_le (h1.old k hk) hm.size,h1.off,fun k hk=>Nat.lt_of_lt_of_le (h1.given k hk) hm.size,h1.few,h1.way⟩
theorem mk_nums (w:World):(Instr.makeMap 169 none).run Tryz.prog w=.ok (.map (some w.heap.size)) (w.alloc (.map #[] 0)):=by
 simp [Instr.makeMap,run_underlying Tryz.underlying169]
theorem NtAt.new {w:World} {P M:Nat→Prop} (hM:∀ k,M k→k<w.heap.size) (hP:∀ k,P k→k<w.heap.size):NtAt ((w.alloc (.map #[] 0)).alloc (.cells #[.map (some w.heap.size),.bool false,.int .i64 0] 171)) P M (w.heap.size+1) w.heap.size 0 [] false 0:=by
 have h1:Blk ((w.alloc (.map #[] 0)).alloc (.cells #[.map (some w.heap.size),.bool false,.int .i64 0] 171)) (w.heap.size+1) [.map (some w.heap.size),.bool false,.int .i64 0] 171:=by
  have:=Blk.new (w.alloc (.map #[] 0)) #[.map (some w.heap.size),.bool false,.int .i64 0] 171
  simpa using this
 exact ⟨[],h1,(NameMap.new w _).mods ((Mods.refl None _).alloc _) (fun f=>f),fun s=>rfl,fun hm=>absurd (hM _ hm) (by omega),fun hp=>absurd (hP _ hp) (by omega),fun hm=>absurd (hM _ hm) (by omega),fun hp=>absurd (hP _ hp) (by omega),by omega⟩
theorem two_names {L:List Fn} (hA:Apart L) {i j:Nat} {x y:Fn} (hx:L[i]?=some x) (hy:L[j]?=some y) (h:i≠j):(x.name==y.name)=false:=by
 have hi:=(List.getElem?_eq_some_iff.1 hx)
 have hj:=(List.getElem?_eq_some_iff.1 hy)
 have hp:=List.pairwise_iff_getElem.1 hA
 rcases Nat.lt_or_gt_of_ne h with hlt|hlt
 · have:=hp i j hi.1 hj.1 hlt
   rw [hi.2,hj.2] at this
   simpa using this
 · have:=hp j i hj.1 hi.1 hlt
   rw [hi.2,hj.2] at this
   simpa using fun e=>this e.symm
set_option maxRecDepth 100000 in
set_option maxHeartbeats 4000000 in
theorem cw_any {L:List Fn} {K f:Nat} (hL:∀ x∈L,FewSs K x.body) (hN:∀ x∈L,NumSts x.body) (hS:Small L) (hF:∀ x∈L,FitF x) (hA:Apart L) (hK:∀ x∈L,fnK L x=.ok ()) (hl:L.length≤1000000) (ihb:BwC L K f):CwC L K (f+1):=by
 intro g vs b base P M A s la ln lc W lv r h hfs hrs hvo hnum hfn hfew hr
 simp only [callR] at hr
 by_cases h40:s.calls=40
 · rw [if_pos h40] at hr
   obtain rfl:=(Option.some.inj hr).symm
   have HC:=hiD (enter_no None b P M A s W h h40)
   clear h hfs hrs hvo hnum hfn hfew hr ihb
   unfold str
   go_enter Tryz.func63,Tryz.ntmps63
   go_wp2_with fail
   go_at_call 93
   refine HC.out.mono ?_
   rintro e w ⟨rfl,k1,k2⟩
   have K1:=hiD (And.intro k1 k2)
   clear k1 k2
   go_wp2_with fail
   go_ret
   exact ⟨0,M,rfl,i64_zero,K1.out.1,K1.out.2⟩
 rw [if_neg h40] at hr
 obtain ⟨fn,hfn,hvt⟩:=hfn
 obtain ⟨hmem,hname⟩:=(fnOf_mem hA g fn).1 hfn
 obtain ⟨j0,hj0⟩:=List.mem_iff_getElem?.1 hmem
 have hget:fnGet L g=fn:=by unfold fnGet;rw [hfn];rfl
 rw [hget] at hr
 obtain ⟨FF,hFF⟩:∃ FF,FF=bindParams [] fn.params vs:=⟨_,rfl⟩
 rw [← hFF] at hr
 obtain ⟨r0,hr0⟩:∃ r0,blockR L f { s with calls:=s.calls+1 } FF fn.body=some r0:=by
  cases hb:blockR L f { s with calls:=s.calls+1 } FF fn.body with
  | none=>rw [hb] at hr;cases hr
  | some y=>exact ⟨y,rfl⟩
 have HR:=hiD (And.intro hr hr0)
 have HC:=hiD (enter_yes None b P M A s W h h40)
 have HX:=hiD (And.intro hmem (And.intro hname hj0))
 have HH:=hiD (And.intro h (And.intro hfs (And.intro hrs (And.intro hvo (And.intro hnum (And.intro hvt hfew))))))
 have HL:=hiD (And.intro hL (And.intro hN (And.intro hS (And.intro hF (And.intro hA hK)))))
 have HFF:=hiD hFF
 have HIB:=hiD ihb
 have hj0l:j0<ln:=by
  obtain ⟨a',n',c',e,h1,-⟩:=hfs
  obtain ⟨-,rfl,-⟩:=Value.slice.inj e
  rw [h1]
  exact (List.getElem?_eq_some_iff.1 hj0).1
 have hlnl:ln=L.length∧ln≤lc∧lc≤maxLen:=by
  obtain ⟨a',n',c',e,h1,h2,h3,-⟩:=hfs
  obtain ⟨-,rfl,rfl⟩:=Value.slice.inj e
  exact ⟨h1,h2,h3⟩
 have HLN:=hiD (And.intro hlnl.1 (And.intro hj0l hl))
 obtain ⟨-,hlc1,hlc2⟩:=hlnl
 have hln6:ln≤1000000:=by have:=HLN.out;omega
 unfold maxLen at hlc2
 clear h hfs hrs hvo hnum hvt hfew hr hr0 hL hN hS hF hA hK ihb hmem hname hj0 hget hfn hFF hl hj0l h40
 have hmk:=mk_nums
 unfold str
 go_enter Tryz.func63,Tryz.ntmps63
 go_wp2_with fail
 go_at_call 93
 refine HC.out.mono ?_
 rintro e w1 ⟨rfl,k1,k2⟩
 have HW1:=hiD (And.intro k1 k2)
 clear k1 k2 HC
 go_wp2_with fail
 obtain ⟨W2,hW2⟩:∃ W2,W2=((w1.alloc (.map #[] 0)).alloc (.cells #[.map (some w1.heap.size),.bool false,.int .i64 0] 171)):=⟨_,rfl⟩
 have HM2:Hid (Mods None w1 W2):=hiD (by rw [hW2];exact ((Mods.refl _ _).alloc _).alloc _)
 have HN2:Hid (NtAt W2 P M (w1.heap.size+1) w1.heap.size 0 [] false 0):=hiD (by rw [hW2];exact NtAt.new HW1.out.1.old HW1.out.1.given)
 rw [← hW2]
 clear hW2 hmk
 obtain ⟨mb,hmb⟩:∃ mb,mb=w1.heap.size:=⟨_,rfl⟩
 rw [← hmb] at HN2 ⊢
 obtain ⟨nb,hnb⟩:∃ nb,nb=mb+1:=⟨_,rfl⟩
 rw [← hnb] at HN2 ⊢
 have HMB:Hid (W.heap.size≤mb∧nb=mb+1):=hiD ⟨by have:=HW1.out.2.mods.size;omega,hnb⟩
 clear hmb hnb
 go_loopw [11,12,13,22] (fun _ _ _ iv wr=>∃ (i:Nat),i≤ln∧iv=.int .i64 i∧((i≤j0∧Hid (Mods None W2 wr))∨(j0<i∧Hid (ResS W2 b P M A nb mb (fn.params.length+s.fuel) r0 (.returned (.tuple #[])) wr)))) (fun _ _ _ iv _=>(ln-intOf iv).toNat)
 case atStart=>exact ⟨0,Nat.zero_le _,rfl,Or.inl ⟨Nat.zero_le _,hiD (Mods.refl _ _)⟩⟩
 case round =>
  obtain ⟨i,hi,rfl,hst⟩:=hrel
  have hE:∃ M',Ext None M M' W wr:=by
   rcases hst with ⟨-,hm⟩|⟨-,hres⟩
   · exact ⟨M,(HW1.out.2.trans (Ext.quiet HM2.out)).trans (Ext.quiet hm.out)⟩
   · obtain ⟨M',h1⟩:=hres.out.off
     exact ⟨M',(HW1.out.2.trans (Ext.quiet HM2.out)).transNew h1 (fun k hk e=>by have h1:=HMB.out;rcases e with e|e <;> omega)⟩
  obtain ⟨M',hE⟩:=hE
  have hmP:Mods (fun k=>¬ P k) W wr:=hE.mods.mono fun k _ hk=>hk.elim (fun f=>f.elim) (HH.out.1.off k)
  have hfs:=HH.out.2.1.mods hmP (fun _ _ k=>k)
  by_cases hlt:i<ln
  · obtain ⟨x,hx⟩:∃ x,L[i]?=some x:=⟨L[i]'(by have:=HLN.out;omega),List.getElem?_eq_getElem _⟩
    obtain ⟨q,o,pa,pc,qa,qc,vq,rfl,c0,c1,c2,c3,hpc1,hpc2,hps,hrow,hsts⟩:=fs_get hfs hx
    have hil:(i:Int)<(ln:Int):=by omega
    have hlc:(ln:Int)≤(lc:Int):=by omega
    obtain ⟨W3,hW3⟩:∃ W3,W3=wr.alloc (.cells #[.string ⟨x.name.toArray⟩,.int .i64 x.at_,.slice pa x.params.length pc,.slice qa x.body.length qc] 33):=⟨_,rfl⟩
    have hm3:Mods None wr W3:=by rw [hW3];exact (Mods.refl _ _).alloc _
    have hB3:Blk W3 wr.heap.size [.string ⟨x.name.toArray⟩,.int .i64 x.at_,.slice pa x.params.length pc,.slice qa x.body.length qc] 33:=by rw [hW3];exact Blk.new wr _ _
    unfold str at c0
    have f0:=hB3.cell (i:=0) rfl
    by_cases hij:i=j0
    · subst hij
      obtain rfl:x=fn:=by have:=HX.out.2.2;rw [hx] at this;exact Option.some.inj this
      have hm2:Mods None W2 wr:=(hst.elim (fun k=>k.2) (fun k=>absurd k.1 (Nat.lt_irrefl _))).out
      have heq:x.name=g:=HX.out.2.1
      have HM3:=hiD (And.intro hm2 hm3)
      have HB3:=hiD hB3
      have f2:=hB3.cell (i:=2) rfl
      have HPS:=hiD hps
      have HROW:=hiD (And.intro hrow hsts)
      have HPC:=hiD (And.intro hpc1 hpc2)
      obtain ⟨pn,hpn⟩:∃ pn,pn=x.params.length:=⟨_,rfl⟩
      have HPN:=hiD hpn
      rw [heq] at c0 f0 hW3
      rw [← hpn] at c2 f2 hW3
      have hwr:W.heap.size+2≤wr.heap.size:=by
       have h1:=hm2.size
       have h2:=HN2.out.off
       have h3:=HMB.out
       omega
      have HWR:=hiD hwr
      clear hst hE hmP hfs hps hrow hsts hpc1 hpc2 hm2 hm3 hB3 heq hpn hx hwr M'
      go_wp2_with fail
      rw [← hW3]
      clear hW3 c0 c1 c2 c3 f0 f2
      obtain ⟨wo,rfl⟩:∃ wo,wo=wr:=⟨_,rfl⟩
      have HN3:=hiD (HN2.out.ext (Ext.quiet (HM3.out.1.trans HM3.out.2)))
      have HBP:Hid (bindParams [] (x.params.drop 0) (vs.drop 0)=FF):=hiD HFF.out.symm
      go_loopw [12,13,33] (fun _ _ iv w5=>∃ (i2:Nat) (F:Fr),i2≤pn∧iv=.int .i64 i2∧Hid (Mods (·=mb) W3 w5)∧Hid (NtAt w5 P M nb mb i2 F false 0)∧Hid (bindParams F (x.params.drop i2) (vs.drop i2)=FF)) (fun _ _ iv _=>(pn-intOf iv).toNat)
      case atStart=>exact ⟨0,[],Nat.zero_le _,rfl,hiD (Mods.refl _ _),HN3,HBP⟩
      case round =>
       clear HN3 HBP
       obtain ⟨w4,rfl⟩:∃ w4,w4=wr:=⟨_,rfl⟩
       obtain ⟨i2,F,hi2,rfl,HMW,HNF,HBP⟩:=hrel
       have hm4:Mods (fun k=>¬ P k) W w4:=(((HW1.out.2.mods.mono fun k _ hk=>hk.elim (fun f=>f.elim) (HH.out.1.off k)).trans (HM2.out.mono fun _ _ f=>f.elim)).trans ((HM3.out.1.trans HM3.out.2).mono fun _ _ f=>f.elim)).trans (HMW.out.mono fun k _ e=>by rw [e];exact HN2.out.off.2.1.2)
       have hE4:Ext None M M W w4:=((HW1.out.2.trans (Ext.quiet HM2.out)).trans (Ext.quiet (HM3.out.1.trans HM3.out.2))).new HMW.out (fun k h1 h2=>by have:=HMB.out;omega)
       have HB4:=hiD (HB3.out.mods HMW.out (fun e=>by have:=HN2.out.off;have:=HM3.out.1.size;omega))
       obtain ⟨n0,-,-,-,-⟩:=HNF.out.cells
       by_cases hlt2:i2<pn
       · have hil2:i2<x.params.length:=by have:=HPN.out;omega
         have hiv:i2<vs.length:=by have:=HH.out.2.2.2.2.2.1.len;rw [List.length_map] at this;omega
         obtain ⟨q1,q2⟩:=ncells_at x.params i2 x.params[i2] (List.getElem?_eq_getElem hil2)
         obtain ⟨pg,hpg,ho,d1⟩:=HPS.out _ _ q1
         obtain ⟨pg',hpg',_,d2⟩:=HPS.out _ _ q2
         obtain rfl:pg=pg':=by rw [hpg] at hpg';simpa using hpg'
         have hm34:Mods (·=mb) wo w4:=(HM3.out.2.mono fun _ _ f=>f.elim).trans HMW.out
         have hpgm:pg≠mb:=fun e=>by have h1:=HN2.out.off.2.1.2;rw [← e] at h1;exact h1 (Classical.not_not.1 ho)
         have d1:=hm34.cellOf d1 hpgm
         have d2:=hm34.cellOf d2 hpgm
         have hsh:x.params[i2].1.length≤10000000:=Nat.le_trans ((HL.out.2.2.2.1 x HX.out.1).2.1 x.params[i2] (List.getElem_mem hil2)).1.2.2.2 (by decide:12≤10000000)
         have HBP2:Hid (bindParams (F.put x.params[i2].1 vs[i2]) (x.params.drop (i2+1)) (vs.drop (i2+1))=FF):=hiD (by
            rw [← HBP.out,List.drop_eq_getElem_cons hil2,List.drop_eq_getElem_cons hiv]
            rfl)
         obtain ⟨nm,ty,hnt⟩:∃ nm ty,x.params[i2]=(nm,ty):=⟨_,_,rfl⟩
         rw [hnt] at d1 d2 hsh HBP2
         simp only at d1 d2 hsh HBP2
         obtain ⟨va,vc,e4,hvc1,hvc2,hvl2⟩:=ownsRow_slice (HH.out.2.2.2.2.1.ext hE4).1
         subst e4
         obtain ⟨vg,hvg,_,d3⟩:=hvl2 i2 (.int .i64 (rep vs[i2])) (by simp [hiv])
         subst hpg hvg
         obtain ⟨W5,hW5⟩:∃ W5,W5=w4.alloc (.cells #[.string ⟨nm.toArray⟩,.int .i64 ty] 85):=⟨_,rfl⟩
         have hm5:Mods None w4 W5:=by rw [hW5];exact (Mods.refl _ _).alloc _
         have hB5:Blk W5 w4.heap.size [.string ⟨nm.toArray⟩,.int .i64 ty] 85:=by rw [hW5];exact Blk.new w4 _ _
         have f1:=hB5.cell (i:=0) rfl
         have d3:=hm5.cellOf d3 (fun f=>f)
         have n0:=hm5.cellOf n0 (fun f=>f)
         have hps9:=(HL.out.2.2.1 x HX.out.1).2.1
         have hi9:i2<1000000:=by omega
         obtain ⟨w6,hu,hn6,hm6⟩:=(HNF.out.ext (Ext.quiet hm5.drew)).put nm hsh vs[i2] (by unfold maxLen;omega)
         have HM6:Hid (Mods (·=mb) W3 w6):=hiD ((HMW.out.trans ((hm5.drew).mono fun _ _ f=>f.elim)).trans hm6)
         have HN6:=hiD hn6
         have hpi:(i2:Int)<(pn:Int):=by omega
         have hvi:(i2:Int)<((vs.map rep).length:Int):=by rw [List.length_map];omega
         have hpc3:(pn:Int)≤(pc:Int):=by have:=HPN.out;have:=HPC.out.1;omega
         have hvc3:((vs.map rep).length:Int)≤(vc:Int):=by omega
         have hpc2:=HPC.out.2
         unfold maxLen at hpc2 hvc2
         unfold str at d1 hu
         obtain ⟨vl,hvl⟩:∃ vl,vl=(vs.map rep).length:=⟨_,rfl⟩
         rw [← hvl] at hvi hvc3
         clear hn6 hm6 hm5 hB5 hvl2 q1 q2 ho hsh hvc1 hm34 hpgm hps9 hE4 hm4 hnt hvl
         go_upto_region 11 with (fail)
         rw [← hW5]
         clear hW5
         go_region
         go_wp2_with fail
         exact ⟨⟨i2+1,F.put nm vs[i2],by omega,by go_num,HM6,HN6,HBP2⟩,by simp [intOf];omega⟩
       · obtain rfl:i2=pn:=by omega
         have hpi:¬ (i2:Int)<(i2:Int):=by omega
         have f3:=HB4.out.cell (i:=3) rfl
         have hF:F=FF:=by
            have h1:=HBP.out
            rw [HPN.out,List.drop_length] at h1
            rw [← h1]
            cases vs.drop x.params.length <;> rfl
         subst hF
         have hfn:=(HL.out.2.2.2.2.2 x HX.out.1)
         unfold fnK at hfn
         obtain ⟨⟨N1,m1⟩,ht1,hfn⟩:=bindK_ok2 hfn
         obtain ⟨⟨N2,m2⟩,ht2,-⟩:=bindK_ok2 hfn
         have hs1:RsOk { s with calls:=s.calls+1 }:=HH.out.2.2.1
         have hvt1:VsTy { s with calls:=s.calls+1 } vs (x.params.map (·.2)):=HH.out.2.2.2.2.2.1.on (show ArrsOn s { s with calls:=s.calls+1 } from Nat.le_refl _)
         obtain ⟨hnm1,hty1⟩:=params_typed (fun p hp=>by cases hp) (FTy.nil { s with calls:=s.calls+1 }) (HL.out.2.2.1 x HX.out.1).2.2 ht1 hvt1
         rw [← HFF.out] at hty1
         have hfr1:FrOk F:=by rw [HFF.out];exact FrOk.params _ _ (fun _ h=>nomatch h) HH.out.2.2.2.1
         have hwd:WAt w4 b P M A { s with calls:=s.calls+1 }:=((HW1.out.1.quiet (HM2.out.trans (HM3.out.1.trans HM3.out.2))).aside HMW.out (fun k e=>by rw [e];exact HN2.out.off.2.1))
         obtain ⟨qav,qiv,qk,qov,qb,qf,-⟩:=HH.out.1.blk
         have hps9:=(HL.out.2.2.1 x HX.out.1).2.1
         have hcall:=HIB.out x.body (.slice qa x.body.length qc) vq b P M A { s with calls:=s.calls+1 } N1 N2 m1 m2 F nb mb i2 (x.params.length+s.fuel) 0 (some ⟨q,o,none⟩) ln lc w4 r0
            ⟨hwd,HNF.out,HH.out.2.1.mods hm4 (fun _ _ k=>k),hty1,hs1,hfr1,hnm1⟩ (HL.out.2.2.2.1 x HX.out.1).2.2 (HL.out.1 x HX.out.1) ht2 HH.out.2.2.2.2.2.2 (by have:=HPN.out;show i2+s.fuel≤_;omega) (by omega)
            (HROW.out.1.mods ((HM3.out.2.mono fun _ _ f=>f.elim).trans (HMW.out.mono fun k _ e=>by rw [e];exact HN2.out.off.2.1.2)) (fun _ _ k=>k)) (StsAt.modsTo ((HM3.out.2.mono fun _ _ f=>f.elim).trans (HMW.out.mono fun k _ e=>by rw [e];exact HN2.out.off.2.1.2)) (fun _ _ k=>k) _ _ HROW.out.2) HR.out.2
         have HCALL:=hiD hcall
         have HE2:Hid (Ext (Tn nb mb) M M W2 w4):=hiD ⟨((HM3.out.1.trans HM3.out.2).mono fun _ _ f=>f.elim).trans (HMW.out.mono fun k _ e=>Or.inl (Or.inr e)),fun _ _ k=>k⟩
         clear hcall qb qf hwd hfr1 hty1 hnm1 hvt1 hs1 hfn ht1 ht2 hps9 hE4 hm4 HNF n0
         go_wp2_with fail
         go_at_call 94
         refine HCALL.out.mono ?_
         intro e w6 hR6
         obtain rfl:=hR6.told
         have HR6:=hiD (hR6.before HE2.out (List.prefix_refl A))
         clear hR6 HCALL HE2 f3
         go_wp2_with fail
         exact ⟨⟨i+1,by omega,by go_num,Or.inr ⟨by omega,HR6⟩⟩,by simp [intOf];omega⟩
    · have hne:=two_names HL.out.2.2.2.2.1 hx HX.out.2.2 hij
      rw [HX.out.2.1] at hne
      have hne:((⟨x.name.toArray⟩:ByteArray)==⟨g.toArray⟩)=false:=by
       have h1:¬ x.name=g:=by simpa using hne
       show (x.name.toArray==g.toArray)=false
       simpa using h1
      have HST:Hid ((i+1≤j0∧Hid (Mods None W2 W3))∨(j0<i+1∧Hid (ResS W2 b P M A nb mb (fn.params.length+s.fuel) r0 (.returned (.tuple #[])) W3))):=hiD (by
       rcases hst with ⟨h1,h2⟩|⟨h1,h2⟩
       · exact Or.inl ⟨by omega,hiD (h2.out.trans hm3)⟩
       · exact Or.inr ⟨by omega,hiD (h2.out.quiet hm3)⟩)
      clear hst hE hmP hfs hps hrow hsts hpc1 hpc2 hm3 hB3 hx hij
      go_wp2_with fail
      rw [← hW3]
      clear hW3
      exact ⟨⟨i+1,by omega,by go_num,HST.out⟩,by simp [intOf];omega⟩
  · obtain rfl:i=ln:=by omega
    have hil:¬ (i:Int)<(i:Int):=by omega
    obtain ⟨-,hres⟩:=hst.elim (fun k=>absurd k.1 (by have:=HLN.out;omega)) id
    have hnbb:nb≠b:=fun e=>by have h1:=HN2.out.off.1.1;rw [e] at h1;exact h1 HW1.out.1.has
    obtain ⟨c,out,k1,k2,k3,M2,hE2,hx⟩:=hres.out.out HR.out.2 (by show 1≤s.calls+1;omega) HR.out.1 hnbb
    have HF:Hid (ResI W b P M A r (.returned (.int .i64 out)) (wr.setCell ⟨b,3,none⟩ (.int .i64 (wrap64 (c-1))))):=hiD (by
        have hE3:=(HW1.out.2.trans (Ext.quiet HM2.out)).transNew hE2 (fun k hk e=>by have h1:=HMB.out;rcases e with e|e <;> omega)
        obtain ⟨y,t⟩:=r
        cases y with
        | ok n =>
          obtain ⟨rfl,A',h1,h2⟩:=hx
          exact ⟨rfl,M2,A',h1,hE3,h2⟩
        | error sg =>
          cases sg with
          | ret q=>exact hx.elim
          | stop q=>exact ⟨out,M2,rfl,hx.1,hx.2,hE3⟩)
    have k4:=hnbb
    clear hres hst hE hmP hfs hx hE2 hi
    go_wp2_with fail
    go_ret
    exact HF.out
end Go.Proofs.YtdgedlhefjmcpaaGreatDoor.TreeP.R

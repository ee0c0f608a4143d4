/- A call of mid's runner, walked. Conditions: what it has lies; the functions are right. -/
import Derived.Test.YtnicpmoanjddbaaGreatDoorMs22
namespace Go.Proofs.YtnicpmoanjddbaaGreatDoor.MidP
open Go.RowKit Go.Proofs.YtnicpmoanjddbaaGreatDoor.Wo Go.Maps Go.Proofs.YtnicpmoanjddbaaGreatDoor.TreeP
set_option linter.unusedVariables false
set_option linter.unusedSimpArgs false
theorem right_fit {L:List Fm} {F:Fm} {x:Stp} (hok:rightB L F x=true) (h2:x.code≠2) (h7:x.code≠7):fitB F ((formsP x.code).getD 0 0) x.dst=true∧fitB F ((formsP x.code).getD 1 0) x.a=true:=by
 unfold rightB at hok
 rw [if_neg h2,if_neg h7] at hok
 split at hok
 · cases hok
 · simp only [Bool.and_eq_true] at hok
   exact ⟨hok.1.1.1.1.1,hok.1.1.1.1.2⟩
theorem mbindR_assoc {α β γ:Type} (x:RM α) (f:α→RS→RM β) (g:β→RS→RM γ):bindR (bindR x f) g=bindR x (fun a s=>bindR (f a s) g):=by
 rcases x with _|⟨_|a,s⟩ <;> rfl
theorem call_fit {L:List Fm} (hL:GoodM L) {F:Fm} {x:Stp} (hok:rightB L F x=true) (h7:x.code=7):∃ G,fmOf L x.name=some G∧x.args.length≤G.types.length∧kindP F x.dst > 0∧∀ p∈x.args,kindP F p > 0:=by
 unfold rightB at hok
 rw [if_neg (by omega),if_pos h7] at hok
 split at hok
 · cases hok
 · rename_i G hG
   simp only [Bool.and_eq_true,decide_eq_true_eq,beq_iff_eq] at hok
   obtain ⟨⟨h1,h2⟩,h3⟩:=hok
   have hGm:G∈L:=List.mem_of_find?_eq_some hG
   have hty:=hL.fn hGm
   unfold fnB at hty
   simp only [Bool.and_eq_true,List.all_eq_true,Bool.or_eq_true,beq_iff_eq] at hty
   have hlen:x.args.length≤G.types.length:=by
    have:=congrArg List.length h3
    simp only [List.length_map,List.length_take] at this
    omega
   refine ⟨G,hG,hlen,by omega,fun p hp=>?_⟩
   have hm:kindP F p∈x.args.map (kindP F):=List.mem_map.2 ⟨p,hp,rfl⟩
   rw [h3] at hm
   have:=hty.1.1.2 _ (List.mem_of_mem_take hm)
   omega
theorem mpair_one (a:Int) (o:Option Addr) (n c:Nat):∀ u∈[Value.int .i64 a,.slice o n c],u.oneCell'=true:=by
 intro u hu
 simp only [List.mem_cons,List.not_mem_nil,or_false] at hu
 rcases hu with rfl|rfl <;> rfl
theorem mtwo_new (W:World) (u v:Value) (e:TypeId):∀ j x,[u,v][j]?=some x→(W.alloc (.cells #[u,v] e)).cell? ((⟨W.heap.size,0,none⟩:Addr).add j)=some x:=by
 intro j x hj
 have hb:=Blk.new W #[u,v] e
 rcases j with _|_|j
 · exact hb.cell (i:=0) (v:=x) hj
 · have h:=hb.cell (i:=1) (v:=x) hj
   simpa [Addr.add] using h
 · simp at hj
def CpOk (W:World) (g:Nat) (la:Option Addr) (m:Nat) (cs:List Value):Prop:=0<m→(some ⟨g,0,none⟩:Option Addr)=some ⟨g,0,none⟩∧∃ ad,la=some ad∧∀ j v,cs[j]?=some v→W.cell? (ad.add j)=some v
theorem cpok {W:World} {g:Nat} {la:Option Addr} {m:Nat} {cs:List Value} (h:CpOk W g la m cs):0<m→(some ⟨g,0,none⟩:Option Addr)=some ⟨g,0,none⟩∧∃ ad,la=some ad∧∀ j v,cs[j]?=some v→W.cell? (ad.add j)=some v:=h
theorem labelAt_le:(A:List Stp)→(l:Int)→(i k B:Nat)→k≤B→i+A.length≤B→labelAt A l i k≤B
 | [],_,_,_,_,hk,_=>hk
 | x::r,l,i,k,B,hk,hB=>by
   simp only [labelAt]
   simp only [List.length_cons] at hB
   refine labelAt_le r l (i+1) _ B ?_ (by omega)
   split <;> omega
theorem goM_at {L:List Fm} {f:Nat} {s:RS} {F:Fm} {v:Pl} {i:Nat} {x:Stp} (hx:F.steps[i]?=some x):goM L (f+1) s F v i=bindR (stepR s) fun _ s =>
 if x.code=4 then goM L f s F v (atP F x.label+1)
 else if x.code=5 then (if (v.get x.a).n=0 then goM L f s F v (atP F x.label+1) else goM L f s F v (i+1))
 else if x.code=7 then bindR (callM L f s x.name (x.args.map v.get)) fun n s=>goM L f s F (v.put x.dst (numV n)) (i+1)
 else if x.code=8 then okR (v.get x.a).n s
 else bindR (stepM v x s) fun v s=>goM L f s F v (i+1):=by
 simp only [goM,hx]
theorem goM_end {L:List Fm} {f:Nat} {s:RS} {F:Fm} {v:Pl} {i:Nat} (hx:F.steps.length≤i):goM L (f+1) s F v i=okR 0 s:=by
 simp only [goM,List.getElem?_eq_none hx]
theorem mfuel_cell {W:World} {b mb:Nat} {L:List Fm} {P M:Nat→Prop} {A:List (Nat×Nat)} {s:RS} (h:RAt W b mb L P M A s):(intOf ((W.cell? ⟨b,2,none⟩).getD (.int .i64 0))).toNat=s.fuel:=by
 obtain ⟨iv,ov,hb,-⟩:=h.blk
 rw [hb.cell (i:=2) rfl]
 simp [intOf]
set_option maxRecDepth 100000 in
set_option maxHeartbeats 8000000 in
theorem mcall_any {L:List Fm} (hL:GoodM L) {f:Nat} (ih:∀ k,k≤f→CallC L k):CallC L (f+1):=by
 intro g vs b mb base P M A s W lv r h hv hgl hfn hr
 obtain ⟨F,hF,hvl⟩:=hfn
 have hFm:F∈L:=List.mem_of_find?_eq_some hF
 obtain ⟨hsz1,hsz2,hright⟩:=hL.sizes hFm
 obtain ⟨iv,ov,hb,-⟩:=h.blk
 have c3:W.cell? ⟨b,3,none⟩=some (.int .i64 s.calls):=hb.cell rfl
 have z3:=hb.free 3
 have hbl:=h.old b h.has
 have hget:fmGet L g=F:=by unfold fmGet;rw [hF];rfl
 simp only [callM,hget] at hr
 by_cases h40:s.calls=40
 · rw [if_pos h40] at hr
   obtain rfl:=(Option.some.inj hr).symm
   rw [h40] at c3
   have HR:=hiD h
   clear hr hb hv hbl h hright
   unfold str Ran
   go_enter Tryz.func23,Tryz.ntmps23
   go_wp2_with fail
   go_at_call 50
   refine (stop_any 5 _).mono ?_
   rintro e w ⟨⟨older,rfl⟩,rfl⟩
   go_wp2
   exact ⟨rfl,⟨older,rfl⟩,M,A,HR.out,Ext.refl _ _ _,List.prefix_refl _⟩
 · rw [if_neg h40] at hr
   have HRR:=hiD hr
   have hc40:=h.calls
   have hc1:(((s.calls:Nat):Int)==40)=false:=by simp;omega
   have hcadd:Hid ((s.calls:Int)+1=((s.calls+1:Nat):Int)):=hiD (by omega)
   obtain ⟨W2,hW2⟩:∃ W2,W2=W.setCell ⟨b,3,none⟩ (.int .i64 ((s.calls:Int)+1)):=⟨_,rfl⟩
   have HR2:Hid (RAt W2 b mb L P M A { s with calls:=s.calls+1 }):=hiD (by
    rw [hW2,hcadd.out]
    exact h.setCalls _ (by omega))
   have HE2:Hid (Ext None M M W W2):=hiD (by rw [hW2];exact h.ext None 3 _)
   have HV2:=hiD (hv.ext HE2.out (List.prefix_refl A))
   obtain ⟨iv2,ov2,hb2,-⟩:=HR2.out.blk
   have e0:W2.cell? ⟨b,0,none⟩=some (.map (some mb)):=hb2.cell rfl
   obtain ⟨nf,Ff,hmap,hfv⟩:=HR2.out.fns.2
   have hlook:=hmap.look (t:=60) Tryz.underlying60 (zero_fm _) g hgl
   obtain ⟨ta,tc,sa,sc,hval,hta,hsa⟩:=hfv g F hF
   rw [hval] at hlook
   have hok:=hL.ok F hFm
   obtain ⟨la,lc,cs,rfl,hcs1,hcs2,hcs3,hcs4⟩:=HV2.out.at_
   obtain ⟨tn,htn⟩:∃ tn,tn=F.types.length:=⟨_,rfl⟩
   obtain ⟨sn,hsn⟩:∃ sn,sn=F.steps.length:=⟨_,rfl⟩
   obtain ⟨ln,hln⟩:∃ ln,ln=vs.length:=⟨_,rfl⟩
   obtain ⟨W3,hW3⟩:∃ W3,W3=W2.alloc (.cells #[str F.name,.int .i64 F.params,.slice ta F.types.length tc,.slice sa F.steps.length sc] 55):=⟨_,rfl⟩
   have HM3:Hid (Mods None W2 W3):=hiD (by rw [hW3];exact (Mods.refl _ _).alloc _)
   have HB3:Hid (Blk W3 W2.heap.size [str F.name,.int .i64 F.params,.slice ta F.types.length tc,.slice sa F.steps.length sc] 55):=hiD (by rw [hW3];exact Blk.new W2 _ _)
   have HLB:=hiD (labels_any F (.agg #[str F.name,.int .i64 F.params,.slice ta F.types.length tc,.slice sa F.steps.length sc]) W3 ⟨ta,tc,sa,sc,rfl,hta.mods (HM3.out.mono fun _ _ k=>k.elim) (fun _ _ k=>k.elim),hsa.mods (HM3.out.mono fun _ _ k=>k.elim) (fun _ _ k=>k.elim)⟩ (fun x hx=>(hok.steps x hx).nums.2.2.2.2.2.2) hsz2)
   have HSA:=hiD hsa
   have HSN:=hiD hsn
   have HTN:=hiD htn
   have HLN:=hiD hln
   have HOK:=hiD hok
   have HRT:=hiD hright
   have HCS:=hiD (And.intro hcs1 (And.intro hcs2 (And.intro hcs3 hcs4)))
   have htn3:(tn:Int)≤3000:=by omega
   have HT3:Hid (tn≤3000):=hiD (by omega)
   have hlt:(ln:Int)≤(tn:Int):=by omega
   have b0:=HB3.out.cell (i:=0) rfl
   have b1:=HB3.out.cell (i:=1) rfl
   have b2:=HB3.out.cell (i:=2) rfl
   have b3:=HB3.out.cell (i:=3) rfl
   have hWs:W2.heap.size=W.heap.size:=by rw [hW2];simp [World.setCell]
   have HWS:=hiD hWs
   have HFM:=hiD hFm
   have HIH:=hiD ih
   have HSZ:=hiD hsz2
   rw [← htn,← hsn] at hW3 hlook HLB
   rw [← htn] at b2
   rw [← hsn] at b3
   obtain ⟨i0,hi,hz0,hz1,hz2⟩:=info_parts mval_info
   have HI:=hiD (And.intro hi (And.intro hz0 (And.intro hz1 hz2)))
   rw [← hln]
   clear hb hr hF hvl hmap hfv hval hta hsa hok hsn htn hln hb2 hcs1 hcs2 hcs3 hcs4 hright hv hget hFm hsz1 hsz2 ih h40 hWs hi hz0 hz1 hz2
   unfold str at *
   go_enter Tryz.func23,Tryz.ntmps23
   go_upto_region 4 with (fail)
   rw [← hW2]
   clear hW2 c3 z3
   go_upto_region 5 with (fail)
   rw [← hW3]
   clear hW3 e0 hlook
   go_wp2_with fail
   go_at_call 51
   refine HLB.out.mono ?_
   rintro e w4 ⟨bm,bn,rfl,hlab,hbm,hbn,hm4⟩
   clear b0 b1 b3
   have HM4:=hiD hm4
   have HLAB:=hiD hlab
   have HBM:=hiD hbm
   have b2:w4.cell? ⟨W2.heap.size,2,none⟩=some (.slice ta tn tc):=HM4.out.cellOf b2 (fun f=>f)
   obtain ⟨Z,hZ⟩:∃ Z:List Value,Z=(madeCells zeroVal.cells (tn*2)).toList:=⟨_,rfl⟩
   have hmk:(Instr.makeSlice 118 (.int .i64 (tn:Int)) (.int .i64 (tn:Int))).run Tryz.prog w4=.ok (.slice (some ⟨w4.heap.size,0,none⟩) tn tn) (w4.alloc (.cells Z.toArray 123)):=by
    have h:=run_make_row1 (P:=Tryz.prog) 118 123 i0 zeroVal Tryz.underlying118 HI.out.1 HI.out.2.1 .i64 .i64 tn (by rw [HI.out.2.2.2];omega) (by omega) w4
    rw [h,HI.out.2.2.1,hZ]
   obtain ⟨W5,hW5⟩:∃ W5,W5=w4.alloc (.cells Z.toArray 123):=⟨_,rfl⟩
   have HM5:Hid (Mods None w4 W5):=hiD (by rw [hW5];exact (Mods.refl _ _).alloc _)
   have HG5:Hid (W5.heap[w4.heap.size]?=some (.cells Z.toArray 123 (0,0))):=hiD (by rw [hW5];exact heap_alloc_new w4 _)
   have HBL5:Hid (Below w4.heap.size w4 W5):=hiD (by rw [hW5];exact (Below.refl _ _).alloc (Nat.le_refl _) _)
   have HZ:=hiD hZ
   have HFIT:Hid (0+cs.length≤Z.length):=hiD (by rw [hZ,HCS.out.1,← HLN.out];simp [madeCells];omega)
   have HPOS:Hid (Nat.min ln tn=ln):=hiD (Nat.min_eq_left (by omega))
   clear hZ
   have HCS5:Hid (∀ ad,la=some ad→0<ln→∀ j v,cs[j]?=some v→W5.cell? (ad.add j)=some v):=hiD (by
    intro ad had hp j v hj
    obtain ⟨ad2,e1,e2⟩:=HCS.out.2.1 (by have:=HLN.out;omega)
    rw [had] at e1
    obtain rfl:=Option.some.inj e1
    exact (HM3.out.trans (HM4.out.trans HM5.out)).cellOf (e2 j v hj) (fun f=>f))
   have HP5:Hid (CpOk W5 w4.heap.size la (Nat.min ln tn) cs):=hiD (by
    intro hp
    rw [HPOS.out] at hp
    obtain ⟨ad2,e1,e2⟩:=HCS.out.2.1 (by have:=HLN.out;omega)
    exact ⟨rfl,ad2,e1,HCS5.out ad2 e1 hp⟩)
   have HCL:Hid (cs.length=Nat.min ln tn*2):=hiD (by
    have h1:=HCS.out.1
    have h2:=HLN.out
    have h3:Nat.min ln tn=ln:=Nat.min_eq_left (by omega)
    rw [h3,h1,h2])
   clear hlab hbm hbn hm4 HLB
   go_upto_region 7 with (fail)
   rw [← hW5]
   clear hmk b2 hW5
   have HMX:=hiD (HM3.out.trans (HM4.out.trans HM5.out))
   go_wp2_with ((with_reducible refine wpList_copy_rows rfl (.tmp 40) (.tmp 41) 118 118 rfl 123 2 Tryz.underlying118 mval_size (some ⟨w4.heap.size,0,none⟩) la tn tn ln lc rfl rfl w4.heap.size 0 Z 123 HG5.out cs HCL.out (cpok HP5.out) HFIT.out HCS.out.2.2.2 w4.heap.size w4 HBL5.out (Nat.le_refl _) ?_);intro w6 HG6 hB6;have HB6:=hiD hB6;clear hB6;refine Hid.out ?_)
   refine hiD ?_
   have HM6:Hid (Mods None W2 w6):=hiD (HM3.out.trans (HM4.out.trans (Mods.of_below HB6.out)))
   have hM46:Mods None w4 w6:=Mods.of_below HB6.out
   have HS0:Hid (GoSt W P M A b mb w4.heap.size W2.heap.size bm L F ta sa tc sc s.calls r f 0 (fillP vs tn) M A { s with calls:=s.calls+1 } w6):=hiD (by
    have hlt4:W2.heap.size<w4.heap.size:=by
       have h1:=HM4.out.size
       have h2:=HB3.out.lt
       omega
    have hold:∀ k,M k→k<W2.heap.size:=HR2.out.old
    have hgiv:∀ k,P k→k<W2.heap.size:=HR2.out.given
    have hnew:∀ k,W2.heap.size≤k→¬ M k∧¬ P k:=fun k hk=>⟨fun hm=>by have:=hold k hm;omega,fun hp=>by have:=hgiv k hp;omega⟩
    have hlbm:=HLAB.out.lt
    have hs3:W2.heap.size<W3.heap.size:=HB3.out.lt
    have hbm:=HBM.out
    have hws:=HWS.out
    have hcs:=HCS.out
    have hpf:=pl_filled (P:=P) (M:=M) (A:=A) (n:=tn) (vs:=vs) (cs:=cs) (by have:=HG6.out;rw [HZ.out] at this;exact this) (by have:=HLN.out;omega) hcs.1 hcs.2.2.1 (hnew _ (by omega)).1 (hnew _ (by omega)).2
    have hTN:=HTN.out
    refine ⟨by rw [hTN];exact HRR.out,HR2.out.quiet HM6.out,hpf.1,by rw [hpf.2,hTN],HE2.out.trans (Ext.quiet HM6.out),List.prefix_refl _,(HB3.out.mods (HM4.out.trans hM46) (fun f=>f)),hnew _ (Nat.le_refl _),⟨bn,HLAB.out.mods hM46 (fun f=>f)⟩,hnew _ (by omega),HSA.out.mods (HM6.out.mono fun _ _ f=>f.elim) (fun _ _ k=>k),⟨by omega,by omega,by omega,by omega,by omega⟩,rfl⟩)
   obtain ⟨g0,hg0⟩:∃ g0,g0=w4.heap.size:=⟨_,rfl⟩
   obtain ⟨q0,hq0⟩:∃ q0,q0=W2.heap.size:=⟨_,rfl⟩
   rw [← hg0,← hq0] at HS0 ⊢
   have HR0:=hiD h
   clear hM46 HP5 HCL HMX HPOS HFIT HZ HBL5 HG5 HM5 HCS5 HG6 HB6 HM6 HBM HLAB HM4 HB3 HM3 HCS HR2 HE2 HV2 HWS hbl hc1 hcadd htn3 hlt hg0 hq0 h HRR
   go_wp2_with fail
   go_loopw [10] (fun iv wr=>∃ k i v M' A' s',k≤f∧iv=.int .i64 ((i:Nat):Int)∧i≤6001∧Hid (GoSt W P M A b mb g0 q0 bm L F ta sa tc sc s.calls r k i v M' A' s' wr)) (fun _ wr=>(intOf ((wr.cell? ⟨b,2,none⟩).getD (.int .i64 0))).toNat)
   case atStart=>exact ⟨f,0,_,M,A,_,Nat.le_refl _,rfl,by omega,HS0⟩
   case round =>
    clear HS0
    obtain ⟨k,i,v,M',A',s',hk,rfl,hi,HS⟩:=hrel
    have hfu:(intOf ((wr.cell? ⟨b,2,none⟩).getD (.int .i64 0))).toNat=s'.fuel:=mfuel_cell HS.out.rat
    have HFU:=hiD hfu
    have f3:=HS.out.box.cell (i:=3) rfl
    rw [← HSN.out] at f3
    obtain ⟨jv,jo,hb,-⟩:=HS.out.rat.blk
    have c2:wr.cell? ⟨b,2,none⟩=some (.int .i64 s'.fuel):=hb.cell rfl
    have c3:wr.cell? ⟨b,3,none⟩=some (.int .i64 s'.calls):=hb.cell rfl
    have z2:=hb.free 2
    have z3:=hb.free 3
    have HKK:=hiD hk
    have hcl:=HS.out.calls
    have hcm:Hid ((s'.calls:Int)-1=((s'.calls-1:Nat):Int)):=hiD (by omega)
    have hcb:s'.calls≤40:=HS.out.rat.calls
    have hfb:s'.fuel≤4000000000000000000:=HS.out.rat.fuel
    clear hfu hb hcl hk
    cases k with
    | zero=>have:=HS.out.run;simp only [goM,bindR] at this;cases this
    | succ k =>
      by_cases hlt:i<sn
      · have hil:i<F.steps.length:=by rw [← HSN.out];exact hlt
        obtain ⟨x,hxi⟩:∃ x,F.steps[i]?=some x:=⟨_,List.getElem?_eq_getElem hil⟩
        have hxe:F.steps[i]=x:=by
         obtain ⟨h1,h2⟩:=List.getElem?_eq_some_iff.1 hxi
         exact h2
        have hxm:x∈F.steps:=List.mem_of_getElem? hxi
        have hrun:=HS.out.run
        rw [goM_at hxi] at hrun
        have hpi:(i:Int)<(sn:Int):=by omega
        by_cases h0:s'.fuel=0
        · rw [show stepR s'=stopR 6 s' by unfold stepR;rw [if_pos h0]] at hrun
          obtain rfl:=(Option.some.inj hrun).symm
          rw [h0] at c2
          clear hrun hxi hxe hxm hil
          unfold Ran
          go_wp2_with fail
          go_at_call 50
          refine (stop_any 6 _).mono ?_
          rintro e w6 ⟨⟨older,rfl⟩,rfl⟩
          go_wp2
          exact ⟨rfl,⟨older,rfl⟩,M',A',HS.out.rat,HS.out.ext,HS.out.pre⟩
        · rw [show stepR s'=okR () { s' with fuel:=s'.fuel-1 } by unfold stepR;rw [if_neg h0]] at hrun
          have HX:=hiD hrun
          obtain ⟨gs,os,aa,ac,rfl,hcs,hargs⟩:=HS.out.sts.get hil
          rw [hxe] at hcs hargs
          have hpgs:P gs:=by
           obtain ⟨_,_,k1,_,_,_,k2⟩:=HS.out.sts
           obtain ⟨gs',os',_,e1,e2,_⟩:=k2 i x hxi
           obtain ⟨rfl,-,-⟩:=Value.slice.inj k1
           cases e1
           exact Classical.not_not.1 e2
          obtain ⟨y0,y1,y2,y3,y4,y5,y6,y7,y8,y9⟩:=hcs
          have hbg:b≠gs:=fun e=>HS.out.rat.off b HS.out.rat.has (e ▸ hpgs)
          have hox:=HOK.out.steps x hxm
          have hrx:=HRT.out x hxm
          have hi7:i<6000:=by have:=HSZ.out;omega
          obtain ⟨an,han⟩:∃ an,an=x.args.length:=⟨_,rfl⟩
          rw [← han] at y9
          have hfi:((s'.fuel:Int)==0)=false:=by simp;omega
          have hcast:Hid ((s'.fuel:Int)-1=((s'.fuel-1:Nat):Int)):=hiD (by omega)
          obtain ⟨W7,hW7⟩:∃ W7,W7=wr.setCell ⟨b,2,none⟩ (.int .i64 ((s'.fuel:Int)-1)):=⟨_,rfl⟩
          obtain ⟨W8,hW8⟩:∃ W8,W8=W7.alloc (.cells (stpL x (.slice aa an ac)).toArray 57):=⟨_,rfl⟩
          have HR7:RAt W7 b mb L P M' A' { s' with fuel:=s'.fuel-1 }:=by
           rw [hW7,hcast.out]
           exact HS.out.rat.setFuel _ (by omega)
          have HE7:Ext None M' M' wr W7:=by rw [hW7];exact HS.out.rat.ext None 2 _
          have HV7:=HS.out.pl.ext HE7 (fun f=>f) (List.prefix_refl A')
          have hM8:Mods None W7 W8:=by rw [hW8];exact (Mods.refl _ _).alloc _
          have HSX:Hid (Sx W7 W8 P M' g0 wr.heap.size (stpL x (.slice aa an ac))):=hiD (by
           have hs7:W7.heap.size=wr.heap.size:=by rw [hW7];simp [World.setCell]
           rw [hW8,← hs7]
           exact Sx.new HR7 HV7 _)
          have HR8:=hiD (HR7.quiet hM8)
          have HE8:Hid (Ext None M' M' wr W8):=hiD (HE7.trans (Ext.quiet hM8))
          have HV8:=hiD (HV7.ext (Ext.quiet (T:=None) hM8) (fun f=>f) (List.prefix_refl A'))
          have HAR:=hiD (hargs.mods (HE8.out.mods.mono fun k _ hk=>hk.elim (fun f=>f.elim) (HS.out.rat.off k)) (fun _ _ k=>k))
          have HOX:=hiD hox
          have HRX:=hiD hrx
          have HAN:=hiD han
          have HXI:=hiD hxi
          have HFU8:=hiD (mfuel_cell HR8.out)
          have HIL:=hiD hil
          obtain ⟨nb8,hlab8⟩:=HS.out.lab
          have hlab8:=hlab8.mods HE8.out.mods (fun f=>f.elim (fun f=>f) HS.out.nb.1)
          have hlk:=hlab8.look (t:=120) Tryz.underlying120 (e:=3) (by kernel_rfl) hox.nums.2.2.2.2.2.2
          obtain ⟨lm,hlm⟩:∃ lm,lm=labelAt F.steps x.label 0 0:=⟨_,rfl⟩
          rw [← hlm] at hlk
          have HLM:Hid (atP F x.label=lm∧lm≤6000):=hiD ⟨hlm.symm,by rw [hlm];exact labelAt_le _ _ _ _ _ (by omega) (by have:=HSZ.out;omega)⟩
          have hlm6:lm≤6000:=HLM.out.2
          have hgl:=HV8.out
          have d0:=HSX.out.blk.cell (i:=0) rfl
          have d1:=HSX.out.blk.cell (i:=1) rfl
          have d2:=HSX.out.blk.cell (i:=2) rfl
          have d3:=HSX.out.blk.cell (i:=3) rfl
          have d4:=HSX.out.blk.cell (i:=4) rfl
          have d5:=HSX.out.blk.cell (i:=5) rfl
          have d6:=HSX.out.blk.cell (i:=6) rfl
          have d7:=HSX.out.blk.cell (i:=7) rfl
          have d8:=HSX.out.blk.cell (i:=8) rfl
          have d9:=HSX.out.blk.cell (i:=9) rfl
          clear hrun hxi hxe hxm hil hpgs hox hrx han HR7 HE7 HV7 hM8 hlab8 hlm hgl hargs
          unfold stpL str at *
          go_upto_region 15 with (fail)
          rw [← hW7,← hW8]
          clear hW7 hW8 y0 y1 y2 y3 y4 y5 y6 y7 y8 y9 c2 c3 z2 z3 f3
          have HNX:=hiD (fun (k2 i2:Nat) hrun=>HS.out.next (k2:=k2) (i2:=i2) hrun HR8.out HV8.out HS.out.len HE8.out (fun _ f=>f.elim) (List.prefix_refl _) HS.out.calls)
          by_cases h4:x.code=4
          · have hX:=HX.out
            simp only [okR,bindR,h4,if_true] at hX
            rw [h4] at d0
            have HX4:=hiD hX
            clear hX h4 HX d1 d2 d3 d4 d5 d6 d8 d9
            go_wp2_with fail
            refine ⟨⟨k,lm+1,v,M',A',_,by have:=HKK.out;omega,by go_num,by omega,hiD (HNX.out k (lm+1) (by have:=HX4.out;rw [HLM.out.1] at this;exact this))⟩,?_⟩
            rw [HFU8.out,HFU.out]
            show s'.fuel-1<s'.fuel
            omega
          · by_cases h5:x.code=5
            · have hX:=HX.out
              simp only [okR,bindR,if_neg h4,if_pos h5] at hX
              obtain ⟨pa,hpa,hpal⟩:=fit_place (f:=F) (p:=x.a) (t:=1) (by omega) (by have:=(right_fit HRX.out (by omega) (by omega)).2;rw [h5] at this;simpa [formsP] using this)
              obtain ⟨ua,wa,da0,da1,Va⟩:=HV8.out.get (p:=pa) (by rw [HS.out.len];exact hpal)
              obtain ⟨ya,hya⟩:=Va.num
              simp only [Value.agg.injEq,Array.mk.injEq,List.cons.injEq,and_true] at hya
              obtain ⟨rfl,rfl⟩:=hya
              have qa:(pa:Int)<(tn:Int):=by have:=HTN.out;omega
              rw [hpa] at d2 hX
              obtain ⟨na,hna⟩:∃ na,na=(v.get (pa:Int)).n:=⟨_,rfl⟩
              rw [← hna] at da0 hX
              rw [h5] at d0
              have HX5:=hiD hX
              clear hX h5 h4 HX d1 d3 d4 d5 d6 d8 d9 Va hpal hna hpa
              by_cases hz:na=0
              · have hX:=HX5.out
                simp only [if_pos hz] at hX
                have HX6:=hiD hX
                have hz1:(na==0)=true:=by simp [hz]
                clear hX HX5 hz
                go_wp2_with fail
                refine ⟨⟨k,lm+1,v,M',A',_,by have:=HKK.out;omega,by go_num,by omega,hiD (HNX.out k (lm+1) (by have:=HX6.out;rw [HLM.out.1] at this;exact this))⟩,?_⟩
                rw [HFU8.out,HFU.out]
                show s'.fuel-1<s'.fuel
                omega
              · have hX:=HX5.out
                simp only [if_neg hz] at hX
                have HX6:=hiD hX
                have hz1:(na==0)=false:=by simp [hz]
                clear hX HX5 hz
                go_wp2_with fail
                refine ⟨⟨k,i+1,v,M',A',_,by have:=HKK.out;omega,by go_num,by omega,hiD (HNX.out k (i+1) HX6.out)⟩,?_⟩
                rw [HFU8.out,HFU.out]
                show s'.fuel-1<s'.fuel
                omega
            · by_cases h7:x.code=7
              · have hX:=HX.out
                simp only [okR,bindR] at hX
                simp only [if_neg h4,if_neg h5,if_pos h7] at hX
                have HX7:Hid (bindR (callM L k { s' with fuel:=s'.fuel-1 } x.name (x.args.map v.get)) (fun n s=>bindR (goM L k s F (v.put x.dst (numV n)) (i+1)) fun n t=>okR n { t with calls:=t.calls-1 })=some r):=hiD (by rw [← hX];exact (mbindR_assoc _ _ _).symm)
                obtain ⟨G,hG,hGl,hkd,hka⟩:=call_fit hL HRX.out h7
                obtain ⟨pd,hpd,hpdl⟩:=place_of_kind hkd
                have HGG:=hiD (And.intro hG hGl)
                have HKA:=hiD hka
                have qd:(pd:Int)<(tn:Int):=by have:=HTN.out;omega
                have HPD:Hid (pd<v.length):=hiD (by rw [HS.out.len];exact hpdl)
                have HPDE:=hiD hpd
                rw [hpd] at d1
                rw [h7] at d0
                have hac:(an:Int)≤(ac:Int)∧(ac:Int)≤9223372036854775807:=by
                   obtain ⟨_,_,k1,k2,k3,_⟩:=HAR.out.form
                   obtain ⟨-,-,rfl⟩:=Value.slice.inj k1
                   have:=HAN.out
                   omega
                have HD:=hiD (And.intro d1 d8)
                clear hX h4 h5 h7 HX hG hGl hkd hka hpdl hpd hlk d2 d3 d4 d5 d6 d7
                go_wp2_with fail
                obtain ⟨wo,rfl⟩:∃ wo:World,wo=wr:=⟨_,rfl⟩
                go_loopw [12,98] (fun lv jv wr=>∃ j,j≤an∧jv=.int .i64 ((j:Nat):Int)∧Hid (Vals wr W8.heap.size P M' A' lv ((x.args.take j).map v.get))∧Hid (Mods None W8 wr)) (fun _ jv _=>(an-intOf jv).toNat)
                case atStart=>exact ⟨0,Nat.zero_le _,rfl,hiD (Vals.none_ _ _ _ _ _),hiD (Mods.refl _ _)⟩
                case round =>
                   obtain ⟨j,hj,rfl,HVS,HMW⟩:=hrel
                   obtain ⟨cv,hcv1,hcv2,hcv3⟩:=HVS.out
                   obtain ⟨oa,oc,rfl⟩:=row_form hcv1
                   have hjl:(x.args.take j).length=j:=by rw [List.length_take];have:=HAN.out;omega
                   rw [List.length_map,hjl] at hcv1 hcv2 ⊢
                   have HJL:=hiD hjl
                   have HOW:=hiD hcv1
                   have HCV:=hiD (And.intro hcv2 hcv3)
                   clear hcv1 hcv2 hcv3 hjl
                   by_cases hlt2:j<an
                   · have hjx:j<x.args.length:=by rw [← HAN.out];exact hlt2
                     obtain ⟨p,hp⟩:∃ p,x.args[j]?=some p:=⟨_,List.getElem?_eq_getElem hjx⟩
                     have hpe:x.args[j]=p:=by
                      obtain ⟨h1,h2⟩:=List.getElem?_eq_some_iff.1 hp
                      exact h2
                     obtain ⟨pn,rfl,hpl⟩:=place_of_kind (HKA.out p (List.mem_of_getElem? hp))
                     obtain ⟨ga,oa2,rfl,hca⟩:=(HAR.out.mods (HMW.out.mono fun _ _ f=>f.elim) (fun _ _ k=>k) (T:=fun k=>¬ P k)).get hjx
                     rw [hpe] at hca
                     have HVW:=hiD (HV8.out.ext (Ext.quiet (T:=None) HMW.out) (fun f=>f) (List.prefix_refl A'))
                     have HRW:=hiD (HR8.out.quiet HMW.out)
                     obtain ⟨up,wp,dp0,dp1,Vp⟩:=HVW.out.get (p:=pn) (by rw [HS.out.len];exact hpl)
                     obtain ⟨kp,yp,np,hyp,-,-⟩:=Vp.len HRW.out
                     simp only [Value.agg.injEq,Array.mk.injEq,List.cons.injEq,and_true] at hyp
                     obtain ⟨rfl,rfl⟩:=hyp
                     have qp:(pn:Int)<(tn:Int):=by have:=HTN.out;omega
                     have qj:(j:Int)<(an:Int):=by omega
                     have HVP:=hiD Vp
                     have htk:x.args.take (j+1)=x.args.take j++[(pn:Int)]:=by rw [List.take_succ_eq_append_getElem hjx,hpe]
                     have HTK:=hiD htk
                     have HMA:Hid (Mods None wr (wr.alloc (.cells #[.int .i64 kp,.slice yp np np] 123))):=hiD ((Mods.refl _ _).alloc _)
                     have HOA:=hiD (HMA.out.ownsRow HOW.out (fun k hk f=>f))
                     have HBS:Hid (W8.heap.size≤(wr.alloc (.cells #[.int .i64 kp,.slice yp np np] 123)).heap.size):=hiD (by have h1:=HMW.out.size;have h2:=HMA.out.size;omega)
                     have HA3:Hid (an≤3000):=hiD (by have h1:=(hL.sizes (List.mem_of_find?_eq_some HGG.out.1)).1;have h2:=HGG.out.2;have h3:=HAN.out;omega)
                     have HLT2:=hiD hlt2
                     clear hjx hp hpe hpl Vp htk hlt2
                     go_wp2_with (at_builtin;refine wpList_append_own_at _ rfl _ _ 118 rfl W8.heap.size 123 i0 _ 2 32 Tryz.underlying118 HI.out.1 HI.out.2.1 HI.out.2.2.1 HI.out.2.2.2 rfl (by decide) (.slice oa j oc) j cv rfl HOA.out ⟨wr.heap.size,0,none⟩ 1 1 [.int .i64 kp,.slice yp np np] rfl rfl (mtwo_new _ _ _ _) (mpair_one _ _ _ _) (by have h1:=HA3.out;have h2:=HLT2.out;unfold maxLen;omega) (by have h1:=HA3.out;have h2:=HLT2.out;omega) HBS.out ?_;intro v' w5 hown hgrow hnil hloc;have HOW5:=hiD hown;have HGR:=hiD (grew_of hgrow hloc);clear hown hgrow hnil hloc;refine Hid.out ?_)
                     refine hiD ?_
                     obtain ⟨qa,qc,rfl⟩:=row_form HOW5.out
                     go_wp2_with fail
                     refine ⟨⟨j+1,by have:=HLT2.out;omega,by go_num,hiD ?_,hiD ?_⟩,by have:=HLT2.out;simp [intOf];omega⟩
                     · rw [HTK.out,List.map_append]
                       have hold:=(HRW.out.quiet HMA.out).old
                       have hgiv:=(HRW.out.quiet HMA.out).given
                       have hvl:((x.args.take j).map v.get).length=j:=by rw [List.length_map,HJL.out]
                       refine Vals.grow (w4:=_) (cs:=cv) (lv:=.slice oa j oc) (u:=.int .i64 kp) (v:=.slice yp np np) ?_ HCV.out.1 HCV.out.2 ?_ HGR.out.loc hold hgiv HVP.out
                       · rw [hvl];exact HOA.out
                       · rw [hvl];exact HOW5.out
                     · have h1:=HMW.out.trans HMA.out
                       refine h1.trans' HGR.out.mods (fun k hk hl=>?_)
                       have:=(HOA.out.lt k hk).1
                       omega
                   · obtain rfl:j=an:=by omega
                     have hta:x.args.take j=x.args:=by rw [List.take_of_length_le];have:=HAN.out;omega
                     have hjn:¬ (j:Int)<(j:Int):=by omega
                     have hSm:=HSX.out.step (Ext.quiet (T:=None) HMW.out) (fun f=>f)
                     have e1:=hSm.blk.cell (i:=1) rfl
                     rw [HPDE.out] at e1
                     have e8:=hSm.blk.cell (i:=8) rfl
                     have HRd:=hiD ((HR8.out.quiet HMW.out).quiet (Mods.refl None wr).drew)
                     have HSd:=hiD (hSm.step (Ext.quiet (T:=None) (Mods.refl None wr).drew) (fun f=>f))
                     have HVd:=hiD ((HV8.out.ext (Ext.quiet (T:=None) HMW.out) (fun f=>f) (List.prefix_refl A')).ext (Ext.quiet (T:=None) (Mods.refl None wr).drew) (fun f=>f) (List.prefix_refl A'))
                     have HMd:Hid (Mods None W8 wr.drew):=hiD HMW.out.drew
                     have hVs:Vals wr.drew W8.heap.size P M' A' (.slice oa j oc) (x.args.map v.get):=by
                      have h:=HVS.out.ext (Ext.quiet (Mods.refl None wr).drew) (List.prefix_refl A')
                      rw [hta,show (x.args.map v.get).length=j by rw [List.length_map,HAN.out]] at h
                      exact h
                     have hvn:(x.args.map v.get).length≤x.args.length:=by simp
                     cases hp:callM L k { s' with fuel:=s'.fuel-1 } x.name (x.args.map v.get) with
                     | none=>have:=HX7.out;rw [hp] at this;cases this
                     | some y =>
                       have hC:=HIH.out k (by have:=HKK.out;omega) x.name (x.args.map v.get) b mb W8.heap.size P M' A' { s' with fuel:=s'.fuel-1 } wr.drew (.slice oa j oc) y HRd.out hVs HOX.out.texts.2 ⟨G,HGG.out.1,by have:=HGG.out.2;omega⟩ hp
                       have HC:=hiD hC
                       have hX7:=HX7.out
                       rw [hp] at hX7
                       have HPP:=hiD hp
                       have HHJ:=hiD hjn
                       clear hC hta hvn hVs hSm hp
                       unfold str at HC
                       obtain ⟨y,s2⟩:=y
                       cases y with
                       | error gg =>
                         obtain rfl:=(Option.some.inj hX7).symm
                         clear hX7
                         go_wp2_with fail
                         go_region_with (first|(go_at_call 23;refine HC.out.mono ?_;rintro e w3 ⟨⟨older,rfl⟩,M3,A3,k1,k2,k3⟩;refine no_way Tryz.prog w3 ⟨rfl,⟨older,rfl⟩,M3,A3,k1,((HS.out.ext.trans (HE8.out.trans (Ext.quiet HMd.out))).trans k2),HS.out.pre.trans k3⟩ ?_))
                         all_goals trivial
                       | ok n2 =>
                         have HX9:=hiD hX7
                         clear hX7
                         have HC2:Hid (s2.calls=s.calls+1):=hiD (by
                          rcases (keptM_all L k).2 { s' with fuel:=s'.fuel-1 } _ _ _ HPP.out with ⟨_,h⟩|⟨_,h⟩
                          · cases h
                          · rw [show s2.calls=s'.calls from h,HS.out.calls])
                         have HF2:Hid (s2.fuel≤s'.fuel-1):=hiD ((goesM_all burns_way L k).2 { s' with fuel:=s'.fuel-1 } _ _ _ HPP.out)
                         have HFAR:Hid (∀ (M3:Nat→Prop) (A3:List (Nat×Nat)) (w3:World),Ext None M' M3 wr.drew w3→A' <+: A3→PlAt w3 P M3 A3 g0 v∧Sx W7 w3 P M3 g0 wo.heap.size [.int .i64 x.code,.int .i64 x.dst,.int .i64 x.a,.int .i64 x.b,.int .i64 x.c,.int .i64 x.n,.string ⟨x.op.toArray⟩,.int .i64 x.label,.string ⟨x.name.toArray⟩,.slice aa j ac]):=hiD (fun M3 A3 w3 h k=>⟨HVd.out.ext h (fun f=>f) k,HSd.out.step h (fun f=>f)⟩)
                         go_wp2_with fail
                         go_region_with (first|(go_at_call 23;refine HC.out.mono ?_;rintro e w3 ⟨M3,A3,rfl,k1,k2,k3⟩;have hF3:=HFAR.out M3 A3 w3 k2 k3;have e31:=hF3.2.blk.cell (i:=1) rfl;rw [HPDE.out] at e31;obtain ⟨ud,wd,dd0,dd1,-⟩:=hF3.1.get (p:=pd) HPD.out;have z30:w3.frozen? ⟨g0,pd*2,none⟩=false:=(by obtain ⟨cs,h1,_⟩:=hF3.1;exact h1.free _);have z31:w3.frozen? ⟨g0,pd*2+1,none⟩=false:=(by obtain ⟨cs,h1,_⟩:=hF3.1;exact h1.free _);have HV3:=hiD hF3.1;have HR3:=hiD k1;have HE3:=hiD k2;have HA3:=hiD k3;clear hF3 k1 k2 k3))
                         all_goals go_wp2_with fail
                         all_goals
                          have hput:=HV3.out.put (p:=pd) HPD.out (x:=numV n2) (u:=.int .i64 n2) (w:=.slice none 0 0) (Or.inl ⟨rfl,rfl⟩)
                          have hfar:¬ M3 g0∧¬ P g0:=by obtain ⟨_,_,_,_,k4,k5⟩:=HV3.out;exact ⟨k4,k5⟩
                          have hRp:=HR3.out.aside hput.2 (fun k hk=>by rw [hk];exact hfar)
                          have hfw:=mfuel_cell hRp
                          refine ⟨⟨k,i+1,v.put (pd:Int) (numV n2),M3,A3,s2,by have:=HKK.out;omega,by go_num,by omega,hiD ?_⟩,?_⟩
                          · refine HS.out.next (T:=(·=g0)) (by have:=HX9.out;rw [HPDE.out] at this;exact this) (hRp.quiet (by first|exact Mods.refl _ _|exact (Mods.refl _ _).drew)) (hput.1.ext (Ext.quiet (T:=None) (by first|exact Mods.refl _ _|exact (Mods.refl _ _).drew)) (fun f=>f) (List.prefix_refl _)) (by rw [put_len,HS.out.len]) ?_ (fun _ f=>f) HA3.out HC2.out
                            refine ((HE8.out.trans (Ext.quiet HMd.out)).more (fun _ _ f=>f.elim)).trans ((HE3.out.more (fun _ _ f=>f.elim)).trans ((Ext.aside hput.2 (fun _ _ f=>f)).trans (Ext.quiet (by first|exact Mods.refl _ _|exact (Mods.refl _ _).drew))))
                          · have h2:=HF2.out
                            have h3:s'.fuel≠0:=by omega
                            rw [HFU.out]
                            have h1:∀ n,n=s2.fuel→n<s'.fuel:=fun n h=>by omega
                            exact h1 _ hfw
              · by_cases h8:x.code=8
                · have hX:=HX.out
                  simp only [okR,bindR,if_neg h4,if_neg h5,if_neg h7,if_pos h8] at hX
                  obtain ⟨pa,hpa,hpal⟩:=fit_place (f:=F) (p:=x.a) (t:=1) (by omega) (by have:=(right_fit HRX.out (by omega) (by omega)).2;rw [h8] at this;simpa [formsP] using this)
                  obtain ⟨ua,wa,da0,da1,Va⟩:=HV8.out.get (p:=pa) (by rw [HS.out.len];exact hpal)
                  obtain ⟨ya,hya⟩:=Va.num
                  simp only [Value.agg.injEq,Array.mk.injEq,List.cons.injEq,and_true] at hya
                  obtain ⟨rfl,rfl⟩:=hya
                  have qa:(pa:Int)<(tn:Int):=by have:=HTN.out;omega
                  rw [hpa] at d2 hX
                  obtain ⟨na,hna⟩:∃ na,na=(v.get (pa:Int)).n:=⟨_,rfl⟩
                  rw [← hna] at da0 hX
                  rw [h8] at d0
                  obtain rfl:=(Option.some.inj hX).symm
                  obtain ⟨jv8,jo8,hb8,-⟩:=HR8.out.blk
                  have c38:W8.cell? ⟨b,3,none⟩=some (.int .i64 s'.calls):=hb8.cell rfl
                  have z38:=hb8.free 3
                  have hbg0:b≠g0:=fun e=>by obtain ⟨_,_,_,_,k4,_⟩:=HV8.out;exact k4 (e ▸ HR8.out.has)
                  have hbq:b≠wr.heap.size:=fun e=>HSX.out.nm.1 (e ▸ HR8.out.has)
                  have hR9:=HR8.out.setCalls (s'.calls-1) (by omega)
                  have HR9:=hiD hR9
                  have HE9:=hiD (HS.out.ext.trans (HE8.out.trans (HR8.out.ext None 3 (.int .i64 ((s'.calls-1:Nat):Int)))))
                  clear hX h5 h4 h7 h8 HX d1 d3 d4 d5 d6 d7 d8 d9 Va hpal hna hpa hb8 hR9 hlk
                  go_wp2_with fail
                  go_ret
                  rw [hcm.out]
                  exact ⟨M',A',rfl,HR9.out,HE9.out,HS.out.pre⟩
                · have hX:=HX.out
                  simp only [okR,bindR] at hX
                  simp only [if_neg h4,if_neg h5,if_neg h7,if_neg h8] at hX
                  have HX8:Hid (bindR (stepM v x { s' with fuel:=s'.fuel-1 }) (fun v s=>bindR (goM L k s F v (i+1)) fun n t=>okR n { t with calls:=t.calls-1 })=some r):=hiD (by rw [← hX];exact (mbindR_assoc _ _ _).symm)
                  have hvl:v.length=tn:=by rw [HS.out.len,HTN.out]
                  have hSC:=fun y hy=>st_any HRX.out h4 h5 h7 h8 v b mb g0 tn P M' A' { s' with fuel:=s'.fuel-1 } W8 (.agg (stpL x (.slice aa x.args.length ac)).toArray) y HR8.out HV8.out HS.out.len (by omega) (by have:=HT3.out;omega) ⟨aa,ac,rfl,HAR.out⟩ HRX.out hy
                  rw [hvl,← HAN.out] at hSC
                  have HSC:=hiD hSC
                  have n4:(x.code==4)=false:=by simpa using h4
                  have n5:(x.code==5)=false:=by simpa using h5
                  have n7:(x.code==7)=false:=by simpa using h7
                  have n8:(x.code==8)=false:=by simpa using h8
                  have HE0:=hiD (Ext.refl (·=g0) M' W8)
                  have HA0:=hiD (List.prefix_refl A')
                  have HVL:=hiD hvl
                  clear hX h4 h5 h7 h8 HX hSC hvl hlk
                  unfold stpL str at HSC
                  go_wp2_with fail
                  go_at_call 52
                  refine mbind_of (T:=(·=g0)) (T0:=(·=g0)) (fun _ f=>f) HE0 HA0 HX8 HSC.out ?_ ?_
                  · rintro gg s2 rfl older w H
                    obtain ⟨M2,A2,k1,k2,k3⟩:=H.out
                    have hE2:Ext None M M2 W w:=HS.out.ext.transNew (HE8.out.trans (Ext.refl _ _ _) |>.more (fun _ _ f=>f.elim) |>.trans k2) (fun j hj e=>by have:=HS.out.base.1;omega)
                    go_wp2
                    exact ⟨rfl,⟨older,rfl⟩,M2,A2,k1,hE2,HS.out.pre.trans k3⟩
                  · rintro v2 s2 HST HX9 e w M2 A2 ⟨rfl,hp2⟩ HR2 HE2 HE3 HA2 HA3
                    have hl2:=stepM_len HST.out
                    have HP2:=hiD hp2
                    have HL2:=hiD hl2
                    have HC2:Hid (s2.calls=s.calls+1):=hiD (by
                     rcases stepM_kept v x { s' with fuel:=s'.fuel-1 } _ HST.out with ⟨_,h⟩|⟨_,h⟩
                     · cases h
                     · rw [show s2.calls=s'.calls from h,HS.out.calls])
                    have HF2:Hid (s2.fuel≤s'.fuel-1):=hiD (stepM_goes burns_way v x { s' with fuel:=s'.fuel-1 } _ HST.out)
                    have HFW:=hiD (mfuel_cell HR2.out)
                    clear hp2 hl2
                    go_wp2_with fail
                    refine ⟨⟨k,i+1,v2,M2,A2,s2,by have:=HKK.out;omega,by go_num,by omega,hiD ?_⟩,?_⟩
                    · exact HS.out.next (T:=(·=g0)) HX9.out HR2.out HP2.out (by rw [HL2.out,HS.out.len]) ((HE8.out.more fun _ _ f=>f.elim).trans HE2.out) (fun _ f=>f) HA2.out HC2.out
                    · rw [HFW.out,HFU.out]
                      have:=HF2.out
                      omega
      · have hend:=HS.out.run
        rw [goM_end (by rw [← HSN.out];omega)] at hend
        obtain rfl:=(Option.some.inj hend).symm
        have hpi:¬ (i:Int)<(sn:Int):=by omega
        have hR2:=HS.out.rat.setCalls (s'.calls-1) (by omega)
        have HR2:=hiD hR2
        have HE2:=hiD (HS.out.ext.trans (HS.out.rat.ext None 3 (.int .i64 ((s'.calls-1:Nat):Int))))
        clear hend hR2
        unfold Ran retN
        go_wp2_with fail
        go_ret
        rw [hcm.out]
        exact ⟨M',A',rfl,HR2.out,HE2.out,HS.out.pre⟩
end Go.Proofs.YtnicpmoanjddbaaGreatDoor.MidP

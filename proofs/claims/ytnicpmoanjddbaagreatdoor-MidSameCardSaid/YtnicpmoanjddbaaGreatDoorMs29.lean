/- The runner goes through a block. Conditions: what it has lies. What a call does behind its body: what was thrown is told, or thrown again. Conditions: what it has lies. How a call's door shuts. Conditions: what it has lies. The runner calls a function. Conditions: what it has lies; functions are right. The runner, whole. Conditions: what it has lies; functions are right. -/
import Derived.Test.YtnicpmoanjddbaaGreatDoorMs28
import Derived.Test.YtnicpmoanjddbaaGreatDoorMs19
import Derived.Defers
import Derived.Recover
import Derived.Test.YtnicpmoanjddbaaGreatDoorMs07
namespace Go.Proofs.YtnicpmoanjddbaaGreatDoor.TreeP
open Go.RowKit Go.Proofs.YtnicpmoanjddbaaGreatDoor.Wo
set_option linter.unusedVariables false
set_option linter.unusedSimpArgs false
theorem goodSs_at {L:List Fn}:{l:List St}→GoodSs L l→(i:Nat)→(x:St)→l[i]?=some x→GoodS L x
 | [],_,i,x,h=>by simp at h
 | a::r,hg,0,x,h=>by
   simp only [GoodSs] at hg
   simp only [List.getElem?_cons_zero,Option.some.injEq] at h
   exact h ▸ hg.1
 | a::r,hg,i+1,x,h=>by
   simp only [GoodSs] at hg
   exact goodSs_at hg.2 i x (by simpa using h)
theorem row_cells {w:World} {S:Nat→Prop} {l:List St} {sa:Option Addr} {sc:Nat} {vs:List Value} (hr:RowAt w S 143 7 (.slice sa l.length sc) l.length vs) (hst:StsAt w S l vs) (i:Nat) (hi:i<l.length) :
 ∃ g code a name p q oa on oc ob om od,sa=some ⟨g,0,none⟩∧w.cell? ⟨g,i*7,none⟩=some (.int .i64 code)∧w.cell? ⟨g,i*7+1,none⟩=some (.int .i64 a)∧w.cell? ⟨g,i*7+2,none⟩=some (.string name)∧w.cell? ⟨g,i*7+3,none⟩=some (.pointer p)∧w.cell? ⟨g,i*7+4,none⟩=some (.pointer q)∧w.cell? ⟨g,i*7+5,none⟩=some (.slice oa on oc)∧w.cell? ⟨g,i*7+6,none⟩=some (.slice ob om od) ∧
   StAt w S l[i] [.int .i64 code,.int .i64 a,.string name,.pointer p,.pointer q,.slice oa on oc,.slice ob om od]:=by
 obtain ⟨sa2,sc2,he,hsc,hsm,hscell⟩:=ownsRow_slice hr.1
 simp only [Value.slice.injEq] at he
 obtain ⟨rfl,-,rfl⟩:=he
 obtain ⟨cs,h1,h2⟩:=hst.get i l[i] (List.getElem?_eq_getElem hi)
 obtain ⟨code,a,name,p,q,oa,on,oc,ob,om,od,rfl⟩:=h1.shape
 have cell:∀ j u,j<7→([.int .i64 code,.int .i64 a,.string name,.pointer p,.pointer q,.slice oa on oc,.slice ob om od]:List Value)[j]?=some u→∃ g,sa=some ⟨g,0,none⟩∧w.cell? ⟨g,i*7+j,none⟩=some u:=by
  intro j u hj hu
  obtain ⟨g,e1,e2,e3⟩:=hscell (i*7+j) u (by rw [h2 j hj];exact hu)
  exact ⟨g,e1,e3⟩
 obtain ⟨g,e0,k0⟩:=cell 0 _ (by omega) rfl
 have cell2:∀ j u,j<7→([.int .i64 code,.int .i64 a,.string name,.pointer p,.pointer q,.slice oa on oc,.slice ob om od]:List Value)[j]?=some u→w.cell? ⟨g,i*7+j,none⟩=some u:=by
  intro j u hj hu
  obtain ⟨g',e1,e2⟩:=cell j u hj hu
  rw [e0] at e1
  obtain rfl:g=g':=by simpa using e1
  exact e2
 exact ⟨g,code,a,name,p,q,oa,on,oc,ob,om,od,e0,k0,cell2 1 _ (by omega) rfl,cell2 2 _ (by omega) rfl,cell2 3 _ (by omega) rfl,cell2 4 _ (by omega) rfl,cell2 5 _ (by omega) rfl,cell2 6 _ (by omega) rfl,h1⟩
set_option maxRecDepth 100000 in
set_option maxHeartbeats 1000000 in
theorem blk_any {L:List Fn} {f:Nat} (ih:∀ k,k<f→StC L k):BlkC L f:=by
 intro l lv vs b mb P M A s F fm n N W r h hF hn hN hg hrow hst hr
 have HX:Hid (blockR L f s F (l.drop 0)=some r):=hiD hr
 obtain ⟨sa,sc,rfl⟩:=lex_form hrow.1
 have hcap:l.length≤sc∧sc≤maxLen:=by
  obtain ⟨sa2,sc2,he,hsc,hsm,-⟩:=ownsRow_slice hrow.1
  simp only [Value.slice.injEq] at he
  obtain ⟨-,-,rfl⟩:=he
  exact ⟨hsc,hsm⟩
 have HRC:=hiD (fun (w:World) (hm:Mods (fun k=>¬ P k) W w)=>row_cells (hrow.mods hm (fun _ _ k=>k)) (StsAt.modsTo hm (fun _ _ k=>k) _ _ hst))
 have HG:=hiD hg
 have HIH:=hiD ih
 have HNN:=hiD hN
 have HN1:=hiD hn
 have HR:=hiD h
 have HR0:=hiD h
 have HF:=hiD hF
 have HFM:Hid (¬ P fm):=hiD (by obtain ⟨_,_,_,k,_⟩:=hF;exact k)
 have HE:=hiD (Ext.refl (·=fm) M W)
 have HA:=hiD (List.prefix_refl A)
 obtain ⟨nl,hnl⟩:∃ nl,nl=l.length:=⟨_,rfl⟩
 have HNL:=hiD hnl
 rw [← hnl] at hcap
 obtain ⟨hc1,hc2⟩:=hcap
 unfold maxLen at hc2
 rw [← hnl]
 clear h hF hn hN hg hrow hst hr ih hnl
 go_enter Tryz.func75,Tryz.ntmps75
 go_wp2_with fail
 go_loopw [7,10] (fun _ iv wr=>∃ (k i:Nat) (s':RS) (F':Fr) (M':Nat→Prop) (A':List (Nat×Nat)) (n':Nat),k≤f∧i≤nl∧iv=.int .i64 i∧Hid (blockR L k s' F' (l.drop i)=some r)∧Hid (RAt wr b mb L P M' A' s')∧Hid (FrAt wr P M' A' fm n' F')∧Hid (n'+s'.fuel≤N)∧Hid (Ext (·=fm) M M' W wr)∧Hid (A <+: A')) (fun _ iv _=>(nl-intOf iv).toNat)
 case atStart=>exact ⟨f,0,s,F,M,A,n,Nat.le_refl _,Nat.zero_le _,rfl,HX,HR,HF,HN1,HE,HA⟩
 case round =>
  clear HX HR HF HN1 HE HA
  obtain ⟨k,i,s2,F2,M2,A2,n2,hk,hi,rfl,HX,HR2,HF2,HN2,HE2,HA2⟩:=hrel
  cases k with
  | zero=>simp only [blockR] at HX;cases HX.out
  | succ k =>
  by_cases hlt:i<nl
  · have hil:i<l.length:=by have:=HNL.out;omega
    have hmP:Mods (fun k=>¬ P k) W wr:=HE2.out.mods.mono fun k _ hk=>hk.elim (fun e=>by rw [e];exact HFM.out) (HR0.out.off k)
    obtain ⟨g,code,a,name,p,q,oa,on,oc,ob,om,od,rfl,k0,k1,k2,k3,k4,k5,k6,hs⟩:=HRC.out wr hmP i hil
    have hpi:(i:Int)<(nl:Int):=by omega
    have HX2:Hid (bindR (stmtR L k s2 F2 l[i]) (fun F s=>blockR L k s F (l.drop (i+1)))=some r):=hiD (by
        rw [← HX.out,List.drop_eq_getElem_cons hil]
        simp only [blockR])
    obtain ⟨W1,hW1⟩:∃ W1,W1=wr.alloc (.cells #[.int .i64 code,.int .i64 a,.string name,.pointer p,.pointer q,.slice oa on oc,.slice ob om od] 143):=⟨_,rfl⟩
    have HMA:Mods None wr W1:=by rw [hW1];exact (Mods.refl _ _).alloc _
    have HC:=hiD (fun y (hy:stmtR L k s2 F2 l[i]=some y)=>HIH.out k (by omega) l[i] _ b mb P M2 A2 s2 F2 fm n2 N W1 y (HR2.out.quiet HMA) (HF2.out.ext (Ext.quiet HMA) (List.prefix_refl _)) HN2.out HNN.out (goodSs_at HG.out i _ (List.getElem?_eq_getElem hil)) (StAt.modsTo (HMA.mono fun _ _ f=>f.elim) (fun _ _ k=>k) _ _ hs) hy)
    have HE3:=hiD (HE2.out.trans (Ext.quiet HMA))
    have HKF:=hiD hk
    have hi7:(i:Int)<9223372036854775807:=by omega
    clear hs HX hmP HMA hk
    go_wp2_with fail
    rw [← hW1]
    clear hW1 k0 k1 k2 k3 k4 k5 k6
    go_at_call 105
    refine rbindF_of HE3 HA2 HX2 HC.out ?_ ?_
    · rintro g s' rfl older w H
      obtain ⟨M',A',k1,k2,k3⟩:=H.out
      go_wp2
      exact ⟨rfl,⟨older,rfl⟩,M',A',k1,k2,k3⟩
    · rintro G s3-HX3 w3 M3 A3 n3 HF3 HN3 HR3 HE4 HE5 HA4 HA5
      clear HX2 HC
      go_wp2_with fail
      exact ⟨⟨k,i+1,s3,G,M3,A3,n3,by have:=HKF.out;omega,by omega,by go_num,HX3,HR3,HF3,HN3,HE5,HA5⟩,by simp [intOf];omega⟩
  · obtain rfl:i=nl:=by omega
    have hpi:¬ (i:Int)<(i:Int):=by omega
    have hd:l.drop i=[]:=by rw [HNL.out];exact List.drop_length
    have hx:=HX.out
    rw [hd] at hx
    simp only [blockR] at hx
    obtain rfl:=(Option.some.inj hx).symm
    clear hx hd
    go_wp2_with fail
    go_end0
    exact ⟨rfl,M2,A2,n2,HF2.out,HN2.out,HR2.out,HE2.out,HA2.out⟩
theorem stmt_zero (L:List Fn):StC L 0:=by
 intro x cs b mb P M A s F fm n N W r h hF hn hN hg hs hr
 simp only [stmtR] at hr
 cases hr
theorem stmt_any {L:List Fn} {f:Nat} (ihe:∀ k,k≤f→EvC L k) (ihb:∀ k,k≤f→BlkC L k):StC L (f+1):=by
 intro x cs b mb P M A s F fm n N W r h hF hn hN hg hs hr
 have ie:=ihe f (Nat.le_refl _)
 have ib:=ihb f (Nat.le_refl _)
 cases x with
 | var a x v=>exact rst_var ie a x v cs b mb P M A s F fm n N W r h hF hn hN hg hs hr
 | set a x v=>exact rst_set ie a x v cs b mb P M A s F fm n N W r h hF hn hN hg hs hr
 | put a x i v=>exact rst_put ie a x i v cs b mb P M A s F fm n N W r h hF hn hN hg hs hr
 | cond a v t e=>exact rst_cond ie ib a v t e cs b mb P M A s F fm n N W r h hF hn hN hg hs hr
 | loop a v t=>exact rst_loop ihe ihb a v t cs b mb P M A s F fm n N W r h hF hn hN hg hs hr
 | ret a v=>exact rst_ret ie a v cs b mb P M A s F fm n N W r h hF hn hN hg hs hr
 | print a v=>exact rst_print ie a v cs b mb P M A s F fm n N W r h hF hn hN hg hs hr
 | call a v=>exact rst_call ie a v cs b mb P M A s F fm n N W r h hF hn hN hg hs hr
set_option maxRecDepth 100000 in
theorem caught_idle (q6 q3 b:Nat) (k:Int) (w:World) (h3:w.cell? ⟨q3,0,none⟩=some (.pointer (some ⟨b,0,none⟩))) (hc:w.cell? ⟨b,3,none⟩=some (.int .i64 k)) (fz:w.frozen? ⟨b,3,none⟩=false) (hk:1≤k) (hk2:k≤40) :
 CallsD Tryz.prog 74 #[.pointer (some ⟨q6,0,none⟩),.pointer (some ⟨q3,0,none⟩)] .returning w fun e u' w'=>e=.returned (.tuple #[])∧u'=.returning∧w'=w.setCell ⟨b,3,none⟩ (.int .i64 (k-1)):=by
 refine callsD_of_wpS Tryz.func74 rfl fun c₀ cs hu=>?_
 apply wpS_seq
 apply wpS_seq
 apply wpS_region
 simp [wpOpsS,go_sem,recoverD,hu,Tryz.ntmps74,Exit.thenS]
 refine wpS_of_wp ?_
 rw [show (#[Value.pointer (some ⟨q6,0,none⟩),.pointer (some ⟨q3,0,none⟩)]++((Array.replicate 23 undef).setIfInBounds 3 (.nilIface)).setIfInBounds 0 (.nilIface):Array Value)=#[.pointer (some ⟨q6,0,none⟩),.pointer (some ⟨q3,0,none⟩),.nilIface,undef,undef,.nilIface,undef,undef,undef,undef,undef,undef,undef,undef,undef,undef,undef,undef,undef,undef,undef,undef,undef,undef,undef] from by kernel_rfl]
 go_wp2
 simp only [Exit.thenS]
 refine wpS_of_wp ?_
 go_wp2
 cases c₀
 simp_all [bodyPostS,results,Tryz.results74]
theorem is_returned (v:Value) (w:World):Sem.run Tryz.prog (Instr.typeAssert (.iface 166 v) 20 166 true) w=.ok (.tuple #[v,.bool true]) w:=by
 simp [Instr.typeAssert,run_underlying Tryz.underlying166]
theorem isnt_returned (v:Value) (w:World):Sem.run Tryz.prog (Instr.typeAssert (.iface 113 v) 20 166 true) w=.ok (.tuple #[.agg #[.int .i64 0],.bool false]) w:=by
 kernel_rfl
set_option maxRecDepth 100000 in
theorem caught_ret (q6 q3 b:Nat) (k n:Int) (u:Value) (older:List PanicEntry) (w:World) (h6:w.cell? ⟨q6,0,none⟩=some u) (f6:w.frozen? ⟨q6,0,none⟩=false) (h3:w.cell? ⟨q3,0,none⟩=some (.pointer (some ⟨b,0,none⟩))) (hc:w.cell? ⟨b,3,none⟩=some (.int .i64 k)) (fz:w.frozen? ⟨b,3,none⟩=false) (hk:1≤k) (hk2:k≤40) (h36:q3≠q6) (hb6:b≠q6) :
 CallsD Tryz.prog 74 #[.pointer (some ⟨q6,0,none⟩),.pointer (some ⟨q3,0,none⟩)] (.panicking ({ v:=returnedV n,recovered:=false }::older)) w fun e u' w'=>e=.returned (.tuple #[])∧u'=.panicking ({ v:=returnedV n,recovered:=true }::older) ∧
  w'=((w.setCell ⟨q6,0,none⟩ (.int .i64 n)).setCell ⟨b,3,none⟩ (.int .i64 (k-1))).alloc (.cells #[.int .i64 n] 166):=by
 refine callsD_of_wpS Tryz.func74 rfl fun c₀ cs hu=>?_
 apply wpS_seq
 apply wpS_seq
 apply wpS_region
 unfold returnedV at hu
 simp [wpOpsS,go_sem,recoverD,hu,Tryz.ntmps74,Exit.thenS]
 refine wpS_of_wp ?_
 rw [show (#[Value.pointer (some ⟨q6,0,none⟩),.pointer (some ⟨q3,0,none⟩)]++((Array.replicate 23 undef).setIfInBounds 3 (.iface 166 (.agg #[.int .i64 n]))).setIfInBounds 0 (.iface 166 (.agg #[.int .i64 n])):Array Value)=#[.pointer (some ⟨q6,0,none⟩),.pointer (some ⟨q3,0,none⟩),.iface 166 (.agg #[.int .i64 n]),undef,undef,.iface 166 (.agg #[.int .i64 n]),undef,undef,undef,undef,undef,undef,undef,undef,undef,undef,undef,undef,undef,undef,undef,undef,undef,undef,undef] from by kernel_rfl]
 have hta:=is_returned (.agg #[.int .i64 n]) w
 have l6:q6<w.heap.size:=World.block_lt_of_cell? w _ h6
 have l3:q3<w.heap.size:=World.block_lt_of_cell? w _ h3
 have lb:b<w.heap.size:=World.block_lt_of_cell? w _ hc
 have n6:q6≠w.heap.size:=by omega
 have n3:q3≠w.heap.size:=by omega
 have nb:b≠w.heap.size:=by omega
 go_wp2
 simp only [Exit.thenS]
 refine wpS_of_wp ?_
 go_wp2
 clear hta l6 l3 lb n6 n3 nb h6 f6 h3 hc fz h36 hb6
 cases c₀
 simp_all [bodyPostS,results,Tryz.results74,returnedV]
set_option maxRecDepth 100000 in
theorem caught_stop (q6 q3:Nat) (n:Int) (older:List PanicEntry) (w:World) :
 CallsD Tryz.prog 74 #[.pointer (some ⟨q6,0,none⟩),.pointer (some ⟨q3,0,none⟩)] (.panicking ({ v:=endedV n,recovered:=false }::older)) w fun e u' w'=>e=.panicked [{ v:=endedV n,recovered:=false }]∧u'=.panicking ({ v:=endedV n,recovered:=true }::older) ∧
  w'=w.alloc (.cells #[.int .i64 0] 166):=by
 refine callsD_of_wpS Tryz.func74 rfl fun c₀ cs hu=>?_
 apply wpS_seq
 apply wpS_seq
 apply wpS_region
 unfold endedV at hu
 simp [wpOpsS,go_sem,recoverD,hu,Tryz.ntmps74,Exit.thenS]
 refine wpS_of_wp ?_
 rw [show (#[Value.pointer (some ⟨q6,0,none⟩),.pointer (some ⟨q3,0,none⟩)]++((Array.replicate 23 undef).setIfInBounds 3 (.iface 113 (.agg #[.int .i64 n]))).setIfInBounds 0 (.iface 113 (.agg #[.int .i64 n])):Array Value)=#[.pointer (some ⟨q6,0,none⟩),.pointer (some ⟨q3,0,none⟩),.iface 113 (.agg #[.int .i64 n]),undef,undef,.iface 113 (.agg #[.int .i64 n]),undef,undef,undef,undef,undef,undef,undef,undef,undef,undef,undef,undef,undef,undef,undef,undef,undef,undef,undef] from by kernel_rfl]
 have hta:=isnt_returned (.agg #[.int .i64 n]) w
 go_wp2
 simp only [Exit.thenS]
 clear hta
 cases c₀
 simp_all [bodyPostS,endedV,results,Tryz.results74,endedV]
theorem old_none (o:Old):o.1.dropWhile (!·.goexit)=[]:=by
 obtain ⟨l,h⟩:=o
 induction l with
 | nil=>rfl
 | cons x r ih =>
   have h1:=h x (by simp)
   have h2:=ih (fun y hy=>h y (by simp [hy]))
   simp only at h2
   simp [List.dropWhile,h1,h2]
theorem rdoor_plain {R:Ending→World→Prop} {tmps:Array Value} {q6 q3 b:Nat} {k:Int} {u:Value} {w:World} (h6:tmps[6]?.getD undef=.pointer (some ⟨q6,0,none⟩)) (h3:w.cell? ⟨q3,0,none⟩=some (.pointer (some ⟨b,0,none⟩))) (hc:w.cell? ⟨b,3,none⟩=some (.int .i64 k)) (fz:w.frozen? ⟨b,3,none⟩=false) (hk:1≤k) (hk2:k≤40)
 (hu:(w.setCell ⟨b,3,none⟩ (.int .i64 (k-1))).cell? ⟨q6,0,none⟩=some (.int .i64 0)) (hR:R (.returned (.int .i64 0)) (w.setCell ⟨b,3,none⟩ (.int .i64 (k-1)))) :
 Leaves Tryz.prog Tryz.f45 tmps R [{ target:=Target.fn (Go.Fn.func 74) #[.pointer (some ⟨q6,0,none⟩),.pointer (some ⟨q3,0,none⟩)],args:=#[] }] .returning w:=by
 refine leaves_cons (f:=74) (args:=#[.pointer (some ⟨q6,0,none⟩),.pointer (some ⟨q3,0,none⟩)]) (by simp) (by simp [go_sem]) ?_
 refine (caught_idle q6 q3 b k w h3 hc fz hk hk2).mono ?_
 rintro e u' w'' ⟨rfl,rfl,rfl⟩
 have HR:=hiD hR
 clear hR
 simp [Leaves,settle,results,Tryz.results45,go_sem,h6,hu]
 exact HR.out
theorem door_ret {R:Ending→World→Prop} {tmps:Array Value} {q6 q3 b:Nat} {k n:Int} {u:Value} {w:World} (older:Old) (h6:tmps[6]?.getD undef=.pointer (some ⟨q6,0,none⟩)) (h61:w.cell? ⟨q6,0,none⟩=some u) (f6:w.frozen? ⟨q6,0,none⟩=false) (h3:w.cell? ⟨q3,0,none⟩=some (.pointer (some ⟨b,0,none⟩))) (hc:w.cell? ⟨b,3,none⟩=some (.int .i64 k)) (fz:w.frozen? ⟨b,3,none⟩=false) (hk:1≤k) (hk2:k≤40) (h36:q3≠q6) (hb6:b≠q6)
 (hu:(((w.setCell ⟨q6,0,none⟩ (.int .i64 n)).setCell ⟨b,3,none⟩ (.int .i64 (k-1))).alloc (.cells #[.int .i64 n] 166)).cell? ⟨q6,0,none⟩=some (.int .i64 n)) (hR:R (.returned (.int .i64 n)) (((w.setCell ⟨q6,0,none⟩ (.int .i64 n)).setCell ⟨b,3,none⟩ (.int .i64 (k-1))).alloc (.cells #[.int .i64 n] 166))) :
 Leaves Tryz.prog Tryz.f45 tmps R [{ target:=Target.fn (Go.Fn.func 74) #[.pointer (some ⟨q6,0,none⟩),.pointer (some ⟨q3,0,none⟩)],args:=#[] }] (.panicking ({ v:=returnedV n,recovered:=false }::older.1)) w:=by
 refine leaves_cons (f:=74) (args:=#[.pointer (some ⟨q6,0,none⟩),.pointer (some ⟨q3,0,none⟩)]) (by simp) (by simp [go_sem]) ?_
 refine (caught_ret q6 q3 b k n u older.1 w h61 f6 h3 hc fz hk hk2 h36 hb6).mono ?_
 rintro e u' w'' ⟨rfl,rfl,rfl⟩
 have ho:=old_none older
 have HR:=hiD hR
 clear hR
 obtain ⟨wf,hwf⟩:∃ q,q=(((w.setCell ⟨q6,0,none⟩ (.int .i64 n)).setCell ⟨b,3,none⟩ (.int .i64 (k-1))).alloc (.cells #[.int .i64 n] 166)):=⟨_,rfl⟩
 rw [← hwf] at HR hu ⊢
 clear hwf
 simp [Leaves,settle,ho,results,Tryz.results45,go_sem,h6,hu]
 exact HR.out
theorem door_stop {R:Ending→World→Prop} {tmps:Array Value} {q6 q3:Nat} {n:Int} {w:World} (older:Old) (hR:∀ o:Old,R (.panicked ({ v:=endedV n,recovered:=false }::o.1)) (w.alloc (.cells #[.int .i64 0] 166))) :
 Leaves Tryz.prog Tryz.f45 tmps R [{ target:=Target.fn (Go.Fn.func 74) #[.pointer (some ⟨q6,0,none⟩),.pointer (some ⟨q3,0,none⟩)],args:=#[] }] (.panicking ({ v:=endedV n,recovered:=false }::older.1)) w:=by
 refine leaves_cons (f:=74) (args:=#[.pointer (some ⟨q6,0,none⟩),.pointer (some ⟨q3,0,none⟩)]) (by simp) (by simp [go_sem]) ?_
 refine (caught_stop q6 q3 n older.1 w).mono ?_
 rintro e u' w'' ⟨rfl,rfl,rfl⟩
 exact hR ⟨{ v:=endedV n,recovered:=true }::older.1,fun x hx=>by
  rcases List.mem_cons.1 hx with rfl|hx
  · rfl
  · exact older.2 x hx⟩
def GoodL (L:List Fn):Prop:=∀ g fn,fnOf L g=some fn→GoodSs L fn.body∧(∀ p∈fn.params,p.1.length≤10000000)∧fn.params.length≤1000000
theorem mk_map (w:World):(Instr.makeMap 162 none).run Tryz.prog w=.ok (.map (some w.heap.size)) (w.alloc (.map #[] 0)):=by
 simp [Instr.makeMap,run_underlying Tryz.underlying162]
theorem Ext.transNew {T M M' M'':Nat→Prop} {W W' W'':World} (h:Ext None M M' W W') (k:Ext T M' M'' W' W'') (hT:∀ i,i<W.heap.size→¬ T i):Ext None M M'' W W'' :=
 ⟨h.mods.trans' k.mods (fun i hi hl=>hi.elim (fun ht=>(hT i hl ht).elim) (fun hm=>Or.inr (h.back i hl hm))),fun i hi hm=>h.back i hi (k.back i (Nat.lt_of_lt_of_le hi h.mods.size) hm)⟩
theorem FrAt.new {W3:World} {b mb:Nat} {L:List Fn} {P M:Nat→Prop} {A:List (Nat×Nat)} {s:RS} (h:RAt W3 b mb L P M A s):FrAt (W3.alloc (.map #[] 0)) P M A W3.heap.size 0 [] :=
 ⟨[],NameMap.new _ _,fun hm=>absurd (h.old _ hm) (Nat.lt_irrefl _),fun hp=>absurd (h.given _ hp) (Nat.lt_irrefl _),fun s=>Or.inl ⟨rfl,rfl⟩⟩
structure Cx (W0 w:World) (P M:Nat→Prop) (b q fb:Nat) (fcs:List Value):Prop where
 c3:Blk w q [.pointer (some ⟨b,0,none⟩)] 108
 c6:Blk w (q+1) [.int .i64 0] 2
 c7:Blk w fb fcs 84
 nq:¬ M q∧¬ P q
 n6:¬ M (q+1)∧¬ P (q+1)
 n7:¬ M fb∧¬ P fb
 at_:W0.heap.size≤q
 far:q+1<fb
theorem Cx.step {W0 w w':World} {P T M M':Nat→Prop} {b q fb:Nat} {fcs:List Value} (h:Cx W0 w P M b q fb fcs) (hE:Ext T M M' w w') (hT:∀ k,T k→fb<k):Cx W0 w' P M' b q fb fcs:=by
 have hf:=h.far
 have k3:=keep_blk h.c3 hE h.nq.1 (fun f=>by have:=hT _ f;omega)
 have k6:=keep_blk h.c6 hE h.n6.1 (fun f=>by have:=hT _ f;omega)
 have k7:=keep_blk h.c7 hE h.n7.1 (fun f=>by have:=hT _ f;omega)
 exact ⟨k3.1,k6.1,k7.1,⟨k3.2,h.nq.2⟩,⟨k6.2,h.n6.2⟩,⟨k7.2,h.n7.2⟩,h.at_,h.far⟩
theorem zero_fn (w:World):(zeroValue 84).run Tryz.prog w=.ok zeroFn w:=by kernel_rfl
set_option maxRecDepth 100000 in
set_option maxHeartbeats 1600000 in
theorem call_any {L:List Fn} (hL:GoodL L) {f:Nat} (ihb:BlkC L f):CallC L (f+1):=by
 intro g vs b mb base P M A s W lv r h hv hgl hfn hr
 obtain ⟨fn,hfn,hvl⟩:=hfn
 obtain ⟨W1,hW1⟩:∃ W1,W1=(W.alloc (.cells #[.pointer (some ⟨b,0,none⟩)] 108)).alloc (.cells #[.int .i64 0] 2):=⟨_,rfl⟩
 have HM1:Hid (Mods None W W1):=hiD (by rw [hW1];exact ((Mods.refl _ _).alloc _).alloc _)
 have HB3:Hid (Blk W1 W.heap.size [.pointer (some ⟨b,0,none⟩)] 108):=hiD (by
  rw [hW1]
  exact (Blk.new W _ _).mods ((Mods.refl None _).alloc _) (fun f=>f))
 have HB6:Hid (Blk W1 (W.heap.size+1) [.int .i64 0] 2):=hiD (by
  rw [hW1]
  have:=Blk.new (W.alloc (.cells #[.pointer (some ⟨b,0,none⟩)] 108)) #[.int .i64 0] 2
  simpa using this)
 have HR1:=hiD (h.quiet HM1.out)
 obtain ⟨iv,ov,hb,-⟩:=HR1.out.blk
 have c0:W1.cell? ⟨b,0,none⟩=some (.map (some mb)):=hb.cell rfl
 have c3:W1.cell? ⟨b,3,none⟩=some (.int .i64 s.calls):=hb.cell rfl
 have z3:=hb.free 3
 have b3:=HB3.out.cell (i:=0) rfl
 have hbl:=h.old b h.has
 have nb1:b≠W.heap.size:=by omega
 have nb2:b≠W.heap.size+1:=by omega
 simp only [callR] at hr
 by_cases h40:s.calls=40
 · rw [if_pos h40] at hr
   obtain rfl:=(Option.some.inj hr).symm
   rw [h40] at c3
   clear hr hb hv hbl h c0
   unfold str Ran
   go_enter_defers Tryz.func45,Tryz.ntmps45
   go_upto_region 1 with (fail)
   rw [← hW1]
   clear hW1
   go_wp2_with fail
   go_at_call 73
   refine (stop_any 5 _).mono ?_
   rintro e w ⟨⟨older,rfl⟩,rfl⟩
   go_wp2
   exact ⟨⟨older,rfl⟩,M,A,HR1.out,Ext.quiet HM1.out,List.prefix_refl _⟩
 · rw [if_neg h40] at hr
   have HRR:=hiD hr
   have hc40:=h.calls
   have hcs:(s.calls==40)=false:=by simpa using h40
   have hc1:(((s.calls:Nat):Int)==40)=false:=by simp;omega
   have hcadd:Hid ((s.calls:Int)+1=((s.calls+1:Nat):Int)):=hiD (by omega)
   clear hr hb
   unfold str at *
   go_enter_defers Tryz.func45,Tryz.ntmps45
   go_upto_region 1 with (fail)
   rw [← hW1]
   clear hW1
   go_upto_region 4 with (fail)
   obtain ⟨W2,hW2⟩:∃ W2,W2=W1.setCell ⟨b,3,none⟩ (.int .i64 ((s.calls:Int)+1)):=⟨_,rfl⟩
   rw [← hW2]
   have hm2:Mods (·=b) W1 W2:=by rw [hW2];exact mods_put _ _ _ _
   have HR2:Hid (RAt W2 b mb L P M A { s with calls:=s.calls+1 }):=hiD (by
    rw [hW2,hcadd.out]
    exact HR1.out.setCalls _ (by omega))
   have HE2:Hid (Ext None M M W W2):=hiD ((Ext.quiet HM1.out).trans (by rw [hW2];exact HR1.out.ext None 3 _))
   have HB3:=hiD (HB3.out.mods hm2 (fun e=>nb1 e.symm))
   have HB6:=hiD (HB6.out.mods hm2 (fun e=>nb2 e.symm))
   obtain ⟨iv2,ov2,hb2,-⟩:=HR2.out.blk
   have e0:W2.cell? ⟨b,0,none⟩=some (.map (some mb)):=hb2.cell rfl
   have b3:=HB3.out.cell (i:=0) rfl
   obtain ⟨nf,Ff,hmap,hfv⟩:=HR2.out.fns.2
   have hlook:=hmap.look (t:=109) Tryz.underlying109 (zero_fn _) g hgl
   obtain ⟨p,q,vq,hval,hp,hq1,hq2⟩:=hfv g fn hfn
   rw [hval] at hlook
   obtain ⟨pa,pc,rfl⟩:=lex_form hp.1
   obtain ⟨qa,qc,rfl⟩:=lex_form hq1.1
   have HPP:=hiD (And.intro hp (And.intro hq1 hq2))
   have l3:=HB3.out.lt
   have l6:=HB6.out.lt
   unfold str at hlook
   clear hW2 hm2 hb2 hmap hfv hval hp hq1 hq2 c0 c3 z3
   have hmk:=mk_map
   go_upto_region 6 with (fail)
   obtain ⟨W3,hW3⟩:∃ W3,W3=W2.alloc (.cells #[.string ⟨fn.name.toArray⟩,.int .i64 fn.at_,.slice pa fn.params.length pc,.slice qa fn.body.length qc] 84):=⟨_,rfl⟩
   rw [← hW3]
   have hm3:Mods None W2 W3:=by rw [hW3];exact (Mods.refl _ _).alloc _
   have hs3:W3.heap.size=W2.heap.size+1:=by rw [hW3];simp
   have HB7:Blk W3 W2.heap.size [.string ⟨fn.name.toArray⟩,.int .i64 fn.at_,.slice pa fn.params.length pc,.slice qa fn.body.length qc] 84:=by rw [hW3];exact Blk.new W2 _ _
   have hnew:∀ k,W.heap.size≤k→¬ M k∧¬ P k:=fun k hk=>⟨fun hm=>absurd (h.old _ hm) (by omega),fun hp=>absurd (h.given _ hp) (by omega)⟩
   have HC3:Cx W W3 P M b W.heap.size W2.heap.size [.string ⟨fn.name.toArray⟩,.int .i64 fn.at_,.slice pa fn.params.length pc,.slice qa fn.body.length qc]:=⟨HB3.out.mods hm3 (fun f=>f),HB6.out.mods hm3 (fun f=>f),HB7,hnew _ (Nat.le_refl _),hnew _ (by omega),hnew _ (by omega),Nat.le_refl _,l6⟩
   obtain ⟨W4,hW4⟩:∃ W4,W4=W3.alloc (.map #[] 0):=⟨_,rfl⟩
   have hm4:Mods None W3 W4:=by rw [hW4];exact (Mods.refl _ _).alloc _
   have hR3:=HR2.out.quiet hm3
   have HF4:Hid (FrAt W4 P M A (W2.heap.size+1) 0 []):=hiD (by rw [hW4,← hs3];exact FrAt.new hR3)
   have HR4:=hiD (hR3.quiet hm4)
   have HC4:=hiD (HC3.step (T:=None) (Ext.quiet hm4) (fun _ f=>f.elim))
   have HE4:Hid (Ext None M M W W4):=hiD ((HE2.out.trans (Ext.quiet hm3)).trans (Ext.quiet hm4))
   have HV4:=hiD (hv.ext HE4.out (List.prefix_refl A))
   have HOL:Hid (∀ k,lv.ownBlock=some k→k<W.heap.size):=hiD (by obtain ⟨cs,h1,_⟩:=hv;exact fun k hk=>(h1.lt k hk).2)
   have HVN:=hiD hvl
   rw [← hW4]
   have e2:=HC4.out.c7.cell (i:=2) rfl
   have HNE:=hiD hnew
   have HM24:=hiD (hm3.trans hm4)
   have HFU:=hiD h.fuel
   have HLT:=hiD (And.intro l3 (And.intro l6 hs3))
   clear hm3 hm4 HB7 HC3 hR3 hW3 hW4 hnew hlook hmk e0 b3 HB3 HB6 h hv hvl
   go_wp2_with fail
   clear e2
   obtain ⟨pn,hpn⟩:∃ pn,pn=fn.params.length:=⟨_,rfl⟩
   have HPN:=hiD hpn
   obtain ⟨FF,hFF⟩:∃ FF,FF=bindParams [] fn.params vs:=⟨_,rfl⟩
   have HFF:=hiD hFF
   have HBP:Hid (bindParams [] (fn.params.drop 0) (vs.drop 0)=FF):=hiD hFF.symm
   rw [← hpn]
   clear hFF hpn
   go_loopw [9,10,34] (fun _ _ iv wr=>∃ (i:Nat) (F:Fr),i≤pn∧iv=.int .i64 i∧Hid (Mods (·=W2.heap.size+1) W4 wr)∧Hid (FrAt wr P M A (W2.heap.size+1) i F)∧Hid (bindParams F (fn.params.drop i) (vs.drop i)=FF)) (fun _ _ iv _=>(pn-intOf iv).toNat)
   case atStart=>exact ⟨0,[],Nat.zero_le _,rfl,hiD (Mods.refl _ _),HF4,HBP⟩
   case round =>
    clear HF4 HBP
    obtain ⟨i,F,hi,rfl,HMW,HF,HBP⟩:=hrel
    have hlt3:=HLT.out
    have HCW:=hiD (HC4.out.step (T:=(·=W2.heap.size+1)) (Ext.aside HMW.out (fun _ _ f=>f)) (by rintro k rfl;omega))
    have HRW:=hiD (HR4.out.aside HMW.out (by rintro k rfl;exact HNE.out _ (by omega)))
    have b3:=HCW.out.c3.cell (i:=0) rfl
    by_cases hlt:i<pn
    · have hil:i<fn.params.length:=by have:=HPN.out;omega
      have hiv:i<vs.length:=by have:=HVN.out;omega
      obtain ⟨q1,q2⟩:=ncells_at fn.params i fn.params[i] (List.getElem?_eq_getElem hil)
      have hmP:Mods (fun k=>¬ P k) W2 wr:=(HM24.out.mono fun _ _ f=>f.elim).trans (HMW.out.mono fun k _ hk=>by rw [hk];exact (HNE.out _ (by have:=HLT.out;omega)).2)
      obtain ⟨pa',pc',e3,hpc1,hpc2,hcl⟩:=ownsRow_slice HPP.out.1.1
      obtain ⟨rfl,-,rfl⟩:=Value.slice.inj e3
      obtain ⟨pg,hpg,ho,d1⟩:=hcl _ _ q1
      obtain ⟨pg',hpg',_,d2⟩:=hcl _ _ q2
      obtain rfl:pg=pg':=by rw [hpg] at hpg';simpa using hpg'
      have d1:=hmP.cellOf d1 (HPP.out.1.2 _ ho)
      have d2:=hmP.cellOf d2 (HPP.out.1.2 _ ho)
      have hsh:=(hL g fn hfn).2.1 fn.params[i] (List.getElem_mem hil)
      have HBP2:Hid (bindParams (F.put fn.params[i].1 vs[i]) (fn.params.drop (i+1)) (vs.drop (i+1))=FF):=hiD (by
       rw [← HBP.out,List.drop_eq_getElem_cons hil,List.drop_eq_getElem_cons hiv]
       rfl)
      obtain ⟨nm,ty,hnt⟩:∃ nm ty,fn.params[i]=(nm,ty):=⟨_,_,rfl⟩
      rw [hnt] at d1 d2 hsh HBP2
      simp only at d1 d2 hsh HBP2
      obtain ⟨cs,v1,v2,v3⟩:=HV4.out
      obtain ⟨va,vc,e4,hvc1,hvc2,hvl2⟩:=ownsRow_slice (HMW.out.ownsRow v1 (fun k hk e=>by have h1:=HOL.out k hk;have h2:=HLT.out;omega))
      subst e4
      obtain ⟨u,v,k1,k2,hyv⟩:=v3 i vs[i] (List.getElem?_eq_getElem hiv)
      obtain ⟨vg,hvg,_,d3⟩:=hvl2 _ _ k1
      obtain ⟨vg',hvg',_,d4⟩:=hvl2 _ _ k2
      obtain rfl:vg=vg':=by rw [hvg] at hvg';simpa using hvg'
      obtain ⟨y1,ya,yn,hy,-,-⟩:=hyv.len HRW.out
      rw [hy] at hyv
      simp only [Value.agg.injEq,Array.mk.injEq,List.cons.injEq,and_true] at hy
      obtain ⟨rfl,rfl⟩:=hy
      subst hpg hvg
      obtain ⟨W5,hW5⟩:∃ W5,W5=wr.alloc (.cells #[str nm,.int .i64 ty] 91):=⟨_,rfl⟩
      have hm5:Mods None wr W5:=by rw [hW5];exact (Mods.refl _ _).alloc _
      have HB5:Blk W5 wr.heap.size [str nm,.int .i64 ty] 91:=by rw [hW5];exact Blk.new wr _ _
      have f1:=HB5.cell (i:=0) rfl
      have d3:=hm5.cellOf d3 (fun f=>f)
      have d4:=hm5.cellOf d4 (fun f=>f)
      have hi9:i<1000000:=by have:=(hL g fn hfn).2.2;omega
      obtain ⟨w6,hu,hf6,hm6⟩:=(HF.out.aside (hm5.drew) (fun f=>f)).put nm hsh hyv (by unfold maxLen;omega)
      have HM6:Hid (Mods (·=W2.heap.size+1) W4 w6):=hiD ((HMW.out.trans ((hm5.drew).mono fun _ _ f=>f.elim)).trans hm6)
      have HF6:=hiD hf6
      have hpi:(i:Int)<(pn:Int):=by omega
      have hvi:(i:Int)<(vs.length:Int):=by omega
      have hpc3:(pn:Int)≤(pc:Int):=by have:=HPN.out;omega
      have hvc3:(vs.length:Int)≤(vc:Int):=by omega
      unfold maxLen at hpc2 hvc2
      unfold str at d1 f1 hu hW5
      clear hyv hf6 hm6 hm5 HB5 v1 v2 v3 k1 k2 hcl hvl2 q1 q2 hmP ho hsh hpc1 hvc1 e3
      go_upto_region 9 with (fail)
      rw [← hW5]
      clear hW5
      go_region
      go_wp2_with fail
      exact ⟨⟨i+1,F.put nm vs[i],by omega,by go_num,HM6,HF6,HBP2⟩,by simp [intOf];omega⟩
    · obtain rfl:i=pn:=by omega
      have hpi:¬ (i:Int)<(i:Int):=by omega
      have e3:=HCW.out.c7.cell (i:=3) rfl
      have hF:F=FF:=by
       have h1:=HBP.out
       rw [HPN.out,List.drop_length] at h1
       rw [← h1]
       cases vs.drop fn.params.length <;> rfl
      subst hF
      clear hlt3
      have hmf:∀ (fn:Go.Fn) (first cap:Array Value) (w:World),(Instr.makeFunc fn first cap).run Tryz.prog w=.ok (.func fn first cap) w:=fun _ _ _ _=>rfl
      go_wp2_with fail
      go_at_call 75
      have hmP:Mods (fun k=>¬ P k) W2 wr:=(HM24.out.mono fun _ _ f=>f.elim).trans (HMW.out.mono fun k _ hk=>by rw [hk];exact (HNE.out _ (by have:=HLT.out;omega)).2)
      have hpl:=(hL g fn hfn).2.2
      have hcall:=fun y hy=>ihb fn.body (.slice qa fn.body.length qc) vq b mb P M A { s with calls:=s.calls+1 } F (W2.heap.size+1) i (i+s.fuel) wr y HRW.out HF.out (Nat.le_refl _) (by have h1:=HFU.out;have h2:=HPN.out;omega) (hL g fn hfn).1 (HPP.out.2.1.mods hmP (fun _ _ k=>k)) (StsAt.modsTo hmP (fun _ _ k=>k) _ _ HPP.out.2.2) hy
      have hrr:=HRR.out
      have hg:fnGet L g=fn:=by unfold fnGet;rw [hfn];rfl
      rw [hg,← HFF.out] at hrr
      obtain ⟨z,hz⟩:∃ z,z=blockR L f { s with calls:=s.calls+1 } F fn.body:=⟨_,rfl⟩
      rw [← hz] at hrr
      rcases z with _|⟨(wy|nn)|G,t⟩
      · cases hrr
      · obtain rfl:=(Option.some.inj hrr).symm
        refine (hcall _ hz.symm).mono ?_
        rintro e w5 ⟨⟨older,rfl⟩,M5,A5,k1,k2,k3⟩
        have HK:=hiD (And.intro k1 (And.intro k2 k3))
        clear hrr hz hcall k1 k2 k3
        go_wp2
        have hwr:Ext None M M W wr:=HE4.out.new HMW.out (fun k h1 h2=>by have:=HLT.out;omega)
        have hw5:Ext None M M5 W w5:=hwr.transNew HK.out.2.1 (fun k h1 h2=>by have:=HLT.out;omega)
        have hwa:Mods None w5 (w5.alloc (.cells #[.int .i64 0] 166)):=(Mods.refl _ _).alloc _
        exact door_stop older (fun o=>⟨⟨o,rfl⟩,M5,A5,HK.out.1.quiet hwa,hw5.trans (Ext.quiet hwa),HK.out.2.2⟩)
      · obtain rfl:=(Option.some.inj hrr).symm
        have hkc:t.calls=s.calls+1:=by
         rcases (kept_all L f).2.2.2.1 { s with calls:=s.calls+1 } F fn.body _ hz.symm with ⟨w,hw⟩|h1
         · cases hw
         · exact h1
        refine (hcall _ hz.symm).mono ?_
        rintro e w5 ⟨⟨older,rfl⟩,M5,A5,k1,k2,k3⟩
        have HK:=hiD (And.intro k1 (And.intro k2 k3))
        have HKC:=hiD hkc
        have HC5:=hiD (HCW.out.step k2 (by rintro k rfl;omega))
        clear hrr hz hcall k1 k2 k3 hkc
        go_wp2
        have hwr:Ext None M M W wr:=HE4.out.new HMW.out (fun k h1 h2=>by have:=HLT.out;omega)
        have hw5:Ext None M M5 W w5:=hwr.transNew HK.out.2.1 (fun k h1 h2=>by have:=HLT.out;omega)
        obtain ⟨iv5,ov5,hb5,-⟩:=HK.out.1.blk
        have hc5:w5.cell? ⟨b,3,none⟩=some (.int .i64 t.calls):=hb5.cell rfl
        have hkk:=HKC.out
        have hm6:Mods (·=W.heap.size+1) w5 (w5.setCell ⟨W.heap.size+1,0,none⟩ (.int .i64 nn)):=mods_put _ _ _ _
        have hR6:=HK.out.1.aside hm6 (fun k hk=>by rw [hk];exact HC5.out.n6)
        have hE6:=hw5.new hm6 (fun k h1 h2=>by omega)
        have hR7:=hR6.setCalls (t.calls-1) (by have:=HK.out.1.calls;omega)
        have hE7:=hE6.trans (hR6.ext None 3 (.int .i64 ((t.calls-1:Nat):Int)))
        have hcast:((t.calls-1:Nat):Int)=(t.calls:Int)-1:=by omega
        rw [hcast] at hR7 hE7
        have hwa:Mods None ((w5.setCell ⟨W.heap.size+1,0,none⟩ (.int .i64 nn)).setCell ⟨b,3,none⟩ (.int .i64 ((t.calls:Int)-1))) (((w5.setCell ⟨W.heap.size+1,0,none⟩ (.int .i64 nn)).setCell ⟨b,3,none⟩ (.int .i64 ((t.calls:Int)-1))).alloc (.cells #[.int .i64 nn] 166)):=(Mods.refl _ _).alloc _
        have hu:(((w5.setCell ⟨W.heap.size+1,0,none⟩ (.int .i64 nn)).setCell ⟨b,3,none⟩ (.int .i64 ((t.calls:Int)-1))).alloc (.cells #[.int .i64 nn] 166)).cell? ⟨W.heap.size+1,0,none⟩=some (.int .i64 nn) :=
         (((HC5.out.c6.set 0 (.int .i64 nn)).mods (mods_put _ b 3 (.int .i64 ((t.calls:Int)-1))) (fun e=>nb2 e.symm)).mods hwa (fun f=>f)).cell rfl
        exact door_ret older rfl (HC5.out.c6.cell (i:=0) rfl) (HC5.out.c6.free 0) (HC5.out.c3.cell (i:=0) rfl) hc5 (hb5.free 3) (by omega) (by have:=HK.out.1.calls;omega) (by omega) nb2 hu ⟨M5,A5,rfl,hR7.quiet hwa,hE7.trans (Ext.quiet hwa),HK.out.2.2⟩
      · obtain rfl:=(Option.some.inj hrr).symm
        have hkc:t.calls=s.calls+1:=by
         rcases (kept_all L f).2.2.2.1 { s with calls:=s.calls+1 } F fn.body _ hz.symm with ⟨w,hw⟩|h1
         · cases hw
         · exact h1
        refine (hcall _ hz.symm).mono ?_
        rintro e w5 ⟨rfl,M5,A5,n5,kf,kn,k1,k2,k3⟩
        have HK:=hiD (And.intro k1 (And.intro k2 k3))
        have HKC:=hiD hkc
        have HC5:=hiD (HCW.out.step k2 (by rintro k rfl;omega))
        have r6:=HC5.out.c6.cell (i:=0) rfl
        have z6:=HC5.out.c6.free 0
        clear hrr hz hcall k1 k2 k3 hkc kf kn
        go_wp2
        have hwr:Ext None M M W wr:=HE4.out.new HMW.out (fun k h1 h2=>by have:=HLT.out;omega)
        have hw5:Ext None M M5 W w5:=hwr.transNew HK.out.2.1 (fun k h1 h2=>by have:=HLT.out;omega)
        have hkk:=HKC.out
        have hm6:Mods (·=W.heap.size+1) w5 (w5.setCell ⟨W.heap.size+1,0,none⟩ (.int .i64 0)):=mods_put _ _ _ _
        have hR6:=HK.out.1.aside hm6 (fun k hk=>by rw [hk];exact HC5.out.n6)
        have hE6:=hw5.new hm6 (fun k h1 h2=>by omega)
        have hR7:=hR6.setCalls (t.calls-1) (by have:=HK.out.1.calls;omega)
        have hE7:=hE6.trans (hR6.ext None 3 (.int .i64 ((t.calls-1:Nat):Int)))
        have hcast:((t.calls-1:Nat):Int)=(t.calls:Int)-1:=by omega
        rw [hcast] at hR7 hE7
        obtain ⟨iv6,ov6,hb6,-⟩:=hR6.blk
        have hu:=((HC5.out.c6.set 0 (.int .i64 0)).mods (mods_put _ b 3 (.int .i64 ((t.calls:Int)-1))) (fun e=>nb2 e.symm)).cell (i:=0) (v:=.int .i64 0) rfl
        exact rdoor_plain (u:=.nilIface) rfl ((HC5.out.c3.mods hm6 (fun e=>by omega)).cell (i:=0) rfl) (hb6.cell (i:=3) rfl) (hb6.free 3) (by omega) (by have:=HK.out.1.calls;omega) hu ⟨M5,A5,rfl,hR7,hE7,HK.out.2.2⟩
theorem call_zero (L:List Fn):CallC L 0:=by
 intro g vs b mb base P M A s W lv r h hv hgl hfn hr
 simp only [callR] at hr
 cases hr
theorem run_all {L:List Fn} (hL:GoodL L):∀ f,EvC L f∧CallC L f∧StC L f:=by
 intro f
 induction f using Nat.strongRecOn with
 | ind f ih =>
   have hblk:∀ k,k≤f→BlkC L k:=fun k hk=>blk_any (fun j hj=>(ih j (by omega)).2.2)
   cases f with
   | zero=>exact ⟨expr_zero L,call_zero L,stmt_zero L⟩
   | succ f =>
     have he:∀ k,k≤f→EvC L k:=fun k hk=>(ih k (by omega)).1
     have hc:CallC L f:=(ih f (by omega)).2.1
     exact ⟨expr_any he hc,call_any hL (hblk f (by omega)),stmt_any he (fun k hk=>hblk k (by omega))⟩
theorem call_good {L:List Fn} (hL:GoodL L) (f:Nat):CallC L f:=(run_all hL f).2.1
end Go.Proofs.YtnicpmoanjddbaaGreatDoor.TreeP

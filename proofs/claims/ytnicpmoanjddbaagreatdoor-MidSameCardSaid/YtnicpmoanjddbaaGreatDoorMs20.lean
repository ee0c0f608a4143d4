/- Check: what is found of a program. Conditions: the functions lie. What a mark of two comes to, of any two numbers: mid.Both. No conditions. -/
import Derived.Test.YtnicpmoanjddbaaGreatDoorMs19
import Derived.Defers
import Derived.Recover
import Derived.Test.YtnicpmoanjddbaaGreatDoorMs09
namespace Go.Proofs.YtnicpmoanjddbaaGreatDoor.TreeP
open Go.RowKit Go.Proofs.YtnicpmoanjddbaaGreatDoor.Wo
set_option linter.unusedVariables false
set_option linter.unusedSimpArgs false
theorem ccatch_idle (p:Addr) (w:World) :
 CallsD Tryz.prog 36 #[.pointer (some p)] .returning w fun e u' w'=>e=.returned (.tuple #[])∧u'=.returning∧w'=w:=by
 refine callsD_of_wpS Tryz.func36 rfl fun c₀ cs hu=>?_
 apply wpS_seq
 apply wpS_region
 simp [wpOpsS,go_sem,recoverD,hu,Tryz.ntmps36,Exit.thenS]
 refine wpS_of_wp ?_
 change Code.wp _ _ _ { tmps:=#[.pointer (some p),.nilIface,undef,undef,.nilIface,undef,undef,undef,undef,undef,undef,undef,undef,undef,undef,undef,undef],defers:=[] } w
 go_wp2
 cases c₀
 simp_all [bodyPostS,results,Tryz.results36]
theorem is_wrongC (v:Value) (w:World):Sem.run Tryz.prog (Instr.typeAssert (.iface 97 v) 20 97 true) w=.ok (.tuple #[v,.bool true]) w:=by
 simp [Instr.typeAssert,run_underlying Tryz.underlying97]
set_option maxRecDepth 100000 in
theorem ccatch_thrown (p g:Nat) (vp:Value) (older:List PanicEntry) (w:World) (hp:w.cell? ⟨p,0,none⟩=some vp) (fp:w.frozen? ⟨p,0,none⟩=false) :
 CallsD Tryz.prog 36 #[.pointer (some ⟨p,0,none⟩)] (.panicking ({ v:=wrongC g,recovered:=false }::older)) w fun e u' w' =>
  e=.returned (.tuple #[])∧u'=.panicking ({ v:=wrongC g,recovered:=true }::older)∧w'=(w.setCell ⟨p,0,none⟩ (.iface 134 (.pointer (some ⟨g,0,none⟩)))).alloc (.cells #[.iface 134 (.pointer (some ⟨g,0,none⟩))] 97):=by
 refine callsD_of_wpS Tryz.func36 rfl fun c₀ cs hu=>?_
 apply wpS_seq
 apply wpS_region
 unfold wrongC at hu
 simp [wpOpsS,go_sem,recoverD,hu,Tryz.ntmps36,Exit.thenS]
 refine wpS_of_wp ?_
 change Code.wp _ _ _ { tmps:=#[.pointer (some ⟨p,0,none⟩),.iface 97 (.agg #[.iface 134 (.pointer (some ⟨g,0,none⟩))]),undef,undef,.iface 97 (.agg #[.iface 134 (.pointer (some ⟨g,0,none⟩))]),undef,undef,undef,undef,undef,undef,undef,undef,undef,undef,undef,undef],defers:=[] } w
 have hta:=is_wrongC (.agg #[.iface 134 (.pointer (some ⟨g,0,none⟩))]) w
 have hlp:p<w.heap.size:=World.block_lt_of_cell? w _ hp
 have hnp:p≠w.heap.size:=by omega
 go_wp2
 clear hta hlp hnp hp fp
 cases c₀
 simp_all [bodyPostS,results,Tryz.results36,wrongC]
def Checked (W:World):CK Bool→Ending→World→Prop
 | .error (n,a)=>fun e w=>∃ g,e=.returned (.iface 134 (.pointer (some ⟨g,0,none⟩)))∧Blk w g [.int .i64 n,.int .i64 a] 136∧Mods None W w
 | .ok true=>fun e w=>e=.returned .nilIface∧Mods None W w
 | .ok false=>fun e w=>e=.returned (.iface 44 (.int .i64 8))∧Mods None W w
def checkR (L:List Fn):CK Bool:=bindK (twiceK [] L) fun _=>bindK (fnsK L L) fun _=>.ok (L.any mainB)
theorem cdoor_thrown {W w:World} {g:Nat} {n a:Int} {u:Value} {tmps:Array Value} (h2:tmps[2]?.getD undef=.pointer (some ⟨W.heap.size,0,none⟩))
 (hA:Blk w W.heap.size [u] 38) (hE:Blk w g [.int .i64 n,.int .i64 a] 136) (hM:Mods None W w) :
 Leaves Tryz.prog Tryz.f15 tmps (Checked W (.error (n,a))) [{ target:=Target.fn (Go.Fn.func 36) #[.pointer (some ⟨W.heap.size,0,none⟩)],args:=#[] }] (.panicking [{ v:=wrongC g,recovered:=false }]) w:=by
 refine leaves_cons (f:=36) (args:=#[.pointer (some ⟨W.heap.size,0,none⟩)]) (by simp) (by simp [go_sem]) ?_
 refine (ccatch_thrown W.heap.size g u [] w (hA.cell (i:=0) rfl) (hA.free 0)).mono ?_
 rintro e u' w'' ⟨rfl,rfl,rfl⟩
 have hAf:=(blk_put (ds:=[.iface 134 (.pointer (some ⟨g,0,none⟩))]) hA 0 (.iface 134 (.pointer (some ⟨g,0,none⟩))) rfl).alloc (.cells #[.iface 134 (.pointer (some ⟨g,0,none⟩))] 97)
 have hm3:=(mods_put w W.heap.size 0 (.iface 134 (.pointer (some ⟨g,0,none⟩)))).alloc (.cells #[.iface 134 (.pointer (some ⟨g,0,none⟩))] 97)
 have hEf:=hE.mods hm3 (by
  intro h
  rw [h] at hE;unfold Blk at hE hA;rw [hA] at hE;simp at hE)
 have hMf:=hM.trans' hm3 (by rintro k rfl hk;omega)
 obtain ⟨wf,hwf⟩:∃ q,q=(w.setCell ⟨W.heap.size,0,none⟩ (.iface 134 (.pointer (some ⟨g,0,none⟩)))).alloc (.cells #[.iface 134 (.pointer (some ⟨g,0,none⟩))] 97):=⟨_,rfl⟩
 rw [← hwf] at hAf hEf hMf ⊢
 have ra:wf.cell? ⟨W.heap.size,0,none⟩=some (.iface 134 (.pointer (some ⟨g,0,none⟩))):=hAf.cell (i:=0) rfl
 have HF:=hiD (show Checked W (.error (n,a)) (.returned (.iface 134 (.pointer (some ⟨g,0,none⟩)))) wf from ⟨g,rfl,hEf,hMf⟩)
 clear hAf hEf hMf hm3 hwf hA hE
 simp [Leaves,settle,results,Tryz.results15,go_sem,h2,ra]
 exact HF.out
theorem cdoor_plain {W w:World} {R:Ending→World→Prop} {v:Value} {tmps:Array Value} (h2:tmps[2]?.getD undef=.pointer (some ⟨W.heap.size,0,none⟩))
 (hA:w.cell? ⟨W.heap.size,0,none⟩=some v) (h:R (.returned v) w) :
 Leaves Tryz.prog Tryz.f15 tmps R [{ target:=Target.fn (Go.Fn.func 36) #[.pointer (some ⟨W.heap.size,0,none⟩)],args:=#[] }] .returning w:=by
 refine leaves_cons (f:=36) (args:=#[.pointer (some ⟨W.heap.size,0,none⟩)]) (by simp) (by simp [go_sem]) ?_
 refine (ccatch_idle ⟨W.heap.size,0,none⟩ _).mono ?_
 rintro e u' w'' ⟨rfl,rfl,rfl⟩
 have H:=hiD h
 clear h
 simp [Leaves,settle,results,Tryz.results15,go_sem,h2,hA]
 exact H.out
theorem twiceK_step {L:List Fn} {i:Nat} {x:Fn} (hx:L[i]?=some x):twiceK (L.take i) (L.drop i)=if (L.take i).any (fun g=>g.name==x.name) then .error (9,x.at_) else twiceK (L.take (i+1)) (L.drop (i+1)):=by
 have hi:i<L.length:=(List.getElem?_eq_some_iff.1 hx).1
 have he:L[i]=x:=(List.getElem?_eq_some_iff.1 hx).2
 rw [List.drop_eq_getElem_cons hi,he]
 simp only [twiceK]
 rw [List.take_add_one,hx]
 rfl
theorem fnsK_step (M:List Fn) {L:List Fn} {i:Nat} {x:Fn} (hx:L[i]?=some x):fnsK M (L.drop i)=bindK (fnK M x) fun _=>fnsK M (L.drop (i+1)):=by
 have hi:i<L.length:=(List.getElem?_eq_some_iff.1 hx).1
 have he:L[i]=x:=(List.getElem?_eq_some_iff.1 hx).2
 rw [List.drop_eq_getElem_cons hi,he]
 simp only [fnsK]
theorem paramsK_step (N:Nm) (m:Nat) (a:Int) {P:List (List UInt8×Int)} {i:Nat} {x:List UInt8×Int} (hx:P[i]?=some x):paramsK N m a (P.drop i)=bindK (addN N m x a) fun y=>paramsK y.1 y.2 a (P.drop (i+1)):=by
 have hi:i<P.length:=(List.getElem?_eq_some_iff.1 hx).1
 have he:P[i]=x:=(List.getElem?_eq_some_iff.1 hx).2
 rw [List.drop_eq_getElem_cons hi,he]
 simp only [paramsK]
theorem fnK_block (L:List Fn) (f:Fn):fnK L f=bindK (paramsK [] 0 f.at_ f.params) fun x=>bindK (blockK L x.1 x.2 f.body) fun _=>.ok ():=by
 unfold fnK blockK
 simp only [bindK_assoc]
 rfl
def OneAt (W:World) (a:Option Addr) (i:Nat) (x:Fn) (pa:Option Addr) (pc:Nat) (qa:Option Addr) (qc:Nat) (g o:Nat):Prop :=
 a=some ⟨g,o,none⟩∧W.cell? ⟨g,o+i*4,none⟩=some (str x.name)∧W.cell? ⟨g,o+i*4+1,none⟩=some (.int .i64 x.at_)∧W.cell? ⟨g,o+i*4+2,none⟩=some (.slice pa x.params.length pc)∧W.cell? ⟨g,o+i*4+3,none⟩=some (.slice qa x.body.length qc)
set_option maxRecDepth 100000 in
set_option maxHeartbeats 8000000 in
theorem check_any (L:List Fn) (v:Value) (W:World) (hL:FsAt W None v L) :
 Calls Tryz.prog 15 #[v] W (Checked W (checkR L)):=by
 have hmf:∀ (fn:Go.Fn) (first cap:Array Value) (w:World),(Instr.makeFunc fn first cap).run Tryz.prog w=.ok (.func fn first cap) w:=fun _ _ _ _=>rfl
 obtain ⟨r,hr⟩:∃ r,r=checkR L:=⟨_,rfl⟩
 obtain ⟨r1,hr1⟩:∃ r1,r1=twiceK [] L:=⟨_,rfl⟩
 have HX0:Hid (bindK r1 (fun _=>bindK (fnsK L L) fun _=>.ok (L.any mainB))=r):=hiD (by rw [hr1,hr];rfl)
 have HX1:Hid (twiceK (L.take 0) (L.drop 0)=r1):=hiD hr1.symm
 rw [← hr]
 clear hr hr1
 have HFS:=hiD hL
 obtain ⟨a,n,c,rfl,hn,hnc,hcm,h0,hcell⟩:=hL
 have HN:=hiD hn
 have HONE:=hiD (fun (w:World) (hm:Mods None W w) (i:Nat) (hi:i<n)=>(by
  have hi2:i<L.length:=by omega
  obtain ⟨g,o,p,q,vq,e1,e2,e3,e4,e5,e6,e7,e8,e9⟩:=hcell i L[i] (List.getElem?_eq_getElem hi2)
  obtain ⟨pa,pc,rfl,k1,k2,k3⟩:=ownsRow_slice e7.1
  obtain ⟨qa,qc,rfl,k4,k5,k6⟩:=ownsRow_slice e8.1
  exact ⟨L[i],g,o,pa,pc,qa,qc,vq,List.getElem?_eq_getElem hi2,⟨e1,hm.cellOf e3 (fun f=>f),hm.cellOf e4 (fun f=>f),hm.cellOf e5 (fun f=>f),hm.cellOf e6 (fun f=>f)⟩,e7.mods hm (fun _ _ k=>k),e8.mods hm (fun _ _ k=>k),StsAt.modsTo hm (fun _ _ k=>k) _ _ e9,k1,k2⟩ :
  ∃ x g o pa pc qa qc vq,L[i]?=some x∧OneAt w a i x pa pc qa qc g o∧RowAt w None 91 2 (.slice pa x.params.length pc) x.params.length (pcells x.params)∧RowAt w None 143 7 (.slice qa x.body.length qc) x.body.length vq∧StsAt w None x.body vq∧x.params.length≤pc∧pc≤maxLen))
 obtain ⟨W1,hW1⟩:∃ W1,W1=W.alloc (.cells #[.nilIface] 38):=⟨_,rfl⟩
 have HM1:Hid (Mods None W W1):=hiD (by rw [hW1];exact (Mods.refl _ _).alloc _)
 have HA1:Hid (Blk W1 W.heap.size [.nilIface] 38):=hiD (by rw [hW1];exact Blk.new W _ _)
 unfold maxLen at hcm
 clear hn hcell
 go_enter_defers Tryz.func15,Tryz.ntmps15
 go_wp2_with fail
 rw [← hW1]
 clear hW1
 go_loopw [3,4,13] (fun _ _ iv wr=>∃ i:Nat,i≤n∧iv=.int .i64 i∧Hid (twiceK (L.take i) (L.drop i)=r1)∧Hid (Blk wr W.heap.size [.nilIface] 38)∧Hid (Mods None W wr)) (fun _ _ iv _=>(n-intOf iv).toNat)
 case atStart=>exact ⟨0,Nat.zero_le _,rfl,HX1,HA1,HM1⟩
 case round =>
  clear HX1 HA1 HM1
  obtain ⟨i,hi,rfl,HX1,HA,HM⟩:=hrel
  by_cases hlt:i<n
  · obtain ⟨x,g,o,pa,pc,qa,qc,vq,hx,⟨rfl,c0,c1,c2,c3⟩,_⟩:=HONE.out wr HM.out i hlt
    have hpi:(i:Int)<(n:Int):=by omega
    have hstep:=twiceK_step hx
    obtain ⟨pn,hpn⟩:∃ n,n=x.params.length:=⟨_,rfl⟩
    obtain ⟨qn,hqn⟩:∃ n,n=x.body.length:=⟨_,rfl⟩
    rw [← hpn] at c2
    rw [← hqn] at c3
    obtain ⟨W2,hW2⟩:∃ W2,W2=wr.alloc (.cells #[str x.name,.int .i64 x.at_,.slice pa pn pc,.slice qa qn qc] 84):=⟨_,rfl⟩
    have HM2:Hid (Mods None wr W2):=hiD (by rw [hW2];exact (Mods.refl _ _).alloc _)
    have HB2:Hid (Blk W2 wr.heap.size [str x.name,.int .i64 x.at_,.slice pa pn pc,.slice qa qn qc] 84):=hiD (by rw [hW2];exact Blk.new wr _ _)
    have HC:=hiD (has_twin x.name (L.take i) None (.slice (some ⟨g,o,none⟩) i c) wr.heap.size W2 (HB2.out.cell rfl) ((HFS.out.mods (HM.out.trans HM2.out) (fun _ _ k=>k)).take (by omega) (by simp)))
    clear hx hpn hqn
    unfold str at *
    go_wp2_with fail
    rw [← hW2]
    clear hW2
    go_at_call 37
    refine HC.out.mono ?_
    rintro e w3 ⟨rfl,hm3⟩
    have HM3:=hiD (HM2.out.trans hm3)
    have d1:w3.cell? ⟨wr.heap.size,1,none⟩=some (.int .i64 x.at_):=hm3.cellOf (HB2.out.cell rfl) (fun f=>f)
    have HA3:=hiD (HA.out.mods HM3.out (fun f=>f))
    have hx1:=HX1.out
    rw [hstep] at hx1
    clear hm3 hstep HX1 c0 c1 c2 c3
    rcases hb:(L.take i).any (fun g=>g.name==x.name) with _|_
    · rw [hb] at hx1
      have HX2:Hid (twiceK (L.take (i+1)) (L.drop (i+1))=r1):=hiD hx1
      clear hx1 hb
      go_wp2_with fail
      exact ⟨⟨i+1,by omega,by go_num,HX2,HA3,hiD (HM.out.trans HM3.out)⟩,by simp [intOf];omega⟩
    · rw [hb] at hx1
      obtain rfl:r=.error (9,x.at_):=by rw [← HX0.out,← hx1];rfl
      clear hx1 hb HX0
      go_wp2_with fail
      go_at_call 39
      refine (cfail_any 9 x.at_ w3).mono ?_
      rintro e w4 ⟨⟨g4,rfl,hb4⟩,hm4⟩
      have HB4:=hiD hb4
      have HM4:=hiD hm4
      clear hb4 hm4
      go_wp2
      exact cdoor_thrown rfl (HA3.out.mods HM4.out (fun f=>f)) HB4.out (HM.out.trans (HM3.out.trans HM4.out))
  · obtain rfl:n=i:=by omega
    have hpi:¬ (n:Int)<(n:Int):=by omega
    have hx1:=HX1.out
    rw [HN.out,List.drop_length] at hx1
    simp only [twiceK] at hx1
    have HX2:Hid (bindK (fnsK L (L.drop 0)) (fun _=>.ok (L.any mainB))=r):=hiD (by rw [← HX0.out,← hx1];rfl)
    clear HX0 HX1 hx1
    go_wp2_with fail
    clear hpi hi
    have HA0:=HA
    have HM0:=HM
    clear HA HM
    go_loopw [29] (fun iv w1=>∃ i:Nat,i≤n∧iv=.int .i64 i∧Hid (bindK (fnsK L (L.drop i)) (fun _=>.ok (L.any mainB))=r)∧Hid (Blk w1 W.heap.size [.nilIface] 38)∧Hid (Mods None W w1)) (fun iv _=>(n-intOf iv).toNat)
    case atStart=>exact ⟨0,Nat.zero_le _,rfl,HX2,HA0,HM0⟩
    case round =>
        clear HX2 HA0 HM0
        obtain ⟨i,hi,rfl,HX,HA,HM⟩:=hrel
        obtain ⟨w1,rfl⟩:∃ w1,w1=wr:=⟨_,rfl⟩
        by_cases hlt:i<n
        · obtain ⟨x,g,o,pa,pc,qa,qc,vq,hx,⟨rfl,c0,c1,c2,c3⟩,hrp,hrq,hst,hpc,hpm⟩:=HONE.out _ HM.out i hlt
          have hpi:(i:Int)<(n:Int):=by omega
          obtain ⟨r3,hr3⟩:∃ r3,r3=paramsK [] 0 x.at_ (x.params.drop 0):=⟨_,rfl⟩
          have HX3:Hid (bindK r3 (fun y=>bindK (blockK L y.1 y.2 x.body) fun _=>bindK (fnsK L (L.drop (i+1))) (fun _=>.ok (L.any mainB)))=r):=hiD (by
           rw [hr3,← HX.out,fnsK_step L hx,fnK_block]
           simp only [bindK_assoc,List.drop_zero]
           rfl)
          have HR3:Hid (paramsK [] 0 x.at_ (x.params.drop 0)=r3):=hiD hr3.symm
          obtain ⟨pn,hpn⟩:∃ n,n=x.params.length:=⟨_,rfl⟩
          obtain ⟨qn,hqn⟩:∃ n,n=x.body.length:=⟨_,rfl⟩
          obtain ⟨fv,hfv⟩:∃ fv:Value,fv=.slice (some ⟨g,o,none⟩) n c:=⟨_,rfl⟩
          obtain ⟨W2,hW2⟩:∃ W2,W2=w1.alloc (.cells #[str x.name,.int .i64 x.at_,.slice pa pn pc,.slice qa qn qc] 84):=⟨_,rfl⟩
          obtain ⟨W3,hW3⟩:∃ W3,W3=W2.alloc (.cells #[.slice (some ⟨g,o,none⟩) n c,.slice none 0 0,.int .i64 0] 104):=⟨_,rfl⟩
          have hs2:W2.heap.size=w1.heap.size+1:=by rw [hW2];simp
          have HM2:Hid (Mods None w1 W2):=hiD (by rw [hW2];exact (Mods.refl _ _).alloc _)
          have HM23:Hid (Mods None W2 W3):=hiD (by rw [hW3];exact (Mods.refl _ _).alloc _)
          have HB2:Hid (Blk W3 w1.heap.size [str x.name,.int .i64 x.at_,.slice pa pn pc,.slice qa qn qc] 84):=hiD (by rw [hW3,hW2];exact (Blk.new w1 _ _).alloc _)
          have HM3:Hid (Mods None W W3):=hiD (HM.out.trans (HM2.out.trans HM23.out))
          have hbl:W.heap.size<w1.heap.size:=HA.out.lt
          have noB:∀ {w:World} k,k<w.heap.size→w=W→k=w1.heap.size+1→None k:=fun k h1 h2 h3=>by rw [h2] at h1;omega
          have HK:Hid (Chk W3 (w1.heap.size+1) L [] 0):=hiD (by
           refine ⟨by omega,by simp,.slice (some ⟨g,o,none⟩) n c,.slice none 0 0,?_,HFS.out.mods HM3.out (fun k h1 h2=>noB k h1 rfl h2),⟨none,0,0,rfl,rfl,Nat.le_refl _,by decide,fun _=>rfl,fun i p hp=>by simp at hp⟩⟩
           rw [hW3,← hs2]
           exact Blk.new W2 _ _)
          have hbw:∀ k,k<w1.heap.size→k=w1.heap.size+1→None k:=fun k h1 h2=>by omega
          have HRP:=hiD (hrp.mods (HM2.out.trans HM23.out) (T:=(·=w1.heap.size+1)) hbw)
          have HRQ:=hiD (hrq.mods (HM2.out.trans HM23.out) (T:=(·=w1.heap.size+1)) hbw)
          have HST:=hiD (StsAt.modsTo (HM2.out.trans HM23.out) (T:=(·=w1.heap.size+1)) hbw _ _ hst)
          have HA3:=hiD (HA.out.mods (HM2.out.trans HM23.out) (fun f=>f))
          have hq1:w1.heap.size≠w1.heap.size+1:=by omega
          have hLb:Hid (W.heap.size<w1.heap.size):=hiD hbl
          have HPC:=hiD hpc
          rw [← hpn] at c2 hpc
          rw [← hqn] at c3
          have HPN:=hiD hpn
          have HQN:=hiD hqn
          have d2:W3.cell? ⟨w1.heap.size,2,none⟩=some (.slice pa pn pc):=HB2.out.cell rfl
          have HST3:=hiD (fun (w:World) (hm:Mods (·=w1.heap.size+1) W3 w) (j:Nat) (hj:j<x.params.length)=>(by
           have e2:x.params[j]?=some x.params[j]:=List.getElem?_eq_getElem hj
           obtain ⟨q1,q2⟩:=ncells_at x.params j x.params[j] e2
           obtain ⟨pa',pc',e3,_,_,hcl⟩:=ownsRow_slice HRP.out.1
           obtain ⟨rfl,-,rfl⟩:=Value.slice.inj e3
           obtain ⟨pg,hpg,ho,d1⟩:=hcl _ _ q1
           obtain ⟨pg',hpg',_,d2⟩:=hcl _ _ q2
           obtain rfl:pg=pg':=by rw [hpg] at hpg';simpa using hpg'
           exact ⟨pg,x.params[j].1,x.params[j].2,hpg,e2,hm.cellOf d1 (HRP.out.2 _ ho),hm.cellOf d2 (HRP.out.2 _ ho)⟩ :
           ∃ pg nm ty,pa=some ⟨pg,0,none⟩∧x.params[j]?=some (nm,ty)∧w.cell? ⟨pg,j*2,none⟩=some (str nm)∧w.cell? ⟨pg,j*2+1,none⟩=some (.int .i64 ty)))
          have HM33:Hid (Mods (·=w1.heap.size+1) W3 W3):=hiD (Mods.refl _ _)
          unfold maxLen at hpm
          clear hx hr3 hpn hqn hrp hrq hst HX hbw noB hfv
          unfold str at *
          go_wp2_with fail
          rw [← hW2,← hW3]
          clear hW2 hW3 c0 c1 c2 c3 d2 hs2
          go_loopw [39] (fun jv w3=>∃ (j:Nat) (N:Nm) (m:Nat),j≤pn∧jv=.int .i64 j∧Hid (paramsK N m x.at_ (x.params.drop j)=r3)∧Hid (Chk w3 (w1.heap.size+1) L N m)∧Hid (Mods (·=w1.heap.size+1) W3 w3)) (fun jv _=>(pn-intOf jv).toNat)
          case atStart=>exact ⟨0,[],0,Nat.zero_le _,rfl,HR3,HK,HM33⟩
          case round =>
           clear HR3 HK HM33
           obtain ⟨j,N,m,hj,rfl,HR3,HK,HM33⟩:=hrel
           obtain ⟨w3,rfl⟩:∃ w3,w3=wr:=⟨_,rfl⟩
           have hMT:Hid (Mods None W w3):=hiD (HM3.out.trans' HM33.out (by have:=hLb.out;rintro k rfl hk;omega))
           have HA4:=hiD (HA3.out.mods HM33.out (by have:=hLb.out;omega))
           by_cases hlj:j<pn
           · obtain ⟨pg,nm,ty,rfl,hp,p0,p1⟩:=HST3.out w3 HM33.out j (by rw [← HPN.out];exact hlj)
             have hpj:(j:Int)<(pn:Int):=by omega
             have HB4:=hiD (HB2.out.mods HM33.out (by omega))
             obtain ⟨W4,hW4⟩:∃ W4,W4=w3.alloc (.cells #[.string ⟨nm.toArray⟩,.int .i64 ty] 91):=⟨_,rfl⟩
             have HM4:Hid (Mods None w3 W4):=hiD (by rw [hW4];exact (Mods.refl _ _).alloc _)
             have HM34:Hid (Mods (·=w1.heap.size+1) W3 W4):=hiD (HM33.out.trans (HM4.out.mono fun _ _ f=>f.elim))
             have HX4:Hid (bindK (addN N m (nm,ty) x.at_) (fun y=>paramsK y.1 y.2 x.at_ (x.params.drop (j+1)))=r3):=hiD (by rw [← HR3.out,paramsK_step N m x.at_ hp])
             have HADD:=hiD (add_any (w1.heap.size+1) L N m (nm,ty) x.at_ W4 (HK.out.mods HM4.out))
             have d1:w3.cell? ⟨w1.heap.size,1,none⟩=some (.int .i64 x.at_):=HB4.out.cell rfl
             have l1:w1.heap.size<w3.heap.size:=HB4.out.lt
             have n1:w1.heap.size≠w3.heap.size:=by omega
             clear hp HR3
             unfold str at *
             go_wp2_with fail
             rw [← hW4]
             clear hW4 p0 p1
             go_at_call 40
             refine abind_of (b:=w1.heap.size+1) HM34 HX4 HADD.out ?_ ?_
             · rintro q1 q2 hre g5 w5 HB5 HM5
               obtain rfl:r=.error (q1,q2):=by rw [← HX3.out,hre];rfl
               clear HX3 HX4 HADD d1
               go_wp2
               exact cdoor_thrown rfl (HA3.out.mods HM5.out (by have:=hLb.out;omega)) HB5.out (HM3.out.trans' HM5.out (by have:=hLb.out;rintro k rfl hk;omega))
             · intro y _ HX5 w5 HK5 _ HM5
               clear HX4 HADD d1
               go_wp2_with fail
               exact ⟨⟨j+1,y.1,y.2,by omega,by go_num,HX5,HK5,HM5⟩,by simp [intOf];omega⟩
           · obtain rfl:pn=j:=by omega
             have hpj:¬ (pn:Int)<(pn:Int):=by omega
             have hx3:=HR3.out
             rw [HPN.out,List.drop_length] at hx3
             simp only [paramsK] at hx3
             have HX4:Hid (bindK (blockK L N m x.body) (fun _=>bindK (fnsK L (L.drop (i+1))) (fun _=>.ok (L.any mainB)))=r):=hiD (by rw [← HX3.out,← hx3];rfl)
             have HB4:=hiD (HB2.out.mods HM33.out (by omega))
             have d3:w3.cell? ⟨w1.heap.size,3,none⟩=some (.slice qa qn qc):=HB4.out.cell rfl
             have hBL:=block_any L x.body (w1.heap.size+1) N m _ vq w3 _ HK.out (HRQ.out.mods HM33.out (fun _ _ k=>k)) (StsAt.modsTo HM33.out (fun _ _ k=>k) _ _ HST.out) rfl
             rw [← HQN.out] at hBL
             have HBL:=hiD hBL
             clear hx3 HR3 HX3 hBL
             go_wp2_with fail
             go_at_call 41
             refine abind_of (b:=w1.heap.size+1) HM33 HX4 HBL.out ?_ ?_
             · rintro q1 q2 rfl g5 w5 HB5 HM5
               clear HX4 HBL d3
               go_wp2
               exact cdoor_thrown rfl (HA3.out.mods HM5.out (by have:=hLb.out;omega)) HB5.out (HM3.out.trans' HM5.out (by have:=hLb.out;rintro k rfl hk;omega))
             · intro y _ HX5 w5 HK5 _ HM5
               have HM6:Hid (Mods None W w5):=hiD (HM3.out.trans' HM5.out (by have:=hLb.out;rintro k rfl hk;omega))
               have HA6:=hiD (HA3.out.mods HM5.out (by have:=hLb.out;omega))
               clear HX4 HBL d3
               go_wp2_with fail
               exact ⟨⟨i+1,by omega,by go_num,HX5,HA6,HM6⟩,by simp [intOf];omega⟩
        · obtain rfl:n=i:=by omega
          have hpi:¬ (n:Int)<(n:Int):=by omega
          have hx:=HX.out
          rw [HN.out,List.drop_length] at hx
          simp only [fnsK,bindK] at hx
          have HMAIN:=hiD (has_main L None _ _ (HFS.out.mods HM.out (fun _ _ k=>k)))
          rcases hb:L.any mainB with _|_
          · rw [hb] at hx HMAIN
            subst hx
            have hl0:=HA.out.lt
            clear HX hb
            go_wp2_with fail
            go_at_call 37
            refine HMAIN.out.mono ?_
            rintro e w5 ⟨rfl,hm5⟩
            have HA5:=hiD (HA.out.mods hm5 (fun f=>f))
            have HM5:=hiD (HM.out.trans hm5)
            have d0:=HA5.out.cell (i:=0) rfl
            have f0:=HA5.out.free 0
            clear hm5
            go_wp2
            refine cdoor_plain rfl ((blk_put (ds:=[.iface 44 (.int .i64 8)]) HA5.out 0 _ rfl).cell (i:=0) rfl) ?_
            exact ⟨rfl,HM5.out.trans' (mods_put _ _ _ _) (by rintro k rfl hk;omega)⟩
          · rw [hb] at hx HMAIN
            subst hx
            clear HX hb
            go_wp2_with fail
            go_at_call 37
            refine HMAIN.out.mono ?_
            rintro e w5 ⟨rfl,hm5⟩
            have HA5:=hiD (HA.out.mods hm5 (fun f=>f))
            have HM5:=hiD (HM.out.trans hm5)
            have d0:=HA5.out.cell (i:=0) rfl
            have f0:=HA5.out.free 0
            clear hm5
            go_wp2
            refine cdoor_plain rfl ((blk_put (ds:=[.nilIface]) HA5.out 0 _ rfl).cell (i:=0) rfl) ?_
            exact ⟨rfl,HM5.out.trans' (mods_put _ _ _ _) (by rintro k rfl hk;omega)⟩
end Go.Proofs.YtnicpmoanjddbaaGreatDoor.TreeP
namespace Go.Proofs.YtnicpmoanjddbaaGreatDoor.MidP
open Go.RowKit Go.Proofs.YtnicpmoanjddbaaGreatDoor.Wo Go.Maps Go.Proofs.YtnicpmoanjddbaaGreatDoor.TreeP
set_option linter.unusedVariables false
set_option linter.unusedSimpArgs false
def pairV (p:Int×Int):Value:=.tuple #[.int .i64 p.1,.int .i64 p.2]
set_option maxRecDepth 100000 in
set_option maxHeartbeats 4000000 in
theorem mboth_any (op:List UInt8) (a b:Int) (W:World) :
 Calls Tryz.prog 83 #[str op,.int .i64 a,.int .i64 b] W fun e w=>e=.returned (pairV (bothP op a b))∧W=w:=by
 unfold str
 by_cases h0:op=[43]
 · subst h0
   have ht:bothP [43] a b=(wrap64 (a+b),0):=by unfold bothP;rfl
   rw [ht]
   clear ht
   go_enter Tryz.func83,Tryz.ntmps83
   go_wp2
   go_ret2
   exact ⟨rfl,rfl⟩
 by_cases h1:op=[45]
 · subst h1
   have ht:bothP [45] a b=(wrap64 (a-b),0):=by unfold bothP;rfl
   rw [ht]
   clear ht
   go_enter Tryz.func83,Tryz.ntmps83
   go_wp2
   go_ret2
   exact ⟨rfl,rfl⟩
 by_cases h2:op=[42]
 · subst h2
   have ht:bothP [42] a b=(wrap64 (a*b),0):=by unfold bothP;rfl
   rw [ht]
   clear ht
   go_enter Tryz.func83,Tryz.ntmps83
   go_wp2
   go_ret2
   exact ⟨rfl,rfl⟩
 by_cases h3:op=[47]
 · subst h3
   by_cases hz:b=0
   · subst hz
     have ht:bothP [47] a 0=(0,2):=by unfold bothP;rfl
     rw [ht]
     clear ht
     go_enter Tryz.func83,Tryz.ntmps83
     go_wp2
     go_ret2
     exact ⟨rfl,rfl⟩
   · have hb0:(b==0)=false:=by simpa using hz
     have ht:bothP [47] a b=(wrap64 (a.tdiv b),0):=by unfold bothP;rw [if_neg (by decide),if_neg (by decide),if_neg (by decide),if_pos (by decide),if_neg hz];rfl
     rw [ht]
     clear ht
     go_enter Tryz.func83,Tryz.ntmps83
     go_wp2
     go_ret2
     exact ⟨by first|rfl|simp [pairV,wrap64,IntKind.wrap_i64],rfl⟩
 by_cases h4:op=[37]
 · subst h4
   by_cases hz:b=0
   · subst hz
     have ht:bothP [37] a 0=(0,2):=by unfold bothP;rfl
     rw [ht]
     clear ht
     go_enter Tryz.func83,Tryz.ntmps83
     go_wp2
     go_ret2
     exact ⟨rfl,rfl⟩
   · have hb0:(b==0)=false:=by simpa using hz
     have ht:bothP [37] a b=(a.tmod b,0):=by unfold bothP;rw [if_neg (by decide),if_neg (by decide),if_neg (by decide),if_pos (by decide),if_neg hz];rfl
     rw [ht]
     clear ht
     go_enter Tryz.func83,Tryz.ntmps83
     go_wp2
     go_ret2
     exact ⟨by first|rfl|simp [pairV,wrap64,IntKind.wrap_i64],rfl⟩
 by_cases h5:op=[61,61]
 · subst h5
   have ht:bothP [61,61] a b=(oneB (a==b),0):=by unfold bothP;rfl
   by_cases h:a=b
   · have hv:oneB (a==b)=1:=by simp [oneB];omega
     have hd:(a==b)=true:=by simpa using h
     have hd1:(a != b)=false:=by simpa using h
     rw [ht,hv]
     clear ht hv h
     go_enter Tryz.func83,Tryz.ntmps83
     go_wp2
     go_ret2
     exact ⟨rfl,rfl⟩
   · have hv:oneB (a==b)=0:=by simp [oneB];omega
     have hd:(a==b)=false:=by simpa using h
     have hd1:(a != b)=true:=by simpa using h
     rw [ht,hv]
     clear ht hv h
     go_enter Tryz.func83,Tryz.ntmps83
     go_wp2
     go_ret2
     exact ⟨rfl,rfl⟩
 by_cases h6:op=[33,61]
 · subst h6
   have ht:bothP [33,61] a b=(oneB (a != b),0):=by unfold bothP;rfl
   by_cases h:a=b
   · have hv:oneB (a != b)=0:=by simp [oneB];omega
     have hd:(a==b)=true:=by simpa using h
     have hd1:(a != b)=false:=by simpa using h
     rw [ht,hv]
     clear ht hv h
     go_enter Tryz.func83,Tryz.ntmps83
     go_wp2
     go_ret2
     exact ⟨rfl,rfl⟩
   · have hv:oneB (a != b)=1:=by simp [oneB];omega
     have hd:(a==b)=false:=by simpa using h
     have hd1:(a != b)=true:=by simpa using h
     rw [ht,hv]
     clear ht hv h
     go_enter Tryz.func83,Tryz.ntmps83
     go_wp2
     go_ret2
     exact ⟨rfl,rfl⟩
 by_cases h7:op=[60]
 · subst h7
   have ht:bothP [60] a b=(oneB (decide (a<b)),0):=by unfold bothP;rfl
   by_cases h:a<b
   · have hv:oneB (decide (a<b))=1:=by simp [oneB];omega
     have hd:decide (a<b)=true:=by simpa using h
     have hd2:(a<b):=h
     rw [ht,hv]
     clear ht hv h
     go_enter Tryz.func83,Tryz.ntmps83
     go_wp2
     go_ret2
     exact ⟨rfl,rfl⟩
   · have hv:oneB (decide (a<b))=0:=by simp [oneB];omega
     have hd:decide (a<b)=false:=by simpa using h
     have hd2:¬ (a<b):=h
     rw [ht,hv]
     clear ht hv h
     go_enter Tryz.func83,Tryz.ntmps83
     go_wp2
     go_ret2
     exact ⟨rfl,rfl⟩
 by_cases h8:op=[60,61]
 · subst h8
   have ht:bothP [60,61] a b=(oneB (decide (a≤b)),0):=by unfold bothP;rfl
   by_cases h:a≤b
   · have hv:oneB (decide (a≤b))=1:=by simp [oneB];omega
     have hd:decide (a≤b)=true:=by simpa using h
     have hd2:(a≤b):=h
     rw [ht,hv]
     clear ht hv h
     go_enter Tryz.func83,Tryz.ntmps83
     go_wp2
     go_ret2
     exact ⟨rfl,rfl⟩
   · have hv:oneB (decide (a≤b))=0:=by simp [oneB];omega
     have hd:decide (a≤b)=false:=by simpa using h
     have hd2:¬ (a≤b):=h
     rw [ht,hv]
     clear ht hv h
     go_enter Tryz.func83,Tryz.ntmps83
     go_wp2
     go_ret2
     exact ⟨rfl,rfl⟩
 by_cases h9:op=[62]
 · subst h9
   have ht:bothP [62] a b=(oneB (decide (a > b)),0):=by unfold bothP;rfl
   by_cases h:b<a
   · have hv:oneB (decide (a > b))=1:=by simp [oneB];omega
     have hd:decide (b<a)=true:=by simpa using h
     have hd2:(b<a):=h
     rw [ht,hv]
     clear ht hv h
     go_enter Tryz.func83,Tryz.ntmps83
     go_wp2
     go_ret2
     exact ⟨rfl,rfl⟩
   · have hv:oneB (decide (a > b))=0:=by simp [oneB];omega
     have hd:decide (b<a)=false:=by simpa using h
     have hd2:¬ (b<a):=h
     rw [ht,hv]
     clear ht hv h
     go_enter Tryz.func83,Tryz.ntmps83
     go_wp2
     go_ret2
     exact ⟨rfl,rfl⟩
 by_cases h10:op=[62,61]
 · subst h10
   have ht:bothP [62,61] a b=(oneB (decide (a≥b)),0):=by unfold bothP;rfl
   by_cases h:b≤a
   · have hv:oneB (decide (a≥b))=1:=by simp [oneB];omega
     have hd:decide (b≤a)=true:=by simpa using h
     have hd2:(b≤a):=h
     rw [ht,hv]
     clear ht hv h
     go_enter Tryz.func83,Tryz.ntmps83
     go_wp2
     go_ret2
     exact ⟨rfl,rfl⟩
   · have hv:oneB (decide (a≥b))=0:=by simp [oneB];omega
     have hd:decide (b≤a)=false:=by simpa using h
     have hd2:¬ (b≤a):=h
     rw [ht,hv]
     clear ht hv h
     go_enter Tryz.func83,Tryz.ntmps83
     go_wp2
     go_ret2
     exact ⟨rfl,rfl⟩
 have ht:bothP op a b=(0,0):=by
  unfold bothP
  rw [if_neg h0,if_neg h1,if_neg h2,if_neg (fun e=>e.elim h3 h4),if_neg h5,if_neg h6,if_neg h7,if_neg h8,if_neg h9,if_neg h10]
 rw [ht]
 clear ht
 have k0:((⟨op.toArray⟩:ByteArray)==⟨#[43]⟩)=false:=by rw [show (⟨#[43]⟩:ByteArray)=⟨([43]:List UInt8).toArray⟩ from rfl,str_beq];simpa using h0
 have j0:(op==[43])=false:=by simpa using h0
 have k1:((⟨op.toArray⟩:ByteArray)==⟨#[45]⟩)=false:=by rw [show (⟨#[45]⟩:ByteArray)=⟨([45]:List UInt8).toArray⟩ from rfl,str_beq];simpa using h1
 have j1:(op==[45])=false:=by simpa using h1
 have k2:((⟨op.toArray⟩:ByteArray)==⟨#[42]⟩)=false:=by rw [show (⟨#[42]⟩:ByteArray)=⟨([42]:List UInt8).toArray⟩ from rfl,str_beq];simpa using h2
 have j2:(op==[42])=false:=by simpa using h2
 have k3:((⟨op.toArray⟩:ByteArray)==⟨#[47]⟩)=false:=by rw [show (⟨#[47]⟩:ByteArray)=⟨([47]:List UInt8).toArray⟩ from rfl,str_beq];simpa using h3
 have j3:(op==[47])=false:=by simpa using h3
 have k4:((⟨op.toArray⟩:ByteArray)==⟨#[37]⟩)=false:=by rw [show (⟨#[37]⟩:ByteArray)=⟨([37]:List UInt8).toArray⟩ from rfl,str_beq];simpa using h4
 have j4:(op==[37])=false:=by simpa using h4
 have k5:((⟨op.toArray⟩:ByteArray)==⟨#[61,61]⟩)=false:=by rw [show (⟨#[61,61]⟩:ByteArray)=⟨([61,61]:List UInt8).toArray⟩ from rfl,str_beq];simpa using h5
 have j5:(op==[61,61])=false:=by simpa using h5
 have k6:((⟨op.toArray⟩:ByteArray)==⟨#[33,61]⟩)=false:=by rw [show (⟨#[33,61]⟩:ByteArray)=⟨([33,61]:List UInt8).toArray⟩ from rfl,str_beq];simpa using h6
 have j6:(op==[33,61])=false:=by simpa using h6
 have k7:((⟨op.toArray⟩:ByteArray)==⟨#[60]⟩)=false:=by rw [show (⟨#[60]⟩:ByteArray)=⟨([60]:List UInt8).toArray⟩ from rfl,str_beq];simpa using h7
 have j7:(op==[60])=false:=by simpa using h7
 have k8:((⟨op.toArray⟩:ByteArray)==⟨#[60,61]⟩)=false:=by rw [show (⟨#[60,61]⟩:ByteArray)=⟨([60,61]:List UInt8).toArray⟩ from rfl,str_beq];simpa using h8
 have j8:(op==[60,61])=false:=by simpa using h8
 have k9:((⟨op.toArray⟩:ByteArray)==⟨#[62]⟩)=false:=by rw [show (⟨#[62]⟩:ByteArray)=⟨([62]:List UInt8).toArray⟩ from rfl,str_beq];simpa using h9
 have j9:(op==[62])=false:=by simpa using h9
 have k10:((⟨op.toArray⟩:ByteArray)==⟨#[62,61]⟩)=false:=by rw [show (⟨#[62,61]⟩:ByteArray)=⟨([62,61]:List UInt8).toArray⟩ from rfl,str_beq];simpa using h10
 have j10:(op==[62,61])=false:=by simpa using h10
 clear h0 h1 h2 h3 h4 h5 h6 h7 h8 h9 h10
 go_enter Tryz.func83,Tryz.ntmps83
 go_wp2
 go_ret2
 exact ⟨rfl,rfl⟩
end Go.Proofs.YtnicpmoanjddbaaGreatDoor.MidP

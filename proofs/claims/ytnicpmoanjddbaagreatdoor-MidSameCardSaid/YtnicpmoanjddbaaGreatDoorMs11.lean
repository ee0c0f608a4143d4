/- Which steps may be a program. Conditions: what is asked lies; the tables lie as the program lays them. How many steps there are. Conditions: what is asked lies; there are not too many. Where each label of a function stands. Conditions: the function lies. The runner of steps as it lies in memory; maps by names of any length. Printed by mkmrun.py. Conditions: what it has lies. The marks, the levels, the range error and the tables of the steps, as the rows list them, lie as the walks want them; and so they lie behind the door's own run. -/
import Derived.Test.YtnicpmoanjddbaaGreatDoorMs10
import Derived.Laws.PanicsMore
import Derived.Test.YtnicpmoanjddbaaGreatDoorRows
import Derived.Test.YtnicpmoanjddbaaGreatDoorMs06
import Derived.Test.YtnicpmoanjddbaaGreatDoorMs01
import Derived.ProofKit
import Derived.LaidMore
import Derived.OpenShut
import Derived.Stop.Joined
import Derived.Lib.SmallJoins
import Derived.Lib.LaidTab
namespace Go.Proofs.YtnicpmoanjddbaaGreatDoor.MidP
open Go.RowKit Go.Proofs.YtnicpmoanjddbaaGreatDoor.Wo Go.Maps Go.Proofs.YtnicpmoanjddbaaGreatDoor.TreeP
set_option linter.unusedVariables false
set_option linter.unusedSimpArgs false
theorem FmsAt.take {W:World} {S:Nat→Prop} {a:Option Addr} {n c:Nat} {L:List Fm} (h:FmsAt W S (.slice a n c) L) {i:Nat} (hi:i≤L.length):FmsAt W S (.slice a i c) (L.take i):=by
 obtain ⟨a',c',h1,h3,h4,h5,h6⟩:=h
 obtain ⟨rfl,rfl,rfl⟩:=Value.slice.inj h1
 refine ⟨a,c,by rw [List.length_take,Nat.min_eq_left hi],by rw [List.length_take];omega,h4,fun e=>by rw [List.length_take];have:=h5 e;omega,fun j f hf=>?_⟩
 have hj:j<i:=by
  have:=(List.getElem?_eq_some_iff.1 hf).1
  rw [List.length_take] at this
  omega
 rw [List.getElem?_take_of_lt hj] at hf
 exact h6 j f hf
set_option maxRecDepth 100000 in
theorem twin_call (g:Fm) (nm:List UInt8) (q:Nat) (w:World) (fv:Value) (hq:w.cell? ⟨q,0,none⟩=some (str nm)) (hv:FmV w None g fv) :
 Calls Tryz.prog 25 #[fv,.pointer (some ⟨q,0,none⟩)] w fun e w'=>e=.returned (.bool (g.name==nm))∧Mods None w w':=by
 obtain ⟨ta,tc,sa,sc,rfl,-,-⟩:=hv
 have hlt:q<w.heap.size:=World.block_lt_of_cell? w _ hq
 have hne:q≠w.heap.size:=by omega
 unfold str at *
 go_enter Tryz.func25,Tryz.ntmps25
 go_wp2
 go_ret
 exact ⟨by simp,(Mods.refl _ _).alloc _⟩
def mainP (f:Fm):Bool:=f.name==[109,97,105,110] && f.params==0
set_option maxRecDepth 100000 in
theorem main_call (g:Fm) (w:World) (fv:Value) (hv:FmV w None g fv) :
 Calls Tryz.prog 27 #[fv] w fun e w'=>e=.returned (.bool (mainP g))∧Mods None w w':=by
 obtain ⟨ta,tc,sa,sc,rfl,-,-⟩:=hv
 by_cases h1:g.name=[109,97,105,110]
 · have e1:mainP g=(g.params==0):=by unfold mainP;rw [h1];rfl
   rw [e1,h1]
   unfold str
   go_enter Tryz.func27,Tryz.ntmps27
   go_wp2
   go_ret
   exact ⟨rfl,(Mods.refl _ _).alloc _⟩
 · have h2:(g.name==[109,97,105,110])=false:=by simpa using h1
   have e1:mainP g=false:=by unfold mainP;rw [h2];rfl
   have h3:((⟨g.name.toArray⟩:ByteArray)==⟨#[109,97,105,110]⟩)=false:=by
    have:=str_beq g.name [109,97,105,110]
    rw [h2] at this
    exact this
   rw [e1]
   unfold str
   go_enter Tryz.func27,Tryz.ntmps27
   go_wp2
   go_ret
   exact ⟨rfl,(Mods.refl _ _).alloc _⟩
theorem heads_of:(A L:List Fm)→headsB A L=true→Heads L
 | A,[],h=>fun g hg=>by cases hg
 | A,f::r,h=>by
   unfold headsB at h
   split at h
   · cases h
   · rename_i hn
     intro g hg
     rcases List.mem_cons.1 hg with rfl|hg
     · constructor
       · exact Int.not_lt.1 fun h=>hn (Or.inl h)
       · exact Int.not_lt.1 fun h=>hn (Or.inr (Or.inl h))
     · exact heads_of _ r h g hg
theorem headsB_cons (A r:List Fm) (f:Fm):headsB A (f::r)=if f.params<0∨f.params > f.types.length∨A.any (fun g=>g.name==f.name) then false else headsB (A++[f]) r:=by rw [headsB]
theorem codeB_eq (L:List Fm):codeB L=(decide (L.length≤12) && headsB [] L && L.all (fnB L) && L.any mainP):=rfl
set_option maxRecDepth 100000 in
set_option maxHeartbeats 4000000 in
theorem rightc_any (L:List Fm) (cb:Nat) (lv:Value) (W:World) (hcb:W.cell? ⟨cb,0,none⟩=some lv) (hL:FmsAt W None lv L) (hFo:FormsAt W) (hOp:OpsAt W) (hlab:∀ f∈L,∀ s∈f.steps,I64 s.label) :
 Calls Tryz.prog 10 #[.pointer (some ⟨cb,0,none⟩)] W fun e w=>e=.returned (.bool (codeB L))∧Mods None W w:=by
 obtain ⟨R,hR⟩:∃ R,R=codeB L:=⟨_,rfl⟩
 have HR:=hiD (hR.trans (codeB_eq L))
 rw [← hR]
 have HALL:=hiD (fun (w:World) (hm:Mods None W w)=>(⟨hm.cellOf hcb (fun f=>f),hL.mods hm (fun _ _ k=>k),hFo.mods hm,hOp.mods hm⟩:w.cell? ⟨cb,0,none⟩=some lv∧FmsAt w None lv L∧FormsAt w∧OpsAt w))
 obtain ⟨la,lc,rfl,hlc1,hlc2,-⟩:=hL.form
 have HLAB:=hiD hlab
 obtain ⟨n,hn⟩:∃ n,n=L.length:=⟨_,rfl⟩
 have HN:=hiD hn
 rw [← hn] at hcb hlc1
 clear hL hFo hOp hlab hR hn
 go_enter Tryz.func10,Tryz.ntmps10
 by_cases h12:12<n
 · have h12':(12:Int)<(n:Int):=by omega
   have HF:Hid (R=false):=hiD (by rw [HR.out,← HN.out,show decide (n≤12)=false from decide_eq_false (by omega)];rfl)
   go_wp2_with fail
   go_ret
   rw [HF.out]
   exact ⟨rfl,Mods.refl _ _⟩
 have h12':¬ (12:Int)<(n:Int):=by omega
 have H12:=hiD (show n≤12 by omega)
 go_wp2_with fail
 clear hcb
 go_loopw [3,4,22] (fun _ _ iv wr=>∃ i:Nat,i≤n∧iv=.int .i64 i∧Hid (headsB (L.take i) (L.drop i)=headsB [] L)∧Hid (Mods None W wr)) (fun _ _ iv _=>(n-intOf iv).toNat)
 case atStart=>exact ⟨0,Nat.zero_le _,rfl,hiD rfl,hiD (Mods.refl _ _)⟩
 case round =>
  obtain ⟨i,hi,rfl,HH,HM⟩:=hrel
  obtain ⟨b0,b1,b2,b3⟩:=HALL.out wr HM.out
  rw [← HN.out] at b0
  by_cases hlt:i<n
  · have hil:i<L.length:=by have:=HN.out;omega
    obtain ⟨g,o,ta,tc,sa,sc,rfl,c0,c1,c2,c3,hT,hS⟩:=b1.get hil
    have hFV:FmV wr None L[i] (.agg #[str L[i].name,.int .i64 L[i].params,.slice ta L[i].types.length tc,.slice sa L[i].steps.length sc]):=⟨ta,tc,sa,sc,rfl,hT,hS⟩
    obtain ⟨f,hf⟩:∃ f,L[i]?=some f:=⟨_,List.getElem?_eq_getElem hil⟩
    have hfe:L[i]=f:=by
        obtain ⟨h1,h2⟩:=List.getElem?_eq_some_iff.1 hf
        exact h2
    rw [hfe] at c0 c1 c2 c3
    have hdr:=drop_one hf
    have htk:L.take i++[f]=L.take (i+1):=by rw [List.take_succ_eq_append_getElem hil,hfe]
    have hH:=HH.out
    rw [hdr] at hH
    rw [headsB_cons,htk] at hH
    obtain ⟨W5,hW5⟩:∃ W5,W5=wr.alloc (.cells #[str f.name,.int .i64 f.params,.slice ta f.types.length tc,.slice sa f.steps.length sc] 55):=⟨_,rfl⟩
    have hm5:Mods None wr W5:=by rw [hW5];exact (Mods.refl _ _).alloc _
    have hB5:Blk W5 wr.heap.size [str f.name,.int .i64 f.params,.slice ta f.types.length tc,.slice sa f.steps.length sc] 55:=by rw [hW5];exact Blk.new wr _ _
    have d0:=hB5.cell (i:=0) rfl
    have d1:=hB5.cell (i:=1) rfl
    have d2:=hB5.cell (i:=2) rfl
    have HM5:=hiD (HM.out.trans hm5)
    obtain ⟨e0,e1,e2,e3⟩:=HALL.out W5 HM5.out
    rw [← HN.out] at e0
    have hpi:(i:Int)<(n:Int):=by omega
    have hic:(i:Int)≤(lc:Int):=by omega
    have HTW:=hiD (has_twin (L.take i) (.slice (some ⟨g,o,none⟩) i lc) wr.heap.size (fun g=>g.name==f.name) W5 (by rw [← HN.out] at e1;exact e1.take (by omega)) (fun j hj w fv hm hv=>twin_call _ f.name wr.heap.size w fv (hm.cellOf d0 (fun f=>f)) hv))
    obtain ⟨tn,htn⟩:∃ tn,tn=f.types.length:=⟨_,rfl⟩
    obtain ⟨sn,hsn⟩:∃ sn,sn=f.steps.length:=⟨_,rfl⟩
    rw [← htn] at hH c2 d2 hW5
    rw [← hsn] at c3 hW5
    obtain ⟨z,hz⟩:∃ z,z=(L.take i).any (fun g=>g.name==f.name):=⟨_,rfl⟩
    rw [← hz] at HTW hH
    have HLE:=hiD (show i<n from hlt)
    have hmf:∀ (fn:Go.Fn) (first cap:Array Value) (w:World),(Instr.makeFunc fn first cap).run Tryz.prog w=.ok (.func fn first cap) w:=fun _ _ _ _=>rfl
    unfold str at *
    clear hT hS hFV hf hfe hdr htk hm5 hB5 e1 e2 e3 b1 b2 b3 htn hsn hz hil d0
    by_cases hp0:f.params<0
    · have HF:Hid (R=false):=hiD (by rw [HR.out,← hH,if_pos (Or.inl hp0)];simp)
      clear hH
      go_upto_region 6 with (fail)
      rw [← hW5]
      clear hW5
      go_wp2_with fail
      go_ret
      rw [HF.out]
      exact ⟨rfl,HM5.out⟩
    by_cases hp1:(tn:Int)<f.params
    · have HF:Hid (R=false):=hiD (by rw [HR.out,← hH,if_pos (Or.inr (Or.inl hp1))];simp)
      clear hH
      go_upto_region 6 with (fail)
      rw [← hW5]
      clear hW5
      go_wp2_with fail
      go_ret
      rw [HF.out]
      exact ⟨rfl,HM5.out⟩
    have hgt:f.params > tn↔(tn:Int)<f.params:=Iff.rfl
    cases z
    · have HH2:Hid (headsB (L.take (i+1)) (L.drop (i+1))=headsB [] L):=hiD (by rw [← hH,if_neg (by simp;exact ⟨Int.not_lt.1 hp0,Int.not_lt.1 hp1⟩)])
      clear hH hgt
      go_upto_region 6 with (fail)
      rw [← hW5]
      clear hW5
      go_wp2_with fail
      go_at_call 24
      refine HTW.out.mono ?_
      rintro e w6 ⟨rfl,hm6⟩
      have HM6:=hiD (HM5.out.trans hm6)
      clear hm6
      have hlt2:=HLE.out
      go_wp2_with fail
      exact ⟨⟨i+1,by omega,by go_num,HH2,HM6⟩,by simp [intOf];omega⟩
    · have HF:Hid (R=false):=hiD (by rw [HR.out,← hH,if_pos (Or.inr (Or.inr rfl))];simp)
      clear hH hgt
      go_upto_region 6 with (fail)
      rw [← hW5]
      clear hW5
      go_wp2_with fail
      go_at_call 24
      refine HTW.out.mono ?_
      rintro e w6 ⟨rfl,hm6⟩
      have HM6:=hiD (HM5.out.trans hm6)
      clear hm6
      go_wp2_with fail
      go_ret
      rw [HF.out]
      exact ⟨rfl,HM6.out⟩
  · obtain rfl:i=n:=by omega
    have hh:headsB [] L=true:=by
        have:=HH.out
        rw [HN.out,List.drop_length] at this
        rw [← this]
        cases L.take L.length <;> rfl
    have HHD:=hiD (heads_of [] L hh)
    have HR2:Hid (R=(L.all (fnB L) && L.any mainP)):=hiD (by rw [HR.out,hh,← HN.out,show decide (i≤12)=true from decide_eq_true H12.out];simp)
    have hpi:¬ (i:Int)<(i:Int):=by omega
    have HM0:=HM
    clear hh HH HM b1 b2 b3
    go_wp2_with fail
    clear b0 hpi
    go_loopw [6,54] (fun _ iv wr=>∃ k:Nat,k≤i∧iv=.int .i64 k∧Hid ((L.take k).all (fnB L)=true)∧Hid (Mods None W wr)) (fun _ iv _=>(i-intOf iv).toNat)
    case atStart=>exact ⟨0,Nat.zero_le _,rfl,hiD (by simp),HM0⟩
    case round =>
        clear HM0
        obtain ⟨k,hk,rfl,HA,HM⟩:=hrel
        obtain ⟨w1,rfl⟩:∃ w1,w1=wr:=⟨_,rfl⟩
        obtain ⟨b0,b1,b2,b3⟩:=HALL.out w1 HM.out
        rw [← HN.out] at b0
        by_cases hlt:k<i
        · have hil:k<L.length:=by have:=HN.out;omega
          obtain ⟨g,o,ta,tc,sa,sc,rfl,c0,c1,c2,c3,hT,hS⟩:=b1.get hil
          obtain ⟨f,hf⟩:∃ f,L[k]?=some f:=⟨_,List.getElem?_eq_getElem hil⟩
          have hfe:L[k]=f:=by
           obtain ⟨h1,h2⟩:=List.getElem?_eq_some_iff.1 hf
           exact h2
          rw [hfe] at c0 c1 c2 c3 hT hS
          obtain ⟨W5,hW5⟩:∃ W5,W5=w1.alloc (.cells #[str f.name,.int .i64 f.params,.slice ta f.types.length tc,.slice sa f.steps.length sc] 55):=⟨_,rfl⟩
          have hm5:Mods None w1 W5:=by rw [hW5];exact (Mods.refl _ _).alloc _
          have hB5:Blk W5 w1.heap.size [str f.name,.int .i64 f.params,.slice ta f.types.length tc,.slice sa f.steps.length sc] 55:=by rw [hW5];exact Blk.new w1 _ _
          have d0:=hB5.cell (i:=0) rfl
          have d1:=hB5.cell (i:=1) rfl
          have d2:=hB5.cell (i:=2) rfl
          have d3:=hB5.cell (i:=3) rfl
          have HM5:=hiD (HM.out.trans hm5)
          obtain ⟨e0,e1,e2,e3⟩:=HALL.out W5 HM5.out
          have HFN:=hiD (function_any L f cb _ (.agg #[str f.name,.int .i64 f.params,.slice ta f.types.length tc,.slice sa f.steps.length sc]) W5 e0 e1 HHD.out ⟨ta,tc,sa,sc,rfl,hT.mods hm5 (fun _ _ k=>k),hS.mods hm5 (fun _ _ k=>k)⟩ e2 e3 (HLAB.out f (List.mem_of_getElem? hf)))
          have hpi:(k:Int)<(i:Int):=by omega
          have htk:(L.take (k+1)).all (fnB L)=((L.take k).all (fnB L) && fnB L f):=by
           rw [List.take_succ_eq_append_getElem hil,List.all_append,hfe]
           simp
          have hmem:f∈L:=List.mem_of_getElem? hf
          obtain ⟨z,hz⟩:∃ z,z=fnB L f:=⟨_,rfl⟩
          rw [← hz] at HFN htk
          have HLE:=hiD (And.intro hlt (And.intro hmem hz))
          have hT0:=htk
          have HTK:=hiD htk
          unfold str at *
          clear hT hS hf hfe hm5 hB5 e0 e1 e2 e3 b1 b2 b3 hil htk hT0 hz hmem hlt
          go_upto_region 12 with (fail)
          rw [← hW5]
          clear hW5
          go_wp2_with fail
          go_at_call 26
          refine HFN.out.mono ?_
          rintro e w6 ⟨rfl,hm6⟩
          have HM6:=hiD (HM5.out.trans hm6)
          clear hm6 HFN
          cases z
          · have HF:Hid (R=false):=hiD (by
             have h1:L.all (fnB L)=false:=by
              rw [List.all_eq_false]
              exact ⟨f,HLE.out.2.1,by rw [← HLE.out.2.2];simp⟩
             rw [HR2.out,h1]
             rfl)
            go_wp2_with fail
            go_ret
            rw [HF.out]
            exact ⟨rfl,HM6.out⟩
          · have HA2:Hid ((L.take (k+1)).all (fnB L)=true):=hiD (by rw [HTK.out,HA.out];rfl)
            have hlt:=HLE.out.1
            go_wp2_with fail
            exact ⟨⟨k+1,by omega,by go_num,HA2,HM6⟩,by simp [intOf];omega⟩
        · obtain rfl:k=i:=by omega
          have hpi:¬ (k:Int)<(k:Int):=by omega
          have hall:L.all (fnB L)=true:=by
           have:=HA.out
           rwa [List.take_of_length_le (by have:=HN.out;omega)] at this
          have HR3:Hid (R=L.any mainP):=hiD (by rw [HR2.out,hall];rfl)
          have HMA:=hiD (has_main L (.slice la k lc) mainP w1 (by rw [← HN.out] at b1;exact b1) (fun j hj w fv hm hv=>main_call _ w fv hv))
          obtain ⟨z,hz⟩:∃ z,z=L.any mainP:=⟨_,rfl⟩
          rw [← hz] at HMA HR3
          clear hz hall b1 b2 b3 HA
          go_wp2_with fail
          go_at_call 24
          refine HMA.out.mono ?_
          rintro e w6 ⟨rfl,hm6⟩
          have HM6:=hiD (HM.out.trans hm6)
          clear hm6
          go_wp2_with fail
          go_ret
          rw [HR3.out]
          exact ⟨rfl,HM6.out⟩
def stepsN:List Fm→Nat
 | []=>0
 | f::r=>f.steps.length+stepsN r
theorem stepsN_take:(L:List Fm)→(i:Nat)→(f:Fm)→L[i]?=some f→stepsN (L.take (i+1))=stepsN (L.take i)+f.steps.length
 | [],i,f,h=>by simp at h
 | a::r,0,f,h=>by
   simp only [List.getElem?_cons_zero,Option.some.injEq] at h
   subst h
   simp [stepsN]
 | a::r,i+1,f,h=>by
   have:=stepsN_take r i f (by simpa using h)
   simp only [List.take_succ_cons,stepsN] at this ⊢
   omega
theorem stepsN_le:(L:List Fm)→(i:Nat)→stepsN (L.take i)≤stepsN L
 | [],i=>by simp [stepsN]
 | a::r,0=>by simp [stepsN]
 | a::r,i+1=>by
   have:=stepsN_le r i
   simp only [List.take_succ_cons,stepsN]
   omega
set_option maxRecDepth 100000 in
set_option maxHeartbeats 1000000 in
theorem steps_any (L:List Fm) (cb:Nat) (lv:Value) (W:World) (hcb:W.cell? ⟨cb,0,none⟩=some lv) (hL:FmsAt W None lv L) (hb:stepsN L≤1000000000) :
 Calls Tryz.prog 18 #[.pointer (some ⟨cb,0,none⟩)] W fun e w=>e=.returned (.int .i64 (stepsN L))∧Mods None W w:=by
 have HALL:=hiD (fun (w:World) (hm:Mods None W w)=>hL.mods hm (fun _ _ k=>k))
 obtain ⟨la,lc,rfl,hlc1,hlc2,-⟩:=hL.form
 obtain ⟨n,hn⟩:∃ n,n=L.length:=⟨_,rfl⟩
 have HN:=hiD hn
 have HB:=hiD hb
 rw [← hn] at hcb hlc1
 clear hL hn hb
 go_enter Tryz.func18,Tryz.ntmps18
 go_wp2_with fail
 clear hcb
 go_loopw [3,5,11] (fun av _ iv wr=>∃ (i m:Nat),i≤n∧iv=.int .i64 i∧av=.int .i64 m∧Hid (m=stepsN (L.take i))∧Hid (Mods None W wr)) (fun _ _ iv _=>(n-intOf iv).toNat)
 case atStart=>exact ⟨0,0,Nat.zero_le _,rfl,rfl,hiD (by simp [stepsN]),hiD (Mods.refl _ _)⟩
 case round =>
  obtain ⟨i,m,hi,rfl,rfl,HS,HM⟩:=hrel
  by_cases hlt:i<n
  · have hil:i<L.length:=by have:=HN.out;omega
    obtain ⟨g,o,ta,tc,sa,sc,rfl,c0,c1,c2,c3,-,-⟩:=(HALL.out wr HM.out).get hil
    obtain ⟨f,hf⟩:∃ f,L[i]?=some f:=⟨_,List.getElem?_eq_getElem hil⟩
    have hfe:L[i]=f:=by
        obtain ⟨h1,h2⟩:=List.getElem?_eq_some_iff.1 hf
        exact h2
    rw [hfe] at c0 c1 c2 c3
    have hst:=stepsN_take L i f hf
    have hle:=stepsN_le L (i+1)
    obtain ⟨sn,hsn⟩:∃ sn,sn=f.steps.length:=⟨_,rfl⟩
    rw [← hsn] at c3 hst
    have hbound:m+sn≤1000000000:=by have h1:=HB.out;have h2:=HS.out;omega
    have HST:Hid (m+sn=stepsN (L.take (i+1))):=hiD (by rw [hst,HS.out])
    have hw:IntKind.i64.wrap ((m:Int)+(sn:Int))=((m+sn:Nat):Int):=by rw [IntWalk.i64_in _ (by omega)];omega
    have hpi:(i:Int)<(n:Int):=by omega
    have HM5:∀ o,Hid (Mods None W (wr.alloc o)):=fun o=>hiD (HM.out.trans ((Mods.refl _ _).alloc _))
    unfold str at *
    clear hf hfe hst hle hsn hil HS
    go_wp2_with fail
    exact ⟨⟨i+1,m+sn,by omega,by go_num,by go_num,HST,HM5 _⟩,by simp [intOf];omega⟩
  · obtain rfl:i=n:=by omega
    have HF:Hid (m=stepsN L):=hiD (by rw [HS.out,HN.out,List.take_length])
    have hpi:¬ (i:Int)<(i:Int):=by omega
    go_wp2_with fail
    go_ret
    rw [HF.out]
    exact ⟨rfl,HM.out⟩
theorem labelAt_last:(A:List Stp)→(x:Stp)→(l:Int)→(i k:Nat)→labelAt (A++[x]) l i k=if x.code=6∧x.label=l then i+A.length else labelAt A l i k
 | [],x,l,i,k=>by simp [labelAt]
 | a::r,x,l,i,k=>by
   simp only [List.cons_append,labelAt,labelAt_last r x l,List.length_cons]
   split
   · omega
   · rfl
theorem labelAt_take {L:List Stp} {i:Nat} {x:Stp} (h:L[i]?=some x) (l:Int):labelAt (L.take (i+1)) l 0 0=if x.code=6∧x.label=l then i else labelAt (L.take i) l 0 0:=by
 obtain ⟨h1,h2⟩:=List.getElem?_eq_some_iff.1 h
 rw [List.take_succ_eq_append_getElem h1,h2,labelAt_last,List.length_take,Nat.min_eq_left (by omega),Nat.zero_add]
theorem mk_labels (w:World):(Instr.makeMap 120 none).run Tryz.prog w=.ok (.map (some w.heap.size)) (w.alloc (.map #[] 0)):=by
 simp [Instr.makeMap,run_underlying Tryz.underlying120]
set_option maxRecDepth 100000 in
set_option maxHeartbeats 2000000 in
theorem labels_any (f:Fm) (fv:Value) (W:World) (hv:FmV W None f fv) (hlab:∀ s∈f.steps,I64 s.label) (hlen:f.steps.length≤6000) :
 Calls Tryz.prog 51 #[fv] W fun e w=>∃ bm n,e=.returned (.map (some bm))∧IntMap w bm n (.int .i64 0) (fun l=>.int .i64 (labelAt f.steps l 0 0))∧W.heap.size≤bm∧n≤6000∧Mods None W w:=by
 obtain ⟨ta,tc,sa,sc,rfl,hT,hS⟩:=hv
 have HALL:=hiD (fun (w:World) (hm:Mods (fun k=>¬ k<W.heap.size) W w)=>(hS.mods (Mods.refl None W) (fun k h1 h2=>(h2 h1).elim)).mods hm (fun k h1 h2=>h2.elim) (T:=None))
 obtain ⟨W2,hW2⟩:∃ W2,W2=W.alloc (.cells #[str f.name,.int .i64 f.params,.slice ta f.types.length tc,.slice sa f.steps.length sc] 55):=⟨_,rfl⟩
 have hm2:Mods None W W2:=by rw [hW2];exact (Mods.refl _ _).alloc _
 have hB2:Blk W2 W.heap.size [str f.name,.int .i64 f.params,.slice ta f.types.length tc,.slice sa f.steps.length sc] 55:=by rw [hW2];exact Blk.new W _ _
 have hs2:W2.heap.size=W.heap.size+1:=by rw [hW2];simp
 have hsl:f.steps.length≤sc∧sc≤9223372036854775807:=by
  obtain ⟨a',c',e1,e2,e3,-⟩:=hS.form
  obtain ⟨-,-,rfl⟩:=Value.slice.inj e1
  exact ⟨e2,e3⟩
 have hmk:=mk_labels
 have HLAB:=hiD hlab
 obtain ⟨sn,hsn⟩:∃ sn,sn=f.steps.length:=⟨_,rfl⟩
 have HN:=hiD hsn
 have HLE:=hiD hlen
 rw [← hsn] at hW2 hB2 hsl
 obtain ⟨tn,htn⟩:∃ tn,tn=f.types.length:=⟨_,rfl⟩
 rw [← htn] at hW2 hB2
 rw [← htn,← hsn]
 have f3:=hB2.cell (i:=3) rfl
 have HB2:=hiD (And.intro hB2 (And.intro hm2 hs2))
 clear hT hS hlab hlen hsn htn hB2 hm2 hs2
 unfold str at *
 go_enter Tryz.func51,Tryz.ntmps51
 go_upto_region 1 with (fail)
 rw [← hW2]
 clear hW2
 go_upto_region 2 with (fail)
 obtain ⟨W4,hW4⟩:∃ W4,W4=W2.alloc (.map #[] 0):=⟨_,rfl⟩
 have HM4:Hid (Mods None W W4):=hiD (HB2.out.2.1.trans (by rw [hW4];exact (Mods.refl _ _).alloc _))
 have HMP:Hid (IntMap W4 W2.heap.size 0 (.int .i64 0) (fun l=>.int .i64 (labelAt (f.steps.take 0) l 0 0))):=hiD (by rw [hW4];exact IntMap.new W2 _)
 have f3:W4.cell? ⟨W.heap.size,3,none⟩=some (.slice sa sn sc):=by rw [hW4];exact ((Mods.refl None W2).alloc _).cellOf f3 (fun f=>f)
 rw [← hW4]
 obtain ⟨bm,hbm⟩:∃ bm,bm=W2.heap.size:=⟨_,rfl⟩
 rw [← hbm] at HMP ⊢
 have HBM:Hid (W.heap.size+1=bm):=hiD (by rw [hbm,HB2.out.2.2])
 clear hW4 hbm hmk
 go_wp2_with fail
 clear f3
 go_loopw [4,5,10] (fun _ _ iv wr=>∃ (i n:Nat),i≤sn∧iv=.int .i64 i∧n≤i∧Hid (IntMap wr bm n (.int .i64 0) (fun l=>.int .i64 (labelAt (f.steps.take i) l 0 0)))∧Hid (Mods (·=bm) W4 wr)) (fun _ _ iv _=>(sn-intOf iv).toNat)
 case atStart=>exact ⟨0,0,Nat.zero_le _,rfl,Nat.le_refl _,HMP,hiD (Mods.refl _ _)⟩
 case round =>
  clear HMP
  obtain ⟨i,n,hi,rfl,hn,HMP,HMW⟩:=hrel
  by_cases hlt:i<sn
  · have hil:i<f.steps.length:=by have:=HN.out;omega
    have hmr:Mods (fun k=>¬ k<W.heap.size) W wr:=(HM4.out.mono fun _ _ f=>f.elim).trans (HMW.out.mono fun k _ e=>by have:=HBM.out;omega)
    obtain ⟨g,o,aa,ac,rfl,hcs,-⟩:=(HALL.out wr hmr).get hil
    obtain ⟨y,hyi⟩:∃ y,f.steps[i]?=some y:=⟨_,List.getElem?_eq_getElem hil⟩
    have hye:f.steps[i]=y:=by
        obtain ⟨h1,h2⟩:=List.getElem?_eq_some_iff.1 hyi
        exact h2
    rw [hye] at hcs
    obtain ⟨c0,c1,c2,c3,c4,c5,c6,c7,c8,c9⟩:=hcs
    have hlb:=HLAB.out y (List.mem_of_getElem? hyi)
    have hpi:(i:Int)<(sn:Int):=by omega
    have hi7:i<6000:=by have:=HN.out;have:=HLE.out;omega
    obtain ⟨an,han⟩:∃ an,an=y.args.length:=⟨_,rfl⟩
    rw [← han] at c9
    have HTK:=hiD (fun l=>labelAt_take hyi l)
    obtain ⟨W5,hW5⟩:∃ W5,W5=wr.alloc (.cells (#[.int .i64 y.code,.int .i64 y.dst,.int .i64 y.a,.int .i64 y.b,.int .i64 y.c,.int .i64 y.n,str y.op,.int .i64 y.label,str y.name,.slice aa an ac]) 57):=⟨_,rfl⟩
    have hm5:Mods None wr W5:=by rw [hW5];exact (Mods.refl _ _).alloc _
    have hB5:Blk W5 wr.heap.size [.int .i64 y.code,.int .i64 y.dst,.int .i64 y.a,.int .i64 y.b,.int .i64 y.c,.int .i64 y.n,str y.op,.int .i64 y.label,str y.name,.slice aa an ac] 57:=by rw [hW5];exact Blk.new wr _ _
    have d0:=hB5.cell (i:=0) rfl
    have d7:=hB5.cell (i:=7) rfl
    have HW5:Hid (Mods (·=bm) W4 W5):=hiD (HMW.out.trans (hm5.mono fun _ _ f=>f.elim))
    obtain ⟨w6,hu,hmp6,hm6⟩:=(HMP.out.mods hm5 (fun f=>f)).put (t:=120) Tryz.underlying120 hlb (.int .i64 i) (by unfold maxLen;omega)
    have HM6:Hid (Mods (·=bm) W4 w6):=hiD (HW5.out.trans hm6)
    unfold str at *
    clear hyi hye han hil hmr
    by_cases h6:y.code=6
    · rw [h6] at d0 c0 hW5
      have HMP2:Hid (IntMap w6 bm (n+1) (.int .i64 0) (fun l=>.int .i64 (labelAt (f.steps.take (i+1)) l 0 0))):=hiD (by
       have e:(fun x=>if x=y.label then Value.int .i64 (i:Int) else Value.int .i64 (labelAt (f.steps.take i) x 0 0))=(fun l=>.int .i64 (labelAt (f.steps.take (i+1)) l 0 0)):=by
          funext l
          rw [HTK.out l]
          by_cases h:l=y.label
          · rw [if_pos h,if_pos ⟨h6,h.symm⟩]
          · rw [if_neg h,if_neg (fun k=>h k.2.symm)]
       rw [e] at hmp6
       exact hmp6)
      have H6:=hiD h6
      clear hmp6 hm6 hB5 hm5 hlb HMP h6
      go_upto_region 5 with (fail)
      rw [← hW5]
      clear hW5
      go_wp2_with fail
      exact ⟨⟨i+1,n+1,by omega,by go_num,by omega,HMP2,HM6⟩,by simp [intOf];omega⟩
    · have h6b:(y.code==6)=false:=by simpa using h6
      have HMP2:Hid (IntMap W5 bm n (.int .i64 0) (fun l=>.int .i64 (labelAt (f.steps.take (i+1)) l 0 0))):=hiD (by
       have e:(fun l=>Value.int .i64 ((labelAt (f.steps.take (i+1)) l 0 0:Nat):Int))=(fun l=>.int .i64 (labelAt (f.steps.take i) l 0 0)):=by
        funext l
        rw [HTK.out l,if_neg (fun k=>h6 k.1)]
       rw [e]
       exact HMP.out.mods hm5 (fun f=>f))
      clear hu hmp6 hm6 hB5 hm5 hlb HMP HM6
      go_upto_region 5 with (fail)
      rw [← hW5]
      clear hW5
      go_wp2_with fail
      exact ⟨⟨i+1,n,by omega,by go_num,by omega,HMP2,HW5⟩,by simp [intOf];omega⟩
  · obtain rfl:i=sn:=by omega
    have hpi:¬ (i:Int)<(i:Int):=by omega
    have HF:Hid (IntMap wr bm n (.int .i64 0) (fun l=>.int .i64 (labelAt f.steps l 0 0))):=hiD (by
        have:=HMP.out
        rwa [List.take_of_length_le (by have:=HN.out;omega)] at this)
    have HNN:=hiD (show n≤6000 by have:=HN.out;have:=HLE.out;omega)
    go_wp2_with fail
    go_ret
    exact ⟨bm,rfl,n,HF.out,by have:=HBM.out;omega,HNN.out,HM4.out.trans' HMW.out (fun k e hlt=>by have:=HBM.out;omega)⟩
theorem strKeys:Keyed Tryz.prog 9:=string_keyed Tryz.underlying9
theorem keyStr {s:List UInt8} (hs:s.length≤maxLen):keyOf Tryz.prog 9 (str s)=some (.string s):=by
 have:=WideMaps.keyOf_string_mk (P:=Tryz.prog) Tryz.underlying9 (s:=⟨s.toArray⟩) (by
  show s.toArray.size≤maxLen
  rw [List.size_toArray]
  exact hs)
 exact this
theorem mods_put (W:World) (g i:Nat) (v:Value):Mods (·=g) W (W.setCell ⟨g,i,none⟩ v):=Mods.setCell (S:=(·=g)) (p:=⟨g,i,none⟩) (Mods.refl _ _) (fun _=>rfl) _
def getL (z:Value):List (List UInt8×Value)→List UInt8→Value
 | [],_=>z
 | p::r,s=>if p.1==s then p.2 else getL z r s
def putL:List (List UInt8×Value)→List UInt8→Value→List (List UInt8×Value)
 | [],s,v=>[(s,v)]
 | p::r,s,v=>if p.1==s then (s,v)::r else p::putL r s v
theorem getL_put (z:Value):(F:List (List UInt8×Value))→(s:List UInt8)→(v:Value)→(x:List UInt8)→getL z (putL F s v) x=if x=s then v else getL z F x
 | [],s,v,x=>by
   simp only [putL,getL,beq_iff_eq]
   by_cases h:x=s
   · subst h;simp
   · rw [if_neg h,if_neg (fun e=>h e.symm)]
 | p::r,s,v,x=>by
   simp only [putL]
   by_cases hp:p.1=s
   · rw [if_pos (by simpa using hp)]
     simp only [getL,beq_iff_eq]
     by_cases h:x=s
     · subst h;simp
     · rw [if_neg h,if_neg (fun e=>h e.symm),if_neg (fun e=>h (e.symm.trans hp))]
   · rw [if_neg (by simpa using hp)]
     simp only [getL,beq_iff_eq]
     by_cases h:p.1=x
     · rw [if_pos h,if_pos h,if_neg]
       rintro rfl
       exact hp h
     · rw [if_neg h,if_neg h,getL_put z r s v x]
def NameMap (W:World) (bm n:Nat) (z:Value) (F:List (List UInt8×Value)):Prop :=
 ∃ D:DataW Value,W.ownsMap Tryz.prog 9 heldR bm n D∧∀ s:List UInt8,D.atKey (.string s) (.held z)=.held (getL z F s)
theorem NameMap.mods {S:Nat→Prop} {W W':World} {bm n:Nat} {z:Value} {F:List (List UInt8×Value)} (h:NameMap W bm n z F) (hm:Mods S W W') (hn:¬ S bm):NameMap W' bm n z F:=by
 obtain ⟨D,⟨es,cl,h1,h2⟩,h3⟩:=h
 exact ⟨D,⟨es,cl,hm.blockOf h1 hn,h2⟩,h3⟩
theorem NameMap.new (W:World) (z:Value):NameMap (W.alloc (.map #[] 0)) W.heap.size 0 z [] :=
 ⟨_,World.ownsMap_made _ _ _ _,fun s=>rfl⟩
theorem NameMap.look {W:World} {bm n:Nat} {z:Value} {F:List (List UInt8×Value)} (h:NameMap W bm n z F) {t e:TypeId} (ht:Tryz.prog.underlying t=some (.map 9 e)) (hz:(zeroValue e).run Tryz.prog W=.ok z W) (s:List UInt8) (hs:s.length≤maxLen) :
 (Instr.lookup t (.map (some bm)) (str s) false).run Tryz.prog W=.ok (getL z F s) W:=by
 obtain ⟨D,h1,h2⟩:=h
 obtain ⟨v,ps,hr,hv⟩:=h1.lookup strKeys ht hz (zd:=.held z) (zp:=[]) rfl (keyStr hs)
 rw [h2 s] at hv
 simp only [heldR,Option.some.injEq,Prod.mk.injEq,DataW.held.injEq] at hv
 rw [hr,hv.1]
theorem NameMap.put {W:World} {bm n:Nat} {z:Value} {F:List (List UInt8×Value)} (h:NameMap W bm n z F) {t e:TypeId} (ht:Tryz.prog.underlying t=some (.map 9 e)) (s:List UInt8) (hs:s.length≤maxLen) (v:Value) (hn:n<maxLen) :
 ∃ w',(Instr.mapUpdate t (.map (some bm)) (str s) v).run Tryz.prog W=.ok () w'∧NameMap w' bm (n+1) z (putL F s v)∧Mods (·=bm) W w':=by
 obtain ⟨D,h1,h2⟩:=h
 obtain ⟨w',hr,ho,hg⟩:=h1.update strKeys ht hn (keyStr hs) (d:=.held v) (ps:=[]) rfl
 refine ⟨w',hr,⟨_,ho,fun x=>?_⟩,Mods.of_grownBy hg (fun k hk _=>by cases hk;rfl)⟩
 rw [getL_put]
 by_cases hx:x=s
 · subst hx
   rw [if_pos rfl,atKey_put_same (k:=.string x) h1.isMap (by trivial)]
 · rw [if_neg hx,atKey_put_other (by simpa using hx),h2 x]
def zeroVal:Value:=.agg #[.int .i64 0,.slice none 0 0]
def zeroFm:Value:=.agg #[.string ⟨#[]⟩,.int .i64 0,.slice none 0 0,.slice none 0 0]
def VAt (A:List (Nat×Nat)) (x:V) (v:Value):Prop :=
 (x.arr=none∧v=.agg #[.int .i64 x.n,.slice none 0 0])∨∃ i g n,x.arr=some i∧A[i]?=some (g,n)∧v=.agg #[.int .i64 x.n,.slice (some ⟨g,0,none⟩) n n]
theorem VAt.more {A A':List (Nat×Nat)} {x:V} {v:Value} (h:VAt A x v) (hA:A <+: A'):VAt A' x v:=by
 rcases h with h|⟨i,g,n,h1,h2,h3⟩
 · exact Or.inl h
 · refine Or.inr ⟨i,g,n,h1,?_,h3⟩
   obtain ⟨t,rfl⟩:=hA
   rw [List.getElem?_append_left (List.getElem?_eq_some_iff.1 h2).1]
   exact h2
def InAt (W:World) (M:Nat→Prop) (v:Value) (l:List Int):Prop :=
 ∃ a n c,v=.slice a n c∧n=l.length∧n≤c∧c≤maxLen∧(∀ i x,l[i]?=some x→∃ g o,a=some ⟨g,o,none⟩∧¬ M g∧W.cell? ⟨g,o+i,none⟩=some (.int .i64 x))
theorem InAt.mods {W W':World} {S T:Nat→Prop} {v:Value} {l:List Int} (h:InAt W S v l) (hm:Mods S W W') (hT:∀ k,k<W.heap.size→T k→S k):InAt W' T v l:=by
 obtain ⟨a,n,c,h1,h2,h3,h4,h5⟩:=h
 refine ⟨a,n,c,h1,h2,h3,h4,fun i x hx=>?_⟩
 obtain ⟨g,o,e1,e2,e3⟩:=h5 i x hx
 exact ⟨g,o,e1,fun ht=>e2 (hT g (World.block_lt_of_cell? W _ e3) ht),hm.cellOf e3 e2⟩
structure RAt (W:World) (b mb:Nat) (L:List Fm) (P M:Nat→Prop) (A:List (Nat×Nat)) (s:RS):Prop where
 blk:∃ iv ov,Blk W b [.map (some mb),iv,.int .i64 s.fuel,.int .i64 s.calls,ov] 62∧InAt W (fun k=>¬ P k) iv s.inp∧W.ownsRow 0 2 1 ov s.out.length (s.out.map (.int .i64))∧(∀ k,ov.ownBlock=some k→M k∧k≠b∧∀ g n,(g,n)∈A→g≠k)
 has:M b
 fns:P mb∧∃ n F,NameMap W mb n zeroFm F∧∀ f x,fmOf L f=some x→FmV W (fun k=>¬ P k) x (getL zeroFm F f)
 arrs:A.length=s.arrs.length
 arr:∀ (i:Nat) (l:List Int),s.arrs[i]?=some l→∃ g,A[i]?=some (g,l.length)∧Blk W g (l.map (.int .i64)) 2∧l.length≤40
 mine:∀ g n,(g,n)∈A→M g∧g≠b
 apart:A.Pairwise (fun x y=>x.1≠y.1)
 old:∀ k,M k→k<W.heap.size
 off:∀ k,M k→¬ P k
 given:∀ k,P k→k<W.heap.size
 few:s.out.length≤200
 calls:s.calls≤40
 fuel:s.fuel≤4000000000000000000
structure Ext (T M M':Nat→Prop) (W W':World):Prop where
 mods:Mods (fun k=>T k∨M k) W W'
 back:∀ k,k<W.heap.size→M' k→M k
theorem Ext.refl (T M:Nat→Prop) (W:World):Ext T M M W W:=⟨Mods.refl _ _,fun _ _ h=>h⟩
theorem Ext.trans {T M M' M'':Nat→Prop} {W W' W'':World} (h:Ext T M M' W W') (k:Ext T M' M'' W' W''):Ext T M M'' W W'' :=
 ⟨h.mods.trans' k.mods (fun i hi hl=>hi.imp id (h.back i hl)),fun i hi hm=>h.back i hi (k.back i (Nat.lt_of_lt_of_le hi h.mods.size) hm)⟩
theorem Ext.more {T T' M M':Nat→Prop} {W W':World} (h:Ext T M M' W W') (hT:∀ k,k<W.heap.size→T k→T' k):Ext T' M M' W W':=⟨h.mods.mono (fun k hk ht=>ht.imp (hT k hk) id),h.back⟩
theorem Ext.aside {T S M:Nat→Prop} {W W':World} (hm:Mods S W W') (hS:∀ k,k<W.heap.size→S k→T k):Ext T M M W W':=⟨hm.mono fun k hk hs=>Or.inl (hS k hk hs),fun _ _ h=>h⟩
theorem Ext.quiet {T M:Nat→Prop} {W W':World} (h:Mods None W W'):Ext T M M W W':=Ext.aside h (fun _ _ f=>f.elim)
theorem RAt.aside {W W':World} {b mb:Nat} {L:List Fm} {P M S:Nat→Prop} {A:List (Nat×Nat)} {s:RS} (h:RAt W b mb L P M A s) (hm:Mods S W W') (hS:∀ k,S k→¬ M k∧¬ P k):RAt W' b mb L P M A s:=by
 have hmP:Mods (fun k=>¬ P k) W W':=hm.mono fun k _ f=>(hS k f).2
 obtain ⟨⟨iv,ov,h1,h2,h3,h4⟩,h5,⟨h7,n,F,h6,h8⟩,h9,h10,h11,h12,h13,h17,h18,h14,h15,h16⟩:=h
 exact ⟨⟨iv,ov,h1.mods hm (fun f=>(hS _ f).1 h5),h2.mods hmP (fun _ _ k=>k),hm.ownsRow h3 (fun k hk f=>(hS _ f).1 (h4 k hk).1),h4⟩,h5,⟨h7,n,F,h6.mods hm (fun f=>(hS _ f).2 h7),fun f x hx=>(h8 f x hx).mods hmP (fun _ _ k=>k)⟩,h9,
  fun i l hl=>by obtain ⟨g,e1,e2,e3⟩:=h10 i l hl;exact ⟨g,e1,e2.mods hm (fun f=>(hS _ f).1 (h11 g _ (List.mem_of_getElem? e1)).1),e3⟩,h11,h12,fun k hk=>Nat.lt_of_lt_of_le (h13 k hk) hm.size,h17,fun k hk=>Nat.lt_of_lt_of_le (h18 k hk) hm.size,h14,h15,h16⟩
theorem RAt.quiet {W W':World} {b mb:Nat} {L:List Fm} {P M:Nat→Prop} {A:List (Nat×Nat)} {s:RS} (h:RAt W b mb L P M A s) (hm:Mods None W W'):RAt W' b mb L P M A s:=h.aside hm (fun _ f=>f.elim)
def endedV (w:Int):Value:=.iface 64 (.agg #[.int .i64 w])
def sigV:Sig→Value
 | .stop w=>endedV w
 | .ret _=>.nilIface
def Old:Type:={ l:List PanicEntry // ∀ x∈l,x.goexit=false }
def Old.nil:Old:=⟨[],fun _ h=>(by cases h)⟩
def Pan (g:Sig) (e:Ending):Prop:=∃ older:Old,e=.panicked ({ v:=sigV g,recovered:=false }::older.1)
theorem RAt.own {W W':World} {b mb:Nat} {L:List Fm} {P M:Nat→Prop} {A:List (Nat×Nat)} {s s':RS} (h:RAt W b mb L P M A s) (hm:Mods (·=b) W W') (ho:s'.out=s.out) (ha:s'.arrs=s.arrs) (hc:s'.calls≤40) (hf:s'.fuel≤4000000000000000000)
 (hb:∀ iv ov,Blk W b [.map (some mb),iv,.int .i64 s.fuel,.int .i64 s.calls,ov] 62→InAt W (fun k=>¬ P k) iv s.inp→∃ iv',Blk W' b [.map (some mb),iv',.int .i64 s'.fuel,.int .i64 s'.calls,ov] 62∧InAt W (fun k=>¬ P k) iv' s'.inp):RAt W' b mb L P M A s':=by
 obtain ⟨⟨iv,ov,h1,h2,h3,h4⟩,h5,⟨h7,n,F,h6,h8⟩,h9,h10,h11,h12,h13,h17,h18,h14,h15,h16⟩:=h
 have hmP:Mods (fun k=>¬ P k) W W':=hm.mono fun k _ hk=>by rw [hk];exact h17 b h5
 obtain ⟨iv',k1,k2⟩:=hb iv ov h1 h2
 refine ⟨⟨iv',ov,k1,k2.mods hmP (fun _ _ k=>k),?_,h4⟩,h5,⟨h7,n,F,h6.mods hm (fun e=>h17 b h5 (e ▸ h7)),fun f x hx=>(h8 f x hx).mods hmP (fun _ _ k=>k)⟩,by rw [ha];exact h9,?_,h11,h12,fun k hk=>Nat.lt_of_lt_of_le (h13 k hk) hm.size,h17,fun k hk=>Nat.lt_of_lt_of_le (h18 k hk) hm.size,by rw [ho];exact h14,hc,hf⟩
 · rw [ho]
   exact hm.ownsRow h3 (fun k hk=>(h4 k hk).2.1)
 · intro i l hl
   rw [ha] at hl
   obtain ⟨g,e1,e2,e3⟩:=h10 i l hl
   exact ⟨g,e1,e2.mods hm (fun e=>(h11 g _ (List.mem_of_getElem? e1)).2 e),e3⟩
theorem RAt.setFuel {W:World} {b mb:Nat} {L:List Fm} {P M:Nat→Prop} {A:List (Nat×Nat)} {s:RS} (h:RAt W b mb L P M A s) (k:Nat) (hk:k≤4000000000000000000):RAt (W.setCell ⟨b,2,none⟩ (.int .i64 k)) b mb L P M A { s with fuel:=k } :=
 h.own (mods_put _ _ _ _) rfl rfl h.calls hk (fun iv ov h1 h2=>⟨iv,h1.set 2 _,h2⟩)
theorem RAt.setCalls {W:World} {b mb:Nat} {L:List Fm} {P M:Nat→Prop} {A:List (Nat×Nat)} {s:RS} (h:RAt W b mb L P M A s) (k:Nat) (hk:k≤40):RAt (W.setCell ⟨b,3,none⟩ (.int .i64 k)) b mb L P M A { s with calls:=k } :=
 h.own (mods_put _ _ _ _) rfl rfl hk h.fuel (fun iv ov h1 h2=>⟨iv,h1.set 3 _,h2⟩)
theorem RAt.ext {W:World} {b mb:Nat} {L:List Fm} {P M:Nat→Prop} {A:List (Nat×Nat)} {s:RS} (h:RAt W b mb L P M A s) (T:Nat→Prop) (i:Nat) (v:Value):Ext T M M W (W.setCell ⟨b,i,none⟩ v) :=
 ⟨(mods_put _ _ _ _).mono (fun k _ hk=>Or.inr (by rw [hk];exact h.has)),fun _ _ k=>k⟩
def Ran {α:Type} (W:World) (b mb:Nat) (L:List Fm) (P T M:Nat→Prop) (A:List (Nat×Nat)) (ok:α→(Nat→Prop)→List (Nat×Nat)→Ending→World→Prop):Except Sig α×RS→Ending→World→Prop
 | (.error g,s)=>fun e w=>Pan g e∧∃ M' A',RAt w b mb L P M' A' s∧Ext T M M' W w∧A <+: A'
 | (.ok x,s)=>fun e w=>∃ M' A',ok x M' A' e w∧RAt w b mb L P M' A' s∧Ext T M M' W w∧A <+: A'
def retN:Int→(Nat→Prop)→List (Nat×Nat)→Ending→World→Prop:=fun n _ _ e _=>e=.returned (.int .i64 n)
end Go.Proofs.YtnicpmoanjddbaaGreatDoor.MidP
namespace Go.Proofs.YtnicpmoanjddbaaGreatDoor.TreeP
set_option linter.unusedSimpArgs false
set_option linter.unusedVariables false
open Go.Joins Go.ChangeShapes Go.WideShapes Go.RowKit Go.Deep
theorem vars_at {P:Program} {w:World}:{l:List (String×DataW Unit)}→{ps:List MemPlace}→DataW.LaidVars P w l ps→{n:String}→{d:DataW Unit}→(n,d)∈l→∃ g t cs fuel p,P.globalNamed n=some g∧(P.globals[g]?).map (·.type)=some t∧w.var? P n=some cs∧DataW.trod (fun _=>()) P w 0 (fun _=>true) false fuel t cs.toList=some (d,p)
 | [],ps,h,n,d,hm=>nomatch hm
 | (n',d')::r,ps,h,n,d,hm=>by
   obtain ⟨g,t,cs,fuel,p,q,h1,h2,h3,h4,h5,_⟩:=h
   rw [List.mem_cons] at hm
   rcases hm with hm|hm
   · cases hm
     exact ⟨g,t,cs,fuel,p,h1,h2,h3,h4⟩
   · exact vars_at h5 hm
theorem gMarks : Tryz.prog.globalNamed "bloomery/tree.marks" = some 3 := by kernel_rfl
theorem gLevels : Tryz.prog.globalNamed "bloomery/tree.levels" = some 4 := by kernel_rfl
theorem gRange : Tryz.prog.globalNamed "strconv.ErrRange" = some 6 := by kernel_rfl
theorem tyMarks:(Tryz.prog.globals[3]?).map (·.type)=some 190∧Tryz.prog.underlying 190=some (.array 24 9)∧Tryz.prog.underlying 9=some .string∧Tryz.prog.cellsOf 9=1:=⟨by kernel_rfl,by kernel_rfl,by kernel_rfl,by kernel_rfl⟩
theorem tyLevels:(Tryz.prog.globals[4]?).map (·.type)=some 237∧Tryz.prog.underlying 237=some (.array 6 187)∧Tryz.prog.underlying 187=some (.slice 9)∧Tryz.prog.cellsOf 187=1:=⟨by kernel_rfl,by kernel_rfl,by kernel_rfl,by kernel_rfl⟩
theorem tyRange:(Tryz.prog.globals[6]?).map (·.type)=some 38:=by kernel_rfl
noncomputable def errorMs:=match Tryz.prog.underlying 38 with|some (.interface ms)=>ms|_=>#[]
theorem uRange:Tryz.prog.underlying 38=some (.interface errorMs):=by kernel_rfl
theorem one_cell {l:List Value} {j:Nat} {v:Value} (h:(l.drop j).take 1=[v]):l[j]?=some v:=by
 have:=congrArg (fun x:List Value=>x[0]?) h
 simpa using this
theorem str_of {s:ByteArray} {m:List UInt8} (h:s.data.toList=m):Value.string s=str m:=by
 unfold str
 rw [← h]
section
variable {W:World} {l:List (String×DataW Unit)} {ps:List MemPlace}
theorem marks_of (h : DataW.LaidVars Tryz.prog W l ps) (hm : ("bloomery/tree.marks", Rows.laid_bloomery_tree_marks) ∈ l) : Marks W := by
 obtain ⟨g,t,cs,fuel,p,h1,h2,h3,h4⟩:=vars_at h hm
 obtain ⟨t1,t2,t3,t4⟩:=tyMarks
 obtain rfl:=Option.some.inj (gMarks.symm.trans h1)
 obtain rfl:=Option.some.inj (t1.symm.trans h2)
 obtain ⟨xs,m,_,hx,hcs,hn,hel⟩:=DataW.trod_array t2 h4
 have hL:xs.map (·.1)=markList.map fun m=>(DataW.lit (.string m):DataW Unit):=by
  have e:(Rows.laid_bloomery_tree_marks:DataW Unit)=.agg (markList.map fun m=>(DataW.lit (.string m):DataW Unit)):=rfl
  rw [e] at hx
  simp only [Prod.mk.injEq,DataW.agg.injEq] at hx
  exact hx.1.symm
 intro i mk hi
 have hlt:i<24:=by
  have:=(List.getElem?_eq_some_iff.1 hi).1
  have h24:markList.length=24:=rfl
  omega
 have h5:=hel i hlt
 rw [t4,Nat.mul_one] at h5
 have h6:(xs.map (·.1))[i]?=some (DataW.lit (.string mk)):=by rw [hL,List.getElem?_map,hi];rfl
 rw [List.getElem?_map] at h6
 cases hxi:xs[i]? with
 | none=>rw [hxi] at h6;cases h6
 | some x =>
   rw [hxi] at h5 h6
   obtain ⟨s,a1,a2,a3⟩:=DataW.trod_string t3 h5
   rw [a2] at h6
   simp only [Option.map_some,Option.some.injEq,DataW.lit.injEq,Lit.string.injEq] at h6
   rw [World.var?_cell h1 h3,← Array.getElem?_toList,one_cell a1,str_of h6]
theorem levels_of (h : DataW.LaidVars Tryz.prog W l ps) (hm : ("bloomery/tree.levels", Rows.laid_bloomery_tree_levels) ∈ l) : Levels W W.heap.size := by
 obtain ⟨g,t,cs,fuel,p,h1,h2,h3,h4⟩:=vars_at h hm
 obtain ⟨t1,t2,t3,t4⟩:=tyLevels
 obtain ⟨_,_,t5,t6⟩:=tyMarks
 obtain rfl:=Option.some.inj (gLevels.symm.trans h1)
 obtain rfl:=Option.some.inj (t1.symm.trans h2)
 obtain ⟨xs,m,_,hx,hcs,hn,hel⟩:=DataW.trod_array t2 h4
 have hL:xs.map (·.1)=levelList.map fun l=>(DataW.slice (l.map fun m=>(DataW.lit (.string m):DataW Unit)) []:DataW Unit):=by
  have e:(Rows.laid_bloomery_tree_levels:DataW Unit)=.agg (levelList.map fun l=>(DataW.slice (l.map fun m=>(DataW.lit (.string m):DataW Unit)) []:DataW Unit)):=rfl
  rw [e] at hx
  simp only [Prod.mk.injEq,DataW.agg.injEq] at hx
  exact hx.1.symm
 have row:∀ (i:Nat) (l:List (List UInt8)),levelList[i]?=some l→∃ p o c,W.cell? ⟨4,i,none⟩=some (.slice (some ⟨p,o,none⟩) l.length c)∧l.length≤c∧c≤100000∧p<W.heap.size∧∀ (j:Nat) (m:List UInt8),l[j]?=some m→W.cell? ⟨p,o+j,none⟩=some (str m):=by
  intro i lv hi
  have hlt:i<6:=by
   have:=(List.getElem?_eq_some_iff.1 hi).1
   have h6:levelList.length=6:=rfl
   omega
  have hpos:0<lv.length∧lv.length≤4:=by
   have:∀ l∈levelList,0<l.length∧l.length≤4:=by decide
   exact this lv (List.mem_of_getElem? hi)
  have h5:=hel i hlt
  rw [t4,Nat.mul_one] at h5
  have h6:(xs.map (·.1))[i]?=some (DataW.slice (lv.map fun m=>(DataW.lit (.string m):DataW Unit)) []:DataW Unit):=by rw [hL,List.getElem?_map,hi];rfl
  rw [List.getElem?_map] at h6
  cases hxi:xs[i]? with
  | none=>rw [hxi] at h6;cases h6
  | some x =>
    rw [hxi] at h5 h6
    rcases DataW.trod_slice t3 h5 with ⟨_,a2⟩|⟨a,len,cap,elems,rest,n,_,a1,a2,a3,a4,a5,a6,a7,a8,_⟩
    · rw [a2] at h6
      simp at h6
    · rw [a2] at h6
      simp only [Option.map_some,Option.some.injEq,DataW.slice.injEq,List.map_eq_nil_iff] at h6
      obtain ⟨e1,rfl⟩:=h6
      obtain ⟨b1,_⟩:=a8 rfl
      have hlen:len=lv.length:=by
       have:=congrArg List.length e1
       simp only [List.length_map] at this
       omega
      subst hlen
      simp only [List.length_nil] at b1
      have cell:∀ (j:Nat) (m:List UInt8),lv[j]?=some m→W.cell? (a.add j)=some (str m):=by
       intro j mm hj
       have hjl:j<lv.length:=(List.getElem?_eq_some_iff.1 hj).1
       have c1:=a7 j hjl
       rw [t6,Nat.mul_one] at c1
       have c2:(elems.map (·.1))[j]?=some (DataW.lit (.string mm)):=by rw [e1,List.getElem?_map,hj];rfl
       rw [List.getElem?_map] at c2
       cases he:elems[j]? with
       | none=>rw [he] at c2;cases c2
       | some y =>
         rw [he] at c1 c2
         rw [Option.bind_eq_some_iff] at c1
         obtain ⟨vs,d1,d2⟩:=c1
         obtain ⟨s,f1,f2,f3⟩:=DataW.trod_string t5 d2
         rw [f2] at c2
         simp only [Option.map_some,Option.some.injEq,DataW.lit.injEq,Lit.string.injEq] at c2
         rw [f1] at d1
         unfold World.cells? at d1
         rw [if_pos (Nat.zero_le _),show List.range 1=[0] from rfl] at d1
         simp only [List.mapM_cons,List.mapM_nil,Option.bind_eq_bind,Option.bind_eq_some_iff,Option.pure_def,Option.some.injEq,List.cons.injEq] at d1
         obtain ⟨v,g1,_,rfl,rfl,_⟩:=d1
         rw [str_of c2] at g1
         simpa [Addr.add] using g1
      obtain ⟨p,o,sp⟩:=a
      have c0:=cell 0 (lv[0]'hpos.1) (List.getElem?_eq_getElem _)
      have hsp:sp=none:=by
       simp only [Addr.add,if_true] at c0
       unfold World.cell? at c0
       split at c0
       · cases sp with
         | none=>rfl
         | some _=>simp at c0
       · cases c0
      subst hsp
      refine ⟨p,o,cap,?_,a4,by omega,?_,?_⟩
      · rw [World.var?_cell h1 h3,← Array.getElem?_toList,one_cell a1]
      · have:=World.block_lt_of_cell? _ _ c0
        simpa [Addr.add] using this
      · intro j mm hj
        have:=cell j mm hj
        cases j with
        | zero=>exact this
        | succ j=>simpa [Addr.add] using this
 obtain ⟨p0,o0,c0,e0,_⟩:=row 0 _ rfl
 exact ⟨World.block_lt_of_cell? _ _ e0,row⟩
theorem iface_of {P:Program} {W:World} {t:TypeId} {ms:_} {fuel:Nat} {cs:List Value} {d:DataW Unit} {p:List MemPlace} (ht:P.underlying t=some (.interface ms)) (h:DataW.trod (fun _=>()) P W 0 (fun _=>true) false fuel t cs=some (d,p)) (hd:d≠.nil):∃ u v,cs=[.iface u v]:=by
 cases fuel with
 | zero=>simp [DataW.trod] at h
 | succ n =>
   unfold DataW.trod at h
   rw [ht] at h
   split at h <;> simp_all
theorem range_of (h : DataW.LaidVars Tryz.prog W l ps) (hm : ("strconv.ErrRange", Rows.laid_strconv_ErrRange) ∈ l) : RangeAt W W.heap.size := by
 obtain ⟨g,t,cs,fuel,p,h1,h2,h3,h4⟩:=vars_at h hm
 obtain rfl:=Option.some.inj (gRange.symm.trans h1)
 obtain rfl:=Option.some.inj (tyRange.symm.trans h2)
 have key:=iface_of uRange h4 (by simp [Rows.laid_strconv_ErrRange])
 obtain ⟨u,v,hc⟩:=key
 have h5:W.cell? ⟨6,0,none⟩=some (.iface u v):=by
  rw [World.var?_cell h1 h3,← Array.getElem?_toList,hc]
  rfl
 exact ⟨World.block_lt_of_cell? _ _ h5,u,v,h5⟩
theorem laid_of_vars (h : DataW.LaidVars Tryz.prog W l ps) (h1 : ("bloomery/tree.marks", Rows.laid_bloomery_tree_marks) ∈ l) (h2 : ("bloomery/tree.levels", Rows.laid_bloomery_tree_levels) ∈ l) (h3 : ("strconv.ErrRange", Rows.laid_strconv_ErrRange) ∈ l) : Laid W :=
 ⟨marks_of h h1,levels_of h h2,range_of h h3⟩
end
end Go.Proofs.YtnicpmoanjddbaaGreatDoor.TreeP
namespace Go.Proofs.YtnicpmoanjddbaaGreatDoor.MidP
set_option linter.unusedSimpArgs false
set_option linter.unusedVariables false
open Go.Joins Go.ChangeShapes Go.WideShapes Go.RowKit Go.Deep
noncomputable def nine : List (String × DataW Unit) := [("math/bits.deBruijn32tab", Rows.laid_math_bits_deBruijn32tab), ("math/bits.deBruijn64tab", Rows.laid_math_bits_deBruijn64tab), ("internal/strconv.uint64pow10", Rows.laid_internal_strconv_uint64pow10), ("bloomery/mid.ops", Rows.laid_bloomery_mid_ops), ("bloomery/mid.forms", Rows.laid_bloomery_mid_forms), ("strconv.ErrRange", Rows.laid_strconv_ErrRange), ("strconv.ErrSyntax", Rows.laid_strconv_ErrSyntax), ("bloomery/tree.marks", Rows.laid_bloomery_tree_marks), ("bloomery/tree.levels", Rows.laid_bloomery_tree_levels)]
theorem nums_in {W:World} {v:Value} {l:List Int} (h:Wo.NumsAt W v l):InAt W Wo.None v l∧∀ n c,v=.slice none n c→c=0:=by
 obtain ⟨a,n,c,rfl,h1,h2,h3,h4,-,h5⟩:=h
 refine ⟨⟨a,n,c,rfl,h1,h2,h3,fun i x hx=>?_⟩,fun n' c' e=>?_⟩
 · obtain ⟨g,o,e1,e2⟩:=h5 i x hx
   exact ⟨g,o,e1,fun f=>f,e2⟩
 · obtain ⟨e1,-,e2⟩:=Value.slice.inj e
   rw [← e2]
   exact h4 e1
end Go.Proofs.YtnicpmoanjddbaaGreatDoor.MidP

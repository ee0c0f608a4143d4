/- The two tables of the steps, as the rows list them, lie as the walks want them; and so they lie behind the door's own run. Which functions of steps may be a program's. Conditions: what it reads lies. -/
import Derived.Test.YtnicpmoanjddbaaGreatDoorRows
import Derived.Test.YtnicpmoanjddbaaGreatDoorMs09
import Derived.ProofKit
import Derived.LaidMore
import Derived.OpenShut
import Derived.Stop.Joined
import Derived.Lib.SmallJoins
import Derived.Lib.LaidTab
namespace Go.Proofs.YtnicpmoanjddbaaGreatDoor.MidP
set_option linter.unusedSimpArgs false
set_option linter.unusedVariables false
open Go.Joins Go.ChangeShapes Go.WideShapes Go.RowKit Go.Deep
theorem vars_at {P:Program} {w:World}:{l:List (String×DataW Unit)}→{ps:List MemPlace}→DataW.LaidVars P w l ps→{n:String}→{d:DataW Unit}→(n,d)∈l→∃ g t cs fuel p,P.globalNamed n=some g∧(P.globals[g]?).map (·.type)=some t∧w.var? P n=some cs∧DataW.trod (fun _=>()) P w 0 (fun _=>true) false fuel t cs.toList=some (d,p)
 | [],ps,h,n,d,hm=>nomatch hm
 | (n',d')::r,ps,h,n,d,hm=>by
   obtain ⟨g,t,cs,fuel,p,q,h1,h2,h3,h4,h5,_⟩:=h
   rw [List.mem_cons] at hm
   rcases hm with hm|hm
   · cases hm
     exact ⟨g,t,cs,fuel,p,h1,h2,h3,h4⟩
   · exact vars_at h5 hm
theorem gOps : Tryz.prog.globalNamed "bloomery/mid.ops" = some 2 := by kernel_rfl
theorem gForms : Tryz.prog.globalNamed "bloomery/mid.forms" = some 1 := by kernel_rfl
theorem tyOps:(Tryz.prog.globals[2]?).map (·.type)=some 188∧Tryz.prog.underlying 188=some (.array 11 9)∧Tryz.prog.underlying 9=some .string∧Tryz.prog.cellsOf 9=1:=⟨by kernel_rfl,by kernel_rfl,by kernel_rfl,by kernel_rfl⟩
theorem tyForms:(Tryz.prog.globals[1]?).map (·.type)=some 185∧Tryz.prog.underlying 185=some (.array 15 184)∧Tryz.prog.underlying 184=some (.array 4 3)∧Tryz.prog.underlying 3=some (.int .i64)∧Tryz.prog.cellsOf 184=4∧Tryz.prog.cellsOf 3=1:=⟨by kernel_rfl,by kernel_rfl,by kernel_rfl,by kernel_rfl,by kernel_rfl,by kernel_rfl⟩
theorem one_cell {l:List Value} {j:Nat} {v:Value} (h:(l.drop j).take 1=[v]):l[j]?=some v:=by
 have:=congrArg (fun x:List Value=>x[0]?) h
 simpa using this
theorem four_cell {l:List Value} {i j:Nat} {v:Value} (hj:j<4) (h:((l.drop i).take 4)[j]?=some v):l[i+j]?=some v:=by
 rw [List.getElem?_take_of_lt hj,List.getElem?_drop] at h
 exact h
theorem str_of {s:ByteArray} {m:List UInt8} (h:s.data.toList=m):Value.string s=str m:=by
 unfold str
 rw [← h]
section
variable {W:World} {l:List (String×DataW Unit)} {ps:List MemPlace}
theorem ops_of (h : DataW.LaidVars Tryz.prog W l ps) (hm : ("bloomery/mid.ops", Rows.laid_bloomery_mid_ops) ∈ l) : OpsAt W := by
 obtain ⟨g,t,cs,fuel,p,h1,h2,h3,h4⟩:=vars_at h hm
 obtain ⟨t1,t2,t3,t4⟩:=tyOps
 obtain rfl:=Option.some.inj (gOps.symm.trans h1)
 obtain rfl:=Option.some.inj (t1.symm.trans h2)
 obtain ⟨xs,m,_,hx,hcs,hn,hel⟩:=DataW.trod_array t2 h4
 have hL:xs.map (·.1)=opList.map fun m=>(DataW.lit (.string m):DataW Unit):=by
  have e:(Rows.laid_bloomery_mid_ops:DataW Unit)=.agg (opList.map fun m=>(DataW.lit (.string m):DataW Unit)):=rfl
  rw [e] at hx
  simp only [Prod.mk.injEq,DataW.agg.injEq] at hx
  exact hx.1.symm
 intro i mk hi
 have hlt:i<11:=by
  have:=(List.getElem?_eq_some_iff.1 hi).1
  have h24:opList.length=11:=rfl
  omega
 have h5:=hel i hlt
 rw [t4,Nat.mul_one] at h5
 have h6:(xs.map (·.1))[i]?=some (DataW.lit (.string mk)):=by rw [hL,List.getElem?_map,hi];rfl
 rw [List.getElem?_map] at h6
 cases hxi:xs[i]? with
 | none=>rw [hxi] at h6;cases h6
 | some x =>
   rw [hxi] at h5 h6
   obtain ⟨s,a1,a2,a3⟩:=DataW.trod_string t3 h5
   rw [a2] at h6
   simp only [Option.map_some,Option.some.injEq,DataW.lit.injEq,Lit.string.injEq] at h6
   rw [World.var?_cell h1 h3,← Array.getElem?_toList,one_cell a1,str_of h6]
def formRows:List (List Int):=[[0,0,0,0],[1,0,0,0],[0,0,0,0],[1,1,1,0],[0,0,0,0],[0,1,0,0],[0,0,0,0],[0,0,0,0],[0,1,0,0],[2,1,0,0],[1,2,0,0],[1,2,1,0],[0,2,1,1],[0,1,0,0],[1,0,0,0]]
theorem formRow (c:Nat) (h:c≤14):formRows[c]?=some (formsP (c:Int))∧(formsP (c:Int)).length=4:=by
 match c,h with
 | 0,_=>exact ⟨by decide,by decide⟩
 | 1,_=>exact ⟨by decide,by decide⟩
 | 2,_=>exact ⟨by decide,by decide⟩
 | 3,_=>exact ⟨by decide,by decide⟩
 | 4,_=>exact ⟨by decide,by decide⟩
 | 5,_=>exact ⟨by decide,by decide⟩
 | 6,_=>exact ⟨by decide,by decide⟩
 | 7,_=>exact ⟨by decide,by decide⟩
 | 8,_=>exact ⟨by decide,by decide⟩
 | 9,_=>exact ⟨by decide,by decide⟩
 | 10,_=>exact ⟨by decide,by decide⟩
 | 11,_=>exact ⟨by decide,by decide⟩
 | 12,_=>exact ⟨by decide,by decide⟩
 | 13,_=>exact ⟨by decide,by decide⟩
 | 14,_=>exact ⟨by decide,by decide⟩
theorem forms_of (h : DataW.LaidVars Tryz.prog W l ps) (hm : ("bloomery/mid.forms", Rows.laid_bloomery_mid_forms) ∈ l) : FormsAt W := by
 obtain ⟨g,t,cs,fuel,p,h1,h2,h3,h4⟩:=vars_at h hm
 obtain ⟨t1,t2,t3,t4,t5,t6⟩:=tyForms
 obtain rfl:=Option.some.inj (gForms.symm.trans h1)
 obtain rfl:=Option.some.inj (t1.symm.trans h2)
 obtain ⟨xs,m,_,hx,hcs,hn,hel⟩:=DataW.trod_array t2 h4
 have hL:xs.map (·.1)=formRows.map fun r=>(DataW.agg (r.map fun n=>(DataW.lit (.int .i64 n):DataW Unit)):DataW Unit):=by
  have e:(Rows.laid_bloomery_mid_forms:DataW Unit)=.agg (formRows.map fun r=>(DataW.agg (r.map fun n=>(DataW.lit (.int .i64 n):DataW Unit)):DataW Unit)):=rfl
  rw [e] at hx
  simp only [Prod.mk.injEq,DataW.agg.injEq] at hx
  exact hx.1.symm
 intro c i hc hi
 have h5:=hel c (by omega)
 rw [t5] at h5
 obtain ⟨hr,hlen⟩:=formRow c hc
 obtain ⟨fr,hfr⟩:∃ fr,fr=formsP (c:Int):=⟨_,rfl⟩
 rw [← hfr] at hr hlen ⊢
 have h6:(xs.map (·.1))[c]?=some (DataW.agg (fr.map fun n=>(DataW.lit (.int .i64 n):DataW Unit)):DataW Unit):=by rw [hL,List.getElem?_map,hr];rfl
 rw [List.getElem?_map] at h6
 cases hxi:xs[c]? with
 | none=>rw [hxi] at h6;cases h6
 | some x =>
   rw [hxi] at h5 h6
   simp only [Option.map_some,Option.some.injEq] at h6
   obtain ⟨ys,m2,_,hy,hcs2,hn2,hel2⟩:=DataW.trod_array t3 h5
   rw [hy] at h6
   simp only [DataW.agg.injEq] at h6
   have h7:=hel2 i (by omega)
   rw [t6,Nat.mul_one] at h7
   have h8:(ys.map (·.1))[i]?=some (DataW.lit (.int .i64 (fr.getD i 0))):=by
    rw [h6,List.getElem?_map,List.getD_eq_getElem?_getD,List.getElem?_eq_getElem (by omega)]
    rfl
   rw [List.getElem?_map] at h8
   cases hyi:ys[i]? with
   | none=>rw [hyi] at h8;cases h8
   | some y =>
     rw [hyi] at h7 h8
     obtain ⟨n0,a0,b0,_⟩:=DataW.trod_int t4 h7
     rw [b0] at h8
     simp only [Option.map_some,Option.some.injEq,DataW.lit.injEq,Lit.int.injEq,true_and] at h8
     rw [World.var?_cell h1 h3,← Array.getElem?_toList,← h8]
     exact four_cell hi (one_cell a0)
end
end Go.Proofs.YtnicpmoanjddbaaGreatDoor.MidP
namespace Go.Proofs.YtnicpmoanjddbaaGreatDoor.MidP
open Go.RowKit Go.Proofs.YtnicpmoanjddbaaGreatDoor.Wo Go.Maps Go.Proofs.YtnicpmoanjddbaaGreatDoor.TreeP
set_option linter.unusedVariables false
set_option linter.unusedSimpArgs false
set_option maxRecDepth 100000 in
set_option maxHeartbeats 1000000 in
theorem index_steps (L:List Stp) (v:Value) (q1:Nat) (q2:Nat) (q3:Nat) (p:Stp→Bool) (W:World) (hL:StpsAt W None v L)
 (hK:∀ (i:Nat) (hi:i<L.length) (w:World) (fv:Value),Mods None W w→StpV w None L[i] fv→Calls Tryz.prog 57 #[fv,.pointer (some ⟨q1,0,none⟩),.pointer (some ⟨q2,0,none⟩),.pointer (some ⟨q3,0,none⟩)] w fun e w'=>e=.returned (.bool (p L[i]))∧Mods None w w') :
 Calls Tryz.prog 85 #[v,.func (.func 57) #[] #[.pointer (some ⟨q1,0,none⟩),.pointer (some ⟨q2,0,none⟩),.pointer (some ⟨q3,0,none⟩)]] W fun e w=>e=.returned (.int .i64 (optI (L.findIdx? p)))∧Mods None W w:=by
 obtain ⟨a,c,rfl,hnc,hcm,h0⟩:=hL.form
 have HL:=hiD hL
 have HK:=hiD hK
 obtain ⟨n,hn⟩:∃ n,n=L.length:=⟨_,rfl⟩
 rw [← hn] at hnc h0 ⊢
 have HN:=hiD hn
 clear hn hL hK
 go_enter Tryz.func85,Tryz.ntmps85
 go_wp2_with fail
 go_loopw [5,8] (fun _ iv wr=>∃ i:Nat,i≤n∧iv=.int .i64 i∧Hid ((L.take i).findIdx? p=none)∧Hid (Mods None W wr)) (fun _ iv _=>(n-intOf iv).toNat)
 case atStart=>exact ⟨0,Nat.zero_le _,rfl,hiD (by simp),hiD (Mods.refl _ _)⟩
 case round =>
  obtain ⟨i,hi,rfl,HI,HM⟩:=hrel
  by_cases hlt:i<n
  · have hil:i<L.length:=by have:=HN.out;omega
    have HIL:=hiD hil
    obtain ⟨g,o,aa,ac,rfl,hcs,hT⟩:=(HL.out.mods HM.out (fun _ _ k=>k)).get hil
    obtain ⟨c0,c1,c2,c3,c4,c5,c6,c7,c8,c9⟩:=hcs
    have hpi:(i:Int)<(n:Int):=by omega
    have HT:=hiD (findIdx_take HI.out (List.getElem?_eq_getElem hil))
    have HE:=hiD (HK.out i hil wr _ HM.out ⟨aa,ac,rfl,hT⟩)
    clear hT
    generalize L[i]=x at *
    clear hil
    obtain ⟨b,hb⟩:∃ b,b=p x:=⟨_,rfl⟩
    rw [← hb] at HE HT
    clear hb
    unfold stpL str at *
    go_wp2_with fail
    go_at_call 57
    refine HE.out.mono ?_
    rintro e w1 ⟨rfl,hm1⟩
    have HM1:=hiD (HM.out.trans hm1)
    clear hm1
    cases b
    · have HT2:Hid ((L.take (i+1)).findIdx? p=none):=hiD (by rw [HT.out];rfl)
      go_wp2_with fail
      exact ⟨⟨i+1,by omega,by go_num,HT2,HM1⟩,by simp [intOf];omega⟩
    · have HT2:Hid (L.findIdx? p=some i):=hiD (findIdx_more (i:=i+1) (by rw [HT.out];rfl))
      go_wp2_with fail
      go_ret
      rw [HT2.out]
      exact ⟨rfl,HM1.out⟩
  · obtain rfl:i=n:=by omega
    have HF:Hid (L.findIdx? p=none):=hiD (by
        have:=HI.out
        rwa [List.take_of_length_le (by have:=HN.out;omega)] at this)
    go_wp2_with fail
    go_ret
    rw [HF.out]
    exact ⟨rfl,HM.out⟩
theorem has_steps (L:List Stp) (v:Value) (q1:Nat) (q2:Nat) (q3:Nat) (p:Stp→Bool) (W:World) (hL:StpsAt W None v L)
 (hK:∀ (i:Nat) (hi:i<L.length) (w:World) (fv:Value),Mods None W w→StpV w None L[i] fv→Calls Tryz.prog 57 #[fv,.pointer (some ⟨q1,0,none⟩),.pointer (some ⟨q2,0,none⟩),.pointer (some ⟨q3,0,none⟩)] w fun e w'=>e=.returned (.bool (p L[i]))∧Mods None w w') :
 Calls Tryz.prog 56 #[v,.func (.func 57) #[] #[.pointer (some ⟨q1,0,none⟩),.pointer (some ⟨q2,0,none⟩),.pointer (some ⟨q3,0,none⟩)]] W fun e w=>e=.returned (.bool (L.any p))∧Mods None W w:=by
 have H:=hiD (index_steps L v q1 q2 q3 p W hL hK)
 obtain ⟨a,c,rfl,hnc,hcm,h0⟩:=hL.form
 rw [← optI_some]
 clear hL hK h0 hnc hcm
 generalize optI (L.findIdx? p)=k at *
 go_enter Tryz.func56,Tryz.ntmps56
 go_wp2_with fail
 go_at_call 85
 refine H.out.mono ?_
 rintro e w1 ⟨rfl,hm1⟩
 go_wp2_with fail
 go_ret
 exact ⟨rfl,hm1⟩
theorem right_any (L:List Fm) (f:Fm) (s:Stp) (cb bm mn:Nat) (lv:Value) (ta sa aa:Option Addr) (tc sc ac:Nat) (W:World)
 (hcb:W.cell? ⟨cb,0,none⟩=some lv) (hL:FmsAt W None lv L) (hH:Heads L)
 (hT:IntsAt W None (.slice ta f.types.length tc) f.types) (hA:IntsAt W None (.slice aa s.args.length ac) s.args) (hFo:FormsAt W) (hOp:OpsAt W) (hlab:I64 s.label) (hmap:IntMap W bm mn (.bool false) (fun l=>.bool (hasLabel f l))) :
 Calls Tryz.prog 58 #[.pointer (some ⟨cb,0,none⟩),.agg #[str f.name,.int .i64 f.params,.slice ta f.types.length tc,.slice sa f.steps.length sc],.agg (stpL s (.slice aa s.args.length ac)).toArray,.map (some bm)] W fun e w=>e=.returned (.bool (rightB L f s))∧Mods None W w:=by
 by_cases h2:s.code=2
 · exact right_copy L f s cb bm ta sa aa tc sc ac W h2 hT
 · by_cases h7:s.code=7
   · exact right_call L f s cb bm lv ta sa aa tc sc ac W h7 hcb hL hH hT hA
   · exact right_else L f s cb bm mn ta sa aa tc sc ac W h2 h7 hT hFo hOp hlab hmap
structure Asks (L:List Fm) (f:Fm) (q1 q2 q3 cb bm mn:Nat) (lv:Value) (ta sa:Option Addr) (tc sc:Nat) (W:World):Prop where
 c1:Blk W q1 [.pointer (some ⟨cb,0,none⟩)] 26
 c2:Blk W q2 [str f.name,.int .i64 f.params,.slice ta f.types.length tc,.slice sa f.steps.length sc] 55
 c3:Blk W q3 [.map (some bm)] 128
 cb_:W.cell? ⟨cb,0,none⟩=some lv
 fns:FmsAt W None lv L
 heads:Heads L
 types:IntsAt W None (.slice ta f.types.length tc) f.types
 forms:FormsAt W
 ops:OpsAt W
 map:IntMap W bm mn (.bool false) (fun l=>.bool (hasLabel f l))
theorem Asks.mods {L:List Fm} {f:Fm} {q1 q2 q3 cb bm mn:Nat} {lv:Value} {ta sa:Option Addr} {tc sc:Nat} {W w:World} (h:Asks L f q1 q2 q3 cb bm mn lv ta sa tc sc W) (hm:Mods None W w):Asks L f q1 q2 q3 cb bm mn lv ta sa tc sc w :=
 ⟨h.c1.mods hm (fun f=>f),h.c2.mods hm (fun f=>f),h.c3.mods hm (fun f=>f),hm.cellOf h.cb_ (fun f=>f),h.fns.mods hm (fun _ _ k=>k),h.heads,h.types.mods hm (fun _ _ k=>k),h.forms.mods hm,h.ops.mods hm,h.map.mods hm (fun f=>f)⟩
set_option maxRecDepth 100000 in
set_option maxHeartbeats 1000000 in
theorem ask_step {L:List Fm} {f:Fm} {q1 q2 q3 cb bm mn:Nat} {lv:Value} {ta sa:Option Addr} {tc sc:Nat} {W:World} (h:Asks L f q1 q2 q3 cb bm mn lv ta sa tc sc W) (s:Stp) (fv:Value) (hv:StpV W None s fv) (hlab:I64 s.label) :
 Calls Tryz.prog 57 #[fv,.pointer (some ⟨q1,0,none⟩),.pointer (some ⟨q2,0,none⟩),.pointer (some ⟨q3,0,none⟩)] W fun e w=>e=.returned (.bool (!rightB L f s))∧Mods None W w:=by
 obtain ⟨aa,ac,rfl,hA⟩:=hv
 obtain ⟨W1,hW1⟩:∃ W1,W1=W.alloc (.cells (stpL s (.slice aa s.args.length ac)).toArray 57):=⟨_,rfl⟩
 have hm:Mods None W W1:=by rw [hW1];exact (Mods.refl _ _).alloc _
 have h1:=h.mods hm
 have hB:Blk W1 W.heap.size (stpL s (.slice aa s.args.length ac)) 57:=by
  rw [hW1]
  have:=Blk.new W (stpL s (.slice aa s.args.length ac)).toArray 57
  simpa using this
 have HC:=hiD (right_any L f s cb bm mn lv ta sa aa tc sc ac W1 h1.cb_ h1.fns h1.heads h1.types (hA.mods hm (fun _ _ k=>k)) h1.forms h1.ops hlab h1.map)
 have k1:=h1.c1.cell (i:=0) rfl
 have k20:=h1.c2.cell (i:=0) rfl
 have k21:=h1.c2.cell (i:=1) rfl
 have k22:=h1.c2.cell (i:=2) rfl
 have k23:=h1.c2.cell (i:=3) rfl
 have k3:=h1.c3.cell (i:=0) rfl
 have s0:=hB.cell (i:=0) rfl
 have s1:=hB.cell (i:=1) rfl
 have s2:=hB.cell (i:=2) rfl
 have s3:=hB.cell (i:=3) rfl
 have s4:=hB.cell (i:=4) rfl
 have s5:=hB.cell (i:=5) rfl
 have s6:=hB.cell (i:=6) rfl
 have s7:=hB.cell (i:=7) rfl
 have s8:=hB.cell (i:=8) rfl
 have s9:=hB.cell (i:=9) rfl
 have HM:=hiD hm
 clear h h1 hm hB hA hlab
 unfold stpL str at *
 go_enter Tryz.func57,Tryz.ntmps57
 go_upto_region 1 with (fail)
 rw [← hW1]
 clear hW1
 go_wp2_with fail
 go_at_call 58
 refine HC.out.mono ?_
 rintro e w ⟨rfl,hm2⟩
 go_wp2_with fail
 go_ret
 exact ⟨rfl,HM.out.trans hm2⟩
theorem ask_type (x:Int) (w:World):Calls Tryz.prog 55 #[.int .i64 x] w fun e w'=>e=.returned (.bool (!(x==1 || x==2)))∧Mods None w w':=by
 by_cases h1:x=1
 · subst h1
   go_enter Tryz.func55,Tryz.ntmps55
   go_wp2_with fail
   go_ret
   exact ⟨rfl,Mods.refl _ _⟩
 · by_cases h2:x=2
   · subst h2
     go_enter Tryz.func55,Tryz.ntmps55
     go_wp2_with fail
     go_ret
     exact ⟨rfl,Mods.refl _ _⟩
   · have e1:(x==1)=false:=by simpa using h1
     have e2:(x==2)=false:=by simpa using h2
     have n1:(x != 1)=true:=by simpa using h1
     have n2:(x != 2)=true:=by simpa using h2
     rw [e1,e2]
     go_enter Tryz.func55,Tryz.ntmps55
     go_wp2_with fail
     go_ret
     exact ⟨rfl,Mods.refl _ _⟩
theorem fnB_eq (L:List Fm) (f:Fm):fnB L f=(decide (f.types.length≤3000) && decide (1≤f.steps.length) && decide (f.steps.length≤6000) && (match f.steps.getLast? with|some s=>s.code==8 || s.code==4|none=>false) && f.types.all (fun t=>t==1 || t==2) && onceB [] f.steps && f.steps.all (rightB L f)):=rfl
theorem any_take {α:Type} {l:List α} {i:Nat} {x:α} (h:l[i]?=some x) (p:α→Bool):(l.take (i+1)).any p=((l.take i).any p || p x):=by
 obtain ⟨h1,h2⟩:=List.getElem?_eq_some_iff.1 h
 rw [List.take_succ_eq_append_getElem h1,List.any_append,h2]
 simp
theorem drop_one {α:Type} {l:List α} {i:Nat} {x:α} (h:l[i]?=some x):l.drop i=x::l.drop (i+1):=by
 obtain ⟨h1,h2⟩:=List.getElem?_eq_some_iff.1 h
 rw [← h2]
 exact List.drop_eq_getElem_cons h1
theorem mk_ints (w:World):(Instr.makeMap 128 none).run Tryz.prog w=.ok (.map (some w.heap.size)) (w.alloc (.map #[] 0)):=by
 simp [Instr.makeMap,run_underlying Tryz.underlying128]
set_option maxRecDepth 100000 in
set_option maxHeartbeats 8000000 in
theorem function_any (L:List Fm) (f:Fm) (cb:Nat) (lv fv:Value) (W:World) (hcb:W.cell? ⟨cb,0,none⟩=some lv) (hL:FmsAt W None lv L) (hH:Heads L) (hv:FmV W None f fv) (hFo:FormsAt W) (hOp:OpsAt W) (hlab:∀ s∈f.steps,I64 s.label) :
 Calls Tryz.prog 26 #[.pointer (some ⟨cb,0,none⟩),fv] W fun e w=>e=.returned (.bool (fnB L f))∧Mods None W w:=by
 obtain ⟨ta,tc,sa,sc,rfl,hT,hS⟩:=hv
 obtain ⟨R,hR⟩:∃ R,R=fnB L f:=⟨_,rfl⟩
 have HR:=hiD (hR.trans (fnB_eq L f))
 rw [← hR]
 obtain ⟨W2,hW2⟩:∃ W2,W2=((W.alloc (.cells #[.pointer (some ⟨cb,0,none⟩)] 26)).alloc (.cells #[str f.name,.int .i64 f.params,.slice ta f.types.length tc,.slice sa f.steps.length sc] 55)):=⟨_,rfl⟩
 have hm2:Mods None W W2:=by rw [hW2];exact ((Mods.refl _ _).alloc _).alloc _
 have hB1:Blk W2 W.heap.size [.pointer (some ⟨cb,0,none⟩)] 26:=by rw [hW2];exact (Blk.new W _ _).alloc _
 have hB2:Blk W2 (W.heap.size+1) [str f.name,.int .i64 f.params,.slice ta f.types.length tc,.slice sa f.steps.length sc] 55:=by
  rw [hW2]
  have:=Blk.new (W.alloc (.cells #[.pointer (some ⟨cb,0,none⟩)] 26)) #[str f.name,.int .i64 f.params,.slice ta f.types.length tc,.slice sa f.steps.length sc] 55
  simpa using this
 have HT:=hiD (hT.mods hm2 (fun _ _ k=>k))
 have HS:=hiD (hS.mods hm2 (fun _ _ k=>k))
 have HB:=hiD (And.intro hB1 hB2)
 have HM2:=hiD hm2
 have HX:=hiD (And.intro (hm2.cellOf hcb (fun f=>f)) (And.intro (hL.mods hm2 (fun _ _ k=>k)) (And.intro hH (And.intro (hFo.mods hm2) (And.intro (hOp.mods hm2) hlab)))))
 have f2:=hB2.cell (i:=2) rfl
 have f3:=hB2.cell (i:=3) rfl
 have HALL:=hiD (fun (w:World) (hm:Mods (fun k=>¬ k<W.heap.size) W w)=>(⟨hm.cellOf hcb (fun k=>k (World.block_lt_of_cell? W _ hcb)),(hL.mods (Mods.refl None W) (fun k h1 h2=>(h2 h1).elim)).mods hm (fun _ _ f=>f.elim),(hT.mods (Mods.refl None W) (fun k h1 h2=>(h2 h1).elim)).mods hm (fun _ _ f=>f.elim),(hS.mods (Mods.refl None W) (fun k h1 h2=>(h2 h1).elim)).mods hm (fun _ _ f=>f.elim),fun c i hc hi=>hm.cellOf (hFo c i hc hi) (fun k=>k (World.block_lt_of_cell? W _ (hFo c i hc hi))),fun i x hx=>hm.cellOf (hOp i x hx) (fun k=>k (World.block_lt_of_cell? W _ (hOp i x hx)))⟩:w.cell? ⟨cb,0,none⟩=some lv∧FmsAt w None lv L∧IntsAt w None (.slice ta f.types.length tc) f.types∧StpsAt w None (.slice sa f.steps.length sc) f.steps∧FormsAt w∧OpsAt w))
 have HLAB:=hiD hlab
 have HHH:=hiD hH
 obtain ⟨_,_,hf,-,hsc,-⟩:=hS.form
 obtain ⟨-,-,rfl⟩:=Value.slice.inj hf
 obtain ⟨tn,htn⟩:∃ tn,tn=f.types.length:=⟨_,rfl⟩
 obtain ⟨sn,hsn⟩:∃ sn,sn=f.steps.length:=⟨_,rfl⟩
 have HTN:=hiD (And.intro htn hsn)
 rw [← htn] at f2 hW2
 rw [← hsn] at f3 hW2
 rw [← htn,← hsn]
 have hsl:sn≤sc:=by
  obtain ⟨a',c',e1,e2,-⟩:=hS.form
  obtain ⟨-,-,rfl⟩:=Value.slice.inj e1
  omega
 clear hm2 hB1 hB2 hcb hL hH hT hS hFo hOp hlab hR htn hsn hf
 unfold str at *
 go_enter Tryz.func26,Tryz.ntmps26
 go_upto_region 1 with (fail)
 rw [← hW2]
 clear hW2
 by_cases h1:3000<tn
 · have h1':(3000:Int)<(tn:Int):=by omega
   have HF:Hid (R=false):=hiD (by rw [HR.out,← HTN.out.1,show decide (tn≤3000)=false from decide_eq_false (by omega)];rfl)
   go_wp2_with fail
   go_ret
   rw [HF.out]
   exact ⟨rfl,HM2.out⟩
 have h1':¬ (3000:Int)<(tn:Int):=by omega
 by_cases h2:sn=0
 · have HF:Hid (R=false):=hiD (by rw [HR.out,← HTN.out.2,h2];simp)
   subst h2
   go_wp2_with fail
   go_ret
   rw [HF.out]
   exact ⟨rfl,HM2.out⟩
 obtain ⟨m,rfl⟩:∃ m,sn=m+1:=⟨sn-1,by omega⟩
 have h2':(((m+1:Nat):Int)==0)=false:=by simp;omega
 by_cases h3:6000<m+1
 · have h3':(6000:Int)<((m+1:Nat):Int):=by omega
   have HF:Hid (R=false):=hiD (by rw [HR.out,← HTN.out.2,show decide (m+1≤6000)=false from decide_eq_false (by omega)];simp)
   go_wp2_with fail
   go_ret
   rw [HF.out]
   exact ⟨rfl,HM2.out⟩
 have h3':¬ (6000:Int)<((m+1:Nat):Int):=by omega
 have g2:((m:Int)+1==0)=false:=by simp;omega
 have g3:decide ((6000:Int)<(m:Int)+1)=false:=decide_eq_false (by omega)
 have hml:m<f.steps.length:=by have:=HTN.out.2;omega
 obtain ⟨g,o,aa,ac,rfl,hcl,-⟩:=HS.out.get hml
 obtain ⟨x,hx⟩:∃ x,f.steps[m]?=some x:=⟨f.steps[m],List.getElem?_eq_getElem hml⟩
 have hlast:f.steps.getLast?=some x:=by rw [List.getLast?_eq_getElem?,← HTN.out.2];exact hx
 have hxe:f.steps[m]=x:=by
  obtain ⟨h1,h2⟩:=List.getElem?_eq_some_iff.1 hx
  exact h2
 rw [hxe] at hcl
 have c0:=hcl.1
 have HL4:Hid (R=(decide (tn≤3000) && decide (1≤m+1) && decide (m+1≤6000) && (x.code==8 || x.code==4) && f.types.all (fun t=>t==1 || t==2) && onceB [] f.steps && f.steps.all (rightB L f))):=hiD (by rw [HR.out,hlast,← HTN.out.1,← HTN.out.2])
 have hw:IntKind.i64.wrap (((m+1:Nat):Int)-1)=(m:Int):=by rw [IntWalk.i64_in _ (by omega)];omega
 have hw2:((m+1:Nat):Int)-1=(m:Int):=by omega
 have hmm:(m:Int)<((m+1:Nat):Int):=by omega
 have hm0:(0:Int)≤(m:Int):=by omega
 clear hx hlast hxe hcl hml
 by_cases h8:x.code≠8∧x.code≠4
 · have n8:(x.code != 8)=true:=by simpa using h8.1
   have n4:(x.code != 4)=true:=by simpa using h8.2
   have HF:Hid (R=false):=hiD (by rw [HL4.out,show (x.code==8)=false by simpa using h8.1,show (x.code==4)=false by simpa using h8.2];simp)
   clear h8
   go_wp2_with fail
   go_ret
   rw [HF.out]
   exact ⟨rfl,HM2.out⟩
 obtain ⟨b,hb⟩:∃ b,b=f.types.any (fun x=>!(x==1 || x==2)):=⟨_,rfl⟩
 have hT2:=HT.out
 rw [← HTN.out.1] at hT2
 have HCT:=hiD (has_types f.types (.slice ta tn tc) (fun x=>!(x==1 || x==2)) W2 hT2 (fun i hi w fv hm hfv=>by subst hfv;exact ask_type _ _))
 rw [← hb] at HCT
 have HBB:Hid (f.types.all (fun t=>t==1 || t==2) = !b):=hiD (by rw [hb,List.any_eq_not_all_not];simp)
 have HL5:Hid (R=(!b && onceB [] f.steps && f.steps.all (rightB L f))):=hiD (by
  rw [HL4.out,HBB.out,show decide (tn≤3000)=true from decide_eq_true (by omega),show decide (1≤m+1)=true from decide_eq_true (by omega),show decide (m+1≤6000)=true from decide_eq_true (by omega),show (x.code==8 || x.code==4)=true by
   by_cases e8:x.code=8
   · simp [e8]
   · have e4:x.code=4:=Classical.byContradiction (fun e4=>h8 ⟨e8,e4⟩)
     simp [e4]]
  simp)
 clear hb hT2
 have hcase:(x.code != 8)=false∨((x.code != 8)=true∧(x.code != 4)=false):=by
  by_cases e8:x.code=8
  · exact Or.inl (by simp [e8])
  · have e4:x.code=4:=Classical.byContradiction (fun e4=>h8 ⟨e8,e4⟩)
    exact Or.inr ⟨by simp [e4],by simp [e4]⟩
 clear h8
 have hmk:=mk_ints
 have HN:=hiD (show m+1≤6000 by omega)
 rcases hcase with n8|⟨n8,n4⟩
 all_goals
  go_wp2_with fail
  go_at_call 54
  refine HCT.out.mono ?_
  rintro e w1 ⟨rfl,hm1⟩
  have HM1:=hiD (HM2.out.trans hm1)
  have HB1:=hiD (And.intro (HB.out.1.mods hm1 (fun f=>f)) (HB.out.2.mods hm1 (fun f=>f)))
  have HS1:=hiD (HS.out.mods hm1 (fun _ _ k=>k))
  have HT1:=hiD (HT.out.mods hm1 (fun _ _ k=>k))
  have HX1:=hiD (And.intro (hm1.cellOf HX.out.1 (fun f=>f)) (And.intro (HX.out.2.1.mods hm1 (fun _ _ k=>k)) (And.intro HX.out.2.2.1 (And.intro (HX.out.2.2.2.1.mods hm1) (And.intro (HX.out.2.2.2.2.1.mods hm1) HX.out.2.2.2.2.2)))))
  have f3:=HB1.out.2.cell (i:=3) rfl
  rw [← HTN.out.2] at f3
  clear hm1 HCT c0
  cases b
  case true =>
   have HF:Hid (R=false):=hiD (by rw [HL5.out];rfl)
   go_wp2_with fail
   go_ret
   rw [HF.out]
   exact ⟨rfl,HM1.out⟩
  case false =>
   have HL6:Hid (R=(onceB [] f.steps && f.steps.all (rightB L f))):=hiD (by rw [HL5.out];rfl)
   go_upto_region 5 with (fail)
   obtain ⟨W4,hW4⟩:∃ W4,W4=((w1.alloc (.map #[] 0)).alloc (.cells #[.map (some w1.heap.size)] 128)):=⟨_,rfl⟩
   have hm4:Mods None w1 W4:=by rw [hW4];exact ((Mods.refl _ _).alloc _).alloc _
   have HM4:=hiD (HM1.out.trans hm4)
   have HQ3:Hid (Blk W4 (w1.heap.size+1) [.map (some w1.heap.size)] 128):=hiD (by
        rw [hW4]
        have:=Blk.new (w1.alloc (.map #[] 0)) #[.map (some w1.heap.size)] 128
        simpa using this)
   have HMP:Hid (IntMap W4 w1.heap.size 0 (.bool false) (fun l=>.bool (([]:List Int).contains l))):=hiD (by
        rw [hW4]
        exact (IntMap.new w1 _).mods ((Mods.refl None _).alloc _) (fun f=>f))
   have HB4:=hiD (And.intro (HB1.out.1.mods hm4 (fun f=>f)) (HB1.out.2.mods hm4 (fun f=>f)))
   have HS4:=hiD (HS1.out.mods hm4 (fun _ _ k=>k))
   have HT4:=hiD (HT1.out.mods hm4 (fun _ _ k=>k))
   have HX4:=hiD (And.intro (hm4.cellOf HX1.out.1 (fun f=>f)) (And.intro (HX1.out.2.1.mods hm4 (fun _ _ k=>k)) (And.intro HX1.out.2.2.1 (And.intro (HX1.out.2.2.2.1.mods hm4) (And.intro (HX1.out.2.2.2.2.1.mods hm4) HX1.out.2.2.2.2.2)))))
   rw [← hW4]
   obtain ⟨bm,hbm⟩:∃ bm,bm=w1.heap.size:=⟨_,rfl⟩
   have HBE:Hid (bm=w1.heap.size):=hiD hbm
   have HBM:Hid (W.heap.size+2≤bm):=hiD (by have h1:=HB1.out.2.lt;rw [hbm];omega)
   rw [← hbm] at HQ3 HMP ⊢
   have f3:=HB4.out.2.cell (i:=3) rfl
   rw [← HTN.out.2] at f3
   clear hW4 hm4 hbm HB1 HS1 HT1 HX1 hmk
   go_wp2_with fail
   clear f3
   go_loopw [8,53] (fun _ iv wr=>∃ (i n:Nat) (T:List Int),i≤m+1∧iv=.int .i64 i∧n≤i∧Hid (onceB T (f.steps.drop i)=onceB [] f.steps)∧Hid (IntMap wr bm n (.bool false) (fun l=>.bool (T.contains l)))∧Hid (∀ l,T.contains l=(f.steps.take i).any (fun s=>s.code==6 && s.label==l))∧Hid (Mods (·=bm) W4 wr)) (fun _ iv _=>(m+1-intOf iv).toNat)
   case atStart=>exact ⟨0,0,[],Nat.zero_le _,rfl,Nat.le_refl _,hiD rfl,HMP,hiD (fun l=>by simp),hiD (Mods.refl _ _)⟩
   case round =>
        clear HMP
        obtain ⟨i,k,T,hi,rfl,hk,HO,HMP,HTT,HMW⟩:=hrel
        have q3:=(HQ3.out.mods HMW.out (by omega)).cell (i:=0) rfl
        by_cases hlt:i<m+1
        · have hil:i<f.steps.length:=by have:=HTN.out.2;omega
          have hmr:Mods (fun k=>¬ k<W.heap.size) W wr:=(HM4.out.mono fun _ _ f=>f.elim).trans (HMW.out.mono fun k _ e=>by have:=HBM.out;omega)
          obtain ⟨g',o',aa',ac',e,hcs,hargs⟩:=(HALL.out wr hmr).2.2.2.1.get hil
          obtain ⟨rfl,rfl⟩:g=g'∧o=o':=by simpa using e
          obtain ⟨y,hy⟩:∃ y,y=f.steps[i]:=⟨_,rfl⟩
          have hyi:f.steps[i]?=some y:=by rw [hy];exact List.getElem?_eq_getElem hil
          rw [← hy] at hcs hargs
          obtain ⟨c0,c1,c2,c3,c4,c5,c6,c7,c8,c9⟩:=hcs
          have hlb:=HLAB.out y (List.mem_of_getElem? hyi)
          have hpi:(i:Int)<((m:Int)+1):=by omega
          have hpi2:(i:Int)<((m+1:Nat):Int):=by omega
          have hi7:i<6000:=by have:=HN.out;omega
          obtain ⟨an,han⟩:∃ an,an=y.args.length:=⟨_,rfl⟩
          rw [← han] at c9
          clear hy han
          obtain ⟨W5,hW5⟩:∃ W5,W5=wr.alloc (.cells (#[.int .i64 y.code,.int .i64 y.dst,.int .i64 y.a,.int .i64 y.b,.int .i64 y.c,.int .i64 y.n,str y.op,.int .i64 y.label,str y.name,.slice aa' an ac']) 57):=⟨_,rfl⟩
          have hm5:Mods None wr W5:=by rw [hW5];exact (Mods.refl _ _).alloc _
          have hB5:Blk W5 wr.heap.size [.int .i64 y.code,.int .i64 y.dst,.int .i64 y.a,.int .i64 y.b,.int .i64 y.c,.int .i64 y.n,str y.op,.int .i64 y.label,str y.name,.slice aa' an ac'] 57:=by rw [hW5];exact Blk.new wr _ _
          have d0:=hB5.cell (i:=0) rfl
          have d7:=hB5.cell (i:=7) rfl
          have q3:=hm5.cellOf q3 (fun f=>f)
          have HW5:Hid (Mods (·=bm) W4 W5):=hiD (HMW.out.trans (hm5.mono fun _ _ f=>f.elim))
          have hdr:=drop_one hyi
          have hO:=HO.out
          rw [hdr] at hO
          simp only [onceB] at hO
          have hany:=fun l=>any_take hyi (fun s=>s.code==6 && s.label==l)
          have hlk:=(HMP.out.mods hm5 (fun f=>f)).look (t:=128) Tryz.underlying128 (bool_look _) hlb
          obtain ⟨w6,hu,hmp6,hm6⟩:=(HMP.out.mods hm5 (fun f=>f)).put (t:=128) Tryz.underlying128 hlb (.bool true) (by unfold maxLen;omega)
          have HM6:Hid (Mods (·=bm) W4 w6):=hiD (HW5.out.trans hm6)
          unfold str at *
          by_cases h6:y.code=6
          · rw [if_pos h6] at hO
            rw [h6] at d0 c0 hW5
            by_cases hc:T.contains y.label=true
            · rw [if_pos hc] at hO
              have HF:Hid (R=false):=hiD (by rw [HL6.out,← hO];rfl)
              rw [hc] at hlk
              have HMF:Hid (Mods None W W5):=hiD (HM4.out.trans' HW5.out (fun k e hlt=>by have:=HBM.out;omega))
              clear hO hu hmp6 hm6 HM6 hB5 hm5 hdr hargs hlb
              go_upto_region 8 with (fail)
              rw [← hW5]
              clear hW5
              go_wp2_with fail
              go_ret
              rw [HF.out]
              exact ⟨rfl,HMF.out⟩
            · rw [if_neg hc] at hO
              have hc2:T.contains y.label=false:=by simpa using hc
              rw [hc2] at hlk
              have HO2:Hid (onceB (T++[y.label]) (f.steps.drop (i+1))=onceB [] f.steps):=hiD hO
              have HMP2:Hid (IntMap w6 bm (k+1) (.bool false) (fun l=>.bool ((T++[y.label]).contains l))):=hiD (by
                have e:(fun x=>if x=y.label then Value.bool true else Value.bool (T.contains x))=(fun l=>.bool ((T++[y.label]).contains l)):=by
                  funext l
                  by_cases h:l=y.label
                  · rw [if_pos h];simp [h]
                  · rw [if_neg h];simp [h]
                rw [e] at hmp6
                exact hmp6)
              have HTT2:Hid (∀ l,(T++[y.label]).contains l=(f.steps.take (i+1)).any (fun s=>s.code==6 && s.label==l)):=hiD (fun l=>by
                rw [hany l,← HTT.out l]
                by_cases h:l=y.label
                · simp [h6,h]
                · have h9:(y.label==l)=false:=by simpa using fun e=>h e.symm
                  rw [h9]
                  simp [h])
              clear hO hmp6 hm6 hB5 hm5 hdr hargs hlb hc hc2 HO HMP HTT hany
              go_upto_region 8 with (fail)
              rw [← hW5]
              clear hW5
              go_wp2_with fail
              exact ⟨⟨i+1,k+1,T++[y.label],by omega,by go_num,by omega,HO2,HMP2,HTT2,HM6⟩,by simp [intOf];omega⟩
          · rw [if_neg h6] at hO
            have h6b:(y.code==6)=false:=by simpa using h6
            have HO2:Hid (onceB T (f.steps.drop (i+1))=onceB [] f.steps):=hiD hO
            have HMP2:=hiD (HMP.out.mods hm5 (fun f=>f))
            have HTT2:Hid (∀ l,T.contains l=(f.steps.take (i+1)).any (fun s=>s.code==6 && s.label==l)):=hiD (fun l=>by
             rw [hany l,← HTT.out l,h6b]
             simp)
            clear hO hmp6 hm6 hB5 hm5 hdr hargs hlb hu HM6 HO HMP HTT hany hlk
            go_upto_region 8 with (fail)
            rw [← hW5]
            clear hW5
            go_wp2_with fail
            exact ⟨⟨i+1,k,T,by omega,by go_num,by omega,HO2,HMP2,HTT2,HW5⟩,by simp [intOf];omega⟩
        · obtain rfl:i=m+1:=by omega
          have hmr:Mods (fun k=>¬ k<W.heap.size) W wr:=(HM4.out.mono fun _ _ f=>f.elim).trans (HMW.out.mono fun k _ e=>by have:=HBM.out;omega)
          obtain ⟨a1,a2,a3,a4,a5,a6⟩:=HALL.out wr hmr
          have hd:f.steps.drop (m+1)=[]:=by rw [HTN.out.2];exact List.drop_length
          have hon:onceB [] f.steps=true:=by
           have:=HO.out
           rw [hd] at this
           rw [← this]
           rfl
          have hmap:IntMap wr bm k (.bool false) (fun l=>.bool (hasLabel f l)):=by
           have e:(fun l=>Value.bool (T.contains l))=(fun l=>.bool (hasLabel f l)):=by
            funext l
            rw [HTT.out l,List.take_of_length_le (by have:=HTN.out.2;omega)]
            rfl
           rw [← e]
           exact HMP.out
          have hwb:Mods (·=bm) W4 wr:=HMW.out
          have hask:Asks L f W.heap.size (W.heap.size+1) (bm+1) cb bm k lv ta (some ⟨g,o,none⟩) tc sc wr:=⟨HB4.out.1.mods hwb (by have:=HBM.out;omega),HB4.out.2.mods hwb (by have:=HBM.out;omega),HQ3.out.mods hwb (by omega),a1,a2,HHH.out,a3,a5,a6,hmap⟩
          have HHS:=hiD (has_steps f.steps (.slice (some ⟨g,o,none⟩) f.steps.length sc) W.heap.size (W.heap.size+1) (bm+1) (fun s=>!rightB L f s) wr a4 (fun i hi w fv hm hfv=>ask_step (hask.mods hm) f.steps[i] fv hfv (HLAB.out _ (List.getElem_mem hi))))
          have HRS:Hid (R = !(f.steps.any (fun s=>!rightB L f s))):=hiD (by rw [HL6.out,hon,List.any_eq_not_all_not];simp)
          obtain ⟨z,hz⟩:∃ z,z=f.steps.any (fun s=>!rightB L f s):=⟨_,rfl⟩
          rw [← hz] at HHS HRS
          clear hz
          have hB2:=HB4.out.2.mods hwb (by have:=HBM.out;omega)
          have f3:=hB2.cell (i:=3) rfl
          have hmf:∀ (fn:Go.Fn) (first cap:Array Value) (w:World),(Instr.makeFunc fn first cap).run Tryz.prog w=.ok (.func fn first cap) w:=fun _ _ _ _=>rfl
          have HMF:Hid (Mods None W wr):=hiD (HM4.out.trans' HMW.out (fun k e hlt=>by have:=HBM.out;omega))
          rw [← HTN.out.2] at HHS f3
          have hpi:¬ ((m:Int)+1<(m:Int)+1):=by omega
          clear a1 a2 a3 a4 a5 a6 hd hon hmap hask hB2 hwb q3
          go_wp2_with fail
          go_at_call 56
          refine HHS.out.mono ?_
          rintro e w9 ⟨rfl,hm9⟩
          have HM9:=hiD (HMF.out.trans hm9)
          go_wp2_with fail
          go_ret
          rw [HRS.out]
          exact ⟨rfl,HM9.out⟩
end Go.Proofs.YtnicpmoanjddbaaGreatDoor.MidP

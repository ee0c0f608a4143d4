/- What Run does behind the call: how it ended is told. Conditions: what it has lies. Run: how a program ends. Conditions: what it is given lies; its functions are right. -/
import Derived.Test.YtnicpmoanjddbaaGreatDoorMs29
import Derived.Test.YtnicpmoanjddbaaGreatDoorMs07
import Derived.Test.YtnicpmoanjddbaaGreatDoorMs25
import Derived.Laws.AppendOwnNone
import Derived.Lib.MinMax
namespace Go.Proofs.YtnicpmoanjddbaaGreatDoor.TreeP
open Go.RowKit Go.Proofs.YtnicpmoanjddbaaGreatDoor.Wo
set_option linter.unusedVariables false
set_option linter.unusedSimpArgs false
theorem is_ended (v:Value) (w:World):Sem.run Tryz.prog (Instr.typeAssert (.iface 113 v) 20 113 true) w=.ok (.tuple #[v,.bool true]) w:=by
 simp [Instr.typeAssert,run_underlying Tryz.underlying113]
set_option maxRecDepth 100000 in
theorem end_idle (q6 q7 b:Nat) (w1 w2:Int) (oa:Option Addr) (on oc:Nat) (u:Value) (w:World) (h6:Blk w q6 [.int .i64 w1,.int .i64 w2,u] 31) (h7:w.cell? ⟨q7,0,none⟩=some (.pointer (some ⟨b,0,none⟩))) (hb:w.cell? ⟨b,4,none⟩=some (.slice oa on oc)) :
 CallsD Tryz.prog 44 #[.pointer (some ⟨q6,0,none⟩),.pointer (some ⟨q7,0,none⟩)] .returning w fun e u' w'=>e=.returned (.tuple #[])∧u'=.returning∧Blk w' q6 [.int .i64 w1,.int .i64 w2,.slice oa on oc] 31∧Mods (·=q6) w w':=by
 have f6:=h6.free 2
 have c6:=h6.cell (i:=2) rfl
 have H6:=hiD h6
 clear h6
 refine callsD_of_wpS Tryz.func44 rfl fun c₀ cs hu=>?_
 apply wpS_seq
 apply wpS_seq
 apply wpS_region
 simp [wpOpsS,go_sem,recoverD,hu,Tryz.ntmps44,Exit.thenS]
 refine wpS_of_wp ?_
 rw [show (#[Value.pointer (some ⟨q6,0,none⟩),.pointer (some ⟨q7,0,none⟩)]++((Array.replicate 22 undef).setIfInBounds 3 (.nilIface)).setIfInBounds 0 (.nilIface):Array Value)=#[Value.pointer (some ⟨q6,0,none⟩),.pointer (some ⟨q7,0,none⟩),.nilIface,undef,undef,.nilIface,undef,undef,undef,undef,undef,undef,undef,undef,undef,undef,undef,undef,undef,undef,undef,undef,undef,undef] from by kernel_rfl]
 go_wp2
 simp only [Exit.thenS]
 refine wpS_of_wp ?_
 go_wp2
 clear f6 c6 h7 hb
 cases c₀
 simp_all [bodyPostS,results,Tryz.results44]
 exact ⟨H6.out.set 2 (.slice oa on oc),mods_put _ _ _ _⟩
set_option maxRecDepth 100000 in
theorem end_stop (q6 q7 b:Nat) (n w1 w2:Int) (oa:Option Addr) (on oc:Nat) (u:Value) (older:List PanicEntry) (w:World) (h6:Blk w q6 [.int .i64 w1,.int .i64 w2,u] 31) (h7:w.cell? ⟨q7,0,none⟩=some (.pointer (some ⟨b,0,none⟩))) (hb:w.cell? ⟨b,4,none⟩=some (.slice oa on oc)) (h76:q7≠q6) (hb6:b≠q6) :
 CallsD Tryz.prog 44 #[.pointer (some ⟨q6,0,none⟩),.pointer (some ⟨q7,0,none⟩)] (.panicking ({ v:=endedV n,recovered:=false }::older)) w fun e u' w'=>e=.returned (.tuple #[])∧u'=.panicking ({ v:=endedV n,recovered:=true }::older)∧Blk w' q6 [.int .i64 n,.int .i64 0,.slice oa on oc] 31∧Mods (·=q6) w w':=by
 have f0:=h6.free 0
 have f1:=h6.free 1
 have f2:=h6.free 2
 have c0:=h6.cell (i:=0) rfl
 have c1:=h6.cell (i:=1) rfl
 have c2:=h6.cell (i:=2) rfl
 have l6:=h6.lt
 have l7:=World.block_lt_of_cell? w _ h7
 have lb:=World.block_lt_of_cell? w _ hb
 simp only at l7 lb
 have H6:=hiD h6
 clear h6
 refine callsD_of_wpS Tryz.func44 rfl fun c₀ cs hu=>?_
 apply wpS_seq
 apply wpS_seq
 apply wpS_region
 unfold endedV at hu
 simp [wpOpsS,go_sem,recoverD,hu,Tryz.ntmps44,Exit.thenS]
 refine wpS_of_wp ?_
 rw [show (#[Value.pointer (some ⟨q6,0,none⟩),.pointer (some ⟨q7,0,none⟩)]++((Array.replicate 22 undef).setIfInBounds 3 (.iface 113 (.agg #[.int .i64 n]))).setIfInBounds 0 (.iface 113 (.agg #[.int .i64 n])):Array Value)=#[Value.pointer (some ⟨q6,0,none⟩),.pointer (some ⟨q7,0,none⟩),.iface 113 (.agg #[.int .i64 n]),undef,undef,.iface 113 (.agg #[.int .i64 n]),undef,undef,undef,undef,undef,undef,undef,undef,undef,undef,undef,undef,undef,undef,undef,undef,undef,undef] from by kernel_rfl]
 have hta:=is_ended (.agg #[.int .i64 n]) w
 have n6:q6≠w.heap.size:=by omega
 have n7:q7≠w.heap.size:=by omega
 have nb:b≠w.heap.size:=by omega
 go_wp2
 simp only [Exit.thenS]
 refine wpS_of_wp ?_
 go_wp2
 clear f0 f1 f2 c0 c1 c2 hta h7 hb
 cases c₀
 simp_all [bodyPostS,results,Tryz.results44,endedV]
 exact ⟨((((H6.out.set 0 (.int .i64 n)).set 1 (.int .i64 0)).set 2 (.slice none 0 0)).set 2 (.slice oa on oc)).alloc _,((((mods_put _ _ _ _).trans (mods_put _ _ _ _)).trans (mods_put _ _ _ _)).trans (mods_put _ _ _ _)).alloc _⟩
theorem run_done {R:Ending→World→Prop} {tmps:Array Value} {q6 q7 b:Nat} {w1 w2:Int} {oa:Option Addr} {on oc:Nat} {u:Value} {w:World} (h6:tmps[6]?.getD undef=.pointer (some ⟨q6,0,none⟩)) (hB:Blk w q6 [.int .i64 w1,.int .i64 w2,u] 31) (h7:w.cell? ⟨q7,0,none⟩=some (.pointer (some ⟨b,0,none⟩))) (hb:w.cell? ⟨b,4,none⟩=some (.slice oa on oc))
 (hR:∀ w',Blk w' q6 [.int .i64 w1,.int .i64 w2,.slice oa on oc] 31→Mods (·=q6) w w'→R (.returned (.agg #[.int .i64 w1,.int .i64 w2,.slice oa on oc])) w') :
 Leaves Tryz.prog Tryz.f17 tmps R [{ target:=Target.fn (Go.Fn.func 44) #[.pointer (some ⟨q6,0,none⟩),.pointer (some ⟨q7,0,none⟩)],args:=#[] }] .returning w:=by
 refine leaves_cons (f:=44) (args:=#[.pointer (some ⟨q6,0,none⟩),.pointer (some ⟨q7,0,none⟩)]) (by simp) (by simp [go_sem]) ?_
 refine (end_idle q6 q7 b w1 w2 oa on oc u w hB h7 hb).mono ?_
 rintro e u' w' ⟨rfl,rfl,hB',hm⟩
 have hr:=results_cell_row (P:=Tryz.prog) Tryz.results17 tmps w' q6 _ _ _ _ (by simpa using h6) hB' Tryz.underlying31 rfl (by kernel_rfl)
 have HR:=hiD (hR w' hB' hm)
 clear hR hB' hm
 show Leaves _ _ _ _ [] .returning w'
 unfold Leaves
 exact ⟨_,hr,HR.out⟩
theorem run_stop {R:Ending→World→Prop} {tmps:Array Value} {q6 q7 b:Nat} {n w1 w2:Int} {oa:Option Addr} {on oc:Nat} {u:Value} {w:World} (older:Old) (h6:tmps[6]?.getD undef=.pointer (some ⟨q6,0,none⟩)) (hB:Blk w q6 [.int .i64 w1,.int .i64 w2,u] 31) (h7:w.cell? ⟨q7,0,none⟩=some (.pointer (some ⟨b,0,none⟩))) (hb:w.cell? ⟨b,4,none⟩=some (.slice oa on oc)) (h76:q7≠q6) (hb6:b≠q6)
 (hR:∀ w',Blk w' q6 [.int .i64 n,.int .i64 0,.slice oa on oc] 31→Mods (·=q6) w w'→R (.returned (.agg #[.int .i64 n,.int .i64 0,.slice oa on oc])) w') :
 Leaves Tryz.prog Tryz.f17 tmps R [{ target:=Target.fn (Go.Fn.func 44) #[.pointer (some ⟨q6,0,none⟩),.pointer (some ⟨q7,0,none⟩)],args:=#[] }] (.panicking ({ v:=endedV n,recovered:=false }::older.1)) w:=by
 refine leaves_cons (f:=44) (args:=#[.pointer (some ⟨q6,0,none⟩),.pointer (some ⟨q7,0,none⟩)]) (by simp) (by simp [go_sem]) ?_
 refine (end_stop q6 q7 b n w1 w2 oa on oc u older.1 w hB h7 hb h76 hb6).mono ?_
 rintro e u' w' ⟨rfl,rfl,hB',hm⟩
 have hr:=results_cell_row (P:=Tryz.prog) Tryz.results17 tmps w' q6 _ _ _ _ (by simpa using h6) hB' Tryz.underlying31 rfl (by kernel_rfl)
 have HR:=hiD (hR w' hB' hm)
 have ho:=old_none older
 clear hR hB' hm
 have hs:settle (FrameMode.panicking ({ v:=endedV n,recovered:=true }::older.1))=.returning:=by simp [settle,ho]
 show Leaves _ _ _ _ [] (settle (FrameMode.panicking ({ v:=endedV n,recovered:=true }::older.1))) w'
 rw [hs]
 unfold Leaves
 exact ⟨_,hr,HR.out⟩
def EndV (W:World) (x:Int×Int×List Int) (v:Value):Prop:=∃ oa oc,v=.agg #[.int .i64 x.1,.int .i64 x.2.1,.slice oa x.2.2.length oc]∧InAt W None (.slice oa x.2.2.length oc) x.2.2∧x.2.2.length≤200∧(oa=none→oc=0)
theorem in_of_row {W:World} {S:Nat→Prop} {B:Nat} {v:Value} {l:List Int} (h:W.ownsRow B 2 1 v l.length (l.map (.int .i64))) (hS:∀ k,v.ownBlock=some k→¬ S k):InAt W S v l:=by
 obtain ⟨a,c,rfl,h1,h2,h3⟩:=ownsRow_slice h
 refine ⟨a,_,c,rfl,rfl,h1,h2,fun i x hx=>?_⟩
 obtain ⟨g,e1,e2,e3⟩:=h3 i (.int .i64 x) (by rw [List.getElem?_map,hx];rfl)
 exact ⟨g,0,e1,hS g e2,by simpa using e3⟩
theorem mk_fns (w:World):(Instr.makeMap 109 none).run Tryz.prog w=.ok (.map (some w.heap.size)) (w.alloc (.map #[] 0)):=by
 simp [Instr.makeMap,run_underlying Tryz.underlying109]
theorem int64_info:(Tryz.prog.info? 2).map (fun i=>(i.zero,i.size,i.bytes))=some (some (.int .i64 0),1,8):=by kernel_rfl
theorem own_C (W:World):(W.alloc (.cells #[] 2)).ownsRow W.heap.size 2 1 (.slice (some ⟨W.heap.size,0,none⟩) 0 0) 0 [] :=
 World.ownsRow_made (base:=W.heap.size) (e:=2) (size:=1) W #[] 0 (Nat.le_refl _) (by decide) rfl
theorem wpList_copy {ops:Array Oper} {rest:List Oper} {o:Oper} {a:Act} {Q:Exit→Act→World→Prop} {w:World} (hgd:o.guard=none) (s x:Operand)
 (ho:o.op=.call { callee:=.builtin .append,args:=#[s,x],argTypes:=#[23,23] })
 (base:Nat) (v iv:Value) (hs:a.eval s=v) (hown:w.ownsRow base 2 1 v 0 []) (hb:base≤w.heap.size) (S:Nat→Prop) (l:List Int) (hx:a.eval x=iv) (hi:InAt w S iv l) (h0:∀ n c,iv=.slice none n c→c=0) (hl:l.length≤1000000)
 (h:∀ v' w',w'.ownsRow base 2 1 v' l.length (l.map (.int .i64))→Mods (fun k=>v.ownBlock=some k) w w'→(∃ a c,v'=.slice a l.length c)→(v'.ownBlock=v.ownBlock∨v'.ownBlock=some w.heap.size)→wpList Tryz.prog ops Q rest (a.put o.dst v') w') :
 wpList Tryz.prog ops Q (o::rest) a w:=by
 obtain ⟨i0,hi0,hz0,hz1,hz2⟩:=info_parts int64_info
 obtain ⟨ia,n,c,rfl,hn,hnc,hcm,hcell⟩:=hi
 cases ia with
 | none =>
   obtain rfl:c=0:=h0 _ _ rfl
   obtain rfl:n=0:=by omega
   obtain rfl:l=[]:=List.eq_nil_of_length_eq_zero hn.symm
   refine wpList_append_own_none (P:=Tryz.prog) hgd s x _ ho base _ i0 1 Tryz.underlying23 hi0 v 0 [] hs hown hx ?_
   obtain ⟨a',c',e,_⟩:=ownsRow_slice hown
   exact h v w hown (Mods.refl _ _) ⟨a',c',e⟩ (Or.inl rfl)
 | some ad =>
   refine wpList_append_own_at (P:=Tryz.prog) w hgd s x _ ho base _ i0 (.int .i64 0) 1 8 Tryz.underlying23 hi0 hz0 hz1 hz2 rfl (by decide) v 0 [] hs hown ad n c (l.map (.int .i64)) hx (by rw [List.length_map,← hn,Nat.mul_one]) (fun j u hu=>?_) (fun u hu=>?_) (by unfold maxLen;omega) (by omega) hb (fun v' w' h1 h2 h3 h4=>?_)
   · rw [List.getElem?_map] at hu
     obtain ⟨y,hy,rfl⟩:=Option.map_eq_some_iff.1 hu
     obtain ⟨g,o,e1,_,e2⟩:=hcell j y hy
     obtain rfl:=Option.some.inj e1
     rw [show (⟨g,o,none⟩:Addr).add j=⟨g,o+j,none⟩ by unfold Addr.add;split <;> simp_all]
     exact e2
   · obtain ⟨y,_,rfl⟩:=List.mem_map.1 hu
     rfl
   · rw [Nat.zero_add,List.nil_append,hn] at h1
     obtain ⟨a',c',e,_⟩:=ownsRow_slice h1
     exact h v' w' h1 (Mods.of_grownBy h2 (fun k hk _=>hk)) ⟨a',c',e⟩ h4
theorem own_none {W:World} {B:Nat} {e:TypeId} {size n m:Nat} {oa:Option Addr} {oc:Nat} {xs:List Value} (h:W.ownsRow B e size (.slice oa n oc) m xs):oa=none→oc=0:=by
 rcases h.2 with ⟨e1,_⟩|⟨g,cap,cur,e1,_⟩
 · obtain ⟨-,-,rfl⟩:=Value.slice.inj e1
   exact fun _=>rfl
 · obtain ⟨rfl,-,-⟩:=Value.slice.inj e1
   intro h;cases h
set_option maxRecDepth 100000 in
set_option maxHeartbeats 1600000 in
theorem run_any {L:List Fn} (hL:GoodL L) (hA:Apart L) (hM:∃ fn,fnOf L [109,97,105,110]=some fn∧fn.params=[]) (hN:∀ x∈L,x.name.length≤10000000) (hn:L.length≤1000000) (f:Nat) (given:List Int) (fuel:Int) (x:Int×Int×List Int) (hx:runR L f given fuel.toNat=some x) (v iv:Value) (W:World) (hv:FsAt W None v L) (hi:InAt W None iv given) (hi0:∀ n c,iv=.slice none n c→c=0) (hl:given.length≤1000000) (hf:fuel≤4000000000000000000) (hf2:-9223372036854775808≤fuel) :
 Calls Tryz.prog 17 #[v,iv,.int .i64 fuel] W fun e w=>∃ u,e=.returned u∧EndV w x u∧Mods None W w:=by
 have hmk:=mk_fns
 obtain ⟨W3,hW3⟩:∃ W3,W3=((W.alloc (.cells #[.int .i64 0,.int .i64 0,.slice none 0 0] 31)).alloc (.map #[] 0)).alloc (.cells #[] 2):=⟨_,rfl⟩
 have HC3:W3.ownsRow (W.heap.size+1+1) 2 1 (.slice (some ⟨W.heap.size+1+1,0,none⟩) 0 0) 0 []:=by
  rw [hW3]
  have:=own_C ((W.alloc (.cells #[.int .i64 0,.int .i64 0,.slice none 0 0] 31)).alloc (.map #[] 0))
  simpa using this
 have hm3:Mods None W W3:=by rw [hW3];exact (((Mods.refl _ _).alloc _).alloc _).alloc _
 have hs3:W3.heap.size=W.heap.size+3:=by rw [hW3];simp
 have HE3:Blk W3 W.heap.size [.int .i64 0,.int .i64 0,.slice none 0 0] 31:=by
  rw [hW3]
  exact ((Blk.new W _ _).alloc _).alloc _
 have HMP3:NameMap W3 (W.heap.size+1) 0 zeroFn []:=by
  rw [hW3]
  have:=(NameMap.new (W.alloc (.cells #[.int .i64 0,.int .i64 0,.slice none 0 0] 31)) zeroFn).mods ((Mods.refl None _).alloc (.cells #[] 2)) (fun f=>f)
  simpa using this
 have HW3:=hiD (And.intro HC3 (And.intro hm3 (And.intro hs3 (And.intro HE3 HMP3))))
 have HI:=hiD (And.intro (hi.mods hm3 (fun _ _ f=>f)) (And.intro hi0 hl))
 have HV:=hiD hv
 have HL:=hiD (And.intro hL (And.intro hA (And.intro hM (And.intro hN hn))))
 have HX:=hiD hx
 have HF:=hiD (And.intro hf hf2)
 obtain ⟨va,vn,vc,hvs,hvn,hvc1,hvc2,-⟩:=hv
 subst hvs
 clear HC3 hm3 hs3 HE3 HMP3 hi hi0 hl hL hA hM hN hn hx
 have hvn2:Hid (vn=L.length):=hiD hvn
 clear hvn
 go_enter_defers Tryz.func17,Tryz.ntmps17
 go_wp2_with (at_builtin;rw [← hW3];refine wpList_copy rfl (.tmp 11) (.tmp 12) rfl (W.heap.size+1+1) (.slice (some ⟨W.heap.size+1+1,0,none⟩) 0 0) iv rfl HW3.out.1 (by have:=HW3.out.2.2.1;omega) None given rfl HI.out.1 HI.out.2.1 HI.out.2.2 ?_;rintro v' w1 hown hm1 ⟨oa,oc,rfl⟩ hloc;have H1:=hiD (And.intro hown (And.intro hm1 hloc));clear hown hm1 hloc)
 clear hW3
 obtain ⟨b,hb⟩:∃ b,b=w1.heap.size:=⟨_,rfl⟩
 obtain ⟨W5,hW5⟩:∃ W5,W5=((w1.alloc (.cells #[.map (some (W.heap.size+1)),.slice oa given.length oc,.int .i64 (max fuel 0),.int .i64 0,.slice none 0 0] 111)).alloc (.cells #[.pointer (some ⟨w1.heap.size,0,none⟩)] 108)):=⟨_,rfl⟩
 have hm15:Mods None w1 W5:=by rw [hW5];exact ((Mods.refl _ _).alloc _).alloc _
 have hs5:W5.heap.size=b+2:=by rw [hW5,hb];simp
 have HB5:Blk W5 b [.map (some (W.heap.size+1)),.slice oa given.length oc,.int .i64 (max fuel 0),.int .i64 0,.slice none 0 0] 111:=by
  rw [hW5,hb]
  exact (Blk.new w1 _ _).alloc _
 have HQ7:Blk W5 (b+1) [.pointer (some ⟨b,0,none⟩)] 108:=by
  rw [hW5,hb]
  have:=Blk.new (w1.alloc (.cells #[.map (some (W.heap.size+1)),.slice oa given.length oc,.int .i64 (max fuel 0),.int .i64 0,.slice none 0 0] 111)) #[.pointer (some ⟨w1.heap.size,0,none⟩)] 108
  simpa using this
 rw [← hW5,← hb]
 have hb0:W.heap.size+3≤b:=by have h1:=H1.out.2.1.size;have h2:=HW3.out.2.2.1;omega
 have hm5:Mods None W W5:=by
  have h1:=HW3.out.2.1.trans' H1.out.2.1 (fun k hk hlt=>by simp only [Value.ownBlock,Option.some.injEq] at hk;omega)
  exact h1.trans hm15
 have hS1:∀ k,(fun k=>(Value.slice (some ⟨W.heap.size+1+1,0,none⟩) 0 0).ownBlock=some k) k→k=W.heap.size+2:=fun k hk=>by simp only [Value.ownBlock,Option.some.injEq] at hk;omega
 have hE5:Blk W5 W.heap.size [.int .i64 0,.int .i64 0,.slice none 0 0] 31:=(HW3.out.2.2.2.1.mods H1.out.2.1 (fun hk=>by have:=hS1 _ hk;omega)).mods hm15 (fun f=>f)
 have hN5:NameMap W5 (W.heap.size+1) 0 zeroFn []:=(HW3.out.2.2.2.2.mods H1.out.2.1 (fun hk=>by have:=hS1 _ hk;omega)).mods hm15 (fun f=>f)
 have hO5:=hm15.ownsRow H1.out.1 (fun k _ f=>f)
 have hown:∀ k,(Value.slice oa given.length oc).ownBlock=some k→W.heap.size+2≤k∧k<b:=fun k hk=>by
  have h2:=H1.out.1.lt k hk
  omega
 have H5:=hiD (And.intro hm5 (And.intro hE5 (And.intro hO5 (And.intro hown (And.intro HB5 (And.intro HQ7 (And.intro hs5 hb0)))))))
 have HN5:=hiD hN5
 have HM5:Hid (Mods (·=W.heap.size+1) W5 W5):=hiD (Mods.refl _ _)
 have HFV:Hid (∀ f x,fnOf (L.take 0) f=some x→FnV W (fun k=>¬ k<W.heap.size) x (getL zeroFn [] f)):=hiD (fun f x h=>by simp [fnOf] at h)
 have hb1:W.heap.size+3≤b:=hb0
 clear hW5 hb hm15 hs5 HB5 HQ7 hb0 hm5 hS1 hE5 hN5 hO5 hown H1
 unfold maxLen at hvc2
 go_loopw [9,20] (fun _ jv wr=>∃ (i:Nat) (F:List (List UInt8×Value)),i≤vn∧jv=.int .i64 i∧Hid (Mods (·=W.heap.size+1) W5 wr)∧Hid (NameMap wr (W.heap.size+1) i zeroFn F)∧Hid (∀ f x,fnOf (L.take i) f=some x→FnV W (fun k=>¬ k<W.heap.size) x (getL zeroFn F f))) (fun _ jv _=>(vn-intOf jv).toNat)
 case atStart=>exact ⟨0,[],Nat.zero_le _,rfl,HM5,HN5,HFV⟩
 case round =>
  clear HM5 HN5 HFV
  obtain ⟨i,F,hi,rfl,HM,HN,HFV⟩:=hrel
  have hmW:Hid (Mods None W wr):=hiD (H5.out.1.trans' HM.out (fun k hk hlt=>by omega))
  have HB:=hiD (H5.out.2.2.2.2.1.mods HM.out (by omega))
  have HQ:=hiD (H5.out.2.2.2.2.2.1.mods HM.out (by omega))
  have q7:=HQ.out.cell (i:=0) rfl
  by_cases hlt:i<vn
  · have hil:i<L.length:=by have:=hvn2.out;omega
    obtain ⟨va',vn',vc',e1,e2,e3,e4,e5,hcell⟩:=HV.out
    obtain ⟨rfl,rfl,rfl⟩:=Value.slice.inj e1
    obtain ⟨g,o,p,q,vq,rfl,-,k0,k1,k2,k3,k4,k5,k6⟩:=hcell i L[i] (List.getElem?_eq_getElem hil)
    obtain ⟨pa,pc,rfl⟩:=lex_form k4.1
    obtain ⟨qa,qc,rfl⟩:=lex_form k5.1
    have hT:∀ k,k<W.heap.size→(fun k=>¬ k<W.heap.size) k→None k:=fun k h1 h2=>(h2 h1).elim
    have hfv:FnV W (fun k=>¬ k<W.heap.size) L[i] (.agg #[str L[i].name,.int .i64 L[i].at_,.slice pa L[i].params.length pc,.slice qa L[i].body.length qc]):=⟨_,_,vq,rfl,k4.mods (Mods.refl _ _) hT,k5.mods (Mods.refl _ _) hT,StsAt.modsTo (Mods.refl _ _) hT _ _ k6⟩
    have k0:=hmW.out.cellOf k0 (fun f=>f)
    have k1:=hmW.out.cellOf k1 (fun f=>f)
    have k2:=hmW.out.cellOf k2 (fun f=>f)
    have k3:=hmW.out.cellOf k3 (fun f=>f)
    have hnm:=HL.out.2.2.2.1 L[i] (List.getElem_mem hil)
    have hi6:i<1000000:=by have:=HL.out.2.2.2.2;omega
    obtain ⟨W6,hW6⟩:∃ W6,W6=wr.alloc (.cells #[str L[i].name,.int .i64 L[i].at_,.slice pa L[i].params.length pc,.slice qa L[i].body.length qc] 84):=⟨_,rfl⟩
    have hm6:Mods None wr W6:=by rw [hW6];exact (Mods.refl _ _).alloc _
    have HB6:Blk W6 wr.heap.size [str L[i].name,.int .i64 L[i].at_,.slice pa L[i].params.length pc,.slice qa L[i].body.length qc] 84:=by rw [hW6];exact Blk.new wr _ _
    have f0:=HB6.cell (i:=0) rfl
    have f1:=HB6.cell (i:=1) rfl
    have f2:=HB6.cell (i:=2) rfl
    have f3:=HB6.cell (i:=3) rfl
    have q76:=hm6.cellOf q7 (fun f=>f)
    have b06:=(HB.out.mods hm6 (fun f=>f)).cell (i:=0) rfl
    obtain ⟨w7,hu,hn7,hm7⟩:=(HN.out.mods (hm6.drew) (fun f=>f)).put (t:=109) Tryz.underlying109 L[i].name hnm (.agg #[str L[i].name,.int .i64 L[i].at_,.slice pa L[i].params.length pc,.slice qa L[i].body.length qc]) (by unfold maxLen;omega)
    have HM7:Hid (Mods (·=W.heap.size+1) W5 w7):=hiD ((HM.out.trans ((hm6.drew).mono fun _ _ f=>f.elim)).trans hm7)
    have HN7:=hiD hn7
    have HFV7:Hid (∀ f x,fnOf (L.take (i+1)) f=some x→FnV W (fun k=>¬ k<W.heap.size) x (getL zeroFn (putL F L[i].name (.agg #[str L[i].name,.int .i64 L[i].at_,.slice pa L[i].params.length pc,.slice qa L[i].body.length qc])) f)):=hiD (by
        intro f x hx
        rw [getL_put]
        rw [List.take_succ_eq_append_getElem hil] at hx
        unfold fnOf at hx
        rw [List.find?_append] at hx
        cases hy:fnOf (L.take i) f with
        | some y =>
          have hy2:=hy
          unfold fnOf at hy2
          rw [hy2] at hx
          simp only [Option.some_or,Option.some.injEq] at hx
          subst hx
          have hym:y∈L.take i:=List.mem_of_find?_eq_some hy2
          have hyn:y.name=f:=by have:=List.find?_some hy2;simpa using this
          obtain ⟨j,hj,hjy⟩:=List.getElem_of_mem hym
          rw [List.getElem_take] at hjy
          have hji:j<i:=by rw [List.length_take] at hj;omega
          have hne:=List.pairwise_iff_getElem.1 HL.out.2.1 j i (by omega) hil hji
          rw [hjy,hyn] at hne
          rw [if_neg hne]
          exact HFV.out f y hy
        | none =>
          have hy2:=hy
          unfold fnOf at hy2
          rw [hy2] at hx
          simp only [Option.none_or,List.find?_cons,List.find?_nil] at hx
          by_cases hn:L[i].name=f
          · rw [if_pos hn.symm]
            have hb:(L[i].name==f)=true:=by simpa using hn
            rw [hb] at hx
            obtain rfl:=Option.some.inj hx
            exact hfv
          · have hb:(L[i].name==f)=false:=by simpa using hn
            rw [hb] at hx
            cases hx)
    have hpi:(i:Int)<(vn:Int):=by omega
    clear k4 k5 k6 hfv hn7 hm7 hm6 HB6 hcell e1 e2 e3 e4 e5 hT
    unfold str at k0 f0 hu hW6
    go_upto_region 5 with (fail)
    rw [← hW6]
    clear hW6
    go_region
    go_wp2_with fail
    exact ⟨⟨i+1,_,by omega,by go_num,HM7,HN7,HFV7⟩,by simp [intOf];omega⟩
  · obtain rfl:i=vn:=by omega
    have hpi:¬ (i:Int)<(i:Int):=by omega
    have hmf:∀ (fn:Go.Fn) (first cap:Array Value) (w:World),(Instr.makeFunc fn first cap).run Tryz.prog w=.ok (.func fn first cap) w:=fun _ _ _ _=>rfl
    have hown5:=H5.out.2.2.2.1
    have hb1:=H5.out.2.2.2.2.2.2.2
    have hwr5:=HM.out.size
    have hs5:=H5.out.2.2.2.2.2.2.1
    have hfm:((fuel.toNat:Nat):Int)=max fuel 0:=Int.toNat_eq_max fuel
    have hRR:RAt wr b (W.heap.size+1) L (fun k=>k<W.heap.size∨k=W.heap.size+1∨(Value.slice oa given.length oc).ownBlock=some k) (·=b) [] ⟨given,fuel.toNat,0,[],[]⟩:=by
        refine ⟨⟨_,.slice none 0 0,?_,in_of_row (HM.out.ownsRow H5.out.2.2.1 (fun k hk e=>by have:=hown5 k hk;omega)) (fun k hk hnp=>hnp (Or.inr (Or.inr hk))),World.ownsRow_nil _ _ _ _,fun k hk=>by cases hk⟩,rfl,⟨Or.inr (Or.inl rfl),_,F,HN.out,fun g y hy=>?_⟩,rfl,fun j l hl=>by simp at hl,fun g n h=>by simp at h,List.Pairwise.nil,fun k hk=>by rw [hk];omega,fun k hk hp=>?_,fun k hp=>?_,by simp,by simp,?_⟩
        · have:=HB.out
          rw [← hfm] at this
          exact this
        · refine (HFV.out g y (by rw [hvn2.out,List.take_length];exact hy)).mods (hmW.out.mono fun _ _ f=>f.elim) (fun k hk hnp hlt2=>hnp (Or.inl hlt2))
        · rcases hp with hp|hp|hp
          · omega
          · omega
          · have:=hown5 k hp
            omega
        · rcases hp with hp|hp|hp
          · omega
          · omega
          · have:=hown5 k hp
            omega
        · have:=HF.out
          simp only
          omega
    have HEW:=hiD (H5.out.2.1.mods HM.out (by omega))
    have hx:=HX.out
    obtain ⟨z,hz⟩:∃ z,z=callR L f ⟨given,fuel.toNat,0,[],[]⟩ [109,97,105,110] []:=⟨_,rfl⟩
    rw [runR_eq,← hz] at hx
    rcases z with _|⟨y,t⟩
    · cases hx
    have hc:=call_good HL.out.1 f [109,97,105,110] [] b (W.heap.size+1) 0 _ _ [] _ wr (.slice none 0 0) (y,t) hRR (Vals.none_ _ _ _ _ _) (by decide) (by obtain ⟨fn,h1,h2⟩:=HL.out.2.2.1;exact ⟨fn,h1,by rw [h2];rfl⟩) hz.symm
    have hx2:endOf (y,t)=x:=Option.some.inj hx
    have hends:=callR_ends hz.symm
    have HX2:=hiD hx2
    have HC:=hiD hc
    have HBN:=hiD (And.intro hb1 (And.intro hwr5 hs5))
    clear hx hx2 hc hz hRR hown5 hb1 hwr5 hs5 hfm
    unfold str at HC
    go_wp2_with fail
    go_at_call 45
    refine HC.out.mono ?_
    rcases hends with ⟨n,hn⟩|⟨wy,hw⟩
    · subst hn
      rintro e w5 ⟨M5,A5,rfl,k1,k2,k3⟩
      have hwr5:=HBN.out.2.1
      have hs5:=HBN.out.2.2
      have hb1:=HBN.out.1
      have hE5:=keep_blk HEW.out k2 (fun e=>by omega) (fun f=>f)
      have hQ5:=keep_blk HQ.out k2 (fun e=>by omega) (fun f=>f)
      obtain ⟨iv5,ov5,hb5,-,ho5,hk5⟩:=k1.blk
      obtain ⟨oa5,oc5,rfl⟩:=lex_form ho5
      have HK:=hiD (And.intro hE5 (And.intro hQ5 (And.intro hb5 (And.intro ho5 (And.intro hk5 (And.intro k2 k1.few))))))
      have c0:=hE5.1.cell (i:=0) rfl
      have c1:=hE5.1.cell (i:=1) rfl
      have c2:=hE5.1.cell (i:=2) rfl
      have f0:=hE5.1.free 0
      have f1:=hE5.1.free 1
      have f2:=hE5.1.free 2
      clear hE5 hQ5 hb5 ho5 hk5 k1 k2 k3 HC
      go_wp2
      clear c0 c1 c2 f0 f1 f2
      have hm6:Mods (·=W.heap.size) w5 (((w5.setCell ⟨W.heap.size,0,none⟩ (.int .i64 1)).setCell ⟨W.heap.size,1,none⟩ (.int .i64 n)).setCell ⟨W.heap.size,2,none⟩ (.slice none 0 0)):=((mods_put _ _ _ _).trans (mods_put _ _ _ _)).trans (mods_put _ _ _ _)
      have hB6:=(((HK.out.1.1.set 0 (.int .i64 1)).set 1 (.int .i64 n)).set 2 (.slice none 0 0))
      refine run_done (q7:=b+1) (b:=b) rfl hB6 ((HK.out.2.1.1.mods hm6 (by omega)).cell (i:=0) rfl) ((HK.out.2.2.1.mods hm6 (by omega)).cell (i:=4) rfl) ?_
      intro w' hB' hm'
      have hmm:Mods (·=W.heap.size) w5 w':=hm6.trans hm'
      have hx2:=HX2.out
      subst hx2
      have hne:∀ k,(Value.slice oa5 t.out.length oc5).ownBlock=some k→k≠W.heap.size:=fun k hk e=>HK.out.1.2 (e ▸ (HK.out.2.2.2.2.1 k hk).1)
      refine ⟨_,rfl,⟨oa5,oc5,rfl,in_of_row (hmm.ownsRow HK.out.2.2.2.1 hne) (fun _ _ f=>f),HK.out.2.2.2.2.2.2,own_none HK.out.2.2.2.1⟩,?_⟩
      have h1:Mods (fun k=>k=b) W w5:=(hmW.out.mono fun _ _ f=>f.elim).trans (HK.out.2.2.2.2.2.1.mods.mono fun k _ hk=>hk.elim (fun f=>f.elim) id)
      exact (h1.trans' hmm (fun k hk hlt=>by omega)).mono (fun k hk e=>by omega)
    · subst hw
      rintro e w5 ⟨⟨older,rfl⟩,M5,A5,k1,k2,k3⟩
      have hwr5:=HBN.out.2.1
      have hs5:=HBN.out.2.2
      have hb1:=HBN.out.1
      have hE5:=keep_blk HEW.out k2 (fun e=>by omega) (fun f=>f)
      have hQ5:=keep_blk HQ.out k2 (fun e=>by omega) (fun f=>f)
      obtain ⟨iv5,ov5,hb5,-,ho5,hk5⟩:=k1.blk
      obtain ⟨oa5,oc5,rfl⟩:=lex_form ho5
      have HK:=hiD (And.intro hE5 (And.intro hQ5 (And.intro hb5 (And.intro ho5 (And.intro hk5 (And.intro k2 k1.few))))))
      clear hE5 hQ5 hb5 ho5 hk5 k1 k2 k3 HC
      go_wp2
      refine run_stop older (q7:=b+1) (b:=b) rfl HK.out.1.1 (HK.out.2.1.1.cell (i:=0) rfl) (HK.out.2.2.1.cell (i:=4) rfl) (by omega) (by omega) ?_
      intro w' hB' hmm
      have hx2:=HX2.out
      subst hx2
      have hne:∀ k,(Value.slice oa5 t.out.length oc5).ownBlock=some k→k≠W.heap.size:=fun k hk e=>HK.out.1.2 (e ▸ (HK.out.2.2.2.2.1 k hk).1)
      refine ⟨_,rfl,⟨oa5,oc5,rfl,in_of_row (hmm.ownsRow HK.out.2.2.2.1 hne) (fun _ _ f=>f),HK.out.2.2.2.2.2.2,own_none HK.out.2.2.2.1⟩,?_⟩
      have h1:Mods (fun k=>k=b) W w5:=(hmW.out.mono fun _ _ f=>f.elim).trans (HK.out.2.2.2.2.2.1.mods.mono fun k _ hk=>hk.elim (fun f=>f.elim) id)
      exact (h1.trans' hmm (fun k hk hlt=>by omega)).mono (fun k hk e=>by omega)
end Go.Proofs.YtnicpmoanjddbaaGreatDoor.TreeP

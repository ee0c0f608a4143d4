/- What mid's Run does behind the call: how it ended is told. Printed by mkmrn.py. Conditions: what it has lies. mid's Run: how steps end. Printed by mkmrn2.py. Conditions: what it is given lies. The number that is picked; lists of numbers held to one another; ends that are one. Printed by mkmeq.py. Conditions: what is asked lies. Whether steps are few. Conditions: the steps lie. -/
import Derived.Test.YtnicpmoanjddbaaGreatDoorMs23
import Derived.Laws.AppendOwnNone
import Derived.Defers
import Derived.Recover
import Derived.Deep.QuietTactic
import Derived.BigQuiet
import Derived.Deep.DeepCutAuto
import Derived.Test.YtnicpmoanjddbaaGreatDoorMs10
import Derived.Test.YtnicpmoanjddbaaGreatDoorMs09
namespace Go.Proofs.YtnicpmoanjddbaaGreatDoor.MidP
open Go.RowKit Go.Proofs.YtnicpmoanjddbaaGreatDoor.Wo Go.Maps Go.Proofs.YtnicpmoanjddbaaGreatDoor.TreeP
set_option linter.unusedVariables false
set_option linter.unusedSimpArgs false
theorem ownsRow_slice {W:World} {B:Nat} {e:TypeId} {size n:Nat} {v:Value} {vs:List Value} (h:W.ownsRow B e size v n vs):∃ oa oc,v=.slice oa n oc∧n≤oc∧oc≤maxLen∧(∀ j u,vs[j]?=some u→∃ g,oa=some ⟨g,0,none⟩∧v.ownBlock=some g∧W.cell? ⟨g,j,none⟩=some u):=by
 rcases h.2 with ⟨rfl,rfl⟩|⟨g,cap,cur,rfl,_,hg,h3,h4,_⟩
 · have:vs=[]:=List.eq_nil_of_length_eq_zero (by simpa using h.1)
   subst this
   exact ⟨none,0,rfl,Nat.le_refl _,by decide,fun j u hj=>by simp at hj⟩
 · refine ⟨_,_,rfl,h3,h4,fun j u hj=>⟨g,rfl,rfl,?_⟩⟩
   have:=h.cells (g:=g) rfl j u hj
   simpa [Addr.add_lit] using this
theorem old_none (o:Old):o.1.dropWhile (!·.goexit)=[]:=by
 obtain ⟨l,h⟩:=o
 induction l with
 | nil=>rfl
 | cons x r ih =>
   have h1:=h x (by simp)
   have h2:=ih (fun y hy=>h y (by simp [hy]))
   simp only at h2
   simp [List.dropWhile,h1,h2]
theorem mis_ended (v:Value) (w:World):Sem.run Tryz.prog (Instr.typeAssert (.iface 64 v) 20 64 true) w=.ok (.tuple #[v,.bool true]) w:=by
 simp [Instr.typeAssert,run_underlying Tryz.underlying64]
set_option maxRecDepth 100000 in
theorem mend_idle (q6 q7 b:Nat) (w1 w2:Int) (oa:Option Addr) (on oc:Nat) (u:Value) (w:World) (h6:Blk w q6 [.int .i64 w1,.int .i64 w2,u] 31) (h7:w.cell? ⟨q7,0,none⟩=some (.pointer (some ⟨b,0,none⟩))) (hb:w.cell? ⟨b,4,none⟩=some (.slice oa on oc)) :
 CallsD Tryz.prog 22 #[.pointer (some ⟨q6,0,none⟩),.pointer (some ⟨q7,0,none⟩)] .returning w fun e u' w'=>e=.returned (.tuple #[])∧u'=.returning∧Blk w' q6 [.int .i64 w1,.int .i64 w2,.slice oa on oc] 31∧Mods (·=q6) w w':=by
 have f6:=h6.free 2
 have c6:=h6.cell (i:=2) rfl
 have H6:=hiD h6
 clear h6
 refine callsD_of_wpS Tryz.func22 rfl fun c₀ cs hu=>?_
 apply wpS_seq
 apply wpS_seq
 apply wpS_region
 simp [wpOpsS,go_sem,recoverD,hu,Tryz.ntmps22,Exit.thenS]
 refine wpS_of_wp ?_
 rw [show (#[Value.pointer (some ⟨q6,0,none⟩),.pointer (some ⟨q7,0,none⟩)]++((Array.replicate 22 undef).setIfInBounds 3 (.nilIface)).setIfInBounds 0 (.nilIface):Array Value)=#[Value.pointer (some ⟨q6,0,none⟩),.pointer (some ⟨q7,0,none⟩),.nilIface,undef,undef,.nilIface,undef,undef,undef,undef,undef,undef,undef,undef,undef,undef,undef,undef,undef,undef,undef,undef,undef,undef] from by kernel_rfl]
 go_wp2
 simp only [Exit.thenS]
 refine wpS_of_wp ?_
 go_wp2
 clear f6 c6 h7 hb
 cases c₀
 simp_all [bodyPostS,results,Tryz.results22]
 exact ⟨H6.out.set 2 (.slice oa on oc),mods_put _ _ _ _⟩
set_option maxRecDepth 100000 in
theorem mend_stop (q6 q7 b:Nat) (n w1 w2:Int) (oa:Option Addr) (on oc:Nat) (u:Value) (older:List PanicEntry) (w:World) (h6:Blk w q6 [.int .i64 w1,.int .i64 w2,u] 31) (h7:w.cell? ⟨q7,0,none⟩=some (.pointer (some ⟨b,0,none⟩))) (hb:w.cell? ⟨b,4,none⟩=some (.slice oa on oc)) (h76:q7≠q6) (hb6:b≠q6) :
 CallsD Tryz.prog 22 #[.pointer (some ⟨q6,0,none⟩),.pointer (some ⟨q7,0,none⟩)] (.panicking ({ v:=endedV n,recovered:=false }::older)) w fun e u' w'=>e=.returned (.tuple #[])∧u'=.panicking ({ v:=endedV n,recovered:=true }::older)∧Blk w' q6 [.int .i64 n,.int .i64 0,.slice oa on oc] 31∧Mods (·=q6) w w':=by
 have f0:=h6.free 0
 have f1:=h6.free 1
 have f2:=h6.free 2
 have c0:=h6.cell (i:=0) rfl
 have c1:=h6.cell (i:=1) rfl
 have c2:=h6.cell (i:=2) rfl
 have l6:=h6.lt
 have l7:=World.block_lt_of_cell? w _ h7
 have lb:=World.block_lt_of_cell? w _ hb
 simp only at l7 lb
 have H6:=hiD h6
 clear h6
 refine callsD_of_wpS Tryz.func22 rfl fun c₀ cs hu=>?_
 apply wpS_seq
 apply wpS_seq
 apply wpS_region
 unfold endedV at hu
 simp [wpOpsS,go_sem,recoverD,hu,Tryz.ntmps22,Exit.thenS]
 refine wpS_of_wp ?_
 rw [show (#[Value.pointer (some ⟨q6,0,none⟩),.pointer (some ⟨q7,0,none⟩)]++((Array.replicate 22 undef).setIfInBounds 3 (.iface 64 (.agg #[.int .i64 n]))).setIfInBounds 0 (.iface 64 (.agg #[.int .i64 n])):Array Value)=#[Value.pointer (some ⟨q6,0,none⟩),.pointer (some ⟨q7,0,none⟩),.iface 64 (.agg #[.int .i64 n]),undef,undef,.iface 64 (.agg #[.int .i64 n]),undef,undef,undef,undef,undef,undef,undef,undef,undef,undef,undef,undef,undef,undef,undef,undef,undef,undef] from by kernel_rfl]
 have hta:=mis_ended (.agg #[.int .i64 n]) w
 have n6:q6≠w.heap.size:=by omega
 have n7:q7≠w.heap.size:=by omega
 have nb:b≠w.heap.size:=by omega
 go_wp2
 simp only [Exit.thenS]
 refine wpS_of_wp ?_
 go_wp2
 clear f0 f1 f2 c0 c1 c2 hta h7 hb
 cases c₀
 simp_all [bodyPostS,results,Tryz.results22,endedV]
 exact ⟨((((H6.out.set 0 (.int .i64 n)).set 1 (.int .i64 0)).set 2 (.slice none 0 0)).set 2 (.slice oa on oc)).alloc _,((((mods_put _ _ _ _).trans (mods_put _ _ _ _)).trans (mods_put _ _ _ _)).trans (mods_put _ _ _ _)).alloc _⟩
theorem mrun_done {R:Ending→World→Prop} {tmps:Array Value} {q6 q7 b:Nat} {w1 w2:Int} {oa:Option Addr} {on oc:Nat} {u:Value} {w:World} (h6:tmps[6]?.getD undef=.pointer (some ⟨q6,0,none⟩)) (hB:Blk w q6 [.int .i64 w1,.int .i64 w2,u] 31) (h7:w.cell? ⟨q7,0,none⟩=some (.pointer (some ⟨b,0,none⟩))) (hb:w.cell? ⟨b,4,none⟩=some (.slice oa on oc))
 (hR:∀ w',Blk w' q6 [.int .i64 w1,.int .i64 w2,.slice oa on oc] 31→Mods (·=q6) w w'→R (.returned (.agg #[.int .i64 w1,.int .i64 w2,.slice oa on oc])) w') :
 Leaves Tryz.prog Tryz.f9 tmps R [{ target:=Target.fn (Go.Fn.func 22) #[.pointer (some ⟨q6,0,none⟩),.pointer (some ⟨q7,0,none⟩)],args:=#[] }] .returning w:=by
 refine leaves_cons (f:=22) (args:=#[.pointer (some ⟨q6,0,none⟩),.pointer (some ⟨q7,0,none⟩)]) (by simp) (by simp [go_sem]) ?_
 refine (mend_idle q6 q7 b w1 w2 oa on oc u w hB h7 hb).mono ?_
 rintro e u' w' ⟨rfl,rfl,hB',hm⟩
 have hr:=results_cell_row (P:=Tryz.prog) Tryz.results9 tmps w' q6 _ _ _ _ (by simpa using h6) hB' Tryz.underlying31 rfl (by kernel_rfl)
 have HR:=hiD (hR w' hB' hm)
 clear hR hB' hm
 show Leaves _ _ _ _ [] .returning w'
 unfold Leaves
 exact ⟨_,hr,HR.out⟩
theorem mrun_stop {R:Ending→World→Prop} {tmps:Array Value} {q6 q7 b:Nat} {n w1 w2:Int} {oa:Option Addr} {on oc:Nat} {u:Value} {w:World} (older:Old) (h6:tmps[6]?.getD undef=.pointer (some ⟨q6,0,none⟩)) (hB:Blk w q6 [.int .i64 w1,.int .i64 w2,u] 31) (h7:w.cell? ⟨q7,0,none⟩=some (.pointer (some ⟨b,0,none⟩))) (hb:w.cell? ⟨b,4,none⟩=some (.slice oa on oc)) (h76:q7≠q6) (hb6:b≠q6)
 (hR:∀ w',Blk w' q6 [.int .i64 n,.int .i64 0,.slice oa on oc] 31→Mods (·=q6) w w'→R (.returned (.agg #[.int .i64 n,.int .i64 0,.slice oa on oc])) w') :
 Leaves Tryz.prog Tryz.f9 tmps R [{ target:=Target.fn (Go.Fn.func 22) #[.pointer (some ⟨q6,0,none⟩),.pointer (some ⟨q7,0,none⟩)],args:=#[] }] (.panicking ({ v:=endedV n,recovered:=false }::older.1)) w:=by
 refine leaves_cons (f:=22) (args:=#[.pointer (some ⟨q6,0,none⟩),.pointer (some ⟨q7,0,none⟩)]) (by simp) (by simp [go_sem]) ?_
 refine (mend_stop q6 q7 b n w1 w2 oa on oc u older.1 w hB h7 hb h76 hb6).mono ?_
 rintro e u' w' ⟨rfl,rfl,hB',hm⟩
 have hr:=results_cell_row (P:=Tryz.prog) Tryz.results9 tmps w' q6 _ _ _ _ (by simpa using h6) hB' Tryz.underlying31 rfl (by kernel_rfl)
 have HR:=hiD (hR w' hB' hm)
 have ho:=old_none older
 clear hR hB' hm
 have hs:settle (FrameMode.panicking ({ v:=endedV n,recovered:=true }::older.1))=.returning:=by simp [settle,ho]
 show Leaves _ _ _ _ [] (settle (FrameMode.panicking ({ v:=endedV n,recovered:=true }::older.1))) w'
 rw [hs]
 unfold Leaves
 exact ⟨_,hr,HR.out⟩
def EndV (W:World) (x:Int×Int×List Int) (v:Value):Prop:=∃ oa oc,v=.agg #[.int .i64 x.1,.int .i64 x.2.1,.slice oa x.2.2.length oc]∧InAt W None (.slice oa x.2.2.length oc) x.2.2∧x.2.2.length≤200∧(oa=none→oc=0)
theorem EndV.mods {W W':World} {x:Int×Int×List Int} {v:Value} (h:EndV W x v) (hm:Mods None W W'):EndV W' x v:=by
 obtain ⟨oa,oc,h1,h2,h3⟩:=h
 exact ⟨oa,oc,h1,h2.mods hm (fun _ _ f=>f),h3⟩
theorem in_of_row {W:World} {S:Nat→Prop} {B:Nat} {v:Value} {l:List Int} (h:W.ownsRow B 2 1 v l.length (l.map (.int .i64))) (hS:∀ k,v.ownBlock=some k→¬ S k):InAt W S v l:=by
 obtain ⟨a,c,rfl,h1,h2,h3⟩:=ownsRow_slice h
 refine ⟨a,_,c,rfl,rfl,h1,h2,fun i x hx=>?_⟩
 obtain ⟨g,e1,e2,e3⟩:=h3 i (.int .i64 x) (by rw [List.getElem?_map,hx];rfl)
 exact ⟨g,0,e1,hS g e2,by simpa using e3⟩
theorem mk_mfns (w:World):(Instr.makeMap 60 none).run Tryz.prog w=.ok (.map (some w.heap.size)) (w.alloc (.map #[] 0)):=by
 simp [Instr.makeMap,run_underlying Tryz.underlying60]
theorem own_C (W:World):(W.alloc (.cells #[] 2)).ownsRow W.heap.size 2 1 (.slice (some ⟨W.heap.size,0,none⟩) 0 0) 0 [] :=
 World.ownsRow_made (base:=W.heap.size) (e:=2) (size:=1) W #[] 0 (Nat.le_refl _) (by decide) rfl
theorem wpList_copy {ops:Array Oper} {rest:List Oper} {o:Oper} {a:Act} {Q:Exit→Act→World→Prop} {w:World} (hgd:o.guard=none) (s x:Operand)
 (ho:o.op=.call { callee:=.builtin .append,args:=#[s,x],argTypes:=#[23,23] })
 (base:Nat) (v iv:Value) (hs:a.eval s=v) (hown:w.ownsRow base 2 1 v 0 []) (hb:base≤w.heap.size) (S:Nat→Prop) (l:List Int) (hx:a.eval x=iv) (hi:InAt w S iv l) (h0:∀ n c,iv=.slice none n c→c=0) (hl:l.length≤1000000)
 (h:∀ v' w',w'.ownsRow base 2 1 v' l.length (l.map (.int .i64))→Mods (fun k=>v.ownBlock=some k) w w'→(∃ a c,v'=.slice a l.length c)→(v'.ownBlock=v.ownBlock∨v'.ownBlock=some w.heap.size)→wpList Tryz.prog ops Q rest (a.put o.dst v') w') :
 wpList Tryz.prog ops Q (o::rest) a w:=by
 obtain ⟨i0,hi0,hz0,hz1,hz2⟩:=info_parts infoInt
 obtain ⟨ia,n,c,rfl,hn,hnc,hcm,hcell⟩:=hi
 cases ia with
 | none =>
   obtain rfl:c=0:=h0 _ _ rfl
   obtain rfl:n=0:=by omega
   obtain rfl:l=[]:=List.eq_nil_of_length_eq_zero hn.symm
   refine wpList_append_own_none (P:=Tryz.prog) hgd s x _ ho base _ i0 1 Tryz.underlying23 hi0 v 0 [] hs hown hx ?_
   obtain ⟨a',c',e,_⟩:=ownsRow_slice hown
   exact h v w hown (Mods.refl _ _) ⟨a',c',e⟩ (Or.inl rfl)
 | some ad =>
   refine wpList_append_own_at (P:=Tryz.prog) w hgd s x _ ho base _ i0 (.int .i64 0) 1 8 Tryz.underlying23 hi0 hz0 hz1 hz2 rfl (by decide) v 0 [] hs hown ad n c (l.map (.int .i64)) hx (by rw [List.length_map,← hn,Nat.mul_one]) (fun j u hu=>?_) (fun u hu=>?_) (by unfold maxLen;omega) (by omega) hb (fun v' w' h1 h2 h3 h4=>?_)
   · rw [List.getElem?_map] at hu
     obtain ⟨y,hy,rfl⟩:=Option.map_eq_some_iff.1 hu
     obtain ⟨g,o,e1,_,e2⟩:=hcell j y hy
     obtain rfl:=Option.some.inj e1
     rw [show (⟨g,o,none⟩:Addr).add j=⟨g,o+j,none⟩ by unfold Addr.add;split <;> simp_all]
     exact e2
   · obtain ⟨y,_,rfl⟩:=List.mem_map.1 hu
     rfl
   · rw [Nat.zero_add,List.nil_append,hn] at h1
     obtain ⟨a',c',e,_⟩:=ownsRow_slice h1
     exact h v' w' h1 (Mods.of_grownBy h2 (fun k hk _=>hk)) ⟨a',c',e⟩ h4
theorem own_none {W:World} {B:Nat} {e:TypeId} {size n m:Nat} {oa:Option Addr} {oc:Nat} {xs:List Value} (h:W.ownsRow B e size (.slice oa n oc) m xs):oa=none→oc=0:=by
 rcases h.2 with ⟨e1,_⟩|⟨g,cap,cur,e1,_⟩
 · obtain ⟨-,-,rfl⟩:=Value.slice.inj e1
   exact fun _=>rfl
 · obtain ⟨rfl,-,-⟩:=Value.slice.inj e1
   intro h;cases h
theorem mcall_zero (L:List Fm):CallC L 0:=by
 intro g vs b mb base P M A s W lv r h hv hgl hfn hr
 simp only [callM] at hr
 cases hr
theorem mcall_good {L:List Fm} (hL:GoodM L) (f:Nat):CallC L f:=by
 have:∀ f k,k≤f→CallC L k:=by
  intro f
  induction f with
  | zero=>intro k hk;obtain rfl:k=0:=by omega
          exact mcall_zero L
  | succ f ih =>
    intro k hk
    by_cases h:k≤f
    · exact ih k h
    · obtain rfl:k=f+1:=by omega
      exact mcall_any hL ih
 exact this f f (Nat.le_refl _)
def ApartM (L:List Fm):Prop:=L.Pairwise fun a b=>a.name≠b.name
theorem apart_heads:(r A:List Fm)→headsB A r=true→r.Pairwise (fun a b=>a.name≠b.name)∧∀ a∈A,∀ b∈r,a.name≠b.name
 | [],A,_=>⟨List.Pairwise.nil,fun a _ b hb=>by cases hb⟩
 | f::r,A,h=>by
   rw [headsB_cons] at h
   split at h
   · cases h
   · rename_i hn
     obtain ⟨h1,h2⟩:=apart_heads r (A++[f]) h
     refine ⟨List.pairwise_cons.2 ⟨fun b hb=>h2 f (by simp) b hb,h1⟩,fun a ha b hb=>?_⟩
     rcases List.mem_cons.1 hb with rfl|hb
     · intro e
       apply hn
       refine Or.inr (Or.inr ?_)
       rw [List.any_eq_true]
       exact ⟨a,ha,by simpa using e⟩
     · exact h2 a (by simp [ha]) b hb
theorem code_parts {L:List Fm} (h:codeB L=true):ApartM L∧(∃ fn,fmOf L [109,97,105,110]=some fn)∧L.length≤12:=by
 rw [codeB_eq] at h
 simp only [Bool.and_eq_true,decide_eq_true_eq] at h
 refine ⟨(apart_heads L [] h.1.1.2).1,?_,h.1.1.1⟩
 obtain ⟨f,hf,hm⟩:=List.any_eq_true.1 h.2
 unfold fmOf
 cases hx:L.find? (fun f=>f.name==[109,97,105,110]) with
 | some y=>exact ⟨y,rfl⟩
 | none =>
   have:=List.find?_eq_none.1 hx f hf
   unfold mainP at hm
   simp only [Bool.and_eq_true] at hm
   exact absurd hm.1 this
theorem callM_ends {L:List Fm} {f:Nat} {s:RS} {g:List UInt8} {vs:List V} {y:Except Sig Int×RS} (h:callM L f s g vs=some y):(∃ n,y.1=.ok n)∨∃ w,y.1=.error (.stop w):=by
 rcases (keptM_all L f).2 s g vs y h with ⟨w,h⟩|⟨⟨n,h⟩,_⟩
 · exact Or.inr ⟨w,h⟩
 · exact Or.inl ⟨n,h⟩
def runC (L:List Fm) (f:Nat) (given:List Int) (fuel:Nat):Option (Int×Int×List Int):=if codeB L=true then runM L f given fuel else some (9,0,[])
set_option maxRecDepth 100000 in
set_option maxHeartbeats 4000000 in
theorem mrun_any {L:List Fm} (hok:∀ f∈L,FmOk f) (f:Nat) (given:List Int) (fuel:Int) (x:Int×Int×List Int) (hx:runC L f given fuel.toNat=some x) (cb:Nat) (v iv:Value) (W:World) (hcb:W.cell? ⟨cb,0,none⟩=some v) (hv:FmsAt W None v L) (hFo:FormsAt W) (hOp:OpsAt W) (hi:InAt W None iv given) (hi0:∀ n c,iv=.slice none n c→c=0) (hl:given.length≤1000000) (hf:fuel≤4000000000000000000) (hf2:-9223372036854775808≤fuel) :
 Calls Tryz.prog 9 #[.pointer (some ⟨cb,0,none⟩),iv,.int .i64 fuel] W fun e w=>∃ u,e=.returned u∧EndV w x u∧Mods None W w:=by
 have hmk:=mk_mfns
 obtain ⟨W1,hW1⟩:∃ W1,W1=W.alloc (.cells #[.int .i64 0,.int .i64 0,.slice none 0 0] 31):=⟨_,rfl⟩
 have hm1:Mods None W W1:=by rw [hW1];exact (Mods.refl _ _).alloc _
 have hE1:Blk W1 W.heap.size [.int .i64 0,.int .i64 0,.slice none 0 0] 31:=by rw [hW1];exact Blk.new W _ _
 have hs1:W1.heap.size=W.heap.size+1:=by rw [hW1];simp
 have hlab:∀ f∈L,∀ s∈f.steps,I64 s.label:=fun f hf s hs=>((hok f hf).steps s hs).nums.2.2.2.2.2.2
 have HRC:=hiD (rightc_any L cb v W1 (hm1.cellOf hcb (fun f=>f)) (hv.mods hm1 (fun _ _ f=>f)) (hFo.mods hm1) (hOp.mods hm1) hlab)
 have H1:=hiD (And.intro hm1 (And.intro hE1 hs1))
 have HCB:=hiD hcb
 have HI0:=hiD (And.intro hi (And.intro hi0 hl))
 obtain ⟨va,vc,rfl,hvc1,hvc2,-⟩:=hv.form
 have HV:=hiD hv
 have HX:=hiD hx
 have HF:=hiD (And.intro hf hf2)
 have HOK:=hiD hok
 obtain ⟨vn,hvn⟩:∃ vn,vn=L.length:=⟨_,rfl⟩
 have hvn2:Hid (vn=L.length):=hiD hvn
 rw [← hvn] at hcb hvc1
 obtain ⟨c,hc⟩:∃ c,c=codeB L:=⟨_,rfl⟩
 rw [← hc] at HRC
 have HC:=hiD hc
 clear hm1 hE1 hs1 hi hi0 hl hv hx hok hlab hFo hOp hvn hc
 go_enter_defers Tryz.func9,Tryz.ntmps9
 go_upto_region 1 with (fail)
 rw [← hW1]
 clear hW1
 go_wp2_with fail
 go_at_call 10
 refine HRC.out.mono ?_
 rintro e U ⟨rfl,hmU⟩
 have HE:=hiD (H1.out.2.1.mods hmU (fun f=>f))
 have HUW:Hid (Mods None W U):=hiD (H1.out.1.trans hmU)
 have HUS:Hid (W.heap.size+1≤U.heap.size):=hiD (by have h1:=H1.out.2.2;have h2:=hmU.size;omega)
 have HV1:=hiD (HV.out.mods HUW.out (fun _ _ f=>f))
 have hcb:=HUW.out.cellOf hcb (fun f=>f)
 clear hmU
 cases c with
 | false =>
   have hx:=HX.out
   unfold runC at hx
   rw [← HC.out,if_neg (by simp)] at hx
   obtain rfl:=(Option.some.inj hx).symm
   have e0:=HE.out.cell (i:=0) rfl
   have e1:=HE.out.cell (i:=1) rfl
   have e2:=HE.out.cell (i:=2) rfl
   have f0:=HE.out.free 0
   have f1:=HE.out.free 1
   have f2:=HE.out.free 2
   clear hx
   go_wp2_with fail
   clear e0 e1 e2 f0 f1 f2
   have hB:=(((HE.out.set 0 (.int .i64 9)).set 1 (.int .i64 0)).set 2 (.slice none 0 0))
   have hm:=((mods_put U W.heap.size 0 (.int .i64 9)).trans (mods_put _ _ 1 (.int .i64 0))).trans (mods_put _ _ 2 (.slice none 0 0))
   have hr:=results_cell_row (P:=Tryz.prog) Tryz.results9 #[Value.pointer (some ⟨cb,0,none⟩),iv,Value.int IntKind.i64 fuel,undef,undef,undef,Value.pointer (some ⟨W.heap.size,0,none⟩),undef,undef,undef,Value.pointer (some ⟨cb,0,none⟩),Value.bool false,Value.bool true,Value.agg #[Value.int IntKind.i64 9,Value.int IntKind.i64 0,Value.slice none 0 0],undef,undef,undef,undef,undef,undef,undef,undef,undef,undef,undef,undef,undef,undef,undef,undef,undef,undef,undef,undef,undef,undef,undef,undef,undef,undef,undef,undef,undef] _ W.heap.size _ _ _ _ rfl hB Tryz.underlying31 rfl (by kernel_rfl)
   have HRES:=hiD hr
   have HMM:Hid (Mods None W (((U.setCell ⟨W.heap.size,0,none⟩ (.int .i64 9)).setCell ⟨W.heap.size,1,none⟩ (.int .i64 0)).setCell ⟨W.heap.size,2,none⟩ (.slice none 0 0))):=hiD (HUW.out.trans' hm (fun k hk hlt=>by omega))
   clear hr hB hm
   unfold bodyPostD
   simp only
   unfold Leaves
   exact ⟨_,HRES.out,_,rfl,⟨none,0,rfl,⟨_,_,_,rfl,rfl,Nat.le_refl _,Nat.zero_le _,fun i x hx=>by simp at hx⟩,Nat.zero_le _,fun _=>rfl⟩,HMM.out⟩
 | true =>
   have hx:=HX.out
   unfold runC at hx
   rw [← HC.out,if_pos rfl] at hx
   have HX:=hiD hx
   obtain ⟨hA,hM,hn⟩:=code_parts HC.out.symm
   have HL:Hid (GoodM L∧ApartM L∧(∃ fn,fmOf L [109,97,105,110]=some fn)∧L.length≤12):=hiD ⟨⟨HC.out.symm,HOK.out⟩,hA,hM,hn⟩
   obtain ⟨W3,hW3⟩:∃ W3,W3=(U.alloc (.map #[] 0)).alloc (.cells #[] 2):=⟨_,rfl⟩
   have HC3:W3.ownsRow (U.heap.size+1) 2 1 (.slice (some ⟨U.heap.size+1,0,none⟩) 0 0) 0 []:=by
    rw [hW3]
    have:=own_C (U.alloc (.map #[] 0))
    simpa using this
   have hm3:Mods None U W3:=by rw [hW3];exact ((Mods.refl _ _).alloc _).alloc _
   have hs3:W3.heap.size=U.heap.size+2:=by rw [hW3];simp
   have HE3:Blk W3 W.heap.size [.int .i64 0,.int .i64 0,.slice none 0 0] 31:=HE.out.mods hm3 (fun f=>f)
   have HMP3:NameMap W3 U.heap.size 0 zeroFm []:=by
    rw [hW3]
    exact (NameMap.new U zeroFm).mods ((Mods.refl None _).alloc (.cells #[] 2)) (fun f=>f)
   have HW3:=hiD (And.intro HC3 (And.intro hm3 (And.intro hs3 (And.intro HE3 HMP3))))
   have HI:=hiD (And.intro (HI0.out.1.mods (HUW.out.trans hm3) (fun _ _ f=>f)) HI0.out.2)
   have HCBL:Hid (cb<W.heap.size):=hiD (World.block_lt_of_cell? W _ HCB.out)
   have HCB1:Hid (∀ w,Mods (fun k=>(Value.slice (some ⟨U.heap.size+1,0,none⟩) 0 0).ownBlock=some k) W3 w→w.cell? ⟨cb,0,none⟩=some (.slice va vn vc)):=hiD (fun w hm=>hm.cellOf (hm3.cellOf hcb (fun f=>f)) (fun hk=>by have h1:=HCBL.out;have h2:=HUS.out;simp only [Value.ownBlock,Option.some.injEq] at hk;omega))
   clear HC3 hm3 hs3 HE3 HMP3 hA hM hn hx hcb
   go_upto_region 4 with (at_builtin;rw [← hW3];refine wpList_copy rfl (.tmp 15) (.tmp 16) rfl (U.heap.size+1) (.slice (some ⟨U.heap.size+1,0,none⟩) 0 0) iv rfl HW3.out.1 (by have:=HW3.out.2.2.1;omega) None given rfl HI.out.1 HI.out.2.1 HI.out.2.2 ?_;rintro v' w1 hown hm1 ⟨oa,oc,rfl⟩ hloc;have hcb1:=HCB1.out w1 hm1;have H1:=hiD (And.intro hown (And.intro hm1 hloc));clear hown hm1 hloc)
   clear hW3
   obtain ⟨b,hb⟩:∃ b,b=w1.heap.size:=⟨_,rfl⟩
   obtain ⟨W5,hW5⟩:∃ W5,W5=((w1.alloc (.cells #[.map (some (U.heap.size)),.slice oa given.length oc,.int .i64 (max fuel 0),.int .i64 0,.slice none 0 0] 62)).alloc (.cells #[.pointer (some ⟨w1.heap.size,0,none⟩)] 59)):=⟨_,rfl⟩
   have hm15:Mods None w1 W5:=by rw [hW5];exact ((Mods.refl _ _).alloc _).alloc _
   have hs5:W5.heap.size=b+2:=by rw [hW5,hb];simp
   have HB5:Blk W5 b [.map (some (U.heap.size)),.slice oa given.length oc,.int .i64 (max fuel 0),.int .i64 0,.slice none 0 0] 62:=by
    rw [hW5,hb]
    exact (Blk.new w1 _ _).alloc _
   have HQ7:Blk W5 (b+1) [.pointer (some ⟨b,0,none⟩)] 59:=by
    rw [hW5,hb]
    have:=Blk.new (w1.alloc (.cells #[.map (some (U.heap.size)),.slice oa given.length oc,.int .i64 (max fuel 0),.int .i64 0,.slice none 0 0] 62)) #[.pointer (some ⟨w1.heap.size,0,none⟩)] 59
    simpa using this
   try rw [show (if fuel<0 then (0:Int) else fuel)=max fuel 0 by split <;> omega]
   rw [← hW5,← hb]
   have hcb5:W5.cell? ⟨cb,0,none⟩=some (.slice va vn vc):=hm15.cellOf hcb1 (fun f=>f)
   have hb0:U.heap.size+2≤b:=by have h1:=H1.out.2.1.size;have h2:=HW3.out.2.2.1;omega
   have hUW:=HUW.out.size
   have hm5:Mods None W W5:=by
    have h1:=(HUW.out.trans HW3.out.2.1).trans' H1.out.2.1 (fun k hk hlt=>by simp only [Value.ownBlock,Option.some.injEq] at hk;omega)
    exact h1.trans hm15
   have hS1:∀ k,(fun k=>(Value.slice (some ⟨U.heap.size+1,0,none⟩) 0 0).ownBlock=some k) k→k=U.heap.size+1:=fun k hk=>by simp only [Value.ownBlock,Option.some.injEq] at hk;omega
   have hE5:Blk W5 W.heap.size [.int .i64 0,.int .i64 0,.slice none 0 0] 31:=(HW3.out.2.2.2.1.mods H1.out.2.1 (fun hk=>by have:=hS1 _ hk;omega)).mods hm15 (fun f=>f)
   have hN5:NameMap W5 (U.heap.size) 0 zeroFm []:=(HW3.out.2.2.2.2.mods H1.out.2.1 (fun hk=>by have:=hS1 _ hk;omega)).mods hm15 (fun f=>f)
   have hO5:=hm15.ownsRow H1.out.1 (fun k _ f=>f)
   have hown:∀ k,(Value.slice oa given.length oc).ownBlock=some k→U.heap.size+1≤k∧k<b:=fun k hk=>by
    have h2:=H1.out.1.lt k hk
    omega
   have H5:=hiD (And.intro hm5 (And.intro hE5 (And.intro hO5 (And.intro hown (And.intro HB5 (And.intro HQ7 (And.intro hs5 hb0)))))))
   have HN5:=hiD hN5
   have HM5:Hid (Mods (·=U.heap.size) W5 W5):=hiD (Mods.refl _ _)
   have HFV:Hid (∀ f x,fmOf (L.take 0) f=some x→FmV W (fun k=>¬ k<W.heap.size) x (getL zeroFm [] f)):=hiD (fun f x h=>by simp [fmOf] at h)
   have hb1:U.heap.size+2≤b:=hb0
   clear hW5 hb hm15 hs5 HB5 HQ7 hb0 hm5 hS1 hE5 hN5 hO5 hown H1
   go_wp2_with fail
   clear hcb5
   go_loopw [9,27] (fun _ jv wr=>∃ (i:Nat) (F:List (List UInt8×Value)),i≤vn∧jv=.int .i64 i∧Hid (Mods (·=U.heap.size) W5 wr)∧Hid (NameMap wr (U.heap.size) i zeroFm F)∧Hid (∀ f x,fmOf (L.take i) f=some x→FmV W (fun k=>¬ k<W.heap.size) x (getL zeroFm F f))) (fun _ jv _=>(vn-intOf jv).toNat)
   case atStart=>exact ⟨0,[],Nat.zero_le _,rfl,HM5,HN5,HFV⟩
   case round =>
    clear HM5 HN5 HFV
    obtain ⟨i,F,hi,rfl,HM,HN,HFV⟩:=hrel
    have hmW:Hid (Mods None W wr):=hiD (H5.out.1.trans' HM.out (fun k hk hlt=>by omega))
    have HB:=hiD (H5.out.2.2.2.2.1.mods HM.out (by omega))
    have HQ:=hiD (H5.out.2.2.2.2.2.1.mods HM.out (by omega))
    have q7:=HQ.out.cell (i:=0) rfl
    by_cases hlt:i<vn
    · have hil:i<L.length:=by have:=hvn2.out;omega
      obtain ⟨g,o,ta,tc,sa,sc,rfl,k0,k1,k2,k3,k4,k5⟩:=HV.out.get hil
      have hT:∀ k,k<W.heap.size→(fun k=>¬ k<W.heap.size) k→None k:=fun k h1 h2=>(h2 h1).elim
      have hfv:FmV W (fun k=>¬ k<W.heap.size) L[i] (.agg #[str L[i].name,.int .i64 L[i].params,.slice ta L[i].types.length tc,.slice sa L[i].steps.length sc]):=⟨ta,tc,sa,sc,rfl,k4.mods (Mods.refl _ _) hT,k5.mods (Mods.refl _ _) hT⟩
      have k0:=hmW.out.cellOf k0 (fun f=>f)
      have k1:=hmW.out.cellOf k1 (fun f=>f)
      have k2:=hmW.out.cellOf k2 (fun f=>f)
      have k3:=hmW.out.cellOf k3 (fun f=>f)
      have hnm:=(HL.out.1.ok L[i] (List.getElem_mem hil)).name
      have hi6:i<1000000:=by have:=HL.out.2.2.2;omega
      obtain ⟨W6,hW6⟩:∃ W6,W6=wr.alloc (.cells #[str L[i].name,.int .i64 L[i].params,.slice ta L[i].types.length tc,.slice sa L[i].steps.length sc] 55):=⟨_,rfl⟩
      have hm6:Mods None wr W6:=by rw [hW6];exact (Mods.refl _ _).alloc _
      have HB6:Blk W6 wr.heap.size [str L[i].name,.int .i64 L[i].params,.slice ta L[i].types.length tc,.slice sa L[i].steps.length sc] 55:=by rw [hW6];exact Blk.new wr _ _
      have f0:=HB6.cell (i:=0) rfl
      have f1:=HB6.cell (i:=1) rfl
      have f2:=HB6.cell (i:=2) rfl
      have f3:=HB6.cell (i:=3) rfl
      have q76:=hm6.cellOf q7 (fun f=>f)
      have b06:=(HB.out.mods hm6 (fun f=>f)).cell (i:=0) rfl
      obtain ⟨w7,hu,hn7,hm7⟩:=(HN.out.mods (hm6.drew) (fun f=>f)).put (t:=60) Tryz.underlying60 L[i].name hnm (.agg #[str L[i].name,.int .i64 L[i].params,.slice ta L[i].types.length tc,.slice sa L[i].steps.length sc]) (by unfold maxLen;omega)
      have HM7:Hid (Mods (·=U.heap.size) W5 w7):=hiD ((HM.out.trans ((hm6.drew).mono fun _ _ f=>f.elim)).trans hm7)
      have HN7:=hiD hn7
      have HFV7:Hid (∀ f x,fmOf (L.take (i+1)) f=some x→FmV W (fun k=>¬ k<W.heap.size) x (getL zeroFm (putL F L[i].name (.agg #[str L[i].name,.int .i64 L[i].params,.slice ta L[i].types.length tc,.slice sa L[i].steps.length sc])) f)):=hiD (by
       intro f x hx
       rw [getL_put]
       rw [List.take_succ_eq_append_getElem hil] at hx
       unfold fmOf at hx
       rw [List.find?_append] at hx
       cases hy:fmOf (L.take i) f with
       | some y =>
         have hy2:=hy
         unfold fmOf at hy2
         rw [hy2] at hx
         simp only [Option.some_or,Option.some.injEq] at hx
         subst hx
         have hym:y∈L.take i:=List.mem_of_find?_eq_some hy2
         have hyn:y.name=f:=by have:=List.find?_some hy2;simpa using this
         obtain ⟨j,hj,hjy⟩:=List.getElem_of_mem hym
         rw [List.getElem_take] at hjy
         have hji:j<i:=by rw [List.length_take] at hj;omega
         have hne:=List.pairwise_iff_getElem.1 HL.out.2.1 j i (by omega) hil hji
         rw [hjy,hyn] at hne
         rw [if_neg hne]
         exact HFV.out f y hy
       | none =>
         have hy2:=hy
         unfold fmOf at hy2
         rw [hy2] at hx
         simp only [Option.none_or,List.find?_cons,List.find?_nil] at hx
         by_cases hn:L[i].name=f
         · rw [if_pos hn.symm]
           have hb:(L[i].name==f)=true:=by simpa using hn
           rw [hb] at hx
           obtain rfl:=Option.some.inj hx
           exact hfv
         · have hb:(L[i].name==f)=false:=by simpa using hn
           rw [hb] at hx
           cases hx)
      have hpi:(i:Int)<(vn:Int):=by omega
      clear k4 k5 hfv hn7 hm7 hm6 HB6 hT
      unfold str at k0 f0 hu hW6
      go_upto_region 7 with (fail)
      rw [← hW6]
      clear hW6
      go_region
      go_wp2_with fail
      exact ⟨⟨i+1,_,by omega,by go_num,HM7,HN7,HFV7⟩,by simp [intOf];omega⟩
    · obtain rfl:i=vn:=by omega
      have hpi:¬ (i:Int)<(i:Int):=by omega
      have hmf:∀ (fn:Go.Fn) (first cap:Array Value) (w:World),(Instr.makeFunc fn first cap).run Tryz.prog w=.ok (.func fn first cap) w:=fun _ _ _ _=>rfl
      have hown5:=H5.out.2.2.2.1
      have hUW:=HUW.out.size
      have hb1:=H5.out.2.2.2.2.2.2.2
      have hwr5:=HM.out.size
      have hs5:=H5.out.2.2.2.2.2.2.1
      have hfm:((fuel.toNat:Nat):Int)=max fuel 0:=Int.toNat_eq_max fuel
      have hRR:RAt wr b (U.heap.size) L (fun k=>k<W.heap.size∨k=U.heap.size∨(Value.slice oa given.length oc).ownBlock=some k) (·=b) [] ⟨given,fuel.toNat,0,[],[]⟩:=by
       refine ⟨⟨_,.slice none 0 0,?_,in_of_row (HM.out.ownsRow H5.out.2.2.1 (fun k hk e=>by have:=hown5 k hk;omega)) (fun k hk hnp=>hnp (Or.inr (Or.inr hk))),World.ownsRow_nil _ _ _ _,fun k hk=>by cases hk⟩,rfl,⟨Or.inr (Or.inl rfl),_,F,HN.out,fun g y hy=>?_⟩,rfl,fun j l hl=>by simp at hl,fun g n h=>by simp at h,List.Pairwise.nil,fun k hk=>by rw [hk];omega,fun k hk hp=>?_,fun k hp=>?_,by simp,by simp,?_⟩
       · have:=HB.out
         rw [← hfm] at this
         exact this
       · refine (HFV.out g y (by rw [hvn2.out,List.take_length];exact hy)).mods (hmW.out.mono fun _ _ f=>f.elim) (fun k hk hnp hlt2=>hnp (Or.inl hlt2))
       · rcases hp with hp|hp|hp
         · omega
         · omega
         · have:=hown5 k hp
           omega
       · rcases hp with hp|hp|hp
         · omega
         · omega
         · have:=hown5 k hp
           omega
       · have:=HF.out
         simp only
         omega
      have HEW:=hiD (H5.out.2.1.mods HM.out (by have:=HUS.out;omega))
      have hx:=HX.out
      obtain ⟨z,hz⟩:∃ z,z=callM L f ⟨given,fuel.toNat,0,[],[]⟩ [109,97,105,110] []:=⟨_,rfl⟩
      rw [runM_eq,← hz] at hx
      rcases z with _|⟨y,t⟩
      · cases hx
      have hc:=mcall_good HL.out.1 f [109,97,105,110] [] b (U.heap.size) 0 _ _ [] _ wr (.slice none 0 0) (y,t) hRR (Vals.none_ _ _ _ _ _) (by decide) (by obtain ⟨fn,h1⟩:=HL.out.2.2.1;exact ⟨fn,h1,Nat.zero_le _⟩) hz.symm
      have hx2:endOf (y,t)=x:=Option.some.inj hx
      have hends:=callM_ends hz.symm
      have HX2:=hiD hx2
      have HC:=hiD hc
      have HBN:=hiD (And.intro hb1 (And.intro hwr5 hs5))
      clear hx hx2 hc hz hRR hown5 hb1 hwr5 hs5 hfm
      unfold str at HC
      go_wp2_with fail
      go_at_call 23
      refine HC.out.mono ?_
      rcases hends with ⟨n,hn⟩|⟨wy,hw⟩
      · subst hn
        rintro e w5 ⟨M5,A5,rfl,k1,k2,k3⟩
        have hwr5:=HBN.out.2.1
        have hs5:=HBN.out.2.2
        have hb1:=HBN.out.1
        have hus:=HUS.out
        have hE5:=keep_blk HEW.out k2 (fun e=>by omega) (fun f=>f)
        have hQ5:=keep_blk HQ.out k2 (fun e=>by omega) (fun f=>f)
        obtain ⟨iv5,ov5,hb5,-,ho5,hk5⟩:=k1.blk
        obtain ⟨oa5,oc5,rfl⟩:=row_form ho5
        have HK:=hiD (And.intro hE5 (And.intro hQ5 (And.intro hb5 (And.intro ho5 (And.intro hk5 (And.intro k2 k1.few))))))
        have c0:=hE5.1.cell (i:=0) rfl
        have c1:=hE5.1.cell (i:=1) rfl
        have c2:=hE5.1.cell (i:=2) rfl
        have f0:=hE5.1.free 0
        have f1:=hE5.1.free 1
        have f2:=hE5.1.free 2
        clear hE5 hQ5 hb5 ho5 hk5 k1 k2 k3 HC
        go_wp2
        clear c0 c1 c2 f0 f1 f2
        have hm6:Mods (·=W.heap.size) w5 (((w5.setCell ⟨W.heap.size,0,none⟩ (.int .i64 1)).setCell ⟨W.heap.size,1,none⟩ (.int .i64 n)).setCell ⟨W.heap.size,2,none⟩ (.slice none 0 0)):=((mods_put _ _ _ _).trans (mods_put _ _ _ _)).trans (mods_put _ _ _ _)
        have hB6:=(((HK.out.1.1.set 0 (.int .i64 1)).set 1 (.int .i64 n)).set 2 (.slice none 0 0))
        refine mrun_done (q7:=b+1) (b:=b) rfl hB6 ((HK.out.2.1.1.mods hm6 (by omega)).cell (i:=0) rfl) ((HK.out.2.2.1.mods hm6 (by omega)).cell (i:=4) rfl) ?_
        intro w' hB' hm'
        have hmm:Mods (·=W.heap.size) w5 w':=hm6.trans hm'
        have hx2:=HX2.out
        subst hx2
        have hne:∀ k,(Value.slice oa5 t.out.length oc5).ownBlock=some k→k≠W.heap.size:=fun k hk e=>HK.out.1.2 (e ▸ (HK.out.2.2.2.2.1 k hk).1)
        refine ⟨_,rfl,⟨oa5,oc5,rfl,in_of_row (hmm.ownsRow HK.out.2.2.2.1 hne) (fun _ _ f=>f),HK.out.2.2.2.2.2.2,own_none HK.out.2.2.2.1⟩,?_⟩
        have h1:Mods (fun k=>k=b) W w5:=(hmW.out.mono fun _ _ f=>f.elim).trans (HK.out.2.2.2.2.2.1.mods.mono fun k _ hk=>hk.elim (fun f=>f.elim) id)
        exact (h1.trans' hmm (fun k hk hlt=>by omega)).mono (fun k hk e=>by omega)
      · subst hw
        rintro e w5 ⟨⟨older,rfl⟩,M5,A5,k1,k2,k3⟩
        have hwr5:=HBN.out.2.1
        have hs5:=HBN.out.2.2
        have hb1:=HBN.out.1
        have hus:=HUS.out
        have hE5:=keep_blk HEW.out k2 (fun e=>by omega) (fun f=>f)
        have hQ5:=keep_blk HQ.out k2 (fun e=>by omega) (fun f=>f)
        obtain ⟨iv5,ov5,hb5,-,ho5,hk5⟩:=k1.blk
        obtain ⟨oa5,oc5,rfl⟩:=row_form ho5
        have HK:=hiD (And.intro hE5 (And.intro hQ5 (And.intro hb5 (And.intro ho5 (And.intro hk5 (And.intro k2 k1.few))))))
        clear hE5 hQ5 hb5 ho5 hk5 k1 k2 k3 HC
        go_wp2
        refine mrun_stop older (q7:=b+1) (b:=b) rfl HK.out.1.1 (HK.out.2.1.1.cell (i:=0) rfl) (HK.out.2.2.1.cell (i:=4) rfl) (by omega) (by omega) ?_
        intro w' hB' hmm
        have hx2:=HX2.out
        subst hx2
        have hne:∀ k,(Value.slice oa5 t.out.length oc5).ownBlock=some k→k≠W.heap.size:=fun k hk e=>HK.out.1.2 (e ▸ (HK.out.2.2.2.2.1 k hk).1)
        refine ⟨_,rfl,⟨oa5,oc5,rfl,in_of_row (hmm.ownsRow HK.out.2.2.2.1 hne) (fun _ _ f=>f),HK.out.2.2.2.2.2.2,own_none HK.out.2.2.2.1⟩,?_⟩
        have h1:Mods (fun k=>k=b) W w5:=(hmW.out.mono fun _ _ f=>f.elim).trans (HK.out.2.2.2.2.2.1.mods.mono fun k _ hk=>hk.elim (fun f=>f.elim) id)
        exact (h1.trans' hmm (fun k hk hlt=>by omega)).mono (fun k hk e=>by omega)
theorem getD_some {l:List Int} {i:Nat} (h:i<l.length):l[i]?=some (l.getD i 0):=by simp [h]
theorem quiet_drew {W wr:World} (h:∃ d,wr=W.drewN d):∃ d,wr.drew=W.drewN d:=by
 obtain ⟨d,rfl⟩:=h
 exact ⟨d+1,rfl⟩
theorem equal_len (a1 a2:Option Addr) (n1 n2 c1 c2:Nat) (W:World) (h:¬ n1=n2) (h1:n1≤maxLen) (h2:n2≤maxLen) :
 Calls Tryz.prog 11 #[.slice a1 n1 c1,.slice a2 n2 c2] W fun e W'=>e=.returned (.bool false)∧∃ d,W'=W.drewN d:=by
 have hb:((n1:Int) != n2)=true:=by simp;omega
 unfold maxLen at h1 h2
 go_enter Tryz.func11,Tryz.ntmps11
 go_wp2
 go_ret
 exact ⟨rfl,0,rfl⟩
set_option maxHeartbeats 400000 in
theorem equal_quiet (v1 v2:Value) (l1 l2:List Int) (W:World) (h1:InAt W None v1 l1) (h2:InAt W None v2 l2) :
 Calls Tryz.prog 11 #[v1,v2] W fun e W'=>e=.returned (.bool (l1==l2))∧∃ d,W'=W.drewN d:=by
 obtain ⟨a1,n1,c1,rfl,hn1,hnc1,hm1,hc1⟩:=h1
 obtain ⟨a2,n2,c2,rfl,hn2,hnc2,hm2,hc2⟩:=h2
 by_cases hne:n1=n2
 · subst hne
   have HC1:=hiD hc1
   have HC2:=hiD hc2
   have HN1:=hiD hn1
   have HN2:=hiD hn2
   clear hn1 hn2 hc1 hc2
   have hb:((n1:Int) != n1)=false:=by simp
   unfold maxLen at hm1 hm2
   go_enter Tryz.func11,Tryz.ntmps11
   go_wp2
   go_loopw [13] (fun v wr=>∃ i:Nat,i≤n1∧v=.int .i64 i∧Hid (l1.take i=l2.take i)∧Hid (∃ d,wr=W.drewN d)) (fun v _=>(n1-intOf v).toNat)
   case atStart=>exact ⟨0,Nat.zero_le _,rfl,hiD rfl,hiD ⟨0,rfl⟩⟩
   case round =>
    obtain ⟨i,hi,rfl,heq,hq⟩:=hrel
    have hm:Hid (Mods None W wr):=hiD (by obtain ⟨d,rfl⟩:=hq.out;exact (Mods.refl _ _).drewN d)
    by_cases hlt:i<n1
    · have hx1:=getD_some (l:=l1) (i:=i) (by rw [← HN1.out];exact hlt)
      have hx2:=getD_some (l:=l2) (i:=i) (by rw [← HN2.out];exact hlt)
      obtain ⟨x1,e1⟩:∃ x1,x1=l1.getD i 0:=⟨_,rfl⟩
      obtain ⟨x2,e2⟩:∃ x2,x2=l2.getD i 0:=⟨_,rfl⟩
      rw [← e1] at hx1
      rw [← e2] at hx2
      obtain ⟨g1,o1,he1,-,hc1⟩:=HC1.out i x1 hx1
      obtain ⟨g2,o2,he2,-,hc2⟩:=HC2.out i x2 hx2
      have hc1':=hm.out.cellOf hc1 (fun f=>f)
      have hc2':=hm.out.cellOf hc2 (fun f=>f)
      have HX1:=hiD hx1
      have HX2:=hiD hx2
      subst he1 he2
      clear hc1 hc2 hx1 hx2 e1 e2
      by_cases hx:x1=x2
      · have hxb:(x1 != x2)=false:=by simpa using hx
        have hnext:Hid (l1.take (i+1)=l2.take (i+1)):=hiD (by
         have f1:=List.take_add_one (l:=l1) (i:=i)
         have f2:=List.take_add_one (l:=l2) (i:=i)
         rw [f1,f2,HX1.out,HX2.out,heq.out,hx])
        clear hx
        go_wp2
        go_region
        go_wp2
        go_roundw
        case rel=>exact ⟨i+1,by omega,by go_num,hnext,hiD (quiet_drew hq.out)⟩
        case measure=>simp [intOf];omega
      · have hxb:(x1 != x2)=true:=by simpa using hx
        have hfin:Hid ((l1==l2)=false):=hiD (by
         rw [beq_eq_false_iff_ne]
         intro e
         rw [e,HX2.out] at HX1
         have:=HX1.out
         simp only [Option.some.injEq] at this
         exact hx this.symm)
        clear hx
        go_wp2
        go_region
        go_wp2
        go_ret
        rw [hfin.out]
        exact ⟨rfl,quiet_drew hq.out⟩
    · obtain rfl:i=n1:=by omega
      have hfin:Hid ((l1==l2)=true):=hiD (by
         have h3:=heq.out
         rw [List.take_of_length_le (by rw [← HN1.out];exact Nat.le_refl _),List.take_of_length_le (by rw [← HN2.out];exact Nat.le_refl _)] at h3
         rw [h3];simp)
      go_wp2
      go_ret
      rw [hfin.out]
      exact ⟨rfl,hq.out⟩
 · have hl:(l1==l2)=false:=by
    rw [beq_eq_false_iff_ne]
    intro e
    rw [hn1,hn2,e] at hne
    exact hne rfl
   rw [hl]
   exact equal_len a1 a2 n1 n2 c1 c2 W hne (by omega) (by omega)
theorem equal_any (v1 v2:Value) (l1 l2:List Int) (W:World) (h1:InAt W None v1 l1) (h2:InAt W None v2 l2) :
 Calls Tryz.prog 11 #[v1,v2] W fun e W'=>e=.returned (.bool (l1==l2))∧Mods None W W' :=
 (equal_quiet v1 v2 l1 l2 W h1 h2).mono fun e W' ⟨he,d,hd⟩=>⟨he,by rw [hd];exact (Mods.refl _ _).drewN d⟩
theorem EndV.form {W:World} {x:Int×Int×List Int} {v:Value} (h:EndV W x v):∃ oa n oc,v=.agg #[.int .i64 x.1,.int .i64 x.2.1,.slice oa n oc]∧n=x.2.2.length∧n≤oc∧oc≤9223372036854775807∧InAt W None (.slice oa n oc) x.2.2∧(oa=none→oc=0):=by
 obtain ⟨oa,oc,h1,h2,h3,h4⟩:=h
 obtain ⟨a',n',c',e,k1,k2,k3,k4⟩:=h2
 obtain ⟨rfl,rfl,rfl⟩:=Value.slice.inj e
 exact ⟨oa,_,oc,h1,rfl,k2,k3,⟨_,_,_,rfl,rfl,k2,k3,k4⟩,h4⟩
set_option maxRecDepth 100000 in
set_option maxHeartbeats 1000000 in
theorem same_end (x:Int×Int×List Int) (u v:Value) (W:World) (hu:EndV W x u) (hv:EndV W x v) :
 Calls Tryz.prog 12 #[u,v] W fun e w=>e=.returned (.bool true)∧Mods None W w:=by
 obtain ⟨xa,n,xc,rfl,hn,hx1,hx2,hxi,hx0⟩:=hu.form
 obtain ⟨ya,m,yc,rfl,hm,hy1,hy2,hyi,hy0⟩:=hv.form
 obtain rfl:n=m:=by omega
 obtain ⟨x1,x2,o⟩:=x
 simp only at hxi hyi hn ⊢
 obtain ⟨W3,hW3⟩:∃ W3,W3=((W.alloc (.cells #[.int .i64 x1,.int .i64 x2,.slice xa n xc] 31)).alloc (.cells #[.int .i64 x1,.int .i64 x2,.slice ya n yc] 31)):=⟨_,rfl⟩
 have hm3:Mods None W W3:=by rw [hW3];exact ((Mods.refl _ _).alloc _).alloc _
 have HM:=hiD hm3
 have HBX:Blk W3 W.heap.size [.int .i64 x1,.int .i64 x2,.slice xa n xc] 31:=by rw [hW3];exact (Blk.new W _ _).alloc _
 have HBY:Blk W3 (W.heap.size+1) [.int .i64 x1,.int .i64 x2,.slice ya n yc] 31:=by
  rw [hW3]
  have:=Blk.new (W.alloc (.cells #[.int .i64 x1,.int .i64 x2,.slice xa n xc] 31)) #[.int .i64 x1,.int .i64 x2,.slice ya n yc] 31
  simpa using this
 have cx0:=HBX.cell (i:=0) rfl
 have cx1:=HBX.cell (i:=1) rfl
 have cx2:=HBX.cell (i:=2) rfl
 have cy0:=HBY.cell (i:=0) rfl
 have cy1:=HBY.cell (i:=1) rfl
 have cy2:=HBY.cell (i:=2) rfl
 have hb1:(x1==x1)=true:=beq_self_eq_true _
 have hb2:(x2==x2)=true:=beq_self_eq_true _
 have HQ:=hiD (equal_any _ _ o o W3 (hxi.mods hm3 (fun _ _ f=>f)) (hyi.mods hm3 (fun _ _ f=>f)))
 clear hu hv hn hm hxi hyi hm3 HBX HBY hx0 hy0
 go_enter Tryz.func12,Tryz.ntmps12
 go_upto_region 1 with (fail)
 rw [← hW3]
 clear hW3
 go_wp2_with fail
 go_at_call 11
 refine HQ.out.mono ?_
 rintro e w ⟨rfl,hm⟩
 have HM2:=hiD (HM.out.trans hm)
 clear hm
 rw [beq_self_eq_true]
 go_wp2_with fail
 go_ret
 exact ⟨rfl,HM2.out⟩
end Go.Proofs.YtnicpmoanjddbaaGreatDoor.MidP

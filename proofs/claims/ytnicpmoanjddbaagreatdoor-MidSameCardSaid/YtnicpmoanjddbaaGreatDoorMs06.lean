/- The closure that catches what the reader throws. No conditions. Laws of append as one step of a region that draws its order. No program in sight. No conditions. Parse. Conditions: that what it reads of the package's variables lies as the program lays it. What is found of a program, plainly. No program in sight. No conditions. -/
import Derived.Test.YtnicpmoanjddbaaGreatDoorMs02
import Derived.Defers
import Derived.Recover
import Derived.Maps.AppendAt
import Derived.Laws.AppendOwnNone
import Derived.RegionTactic
import Derived.Deep.RegionLaw
import Derived.Test.YtnicpmoanjddbaaGreatDoorMs03
import Derived.Test.YtnicpmoanjddbaaGreatDoorMs05
import Derived.Deep.RegionWith
import Derived.Deep.RegionHeld3
import Derived.Test.YtnicpmoanjddbaaGreatDoorMs01
namespace Go.Proofs.YtnicpmoanjddbaaGreatDoor.TreeP
open Go.RowKit Go.Proofs.YtnicpmoanjddbaaGreatDoor.Wo
set_option linter.unusedVariables false
set_option linter.unusedSimpArgs false
theorem catch_idle (p q:Addr) (w:World) :
 CallsD Tryz.prog 28 #[.pointer (some p),.pointer (some q)] .returning w fun e u' w'=>e=.returned (.tuple #[])∧u'=.returning∧w'=w:=by
 refine callsD_of_wpS Tryz.func28 rfl fun c₀ cs hu=>?_
 apply wpS_seq
 apply wpS_region
 simp [wpOpsS,go_sem,recoverD,hu,Tryz.ntmps28,Exit.thenS]
 refine wpS_of_wp ?_
 change Code.wp _ _ _ { tmps:=#[.pointer (some p),.pointer (some q),.nilIface,undef,undef,.nilIface,undef,undef,undef,undef,undef,undef,undef,undef,undef,undef,undef,undef],defers:=[] } w
 go_wp2
 cases c₀
 simp_all [bodyPostS,results,Tryz.results28]
theorem is_wrong (v:Value) (w:World):Sem.run Tryz.prog (Instr.typeAssert (.iface 70 v) 20 70 true) w=.ok (.tuple #[v,.bool true]) w:=by
 simp [Instr.typeAssert,run_underlying Tryz.underlying70]
set_option maxRecDepth 100000 in
theorem catch_thrown (p q g:Nat) (hpq:p≠q) (vp vq:Value) (older:List PanicEntry) (w:World) (hp:w.cell? ⟨p,0,none⟩=some vp) (hq:w.cell? ⟨q,0,none⟩=some vq) (fp:w.frozen? ⟨p,0,none⟩=false) (fq:w.frozen? ⟨q,0,none⟩=false) :
 CallsD Tryz.prog 28 #[.pointer (some ⟨p,0,none⟩),.pointer (some ⟨q,0,none⟩)] (.panicking ({ v:=wrongV g,recovered:=false }::older)) w fun e u' w' =>
  e=.returned (.tuple #[])∧u'=.panicking ({ v:=wrongV g,recovered:=true }::older)∧w'=(((w.setCell ⟨p,0,none⟩ (.slice none 0 0)).setCell ⟨q,0,none⟩ (.iface 134 (.pointer (some ⟨g,0,none⟩)))).alloc (.cells #[.iface 134 (.pointer (some ⟨g,0,none⟩))] 70)).drew:=by
 refine callsD_of_wpS Tryz.func28 rfl fun c₀ cs hu=>?_
 apply wpS_seq
 apply wpS_region
 unfold wrongV at hu
 simp [wpOpsS,go_sem,recoverD,hu,Tryz.ntmps28,Exit.thenS]
 refine wpS_of_wp ?_
 change Code.wp _ _ _ { tmps:=#[.pointer (some ⟨p,0,none⟩),.pointer (some ⟨q,0,none⟩),.iface 70 (.agg #[.iface 134 (.pointer (some ⟨g,0,none⟩))]),undef,undef,.iface 70 (.agg #[.iface 134 (.pointer (some ⟨g,0,none⟩))]),undef,undef,undef,undef,undef,undef,undef,undef,undef,undef,undef,undef],defers:=[] } w
 have hta:=is_wrong (.agg #[.iface 134 (.pointer (some ⟨g,0,none⟩))]) w
 have hlp:p<w.heap.size:=World.block_lt_of_cell? w _ hp
 have hlq:q<w.heap.size:=World.block_lt_of_cell? w _ hq
 go_wp2_with fail
 go_region
 clear hta hlp hlq hp hq fp fq
 change bodyPostS Tryz.prog Tryz.f28 c₀ cs _ _ _ _ _
 cases c₀
 simp_all [bodyPostS,results,Tryz.results28,wrongV]
structure Laid (W:World):Prop where
 marks:Marks W
 lev:Levels W W.heap.size
 rng:RangeAt W W.heap.size
theorem Laid.next {W W':World} (h:Laid W) (hm:Mods None W W'):Laid W':=by
 refine ⟨fun i m hi=>hm.cellOf (h.marks i m hi) (fun f=>f),?_,?_⟩
 · refine ⟨Nat.lt_of_lt_of_le h.lev.1 hm.size,fun i l hl=>?_⟩
   obtain ⟨p,o,c,h1,h2,h3,h4,h5⟩:=h.lev.2 i l hl
   exact ⟨p,o,c,hm.cellOf h1 (fun f=>f),h2,h3,Nat.lt_of_lt_of_le h4 hm.size,fun j m hj=>hm.cellOf (h5 j m hj) (fun f=>f)⟩
 · obtain ⟨h1,t,p,h2⟩:=h.rng
   exact ⟨Nat.lt_of_lt_of_le h1 hm.size,t,p,hm.cellOf h2 (fun f=>f)⟩
def Parsed (W:World):Except (Int×Int) (List Fn)→Ending→World→Prop
 | .error (n,a)=>fun e w=>∃ g,e=.returned (.tuple #[.slice none 0 0,.iface 134 (.pointer (some ⟨g,0,none⟩))])∧Blk w g [.int .i64 n,.int .i64 a] 136∧Mods None W w
 | .ok l=>fun e w=>∃ v vs,e=.returned (.tuple #[v,.nilIface])∧RowAt w None 84 4 v l.length vs∧FnsAt w None l vs∧Mods None W w
theorem door_thrown {W w:World} {g:Nat} {n a:Int} {v u:Value} {tmps:Array Value} (h2:tmps[2]?.getD undef=.pointer (some ⟨W.heap.size,0,none⟩)) (h3:tmps[3]?.getD undef=.pointer (some ⟨W.heap.size+1,0,none⟩))
 (hA:Blk w W.heap.size [v] 36) (hB:Blk w (W.heap.size+1) [u] 38) (hE:Blk w g [.int .i64 n,.int .i64 a] 136) (hM:Mods None W w) :
 Leaves Tryz.prog Tryz.f13 tmps (Parsed W (.error (n,a))) [{ target:=Target.fn (Go.Fn.func 28) #[.pointer (some ⟨W.heap.size,0,none⟩),.pointer (some ⟨W.heap.size+1,0,none⟩)],args:=#[] }] (.panicking [{ v:=wrongV g,recovered:=false }]) w:=by
 refine leaves_cons (f:=28) (args:=#[.pointer (some ⟨W.heap.size,0,none⟩),.pointer (some ⟨W.heap.size+1,0,none⟩)]) (by simp) (by simp [go_sem]) ?_
 refine (catch_thrown W.heap.size (W.heap.size+1) g (by omega) v u [] w (hA.cell (i:=0) rfl) (hB.cell (i:=0) rfl) (hA.free 0) (hB.free 0)).mono ?_
 rintro e u' w'' ⟨rfl,rfl,rfl⟩
 have hAf:=((blk_put (ds:=[.slice none 0 0]) hA 0 (.slice none 0 0) rfl).other (a:=⟨W.heap.size+1,0,none⟩) (by simp) (.iface 134 (.pointer (some ⟨g,0,none⟩)))).alloc (.cells #[.iface 134 (.pointer (some ⟨g,0,none⟩))] 70)
 have hBf:=(blk_put (ds:=[.iface 134 (.pointer (some ⟨g,0,none⟩))]) (hB.other (a:=⟨W.heap.size,0,none⟩) (by simp) (.slice none 0 0)) 0 (.iface 134 (.pointer (some ⟨g,0,none⟩))) rfl).alloc (.cells #[.iface 134 (.pointer (some ⟨g,0,none⟩))] 70)
 have hm3:=(((mods_put w W.heap.size 0 (.slice none 0 0)).mono (T:=Two W.heap.size (W.heap.size+1)) (fun k _ hk=>Or.inl hk)).trans ((mods_put _ (W.heap.size+1) 0 (.iface 134 (.pointer (some ⟨g,0,none⟩)))).mono (T:=Two W.heap.size (W.heap.size+1)) (fun k _ hk=>Or.inr hk))).alloc (.cells #[.iface 134 (.pointer (some ⟨g,0,none⟩))] 70)
 have hEf:=hE.mods hm3 (by
  rintro (h|h)
  · rw [h] at hE;unfold Blk at hE hA;rw [hA] at hE;simp at hE
  · rw [h] at hE;unfold Blk at hE hB;rw [hB] at hE;simp at hE)
 have hMf:=hM.trans' hm3 (by rintro k (rfl|rfl) hk <;> omega)
 obtain ⟨wf,hwf⟩:∃ q,q=((w.setCell ⟨W.heap.size,0,none⟩ (.slice none 0 0)).setCell ⟨W.heap.size+1,0,none⟩ (.iface 134 (.pointer (some ⟨g,0,none⟩)))).alloc (.cells #[.iface 134 (.pointer (some ⟨g,0,none⟩))] 70):=⟨_,rfl⟩
 rw [← hwf] at hAf hBf hEf hMf ⊢
 have ra:wf.drew.cell? ⟨W.heap.size,0,none⟩=some (.slice none 0 0):=hAf.cell (i:=0) rfl
 have rb:wf.drew.cell? ⟨W.heap.size+1,0,none⟩=some (.iface 134 (.pointer (some ⟨g,0,none⟩))):=hBf.cell (i:=0) rfl
 have HF:=hiD (show Parsed W (.error (n,a)) (.returned (.tuple #[.slice none 0 0,.iface 134 (.pointer (some ⟨g,0,none⟩))])) wf.drew from ⟨g,rfl,hEf.drew,hMf.drew⟩)
 clear hAf hBf hEf hMf hm3 hwf hA hB hE
 obtain ⟨wd,hwd⟩:∃ q,q=wf.drew:=⟨_,rfl⟩
 rw [← hwd] at ra rb HF ⊢
 simp [Leaves,settle,results,Tryz.results13,go_sem,h2,h3,ra,rb]
 exact HF.out
theorem door_plain {W w:World} {R:Ending→World→Prop} {v u:Value} {tmps:Array Value} (h2:tmps[2]?.getD undef=.pointer (some ⟨W.heap.size,0,none⟩)) (h3:tmps[3]?.getD undef=.pointer (some ⟨W.heap.size+1,0,none⟩))
 (hA:w.cell? ⟨W.heap.size,0,none⟩=some v) (hB:w.cell? ⟨W.heap.size+1,0,none⟩=some u) (h:R (.returned (.tuple #[v,u])) w) :
 Leaves Tryz.prog Tryz.f13 tmps R [{ target:=Target.fn (Go.Fn.func 28) #[.pointer (some ⟨W.heap.size,0,none⟩),.pointer (some ⟨W.heap.size+1,0,none⟩)],args:=#[] }] .returning w:=by
 refine leaves_cons (f:=28) (args:=#[.pointer (some ⟨W.heap.size,0,none⟩),.pointer (some ⟨W.heap.size+1,0,none⟩)]) (by simp) (by simp [go_sem]) ?_
 refine (catch_idle ⟨W.heap.size,0,none⟩ ⟨W.heap.size+1,0,none⟩ _).mono ?_
 rintro e u' w'' ⟨rfl,rfl,rfl⟩
 have H:=hiD h
 clear h
 simp [Leaves,settle,results,Tryz.results13,go_sem,h2,h3,hA,hB]
 exact H.out
set_option maxRecDepth 100000 in
set_option maxHeartbeats 1600000 in
theorem parse_bad (s:List UInt8) (f:Nat) (n a:Int) (W:World) (hL:Laid W) (hlen:s.length≤10000000) (hx:lexF f s 0 0=some (.error (n,a))) :
 Calls Tryz.prog 13 #[str s] W (Parsed W (.error (n,a))):=by
 have hmf:∀ (fn:Go.Fn) (first cap:Array Value) (w:World),(Instr.makeFunc fn first cap).run Tryz.prog w=.ok (.func fn first cap) w:=fun _ _ _ _=>rfl
 have HM:=hiD (((Mods.refl None W).alloc (.cells #[.slice none 0 0] 36)).alloc (.cells #[.nilIface] 38))
 have HC:=hiD (fun (w:World) (hm:Mods None W w)=>tokens_any s f _ w (hL.next hm).marks hlen hx)
 have HA0:=hiD ((Blk.new W #[.slice none 0 0] 36).alloc (.cells #[.nilIface] 38))
 have hB0:=Blk.new (W.alloc (.cells #[.slice none 0 0] 36)) #[.nilIface] 38
 rw [show (W.alloc (.cells #[.slice none 0 0] 36)).heap.size=W.heap.size+1 by simp] at hB0
 have HB0:=hiD hB0
 clear hL hx hB0
 unfold str at *
 go_enter_defers Tryz.func13,Tryz.ntmps13
 go_wp2_with fail
 go_at_call 29
 refine (HC.out _ HM.out).mono ?_
 rintro e w1 ⟨g,rfl,hb,hm⟩
 have HA1:=hiD (HA0.out.mods hm (fun f=>f))
 have HB1:=hiD (HB0.out.mods hm (fun f=>f))
 have HM1:=hiD (HM.out.trans hm)
 have HE1:=hiD hb
 have ca:=HA1.out.cell (i:=0) rfl
 have cb:=HB1.out.cell (i:=0) rfl
 have fa:=HA1.out.free 0
 have fb:=HB1.out.free 0
 have hla:=HA1.out.lt
 have hlb:=HB1.out.lt
 clear hm hb
 go_wp2_with fail
 go_region
 go_wp2
 refine leaves_cons (f:=28) (args:=#[.pointer (some ⟨W.heap.size,0,none⟩),.pointer (some ⟨W.heap.size+1,0,none⟩)]) (by simp) (by simp [go_sem]) ?_
 refine (catch_idle ⟨W.heap.size,0,none⟩ ⟨W.heap.size+1,0,none⟩ _).mono ?_
 rintro e u' w'' ⟨rfl,rfl,rfl⟩
 have hm3:=((mods_put w1 (W.heap.size+1) 0 (.iface 134 (.pointer (some ⟨g,0,none⟩)))).mono (T:=Two W.heap.size (W.heap.size+1)) (fun k _ hk=>Or.inr hk)).trans (((mods_put _ W.heap.size 0 (.slice none 0 0)).mono (T:=Two W.heap.size (W.heap.size+1)) (fun k _ hk=>Or.inl hk)).trans ((mods_put _ (W.heap.size+1) 0 (.iface 134 (.pointer (some ⟨g,0,none⟩)))).mono (T:=Two W.heap.size (W.heap.size+1)) (fun k _ hk=>Or.inr hk)))
 have hAf:=(blk_put (ds:=[.slice none 0 0]) (HA1.out.other (a:=⟨W.heap.size+1,0,none⟩) (by simp) (.iface 134 (.pointer (some ⟨g,0,none⟩)))) 0 (.slice none 0 0) rfl).other (a:=⟨W.heap.size+1,0,none⟩) (by simp) (.iface 134 (.pointer (some ⟨g,0,none⟩)))
 have hBf:=blk_put (ds:=[.iface 134 (.pointer (some ⟨g,0,none⟩))]) ((blk_put (ds:=_) HB1.out 0 (.iface 134 (.pointer (some ⟨g,0,none⟩))) rfl).other (a:=⟨W.heap.size,0,none⟩) (by simp) (.slice none 0 0)) 0 (.iface 134 (.pointer (some ⟨g,0,none⟩))) rfl
 have hEf:=HE1.out.mods hm3 (by
  have:=HE1.out.lt
  rintro (h|h)
  · rw [h] at HE1;have:=HA1.out;have h2:=HE1.out;unfold Blk at this h2;rw [this] at h2;simp at h2
  · rw [h] at HE1;have:=HB1.out;have h2:=HE1.out;unfold Blk at this h2;rw [this] at h2;simp at h2)
 have hMf:=HM1.out.trans' hm3 (by rintro k (rfl|rfl) hk <;> omega)
 obtain ⟨wf,hwf⟩:∃ q,q=((w1.setCell ⟨W.heap.size+1,0,none⟩ (.iface 134 (.pointer (some ⟨g,0,none⟩)))).setCell ⟨W.heap.size,0,none⟩ (.slice none 0 0)).setCell ⟨W.heap.size+1,0,none⟩ (.iface 134 (.pointer (some ⟨g,0,none⟩))):=⟨_,rfl⟩
 rw [← hwf] at hAf hBf hEf hMf ⊢
 have ra:wf.drew.cell? ⟨W.heap.size,0,none⟩=some (.slice none 0 0):=hAf.cell (i:=0) rfl
 have rb:wf.drew.cell? ⟨W.heap.size+1,0,none⟩=some (.iface 134 (.pointer (some ⟨g,0,none⟩))):=hBf.cell (i:=0) rfl
 have HF:=hiD (show Parsed W (.error (n,a)) (.returned (.tuple #[.slice none 0 0,.iface 134 (.pointer (some ⟨g,0,none⟩))])) wf.drew from ⟨g,rfl,hEf.drew,hMf.drew⟩)
 clear hAf hBf hEf hMf hm3 hwf ca cb
 obtain ⟨wd,hwd⟩:∃ q,q=wf.drew:=⟨_,rfl⟩
 rw [← hwd] at ra rb HF ⊢
 simp [Leaves,settle,results,Tryz.results13,go_sem,ra,rb]
 exact HF.out
def PS (n b:Nat):Nat→Prop:=fun k=>k=b∨k=n∨k=n+1
theorem fcells_one (s:ByteArray) (a:Int) (oa:Option Addr) (on oc:Nat) (ob:Option Addr) (om od:Nat):∀ u∈[Value.string s,.int .i64 a,.slice oa on oc,.slice ob om od],u.oneCell'=true:=by
 intro u hu
 simp only [List.mem_cons,List.not_mem_nil,or_false] at hu
 rcases hu with rfl|rfl|rfl|rfl <;> rfl
theorem four_new (W:World) (z0 z1 z2 z3:Value) (e:TypeId):∀ j u,[z0,z1,z2,z3][j]?=some u→(W.alloc (.cells #[z0,z1,z2,z3] e)).cell? ((⟨W.heap.size,0,none⟩:Addr).add j)=some u:=by
 intro j u hj
 have h:=(Blk.new W #[z0,z1,z2,z3] e).cell (i:=j) (v:=u) hj
 cases j with
 | zero=>exact h
 | succ j=>simpa [Addr.add] using h
structure ProgS (W wr:World) (b:Nat) (l:List Fn) (r:List Tok) (v:Value):Prop where
 ca:Blk wr W.heap.size [v] 36
 cb:Blk wr (W.heap.size+1) [.nilIface] 38
 row:∃ vs,Grows wr (b+1) (PS W.heap.size b) 84 4 v l.length vs∧FnsAt wr (Own (PS W.heap.size b) v) l vs
 rd:Rd wr b (PS W.heap.size b) r
 mods:Mods None W wr
 lt:W.heap.size+1<b
def ProgAt (f:Nat) (W:World) (b:Nat) (x:Except (Int×Int) (List Fn×List Tok)) (wr:World):Prop :=
 ∃ ff l r oa oc,ff≤f∧programF ff l r=some x∧l.length≤12∧ProgS W wr b l r (.slice oa l.length oc)
theorem lev_at {W w:World} {b:Nat} (h:Laid W) (hm:Mods None W w) (hb:W.heap.size≤b):Levels w b∧RangeAt w b:=by
 refine ⟨⟨Nat.lt_of_lt_of_le h.lev.1 hb,fun i l hl=>?_⟩,?_⟩
 · obtain ⟨p,o,c2,h3,h4,h5,h6,h7⟩:=h.lev.2 i l hl
   exact ⟨p,o,c2,hm.cellOf h3 (fun f=>f),h4,h5,Nat.lt_of_lt_of_le h6 hb,fun j m hj=>hm.cellOf (h7 j m hj) (fun f=>f)⟩
 · obtain ⟨h1,t,p,h2⟩:=h.rng
   exact ⟨Nat.lt_of_lt_of_le h1 hb,t,p,hm.cellOf h2 (fun f=>f)⟩
theorem par_put {w:World} {b q:Nat} {ts:List Tok} {oa:Option Addr} {n c:Nat} {T:TypeId} (h:Par w b ts) (hq:Blk w q [.slice oa n c] T) (hne:q≠b) (v:Value):Par (w.setCell ⟨q,0,none⟩ v) b ts:=by
 obtain ⟨g,o,c2,hp⟩:=h
 have hg:¬ g=q:=by
  intro he
  obtain ⟨t,r,hr⟩:=ends_cons hp.ends
  rw [hr] at hp
  have h1:=hp.ck
  rw [he] at h1
  unfold Blk at hq
  simp only [World.cell?,hq] at h1
  cases o with
  | zero=>simp at h1
  | succ o=>simp at h1
 exact ⟨g,o,c2,hp.mods (mods_put w q 0 v) (fun h=>hne h.symm) hg⟩
theorem functionAll:∀ f,FunctionC f
 | 0=>fun _ _ _ _ _ _ h=>by simp [functionF] at h
 | f+1=>function_of f
set_option maxRecDepth 100000 in
set_option maxHeartbeats 4000000 in
theorem parse_run (s:List UInt8) (f fp:Nat) (ts:List Tok) (x:Except (Int×Int) (List Fn×List Tok)) (W:World) (hL:Laid W) (hlen:s.length≤10000000) (hx:lexF f s 0 0=some (.ok ts)) (hp:programF fp [] ts=some x) :
 Calls Tryz.prog 13 #[str s] W (Parsed W (dropRest x)):=by
 have hmf:∀ (fn:Go.Fn) (first cap:Array Value) (w:World),(Instr.makeFunc fn first cap).run Tryz.prog w=.ok (.func fn first cap) w:=fun _ _ _ _=>rfl
 have HM:=hiD (((Mods.refl None W).alloc (.cells #[.slice none 0 0] 36)).alloc (.cells #[.nilIface] 38))
 have HC:=hiD (fun (w:World) (hm:Mods None W w)=>tokens_any s f _ w (hL.next hm).marks hlen hx)
 have HL:=hiD (fun (w:World) (hm:Mods None W w)=>hL.next hm)
 have HP:=hiD hp
 have HA0:=hiD ((Blk.new W #[.slice none 0 0] 36).alloc (.cells #[.nilIface] 38))
 have hB0:=Blk.new (W.alloc (.cells #[.slice none 0 0] 36)) #[.nilIface] 38
 rw [show (W.alloc (.cells #[.slice none 0 0] 36)).heap.size=W.heap.size+1 by simp] at hB0
 have HB0:=hiD hB0
 obtain ⟨i0,hi,hz0,hz1,hz2⟩:=info_parts func_info
 have HI:=hiD (⟨hi,hz0,hz1,hz2⟩:_∧_∧_∧_)
 clear hL hx hB0 hp hi hz0 hz1 hz2
 unfold str at *
 go_enter_defers Tryz.func13,Tryz.ntmps13
 go_wp2_with fail
 go_at_call 29
 refine (HC.out _ HM.out).mono ?_
 rintro e w1 ⟨g,c,rfl,hcap,hmax,hl2,hgl,htoks,hends,hmade,hm⟩
 have HA1:=hiD (HA0.out.mods hm (fun f=>f))
 have HB1:=hiD (HB0.out.mods hm (fun f=>f))
 have HM1:=hiD (HM.out.trans hm)
 have HT1:=hiD (⟨hcap,hmax,hl2,hgl,htoks,hends,hmade⟩:_∧_∧_∧_∧_∧_∧_)
 have ca:=HA1.out.cell (i:=0) rfl
 have cb:=HB1.out.cell (i:=0) rfl
 have fa:=HA1.out.free 0
 have fb:=HB1.out.free 0
 have hla:=HA1.out.lt
 have hlb:=HB1.out.lt
 clear hm hcap hmax hl2 hgl htoks hends hmade HM HC HA0 HB0
 go_wp2_with fail
 have hS1:Mods None W (w1.setCell ⟨W.heap.size+1,0,none⟩ .nilIface):=HM1.out.trans' (mods_put w1 (W.heap.size+1) 0 .nilIface) (by rintro k rfl hk;omega)
 have hsz:(w1.setCell ⟨W.heap.size+1,0,none⟩ .nilIface).heap.size=w1.heap.size:=by simp [World.setCell]
 have hA2:=(HA1.out.other (a:=⟨W.heap.size+1,0,none⟩) (by simp) .nilIface).alloc (.cells #[.slice (some ⟨g,0,none⟩) ts.length c] 77)
 have hB2:=(blk_put (ds:=[.nilIface]) HB1.out 0 .nilIface rfl).alloc (.cells #[.slice (some ⟨g,0,none⟩) ts.length c] 77)
 have hP2:=Blk.new (w1.setCell ⟨W.heap.size+1,0,none⟩ .nilIface) #[.slice (some ⟨g,0,none⟩) ts.length c] 77
 rw [hsz] at hP2
 have hm2:Mods None W ((w1.setCell ⟨W.heap.size+1,0,none⟩ .nilIface).alloc (.cells #[.slice (some ⟨g,0,none⟩) ts.length c] 77)):=hS1.alloc _
 have hg1:¬ g=W.heap.size+1:=by
  intro h
  obtain ⟨hcap,hmax,hl2,hgl,htoks,hends,hmade⟩:=HT1.out
  obtain ⟨t,r,rfl⟩:=ends_cons hends
  have h1:=(htoks 0 t rfl).1
  rw [h] at h1
  have h2:=HB1.out.cell (i:=0) rfl
  simp only [Nat.zero_mul,Nat.add_zero] at h1
  rw [h1] at h2
  cases h2
 have hRd:Rd ((w1.setCell ⟨W.heap.size+1,0,none⟩ .nilIface).alloc (.cells #[.slice (some ⟨g,0,none⟩) ts.length c] 77)) w1.heap.size (PS W.heap.size w1.heap.size) ts:=by
  obtain ⟨hcap,hmax,hl2,hgl,htoks,hends,hmade⟩:=HT1.out
  have hl0:=(HL.out _ (Mods.refl None W))
  refine ⟨⟨g,0,c,hP2,hcap,hmax,by omega,hgl,?_,hends,fun t ht=>(hmade t ht).1,fun t ht=>(hmade t ht).2⟩,?_,?_,Or.inl rfl,?_⟩
  · exact htoks.mods (((mods_put w1 (W.heap.size+1) 0 .nilIface)).alloc _) hg1
  · obtain ⟨h1,h2⟩:=(HL.out _ hm2).lev
    refine ⟨by have:=hl0.lev.1;omega,fun i l hl=>?_⟩
    obtain ⟨p,o,c2,h3,h4,h5,h6,h7⟩:=hl0.lev.2 i l hl
    exact ⟨p,o,c2,hm2.cellOf h3 (fun f=>f),h4,h5,by omega,fun j m hj=>hm2.cellOf (h7 j m hj) (fun f=>f)⟩
  · obtain ⟨h1,t,p,h2⟩:=hl0.rng
    exact ⟨by omega,t,p,hm2.cellOf h2 (fun f=>f)⟩
  · have:=hP2.lt
    rintro k (rfl|rfl|rfl) <;> omega
 have HS:=hiD (⟨hA2,hB2,⟨[],⟨⟨World.ownsRow_nil _ _ _ _,by have:=hP2.lt;omega,by rintro k (rfl|rfl|rfl) <;> omega⟩,rfl⟩⟩,hRd,hm2,by omega⟩:ProgS W ((w1.setCell ⟨W.heap.size+1,0,none⟩ .nilIface).alloc (.cells #[.slice (some ⟨g,0,none⟩) ts.length c] 77)) w1.heap.size [] ts (.slice none 0 0))
 clear hA2 hB2 hP2 hRd hm2 hS1 hg1
 obtain ⟨w2,hw2⟩:∃ q,q=(w1.setCell ⟨W.heap.size+1,0,none⟩ .nilIface).alloc (.cells #[.slice (some ⟨g,0,none⟩) ts.length c] 77):=⟨_,rfl⟩
 obtain ⟨b,hb⟩:∃ q,q=w1.heap.size:=⟨_,rfl⟩
 rw [← hw2,← hb] at HS
 rw [← hw2]
 rw [← hb]
 clear hw2 hsz HT1 HA1 HB1 HM1 ca cb fa fb hla hlb hb
 go_loopw [] (fun wr=>ProgAt fp W b x wr) (fun wr=>lenOf wr b)
 case atStart=>exact ⟨fp,[],ts,_,_,Nat.le_refl _,HP.out,by simp,HS.out⟩
 case round =>
  clear HS HP
  obtain ⟨ff,l,r,oa,oc,hff,hpr,hl12,hs⟩:=hrel
  have HS:=hiD hs
  obtain ⟨⟨g2,o,c2,hp⟩,_,_,_,_⟩:=hs.rd
  obtain ⟨t,rr,hr⟩:=ends_cons hp.ends
  rw [hr] at hp
  have hl:=hp.cl
  have hk:=hp.ck
  have hcap:=hp.cap
  have hmax:=hp.max
  simp only [List.length_cons] at hcap
  have ca:=hs.ca.cell (i:=0) rfl
  have cb:=hs.cb.cell (i:=0) rfl
  have fa:=hs.ca.free 0
  have fb:=hs.cb.free 0
  have hla:=hs.ca.lt
  have hlb:=hs.cb.lt
  have hkind:headKind r=t.kind:=by rw [hr];rfl
  obtain ⟨tk,tt,ta⟩:=t
  simp only at hk hkind
  have HR:=hiD hr
  clear hp hs hr
  cases ff with
  | zero=>simp [programF] at hpr
  | succ f1 =>
    simp only [programF] at hpr
    rw [hkind] at hpr
    by_cases h4:tk=4
    · rw [if_pos h4] at hpr
      obtain rfl:=(Option.some.inj hpr).symm
      subst h4
      clear hpr
      go_wp2
      have hm3:=((mods_put wr W.heap.size 0 (.slice oa l.length oc)).mono (T:=PS W.heap.size b) (fun k _ hk=>Or.inr (Or.inl hk))).trans ((mods_put _ (W.heap.size+1) 0 .nilIface).mono (T:=PS W.heap.size b) (fun k _ hk=>Or.inr (Or.inr hk)))
      have hA:=(blk_put (ds:=[.slice oa l.length oc]) HS.out.ca 0 (.slice oa l.length oc) rfl).other (a:=⟨W.heap.size+1,0,none⟩) (by simp) .nilIface
      have hB:=blk_put (ds:=[.nilIface]) (HS.out.cb.other (a:=⟨W.heap.size,0,none⟩) (by simp) (.slice oa l.length oc)) 0 .nilIface rfl
      refine door_plain rfl rfl (hA.cell (i:=0) rfl) (hB.cell (i:=0) rfl) ?_
      obtain ⟨vs,h1,h2⟩:=HS.out.row
      refine ⟨_,vs,rfl,h1.rowAt.mods hm3 (fun _ _ f=>f.elim),FnsAt.modsTo (hm3.mono fun k _ hk=>Or.inl hk) (fun _ _ f=>f.elim) _ _ h2,HS.out.mods.trans' hm3 ?_⟩
      have:=HS.out.lt
      rintro k (rfl|rfl|rfl) hk <;> omega
    · rw [if_neg h4] at hpr
      by_cases h12:l.length=12
      · rw [if_pos h12] at hpr
        obtain rfl:=(Option.some.inj hpr).symm
        have h12i:(l.length:Int)=12:=by omega
        clear hpr h12
        go_wp2_with fail
        go_at_call 30
        refine (fail_any b 4 r wr HS.out.rd.par).mono ?_
        rintro e w3 ⟨g3,rfl,hb3,hm3⟩
        have HB3:=hiD hb3
        have HM3:=hiD hm3
        clear hb3 hm3
        go_wp2
        exact door_thrown rfl rfl (HS.out.ca.mods HM3.out (fun f=>f)) (HS.out.cb.mods HM3.out (fun f=>f)) HB3.out (HS.out.mods.trans HM3.out)
      · rw [if_neg h12] at hpr
        have h12i:¬ (l.length:Int)=12:=by omega
        have HX:=hiD hpr
        have HN:=hiD (show l.length+1≤12 by omega)
        obtain ⟨vs,hg,hf⟩:=HS.out.row
        have HG:=hiD hg
        have HV:=hiD hf
        have HRd:=hiD ((HG.out.rd HS.out.rd).quiet (Mods.refl None wr).drew)
        clear hpr h12 hg hf
        go_wp2_with fail
        rcases bind_cases HX with ⟨n,a,hy,rfl⟩|⟨z,r3,hy,HX2⟩
        · have HC:=hiD ((functionAll f1) b (Own (PS W.heap.size b) (.slice oa l.length oc)) r _ _ HRd.out hy)
          clear hy HX
          refine wp_region_any (by kernel_rfl) ?_
          change wpAny _ _ _ _ _ _ _ (World.drew _)
          refine wpAny_ready (rs:=[0,1]) (by kernel_rfl) (by simp) ?_
          refine AllReady.cons rfl (fun K hK=>?_) ?_
          · skip
            go_simp
            refine hK _ _ ?_
            clear hK K
            refine wpAny_ready (rs:=[1]) (by kernel_rfl) (by simp) ?_
            refine AllReady.cons rfl (fun K hK=>?_) AllReady.nil
            go_simp
            refine hK _ _ ?_
            clear hK K
            refine wpAny_ready (rs:=[2]) (by kernel_rfl) (by simp) ?_
            refine AllReady.cons rfl (fun K hK=>?_) AllReady.nil
            go_simp
            go_at_call 31
            refine HC.out.mono ?_
            rintro e w3 ⟨g3,rfl,hb3,hm3⟩
            exact door_thrown rfl rfl (HS.out.ca.drew.mods hm3 (by have:=HS.out.lt;omega)) (HS.out.cb.drew.mods hm3 (by have:=HS.out.lt;omega)) hb3 (HS.out.mods.drew.trans' hm3 (by have:=HS.out.lt;rintro k rfl hk;omega))
          · refine AllReady.cons rfl (fun K hK=>?_) AllReady.nil
            go_simp
            refine hK _ _ ?_
            clear hK K
            refine wpAny_ready (rs:=[0,2]) (by kernel_rfl) (by simp) ?_
            refine AllReady.cons rfl (fun K hK=>?_) ?_
            · skip
              go_simp
              refine hK _ _ ?_
              clear hK K
              refine wpAny_ready (rs:=[2]) (by kernel_rfl) (by simp) ?_
              refine AllReady.cons rfl (fun K hK=>?_) AllReady.nil
              go_simp
              go_at_call 31
              refine HC.out.mono ?_
              rintro e w3 ⟨g3,rfl,hb3,hm3⟩
              exact door_thrown rfl rfl (HS.out.ca.drew.mods hm3 (by have:=HS.out.lt;omega)) (HS.out.cb.drew.mods hm3 (by have:=HS.out.lt;omega)) hb3 (HS.out.mods.drew.trans' hm3 (by have:=HS.out.lt;rintro k rfl hk;omega))
            · refine AllReady.cons rfl (fun K hK=>?_) AllReady.nil
              go_simp
              go_at_call 31
              refine HC.out.mono ?_
              rintro e w3 ⟨g3,rfl,hb3,hm3⟩
              exact door_thrown rfl rfl (HS.out.ca.drew.mods hm3 (by have:=HS.out.lt;omega)) (HS.out.cb.drew.mods hm3 (by have:=HS.out.lt;omega)) hb3 (HS.out.mods.drew.trans' hm3 (by have:=HS.out.lt;rintro k rfl hk;omega))
        · have HC:=hiD ((functionAll f1) b (Own (PS W.heap.size b) (.slice oa l.length oc)) r _ _ HRd.out hy)
          have HLN:=hiD (function_less hy)
          clear hy HX
          refine wp_region_noPanic ?_
          go_region_law (first|(refine step_append_at rfl (.tmp 31) (.tmp 34) 36 rfl (b+1) 84 i0 _ 4 72 Tryz.underlying36 HI.out.1 HI.out.2.1 HI.out.2.2.1 HI.out.2.2.2 rfl (by decide) (.slice oa l.length oc) l.length vs (by simp [Act.eval,Act.put]) HG4.out.row ⟨w3.heap.size,0,none⟩ 1 1 [.string ⟨z.name.toArray⟩,.int .i64 z.at_,.slice pa pn pc,.slice qa qn qc] (by simp [Act.eval,Act.put]) rfl (four_new _ _ _ _ _ _) (fcells_one _ _ _ _ _ _ _ _) (by have:=HN.out;unfold maxLen;omega) (by have:=HN.out;omega) HG4.out.base ?_;intro v' w5 hown hgrow hloc;have HGR:Hid (Grew (w3.alloc (.cells #[.string ⟨z.name.toArray⟩,.int .i64 z.at_,.slice pa pn pc,.slice qa qn qc] 84)) w5 (.slice oa l.length oc) v'):=hiD (grew_of hgrow hloc);have HOW:=hiD (HG4.out.grew HGR.out hown);clear hown hgrow hloc;obtain ⟨ra,rc,rfl⟩:=lex_form HOW.out.row;have HA5:=hiD (HA4.out.mods HGR.out.mods (fun hk=>by have:=(HG4.out.row.lt _ hk).1;have:=HS.out.lt;omega));have c5:=HA5.out.cell (i:=0) rfl;have f5:=HA5.out.free 0;have hl5:=HA5.out.lt)|(go_simp;go_at_call 31;refine HC.out.mono ?_;rintro e w3 ⟨xv,rfl,⟨cs,rfl,hf3⟩,hp3,hm3⟩;obtain ⟨pa,pn,pc,qa,qn,qc,rfl⟩:=hf3.shape;have HF3:=hiD hf3;have HP3:=hiD hp3;have HM3:=hiD hm3;have HA3:=hiD (HS.out.ca.drew.mods hm3 (by have:=HS.out.lt;omega));have HA4:=hiD (HA3.out.alloc (.cells #[.string ⟨z.name.toArray⟩,.int .i64 z.at_,.slice pa pn pc,.slice qa qn qc] 84));have HG4:=hiD ((Grows.next (W:=wr.drew) ⟨HG.out.row,HG.out.base,HG.out.below⟩ HS.out.rd.has hm3).alloc (.cells #[.string ⟨z.name.toArray⟩,.int .i64 z.at_,.slice pa pn pc,.slice qa qn qc] 84));have c3:=HA3.out.cell (i:=0) rfl;have f3:=HA3.out.free 0;have hl3:=HA3.out.lt;clear hf3 hp3 hm3))
          all_goals
            refine NoPanic.normal ?_
            go_wp2_with fail
            have hMA:∀ (T:Nat→Prop) (o:Obj),Mods T w3 (w3.alloc o):=fun T o=>(Mods.refl _ _).alloc _
            have hP:=mods_put w5 W.heap.size 0 (.slice ra (l.length+1) rc)
            have hlt:=HS.out.lt
            have hRb:Rd (w3.alloc (.cells #[.string ⟨z.name.toArray⟩,.int .i64 z.at_,.slice pa pn pc,.slice qa qn qc] 84)) b (PS W.heap.size b) r3:=(HS.out.rd.quiet (Mods.refl None wr).drew |>.next HP3.out HM3.out).quiet (hMA _ _)
            have hR5:=HG4.out.rdGrew HGR.out hRb
            have hB5:=((HS.out.cb.drew.mods HM3.out (by omega)).alloc (.cells #[.string ⟨z.name.toArray⟩,.int .i64 z.at_,.slice pa pn pc,.slice qa qn qc] 84)).mods HGR.out.mods (fun hk=>by have:=(HG4.out.row.lt _ hk).1;omega)
            have hM5:Mods None W w5:=((HS.out.mods.drew.trans' HM3.out (by rintro k rfl hk;omega)).alloc (.cells #[.string ⟨z.name.toArray⟩,.int .i64 z.at_,.slice pa pn pc,.slice qa qn qc] 84)).trans' HGR.out.mods (fun k hk hw=>by have:=(HG4.out.row.lt k hk).1;omega)
            have hS5:=HGR.out.own (S:=PS W.heap.size b)
            have hA6:=blk_put (ds:=[.slice ra (l.length+1) rc]) HA5.out 0 (.slice ra (l.length+1) rc) rfl
            have hB6:=hB5.other (a:=⟨W.heap.size,0,none⟩) (by simp) (.slice ra (l.length+1) rc)
            have hM6:Mods None W (w5.setCell ⟨W.heap.size,0,none⟩ (.slice ra (l.length+1) rc)):=hM5.trans' hP (by rintro k rfl hk;omega)
            have hL6:=lev_at (HL.out _ (Mods.refl None W)) hM6 (b:=b) (by omega)
            have hP6:Par (w5.setCell ⟨W.heap.size,0,none⟩ (.slice ra (l.length+1) rc)) b r3:=par_put hR5.par HA5.out (by omega) _
            have hPS:∀ k,k=W.heap.size→Own (PS W.heap.size b) (.slice ra (l.length+1) rc) k:=fun k hk=>Or.inl (Or.inr (Or.inl hk))
            have hW3:Mods (Own (PS W.heap.size b) (.slice oa l.length oc)) wr (w3.alloc (.cells #[.string ⟨z.name.toArray⟩,.int .i64 z.at_,.slice pa pn pc,.slice qa qn qc] 84)):=((Mods.refl _ wr).drew.trans (HM3.out.mono fun k _ hk=>Or.inl (Or.inl hk))).trans (hMA _ _)
            have hV5:=FnsAt.modsTo hS5 HGR.out.to _ _ (FnsAt.modsTo hW3 (fun _ _ h=>h) _ _ HV.out)
            have hF5:=(FnAt.modsTo (show FnAt w3 (Own (PS W.heap.size b) (.slice oa l.length oc)) z _ from HF3.out) (hMA _ _) (fun _ _ h=>h)).modsTo hS5 HGR.out.to
            have hV6:=FnsAt.modsTo (hP.mono fun k _ hk=>hPS k hk) (fun _ _ h=>h) _ _ (FnsAt.append hV5 hF5)
            have hG6:=HOW.out.keep hP (by intro k hk he;have:=(HOW.out.row.lt k hk).1;omega)
            have hP6l:=hP6.len
            refine ⟨⟨f1,l++[z],r3,ra,rc,by omega,HX2.out,by have:=HN.out;simpa using this,?_⟩,?_⟩
            · exact ⟨by simpa using hA6,hB6,⟨_,by simpa using hG6,by simpa using hV6⟩,⟨hP6,hL6.1,hL6.2,Or.inl rfl,fun k hk=>Nat.lt_of_lt_of_le (hR5.old k hk) hP.size⟩,hM6,hlt⟩
            · rw [hP6l,HS.out.rd.par.len]
              exact HLN.out
end Go.Proofs.YtnicpmoanjddbaaGreatDoor.TreeP
namespace Go.Proofs.YtnicpmoanjddbaaGreatDoor.TreeP
set_option linter.unusedVariables false
set_option linter.unusedSimpArgs false
abbrev Nm:=List (List UInt8×Int)
def findN (N:Nm) (s:List UInt8):Int:=match N.find? (fun p=>p.1==s) with
 | some p=>p.2
 | none=>0
def atE:Ex→Int
 | .num a _=>a
 | .var a _=>a
 | .bin a _ _ _=>a
 | .un a _ _=>a
 | .call a _ _=>a
 | .new a _=>a
 | .len a _=>a
 | .item a _ _=>a
 | .input a=>a
abbrev CK (α:Type):=Except (Int×Int) α
def bindK {α β:Type} (x:CK α) (f:α→CK β):CK β:=match x with
 | .ok a=>f a
 | .error e=>.error e
def wantT (e:Ex) (k t:Int):CK Unit:=if t=k then .ok () else .error (1,atE e)
def addN (N:Nm) (m:Nat) (p:List UInt8×Int) (a:Int):CK (Nm×Nat):=if findN N p.1≠0 then .error (9,a) else if m=12 then .error (12,a) else .ok (N++[p],m+1)
def fnOf (L:List Fn) (s:List UInt8):Option Fn:=L.find? (fun f=>f.name==s)
mutual
def exprK (L:List Fn) (N:Nm):Ex→CK Int
 | .num _ _=>.ok 1
 | .var a s=>if findN N s=0 then .error (7,a) else .ok (findN N s)
 | .bin _ _ l r=>bindK (exprK L N l) fun t=>bindK (wantT l 1 t) fun _=>bindK (exprK L N r) fun u=>bindK (wantT r 1 u) fun _=>.ok 1
 | .un _ _ x=>bindK (exprK L N x) fun t=>bindK (wantT x 1 t) fun _=>.ok 1
 | .call a f args=>match fnOf L f with
   | none=>.error (7,a)
   | some g=>if args.length=g.params.length then bindK (argsK L N args (g.params.map (·.2))) fun _=>.ok 1 else .error (2,a)
 | .new _ x=>bindK (exprK L N x) fun t=>bindK (wantT x 1 t) fun _=>.ok 2
 | .len _ x=>bindK (exprK L N x) fun t=>bindK (wantT x 2 t) fun _=>.ok 1
 | .item _ x i=>bindK (exprK L N x) fun t=>bindK (wantT x 2 t) fun _=>bindK (exprK L N i) fun u=>bindK (wantT i 1 u) fun _=>.ok 1
 | .input _=>.ok 1
def argsK (L:List Fn) (N:Nm):List Ex→List Int→CK Unit
 | e::r,k::ks=>bindK (exprK L N e) fun t=>bindK (wantT e k t) fun _=>argsK L N r ks
 | _,_=>.ok ()
end
def wantK (L:List Fn) (N:Nm) (e:Ex) (k:Int):CK Unit:=bindK (exprK L N e) (wantT e k)
mutual
def stmtK (L:List Fn) (N:Nm) (m:Nat):St→CK (Nm×Nat)
 | .var a s v=>bindK (exprK L N v) fun t=>addN N m (s,t) a
 | .set a s v=>if findN N s=0 then .error (7,a) else bindK (wantK L N v (findN N s)) fun _=>.ok (N,m)
 | .put a s i v=>if findN N s=0 then .error (7,a) else if findN N s≠2 then .error (1,a) else bindK (wantK L N i 1) fun _=>bindK (wantK L N v 1) fun _=>.ok (N,m)
 | .cond _ v t e=>bindK (wantK L N v 1) fun _=>bindK (stmtsK L N m t) fun x=>bindK (stmtsK L N x.2 e) fun y=>.ok (N,y.2)
 | .loop _ v t=>bindK (wantK L N v 1) fun _=>bindK (stmtsK L N m t) fun x=>.ok (N,x.2)
 | .ret _ v=>bindK (wantK L N v 1) fun _=>.ok (N,m)
 | .print _ v=>bindK (wantK L N v 1) fun _=>.ok (N,m)
 | .call _ v=>bindK (wantK L N v 1) fun _=>.ok (N,m)
def stmtsK (L:List Fn) (N:Nm) (m:Nat):List St→CK (Nm×Nat)
 | []=>.ok (N,m)
 | s::r=>bindK (stmtK L N m s) fun x=>stmtsK L x.1 x.2 r
end
def paramsK (N:Nm) (m:Nat) (a:Int):List (List UInt8×Int)→CK (Nm×Nat)
 | []=>.ok (N,m)
 | p::r=>bindK (addN N m p a) fun x=>paramsK x.1 x.2 a r
def fnK (L:List Fn) (f:Fn):CK Unit:=bindK (paramsK [] 0 f.at_ f.params) fun x=>bindK (stmtsK L x.1 x.2 f.body) fun _=>.ok ()
def fnsK (L:List Fn):List Fn→CK Unit
 | []=>.ok ()
 | f::r=>bindK (fnK L f) fun _=>fnsK L r
def twiceK:List Fn→List Fn→CK Unit
 | _,[]=>.ok ()
 | ahead,f::r=>if ahead.any (fun g=>g.name==f.name) then .error (9,f.at_) else twiceK (ahead++[f]) r
def mainB (f:Fn):Bool:=f.name==[109,97,105,110] && f.params.length==0
end Go.Proofs.YtnicpmoanjddbaaGreatDoor.TreeP

/- What the runner makes of an expression: the ends. Conditions: what it has lies. What the runner makes of each kind of expression. Conditions: what it has lies. -/
import Derived.Test.YtnicpmoanjddbaaGreatDoorMs25
import Derived.Deep.Cut
import Derived.StillTailTactics
import Derived.Laws.MakeOwn
import Derived.Deep.RegionWith
namespace Go.Proofs.YtnicpmoanjddbaaGreatDoor.TreeP
open Go.RowKit Go.Proofs.YtnicpmoanjddbaaGreatDoor.Wo
set_option linter.unusedVariables false
set_option linter.unusedSimpArgs false
theorem Ext.new {T M0 M S:Nat→Prop} {W0 W W':World} (h:Ext T M0 M W0 W) (hm:Mods S W W') (hS:∀ k,k<W0.heap.size→¬ S k):Ext T M0 M W0 W' :=
 ⟨h.mods.trans' hm (fun k hs hk=>(hS k hk hs).elim),h.back⟩
structure Bx (W0 w:World) (P M:Nat→Prop) (b fm q:Nat):Prop where
 c3:Blk w q [.pointer (some ⟨b,0,none⟩)] 108
 c4:Blk w (q+1) [.map (some fm)] 162
 c6:Blk w (q+1+1) [.int .i64 0,.slice none 0 0] 164
 nm:∀ k,q≤k→k≤q+1+1→¬ M k∧¬ P k
 at_:W0.heap.size≤q
theorem Bx.step {W0 w w':World} {P M M':Nat→Prop} {b fm q:Nat} (h:Bx W0 w P M b fm q) (hE:Ext None M M' w w'):Bx W0 w' P M' b fm q:=by
 have hl:=h.c6.lt
 refine ⟨(keep_blk h.c3 hE (h.nm q (by omega) (by omega)).1 (fun f=>f)).1,(keep_blk h.c4 hE (h.nm (q+1) (by omega) (by omega)).1 (fun f=>f)).1,(keep_blk h.c6 hE (h.nm (q+1+1) (by omega) (by omega)).1 (fun f=>f)).1,fun k h1 h2=>⟨fun hm=>(h.nm k h1 h2).1 (hE.back k (by omega) hm),(h.nm k h1 h2).2⟩,h.at_⟩
theorem Bx.new {W:World} {b mb:Nat} {L:List Fn} {P M:Nat→Prop} {A:List (Nat×Nat)} {s:RS} (fm:Nat) (h:RAt W b mb L P M A s) :
 Bx W (((W.alloc (.cells #[.pointer (some ⟨b,0,none⟩)] 108)).alloc (.cells #[.map (some fm)] 162)).alloc (.cells #[.int .i64 0,.slice none 0 0] 164)) P M b fm W.heap.size:=by
 have e1:(W.alloc (.cells #[.pointer (some ⟨b,0,none⟩)] 108)).heap.size=W.heap.size+1:=by simp
 have e2:((W.alloc (.cells #[.pointer (some ⟨b,0,none⟩)] 108)).alloc (.cells #[.map (some fm)] 162)).heap.size=W.heap.size+1+1:=by simp
 refine ⟨?_,?_,?_,fun k h1 _=>⟨fun hm=>absurd (h.old k hm) (by omega),fun hp=>absurd (h.given k hp) (by omega)⟩,Nat.le_refl _⟩
 · exact (((Blk.new W _ _).mods ((Mods.refl None _).alloc _) (fun f=>f)).mods ((Mods.refl None _).alloc _) (fun f=>f))
 · have:=(Blk.new (W.alloc (.cells #[.pointer (some ⟨b,0,none⟩)] 108)) #[.map (some fm)] 162).mods ((Mods.refl None _).alloc (.cells #[.int .i64 0,.slice none 0 0] 164)) (fun f=>f)
   rw [e1] at this
   exact this
 · have:=Blk.new ((W.alloc (.cells #[.pointer (some ⟨b,0,none⟩)] 108)).alloc (.cells #[.map (some fm)] 162)) #[.int .i64 0,.slice none 0 0] 164
   rw [e2] at this
   exact this
theorem RAt.newArr {w:World} {b mb:Nat} {L:List Fn} {P M:Nat→Prop} {A:List (Nat×Nat)} {s:RS} (h:RAt w b mb L P M A s) (n:Nat) (hn:n≤40) :
 RAt (w.alloc (.cells ((List.replicate n (0:Int)).map (Value.int .i64)).toArray 2)) b mb L P (fun k=>M k∨k=w.heap.size) (A++[(w.heap.size,n)]) { s with arrs:=s.arrs++[List.replicate n 0] }∧Ext None M (fun k=>M k∨k=w.heap.size) w (w.alloc (.cells ((List.replicate n (0:Int)).map (Value.int .i64)).toArray 2)):=by
 have hm:Mods None w (w.alloc (.cells ((List.replicate n (0:Int)).map (Value.int .i64)).toArray 2)):=(Mods.refl _ _).alloc _
 have hsz:(w.alloc (.cells ((List.replicate n (0:Int)).map (Value.int .i64)).toArray 2)).heap.size=w.heap.size+1:=by simp
 have h':=h.quiet hm
 have ho:=h.old
 have hg:=h.given
 refine ⟨⟨?_,Or.inl h'.has,h'.fns,?_,?_,?_,?_,?_,?_,h'.given,h'.few,h'.calls,h'.fuel⟩,⟨hm.mono fun _ _ f=>f.elim,?_⟩⟩
 · obtain ⟨iv,ov,h1,h2,h3,h4⟩:=h'.blk
   refine ⟨iv,ov,h1,h2,h3,fun k hk=>⟨Or.inl (h4 k hk).1,(h4 k hk).2.1,?_⟩⟩
   intro g m hgm
   rcases List.mem_append.1 hgm with hgm|hgm
   · exact (h4 k hk).2.2 g m hgm
   · simp only [List.mem_singleton,Prod.mk.injEq] at hgm
     have:=ho k (h4 k hk).1
     omega
 · simp [h.arrs]
 · intro i l hl
   rcases Nat.lt_or_ge i s.arrs.length with hi|hi
   · have hl2:s.arrs[i]?=some l:=by simpa [List.getElem?_append_left hi] using hl
     obtain ⟨g,e1,e2,e3⟩:=h'.arr i l hl2
     exact ⟨g,by rw [List.getElem?_append_left (by rw [h.arrs];exact hi)];exact e1,e2,e3⟩
   · simp only [List.getElem?_append_right hi] at hl
     obtain ⟨hi2,hl⟩:=List.getElem?_eq_some_iff.1 hl
     simp only [List.length_singleton] at hi2
     obtain rfl:i=s.arrs.length:=by omega
     simp only [Nat.sub_self,List.getElem_cons_zero] at hl
     subst hl
     refine ⟨w.heap.size,?_,Blk.new w _ _,by simpa using hn⟩
     rw [List.getElem?_append_right (by rw [h.arrs];exact Nat.le_refl _)]
     simp [h.arrs]
 · intro g m hgm
   rcases List.mem_append.1 hgm with hgm|hgm
   · exact ⟨Or.inl (h.mine g m hgm).1,(h.mine g m hgm).2⟩
   · simp only [List.mem_singleton,Prod.mk.injEq] at hgm
     have:=ho b h.has
     exact ⟨Or.inr hgm.1,by omega⟩
 · refine List.pairwise_append.2 ⟨h.apart,List.pairwise_singleton _ _,?_⟩
   intro x hx y hy
   simp only [List.mem_singleton] at hy
   subst hy
   have:=ho x.1 (h.mine x.1 x.2 hx).1
   show x.1≠w.heap.size
   omega
 · intro k hk
   rw [hsz]
   rcases hk with hk|hk
   · have:=ho k hk
     omega
   · omega
 · intro k hk hp
   rcases hk with hk|hk
   · exact h.off k hk hp
   · have:=hg k hp
     omega
 · intro k hk hm
   rcases hm with hm|hm
   · exact hm
   · omega
theorem RAt.taken {W:World} {b mb:Nat} {L:List Fn} {P M:Nat→Prop} {A:List (Nat×Nat)} {s:RS} (h:RAt W b mb L P M A s) (r:List Int) (iv:Value) (hi:InAt W (fun k=>¬ P k) iv r):RAt (W.setCell ⟨b,1,none⟩ iv) b mb L P M A { s with inp:=r } :=
 h.own (mods_put _ _ _ _) rfl rfl h.calls h.fuel (fun iv' ov h1 h2=>⟨iv,h1.set 1 _,hi⟩)
theorem Bx.end_ {W0 W:World} {P M M':Nat→Prop} {A A':List (Nat×Nat)} {b mb fm q:Nat} {L:List Fn} {s:RS} {x:V} {u v:Value} (hB:Bx W0 W P M' b fm q) (hR:RAt W b mb L P M' A' s) (hE:Ext None M M' W0 W) (hA:A <+: A') (hv:VAt A' x (.agg #[u,v])) :
 Ran W0 b mb L P None M A retV (.ok x,s) (.returned (.agg #[u,v])) ((W.setCell ⟨q+1+1,0,none⟩ u).setCell ⟨q+1+1,1,none⟩ v):=by
 have hm:Mods (·=q+1+1) W ((W.setCell ⟨q+1+1,0,none⟩ u).setCell ⟨q+1+1,1,none⟩ v):=(mods_put _ _ _ _).trans (mods_put _ _ _ _)
 have hat:=hB.at_
 exact ⟨M',A',⟨_,rfl,hv⟩,hR.aside hm (fun k hk=>by rw [hk];exact hB.nm _ (by omega) (by omega)),hE.new hm (fun k h1 h2=>by omega),hA⟩
theorem Bx.ret {fn:Func} {W0 W w:World} {P M M':Nat→Prop} {A A':List (Nat×Nat)} {a:Act} {b mb fm q:Nat} {L:List Fn} {s:RS} {x:V} {u v:Value} (hB:Bx W0 W P M' b fm q) (hR:RAt W b mb L P M' A' s) (hE:Ext None M M' W0 W) (hA:A <+: A') (hv:VAt A' x (.agg #[u,v]))
 (hfn:fn.results=#[.cell 6 164]) (hp:a.tmps.getD 6 undef=.pointer (some ⟨q+1+1,0,none⟩)) (hd:a.defers=[]) (hw:w=(W.setCell ⟨q+1+1,0,none⟩ u).setCell ⟨q+1+1,1,none⟩ v) :
 bodyPost Tryz.prog fn (Ran W0 b mb L P None M A retV (.ok x,s)) .ret a w:=by
 subst hw
 have h6:=(hB.c6.set 0 u).set 1 v
 exact bodyPost_ret (results_cell_row hfn a.tmps _ _ _ #[u,v] _ _ hp h6 Tryz.underlying164 rfl (by kernel_rfl)) hd (hB.end_ hR hE hA hv)
set_option maxRecDepth 100000 in
set_option maxHeartbeats 400000 in
theorem ev_num {L:List Fn} {f:Nat} (a k:Int) (b mb:Nat) (P M:Nat→Prop) (A:List (Nat×Nat)) (s:RS) (fm:Nat) (W:World) (v:Value) (h:RAt W b mb L P M A s) (he:ExAt W (fun k=>¬ P k) (.num a k) v) :
 Calls Tryz.prog 120 #[.pointer (some ⟨b,0,none⟩),.map (some fm),v] W (Ran W b mb L P None M A retV (.ok (numV k),s)):=by
 simp only [ExAt] at he
 obtain ⟨g,rfl,hg,hv⟩:=he
 have hmf:∀ (fn:Go.Fn) (first cap:Array Value) (w:World),(Instr.makeFunc fn first cap).run Tryz.prog w=.ok (.func fn first cap) w:=fun _ _ _ _=>rfl
 obtain ⟨W3,hW3⟩:∃ W3,W3=((W.alloc (.cells #[.pointer (some ⟨b,0,none⟩)] 108)).alloc (.cells #[.map (some fm)] 162)).alloc (.cells #[.int .i64 0,.slice none 0 0] 164):=⟨_,rfl⟩
 have HM:Hid (Mods None W W3):=hiD (by rw [hW3];exact (((Mods.refl _ _).alloc _).alloc _).alloc _)
 have HB:Hid (Bx W W3 P M b fm W.heap.size):=hiD (by rw [hW3];exact Bx.new fm h)
 have H:=hiD (h.quiet HM.out)
 have d0:W3.cell? ⟨g,0,none⟩=some (.int .i64 1):=HM.out.cellOf (hv.cell rfl) (fun f=>f)
 have d2:W3.cell? ⟨g,2,none⟩=some (.int .i64 k):=HM.out.cellOf (hv.cell rfl) (fun f=>f)
 have hl:=hv.lt
 have r0:=HB.out.c6.cell (i:=0) rfl
 have r1:=HB.out.c6.cell (i:=1) rfl
 have z0:=HB.out.c6.free 0
 have z1:=HB.out.c6.free 1
 clear h hv hg
 go_enter Tryz.func120,Tryz.ntmps120
 go_upto_region 2 with (fail)
 rw [← hW3]
 clear hW3
 go_wp2_with fail
 exact HB.out.ret H.out (Ext.quiet HM.out) (List.prefix_refl _) (Or.inl ⟨rfl,rfl⟩) rfl rfl rfl rfl
def NumC (L:List Fn) (P:Nat→Prop) (b mb fm q f:Nat) (F:Fr) (x:Ex) (xv:Value):Prop:=∀ (M:Nat→Prop) (A:List (Nat×Nat)) (s:RS) (n:Nat) (W0 w:World),Bx W0 w P M b fm q→RAt w b mb L P M A s→FrAt w P M A fm n F→ExAt w (fun k=>¬ P k) x xv→∀ y,evN L f s F x=some y →
 Calls Tryz.prog 130 #[xv,.pointer (some ⟨q,0,none⟩),.pointer (some ⟨q+1,0,none⟩)] w (Ran w b mb L P None M A retN y)
theorem numC_of {L:List Fn} {f:Nat} (ih:EvC L f) {x:Ex} (hg:GoodE L x) (P:Nat→Prop) (b mb fm q:Nat) (F:Fr) (xv:Value):NumC L P b mb fm q f F x xv :=
 fun M A s n W0 w hB hR hF hx y hy=>num_any ih x b mb q (q+1) P None M A s F fm n w xv y hR hF hg hx hy (hB.c3.cell rfl) (hB.c4.cell rfl)
theorem ex_on {W W':World} {b mb:Nat} {L:List Fn} {P M M':Nat→Prop} {A:List (Nat×Nat)} {s:RS} {e:Ex} {v:Value} (h:ExAt W (fun k=>¬ P k) e v) (hR:RAt W b mb L P M A s) (hE:Ext None M M' W W'):ExAt W' (fun k=>¬ P k) e v:=h.ext hE (fun k hk=>hk.elim (fun f=>f.elim) (hR.off k))
theorem fld_a (k:Int) (av:Value) (w:World):Sem.run Tryz.prog (Instr.field 164 (.agg #[.int .i64 k,av]) 1) w=Result.ok av w:=by kernel_rfl
theorem VAt.len {w:World} {b mb:Nat} {L:List Fn} {P M:Nat→Prop} {A:List (Nat×Nat)} {s:RS} {x:V} {v:Value} (h:VAt A x v) (hR:RAt w b mb L P M A s):∃ k a n,v=.agg #[.int .i64 k,.slice a n n]∧((arrOf s x).length:Int)=(n:Int)∧n≤40:=by
 rcases h with ⟨h1,rfl⟩|⟨i,g,n,h1,h2,rfl⟩
 · exact ⟨_,_,_,rfl,by simp [arrOf,h1],by omega⟩
 · obtain ⟨hi,hi2⟩:=List.getElem?_eq_some_iff.1 h2
   have hl:s.arrs[i]?=some (s.arrs[i]'(by rw [← hR.arrs];exact hi)):=List.getElem?_eq_getElem _
   obtain ⟨g',e1,e2,e3⟩:=hR.arr i _ hl
   rw [h2] at e1
   simp only [Option.some.injEq,Prod.mk.injEq] at e1
   obtain ⟨rfl,rfl⟩:=e1
   refine ⟨_,_,_,rfl,?_,e3⟩
   simp only [arrOf,h1,List.getD_eq_getElem?_getD,hl,Option.getD_some]
theorem zero_val (w:World):(zeroValue 164).run Tryz.prog w=.ok zeroVal w:=by kernel_rfl
theorem RAt.row {w:World} {b mb:Nat} {L:List Fn} {P M:Nat→Prop} {A:List (Nat×Nat)} {s:RS} {i g n:Nat} (hR:RAt w b mb L P M A s) (h2:A[i]?=some (g,n)):∃ l,s.arrs[i]?=some l∧n=l.length∧Blk w g (l.map (Value.int .i64)) 2∧l.length≤40:=by
 obtain ⟨hi,hi2⟩:=List.getElem?_eq_some_iff.1 h2
 have hl:s.arrs[i]?=some (s.arrs[i]'(by rw [← hR.arrs];exact hi)):=List.getElem?_eq_getElem _
 obtain ⟨g',e1,e2,e3⟩:=hR.arr i _ hl
 rw [h2] at e1
 simp only [Option.some.injEq,Prod.mk.injEq] at e1
 obtain ⟨rfl,rfl⟩:=e1
 exact ⟨_,hl,rfl,e2,e3⟩
theorem infoInt:(Tryz.prog.info? 2).map (fun i=>(i.zero,i.size,i.bytes))=some (some (.int .i64 0),1,8):=by kernel_rfl
theorem run_make_row1 {P:Program} (t e:TypeId) (i:TypeInfo) (z:Value) (ht:P.underlying t=some (.slice e)) (hi:P.info? e=some i) (hz:i.zero=some z)
 (kl kc:IntKind) (n:Nat) (hbytes:i.bytes*n≤281474976710656) (h63:n≤9223372036854775807) (w:World) :
 (Instr.makeSlice t (.int kl (n:Int)) (.int kc (n:Int))).run P w=.ok (.slice (some ⟨w.heap.size,0,none⟩) n n) (w.alloc (.cells (madeCells z.cells (n*i.size)) e)):=by
 have hb:(i.bytes:Int)*(n:Int)≤281474976710656:=by
  have h:((i.bytes*n:Nat):Int)≤281474976710656:=by omega
  rwa [Int.natCast_mul] at h
 have hr:=run_make (P:=P) w t e i z ht hi hz kl kc n n (by omega) (by omega) hb (by omega)
 simp only [Int.toNat_natCast] at hr
 exact hr
theorem made_row (n:Nat):madeCells (Value.int .i64 0).cells (n*1)=((List.replicate n (0:Int)).map (Value.int .i64)).toArray:=by
 apply Array.ext
 · simp [madeCells]
 · intro i h1 h2
   simp [madeCells,Value.cells,Nat.mod_one]
theorem Bx.took {fn:Func} {W W3 w:World} {P M:Nat→Prop} {A:List (Nat×Nat)} {a:Act} {b mb fm q:Nat} {L:List Fn} {s:RS} {k:Int} {t:List Int} {iv:Value} (hB:Bx W W3 P M b fm q) (hR:RAt W3 b mb L P M A s) (hE:Ext None M M W W3) (hA:A <+: A) (hi:InAt W3 (fun k=>¬ P k) iv t)
 (hfn:fn.results=#[.cell 6 164]) (hp:a.tmps.getD 6 undef=.pointer (some ⟨q+1+1,0,none⟩)) (hd:a.defers=[]) (hw:w=(((W3.setCell ⟨b,1,none⟩ iv).setCell ⟨q+1+1,0,none⟩ (.int .i64 k)).setCell ⟨q+1+1,1,none⟩ (.slice none 0 0)).drew) :
 bodyPost Tryz.prog fn (Ran W b mb L P None M A retV (.ok (numV k),{ s with inp:=t })) .ret a w:=by
 have hE2:=hR.ext None 1 iv
 have hR2:=hR.taken t iv hi
 have hD:Mods None (W3.setCell ⟨b,1,none⟩ iv) (W3.setCell ⟨b,1,none⟩ iv).drew:=(Mods.refl _ _).drew
 exact ((hB.step hE2).step (Ext.quiet hD)).ret (hR2.quiet hD) ((hE.trans hE2).trans (Ext.quiet hD)) hA (Or.inl ⟨rfl,rfl⟩) hfn hp hd hw
theorem blk_on {W W':World} {b mb:Nat} {L:List Fn} {P M M':Nat→Prop} {A:List (Nat×Nat)} {s:RS} {g:Nat} {cs:List Value} {t:TypeId} (h:Blk W g cs t) (hp:P g) (hR:RAt W b mb L P M A s) (hE:Ext None M M' W W'):Blk W' g cs t:=h.mods hE.mods (fun hk=>hk.elim (fun f=>f.elim) (fun hm=>hR.off _ hm hp))
set_option maxRecDepth 100000 in
set_option maxHeartbeats 1000000 in
theorem ev_un {L:List Fn} {f:Nat} (ih:EvC L f) (a:Int) (op:List UInt8) (x:Ex) (b mb:Nat) (P M:Nat→Prop) (A:List (Nat×Nat)) (s:RS) (F:Fr) (fm n:Nat) (W:World) (v:Value) (r:Except Sig V×RS) (h:RAt W b mb L P M A s) (hF:FrAt W P M A fm n F) (hg:GoodE L (.un a op x)) (he:ExAt W (fun k=>¬ P k) (.un a op x) v) (hr:evE L (f+1) s F (.un a op x)=some r) :
 Calls Tryz.prog 120 #[.pointer (some ⟨b,0,none⟩),.map (some fm),v] W (Ran W b mb L P None M A retV r):=by
 have hmf:∀ (fn:Go.Fn) (first cap:Array Value) (w:World),(Instr.makeFunc fn first cap).run Tryz.prog w=.ok (.func fn first cap) w:=fun _ _ _ _=>rfl
 obtain ⟨W3,hW3⟩:∃ W3,W3=((W.alloc (.cells #[.pointer (some ⟨b,0,none⟩)] 108)).alloc (.cells #[.map (some fm)] 162)).alloc (.cells #[.int .i64 0,.slice none 0 0] 164):=⟨_,rfl⟩
 have HM:Hid (Mods None W W3):=hiD (by rw [hW3];exact (((Mods.refl _ _).alloc _).alloc _).alloc _)
 have HB:Hid (Bx W W3 P M b fm W.heap.size):=hiD (by rw [hW3];exact Bx.new fm h)
 have HR:=hiD (h.quiet HM.out)
 have HF:=hiD (hF.ext (Ext.quiet HM.out) (List.prefix_refl A))
 have HE:Hid (Ext None M M W W3):=hiD (Ext.quiet HM.out)
 have HA:=hiD (List.prefix_refl A)
 simp only [ExAt] at he
 obtain ⟨xv,⟨g,rfl,hpg,hv⟩,hxv⟩:=he
 simp only [GoodE] at hg
 have hxv:=ex_on hxv h HE.out
 have HN:=hiD (numC_of ih hg P b mb fm W.heap.size F xv M A s n W W3 HB.out HR.out HF.out hxv)
 have HX:Hid (bindR (evN L f s F x) (fun k s=>okR (numV (if op=[45] then wrap64 (-k) else oneB (k==0))) s)=some r):=hiD (by rw [bindN,← hr];simp only [evE])
 have d0:W3.cell? ⟨g,0,none⟩=some (.int .i64 4):=HM.out.cellOf (hv.cell rfl) (fun f=>f)
 have d5:W3.cell? ⟨g,5,none⟩=some xv:=HM.out.cellOf (hv.cell rfl) (fun f=>f)
 have d4:W3.cell? ⟨g,4,none⟩=some (.string ⟨op.toArray⟩):=HM.out.cellOf (hv.cell rfl) (fun f=>f)
 obtain ⟨xg,rfl⟩:=hxv.ptr
 have hl:=hv.lt
 clear h hv hpg hF hg hxv hr ih
 by_cases hop:op=[45]
 · subst hop
   simp only [if_pos] at HX
   go_enter Tryz.func120,Tryz.ntmps120
   go_upto_region 2 with (fail)
   rw [← hW3]
   clear hW3
   go_wp2_with fail
   go_at_call 130
   refine rbind_of HE HA HX HN.out ?_ ?_
   · rintro g s' rfl older w H
     obtain ⟨M',A',k1,k2,k3⟩:=H.out
     go_wp2
     exact ⟨rfl,⟨older,rfl⟩,M',A',k1,k2,k3⟩
   · rintro k s'-HX2 e w M' A' HEQ HR2 HE2 HE3 HA2 HA3
     obtain rfl:=HEQ
     have HX3:=hiD (Option.some.inj HX2.out).symm
     clear HX HX2 HN d0 d4 d5
     have HB2:=hiD (HB.out.step HE2.out)
     have r0:=(HB2.out).c6.cell (i:=0) rfl
     have r1:=(HB2.out).c6.cell (i:=1) rfl
     have z0:=(HB2.out).c6.free 0
     have z1:=(HB2.out).c6.free 1
     go_wp2_with fail
     rw [HX3.out]
     exact HB2.out.ret HR2.out HE3.out HA3.out (Or.inl ⟨rfl,rfl⟩) rfl rfl rfl rfl
 · simp only [if_neg hop] at HX
   have hop1:(op==[45])=false:=by simpa using hop
   clear hop
   go_enter Tryz.func120,Tryz.ntmps120
   go_upto_region 2 with (fail)
   rw [← hW3]
   clear hW3
   go_wp2_with fail
   go_at_call 130
   refine rbind_of HE HA HX HN.out ?_ ?_
   · rintro g s' rfl older w H
     obtain ⟨M',A',k1,k2,k3⟩:=H.out
     go_wp2
     exact ⟨rfl,⟨older,rfl⟩,M',A',k1,k2,k3⟩
   · rintro k s'-HX2 e w M' A' HEQ HR2 HE2 HE3 HA2 HA3
     obtain rfl:=HEQ
     have HX3:=hiD (Option.some.inj HX2.out).symm
     clear HX HX2 HN d0 d4 d5
     have HB2:=hiD (HB.out.step HE2.out)
     have r0:=(HB2.out).c6.cell (i:=0) rfl
     have r1:=(HB2.out).c6.cell (i:=1) rfl
     have z0:=(HB2.out).c6.free 0
     have z1:=(HB2.out).c6.free 1
     obtain ⟨c,hc⟩:∃ c,c=(k==0):=⟨_,rfl⟩
     rw [← hc] at HX3
     have hc1:(k==0)=c:=hc.symm
     clear hc
     cases c
     all_goals
        go_wp2_with fail
        go_at_call 131
        refine (one_any _ _).mono ?_
        rintro e w1 ⟨rfl,rfl⟩
        go_wp2_with fail
        rw [HX3.out]
        exact HB2.out.ret HR2.out HE3.out HA3.out (Or.inl ⟨rfl,rfl⟩) rfl rfl rfl rfl
set_option maxRecDepth 100000 in
set_option maxHeartbeats 1000000 in
theorem ev_len {L:List Fn} {f:Nat} (ih:EvC L f) (a:Int) (x:Ex) (b mb:Nat) (P M:Nat→Prop) (A:List (Nat×Nat)) (s:RS) (F:Fr) (fm n:Nat) (W:World) (v:Value) (r:Except Sig V×RS) (h:RAt W b mb L P M A s) (hF:FrAt W P M A fm n F) (hg:GoodE L (.len a x)) (he:ExAt W (fun k=>¬ P k) (.len a x) v) (hr:evE L (f+1) s F (.len a x)=some r) :
 Calls Tryz.prog 120 #[.pointer (some ⟨b,0,none⟩),.map (some fm),v] W (Ran W b mb L P None M A retV r):=by
 have hmf:∀ (fn:Go.Fn) (first cap:Array Value) (w:World),(Instr.makeFunc fn first cap).run Tryz.prog w=.ok (.func fn first cap) w:=fun _ _ _ _=>rfl
 obtain ⟨W3,hW3⟩:∃ W3,W3=((W.alloc (.cells #[.pointer (some ⟨b,0,none⟩)] 108)).alloc (.cells #[.map (some fm)] 162)).alloc (.cells #[.int .i64 0,.slice none 0 0] 164):=⟨_,rfl⟩
 have HM:Hid (Mods None W W3):=hiD (by rw [hW3];exact (((Mods.refl _ _).alloc _).alloc _).alloc _)
 have HB:Hid (Bx W W3 P M b fm W.heap.size):=hiD (by rw [hW3];exact Bx.new fm h)
 have HR:=hiD (h.quiet HM.out)
 have HF:=hiD (hF.ext (Ext.quiet HM.out) (List.prefix_refl A))
 have HE:Hid (Ext None M M W W3):=hiD (Ext.quiet HM.out)
 have HA:=hiD (List.prefix_refl A)
 simp only [ExAt] at he
 obtain ⟨xv,⟨g,rfl,hpg,hv⟩,hxv⟩:=he
 simp only [GoodE] at hg
 have HX:Hid (bindR (evE L f s F x) (fun v s=>okR (numV (arrOf s v).length) s)=some r):=hiD (by rw [← hr];simp only [evE])
 have d0:W3.cell? ⟨g,0,none⟩=some (.int .i64 7):=HM.out.cellOf (hv.cell rfl) (fun f=>f)
 have d5:W3.cell? ⟨g,5,none⟩=some xv:=HM.out.cellOf (hv.cell rfl) (fun f=>f)
 have b3:=HB.out.c3.cell (i:=0) rfl
 have b4:=HB.out.c4.cell (i:=0) rfl
 obtain ⟨W4,hW4⟩:∃ W4,W4=W3.drew:=⟨_,rfl⟩
 have HMD:Mods None W3 W4:=by rw [hW4];exact (Mods.refl _ _).drew
 have HE:Hid (Ext None M M W W4):=hiD (HE.out.trans (Ext.quiet HMD))
 have HB:=hiD (HB.out.step (Ext.quiet HMD))
 have HR:=hiD (HR.out.quiet HMD)
 have HF:=hiD (HF.out.ext (Ext.quiet HMD) (List.prefix_refl A))
 have hxv:=ex_on hxv h HE.out
 have HN:=hiD (fun y hy=>ih x b mb P None M A s F fm n W4 xv y HR.out HF.out hg hxv hy)
 obtain ⟨xg,rfl⟩:=hxv.ptr
 have hl:=hv.lt
 clear h hv hpg hF hg hxv hr ih HF HMD
 go_enter Tryz.func120,Tryz.ntmps120
 go_upto_region 2 with (fail)
 rw [← hW3]
 clear hW3
 go_wp2_with fail
 go_still_tail 6,(by kernel_rfl)
 change wpList _ _ _ _ _ W3.drew
 rw [← hW4]
 clear hW4 d0 d5 b3 b4
 go_wp2_with fail
 go_at_call 120
 refine rbind_of HE HA HX HN.out ?_ ?_
 · rintro g s' rfl older w H
   obtain ⟨M',A',k1,k2,k3⟩:=H.out
   go_wp2
   exact ⟨rfl,⟨older,rfl⟩,M',A',k1,k2,k3⟩
 · rintro x s'-HX2 e w M' A' ⟨v,rfl,hv⟩ HR2 HE2 HE3 HA2 HA3
   have HX3:=hiD (Option.some.inj HX2.out).symm
   clear HX HX2 HN
   have HB2:=hiD (HB.out.step HE2.out)
   have r0:=(HB2.out).c6.cell (i:=0) rfl
   have r1:=(HB2.out).c6.cell (i:=1) rfl
   have z0:=(HB2.out).c6.free 0
   have z1:=(HB2.out).c6.free 1
   obtain ⟨k,av,an,rfl,hlen,han⟩:=hv.len HR2.out
   have hlen:=hiD hlen
   clear hv
   have hfl:=fld_a k (.slice av an an)
   go_wp2_with fail
   rw [HX3.out,hlen.out]
   exact HB2.out.ret HR2.out HE3.out HA3.out (Or.inl ⟨rfl,rfl⟩) rfl rfl rfl rfl
set_option maxRecDepth 100000 in
set_option maxHeartbeats 1000000 in
theorem ev_var {L:List Fn} {f:Nat} (ih:EvC L f) (a:Int) (x:List UInt8) (b mb:Nat) (P M:Nat→Prop) (A:List (Nat×Nat)) (s:RS) (F:Fr) (fm n:Nat) (W:World) (v:Value) (r:Except Sig V×RS) (h:RAt W b mb L P M A s) (hF:FrAt W P M A fm n F) (hg:GoodE L (.var a x)) (he:ExAt W (fun k=>¬ P k) (.var a x) v) (hr:evE L (f+1) s F (.var a x)=some r) :
 Calls Tryz.prog 120 #[.pointer (some ⟨b,0,none⟩),.map (some fm),v] W (Ran W b mb L P None M A retV r):=by
 have hmf:∀ (fn:Go.Fn) (first cap:Array Value) (w:World),(Instr.makeFunc fn first cap).run Tryz.prog w=.ok (.func fn first cap) w:=fun _ _ _ _=>rfl
 obtain ⟨W3,hW3⟩:∃ W3,W3=((W.alloc (.cells #[.pointer (some ⟨b,0,none⟩)] 108)).alloc (.cells #[.map (some fm)] 162)).alloc (.cells #[.int .i64 0,.slice none 0 0] 164):=⟨_,rfl⟩
 have HM:Hid (Mods None W W3):=hiD (by rw [hW3];exact (((Mods.refl _ _).alloc _).alloc _).alloc _)
 have HB:Hid (Bx W W3 P M b fm W.heap.size):=hiD (by rw [hW3];exact Bx.new fm h)
 have HR:=hiD (h.quiet HM.out)
 have HF:=hiD (hF.ext (Ext.quiet HM.out) (List.prefix_refl A))
 have HE:Hid (Ext None M M W W3):=hiD (Ext.quiet HM.out)
 have HA:=hiD (List.prefix_refl A)
 simp only [ExAt] at he
 obtain ⟨g,rfl,hpg,hv⟩:=he
 simp only [GoodE] at hg
 simp only [evE] at hr
 obtain rfl:=(Option.some.inj hr).symm
 have d0:W3.cell? ⟨g,0,none⟩=some (.int .i64 2):=HM.out.cellOf (hv.cell rfl) (fun f=>f)
 have HD:Mods None W3 W3.drew:=(Mods.refl _ _).drew
 have d3:W3.cell? ⟨g,3,none⟩=some (str x):=HM.out.cellOf (hv.cell rfl) (fun f=>f)
 have b4:=HB.out.c4.cell (i:=0) rfl
 have r0:=(HB.out).c6.cell (i:=0) rfl
 have r1:=(HB.out).c6.cell (i:=1) rfl
 have z0:=(HB.out).c6.free 0
 have z1:=(HB.out).c6.free 1
 have HB:=hiD (HB.out.step (Ext.quiet HD))
 have HR:=hiD (HR.out.quiet HD)
 have HE:=hiD (HE.out.trans (Ext.quiet HD))
 obtain ⟨F',k1,k2,k3,k4⟩:=HF.out.ext (Ext.quiet HD) (List.prefix_refl A)
 have hlook:=k1.look (t:=162) Tryz.underlying162 (zero_val _) x hg
 have hval:=k4 x
 obtain ⟨lv,hlv⟩:∃ lv,lv=getL zeroVal F' x:=⟨_,rfl⟩
 rw [← hlv] at hval hlook
 have hl:=hv.lt
 clear hlv k1 k2 k3 k4 h hv hpg hF hr ih HF hg HD
 obtain ⟨m,hm⟩:∃ m,m=Fr.get F x:=⟨_,rfl⟩
 rw [← hm] at hval ⊢
 clear hm
 have HVAL:=hiD hval
 obtain ⟨k,av,an,rfl,-,-⟩:=hval.len HR.out
 clear hval
 unfold str at *
 go_enter Tryz.func120,Tryz.ntmps120
 go_upto_region 2 with (fail)
 rw [← hW3]
 clear hW3
 go_wp2_with fail
 go_region
 all_goals
  go_wp2
  exact HB.out.ret HR.out HE.out HA.out HVAL.out rfl rfl rfl rfl
set_option maxRecDepth 100000 in
set_option maxHeartbeats 1000000 in
theorem ev_new {L:List Fn} {f:Nat} (ih:EvC L f) (a:Int) (x:Ex) (b mb:Nat) (P M:Nat→Prop) (A:List (Nat×Nat)) (s:RS) (F:Fr) (fm n:Nat) (W:World) (v:Value) (r:Except Sig V×RS) (h:RAt W b mb L P M A s) (hF:FrAt W P M A fm n F) (hg:GoodE L (.new a x)) (he:ExAt W (fun k=>¬ P k) (.new a x) v) (hr:evE L (f+1) s F (.new a x)=some r) :
 Calls Tryz.prog 120 #[.pointer (some ⟨b,0,none⟩),.map (some fm),v] W (Ran W b mb L P None M A retV r):=by
 have hmf:∀ (fn:Go.Fn) (first cap:Array Value) (w:World),(Instr.makeFunc fn first cap).run Tryz.prog w=.ok (.func fn first cap) w:=fun _ _ _ _=>rfl
 obtain ⟨W3,hW3⟩:∃ W3,W3=((W.alloc (.cells #[.pointer (some ⟨b,0,none⟩)] 108)).alloc (.cells #[.map (some fm)] 162)).alloc (.cells #[.int .i64 0,.slice none 0 0] 164):=⟨_,rfl⟩
 have HM:Hid (Mods None W W3):=hiD (by rw [hW3];exact (((Mods.refl _ _).alloc _).alloc _).alloc _)
 have HB:Hid (Bx W W3 P M b fm W.heap.size):=hiD (by rw [hW3];exact Bx.new fm h)
 have HR:=hiD (h.quiet HM.out)
 have HF:=hiD (hF.ext (Ext.quiet HM.out) (List.prefix_refl A))
 have HE:Hid (Ext None M M W W3):=hiD (Ext.quiet HM.out)
 have HA:=hiD (List.prefix_refl A)
 simp only [ExAt] at he
 obtain ⟨xv,⟨g,rfl,hpg,hv⟩,hxv⟩:=he
 simp only [GoodE] at hg
 have hxv:=ex_on hxv h HE.out
 have HN:=hiD (numC_of ih hg P b mb fm W.heap.size F xv M A s n W W3 HB.out HR.out HF.out hxv)
 have d0:W3.cell? ⟨g,0,none⟩=some (.int .i64 6):=HM.out.cellOf (hv.cell rfl) (fun f=>f)
 have d5:W3.cell? ⟨g,5,none⟩=some xv:=HM.out.cellOf (hv.cell rfl) (fun f=>f)
 obtain ⟨xg,rfl⟩:=hxv.ptr
 have hl:=hv.lt
 have HX:Hid (bindR (evN L f s F x) (fun k s=>if k<0∨k > 40 then stopR 4 s else okR ⟨0,some s.arrs.length⟩ { s with arrs:=s.arrs++[List.replicate k.toNat 0] })=some r):=hiD (by rw [bindN,← hr];simp only [evE])
 clear h hv hpg hF hg hxv hr ih
 obtain ⟨i0,hi,hz0,hz1,hz2⟩:=info_parts infoInt
 go_enter Tryz.func120,Tryz.ntmps120
 go_upto_region 2 with (fail)
 rw [← hW3]
 clear hW3
 go_wp2_with fail
 go_at_call 130
 refine rbind_of HE HA HX HN.out ?_ ?_
 · rintro g s' rfl older w H
   obtain ⟨M',A',k1,k2,k3⟩:=H.out
   go_wp2
   exact ⟨rfl,⟨older,rfl⟩,M',A',k1,k2,k3⟩
 · rintro k s'-HX2 e w M' A' HEQ HR2 HE2 HE3 HA2 HA3
   obtain rfl:=HEQ
   have HX3:=HX2.out
   have HB2:=hiD (HB.out.step HE2.out)
   by_cases hk0:k<0
   · simp only [if_pos (Or.inl hk0:k<0∨k > 40)] at HX3
     obtain rfl:=(Option.some.inj HX3).symm
     clear HX HX2 HX3 HN d0 d5
     go_wp2_with fail
     go_at_call 73
     refine (stop_any 4 _).mono ?_
     rintro e w6 ⟨⟨older,rfl⟩,rfl⟩
     go_wp2
     exact ⟨rfl,⟨older,rfl⟩,M',A',HR2.out,HE3.out,HA3.out⟩
   · by_cases hk1:k > 40
     · simp only [if_pos (Or.inr hk1:k<0∨k > 40)] at HX3
       obtain rfl:=(Option.some.inj HX3).symm
       clear HX HX2 HX3 HN d0 d5
       go_wp2_with fail
       go_at_call 73
       refine (stop_any 4 _).mono ?_
       rintro e w6 ⟨⟨older,rfl⟩,rfl⟩
       go_wp2
       exact ⟨rfl,⟨older,rfl⟩,M',A',HR2.out,HE3.out,HA3.out⟩
     · rw [if_neg (by omega)] at HX3
       obtain rfl:=(Option.some.inj HX3).symm
       obtain ⟨kn,rfl⟩:=Int.eq_ofNat_of_zero_le (by omega:0≤k)
       clear HX HX2 HX3 HN d0 d5
       have hmk:(Instr.makeSlice 23 (.int .i64 (kn:Int)) (.int .i64 (kn:Int))).run Tryz.prog w=.ok (.slice (some ⟨w.heap.size,0,none⟩) kn kn) (w.alloc (.cells ((List.replicate kn (0:Int)).map (Value.int .i64)).toArray 2)):=by
        have h:=run_make_row1 (P:=Tryz.prog) 23 2 i0 (.int .i64 0) Tryz.underlying23 hi hz0 .i64 .i64 kn (by rw [hz2];omega) (by omega) w
        rw [h,hz1,made_row]
       obtain ⟨hR3,hE4⟩:=HR2.out.newArr kn (by omega)
       have hx:(Int.toNat (kn:Int))=kn:=by simp
       have hA4:A' <+: A'++[(w.heap.size,kn)]:=List.prefix_append _ _
       have hvv:VAt (A'++[(w.heap.size,kn)]) ⟨0,some s'.arrs.length⟩ (.agg #[.int .i64 0,.slice (some ⟨w.heap.size,0,none⟩) kn kn]):=Or.inr ⟨_,w.heap.size,kn,rfl,by rw [← HR2.out.arrs];simp,rfl⟩
       obtain ⟨w7,hw7⟩:∃ w7,w7=w.alloc (.cells ((List.replicate kn (0:Int)).map (Value.int .i64)).toArray 2):=⟨_,rfl⟩
       rw [← hw7] at hR3 hE4 hmk
       rw [hx]
       have HR3:=hiD hR3
       have HB3:=hiD (HB2.out.step hE4)
       have HE4:=hiD (HE3.out.trans hE4)
       have HA4:=hiD (HA3.out.trans hA4)
       have HVV:=hiD hvv
       have r0:=(HB3.out).c6.cell (i:=0) rfl
       have r1:=(HB3.out).c6.cell (i:=1) rfl
       have z0:=(HB3.out).c6.free 0
       have z1:=(HB3.out).c6.free 1
       clear hw7 hR3 hE4 hA4 hvv hx hi hz0 hz1 hz2 HR2 HE2 HE3 HA2 HA3 HB2
       go_wp2_with fail
       exact HB3.out.ret HR3.out HE4.out HA4.out HVV.out rfl rfl rfl rfl
set_option maxRecDepth 100000 in
set_option maxHeartbeats 1000000 in
theorem ev_item {L:List Fn} {f:Nat} (ih:EvC L f) (a:Int) (x y:Ex) (b mb:Nat) (P M:Nat→Prop) (A:List (Nat×Nat)) (s:RS) (F:Fr) (fm n:Nat) (W:World) (v:Value) (r:Except Sig V×RS) (h:RAt W b mb L P M A s) (hF:FrAt W P M A fm n F) (hg:GoodE L (.item a x y)) (he:ExAt W (fun k=>¬ P k) (.item a x y) v) (hr:evE L (f+1) s F (.item a x y)=some r) :
 Calls Tryz.prog 120 #[.pointer (some ⟨b,0,none⟩),.map (some fm),v] W (Ran W b mb L P None M A retV r):=by
 have hmf:∀ (fn:Go.Fn) (first cap:Array Value) (w:World),(Instr.makeFunc fn first cap).run Tryz.prog w=.ok (.func fn first cap) w:=fun _ _ _ _=>rfl
 obtain ⟨W3,hW3⟩:∃ W3,W3=((W.alloc (.cells #[.pointer (some ⟨b,0,none⟩)] 108)).alloc (.cells #[.map (some fm)] 162)).alloc (.cells #[.int .i64 0,.slice none 0 0] 164):=⟨_,rfl⟩
 have HM:Hid (Mods None W W3):=hiD (by rw [hW3];exact (((Mods.refl _ _).alloc _).alloc _).alloc _)
 have HB:Hid (Bx W W3 P M b fm W.heap.size):=hiD (by rw [hW3];exact Bx.new fm h)
 have HR:=hiD (h.quiet HM.out)
 have HF:=hiD (hF.ext (Ext.quiet HM.out) (List.prefix_refl A))
 have HE:Hid (Ext None M M W W3):=hiD (Ext.quiet HM.out)
 have HA:=hiD (List.prefix_refl A)
 simp only [ExAt] at he
 obtain ⟨xv,yv,⟨g,rfl,hpg,hv⟩,hxv,hyv⟩:=he
 simp only [GoodE] at hg
 have HX:Hid (bindR (evE L f s F x) (fun v s=>bindR (evN L f s F y) fun k s=>bindR (placeR s v k) fun n s=>okR (numV n) s)=some r):=hiD (by simp only [bindN];rw [← hr];simp only [evE])
 have d0:W3.cell? ⟨g,0,none⟩=some (.int .i64 8):=HM.out.cellOf (hv.cell rfl) (fun f=>f)
 have d5:W3.cell? ⟨g,5,none⟩=some xv:=HM.out.cellOf (hv.cell rfl) (fun f=>f)
 have b3:=HB.out.c3.cell (i:=0) rfl
 have b4:=HB.out.c4.cell (i:=0) rfl
 have hpg:P g:=Classical.not_not.1 hpg
 obtain ⟨W4,hW4⟩:∃ W4,W4=W3.drew:=⟨_,rfl⟩
 have HMD:Mods None W3 W4:=by rw [hW4];exact (Mods.refl _ _).drew
 have HE:Hid (Ext None M M W W4):=hiD (HE.out.trans (Ext.quiet HMD))
 have HB:=hiD (HB.out.step (Ext.quiet HMD))
 have HR:=hiD (HR.out.quiet HMD)
 have HF:=hiD (HF.out.ext (Ext.quiet HMD) (List.prefix_refl A))
 have hxv:=ex_on hxv h HE.out
 have hyv:=ex_on hyv h HE.out
 have HN:=hiD (fun y hy=>ih x b mb P None M A s F fm n W4 xv y HR.out HF.out hg.1 hxv hy)
 have HN2:=hiD (numC_of ih hg.2 P b mb fm W.heap.size F yv)
 have HY:=hiD (And.intro hyv hpg)
 have HV:Hid (Blk W4 g (cells8 8 a 0 [] [] xv yv nilS) 223):=hiD ((hv.mods HM.out (fun f=>f)).mods HMD (fun f=>f))
 obtain ⟨xg,rfl⟩:=hxv.ptr
 obtain ⟨yg,rfl⟩:=hyv.ptr
 have hl:=hv.lt
 clear h hv hpg hF hg hxv hyv hr ih HMD
 go_enter Tryz.func120,Tryz.ntmps120
 go_upto_region 2 with (fail)
 rw [← hW3]
 clear hW3
 go_wp2_with fail
 go_still_tail 6,(by kernel_rfl)
 change wpList _ _ _ _ _ W3.drew
 rw [← hW4]
 clear hW4 d0 d5 b3 b4
 go_wp2_with fail
 go_at_call 120
 refine rbind_of HE HA HX HN.out ?_ ?_
 · rintro g s' rfl older w H
   obtain ⟨M',A',k1,k2,k3⟩:=H.out
   go_wp2
   exact ⟨rfl,⟨older,rfl⟩,M',A',k1,k2,k3⟩
 · rintro x s'-HX2 e w M' A' ⟨v,rfl,hv⟩ HR2 HE2 HE3 HA2 HA3
   have HB2:=hiD (HB.out.step HE2.out)
   have e6:w.cell? ⟨g,6,none⟩=some (.pointer (some ⟨yg,0,none⟩)):=(blk_on HV.out HY.out.2 HR.out HE2.out).cell rfl
   have HN3:=hiD (HN2.out M' A' s' n W w HB2.out HR2.out (HF.out.ext HE2.out HA2.out) (ex_on HY.out.1 HR.out HE2.out))
   clear HX HN HN2 HY HV HF
   have HVAL:=hiD hv
   obtain ⟨k,av,an,rfl,-,-⟩:=hv.len HR2.out
   clear hv
   have hfl:=fld_a k (.slice av an an)
   go_wp2_with fail
   clear hfl
   go_at_call 130
   refine rbind_of HE3 HA3 HX2 HN3.out ?_ ?_
   · rintro g s' rfl older w H
     obtain ⟨M',A',k1,k2,k3⟩:=H.out
     go_wp2
     exact ⟨rfl,⟨older,rfl⟩,M',A',k1,k2,k3⟩
   · rintro k2 s''-HX5 e w5 M5 A5 HEQ HR5 HE5 HE6 HA5 HA6
     obtain rfl:=HEQ
     have HB5:=hiD (HB2.out.step HE5.out)
     have r0:=(HB5.out).c6.cell (i:=0) rfl
     have r1:=(HB5.out).c6.cell (i:=1) rfl
     have z0:=(HB5.out).c6.free 0
     have z1:=(HB5.out).c6.free 1
     have hv:=HVAL.out.more HA5.out
     have HX6:=HX5.out
     clear HX2 HX5 HN3 HVAL
     rcases hv with ⟨hv1,hv2⟩|⟨i,q,m,hv1,hv2,hv3⟩
     · simp only [Value.agg.injEq,Array.mk.injEq,List.cons.injEq,Value.int.injEq,Value.slice.injEq,true_and,and_true] at hv2
       obtain ⟨rfl,rfl,rfl,-⟩:=hv2
       have hp:placeR s'' x k2=stopR 3 s'':=by unfold placeR;rw [if_pos];simp only [arrOf,hv1,List.length_nil];omega
       rw [hp] at HX6
       obtain rfl:=(Option.some.inj HX6).symm
       clear hp HX6 hv1
       go_wp2_with fail
       go_at_call 121
       refine (place_none k2 _).mono ?_
       rintro e w6 ⟨⟨older,rfl⟩,rfl⟩
       go_wp2
       exact ⟨rfl,⟨older,rfl⟩,M5,A5,HR5.out,HE6.out,HA6.out⟩
     · simp only [Value.agg.injEq,Array.mk.injEq,List.cons.injEq,Value.int.injEq,Value.slice.injEq,true_and,and_true] at hv3
       obtain ⟨rfl,rfl,rfl,-⟩:=hv3
       obtain ⟨l,hl1,rfl,hl2,hl3⟩:=HR5.out.row hv2
       have hal:arrOf s'' x=l:=by simp [arrOf,hv1,hl1,List.getD_eq_getElem?_getD]
       by_cases hout:k2<0∨(l.length:Int)≤k2
       · have hp:placeR s'' x k2=stopR 3 s'':=by unfold placeR;rw [hal,if_pos];omega
         rw [hp] at HX6
         obtain rfl:=(Option.some.inj HX6).symm
         have HP:=hiD (place_out q l.length k2 w5 hl3 hout)
         clear hp HX6 hv1 hv2 hl1 hl2 hl3 hal hout
         go_wp2_with fail
         go_at_call 121
         refine HP.out.mono ?_
         rintro e w6 ⟨⟨older,rfl⟩,rfl⟩
         go_wp2
         exact ⟨rfl,⟨older,rfl⟩,M5,A5,HR5.out,HE6.out,HA6.out⟩
       · obtain ⟨m,hm⟩:∃ m,m=l.getD k2.toNat 0:=⟨_,rfl⟩
         have hp:placeR s'' x k2=okR m s'':=by unfold placeR;rw [hal,if_neg (by omega),hm]
         rw [hp] at HX6
         obtain rfl:r=(.ok (numV m),s''):=(Option.some.inj HX6).symm
         have HP:=hiD (place_in q l.length k2 w5 hl3 (by omega) (by omega))
         obtain ⟨j,hj⟩:∃ j,j=k2.toNat:=⟨_,rfl⟩
         have hjl:j<l.length:=by omega
         have hcell:w5.cell? ⟨q,j,none⟩=some (.int .i64 m):=hl2.cell (by rw [hm,← hj];simp [List.getD_eq_getElem?_getD,List.getElem?_eq_getElem hjl])
         rw [← hj] at HP
         clear hp HX6 hv1 hv2 hl1 hl2 hl3 hal hout hm hj hjl
         go_wp2_with fail
         go_at_call 121
         refine HP.out.mono ?_
         rintro e w6 ⟨rfl,rfl⟩
         go_wp2_with fail
         exact HB5.out.ret HR5.out HE6.out HA6.out (Or.inl ⟨rfl,rfl⟩) rfl rfl rfl rfl
set_option maxRecDepth 100000 in
set_option maxHeartbeats 1000000 in
theorem ev_input {L:List Fn} {f:Nat} (ih:EvC L f) (a:Int) (b mb:Nat) (P M:Nat→Prop) (A:List (Nat×Nat)) (s:RS) (F:Fr) (fm n:Nat) (W:World) (v:Value) (r:Except Sig V×RS) (h:RAt W b mb L P M A s) (hF:FrAt W P M A fm n F) (hg:GoodE L (.input a)) (he:ExAt W (fun k=>¬ P k) (.input a) v) (hr:evE L (f+1) s F (.input a)=some r) :
 Calls Tryz.prog 120 #[.pointer (some ⟨b,0,none⟩),.map (some fm),v] W (Ran W b mb L P None M A retV r):=by
 have hmf:∀ (fn:Go.Fn) (first cap:Array Value) (w:World),(Instr.makeFunc fn first cap).run Tryz.prog w=.ok (.func fn first cap) w:=fun _ _ _ _=>rfl
 obtain ⟨W3,hW3⟩:∃ W3,W3=((W.alloc (.cells #[.pointer (some ⟨b,0,none⟩)] 108)).alloc (.cells #[.map (some fm)] 162)).alloc (.cells #[.int .i64 0,.slice none 0 0] 164):=⟨_,rfl⟩
 have HM:Hid (Mods None W W3):=hiD (by rw [hW3];exact (((Mods.refl _ _).alloc _).alloc _).alloc _)
 have HB:Hid (Bx W W3 P M b fm W.heap.size):=hiD (by rw [hW3];exact Bx.new fm h)
 have HR:=hiD (h.quiet HM.out)
 have HF:=hiD (hF.ext (Ext.quiet HM.out) (List.prefix_refl A))
 have HE:Hid (Ext None M M W W3):=hiD (Ext.quiet HM.out)
 have HA:=hiD (List.prefix_refl A)
 simp only [ExAt] at he
 obtain ⟨g,rfl,hpg,hv⟩:=he
 have d0:W3.cell? ⟨g,0,none⟩=some (.int .i64 9):=HM.out.cellOf (hv.cell rfl) (fun f=>f)
 have b3:=HB.out.c3.cell (i:=0) rfl
 have r0:=(HB.out).c6.cell (i:=0) rfl
 have r1:=(HB.out).c6.cell (i:=1) rfl
 have z0:=(HB.out).c6.free 0
 have z1:=(HB.out).c6.free 1
 have hl:=hv.lt
 obtain ⟨iv,ov,hb,⟨ia,il,ic,rfl,hn,hc,hmax,hcell⟩,-⟩:=HR.out.blk
 have b1:W3.cell? ⟨b,1,none⟩=some (.slice ia il ic):=hb.cell rfl
 have bz:=hb.free 1
 clear hv hpg hF hg ih HF hb
 simp only [evE] at hr
 cases hin:s.inp with
 | nil =>
   rw [hin] at hr hn
   simp only [List.length_nil] at hn
   subst hn
   obtain rfl:=(Option.some.inj hr).symm
   clear hr hcell hin hc hmax h
   go_enter Tryz.func120,Tryz.ntmps120
   go_upto_region 2 with (fail)
   rw [← hW3]
   clear hW3
   go_wp2_with fail
   exact HB.out.ret HR.out HE.out HA.out (Or.inl ⟨rfl,rfl⟩) rfl rfl rfl rfl
 | cons k t =>
   rw [hin] at hr hn hcell
   obtain rfl:=(Option.some.inj hr).symm
   obtain ⟨gi,oi,rfl,hgi,hci⟩:=hcell 0 k rfl
   have hgi:P gi:=Classical.not_not.1 hgi
   simp only [List.length_cons] at hn
   obtain ⟨m,hm⟩:∃ m,m=t.length:=⟨_,rfl⟩
   have hb2:b≠W.heap.size:=fun e=>by have:=h.old b h.has;omega
   have hgb:gi≠b:=fun e=>h.off b h.has (e ▸ hgi)
   have hbl:=h.old b h.has
   rw [← hm] at hn
   subst hn
   have HI:Hid (InAt W3 (fun k=>¬ P k) (.slice (some ⟨gi,oi+1,none⟩) m (ic-1)) t):=hiD ⟨_,_,_,rfl,hm,by omega,by omega,fun i x hx=>by
    obtain ⟨g2,o2,e1,e2,e3⟩:=hcell (i+1) x hx
    simp only [Option.some.injEq,Addr.mk.injEq,and_true] at e1
    obtain ⟨rfl,rfl⟩:=e1
    exact ⟨_,_,rfl,e2,by have:oi+1+i=oi+(i+1):=by omega
                         rw [this];exact e3⟩⟩
   have hs1:(0:Int)<(m:Int)+1:=by omega
   have hs2:(((m+1:Nat):Int)==0)=false:=by simp;omega
   have hs3:((m:Int)+1==0)=false:=by simp;omega
   simp only [Nat.add_zero] at hci
   have HT:=hiD hm
   have HC:=hiD (And.intro hc hmax)
   clear hr hcell hin hm h
   go_enter Tryz.func120,Tryz.ntmps120
   go_upto_region 2 with (fail)
   rw [← hW3]
   clear hW3
   go_wp2_with fail
   all_goals
    try go_region
   all_goals
    try go_wp2_with fail
   all_goals
    first
    | exact HB.out.took HR.out HE.out HA.out HI.out rfl rfl rfl rfl
    | (refine HB.out.took HR.out HE.out HA.out (iv:=.slice (some ⟨gi,oi,none⟩) m 0) ?_ rfl rfl rfl rfl
       have h1:=HC.out.1
       have h2:=HT.out
       obtain rfl:m=0:=by omega
       obtain rfl:t=[]:=List.eq_nil_of_length_eq_zero h2.symm
       exact ⟨_,_,_,rfl,rfl,Nat.le_refl _,Nat.zero_le _,fun i x hx=>by simp at hx⟩)
end Go.Proofs.YtnicpmoanjddbaaGreatDoor.TreeP

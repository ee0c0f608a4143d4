/- Places as they lie; what is thrown. Conditions: what is asked lies. Arrays, what is told, what is taken: mid's runner. Printed by mkmarr.py. Conditions: what it has lies. What mid's lower has, as it lies. Conditions: what is asked lies. Steps out of programs: a place, a step, both, a label. Conditions: what lower has lies. -/
import Derived.Test.YtnicpmoanjddbaaGreatDoorMs11
import Derived.Deep.Cut
import Derived.Test.YtnicpmoanjddbaaGreatDoorMs12
import Derived.Test.YtnicpmoanjddbaaGreatDoorMs03
namespace Go.Proofs.YtnicpmoanjddbaaGreatDoor.MidP
open Go.RowKit Go.Proofs.YtnicpmoanjddbaaGreatDoor.Wo Go.Maps Go.Proofs.YtnicpmoanjddbaaGreatDoor.TreeP
set_option linter.unusedVariables false
set_option linter.unusedSimpArgs false
set_option maxRecDepth 100000 in
theorem stop_any (n:Int) (W:World):Calls Tryz.prog 50 #[.int .i64 n] W fun e w=>Pan (.stop n) e∧W=w:=by
 go_enter Tryz.func50,Tryz.ntmps50
 go_wp2
 exact ⟨rfl,⟨Old.nil,rfl⟩,rfl⟩
def PlAt (W:World) (P M:Nat→Prop) (A:List (Nat×Nat)) (g:Nat) (v:Pl):Prop :=
 ∃ cs:List Value,Blk W g cs 123∧cs.length=v.length*2∧(∀ (j:Nat) (x:V),v[j]?=some x→∃ u w,cs[j*2]?=some u∧cs[j*2+1]?=some w∧VAt A x (.agg #[u,w]))∧¬ M g∧¬ P g
theorem PlAt.ext {W W':World} {P T M M':Nat→Prop} {A A':List (Nat×Nat)} {g:Nat} {v:Pl} (h:PlAt W P M A g v) (hE:Ext T M M' W W') (hT:¬ T g) (hA:A <+: A'):PlAt W' P M' A' g v:=by
 obtain ⟨cs,h1,h2,h3,h4,h5⟩:=h
 refine ⟨cs,h1.mods hE.mods (fun k=>k.elim hT h4),h2,fun j x hx=>?_,fun hm=>h4 (hE.back g h1.lt hm),h5⟩
 obtain ⟨u,w,e1,e2,e3⟩:=h3 j x hx
 exact ⟨u,w,e1,e2,e3.more hA⟩
theorem PlAt.get {W:World} {P M:Nat→Prop} {A:List (Nat×Nat)} {g:Nat} {v:Pl} (h:PlAt W P M A g v) {p:Nat} (hp:p<v.length):∃ u w,W.cell? ⟨g,p*2,none⟩=some u∧W.cell? ⟨g,p*2+1,none⟩=some w∧VAt A (v.get (p:Int)) (.agg #[u,w]):=by
 obtain ⟨cs,h1,h2,h3,h4,h5⟩:=h
 obtain ⟨u,w,e1,e2,e3⟩:=h3 p v[p] (List.getElem?_eq_getElem hp)
 refine ⟨u,w,h1.cell e1,h1.cell e2,?_⟩
 have:v.get (p:Int)=v[p]:=by
  unfold Pl.get
  rw [Int.toNat_natCast,List.getD_eq_getElem?_getD,List.getElem?_eq_getElem hp]
  rfl
 rw [this]
 exact e3
theorem PlAt.put {W:World} {P M:Nat→Prop} {A:List (Nat×Nat)} {g:Nat} {v:Pl} (h:PlAt W P M A g v) {p:Nat} (hp:p<v.length) {x:V} {u w:Value} (hx:VAt A x (.agg #[u,w])):PlAt ((W.setCell ⟨g,p*2,none⟩ u).setCell ⟨g,p*2+1,none⟩ w) P M A g (v.put (p:Int) x)∧Mods (·=g) W ((W.setCell ⟨g,p*2,none⟩ u).setCell ⟨g,p*2+1,none⟩ w):=by
 obtain ⟨cs,h1,h2,h3,h4,h5⟩:=h
 refine ⟨⟨(cs.set (p*2) u).set (p*2+1) w,(h1.set (p*2) u).set (p*2+1) w,?_,fun j y hy=>?_,h4,h5⟩,(mods_put _ _ _ _).trans (mods_put _ _ _ _)⟩
 · unfold Pl.put
   simp [h2]
 · unfold Pl.put at hy
   rw [Int.toNat_natCast] at hy
   by_cases hj:j=p
   · subst hj
     rw [List.getElem?_set_self hp] at hy
     obtain rfl:=Option.some.inj hy
     refine ⟨u,w,?_,?_,hx⟩
     · rw [List.getElem?_set_ne (by omega),List.getElem?_set_self (by omega)]
     · rw [List.getElem?_set_self (by rw [List.length_set];omega)]
   · rw [List.getElem?_set_ne (fun e=>hj e.symm)] at hy
     obtain ⟨u',w',e1,e2,e3⟩:=h3 j y hy
     refine ⟨u',w',?_,?_,e3⟩
     · rw [List.getElem?_set_ne (by omega),List.getElem?_set_ne (by omega)]
       exact e1
     · rw [List.getElem?_set_ne (by omega),List.getElem?_set_ne (by omega)]
       exact e2
structure Grew (W W':World) (v v':Value):Prop where
 mods:Mods (fun k=>v.ownBlock=some k) W W'
 loc:v'.ownBlock=v.ownBlock∨v'.ownBlock=some W.heap.size
theorem grew_of {W W':World} {v v':Value} (hg:W.grownBy W' v.ownBlock) (hl:v'.ownBlock=v.ownBlock∨v'.ownBlock=some W.heap.size):Grew W W' v v' :=
 ⟨Mods.of_grownBy hg (fun k hk _=>hk),hl⟩
theorem one_new (W:World) (v:Value) (e:TypeId):∀ j u,[v][j]?=some u→(W.alloc (.cells #[v] e)).cell? ((⟨W.heap.size,0,none⟩:Addr).add j)=some u:=by
 intro j u hj
 cases j with
 | zero=>exact (Blk.new W #[v] e).cell (i:=0) (v:=u) hj
 | succ j=>simp at hj
theorem keep_blk {W w:World} {T M M':Nat→Prop} {g:Nat} {cs:List Value} {t:TypeId} (h:Blk W g cs t) (hE:Ext T M M' W w) (hn:¬ M g) (hT:¬ T g):Blk w g cs t∧¬ M' g:=⟨h.mods hE.mods (fun k=>k.elim hT hn),fun hm=>hn (hE.back g h.lt hm)⟩
theorem VAt.num {A:List (Nat×Nat)} {x:V} {v:Value} (h:VAt A x v):∃ av,v=.agg #[.int .i64 x.n,av]:=by
 rcases h with ⟨_,rfl⟩|⟨i,g,n,_,_,rfl⟩
 · exact ⟨_,rfl⟩
 · exact ⟨_,rfl⟩
theorem Ext.new {T M0 M S:Nat→Prop} {W0 W W':World} (h:Ext T M0 M W0 W) (hm:Mods S W W') (hS:∀ k,k<W0.heap.size→¬ S k):Ext T M0 M W0 W' :=
 ⟨h.mods.trans' hm (fun k hs hk=>(hS k hk hs).elim),h.back⟩
theorem Ext.transNew {T M M' M'':Nat→Prop} {W W' W'':World} (h:Ext None M M' W W') (k:Ext T M' M'' W' W'') (hT:∀ i,i<W.heap.size→¬ T i):Ext None M M'' W W'' :=
 ⟨h.mods.trans' k.mods (fun i hi hl=>hi.elim (fun ht=>(hT i hl ht).elim) (fun hm=>Or.inr (h.back i hl hm))),fun i hi hm=>h.back i hi (k.back i (Nat.lt_of_lt_of_le hi h.mods.size) hm)⟩
theorem RAt.newArr {w:World} {b mb:Nat} {L:List Fm} {P M:Nat→Prop} {A:List (Nat×Nat)} {s:RS} (h:RAt w b mb L P M A s) (n:Nat) (hn:n≤40) :
 RAt (w.alloc (.cells ((List.replicate n (0:Int)).map (Value.int .i64)).toArray 2)) b mb L P (fun k=>M k∨k=w.heap.size) (A++[(w.heap.size,n)]) { s with arrs:=s.arrs++[List.replicate n 0] }∧Ext None M (fun k=>M k∨k=w.heap.size) w (w.alloc (.cells ((List.replicate n (0:Int)).map (Value.int .i64)).toArray 2)):=by
 have hm:Mods None w (w.alloc (.cells ((List.replicate n (0:Int)).map (Value.int .i64)).toArray 2)):=(Mods.refl _ _).alloc _
 have hsz:(w.alloc (.cells ((List.replicate n (0:Int)).map (Value.int .i64)).toArray 2)).heap.size=w.heap.size+1:=by simp
 have h':=h.quiet hm
 have ho:=h.old
 have hg:=h.given
 refine ⟨⟨?_,Or.inl h'.has,h'.fns,?_,?_,?_,?_,?_,?_,h'.given,h'.few,h'.calls,h'.fuel⟩,⟨hm.mono fun _ _ f=>f.elim,?_⟩⟩
 · obtain ⟨iv,ov,h1,h2,h3,h4⟩:=h'.blk
   refine ⟨iv,ov,h1,h2,h3,fun k hk=>⟨Or.inl (h4 k hk).1,(h4 k hk).2.1,?_⟩⟩
   intro g m hgm
   rcases List.mem_append.1 hgm with hgm|hgm
   · exact (h4 k hk).2.2 g m hgm
   · simp only [List.mem_singleton,Prod.mk.injEq] at hgm
     have:=ho k (h4 k hk).1
     omega
 · simp [h.arrs]
 · intro i l hl
   rcases Nat.lt_or_ge i s.arrs.length with hi|hi
   · have hl2:s.arrs[i]?=some l:=by simpa [List.getElem?_append_left hi] using hl
     obtain ⟨g,e1,e2,e3⟩:=h'.arr i l hl2
     exact ⟨g,by rw [List.getElem?_append_left (by rw [h.arrs];exact hi)];exact e1,e2,e3⟩
   · simp only [List.getElem?_append_right hi] at hl
     obtain ⟨hi2,hl⟩:=List.getElem?_eq_some_iff.1 hl
     simp only [List.length_singleton] at hi2
     obtain rfl:i=s.arrs.length:=by omega
     simp only [Nat.sub_self,List.getElem_cons_zero] at hl
     subst hl
     refine ⟨w.heap.size,?_,Blk.new w _ _,by simpa using hn⟩
     rw [List.getElem?_append_right (by rw [h.arrs];exact Nat.le_refl _)]
     simp [h.arrs]
 · intro g m hgm
   rcases List.mem_append.1 hgm with hgm|hgm
   · exact ⟨Or.inl (h.mine g m hgm).1,(h.mine g m hgm).2⟩
   · simp only [List.mem_singleton,Prod.mk.injEq] at hgm
     have:=ho b h.has
     exact ⟨Or.inr hgm.1,by omega⟩
 · refine List.pairwise_append.2 ⟨h.apart,List.pairwise_singleton _ _,?_⟩
   intro x hx y hy
   simp only [List.mem_singleton] at hy
   subst hy
   have:=ho x.1 (h.mine x.1 x.2 hx).1
   show x.1≠w.heap.size
   omega
 · intro k hk
   rw [hsz]
   rcases hk with hk|hk
   · have:=ho k hk
     omega
   · omega
 · intro k hk hp
   rcases hk with hk|hk
   · exact h.off k hk hp
   · have:=hg k hp
     omega
 · intro k hk hm
   rcases hm with hm|hm
   · exact hm
   · omega
theorem RAt.taken {W:World} {b mb:Nat} {L:List Fm} {P M:Nat→Prop} {A:List (Nat×Nat)} {s:RS} (h:RAt W b mb L P M A s) (r:List Int) (iv:Value) (hi:InAt W (fun k=>¬ P k) iv r):RAt (W.setCell ⟨b,1,none⟩ iv) b mb L P M A { s with inp:=r } :=
 h.own (mods_put _ _ _ _) rfl rfl h.calls h.fuel (fun iv' ov h1 h2=>⟨iv,h1.set 1 _,hi⟩)
theorem VAt.len {w:World} {b mb:Nat} {L:List Fm} {P M:Nat→Prop} {A:List (Nat×Nat)} {s:RS} {x:V} {v:Value} (h:VAt A x v) (hR:RAt w b mb L P M A s):∃ k a n,v=.agg #[.int .i64 k,.slice a n n]∧((arrOf s x).length:Int)=(n:Int)∧n≤40:=by
 rcases h with ⟨h1,rfl⟩|⟨i,g,n,h1,h2,rfl⟩
 · exact ⟨_,_,_,rfl,by simp [arrOf,h1],by omega⟩
 · obtain ⟨hi,hi2⟩:=List.getElem?_eq_some_iff.1 h2
   have hl:s.arrs[i]?=some (s.arrs[i]'(by rw [← hR.arrs];exact hi)):=List.getElem?_eq_getElem _
   obtain ⟨g',e1,e2,e3⟩:=hR.arr i _ hl
   rw [h2] at e1
   simp only [Option.some.injEq,Prod.mk.injEq] at e1
   obtain ⟨rfl,rfl⟩:=e1
   refine ⟨_,_,_,rfl,?_,e3⟩
   simp only [arrOf,h1,List.getD_eq_getElem?_getD,hl,Option.getD_some]
theorem RAt.row {w:World} {b mb:Nat} {L:List Fm} {P M:Nat→Prop} {A:List (Nat×Nat)} {s:RS} {i g n:Nat} (hR:RAt w b mb L P M A s) (h2:A[i]?=some (g,n)):∃ l,s.arrs[i]?=some l∧n=l.length∧Blk w g (l.map (Value.int .i64)) 2∧l.length≤40:=by
 obtain ⟨hi,hi2⟩:=List.getElem?_eq_some_iff.1 h2
 have hl:s.arrs[i]?=some (s.arrs[i]'(by rw [← hR.arrs];exact hi)):=List.getElem?_eq_getElem _
 obtain ⟨g',e1,e2,e3⟩:=hR.arr i _ hl
 rw [h2] at e1
 simp only [Option.some.injEq,Prod.mk.injEq] at e1
 obtain ⟨rfl,rfl⟩:=e1
 exact ⟨_,hl,rfl,e2,e3⟩
theorem no_way {G:Prop} (P:Program) (w:World) (h:G) (_k:wpAny P .any #[] (fun _ _ _=>True) 0 #[] { tmps:=#[],defers:=[] } w):G:=h
theorem infoInt:(Tryz.prog.info? 2).map (fun i=>(i.zero,i.size,i.bytes))=some (some (.int .i64 0),1,8):=by kernel_rfl
theorem run_make_row1 {P:Program} (t e:TypeId) (i:TypeInfo) (z:Value) (ht:P.underlying t=some (.slice e)) (hi:P.info? e=some i) (hz:i.zero=some z)
 (kl kc:IntKind) (n:Nat) (hbytes:i.bytes*n≤281474976710656) (h63:n≤9223372036854775807) (w:World) :
 (Instr.makeSlice t (.int kl (n:Int)) (.int kc (n:Int))).run P w=.ok (.slice (some ⟨w.heap.size,0,none⟩) n n) (w.alloc (.cells (madeCells z.cells (n*i.size)) e)):=by
 have hb:(i.bytes:Int)*(n:Int)≤281474976710656:=by
  have h:((i.bytes*n:Nat):Int)≤281474976710656:=by omega
  rwa [Int.natCast_mul] at h
 have hr:=run_make (P:=P) w t e i z ht hi hz kl kc n n (by omega) (by omega) hb (by omega)
 simp only [Int.toNat_natCast] at hr
 exact hr
theorem made_row (n:Nat):madeCells (Value.int .i64 0).cells (n*1)=((List.replicate n (0:Int)).map (Value.int .i64)).toArray:=by
 apply Array.ext
 · simp [madeCells]
 · intro i h1 h2
   simp [madeCells,Value.cells,Nat.mod_one]
theorem RAt.told {w6 w7:World} {b mb:Nat} {L:List Fm} {P M:Nat→Prop} {A:List (Nat×Nat)} {s:RS} (h:RAt w6 b mb L P M A s) {ov v':Value} (hov:w6.cell? ⟨b,4,none⟩=some ov) (k:Int) (hn:s.out.length<200) (hown:w7.ownsRow 0 2 1 v' (s.out.length+1) (s.out.map (Value.int .i64)++[.int .i64 k])) (hg:Grew w6 w7 ov v') :
 RAt (w7.setCell ⟨b,4,none⟩ v') b mb L P (fun k=>M k∨v'.ownBlock=some k) A { s with out:=s.out++[k] }∧Ext None M (fun k=>M k∨v'.ownBlock=some k) w6 (w7.setCell ⟨b,4,none⟩ v'):=by
 obtain ⟨⟨iv,ov2,h1,h2,h3,h4⟩,h5,⟨h7,n,F,h6,h8⟩,h9,h10,h11,h12,h13,h17,h18,h14,h15,h16⟩:=h
 obtain rfl:ov2=ov:=by
  have:=h1.cell (i:=4) (v:=ov2) rfl
  rw [hov] at this
  exact (Option.some.inj this).symm
 have hm7:Mods (fun k=>ov2.ownBlock=some k) w6 w7:=hg.mods
 have hm8:Mods (·=b) w7 (w7.setCell ⟨b,4,none⟩ v'):=mods_put _ _ _ _
 have hb6:b<w6.heap.size:=h13 b h5
 have hm68:Mods (fun k=>ov2.ownBlock=some k∨k=b) w6 (w7.setCell ⟨b,4,none⟩ v'):=(hm7.mono fun _ _ hk=>Or.inl hk).trans (hm8.mono fun _ _ hk=>Or.inr hk)
 have hMP:∀ k,(ov2.ownBlock=some k∨k=b)→M k:=fun k hk=>hk.elim (fun e=>(h4 k e).1) (fun e=>by rw [e];exact h5)
 have hm68P:Mods (fun k=>¬ P k) w6 (w7.setCell ⟨b,4,none⟩ v'):=hm68.mono fun k _ hk=>h17 k (hMP k hk)
 have hloc:∀ k,v'.ownBlock=some k→ov2.ownBlock=some k∨k=w6.heap.size:=fun k hk=>by
  rcases hg.loc with e|e
  · exact Or.inl (by rw [← e];exact hk)
  · rw [e] at hk
    exact Or.inr (Option.some.inj hk).symm
 have hne:∀ k,v'.ownBlock=some k→k≠b:=fun k hk=>by
  rcases hloc k hk with e|e
  · exact (h4 k e).2.1
  · omega
 have hAk:∀ k,v'.ownBlock=some k→∀ g n,(g,n)∈A→g≠k:=fun k hk g m hgm=>by
  rcases hloc k hk with e|e
  · exact (h4 k e).2.2 g m hgm
  · have:=h13 g (h11 g m hgm).1
    omega
 have hb7:Blk w7 b [.map (some mb),iv,.int .i64 s.fuel,.int .i64 s.calls,ov2] 62:=h1.mods hm7 (fun e=>(h4 b e).2.1 rfl)
 refine ⟨⟨⟨iv,v',hb7.set 4 v',h2.mods hm68P (fun _ _ k=>k),?_,fun k hk=>⟨Or.inr hk,hne k hk,hAk k hk⟩⟩,Or.inl h5,⟨h7,n,F,h6.mods hm68 (fun e=>h17 mb (hMP mb e) h7),fun f x hx=>(h8 f x hx).mods hm68P (fun _ _ k=>k)⟩,h9,?_,fun g m hgm=>⟨Or.inl (h11 g m hgm).1,(h11 g m hgm).2⟩,h12,?_,?_,fun k hk=>Nat.lt_of_lt_of_le (h18 k hk) hm68.size,?_,h15,h16⟩,?_⟩
 · have:=hm8.ownsRow hown (fun k hk=>hne k hk)
   simpa using this
 · intro i l hl
   obtain ⟨g,e1,e2,e3⟩:=h10 i l hl
   refine ⟨g,e1,e2.mods hm68 ?_,e3⟩
   rintro (e|e)
   · exact (h4 g e).2.2 g _ (List.mem_of_getElem? e1) rfl
   · exact (h11 g _ (List.mem_of_getElem? e1)).2 e
 · intro k hk
   have hsz:(w7.setCell ⟨b,4,none⟩ v').heap.size=w7.heap.size:=by simp [World.setCell]
   rw [hsz]
   rcases hk with hk|hk
   · exact Nat.lt_of_lt_of_le (h13 k hk) hm7.size
   · exact (hown.lt k hk).2
 · rintro k (hk|hk) hp
   · exact h17 k hk hp
   · rcases hloc k hk with e|e
     · exact h17 k (h4 k e).1 hp
     · have:=h18 k hp
       omega
 · simp only [List.length_append,List.length_singleton]
   omega
 · refine ⟨hm68.mono fun k _ hk=>Or.inr (hMP k hk),fun k hk hm=>?_⟩
   rcases hm with hm|hm
   · exact hm
   · rcases hloc k hm with e|e
     · exact (h4 k e).1
     · omega
theorem RAt.outAt {w6 w7:World} {b mb:Nat} {L:List Fm} {P M:Nat→Prop} {A:List (Nat×Nat)} {s:RS} (h:RAt w6 b mb L P M A s) {ov v':Value} (hov:w6.cell? ⟨b,4,none⟩=some ov) (hg:Grew w6 w7 ov v'):w7.cell? ⟨b,4,none⟩=some ov∧w7.frozen? ⟨b,4,none⟩=false:=by
 obtain ⟨iv,ov2,h1,h2,h3,h4⟩:=h.blk
 obtain rfl:ov2=ov:=by
  have:=h1.cell (i:=4) (v:=ov2) rfl
  rw [hov] at this
  exact (Option.some.inj this).symm
 have hb7:Blk w7 b [.map (some mb),iv,.int .i64 s.fuel,.int .i64 s.calls,ov2] 62:=h1.mods hg.mods (fun e=>(h4 b e).2.1 rfl)
 exact ⟨hb7.cell rfl,hb7.free 4⟩
theorem RAt.setArr {w:World} {b mb:Nat} {L:List Fm} {P M:Nat→Prop} {A:List (Nat×Nat)} {s:RS} (h:RAt w b mb L P M A s) {i g:Nat} {l:List Int} (h2:A[i]?=some (g,l.length)) (hl:s.arrs[i]?=some l) (j:Nat) (x:Int) :
 RAt (w.setCell ⟨g,j,none⟩ (.int .i64 x)) b mb L P M A { s with arrs:=s.arrs.set i (l.set j x) }∧Ext None M M w (w.setCell ⟨g,j,none⟩ (.int .i64 x)):=by
 obtain ⟨⟨iv,ov,h1,h2',h3,h4⟩,h5,⟨h7,n,F,h6,h8⟩,h9,h10,h11,h12,h13,h17,h18,h14,h15,h16⟩:=h
 have hm:Mods (·=g) w (w.setCell ⟨g,j,none⟩ (.int .i64 x)):=mods_put _ _ _ _
 have hgm:=List.mem_of_getElem? h2
 have hMg:=(h11 g _ hgm).1
 have hmP:Mods (fun k=>¬ P k) w (w.setCell ⟨g,j,none⟩ (.int .i64 x)):=hm.mono fun k _ e=>by rw [e];exact h17 g hMg
 refine ⟨⟨⟨iv,ov,h1.mods hm (fun e=>(h11 g _ hgm).2 e.symm),h2'.mods hmP (fun _ _ k=>k),hm.ownsRow h3 (fun k hk e=>(h4 k hk).2.2 g _ hgm e.symm),h4⟩,h5,⟨h7,n,F,h6.mods hm (fun e=>h17 g hMg (e ▸ h7)),fun f y hy=>(h8 f y hy).mods hmP (fun _ _ k=>k)⟩,by simpa using h9,?_,h11,h12,fun k hk=>Nat.lt_of_lt_of_le (h13 k hk) hm.size,h17,fun k hk=>Nat.lt_of_lt_of_le (h18 k hk) hm.size,h14,h15,h16⟩,⟨hm.mono fun k _ e=>Or.inr (by rw [e];exact hMg),fun _ _ k=>k⟩⟩
 intro i2 l2 hl2
 by_cases hi:i2=i
 · subst hi
   have hlt:i2<s.arrs.length:=(List.getElem?_eq_some_iff.1 hl).1
   rw [List.getElem?_set_self hlt] at hl2
   obtain rfl:=Option.some.inj hl2
   obtain ⟨g',e1,e2,e3⟩:=h10 i2 l hl
   rw [h2] at e1
   simp only [Option.some.injEq,Prod.mk.injEq,and_true] at e1
   subst e1
   refine ⟨g,by simpa using h2,?_,by simpa using e3⟩
   have:=e2.set j (.int .i64 x)
   rw [List.map_set]
   exact this
 · rw [List.getElem?_set_ne (fun e=>hi e.symm)] at hl2
   obtain ⟨g',e1,e2,e3⟩:=h10 i2 l2 hl2
   refine ⟨g',e1,e2.mods hm ?_,e3⟩
   intro e
   subst e
   have ha:=List.getElem?_eq_some_iff.1 e1
   have hb:=List.getElem?_eq_some_iff.1 h2
   have hp:=List.pairwise_iff_getElem.1 h12
   rcases Nat.lt_or_gt_of_ne hi with hlt|hlt
   · have:=hp i2 i ha.1 hb.1 hlt
     rw [ha.2,hb.2] at this
     exact this rfl
   · have:=hp i i2 hb.1 ha.1 hlt
     rw [ha.2,hb.2] at this
     exact this rfl
def LBlk (W:World) (b mb:Nat) (P M:Nat→Prop) (nm:List UInt8) (pr:Int) (w:Lw):Prop :=
 ∃ tv sv cs,Blk W b [str nm,.int .i64 pr,tv,sv,.map (some mb),.int .i64 (w.labels:Int),.int .i64 w.none] 89∧W.ownsRow 0 3 1 tv w.types.length (w.types.map (Value.int .i64)) ∧
   W.ownsRow 0 57 10 sv w.steps.length cs∧RelS W (fun k=>¬ P k) cs w.steps∧(∀ k,tv.ownBlock=some k→M k∧k≠b∧k≠mb)∧(∀ k,sv.ownBlock=some k→M k∧k≠b∧k≠mb∧tv.ownBlock≠some k)
def LNm (W:World) (mb:Nat) (w:Lw):Prop:=∃ n F,NameMap W mb n (.int .i64 0) F∧n≤w.names.length∧∀ x,getL (.int .i64 0) F x=.int .i64 (getN w.names x)
structure LAt (W:World) (b mb:Nat) (P M:Nat→Prop) (nm:List UInt8) (pr:Int) (w:Lw):Prop where
 blk:LBlk W b mb P M nm pr w
 names:LNm W mb w
 has:M b
 map:M mb∧mb≠b
 old:∀ k,M k→k<W.heap.size
 off:∀ k,M k→¬ P k
 given:∀ k,P k→k<W.heap.size
theorem LNm.mods {W W':World} {S:Nat→Prop} {mb:Nat} {w:Lw} (h:LNm W mb w) (hm:Mods S W W') (hn:¬ S mb):LNm W' mb w:=by
 obtain ⟨n,F,h1,h2,h3⟩:=h
 exact ⟨n,F,h1.mods hm hn,h2,h3⟩
theorem LAt.turn {W W':World} {b mb:Nat} {P M M' S:Nat→Prop} {nm:List UInt8} {pr:Int} {w w':Lw} (h:LAt W b mb P M nm pr w) (hm:Mods S W W') (hS:∀ k,S k→M k) (hM:∀ k,M k→M' k)
 (hM':∀ k,M' k→M k∨(W.heap.size≤k∧k<W'.heap.size)) (hb:LBlk W' b mb P M' nm pr w') (hn:LNm W' mb w'):LAt W' b mb P M' nm pr w'∧Ext None M M' W W':=by
 refine ⟨⟨hb,hn,hM _ h.has,⟨hM _ h.map.1,h.map.2⟩,fun k hk=>?_,fun k hk hp=>?_,fun k hk=>Nat.lt_of_lt_of_le (h.given k hk) hm.size⟩,⟨hm.mono fun k _ s=>Or.inr (hS k s),fun k hk hk'=>?_⟩⟩
 · rcases hM' k hk with e|e
   · exact Nat.lt_of_lt_of_le (h.old k e) hm.size
   · exact e.2
 · rcases hM' k hk with e|e
   · exact h.off k e hp
   · have:=h.given k hp;omega
 · rcases hM' k hk' with e|e
   · exact e
   · omega
theorem LAt.aside {W W':World} {b mb:Nat} {P M S:Nat→Prop} {nm:List UInt8} {pr:Int} {w:Lw} (h:LAt W b mb P M nm pr w) (hm:Mods S W W') (hS:∀ k,S k→¬ M k∧¬ P k):LAt W' b mb P M nm pr w:=by
 have hmP:Mods (fun k=>¬ P k) W W':=hm.mono fun k _ f=>(hS k f).2
 obtain ⟨tv,sv,cs,h1,h2,h3,h4,h5,h6⟩:=h.blk
 exact ⟨⟨tv,sv,cs,h1.mods hm (fun f=>(hS _ f).1 h.has),hm.ownsRow h2 (fun k hk f=>(hS _ f).1 (h5 k hk).1),hm.ownsRow h3 (fun k hk f=>(hS _ f).1 (h6 k hk).1),h4.mods hmP (fun _ _ k=>k),h5,h6⟩,
  h.names.mods hm (fun f=>(hS _ f).1 h.map.1),h.has,h.map,fun k hk=>Nat.lt_of_lt_of_le (h.old k hk) hm.size,h.off,fun k hk=>Nat.lt_of_lt_of_le (h.given k hk) hm.size⟩
theorem LAt.quiet {W W':World} {b mb:Nat} {P M:Nat→Prop} {nm:List UInt8} {pr:Int} {w:Lw} (h:LAt W b mb P M nm pr w) (hm:Mods None W W'):LAt W' b mb P M nm pr w:=h.aside hm (fun _ f=>f.elim)
theorem LAt.give {W:World} {b mb:Nat} {P P' M:Nat→Prop} {nm:List UInt8} {pr:Int} {w:Lw} (h:LAt W b mb P M nm pr w) (h1:∀ k,P k→P' k) (h2:∀ k,P' k→P k∨(¬ M k∧k<W.heap.size)):LAt W b mb P' M nm pr w:=by
 obtain ⟨tv,sv,cs,e1,e2,e3,e4,e5,e6⟩:=h.blk
 refine ⟨⟨tv,sv,cs,e1,e2,e3,e4.mods (Mods.refl _ _) (fun k _ hk hp=>hk (h1 k hp)),e5,e6⟩,h.names,h.has,h.map,h.old,fun k hk hp=>?_,fun k hp=>?_⟩
 · rcases h2 k hp with e|e
   · exact h.off k hk e
   · exact e.1 hk
 · rcases h2 k hp with e|e
   · exact h.given k e
   · exact e.2
theorem low_own {W W':World} {v v':Value} (hg:Grew W W' v v') {k:Nat} (hk:v'.ownBlock=some k):v.ownBlock=some k∨k=W.heap.size:=by
 rcases hg.loc with e|e
 · exact Or.inl (by rw [← e];exact hk)
 · rw [e] at hk
   exact Or.inr (Option.some.inj hk).symm
theorem low_size (W:World) (a:Addr) (v:Value):(W.setCell a v).heap.size=W.heap.size:=by simp [World.setCell]
theorem LAt.typed {w6 w7:World} {b mb:Nat} {P M:Nat→Prop} {nm:List UInt8} {pr:Int} {w:Lw} (h:LAt w6 b mb P M nm pr w) {tv v':Value} (htv:w6.cell? ⟨b,2,none⟩=some tv) (k:Int)
 (hown:w7.ownsRow 0 3 1 v' (w.types.length+1) (w.types.map (Value.int .i64)++[.int .i64 k])) (hg:Grew w6 w7 tv v') :
 LAt (w7.setCell ⟨b,2,none⟩ v') b mb P (fun k=>M k∨v'.ownBlock=some k) nm pr (placeL k w).2∧Ext None M (fun k=>M k∨v'.ownBlock=some k) w6 (w7.setCell ⟨b,2,none⟩ v'):=by
 obtain ⟨tv2,sv,cs,h1,h2,h3,h4,h5,h6⟩:=h.blk
 obtain rfl:tv2=tv:=by
  have:=h1.cell (i:=2) (v:=tv2) rfl
  rw [htv] at this
  exact (Option.some.inj this).symm
 have hm7:Mods (fun k=>tv2.ownBlock=some k) w6 w7:=hg.mods
 have hm8:Mods (·=b) w7 (w7.setCell ⟨b,2,none⟩ v'):=mods_put _ _ _ _
 have hm68:Mods (fun k=>tv2.ownBlock=some k∨k=b) w6 (w7.setCell ⟨b,2,none⟩ v'):=(hm7.mono fun _ _ hk=>Or.inl hk).trans (hm8.mono fun _ _ hk=>Or.inr hk)
 have hSM:∀ k,(tv2.ownBlock=some k∨k=b)→M k:=fun k hk=>hk.elim (fun e=>(h5 k e).1) (fun e=>by rw [e];exact h.has)
 have hm68P:Mods (fun k=>¬ P k) w6 (w7.setCell ⟨b,2,none⟩ v'):=hm68.mono fun k _ hk=>h.off k (hSM k hk)
 have hb6:=h.old b h.has
 have hmb6:=h.old mb h.map.1
 have hne:∀ k,v'.ownBlock=some k→k≠b∧k≠mb:=fun k hk=>by
  rcases low_own hg hk with e|e
  · exact (h5 k e).2
  · omega
 refine h.turn hm68 hSM (fun k hk=>Or.inl hk) (fun k hk=>?_) ⟨v',sv,cs,?_,?_,?_,h4.mods hm68P (fun _ _ k=>k),fun k hk=>⟨Or.inr hk,hne k hk⟩,fun k hk=>⟨Or.inl (h6 k hk).1,(h6 k hk).2.1,(h6 k hk).2.2.1,fun e=>?_⟩⟩ ?_
 · rcases hk with hk|hk
   · exact Or.inl hk
   · rcases low_own hg hk with e|e
     · exact Or.inl (h5 k e).1
     · exact Or.inr ⟨by omega,by rw [low_size];exact (hown.lt k hk).2⟩
 · exact (h1.mods hm7 (fun e=>(h5 b e).2.1 rfl)).set 2 v'
 · have:=hm8.ownsRow hown (fun k hk=>(hne k hk).1)
   simpa [placeL] using this
 · exact hm68.ownsRow h3 (fun k hk e=>e.elim (h6 k hk).2.2.2 (h6 k hk).2.1)
 · rcases low_own hg e with e|e
   · exact (h6 k hk).2.2.2 e
   · have:=(h3.lt k hk).2;omega
 · obtain ⟨n,F,g1,g2,g3⟩:=h.names.mods hm68 (fun e=>e.elim (fun e=>(h5 mb e).2.2 rfl) h.map.2)
   exact ⟨n,F,g1,g2,g3⟩
theorem LAt.stepped {w6 w7:World} {b mb:Nat} {P M:Nat→Prop} {nm:List UInt8} {pr:Int} {w:Lw} (h:LAt w6 b mb P M nm pr w) {sv v' av:Value} (x:Stp) (htv:w6.cell? ⟨b,3,none⟩=some sv) {cs:List Value} (hrel:RelS w6 (fun k=>¬ P k) cs w.steps) (hcs:w6.ownsRow 0 57 10 sv w.steps.length cs)
 (hx:IntsAt w6 (fun k=>¬ P k) av x.args) (hown:w7.ownsRow 0 57 10 v' (w.steps.length+1) (cs++stpL x av)) (hg:Grew w6 w7 sv v') :
 LAt (w7.setCell ⟨b,3,none⟩ v') b mb P (fun k=>M k∨v'.ownBlock=some k) nm pr (addL x w)∧Ext None M (fun k=>M k∨v'.ownBlock=some k) w6 (w7.setCell ⟨b,3,none⟩ v'):=by
 obtain ⟨tv,sv2,cs2,h1,h2,h3,h4,h5,h6⟩:=h.blk
 obtain rfl:sv2=sv:=by
  have:=h1.cell (i:=3) (v:=sv2) rfl
  rw [htv] at this
  exact (Option.some.inj this).symm
 have hm7:Mods (fun k=>sv2.ownBlock=some k) w6 w7:=hg.mods
 have hm8:Mods (·=b) w7 (w7.setCell ⟨b,3,none⟩ v'):=mods_put _ _ _ _
 have hm68:Mods (fun k=>sv2.ownBlock=some k∨k=b) w6 (w7.setCell ⟨b,3,none⟩ v'):=(hm7.mono fun _ _ hk=>Or.inl hk).trans (hm8.mono fun _ _ hk=>Or.inr hk)
 have hSM:∀ k,(sv2.ownBlock=some k∨k=b)→M k:=fun k hk=>hk.elim (fun e=>(h6 k e).1) (fun e=>by rw [e];exact h.has)
 have hm68P:Mods (fun k=>¬ P k) w6 (w7.setCell ⟨b,3,none⟩ v'):=hm68.mono fun k _ hk=>h.off k (hSM k hk)
 have hb6:=h.old b h.has
 have hmb6:=h.old mb h.map.1
 have hne:∀ k,v'.ownBlock=some k→k≠b∧k≠mb∧tv.ownBlock≠some k:=fun k hk=>by
  rcases low_own hg hk with e|e
  · exact (h6 k e).2
  · exact ⟨by omega,by omega,fun e2=>by have:=(h2.lt k e2).2;omega⟩
 refine h.turn hm68 hSM (fun k hk=>Or.inl hk) (fun k hk=>?_) ⟨tv,v',cs++stpL x av,?_,?_,?_,(hrel.mods hm68P (fun _ _ k=>k)).grow hcs.1 (hx.mods hm68P (fun _ _ k=>k)),fun k hk=>⟨Or.inl (h5 k hk).1,(h5 k hk).2⟩,fun k hk=>⟨Or.inr hk,hne k hk⟩⟩ ?_
 · rcases hk with hk|hk
   · exact Or.inl hk
   · rcases low_own hg hk with e|e
     · exact Or.inl (h6 k e).1
     · exact Or.inr ⟨by omega,by rw [low_size];exact (hown.lt k hk).2⟩
 · exact (h1.mods hm7 (fun e=>(h6 b e).2.1 rfl)).set 3 v'
 · exact hm68.ownsRow h2 (fun k hk e=>e.elim (fun e=>(h6 k e).2.2.2 hk) (h5 k hk).2.1)
 · have:=hm8.ownsRow hown (fun k hk=>(hne k hk).1)
   simpa [addL] using this
 · exact h.names.mods hm68 (fun e=>e.elim (fun e=>(h6 mb e).2.2.1 rfl) h.map.2)
theorem LAt.labeled {W:World} {b mb:Nat} {P M:Nat→Prop} {nm:List UInt8} {pr:Int} {w:Lw} (h:LAt W b mb P M nm pr w) (i:Nat) (u:Value) (w':Lw) (h1:w'.types=w.types) (h2:w'.steps=w.steps) (h3:w'.names=w.names)
 (hi:(i=5∧u=.int .i64 (w'.labels:Int)∧w'.none=w.none)∨(i=6∧u=.int .i64 w'.none∧w'.labels=w.labels)) :
 LAt (W.setCell ⟨b,i,none⟩ u) b mb P M nm pr w'∧Ext None M M W (W.setCell ⟨b,i,none⟩ u):=by
 obtain ⟨tv,sv,cs,e1,e2,e3,e4,e5,e6⟩:=h.blk
 have hm:Mods (·=b) W (W.setCell ⟨b,i,none⟩ u):=mods_put _ _ _ _
 have hmP:Mods (fun k=>¬ P k) W (W.setCell ⟨b,i,none⟩ u):=hm.mono fun k _ hk=>by rw [hk];exact h.off b h.has
 refine h.turn hm (fun k hk=>by rw [hk];exact h.has) (fun _ k=>k) (fun k hk=>Or.inl hk) ⟨tv,sv,cs,?_,?_,?_,?_,e5,e6⟩ ?_
 · have:=e1.set i u
   rcases hi with ⟨rfl,rfl,hn⟩|⟨rfl,rfl,hn⟩
   · rw [hn];exact this
   · rw [hn];exact this
 · rw [h1];exact hm.ownsRow e2 (fun k hk=>(e5 k hk).2.1)
 · rw [h2];exact hm.ownsRow e3 (fun k hk=>(e6 k hk).2.1)
 · rw [h2];exact e4.mods hmP (fun _ _ k=>k)
 · obtain ⟨n,F,g1,g2,g3⟩:=h.names.mods hm h.map.2
   exact ⟨n,F,g1,by rw [h3];exact g2,by rw [h3];exact g3⟩
theorem LAt.named {W W':World} {b mb n:Nat} {P M:Nat→Prop} {nm:List UInt8} {pr:Int} {w:Lw} (h:LAt W b mb P M nm pr w) {F:List (List UInt8×Value)} (hF:∀ x,getL (.int .i64 0) F x=.int .i64 (getN w.names x)) (x:List UInt8) (k:Int) (hm:Mods (·=mb) W W')
 (hput:NameMap W' mb (n+1) (.int .i64 0) (putL F x (.int .i64 k))) (hn:n≤w.names.length) :
 LAt W' b mb P M nm pr { w with names:=putN w.names x k }∧Ext None M M W W':=by
 obtain ⟨tv,sv,cs,e1,e2,e3,e4,e5,e6⟩:=h.blk
 have hmP:Mods (fun k=>¬ P k) W W':=hm.mono fun k _ hk=>by rw [hk];exact h.off mb h.map.1
 refine h.turn hm (fun k hk=>by rw [hk];exact h.map.1) (fun _ k=>k) (fun k hk=>Or.inl hk) ⟨tv,sv,cs,e1.mods hm (fun e=>h.map.2 e.symm),hm.ownsRow e2 (fun k hk=>(e5 k hk).2.2),hm.ownsRow e3 (fun k hk=>(e6 k hk).2.2.1),e4.mods hmP (fun _ _ k=>k),e5,e6⟩ ⟨n+1,_,hput,by simp only [putN,List.length_cons];omega,fun y=>?_⟩
 rw [getL_put,getN_put]
 by_cases hy:y=x
 · rw [if_pos hy,if_pos hy]
 · rw [if_neg hy,if_neg hy,hF]
def LGo (W:World) (b mb:Nat) (P M:Nat→Prop) (nm:List UInt8) (pr:Int) (w':Lw) (ok:Ending→Prop):Ending→World→Prop :=
 fun e wd=>∃ P' M',ok e∧LAt wd b mb P' M' nm pr w'∧Ext None M M' W wd∧(∀ k,P k→P' k)∧(∀ k,k<W.heap.size→P' k→P k)
theorem LGo.after {W W1:World} {b mb:Nat} {P P1 M M1:Nat→Prop} {nm:List UInt8} {pr:Int} {w':Lw} {ok ok':Ending→Prop} {e:Ending} {wd:World} (h:LGo W1 b mb P1 M1 nm pr w' ok e wd) (hok:ok e→ok' e) (hE:Ext None M M1 W W1) (h1:∀ k,P k→P1 k) (h2:∀ k,k<W.heap.size→P1 k→P k):LGo W b mb P M nm pr w' ok' e wd:=by
 obtain ⟨P',M',g1,g2,g3,g4,g5⟩:=h
 exact ⟨P',M',hok g1,g2,hE.trans g3,fun k hk=>g4 k (h1 k hk),fun k hk hp=>h2 k hk (g5 k (Nat.lt_of_lt_of_le hk hE.mods.size) hp)⟩
theorem low_form {W:World} {B:Nat} {e:TypeId} {size n:Nat} {v:Value} {vs:List Value} (h:W.ownsRow B e size v n vs):∃ oa oc,v=.slice oa n oc:=by
 rcases h.2 with ⟨hv,h0⟩|⟨g,cap,cur,hv,_⟩
 · exact ⟨_,_,by rw [hv,h0]⟩
 · exact ⟨_,_,hv⟩
theorem low_info {o:Option TypeInfo} {z:Option Value} {n m:Nat} (h:o.map (fun i=>(i.zero,i.size,i.bytes))=some (z,n,m)):∃ i,o=some i∧i.zero=z∧i.size=n∧i.bytes=m:=by
 cases o with
 | none=>simp at h
 | some i =>
   simp only [Option.map_some,Option.some.injEq,Prod.mk.injEq] at h
   exact ⟨i,rfl,h.1,h.2.1,h.2.2⟩
theorem low64 {n:Int} (h1:-9223372036854775808≤n) (h2:n≤9223372036854775807):wrap64 n=n:=by unfold wrap64;omega
theorem low_stp (x:Stp) (aa:Option Addr) (n c:Nat):∀ u∈stpL x (.slice aa n c),u.oneCell'=true:=by
 intro u hu
 unfold stpL at hu
 simp only [List.mem_cons,List.not_mem_nil,or_false] at hu
 rcases hu with rfl|rfl|rfl|rfl|rfl|rfl|rfl|rfl|rfl|rfl <;> rfl
theorem low_new (W:World) (cs:List Value) (e:TypeId):∀ j u,cs[j]?=some u→(W.alloc (.cells cs.toArray e)).cell? ((⟨W.heap.size,0,none⟩:Addr).add j)=some u:=by
 intro j u hj
 rw [add_plain,Nat.zero_add]
 exact (Blk.new W cs.toArray e).cell (by simpa using hj)
theorem LAt.cellAt {w6 w7:World} {b mb:Nat} {P M:Nat→Prop} {nm:List UInt8} {pr:Int} {w:Lw} (h:LAt w6 b mb P M nm pr w) {i:Nat} {v v' ov:Value} (hi:i=2∨i=3) (hv:w6.cell? ⟨b,i,none⟩=some v) (hg:Grew w6 w7 v v'):w7.cell? ⟨b,i,none⟩=some v∧w7.frozen? ⟨b,i,none⟩=false∧b<w7.heap.size:=by
 obtain ⟨tv,sv,cs,h1,h2,h3,h4,h5,h6⟩:=h.blk
 have hne:¬ v.ownBlock=some b:=by
  rcases hi with rfl|rfl
  · have:=h1.cell (i:=2) (v:=tv) rfl
    rw [hv] at this
    rw [Option.some.inj this]
    exact fun e=>(h5 b e).2.1 rfl
  · have:=h1.cell (i:=3) (v:=sv) rfl
    rw [hv] at this
    rw [Option.some.inj this]
    exact fun e=>(h6 b e).2.1 rfl
 have hb7:=h1.mods hg.mods hne
 exact ⟨hg.mods.cellOf hv hne,hb7.free i,hb7.lt⟩
set_option maxRecDepth 100000 in
set_option maxHeartbeats 1000000 in
theorem place_any {W:World} {b mb:Nat} {P M:Nat→Prop} {nm:List UInt8} {pr:Int} {w:Lw} (h:LAt W b mb P M nm pr w) (k:Int) (hw:w.types.length<1000000) :
 Calls Tryz.prog 32 #[.pointer (some ⟨b,0,none⟩),.int .i64 k] W (LGo W b mb P M nm pr (placeL k w).2 (fun e=>e=.returned (.int .i64 (w.types.length:Int)))):=by
 obtain ⟨i0,hi,hz0,hz1,hz2⟩:=low_info int_info
 have HI:=hiD (And.intro hi (And.intro hz0 (And.intro hz1 hz2)))
 obtain ⟨tv,sv,cs,hb,hty,-⟩:=h.blk
 obtain ⟨oa,oc,rfl⟩:=low_form hty
 obtain ⟨n,hn⟩:∃ n,n=w.types.length:=⟨_,rfl⟩
 rw [← hn] at hty hb hw
 rw [← hn]
 have c0:W.cell? ⟨b,2,none⟩=some (.slice oa n oc):=hb.cell rfl
 have f0:=hb.free 2
 have hbl:=h.old b h.has
 have H:=hiD h
 have HO:=hiD hty
 have HN:=hiD (And.intro hw hn)
 have HC0:=hiD c0
 clear h hn hb hty hi hz0 hz1 hz2 hw
 go_enter Tryz.func32,Tryz.ntmps32
 go_wp2_with (at_builtin;refine wpList_append_own_at _ rfl _ _ 52 rfl 0 3 i0 _ 1 8 Tryz.underlying52 HI.out.1 HI.out.2.1 HI.out.2.2.1 HI.out.2.2.2 rfl (by decide) (.slice oa n oc) n (w.types.map (Value.int .i64)) rfl (HO.out.alloc _) ⟨W.heap.size,0,none⟩ 1 1 [.int .i64 k] rfl rfl (one_new _ _ _) (fun u hu=>by simp at hu;subst hu;rfl) (by have:=HN.out;unfold maxLen;omega) (by have:=HN.out;omega) (Nat.zero_le _) ?_;intro v' w7 hown hgrow hnil hloc;have HOW:=hiD hown;have HGR:=hiD (grew_of hgrow hloc);have hm6:=hiD (show Mods None W _ from ((Mods.refl _ _).alloc (.cells #[.int .i64 k] 3)));obtain ⟨c70,z70,l70⟩:=(H.out.quiet hm6.out).cellAt (ov:=.slice oa n oc) (Or.inl rfl) (hm6.out.cellOf HC0.out (fun f=>f)) HGR.out;clear hown hgrow hnil hloc;obtain ⟨qa,qc,rfl⟩:=low_form HOW.out)
 obtain ⟨k1,k2⟩:=(H.out.quiet hm6.out).typed (hm6.out.cellOf HC0.out (fun f=>f)) k (by rw [← HN.out.2];exact HOW.out) HGR.out
 have K1:=hiD k1
 have K2:=hiD (Ext.trans (Ext.quiet (M:=M) hm6.out) k2)
 clear k1 k2
 go_ret
 refine ⟨P,_,?_,K1.out,K2.out,fun _ k=>k,fun _ _ k=>k⟩
 show Ending.returned (.int .i64 (wrap64 (n:Int)))=_
 rw [low64 (by omega) (by have:=HN.out.1;omega)]
set_option maxRecDepth 100000 in
set_option maxHeartbeats 1000000 in
theorem add_any {W:World} {b mb:Nat} {P M:Nat→Prop} {nm:List UInt8} {pr:Int} {w:Lw} (h:LAt W b mb P M nm pr w) (s:Stp) (v:Value) (hv:StpV W (fun k=>¬ P k) s v) (hw:w.steps.length<1000000) :
 Calls Tryz.prog 35 #[.pointer (some ⟨b,0,none⟩),v] W (LGo W b mb P M nm pr (addL s w) (fun e=>e=.returned (.tuple #[]))):=by
 obtain ⟨aa,ac,rfl,hargs⟩:=hv
 obtain ⟨an,han⟩:∃ an,an=s.args.length:=⟨_,rfl⟩
 rw [← han] at hargs ⊢
 obtain ⟨i0,hi,hz0,hz1,hz2⟩:=low_info stp_info
 have HI:=hiD (And.intro hi (And.intro hz0 (And.intro hz1 hz2)))
 obtain ⟨W1,hW1⟩:∃ W1,W1=W.alloc (.cells (stpL s (.slice aa an ac)).toArray 57):=⟨_,rfl⟩
 have hm1:Mods None W W1:=by rw [hW1];exact (Mods.refl _ _).alloc _
 have hb1:Blk W1 W.heap.size (stpL s (.slice aa an ac)) 57:=by rw [hW1];exact Blk.new W _ _
 obtain ⟨tv,sv,cs,hb,-,hst,hrel,-,-⟩:=(h.quiet hm1).blk
 obtain ⟨oa,oc,rfl⟩:=low_form hst
 obtain ⟨n,hn⟩:∃ n,n=w.steps.length:=⟨_,rfl⟩
 rw [← hn] at hst hb hw
 have c0:W1.cell? ⟨b,3,none⟩=some (.slice oa n oc):=hb.cell rfl
 have f0:=hb.free 3
 have hbl:=hb.lt
 have d0:=hb1.cell (i:=0) rfl
 have d1:=hb1.cell (i:=1) rfl
 have d2:=hb1.cell (i:=2) rfl
 have d3:=hb1.cell (i:=3) rfl
 have d4:=hb1.cell (i:=4) rfl
 have d5:=hb1.cell (i:=5) rfl
 have d6:=hb1.cell (i:=6) rfl
 have d7:=hb1.cell (i:=7) rfl
 have d8:=hb1.cell (i:=8) rfl
 have d9:=hb1.cell (i:=9) rfl
 have hbe:b≠W.heap.size:=by have:=h.old b h.has;omega
 have hm2:Mods None W1 ((W1.alloc (.cells (stpL s (.slice aa an ac)).toArray 57)).drew):=((Mods.refl _ _).alloc _).drew
 have HM2:=hiD (hm1.trans hm2)
 have H2:=hiD ((h.quiet hm1).quiet hm2)
 have HOA:=hiD (hm2.ownsRow hst (fun k hk f=>f))
 have HRA:=hiD (hrel.mods (hm2.mono fun _ _ f=>f.elim) (fun _ _ k=>k) (T:=fun k=>¬ P k))
 have HARG:=hiD (hargs.mods ((hm1.trans hm2).mono fun _ _ f=>f.elim) (fun _ _ k=>k) (T:=fun k=>¬ P k))
 have HC0:=hiD (hm2.cellOf c0 (fun f=>f))
 have hnew:=hiD (low_new W1 (stpL s (.slice aa an ac)) 57)
 have hone:=hiD (low_stp s aa an ac)
 have HN:=hiD (And.intro hw hn)
 obtain ⟨xc,xd,xa,xb,xe,xn,xo,xl,xm,xs⟩:=s
 simp only [stpL,str] at *
 clear h hn hb hst hi hz0 hz1 hz2 hw hrel hargs hm1 hb1 hm2 han
 go_enter Tryz.func35,Tryz.ntmps35
 go_wp2_with fail
 rw [← hW1]
 clear hW1
 go_region_law (refine step_append_at rfl (.tmp 9) (.tmp 11) 53 rfl 0 57 i0 _ 10 112 Tryz.underlying53 HI.out.1 HI.out.2.1 HI.out.2.2.1 HI.out.2.2.2 rfl (by decide) (.slice oa n oc) n cs (by simp [Act.eval,Act.put]) HOA.out ⟨W1.heap.size,0,none⟩ 1 1 [.int .i64 xc,.int .i64 xd,.int .i64 xa,.int .i64 xb,.int .i64 xe,.int .i64 xn,.string ⟨xo.toArray⟩,.int .i64 xl,.string ⟨xm.toArray⟩,.slice aa an ac] (by simp [Act.eval,Act.put]) rfl hnew.out hone.out (by have:=HN.out;unfold maxLen;omega) (by have:=HN.out;omega) (Nat.zero_le _) ?_;intro v' w7 hown hgrow hloc;have HOW:=hiD hown;have HGR:=hiD (grew_of hgrow hloc);obtain ⟨c70,z70,l70⟩:=H2.out.cellAt (ov:=.slice oa n oc) (Or.inr rfl) HC0.out HGR.out;clear hown hgrow hloc;obtain ⟨qa,qc,rfl⟩:=low_form HOW.out)
 all_goals
  obtain ⟨k1,k2⟩:=H2.out.stepped (av:=.slice aa an ac) ⟨xc,xd,xa,xb,xe,xn,xo,xl,xm,xs⟩ HC0.out HRA.out (by rw [← HN.out.2];exact HOA.out) HARG.out (by rw [← HN.out.2];exact HOW.out) HGR.out
  have K1:=hiD k1
  have K2:=hiD (Ext.trans (Ext.quiet (M:=M) HM2.out) k2)
  clear k1 k2
  go_end0
  exact ⟨P,_,rfl,K1.out,K2.out,fun _ k=>k,fun _ _ k=>k⟩
theorem StpV.mk {W:World} {S:Nat→Prop} (s:Stp) {aa:Option Addr} {ac an:Nat} (h:an=s.args.length) (hi:IntsAt W S (.slice aa an ac) s.args):StpV W S s (.agg #[.int .i64 s.code,.int .i64 s.dst,.int .i64 s.a,.int .i64 s.b,.int .i64 s.c,.int .i64 s.n,.string ⟨s.op.toArray⟩,.int .i64 s.label,.string ⟨s.name.toArray⟩,.slice aa an ac]):=by
 subst h
 exact ⟨aa,ac,rfl,hi⟩
theorem StpV.bare {W:World} {S:Nat→Prop} (s:Stp) (h:s.args=[]):StpV W S s (.agg #[.int .i64 s.code,.int .i64 s.dst,.int .i64 s.a,.int .i64 s.b,.int .i64 s.c,.int .i64 s.n,.string ⟨s.op.toArray⟩,.int .i64 s.label,.string ⟨s.name.toArray⟩,.slice none 0 0]) :=
 StpV.mk s (by rw [h];rfl) (by rw [h];exact ⟨none,0,rfl,Nat.le_refl _,by unfold maxLen;omega,fun _=>rfl,fun i x hx=>by simp at hx⟩)
set_option maxRecDepth 100000 in
set_option maxHeartbeats 1000000 in
theorem to_any {W:World} {b mb:Nat} {P M:Nat→Prop} {nm:List UInt8} {pr:Int} {w:Lw} (h:LAt W b mb P M nm pr w) (k:Int) (s:Stp) (v:Value) (hv:StpV W (fun k=>¬ P k) s v) (hw:w.types.length<1000000) (hw2:w.steps.length<1000000) :
 Calls Tryz.prog 33 #[.pointer (some ⟨b,0,none⟩),.int .i64 k,v] W (LGo W b mb P M nm pr (toL k s w).2 (fun e=>e=.returned (.int .i64 (w.types.length:Int)))):=by
 obtain ⟨aa,ac,rfl,hargs⟩:=hv
 obtain ⟨an,han⟩:∃ an,an=s.args.length:=⟨_,rfl⟩
 rw [← han] at hargs ⊢
 obtain ⟨W1,hW1⟩:∃ W1,W1=W.alloc (.cells (stpL s (.slice aa an ac)).toArray 57):=⟨_,rfl⟩
 have hm1:Mods None W W1:=by rw [hW1];exact (Mods.refl _ _).alloc _
 have hb1:Blk W1 W.heap.size (stpL s (.slice aa an ac)) 57:=by rw [hW1];exact Blk.new W _ _
 have hM:¬ M W.heap.size:=fun e=>by have:=h.old _ e;omega
 have hP:¬ P W.heap.size:=fun e=>by have:=h.given _ e;omega
 have HH:=hiD h
 have H1:=hiD (h.quiet hm1)
 have HB1:=hiD hb1
 have HM1:=hiD hm1
 have HARG:=hiD hargs
 have HN:=hiD (And.intro hw (And.intro hw2 (And.intro hM hP)))
 have HAN:=hiD han
 have f1:=hb1.free 1
 have l1:=hb1.lt
 obtain ⟨xc,xd,xa,xb,xe,xn,xo,xl,xm,xs⟩:=s
 simp only [stpL,str] at *
 have d1:=hb1.cell (i:=1) rfl
 clear h hargs hm1 hb1 han hw hw2 hM hP
 go_enter Tryz.func33,Tryz.ntmps33
 go_wp2_with fail
 rw [← hW1]
 clear hW1
 refine (place_any H1.out k HN.out.1).mono ?_
 rintro e w2 ⟨P2,M2,rfl,k1,k2,k3,k4⟩
 have HQ:Hid (¬ M2 W.heap.size∧¬ P2 W.heap.size):=hiD ⟨fun e=>HN.out.2.2.1 (k2.back _ l1 e),fun e=>HN.out.2.2.2 (k4 _ l1 e)⟩
 have HB2:=hiD (HB1.out.mods k2.mods (fun e=>e.elim (fun f=>f) HN.out.2.2.1))
 have HA2:=hiD (HARG.out.mods (HM1.out.mono fun _ _ f=>f.elim) (fun _ _ k=>k) (T:=fun k=>¬ P k) |>.mods (k2.mods.mono fun k _ e=>e.elim (fun f=>f.elim) (H1.out.off k)) (fun i hi hn hp=>hn (k3 i hp)) (T:=fun k=>¬ P2 k))
 have d2:=HB2.out.cell (i:=1) rfl
 have f2:=HB2.out.free 1
 have l2:=HB2.out.lt
 have hm3:Mods (·=W.heap.size) w2 (w2.setCell ⟨W.heap.size,1,none⟩ (.int .i64 (w.types.length:Int))):=mods_put _ _ _ _
 have HB3:=hiD (HB2.out.set 1 (.int .i64 (w.types.length:Int)))
 have HA3:=hiD (HA2.out.mods (hm3.mono fun k _ e=>by rw [e];exact HQ.out.2) (fun _ _ k=>k) (T:=fun k=>¬ P2 k))
 have HE3:=hiD (((Ext.quiet (M:=M) (T:=None) HM1.out).trans k2).new hm3 (fun k hk e=>by omega))
 have H3:=hiD (k1.aside hm3 (fun k e=>by rw [e];exact HQ.out))
 have HP3:Hid ((∀ k,P k→P2 k)∧(∀ k,k<W.heap.size→P2 k→P k)):=hiD ⟨k3,fun k hk hp=>k4 k (by omega) hp⟩
 have hl3:(w2.setCell ⟨W.heap.size,1,none⟩ (.int .i64 (w.types.length:Int))).heap.size=w2.heap.size:=low_size _ _ _
 have HL3:=hiD hl3
 have x0:=HB2.out.cell (i:=0) rfl
 have x2:=HB2.out.cell (i:=2) rfl
 have x3:=HB2.out.cell (i:=3) rfl
 have x4:=HB2.out.cell (i:=4) rfl
 have x5:=HB2.out.cell (i:=5) rfl
 have x6:=HB2.out.cell (i:=6) rfl
 have x7:=HB2.out.cell (i:=7) rfl
 have x8:=HB2.out.cell (i:=8) rfl
 have x9:=HB2.out.cell (i:=9) rfl
 clear k1 k2 k3 k4 hm3 hl3
 go_wp2_with fail
 refine (add_any H3.out ⟨xc,(w.types.length:Int),xa,xb,xe,xn,xo,xl,xm,xs⟩ _ (StpV.mk ⟨xc,(w.types.length:Int),xa,xb,xe,xn,xo,xl,xm,xs⟩ HAN.out HA3.out) HN.out.2.1).mono ?_
 rintro e w4 ⟨P4,M4,rfl,k1,k2,k3,k4⟩
 have HB4:=hiD (HB3.out.mods k2.mods (fun e=>e.elim (fun f=>f) HQ.out.1))
 have K1:=hiD k1
 have K2:=hiD (HE3.out.trans k2)
 have K3:Hid ((∀ k,P k→P4 k)∧(∀ k,k<W.heap.size→P4 k→P k)):=hiD ⟨fun k hk=>k3 k (HP3.out.1 k hk),fun k hk hp=>HP3.out.2 k hk (k4 k (by rw [HL3.out];omega) hp)⟩
 have d4:=HB4.out.cell (i:=1) rfl
 clear k1 k2 k3 k4
 go_wp2_with fail
 go_ret
 exact ⟨P4,M4,rfl,K1.out,K2.out,K3.out.1,K3.out.2⟩
set_option maxRecDepth 100000 in
set_option maxHeartbeats 1000000 in
theorem label_any {W:World} {b mb:Nat} {P M:Nat→Prop} {nm:List UInt8} {pr:Int} {w:Lw} (h:LAt W b mb P M nm pr w) (hw:w.labels<1000000) :
 Calls Tryz.prog 97 #[.pointer (some ⟨b,0,none⟩)] W (LGo W b mb P M nm pr (labelL w).2 (fun e=>e=.returned (.int .i64 ((labelL w).1:Int)))):=by
 obtain ⟨tv,sv,cs,hb,-,-,-,-,-⟩:=h.blk
 have c0:=hb.cell (i:=5) rfl
 have f0:=hb.free 5
 have hbl:=hb.lt
 have H:=hiD h
 have HL:Hid (wrap64 ((w.labels:Int)+1)=((labelL w).1:Int)):=hiD (by rw [low64 (by omega) (by omega)];simp [labelL])
 clear h hb hw
 go_enter Tryz.func97,Tryz.ntmps97
 go_wp2_with fail
 go_ret
 rw [HL.out]
 obtain ⟨k1,k2⟩:=H.out.labeled 5 (.int .i64 ((labelL w).1:Int)) (labelL w).2 rfl rfl rfl (Or.inl ⟨rfl,rfl,rfl⟩)
 exact ⟨P,M,rfl,k1,k2,fun _ k=>k,fun _ _ k=>k⟩
set_option maxRecDepth 100000 in
set_option maxHeartbeats 1000000 in
theorem zero_any {W:World} {b mb:Nat} {P M:Nat→Prop} {nm:List UInt8} {pr:Int} {w:Lw} (h:LAt W b mb P M nm pr w) (a:Int) (hw:w.types.length<1000000) (hw2:w.steps.length<1000000) :
 Calls Tryz.prog 116 #[.pointer (some ⟨b,0,none⟩),.int .i64 a] W (LGo W b mb P M nm pr (zeroL a w).2 (fun e=>e=.returned (.int .i64 (zeroL a w).1))):=by
 obtain ⟨tv,sv,cs,hb,-,-,-,-,-⟩:=h.blk
 have c0:=hb.cell (i:=6) rfl
 have hbl:=hb.lt
 have H:=hiD h
 have HN:=hiD (And.intro hw hw2)
 clear h hb hw hw2
 go_enter Tryz.func116,Tryz.ntmps116
 go_wp2_with fail
 refine (to_any H.out 1 { stp0 with code:=3,op:=[61,61],a:=a,b:=w.none } _ (StpV.bare _ rfl) HN.out.1 HN.out.2).mono ?_
 rintro e w2 ⟨P2,M2,rfl,k1,k2,k3,k4⟩
 have K:=hiD (And.intro k1 (And.intro k2 (And.intro k3 k4)))
 clear k1 k2 k3 k4
 go_wp2_with fail
 go_ret
 exact ⟨P2,M2,rfl,K.out.1,K.out.2.1,K.out.2.2.1,K.out.2.2.2⟩
set_option maxRecDepth 100000 in
set_option maxHeartbeats 1000000 in
theorem name_any {W:World} {b mb:Nat} {P M:Nat→Prop} {nm:List UInt8} {pr:Int} {w:Lw} (h:LAt W b mb P M nm pr w) (code a k:Int) (x:List UInt8) (p q oa ob:Option Addr) (on oc om od:Nat) (hx:x.length≤maxLen) (hw:w.types.length<1000000) (hw2:w.names.length<1000000) :
 Calls Tryz.prog 96 #[.pointer (some ⟨b,0,none⟩),.agg #[.int .i64 code,.int .i64 a,.string ⟨x.toArray⟩,.pointer p,.pointer q,.slice oa on oc,.slice ob om od],.int .i64 k] W (LGo W b mb P M nm pr (nameL x k w).2 (fun e=>e=.returned (.int .i64 (nameL x k w).1))):=by
 obtain ⟨W1,hW1⟩:∃ W1,W1=W.alloc (.cells #[.int .i64 code,.int .i64 a,.string ⟨x.toArray⟩,.pointer p,.pointer q,.slice oa on oc,.slice ob om od] 143):=⟨_,rfl⟩
 have hm1:Mods None W W1:=by rw [hW1];exact (Mods.refl _ _).alloc _
 have hb1:Blk W1 W.heap.size [.int .i64 code,.int .i64 a,.string ⟨x.toArray⟩,.pointer p,.pointer q,.slice oa on oc,.slice ob om od] 143:=by rw [hW1];exact Blk.new W _ _
 have HH:=hiD h
 have H1:=hiD (h.quiet hm1)
 have HB1:=hiD hb1
 have HM1:=hiD hm1
 have HN:=hiD (And.intro hw (And.intro hw2 hx))
 have hM:¬ M W.heap.size:=fun e=>by have:=h.old _ e;omega
 have HMM:=hiD hM
 clear h hm1 hb1 hw hw2 hM
 go_enter Tryz.func96,Tryz.ntmps96
 go_wp2_with fail
 rw [← hW1]
 clear hW1
 refine (place_any H1.out k HN.out.1).mono ?_
 rintro e w2 ⟨P2,M2,rfl,k1,k2,k3,k4⟩
 have hb2:=HB1.out.mods k2.mods (fun e=>e.elim (fun f=>f) HMM.out)
 obtain ⟨tv,sv,cs,hb,-,-,-,-,-⟩:=k1.blk
 have c0:=hb.cell (i:=4) rfl
 have d2:=hb2.cell (i:=2) rfl
 have hbl:=hb.lt
 obtain ⟨n,F,g1,g2,g3⟩:=k1.names
 have HF:=hiD (And.intro g2 g3)
 have hd:Mods None w2 w2.drew:=(Mods.refl _ _).drew
 obtain ⟨w3,hput,hnm,hm3⟩:=(g1.mods hd (fun f=>f)).put Tryz.underlying87 x HN.out.2.2 (.int .i64 (w.types.length:Int)) (by have:=HN.out.2.1;simp only [placeL] at g2;unfold maxLen;omega)
 have K1:=hiD (And.intro (k1.quiet hd) (And.intro (k2.trans (Ext.quiet hd)) (And.intro k3 k4)))
 have HP:=hiD (And.intro hnm hm3)
 clear k1 k2 k3 k4 g1 g2 g3 hd hnm hm3 hb hb2
 unfold str at hput
 go_wp2_with fail
 go_region
 all_goals
  go_wp2_with fail
  go_ret
  obtain ⟨e1,e2⟩:=K1.out.1.named HF.out.2 x (w.types.length:Int) HP.out.2 HP.out.1 HF.out.1
  exact ⟨P2,M2,rfl,e1,((Ext.quiet (M:=M) (T:=None) HM1.out).trans K1.out.2.1).trans e2,K1.out.2.2.1,fun i hi hp=>K1.out.2.2.2 i (Nat.lt_of_lt_of_le hi HM1.out.size) hp⟩
end Go.Proofs.YtnicpmoanjddbaaGreatDoor.MidP

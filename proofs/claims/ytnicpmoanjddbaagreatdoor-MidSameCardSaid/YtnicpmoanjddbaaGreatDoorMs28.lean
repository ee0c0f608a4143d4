/- The runner's statements: how each ends; those that name a value. Conditions: what it has lies. What the runner makes of each kind of statement. Conditions: what it has lies. -/
import Derived.Test.YtnicpmoanjddbaaGreatDoorMs27
namespace Go.Proofs.YtnicpmoanjddbaaGreatDoor.TreeP
open Go.RowKit Go.Proofs.YtnicpmoanjddbaaGreatDoor.Wo
set_option linter.unusedVariables false
set_option linter.unusedSimpArgs false
mutual
def GoodS (L:List Fn):St→Prop
 | .var _ n v=>n.length≤10000000∧GoodE L v
 | .set _ n v=>n.length≤10000000∧GoodE L v
 | .put _ n i v=>n.length≤10000000∧GoodE L i∧GoodE L v
 | .cond _ v t e=>GoodE L v∧GoodSs L t∧GoodSs L e
 | .loop _ v t=>GoodE L v∧GoodSs L t
 | .ret _ v=>GoodE L v
 | .print _ v=>GoodE L v
 | .call _ v=>GoodE L v
def GoodSs (L:List Fn):List St→Prop
 | []=>True
 | x::r=>GoodS L x∧GoodSs L r
end
def RanF (W:World) (b mb:Nat) (L:List Fn) (P M:Nat→Prop) (A:List (Nat×Nat)) (fm N:Nat):Except Sig Fr×RS→Ending→World→Prop
 | (.error g,s)=>fun e w=>Pan g e∧∃ M' A',RAt w b mb L P M' A' s∧Ext (·=fm) M M' W w∧A <+: A'
 | (.ok F,s)=>fun e w=>e=.returned (.tuple #[])∧∃ M' A' n,FrAt w P M' A' fm n F∧n+s.fuel≤N∧RAt w b mb L P M' A' s∧Ext (·=fm) M M' W w∧A <+: A'
def StC (L:List Fn) (f:Nat):Prop:=∀ (x:St) (cs:List Value) (b mb:Nat) (P M:Nat→Prop) (A:List (Nat×Nat)) (s:RS) (F:Fr) (fm n N:Nat) (W:World) (r:Except Sig Fr×RS),RAt W b mb L P M A s→FrAt W P M A fm n F→n+s.fuel≤N→N≤4100000000000000000→GoodS L x→StAt W (fun k=>¬ P k) x cs→stmtR L f s F x=some r →
 Calls Tryz.prog 105 #[.pointer (some ⟨b,0,none⟩),.map (some fm),.agg cs.toArray] W (RanF W b mb L P M A fm N r)
def BlkC (L:List Fn) (f:Nat):Prop:=∀ (l:List St) (lv:Value) (vs:List Value) (b mb:Nat) (P M:Nat→Prop) (A:List (Nat×Nat)) (s:RS) (F:Fr) (fm n N:Nat) (W:World) (r:Except Sig Fr×RS),RAt W b mb L P M A s→FrAt W P M A fm n F→n+s.fuel≤N→N≤4100000000000000000→GoodSs L l→RowAt W (fun k=>¬ P k) 143 7 lv l.length vs→StsAt W (fun k=>¬ P k) l vs→blockR L f s F l=some r →
 Calls Tryz.prog 75 #[.pointer (some ⟨b,0,none⟩),.map (some fm),lv] W (RanF W b mb L P M A fm N r)
theorem rbindT_of {α β:Type} {W0 W:World} {b mb:Nat} {L:List Fn} {P T T0 M0 M:Nat→Prop} {A0 A:List (Nat×Nat)} {x:RM α} {f:α→RS→RM β} {r:Except Sig β×RS} {F:FuncId} {args:Array Value} {ok:α→(Nat→Prop)→List (Nat×Nat)→Ending→World→Prop} {Q:Ending→World→Prop}
 (hT:∀ k,T k→T0 k) (hE:Hid (Ext T0 M0 M W0 W)) (hA:Hid (A0 <+: A)) (hx:Hid (bindR x f=some r)) (hc:∀ y,x=some y→Calls Tryz.prog F args W (Ran W b mb L P T M A ok y))
 (herr:∀ g s',r=(.error g,s')→∀ (older:Old) w,Hid (∃ M' A',RAt w b mb L P M' A' s'∧Ext T0 M0 M' W0 w∧A0 <+: A')→Q (.panicked ({ v:=sigV g,recovered:=false }::older.1)) w)
 (hok:∀ a s',Hid (x=some (.ok a,s'))→Hid (f a s'=some r)→∀ e w M' A',ok a M' A' e w→Hid (RAt w b mb L P M' A' s')→Hid (Ext T M M' W w)→Hid (Ext T0 M0 M' W0 w)→Hid (A <+: A')→Hid (A0 <+: A')→Q e w) :
 Calls Tryz.prog F args W Q:=by
 have hx:=hx.out
 cases hp:x with
 | none=>rw [hp] at hx;cases hx
 | some y =>
   refine (hc y hp).mono ?_
   intro e w h
   rw [hp] at hx
   obtain ⟨y,s'⟩:=y
   cases y with
   | error g =>
     obtain ⟨⟨older,rfl⟩,M',A',h1,h2,h3⟩:=h
     exact herr g s' (Option.some.inj hx).symm older w (hiD ⟨M',A',h1,hE.out.trans (h2.more fun k _ hk=>hT k hk),hA.out.trans h3⟩)
   | ok a =>
     obtain ⟨M',A',h0,h1,h2,h3⟩:=h
     exact hok a s' (hiD hp) (hiD hx) e w M' A' h0 (hiD h1) (hiD h2) (hiD (hE.out.trans (h2.more fun k _ hk=>hT k hk))) (hiD h3) (hiD (hA.out.trans h3))
theorem rbindF_of {β:Type} {W0 W:World} {b mb:Nat} {L:List Fn} {P M0 M:Nat→Prop} {A0 A:List (Nat×Nat)} {fm N:Nat} {x:RM Fr} {f:Fr→RS→RM β} {r:Except Sig β×RS} {F:FuncId} {args:Array Value} {Q:Ending→World→Prop}
 (hE:Hid (Ext (·=fm) M0 M W0 W)) (hA:Hid (A0 <+: A)) (hx:Hid (bindR x f=some r)) (hc:∀ y,x=some y→Calls Tryz.prog F args W (RanF W b mb L P M A fm N y))
 (herr:∀ g s',r=(.error g,s')→∀ (older:Old) w,Hid (∃ M' A',RAt w b mb L P M' A' s'∧Ext (·=fm) M0 M' W0 w∧A0 <+: A')→Q (.panicked ({ v:=sigV g,recovered:=false }::older.1)) w)
 (hok:∀ G s',Hid (x=some (.ok G,s'))→Hid (f G s'=some r)→∀ w M' A' n',Hid (FrAt w P M' A' fm n' G)→Hid (n'+s'.fuel≤N)→Hid (RAt w b mb L P M' A' s')→Hid (Ext (·=fm) M M' W w)→Hid (Ext (·=fm) M0 M' W0 w)→Hid (A <+: A')→Hid (A0 <+: A')→Q (.returned (.tuple #[])) w) :
 Calls Tryz.prog F args W Q:=by
 have hx:=hx.out
 cases hp:x with
 | none=>rw [hp] at hx;cases hx
 | some y =>
   refine (hc y hp).mono ?_
   intro e w h
   rw [hp] at hx
   obtain ⟨y,s'⟩:=y
   cases y with
   | error g =>
     obtain ⟨⟨older,rfl⟩,M',A',h1,h2,h3⟩:=h
     exact herr g s' (Option.some.inj hx).symm older w (hiD ⟨M',A',h1,hE.out.trans h2,hA.out.trans h3⟩)
   | ok G =>
     obtain ⟨rfl,M',A',n',h0,h4,h1,h2,h3⟩:=h
     exact hok G s' (hiD hp) (hiD hx) w M' A' n' (hiD h0) (hiD h4) (hiD h1) (hiD h2) (hiD (hE.out.trans h2)) (hiD h3) (hiD (hA.out.trans h3))
theorem RAt.told {w6 w7:World} {b mb:Nat} {L:List Fn} {P M:Nat→Prop} {A:List (Nat×Nat)} {s:RS} (h:RAt w6 b mb L P M A s) {ov v':Value} (hov:w6.cell? ⟨b,4,none⟩=some ov) (k:Int) (hn:s.out.length<200) (hown:w7.ownsRow 0 2 1 v' (s.out.length+1) (s.out.map (Value.int .i64)++[.int .i64 k])) (hg:Grew w6 w7 ov v') :
 RAt (w7.setCell ⟨b,4,none⟩ v') b mb L P (fun k=>M k∨v'.ownBlock=some k) A { s with out:=s.out++[k] }∧Ext None M (fun k=>M k∨v'.ownBlock=some k) w6 (w7.setCell ⟨b,4,none⟩ v'):=by
 obtain ⟨⟨iv,ov2,h1,h2,h3,h4⟩,h5,⟨h7,n,F,h6,h8⟩,h9,h10,h11,h12,h13,h17,h18,h14,h15,h16⟩:=h
 obtain rfl:ov2=ov:=by
  have:=h1.cell (i:=4) (v:=ov2) rfl
  rw [hov] at this
  exact (Option.some.inj this).symm
 have hm7:Mods (fun k=>ov2.ownBlock=some k) w6 w7:=hg.mods
 have hm8:Mods (·=b) w7 (w7.setCell ⟨b,4,none⟩ v'):=mods_put _ _ _ _
 have hb6:b<w6.heap.size:=h13 b h5
 have hm68:Mods (fun k=>ov2.ownBlock=some k∨k=b) w6 (w7.setCell ⟨b,4,none⟩ v'):=(hm7.mono fun _ _ hk=>Or.inl hk).trans (hm8.mono fun _ _ hk=>Or.inr hk)
 have hMP:∀ k,(ov2.ownBlock=some k∨k=b)→M k:=fun k hk=>hk.elim (fun e=>(h4 k e).1) (fun e=>by rw [e];exact h5)
 have hm68P:Mods (fun k=>¬ P k) w6 (w7.setCell ⟨b,4,none⟩ v'):=hm68.mono fun k _ hk=>h17 k (hMP k hk)
 have hloc:∀ k,v'.ownBlock=some k→ov2.ownBlock=some k∨k=w6.heap.size:=fun k hk=>by
  rcases hg.loc with e|e
  · exact Or.inl (by rw [← e];exact hk)
  · rw [e] at hk
    exact Or.inr (Option.some.inj hk).symm
 have hne:∀ k,v'.ownBlock=some k→k≠b:=fun k hk=>by
  rcases hloc k hk with e|e
  · exact (h4 k e).2.1
  · omega
 have hAk:∀ k,v'.ownBlock=some k→∀ g n,(g,n)∈A→g≠k:=fun k hk g m hgm=>by
  rcases hloc k hk with e|e
  · exact (h4 k e).2.2 g m hgm
  · have:=h13 g (h11 g m hgm).1
    omega
 have hb7:Blk w7 b [.map (some mb),iv,.int .i64 s.fuel,.int .i64 s.calls,ov2] 111:=h1.mods hm7 (fun e=>(h4 b e).2.1 rfl)
 refine ⟨⟨⟨iv,v',hb7.set 4 v',h2.mods hm68P (fun _ _ k=>k),?_,fun k hk=>⟨Or.inr hk,hne k hk,hAk k hk⟩⟩,Or.inl h5,⟨h7,n,F,h6.mods hm68 (fun e=>h17 mb (hMP mb e) h7),fun f x hx=>(h8 f x hx).mods hm68P (fun _ _ k=>k)⟩,h9,?_,fun g m hgm=>⟨Or.inl (h11 g m hgm).1,(h11 g m hgm).2⟩,h12,?_,?_,fun k hk=>Nat.lt_of_lt_of_le (h18 k hk) hm68.size,?_,h15,h16⟩,?_⟩
 · have:=hm8.ownsRow hown (fun k hk=>hne k hk)
   simpa using this
 · intro i l hl
   obtain ⟨g,e1,e2,e3⟩:=h10 i l hl
   refine ⟨g,e1,e2.mods hm68 ?_,e3⟩
   rintro (e|e)
   · exact (h4 g e).2.2 g _ (List.mem_of_getElem? e1) rfl
   · exact (h11 g _ (List.mem_of_getElem? e1)).2 e
 · intro k hk
   have hsz:(w7.setCell ⟨b,4,none⟩ v').heap.size=w7.heap.size:=by simp [World.setCell]
   rw [hsz]
   rcases hk with hk|hk
   · exact Nat.lt_of_lt_of_le (h13 k hk) hm7.size
   · exact (hown.lt k hk).2
 · rintro k (hk|hk) hp
   · exact h17 k hk hp
   · rcases hloc k hk with e|e
     · exact h17 k (h4 k e).1 hp
     · have:=h18 k hp
       omega
 · simp only [List.length_append,List.length_singleton]
   omega
 · refine ⟨hm68.mono fun k _ hk=>Or.inr (hMP k hk),fun k hk hm=>?_⟩
   rcases hm with hm|hm
   · exact hm
   · rcases hloc k hm with e|e
     · exact (h4 k e).1
     · omega
theorem RAt.outAt {w6 w7:World} {b mb:Nat} {L:List Fn} {P M:Nat→Prop} {A:List (Nat×Nat)} {s:RS} (h:RAt w6 b mb L P M A s) {ov v':Value} (hov:w6.cell? ⟨b,4,none⟩=some ov) (hg:Grew w6 w7 ov v'):w7.cell? ⟨b,4,none⟩=some ov∧w7.frozen? ⟨b,4,none⟩=false:=by
 obtain ⟨iv,ov2,h1,h2,h3,h4⟩:=h.blk
 obtain rfl:ov2=ov:=by
  have:=h1.cell (i:=4) (v:=ov2) rfl
  rw [hov] at this
  exact (Option.some.inj this).symm
 have hb7:Blk w7 b [.map (some mb),iv,.int .i64 s.fuel,.int .i64 s.calls,ov2] 111:=h1.mods hg.mods (fun e=>(h4 b e).2.1 rfl)
 exact ⟨hb7.cell rfl,hb7.free 4⟩
theorem RAt.setArr {w:World} {b mb:Nat} {L:List Fn} {P M:Nat→Prop} {A:List (Nat×Nat)} {s:RS} (h:RAt w b mb L P M A s) {i g:Nat} {l:List Int} (h2:A[i]?=some (g,l.length)) (hl:s.arrs[i]?=some l) (j:Nat) (x:Int) :
 RAt (w.setCell ⟨g,j,none⟩ (.int .i64 x)) b mb L P M A { s with arrs:=s.arrs.set i (l.set j x) }∧Ext None M M w (w.setCell ⟨g,j,none⟩ (.int .i64 x)):=by
 obtain ⟨⟨iv,ov,h1,h2',h3,h4⟩,h5,⟨h7,n,F,h6,h8⟩,h9,h10,h11,h12,h13,h17,h18,h14,h15,h16⟩:=h
 have hm:Mods (·=g) w (w.setCell ⟨g,j,none⟩ (.int .i64 x)):=mods_put _ _ _ _
 have hgm:=List.mem_of_getElem? h2
 have hMg:=(h11 g _ hgm).1
 have hmP:Mods (fun k=>¬ P k) w (w.setCell ⟨g,j,none⟩ (.int .i64 x)):=hm.mono fun k _ e=>by rw [e];exact h17 g hMg
 refine ⟨⟨⟨iv,ov,h1.mods hm (fun e=>(h11 g _ hgm).2 e.symm),h2'.mods hmP (fun _ _ k=>k),hm.ownsRow h3 (fun k hk e=>(h4 k hk).2.2 g _ hgm e.symm),h4⟩,h5,⟨h7,n,F,h6.mods hm (fun e=>h17 g hMg (e ▸ h7)),fun f y hy=>(h8 f y hy).mods hmP (fun _ _ k=>k)⟩,by simpa using h9,?_,h11,h12,fun k hk=>Nat.lt_of_lt_of_le (h13 k hk) hm.size,h17,fun k hk=>Nat.lt_of_lt_of_le (h18 k hk) hm.size,h14,h15,h16⟩,⟨hm.mono fun k _ e=>Or.inr (by rw [e];exact hMg),fun _ _ k=>k⟩⟩
 intro i2 l2 hl2
 by_cases hi:i2=i
 · subst hi
   have hlt:i2<s.arrs.length:=(List.getElem?_eq_some_iff.1 hl).1
   rw [List.getElem?_set_self hlt] at hl2
   obtain rfl:=Option.some.inj hl2
   obtain ⟨g',e1,e2,e3⟩:=h10 i2 l hl
   rw [h2] at e1
   simp only [Option.some.injEq,Prod.mk.injEq,and_true] at e1
   subst e1
   refine ⟨g,by simpa using h2,?_,by simpa using e3⟩
   have:=e2.set j (.int .i64 x)
   rw [List.map_set]
   exact this
 · rw [List.getElem?_set_ne (fun e=>hi e.symm)] at hl2
   obtain ⟨g',e1,e2,e3⟩:=h10 i2 l2 hl2
   refine ⟨g',e1,e2.mods hm ?_,e3⟩
   intro e
   subst e
   have ha:=List.getElem?_eq_some_iff.1 e1
   have hb:=List.getElem?_eq_some_iff.1 h2
   have hp:=List.pairwise_iff_getElem.1 h12
   rcases Nat.lt_or_gt_of_ne hi with hlt|hlt
   · have:=hp i2 i ha.1 hb.1 hlt
     rw [ha.2,hb.2] at this
     exact this rfl
   · have:=hp i i2 hb.1 ha.1 hlt
     rw [ha.2,hb.2] at this
     exact this rfl
theorem fr_put (F:Fr) (s:List UInt8) (x:V) (y:List UInt8):Fr.get (F.put s x) y=if y=s then x else Fr.get F y:=by
 induction F with
 | nil =>
   simp only [Fr.put,Fr.get,beq_iff_eq]
   by_cases h:y=s
   · subst h;simp
   · rw [if_neg h,if_neg (fun e=>h e.symm)]
 | cons p r ih =>
   simp only [Fr.put]
   by_cases hp:p.1=s
   · rw [if_pos (by simpa using hp)]
     simp only [Fr.get,beq_iff_eq]
     by_cases h:y=s
     · subst h;simp
     · rw [if_neg h,if_neg (fun e=>h e.symm),if_neg (fun e=>h (e.symm.trans hp))]
   · rw [if_neg (by simpa using hp)]
     simp only [Fr.get,beq_iff_eq]
     by_cases h:p.1=y
     · rw [if_pos h,if_pos h,if_neg]
       rintro rfl
       exact hp h
     · rw [if_neg h,if_neg h,ih]
theorem FrAt.put {W:World} {P M:Nat→Prop} {A:List (Nat×Nat)} {fm n:Nat} {F:Fr} {x:V} {v:Value} (h:FrAt W P M A fm n F) (s:List UInt8) (hs:s.length≤10000000) (hv:VAt A x v) (hn:n<maxLen) :
 ∃ w',(Instr.mapUpdate 162 (.map (some fm)) (str s) v).run Tryz.prog W=.ok () w'∧FrAt w' P M A fm (n+1) (F.put s x)∧Mods (·=fm) W w':=by
 obtain ⟨F',h1,h2,h4,h3⟩:=h
 obtain ⟨w',k1,k2,k3⟩:=h1.put (t:=162) Tryz.underlying162 s hs v hn
 refine ⟨w',k1,⟨_,k2,h2,h4,fun y=>?_⟩,k3⟩
 rw [getL_put,fr_put]
 split
 · exact hv
 · exact h3 y
theorem step_ok {s s':RS} {u:Unit} (h:stepR s=some (.ok u,s')):s'.fuel+1=s.fuel:=by
 unfold stepR at h
 split at h
 · cases h
 · obtain rfl:=(Prod.mk.inj (Option.some.inj h)).2
   simp only
   omega
structure Sx (W0 w:World) (P M:Nat→Prop) (fm q:Nat) (cs:List Value):Prop where
 blk:Blk w q cs 143
 nm:¬ M q∧¬ P q
 far:q≠fm
 at_:W0.heap.size≤q
theorem Sx.step {W0 w w':World} {P T M M':Nat→Prop} {fm q:Nat} {cs:List Value} (h:Sx W0 w P M fm q cs) (hE:Ext T M M' w w') (hT:¬ T q):Sx W0 w' P M' fm q cs :=
 ⟨(keep_blk h.blk hE h.nm.1 hT).1,⟨(keep_blk h.blk hE h.nm.1 hT).2,h.nm.2⟩,h.far,h.at_⟩
theorem Sx.new {W:World} {b mb n:Nat} {L:List Fn} {P M:Nat→Prop} {A:List (Nat×Nat)} {s:RS} {fm:Nat} {F:Fr} (h:RAt W b mb L P M A s) (hF:FrAt W P M A fm n F) (cs:List Value):Sx W (W.alloc (.cells cs.toArray 143)) P M fm W.heap.size cs:=by
 refine ⟨?_,⟨fun hm=>absurd (h.old _ hm) (Nat.lt_irrefl _),fun hp=>absurd (h.given _ hp) (Nat.lt_irrefl _)⟩,?_,Nat.le_refl _⟩
 · have:=Blk.new W cs.toArray 143
   simpa using this
 · obtain ⟨F',k1,_⟩:=hF
   have:=k1.lt
   omega
theorem fuel_cell {W:World} {b mb:Nat} {L:List Fn} {P M:Nat→Prop} {A:List (Nat×Nat)} {s:RS} (h:RAt W b mb L P M A s):(intOf ((W.cell? ⟨b,2,none⟩).getD (.int .i64 0))).toNat=s.fuel:=by
 obtain ⟨iv,ov,h1,_⟩:=h.blk
 rw [h1.cell (i:=2) rfl]
 simp [intOf]
theorem ranF_after {W w w':World} {b mb:Nat} {L:List Fn} {P M M1:Nat→Prop} {A A1:List (Nat×Nat)} {fm N:Nat} {r:Except Sig Fr×RS} {e:Ending} (h:RanF w b mb L P M1 A1 fm N r e w') (hE:Ext (·=fm) M M1 W w) (hA:A <+: A1):RanF W b mb L P M A fm N r e w':=by
 obtain ⟨_|G,s⟩:=r
 · obtain ⟨h0,M',A',h1,h2,h3⟩:=h
   exact ⟨h0,M',A',h1,hE.trans h2,hA.trans h3⟩
 · obtain ⟨h0,M',A',n',k0,k4,h1,h2,h3⟩:=h
   exact ⟨h0,M',A',n',k0,k4,h1,hE.trans h2,hA.trans h3⟩
theorem ranF_cases {W w':World} {b mb:Nat} {L:List Fn} {P M:Nat→Prop} {A:List (Nat×Nat)} {fm N:Nat} {r:Except Sig Fr×RS} {e:Ending} (h:RanF W b mb L P M A fm N r e w'):(∃ older g,e=.panicked ({ v:=sigV g,recovered:=false }::older))∨e=.returned (.tuple #[]):=by
 obtain ⟨_|G,s⟩:=r
 · obtain ⟨⟨older,rfl⟩,_⟩:=h
   exact Or.inl ⟨_,_,rfl⟩
 · exact Or.inr h.1
theorem ex_far {W W':World} {P S:Nat→Prop} {e:Ex} {v:Value} (h:ExAt W (fun k=>¬ P k) e v) (hm:Mods S W W') (hS:∀ k,S k→¬ P k):ExAt W' (fun k=>¬ P k) e v:=ExAt.modsTo (hm.mono fun k _ hk=>hS k hk) (fun _ _ k=>k) e v h
set_option maxRecDepth 100000 in
set_option maxHeartbeats 1000000 in
theorem rst_var {L:List Fn} {f:Nat} (ihe:EvC L f) (a:Int) (x:List UInt8) (v:Ex) (cs:List Value) (b mb:Nat) (P M:Nat→Prop) (A:List (Nat×Nat)) (s:RS) (F:Fr) (fm n N:Nat) (W:World) (r:Except Sig Fr×RS) (h:RAt W b mb L P M A s) (hF:FrAt W P M A fm n F) (hn:n+s.fuel≤N) (hN:N≤4100000000000000000) (hg:GoodS L (.var a x v)) (hs:StAt W (fun k=>¬ P k) (.var a x v) cs) (hr:stmtR L (f+1) s F (.var a x v)=some r) :
 Calls Tryz.prog 105 #[.pointer (some ⟨b,0,none⟩),.map (some fm),.agg cs.toArray] W (RanF W b mb L P M A fm N r):=by
 simp only [StAt] at hs
 obtain ⟨xv,rfl,hxv⟩:=hs
 simp only [GoodS] at hg
 have HX:Hid (bindR (stepR s) (fun _ s=>bindR (evE L f s F v) fun y s=>okR (F.put x y) s)=some r):=hiD (by rw [← hr];simp only [stmtR])
 obtain ⟨W1,hW1⟩:∃ W1,W1=W.alloc (.cells (cells7 1 a x nilP xv nilS nilS).toArray 143):=⟨_,rfl⟩
 have HM:Mods None W W1:=by rw [hW1];exact (Mods.refl _ _).alloc _
 have HS:Hid (Sx W W1 P M fm W.heap.size (cells7 1 a x nilP xv nilS nilS)):=hiD (by rw [hW1];exact Sx.new h hF _)
 have HR:=hiD (h.quiet HM)
 have HF:=hiD (hF.ext (Ext.quiet HM) (List.prefix_refl A))
 have HFM:Hid (¬ P fm):=hiD (by obtain ⟨_,_,_,k,_⟩:=hF;exact k)
 have HE:Hid (Ext (·=fm) M M W W1):=hiD (Ext.quiet HM)
 have HA:=hiD (List.prefix_refl A)
 have HNN:=hiD (And.intro hn hN)
 have HC:=hiD (fun y hy=>step_any None b mb L P M A s W1 y HR.out hy)
 have HV:=hiD (ex_far hxv HM (fun _ f=>f.elim))
 have HG:=hiD hg
 have HIH:=hiD ihe
 obtain ⟨xg,rfl⟩:=hxv.ptr
 clear hxv hg ihe
 clear h hF hn hN hr HM
 unfold cells7 str at *
 try unfold nilP at *
 try unfold nilS at *
 go_enter Tryz.func105,Tryz.ntmps105
 go_wp2_with fail
 rw [← hW1]
 clear hW1
 go_at_call 119
 refine rbindT_of (T:=None) (fun _ f=>f.elim) HE HA HX HC.out ?_ ?_
 · rintro g s' rfl older w H
   obtain ⟨M',A',k1,k2,k3⟩:=H.out
   go_wp2
   exact ⟨rfl,⟨older,rfl⟩,M',A',k1,k2,k3⟩
 · rintro u s1 HST HX1 e w M1 A1 HEQ HR1 HE1 HE2 HA1 HA2
   obtain rfl:=HEQ
   have HS1:=hiD (HS.out.step HE1.out (fun f=>f))
   have HF1:=hiD (HF.out.ext HE1.out HA1.out)
   have HFU:=hiD (step_ok HST.out)
   have c0:=HS1.out.blk.cell (i:=0) rfl
   have c2:=HS1.out.blk.cell (i:=2) rfl
   have c4:=HS1.out.blk.cell (i:=4) rfl
   have HD:Mods None w w.drew:=(Mods.refl _ _).drew
   have HSD:=hiD (HS1.out.step (T:=None) (Ext.quiet HD) (fun f=>f))
   have HFD:=hiD (HF1.out.ext (Ext.quiet HD) (List.prefix_refl _))
   have HED:=hiD (HE2.out.trans (Ext.quiet HD))
   have HVD:=ex_far (ex_far HV.out HE1.out.mods (fun k hk=>hk.elim (fun f=>f.elim) (HR.out.off k))) HD (fun _ f=>f.elim)
   have HCV:=hiD (fun y hy=>HIH.out v b mb P None M1 A1 s1 F fm n w.drew (.pointer (some ⟨xg,0,none⟩)) y (HR1.out.quiet HD) HFD.out HG.out.2 HVD hy)
   have HLS:=hiD ((less_all L f).1 s1 F v)
   have HRO:=HR1
   clear HC HX HST HIH HV HVD HD HE1 HE2 HS1 HF1 HS HF HR HE HA HR1
   obtain ⟨z,hz⟩:∃ z,z=evE L f s1 F v:=⟨_,rfl⟩
   have HX4:Hid (bindR z (fun y s=>okR (F.put x y) s)=some r):=hiD (by rw [hz];exact HX1.out)
   clear HX1
   rcases z with _|⟨g'|y,s2⟩
   · cases HX4.out
   · obtain rfl:=(Option.some.inj HX4.out).symm
     have HN4:=hiD (HCV.out _ hz.symm)
     clear hz HCV HX4 HLS
     unfold Ran at HN4
     unfold RanF
     go_wp2_with fail
     go_region_with (first|(go_at_call 120;refine HN4.out.mono ?_;rintro e w5 ⟨⟨older,rfl⟩,M5,A5,k1,k2,k3⟩;refine no_way Tryz.prog w5 ⟨rfl,⟨older,rfl⟩,M5,A5,k1,HED.out.trans (k2.more fun _ _ f=>f.elim),HA2.out.trans k3⟩ ?_))
     all_goals trivial
   · obtain rfl:=(Option.some.inj HX4.out).symm
     have HN4:=hiD (HCV.out _ hz.symm)
     have HL2:=hiD (HLS.out _ hz.symm)
     clear hz HCV HX4 HLS
     have HNB:Hid (n<maxLen):=hiD (by have h1:=HNN.out;unfold maxLen;omega)
     unfold Ran retV at HN4
     unfold RanF
     go_wp2_with fail
     go_region_with (first|(go_at_call 120;refine HN4.out.mono ?_;rintro e w5 ⟨M5,A5,⟨yv,rfl,hyv⟩,k1,k2,k3⟩;obtain ⟨w6,hu,hf6,hm6⟩:=(HFD.out.ext k2 k3).put x HG.out.1 hyv HNB.out;have c25:=(HSD.out.step k2 (fun f=>f)).blk.cell (i:=2) rfl;have HK:=hiD (And.intro k1 (And.intro k2 (And.intro k3 (And.intro hf6 hm6))));clear k1 k2 k3 hf6 hm6 hyv;unfold str at hu))
     all_goals
        clear hu
        go_wp2_with fail
        go_end0
        obtain ⟨k1,k2,k3,k4,k5⟩:=HK.out
        have h1:=HNN.out.1
        have h2:=HFU.out
        have h3:s2.fuel≤s1.fuel:=HL2.out
        have hfm:¬ P fm:=HFM.out
        have hfm5:¬ M5 fm:=by obtain ⟨_,_,k,_⟩:=k4;exact k
        refine ⟨rfl,M5,A5,n+1,k4,?_,k1.aside k5 (fun k hk=>by rw [hk];exact ⟨hfm5,hfm⟩),(HED.out.trans (k2.more fun _ _ f=>f.elim)).trans (Ext.aside k5 (fun _ _ f=>f)),HA2.out.trans k3⟩
        show n+1+s2.fuel≤N
        omega
set_option maxRecDepth 100000 in
set_option maxHeartbeats 1000000 in
theorem rst_set {L:List Fn} {f:Nat} (ihe:EvC L f) (a:Int) (x:List UInt8) (v:Ex) (cs:List Value) (b mb:Nat) (P M:Nat→Prop) (A:List (Nat×Nat)) (s:RS) (F:Fr) (fm n N:Nat) (W:World) (r:Except Sig Fr×RS) (h:RAt W b mb L P M A s) (hF:FrAt W P M A fm n F) (hn:n+s.fuel≤N) (hN:N≤4100000000000000000) (hg:GoodS L (.set a x v)) (hs:StAt W (fun k=>¬ P k) (.set a x v) cs) (hr:stmtR L (f+1) s F (.set a x v)=some r) :
 Calls Tryz.prog 105 #[.pointer (some ⟨b,0,none⟩),.map (some fm),.agg cs.toArray] W (RanF W b mb L P M A fm N r):=by
 simp only [StAt] at hs
 obtain ⟨xv,rfl,hxv⟩:=hs
 simp only [GoodS] at hg
 have HX:Hid (bindR (stepR s) (fun _ s=>bindR (evE L f s F v) fun y s=>okR (F.put x y) s)=some r):=hiD (by rw [← hr];simp only [stmtR])
 obtain ⟨W1,hW1⟩:∃ W1,W1=W.alloc (.cells (cells7 2 a x nilP xv nilS nilS).toArray 143):=⟨_,rfl⟩
 have HM:Mods None W W1:=by rw [hW1];exact (Mods.refl _ _).alloc _
 have HS:Hid (Sx W W1 P M fm W.heap.size (cells7 2 a x nilP xv nilS nilS)):=hiD (by rw [hW1];exact Sx.new h hF _)
 have HR:=hiD (h.quiet HM)
 have HF:=hiD (hF.ext (Ext.quiet HM) (List.prefix_refl A))
 have HFM:Hid (¬ P fm):=hiD (by obtain ⟨_,_,_,k,_⟩:=hF;exact k)
 have HE:Hid (Ext (·=fm) M M W W1):=hiD (Ext.quiet HM)
 have HA:=hiD (List.prefix_refl A)
 have HNN:=hiD (And.intro hn hN)
 have HC:=hiD (fun y hy=>step_any None b mb L P M A s W1 y HR.out hy)
 have HV:=hiD (ex_far hxv HM (fun _ f=>f.elim))
 have HG:=hiD hg
 have HIH:=hiD ihe
 obtain ⟨xg,rfl⟩:=hxv.ptr
 clear hxv hg ihe
 clear h hF hn hN hr HM
 unfold cells7 str at *
 try unfold nilP at *
 try unfold nilS at *
 go_enter Tryz.func105,Tryz.ntmps105
 go_wp2_with fail
 rw [← hW1]
 clear hW1
 go_at_call 119
 refine rbindT_of (T:=None) (fun _ f=>f.elim) HE HA HX HC.out ?_ ?_
 · rintro g s' rfl older w H
   obtain ⟨M',A',k1,k2,k3⟩:=H.out
   go_wp2
   exact ⟨rfl,⟨older,rfl⟩,M',A',k1,k2,k3⟩
 · rintro u s1 HST HX1 e w M1 A1 HEQ HR1 HE1 HE2 HA1 HA2
   obtain rfl:=HEQ
   have HS1:=hiD (HS.out.step HE1.out (fun f=>f))
   have HF1:=hiD (HF.out.ext HE1.out HA1.out)
   have HFU:=hiD (step_ok HST.out)
   have c0:=HS1.out.blk.cell (i:=0) rfl
   have c2:=HS1.out.blk.cell (i:=2) rfl
   have c4:=HS1.out.blk.cell (i:=4) rfl
   have HD:Mods None w w.drew:=(Mods.refl _ _).drew
   have HSD:=hiD (HS1.out.step (T:=None) (Ext.quiet HD) (fun f=>f))
   have HFD:=hiD (HF1.out.ext (Ext.quiet HD) (List.prefix_refl _))
   have HED:=hiD (HE2.out.trans (Ext.quiet HD))
   have HVD:=ex_far (ex_far HV.out HE1.out.mods (fun k hk=>hk.elim (fun f=>f.elim) (HR.out.off k))) HD (fun _ f=>f.elim)
   have HCV:=hiD (fun y hy=>HIH.out v b mb P None M1 A1 s1 F fm n w.drew (.pointer (some ⟨xg,0,none⟩)) y (HR1.out.quiet HD) HFD.out HG.out.2 HVD hy)
   have HLS:=hiD ((less_all L f).1 s1 F v)
   have HRO:=HR1
   clear HC HX HST HIH HV HVD HD HE1 HE2 HS1 HF1 HS HF HR HE HA HR1
   obtain ⟨z,hz⟩:∃ z,z=evE L f s1 F v:=⟨_,rfl⟩
   have HX4:Hid (bindR z (fun y s=>okR (F.put x y) s)=some r):=hiD (by rw [hz];exact HX1.out)
   clear HX1
   rcases z with _|⟨g'|y,s2⟩
   · cases HX4.out
   · obtain rfl:=(Option.some.inj HX4.out).symm
     have HN4:=hiD (HCV.out _ hz.symm)
     clear hz HCV HX4 HLS
     unfold Ran at HN4
     unfold RanF
     go_wp2_with fail
     go_region_with (first|(go_at_call 120;refine HN4.out.mono ?_;rintro e w5 ⟨⟨older,rfl⟩,M5,A5,k1,k2,k3⟩;refine no_way Tryz.prog w5 ⟨rfl,⟨older,rfl⟩,M5,A5,k1,HED.out.trans (k2.more fun _ _ f=>f.elim),HA2.out.trans k3⟩ ?_))
     all_goals trivial
   · obtain rfl:=(Option.some.inj HX4.out).symm
     have HN4:=hiD (HCV.out _ hz.symm)
     have HL2:=hiD (HLS.out _ hz.symm)
     clear hz HCV HX4 HLS
     have HNB:Hid (n<maxLen):=hiD (by have h1:=HNN.out;unfold maxLen;omega)
     unfold Ran retV at HN4
     unfold RanF
     go_wp2_with fail
     go_region_with (first|(go_at_call 120;refine HN4.out.mono ?_;rintro e w5 ⟨M5,A5,⟨yv,rfl,hyv⟩,k1,k2,k3⟩;obtain ⟨w6,hu,hf6,hm6⟩:=(HFD.out.ext k2 k3).put x HG.out.1 hyv HNB.out;have c25:=(HSD.out.step k2 (fun f=>f)).blk.cell (i:=2) rfl;have HK:=hiD (And.intro k1 (And.intro k2 (And.intro k3 (And.intro hf6 hm6))));clear k1 k2 k3 hf6 hm6 hyv;unfold str at hu))
     all_goals
        clear hu
        go_wp2_with fail
        go_end0
        obtain ⟨k1,k2,k3,k4,k5⟩:=HK.out
        have h1:=HNN.out.1
        have h2:=HFU.out
        have h3:s2.fuel≤s1.fuel:=HL2.out
        have hfm:¬ P fm:=HFM.out
        have hfm5:¬ M5 fm:=by obtain ⟨_,_,k,_⟩:=k4;exact k
        refine ⟨rfl,M5,A5,n+1,k4,?_,k1.aside k5 (fun k hk=>by rw [hk];exact ⟨hfm5,hfm⟩),(HED.out.trans (k2.more fun _ _ f=>f.elim)).trans (Ext.aside k5 (fun _ _ f=>f)),HA2.out.trans k3⟩
        show n+1+s2.fuel≤N
        omega
set_option maxRecDepth 100000 in
set_option maxHeartbeats 1000000 in
theorem rst_call {L:List Fn} {f:Nat} (ihe:EvC L f) (a:Int) (v:Ex) (cs:List Value) (b mb:Nat) (P M:Nat→Prop) (A:List (Nat×Nat)) (s:RS) (F:Fr) (fm n N:Nat) (W:World) (r:Except Sig Fr×RS) (h:RAt W b mb L P M A s) (hF:FrAt W P M A fm n F) (hn:n+s.fuel≤N) (hN:N≤4100000000000000000) (hg:GoodS L (.call a v)) (hs:StAt W (fun k=>¬ P k) (.call a v) cs) (hr:stmtR L (f+1) s F (.call a v)=some r) :
 Calls Tryz.prog 105 #[.pointer (some ⟨b,0,none⟩),.map (some fm),.agg cs.toArray] W (RanF W b mb L P M A fm N r):=by
 simp only [StAt] at hs
 obtain ⟨xv,rfl,hxv⟩:=hs
 simp only [GoodS] at hg
 have HX:Hid (bindR (stepR s) (fun _ s=>bindR (evE L f s F v) fun _ s=>okR F s)=some r):=hiD (by rw [← hr];simp only [stmtR])
 obtain ⟨W1,hW1⟩:∃ W1,W1=W.alloc (.cells (cells7 8 a [] nilP xv nilS nilS).toArray 143):=⟨_,rfl⟩
 have HM:Mods None W W1:=by rw [hW1];exact (Mods.refl _ _).alloc _
 have HS:Hid (Sx W W1 P M fm W.heap.size (cells7 8 a [] nilP xv nilS nilS)):=hiD (by rw [hW1];exact Sx.new h hF _)
 have HR:=hiD (h.quiet HM)
 have HF:=hiD (hF.ext (Ext.quiet HM) (List.prefix_refl A))
 have HFM:Hid (¬ P fm):=hiD (by obtain ⟨_,_,_,k,_⟩:=hF;exact k)
 have HE:Hid (Ext (·=fm) M M W W1):=hiD (Ext.quiet HM)
 have HA:=hiD (List.prefix_refl A)
 have HNN:=hiD (And.intro hn hN)
 have HC:=hiD (fun y hy=>step_any None b mb L P M A s W1 y HR.out hy)
 have HVv:=hiD (ex_far hxv HM (fun _ f=>f.elim))
 have HG:=hiD hg
 have HIH:=hiD ihe
 obtain ⟨xg,rfl⟩:=hxv.ptr
 clear hxv hg ihe
 clear h hF hn hN hr HM
 unfold cells7 str at *
 try unfold nilP at *
 try unfold nilS at *
 go_enter Tryz.func105,Tryz.ntmps105
 go_wp2_with fail
 rw [← hW1]
 clear hW1
 go_at_call 119
 refine rbindT_of (T:=None) (fun _ f=>f.elim) HE HA HX HC.out ?_ ?_
 · rintro g s' rfl older w H
   obtain ⟨M',A',k1,k2,k3⟩:=H.out
   go_wp2
   exact ⟨rfl,⟨older,rfl⟩,M',A',k1,k2,k3⟩
 · rintro u s1 HST HX1 e w M1 A1 HEQ HR1 HE1 HE2 HA1 HA2
   obtain rfl:=HEQ
   have HS1:=hiD (HS.out.step HE1.out (fun f=>f))
   have HF1:=hiD (HF.out.ext HE1.out HA1.out)
   have HFU:=hiD (step_ok HST.out)
   have c0:=HS1.out.blk.cell (i:=0) rfl
   have c4:=HS1.out.blk.cell (i:=4) rfl
   have HV1:=ex_far HVv.out HE1.out.mods (fun k hk=>hk.elim (fun f=>f.elim) (HR.out.off k))
   have HCV:=hiD (fun y hy=>HIH.out v b mb P None M1 A1 s1 F fm n w _ y HR1.out HF1.out HG.out HV1 hy)
   have HLS:=hiD ((less_all L f).1 s1 F v)
   clear HC HX HST HV1
   go_wp2_with fail
   go_at_call 120
   refine rbindT_of (T:=None) (fun _ f=>f.elim) HE2 HA2 HX1 HCV.out ?_ ?_
   · rintro g s' rfl older w H
     obtain ⟨M',A',k1,k2,k3⟩:=H.out
     go_wp2
     exact ⟨rfl,⟨older,rfl⟩,M',A',k1,k2,k3⟩
   · rintro y s2 HZ HX2 e w5 M5 A5 ⟨yv,rfl,hyv⟩ HR5 HE5 HE6 HA5 HA6
     have HL2:=hiD (HLS.out _ HZ.out)
     have HS5:=hiD (HS1.out.step HE5.out (fun f=>f))
     have HF5:=hiD (HF1.out.ext HE5.out HA5.out)
     have HYV:=hiD hyv
     obtain ⟨k,av,an,rfl,-,-⟩:=hyv.len HR5.out
     clear hyv HLS HZ HX1 HCV
     obtain rfl:=(Option.some.inj HX2.out).symm
     unfold RanF
     go_wp2_with fail
     go_end0
     have h1:=HNN.out.1
     have h2:=HFU.out
     have h3:s2.fuel≤s1.fuel:=HL2.out
     exact ⟨rfl,M5,A5,n,HF5.out,by show n+s2.fuel≤N;omega,HR5.out,HE6.out,HA6.out⟩
set_option maxRecDepth 100000 in
set_option maxHeartbeats 1000000 in
theorem rst_ret {L:List Fn} {f:Nat} (ihe:EvC L f) (a:Int) (v:Ex) (cs:List Value) (b mb:Nat) (P M:Nat→Prop) (A:List (Nat×Nat)) (s:RS) (F:Fr) (fm n N:Nat) (W:World) (r:Except Sig Fr×RS) (h:RAt W b mb L P M A s) (hF:FrAt W P M A fm n F) (hn:n+s.fuel≤N) (hN:N≤4100000000000000000) (hg:GoodS L (.ret a v)) (hs:StAt W (fun k=>¬ P k) (.ret a v) cs) (hr:stmtR L (f+1) s F (.ret a v)=some r) :
 Calls Tryz.prog 105 #[.pointer (some ⟨b,0,none⟩),.map (some fm),.agg cs.toArray] W (RanF W b mb L P M A fm N r):=by
 simp only [StAt] at hs
 obtain ⟨xv,rfl,hxv⟩:=hs
 simp only [GoodS] at hg
 have HX:Hid (bindR (stepR s) (fun _ s=>bindR (evE L f s F v) fun y s=>some (.error (.ret y.n),s))=some r):=hiD (by rw [← hr];simp only [stmtR])
 obtain ⟨W1,hW1⟩:∃ W1,W1=W.alloc (.cells (cells7 6 a [] nilP xv nilS nilS).toArray 143):=⟨_,rfl⟩
 have HM:Mods None W W1:=by rw [hW1];exact (Mods.refl _ _).alloc _
 have HS:Hid (Sx W W1 P M fm W.heap.size (cells7 6 a [] nilP xv nilS nilS)):=hiD (by rw [hW1];exact Sx.new h hF _)
 have HR:=hiD (h.quiet HM)
 have HF:=hiD (hF.ext (Ext.quiet HM) (List.prefix_refl A))
 have HFM:Hid (¬ P fm):=hiD (by obtain ⟨_,_,_,k,_⟩:=hF;exact k)
 have HE:Hid (Ext (·=fm) M M W W1):=hiD (Ext.quiet HM)
 have HA:=hiD (List.prefix_refl A)
 have HNN:=hiD (And.intro hn hN)
 have HC:=hiD (fun y hy=>step_any None b mb L P M A s W1 y HR.out hy)
 have HVv:=hiD (ex_far hxv HM (fun _ f=>f.elim))
 have HG:=hiD hg
 have HIH:=hiD ihe
 obtain ⟨xg,rfl⟩:=hxv.ptr
 clear hxv hg ihe
 clear h hF hn hN hr HM
 unfold cells7 str at *
 try unfold nilP at *
 try unfold nilS at *
 go_enter Tryz.func105,Tryz.ntmps105
 go_wp2_with fail
 rw [← hW1]
 clear hW1
 go_at_call 119
 refine rbindT_of (T:=None) (fun _ f=>f.elim) HE HA HX HC.out ?_ ?_
 · rintro g s' rfl older w H
   obtain ⟨M',A',k1,k2,k3⟩:=H.out
   go_wp2
   exact ⟨rfl,⟨older,rfl⟩,M',A',k1,k2,k3⟩
 · rintro u s1 HST HX1 e w M1 A1 HEQ HR1 HE1 HE2 HA1 HA2
   obtain rfl:=HEQ
   have HS1:=hiD (HS.out.step HE1.out (fun f=>f))
   have HF1:=hiD (HF.out.ext HE1.out HA1.out)
   have HFU:=hiD (step_ok HST.out)
   have c0:=HS1.out.blk.cell (i:=0) rfl
   have c4:=HS1.out.blk.cell (i:=4) rfl
   have HV1:=ex_far HVv.out HE1.out.mods (fun k hk=>hk.elim (fun f=>f.elim) (HR.out.off k))
   have HCV:=hiD (fun y hy=>HIH.out v b mb P None M1 A1 s1 F fm n w _ y HR1.out HF1.out HG.out HV1 hy)
   have HLS:=hiD ((less_all L f).1 s1 F v)
   clear HC HX HST HV1
   go_wp2_with fail
   go_at_call 120
   refine rbindT_of (T:=None) (fun _ f=>f.elim) HE2 HA2 HX1 HCV.out ?_ ?_
   · rintro g s' rfl older w H
     obtain ⟨M',A',k1,k2,k3⟩:=H.out
     go_wp2
     exact ⟨rfl,⟨older,rfl⟩,M',A',k1,k2,k3⟩
   · rintro y s2 HZ HX2 e w5 M5 A5 ⟨yv,rfl,hyv⟩ HR5 HE5 HE6 HA5 HA6
     have HL2:=hiD (HLS.out _ HZ.out)
     have HS5:=hiD (HS1.out.step HE5.out (fun f=>f))
     have HF5:=hiD (HF1.out.ext HE5.out HA5.out)
     have HYV:=hiD hyv
     obtain ⟨k,av,an,rfl,-,-⟩:=hyv.len HR5.out
     clear hyv HLS HZ HX1 HCV
     obtain rfl:=(Option.some.inj HX2.out).symm
     obtain rfl:k=y.n:=by
        rcases HYV.out with ⟨-,h⟩|⟨_,_,_,-,-,h⟩ <;> simp at h <;> exact h.1
     have hfl:=fld_n y.n (.slice av an an)
     unfold RanF
     go_wp2
     exact ⟨rfl,⟨Old.nil,rfl⟩,M5,A5,HR5.out,HE6.out,HA6.out⟩
set_option maxRecDepth 100000 in
set_option maxHeartbeats 1000000 in
theorem rst_cond {L:List Fn} {f:Nat} (ihe:EvC L f) (ihb:BlkC L f) (a:Int) (v:Ex) (t el:List St) (cs:List Value) (b mb:Nat) (P M:Nat→Prop) (A:List (Nat×Nat)) (s:RS) (F:Fr) (fm n N:Nat) (W:World) (r:Except Sig Fr×RS) (h:RAt W b mb L P M A s) (hF:FrAt W P M A fm n F) (hn:n+s.fuel≤N) (hN:N≤4100000000000000000) (hg:GoodS L (.cond a v t el)) (hs:StAt W (fun k=>¬ P k) (.cond a v t el) cs) (hr:stmtR L (f+1) s F (.cond a v t el)=some r) :
 Calls Tryz.prog 105 #[.pointer (some ⟨b,0,none⟩),.map (some fm),.agg cs.toArray] W (RanF W b mb L P M A fm N r):=by
 simp only [StAt] at hs
 obtain ⟨xv,p,vp,q,vq,rfl,hxv,hp1,hp2,hq1,hq2⟩:=hs
 simp only [GoodS] at hg
 have HX:Hid (bindR (stepR s) (fun _ s=>bindR (evE L f s F v) fun c s=>if c.n≠0 then blockR L f s F t else blockR L f s F el)=some r):=hiD (by rw [← hr];simp only [stmtR])
 obtain ⟨W1,hW1⟩:∃ W1,W1=W.alloc (.cells (cells7 4 a [] nilP xv p q).toArray 143):=⟨_,rfl⟩
 have HM:Mods None W W1:=by rw [hW1];exact (Mods.refl _ _).alloc _
 have HS:Hid (Sx W W1 P M fm W.heap.size (cells7 4 a [] nilP xv p q)):=hiD (by rw [hW1];exact Sx.new h hF _)
 have HR:=hiD (h.quiet HM)
 have HF:=hiD (hF.ext (Ext.quiet HM) (List.prefix_refl A))
 have HFM:Hid (¬ P fm):=hiD (by obtain ⟨_,_,_,k,_⟩:=hF;exact k)
 have HE:Hid (Ext (·=fm) M M W W1):=hiD (Ext.quiet HM)
 have HA:=hiD (List.prefix_refl A)
 have HNN:=hiD (And.intro hn hN)
 have HC:=hiD (fun y hy=>step_any None b mb L P M A s W1 y HR.out hy)
 have HVv:=hiD (ex_far hxv HM (fun _ f=>f.elim))
 have HG:=hiD hg
 have HIH:=hiD ihe
 have HIB:=hiD ihb
 have HBB:=hiD (And.intro hp1 (And.intro hp2 (And.intro hq1 hq2)))
 have HR0:=hiD h
 obtain ⟨xg,rfl⟩:=hxv.ptr
 obtain ⟨pa,pc,rfl⟩:=lex_form hp1.1
 obtain ⟨qa,qc,rfl⟩:=lex_form hq1.1
 clear hxv hg ihe ihb hp1 hp2 hq1 hq2
 clear h hF hn hN hr HM
 unfold cells7 str at *
 try unfold nilP at *
 try unfold nilS at *
 go_enter Tryz.func105,Tryz.ntmps105
 go_wp2_with fail
 rw [← hW1]
 clear hW1
 go_at_call 119
 refine rbindT_of (T:=None) (fun _ f=>f.elim) HE HA HX HC.out ?_ ?_
 · rintro g s' rfl older w H
   obtain ⟨M',A',k1,k2,k3⟩:=H.out
   go_wp2
   exact ⟨rfl,⟨older,rfl⟩,M',A',k1,k2,k3⟩
 · rintro u s1 HST HX1 e w M1 A1 HEQ HR1 HE1 HE2 HA1 HA2
   obtain rfl:=HEQ
   have HS1:=hiD (HS.out.step HE1.out (fun f=>f))
   have HF1:=hiD (HF.out.ext HE1.out HA1.out)
   have HFU:=hiD (step_ok HST.out)
   have c0:=HS1.out.blk.cell (i:=0) rfl
   have c4:=HS1.out.blk.cell (i:=4) rfl
   have HV1:=ex_far HVv.out HE1.out.mods (fun k hk=>hk.elim (fun f=>f.elim) (HR.out.off k))
   have HCV:=hiD (fun y hy=>HIH.out v b mb P None M1 A1 s1 F fm n w _ y HR1.out HF1.out HG.out.1 HV1 hy)
   have HLS:=hiD ((less_all L f).1 s1 F v)
   clear HC HX HST HV1
   go_wp2_with fail
   go_at_call 120
   refine rbindT_of (T:=None) (fun _ f=>f.elim) HE2 HA2 HX1 HCV.out ?_ ?_
   · rintro g s' rfl older w H
     obtain ⟨M',A',k1,k2,k3⟩:=H.out
     go_wp2
     exact ⟨rfl,⟨older,rfl⟩,M',A',k1,k2,k3⟩
   · rintro y s2 HZ HX2 e w5 M5 A5 ⟨yv,rfl,hyv⟩ HR5 HE5 HE6 HA5 HA6
     have HL2:=hiD (HLS.out _ HZ.out)
     have HS5:=hiD (HS1.out.step HE5.out (fun f=>f))
     have HF5:=hiD (HF1.out.ext HE5.out HA5.out)
     have HYV:=hiD hyv
     obtain ⟨k,av,an,rfl,-,-⟩:=hyv.len HR5.out
     clear hyv HLS HZ HX1 HCV
     obtain rfl:k=y.n:=by
        rcases HYV.out with ⟨-,h⟩|⟨_,_,_,-,-,h⟩ <;> simp at h <;> exact h.1
     have hfl:=fld_n y.n (.slice av an an)
     have h1:=HNN.out.1
     have h2:=HFU.out
     have h3:s2.fuel≤s1.fuel:=HL2.out
     have hmP:Mods (fun k=>¬ P k) W w5:=HE6.out.mods.mono fun k _ hk=>hk.elim (fun e=>by rw [e];exact HFM.out) (HR0.out.off k)
     have HNB:=hiD (show n+s2.fuel≤N by omega)
     have HMP:=hiD hmP
     have c5:=HS5.out.blk.cell (i:=5) rfl
     have c6:=HS5.out.blk.cell (i:=6) rfl
     clear h1 h2 h3 hmP
     by_cases hz:y.n=0
     · have hz1:(y.n != 0)=false:=by simp [hz]
       have HX3:Hid (blockR L f s2 F el=some r):=hiD (by have:=HX2.out;simpa [hz] using this)
       clear hz HX2
       go_wp2_with fail
       go_at_call 75
       refine (HIB.out el _ vq b mb P M5 A5 s2 F fm n N w5 r HR5.out HF5.out HNB.out HNN.out.2 HG.out.2.2 (HBB.out.2.2.1.mods HMP.out (fun _ _ k=>k)) (StsAt.modsTo HMP.out (fun _ _ k=>k) _ _ HBB.out.2.2.2) HX3.out).mono ?_
       intro e w6 hk
       have HK:=hiD (ranF_after hk HE6.out HA6.out)
       clear hk
       rcases ranF_cases HK.out with ⟨older,g,rfl⟩|rfl
       · go_wp2
         exact ⟨rfl,HK.out⟩
       · go_wp2_with fail
         go_end0
         exact HK.out
     · have hz1:(y.n != 0)=true:=by simp [hz]
       have HX3:Hid (blockR L f s2 F t=some r):=hiD (by have:=HX2.out;simpa [hz] using this)
       clear hz HX2
       go_wp2_with fail
       go_at_call 75
       refine (HIB.out t _ vp b mb P M5 A5 s2 F fm n N w5 r HR5.out HF5.out HNB.out HNN.out.2 HG.out.2.1 (HBB.out.1.mods HMP.out (fun _ _ k=>k)) (StsAt.modsTo HMP.out (fun _ _ k=>k) _ _ HBB.out.2.1) HX3.out).mono ?_
       intro e w6 hk
       have HK:=hiD (ranF_after hk HE6.out HA6.out)
       clear hk
       rcases ranF_cases HK.out with ⟨older,g,rfl⟩|rfl
       · go_wp2
         exact ⟨rfl,HK.out⟩
       · go_wp2_with fail
         go_end0
         exact HK.out
set_option maxRecDepth 100000 in
set_option maxHeartbeats 1000000 in
theorem rst_print {L:List Fn} {f:Nat} (ihe:EvC L f) (a:Int) (v:Ex) (cs:List Value) (b mb:Nat) (P M:Nat→Prop) (A:List (Nat×Nat)) (s:RS) (F:Fr) (fm n N:Nat) (W:World) (r:Except Sig Fr×RS) (h:RAt W b mb L P M A s) (hF:FrAt W P M A fm n F) (hn:n+s.fuel≤N) (hN:N≤4100000000000000000) (hg:GoodS L (.print a v)) (hs:StAt W (fun k=>¬ P k) (.print a v) cs) (hr:stmtR L (f+1) s F (.print a v)=some r) :
 Calls Tryz.prog 105 #[.pointer (some ⟨b,0,none⟩),.map (some fm),.agg cs.toArray] W (RanF W b mb L P M A fm N r):=by
 simp only [StAt] at hs
 obtain ⟨xv,rfl,hxv⟩:=hs
 simp only [GoodS] at hg
 have HX:Hid (bindR (stepR s) (fun _ s=>bindR (evE L f s F v) fun y s=>if s.out.length≥200 then stopR 7 s else okR F { s with out:=s.out++[y.n] })=some r):=hiD (by rw [← hr];simp only [stmtR])
 obtain ⟨W1,hW1⟩:∃ W1,W1=W.alloc (.cells (cells7 7 a [] nilP xv nilS nilS).toArray 143):=⟨_,rfl⟩
 have HM:Mods None W W1:=by rw [hW1];exact (Mods.refl _ _).alloc _
 have HS:Hid (Sx W W1 P M fm W.heap.size (cells7 7 a [] nilP xv nilS nilS)):=hiD (by rw [hW1];exact Sx.new h hF _)
 have HR:=hiD (h.quiet HM)
 have HF:=hiD (hF.ext (Ext.quiet HM) (List.prefix_refl A))
 have HFM:Hid (¬ P fm):=hiD (by obtain ⟨_,_,_,k,_⟩:=hF;exact k)
 have HE:Hid (Ext (·=fm) M M W W1):=hiD (Ext.quiet HM)
 have HA:=hiD (List.prefix_refl A)
 have HNN:=hiD (And.intro hn hN)
 have HC:=hiD (fun y hy=>step_any None b mb L P M A s W1 y HR.out hy)
 have HVv:=hiD (ex_far hxv HM (fun _ f=>f.elim))
 have HG:=hiD hg
 have HIH:=hiD ihe
 obtain ⟨xg,rfl⟩:=hxv.ptr
 obtain ⟨i0,hi,hz0,hz1,hz2⟩:=info_parts infoInt
 have HI:=hiD (And.intro hi (And.intro hz0 (And.intro hz1 hz2)))
 clear hxv hg ihe hi hz0 hz1 hz2
 clear h hF hn hN hr HM
 unfold cells7 str at *
 try unfold nilP at *
 try unfold nilS at *
 go_enter Tryz.func105,Tryz.ntmps105
 go_wp2_with fail
 rw [← hW1]
 clear hW1
 go_at_call 119
 refine rbindT_of (T:=None) (fun _ f=>f.elim) HE HA HX HC.out ?_ ?_
 · rintro g s' rfl older w H
   obtain ⟨M',A',k1,k2,k3⟩:=H.out
   go_wp2
   exact ⟨rfl,⟨older,rfl⟩,M',A',k1,k2,k3⟩
 · rintro u s1 HST HX1 e w M1 A1 HEQ HR1 HE1 HE2 HA1 HA2
   obtain rfl:=HEQ
   have HS1:=hiD (HS.out.step HE1.out (fun f=>f))
   have HF1:=hiD (HF.out.ext HE1.out HA1.out)
   have HFU:=hiD (step_ok HST.out)
   have c0:=HS1.out.blk.cell (i:=0) rfl
   have c4:=HS1.out.blk.cell (i:=4) rfl
   have HV1:=ex_far HVv.out HE1.out.mods (fun k hk=>hk.elim (fun f=>f.elim) (HR.out.off k))
   have HCV:=hiD (fun y hy=>HIH.out v b mb P None M1 A1 s1 F fm n w _ y HR1.out HF1.out HG.out HV1 hy)
   have HLS:=hiD ((less_all L f).1 s1 F v)
   clear HC HX HST HV1
   go_wp2_with fail
   go_at_call 120
   refine rbindT_of (T:=None) (fun _ f=>f.elim) HE2 HA2 HX1 HCV.out ?_ ?_
   · rintro g s' rfl older w H
     obtain ⟨M',A',k1,k2,k3⟩:=H.out
     go_wp2
     exact ⟨rfl,⟨older,rfl⟩,M',A',k1,k2,k3⟩
   · rintro y s2 HZ HX2 e w5 M5 A5 ⟨yv,rfl,hyv⟩ HR5 HE5 HE6 HA5 HA6
     have HL2:=hiD (HLS.out _ HZ.out)
     have HS5:=hiD (HS1.out.step HE5.out (fun f=>f))
     have HF5:=hiD (HF1.out.ext HE5.out HA5.out)
     have HYV:=hiD hyv
     obtain ⟨k,av,an,rfl,-,-⟩:=hyv.len HR5.out
     clear hyv HLS HZ HX1 HCV
     obtain rfl:k=y.n:=by
        rcases HYV.out with ⟨-,h⟩|⟨_,_,_,-,-,h⟩ <;> simp at h <;> exact h.1
     have hfl:=fld_n y.n (.slice av an an)
     obtain ⟨iv,ov,hb,-,hown,-⟩:=HR5.out.blk
     obtain ⟨oa,oc,rfl⟩:=lex_form hown
     have b4:w5.cell? ⟨b,4,none⟩=some (.slice oa s2.out.length oc):=hb.cell rfl
     have bz:=hb.free 4
     have hbl:=HR5.out.old b HR5.out.has
     obtain ⟨on,hon⟩:∃ on,on=s2.out.length:=⟨_,rfl⟩
     have HON:=hiD hon
     rw [← hon] at b4 hown
     have HOWN:=hiD hown
     clear hb hown
     by_cases hz:on≥200
     · have hX3:=HX2.out
       rw [if_pos (by rw [← hon];exact hz)] at hX3
       obtain rfl:=(Option.some.inj hX3).symm
       have hz1:(200:Int)≤(on:Int):=by omega
       clear hX3 HX2 hz hon
       unfold RanF
       go_wp2_with fail
       go_at_call 73
       refine (stop_any 7 _).mono ?_
       rintro e w6 ⟨⟨older,rfl⟩,rfl⟩
       go_wp2
       exact ⟨rfl,⟨older,rfl⟩,M5,A5,HR5.out,HE6.out,HA6.out⟩
     · have hX3:=HX2.out
       rw [if_neg (by rw [← hon];exact hz)] at hX3
       obtain rfl:=(Option.some.inj hX3).symm
       have hz1:¬ (200:Int)≤(on:Int):=by omega
       have hz2:(on:Int)<200:=by omega
       have HZ:=hiD hz
       have HOA:=hiD (HOWN.out.alloc (.cells #[.int .i64 y.n] 2))
       have HMA:Hid (Mods None w5 (w5.alloc (.cells #[.int .i64 y.n] 2))):=hiD ((Mods.refl _ _).alloc _)
       have hbn:b≠w5.heap.size:=by omega
       have hcA:(w5.alloc (.cells #[.int .i64 y.n] 2)).cell? ⟨b,4,none⟩=some (.slice oa on oc):=HMA.out.cellOf b4 (fun f=>f)
       have HCA:=hiD hcA
       clear hX3 HX2 hz hon hcA
       unfold RanF
       go_wp2_with (at_builtin;refine wpList_append_own_at _ rfl _ _ 23 rfl 0 2 i0 _ 1 8 Tryz.underlying23 HI.out.1 HI.out.2.1 HI.out.2.2.1 HI.out.2.2.2 rfl (by decide) (.slice oa on oc) on (s2.out.map (Value.int .i64)) rfl HOA.out ⟨w5.heap.size,0,none⟩ 1 1 [.int .i64 y.n] rfl rfl (cell_one_new _ _ _) (ints_oneCell .i64 [y.n]) (by have:=HZ.out;unfold maxLen;omega) (by have:=HZ.out;omega) (Nat.zero_le _) ?_;intro v' w7 hown hgrow hnil hloc;have HOW:=hiD hown;have HGR:=hiD (grew_of hgrow hloc);clear hown hgrow hnil hloc;refine Hid.out ?_)
       refine hiD ?_
       obtain ⟨qa,qc,rfl⟩:=lex_form HOW.out
       have hsz:s2.out.length<200:=by have h1:=HZ.out;have h2:=HON.out;omega
       obtain ⟨hR8,hE8⟩:=(HR5.out.quiet HMA.out).told HCA.out y.n hsz (by rw [← HON.out];exact HOW.out) HGR.out
       have HR8:=hiD hR8
       have HE8:=hiD ((Ext.quiet (T:=None) HMA.out).trans hE8)
       obtain ⟨c74,z74⟩:=(HR5.out.quiet HMA.out).outAt HCA.out HGR.out
       clear hR8 hE8 hsz b4 bz hbn
       go_wp2_with fail
       go_end0
       have h1:=HNN.out.1
       have h2:=HFU.out
       have h3:s2.fuel≤s1.fuel:=HL2.out
       exact ⟨rfl,_,A5,n,HF5.out.ext HE8.out (List.prefix_refl _),by show n+s2.fuel≤N;omega,HR8.out,HE6.out.trans (HE8.out.more fun _ _ f=>f.elim),HA6.out⟩
set_option maxRecDepth 100000 in
set_option maxHeartbeats 1000000 in
theorem rst_put {L:List Fn} {f:Nat} (ihe:EvC L f) (a:Int) (x:List UInt8) (v v2:Ex) (cs:List Value) (b mb:Nat) (P M:Nat→Prop) (A:List (Nat×Nat)) (s:RS) (F:Fr) (fm n N:Nat) (W:World) (r:Except Sig Fr×RS) (h:RAt W b mb L P M A s) (hF:FrAt W P M A fm n F) (hn:n+s.fuel≤N) (hN:N≤4100000000000000000) (hg:GoodS L (.put a x v v2)) (hs:StAt W (fun k=>¬ P k) (.put a x v v2) cs) (hr:stmtR L (f+1) s F (.put a x v v2)=some r) :
 Calls Tryz.prog 105 #[.pointer (some ⟨b,0,none⟩),.map (some fm),.agg cs.toArray] W (RanF W b mb L P M A fm N r):=by
 simp only [StAt] at hs
 obtain ⟨xv,yv,rfl,hxv,hyv⟩:=hs
 simp only [GoodS] at hg
 have HX:Hid (bindR (stepR s) (fun _ s=>bindR (evE L f s F v) fun k s=>bindR (evE L f s F v2) fun y s=>bindR (placeR s (F.get x) k.n) fun _ s=>okR F (putArr s (F.get x) k.n y.n))=some r):=hiD (by rw [← hr];simp only [stmtR])
 obtain ⟨W1,hW1⟩:∃ W1,W1=W.alloc (.cells (cells7 3 a x xv yv nilS nilS).toArray 143):=⟨_,rfl⟩
 have HM:Mods None W W1:=by rw [hW1];exact (Mods.refl _ _).alloc _
 have HS:Hid (Sx W W1 P M fm W.heap.size (cells7 3 a x xv yv nilS nilS)):=hiD (by rw [hW1];exact Sx.new h hF _)
 have HR:=hiD (h.quiet HM)
 have HF:=hiD (hF.ext (Ext.quiet HM) (List.prefix_refl A))
 have HFM:Hid (¬ P fm):=hiD (by obtain ⟨_,_,_,k,_⟩:=hF;exact k)
 have HE:Hid (Ext (·=fm) M M W W1):=hiD (Ext.quiet HM)
 have HA:=hiD (List.prefix_refl A)
 have HNN:=hiD (And.intro hn hN)
 have HC:=hiD (fun y hy=>step_any None b mb L P M A s W1 y HR.out hy)
 have HVv:=hiD (ex_far hxv HM (fun _ f=>f.elim))
 have HV2:=hiD (ex_far hyv HM (fun _ f=>f.elim))
 have HG:=hiD hg
 have HIH:=hiD ihe
 obtain ⟨xg,rfl⟩:=hxv.ptr
 obtain ⟨yg,rfl⟩:=hyv.ptr
 clear hxv hyv hg ihe
 clear h hF hn hN hr HM
 unfold cells7 str at *
 try unfold nilP at *
 try unfold nilS at *
 go_enter Tryz.func105,Tryz.ntmps105
 go_wp2_with fail
 rw [← hW1]
 clear hW1
 go_at_call 119
 refine rbindT_of (T:=None) (fun _ f=>f.elim) HE HA HX HC.out ?_ ?_
 · rintro g s' rfl older w H
   obtain ⟨M',A',k1,k2,k3⟩:=H.out
   go_wp2
   exact ⟨rfl,⟨older,rfl⟩,M',A',k1,k2,k3⟩
 · rintro u s1 HST HX1 e w M1 A1 HEQ HR1 HE1 HE2 HA1 HA2
   obtain rfl:=HEQ
   have HS1:=hiD (HS.out.step HE1.out (fun f=>f))
   have HF1:=hiD (HF.out.ext HE1.out HA1.out)
   have HFU:=hiD (step_ok HST.out)
   have c0:=HS1.out.blk.cell (i:=0) rfl
   have c3:=HS1.out.blk.cell (i:=3) rfl
   have HV1:=ex_far HVv.out HE1.out.mods (fun k hk=>hk.elim (fun f=>f.elim) (HR.out.off k))
   have HCV:=hiD (fun y hy=>HIH.out v b mb P None M1 A1 s1 F fm n w _ y HR1.out HF1.out HG.out.2.1 HV1 hy)
   have HLS:=hiD ((less_all L f).1 s1 F v)
   clear HC HX HST HV1
   go_wp2_with fail
   go_at_call 120
   refine rbindT_of (T:=None) (fun _ f=>f.elim) HE2 HA2 HX1 HCV.out ?_ ?_
   · rintro g s' rfl older w H
     obtain ⟨M',A',k1,k2,k3⟩:=H.out
     go_wp2
     exact ⟨rfl,⟨older,rfl⟩,M',A',k1,k2,k3⟩
   · rintro y s2 HZ HX2 e w5 M5 A5 ⟨yv,rfl,hyv⟩ HR5 HE5 HE6 HA5 HA6
     have HL2:=hiD (HLS.out _ HZ.out)
     have HS5:=hiD (HS1.out.step HE5.out (fun f=>f))
     have HF5:=hiD (HF1.out.ext HE5.out HA5.out)
     have HYV:=hiD hyv
     obtain ⟨k,av,an,rfl,-,-⟩:=hyv.len HR5.out
     clear hyv HLS HZ HX1 HCV
     obtain rfl:k=y.n:=by
        rcases HYV.out with ⟨-,h⟩|⟨_,_,_,-,-,h⟩ <;> simp at h <;> exact h.1
     have hfl:=fld_n y.n (.slice av an an)
     have c54:=HS5.out.blk.cell (i:=4) rfl
     have HV5:=ex_far (ex_far HV2.out HE1.out.mods (fun k hk=>hk.elim (fun f=>f.elim) (HR.out.off k))) HE5.out.mods (fun k hk=>hk.elim (fun f=>f.elim) (HR1.out.off k))
     have HCV2:=hiD (fun z hz=>HIH.out v2 b mb P None M5 A5 s2 F fm n w5 _ z HR5.out HF5.out HG.out.2.2 HV5 hz)
     have HLS2:=hiD ((less_all L f).1 s2 F v2)
     clear HV5 HYV
     go_wp2_with fail
     clear hfl
     go_at_call 120
     refine rbindT_of (T:=None) (fun _ f=>f.elim) HE6 HA6 HX2 HCV2.out ?_ ?_
     · rintro g s' rfl older w H
       obtain ⟨M',A',k1,k2,k3⟩:=H.out
       go_wp2
       exact ⟨rfl,⟨older,rfl⟩,M',A',k1,k2,k3⟩
     · rintro z s3 HZ3 HX3 e w7 M7 A7 ⟨zv,rfl,hzv⟩ HR7 HE7 HE8 HA7 HA8
       have HL3:=hiD (HLS2.out _ HZ3.out)
       have HS7:=hiD (HS5.out.step HE7.out (fun f=>f))
       have HF7:=hiD (HF5.out.ext HE7.out HA7.out)
       have HZV:=hiD hzv
       obtain ⟨k,av2,an2,rfl,-,-⟩:=hzv.len HR7.out
       obtain rfl:k=z.n:=by
        rcases HZV.out with ⟨-,h⟩|⟨_,_,_,-,-,h⟩ <;> simp at h <;> exact h.1
       clear hzv HLS2 HZ3 HX2 HCV2 HZV
       have hfl:=fld_n z.n (.slice av2 an2 an2)
       have c72:=HS7.out.blk.cell (i:=2) rfl
       obtain ⟨F',k1,k2,k3,k4⟩:=HF7.out
       have hlook:=k1.look (t:=162) Tryz.underlying162 (zero_val _) x HG.out.1
       have hval:=k4 x
       obtain ⟨lv,hlv⟩:∃ lv,lv=getL zeroVal F' x:=⟨_,rfl⟩
       rw [← hlv] at hval hlook
       obtain ⟨m,hm⟩:∃ m,m=Fr.get F x:=⟨_,rfl⟩
       rw [← hm] at hval HX3
       clear hlv k1 k2 k3 k4 hm
       rcases hval with ⟨hv1,rfl⟩|⟨i,q,an3,hv1,hv2,rfl⟩
       · have hp:placeR s3 m y.n=stopR 3 s3:=by unfold placeR;rw [if_pos];simp only [arrOf,hv1,List.length_nil];omega
         have hX4:=HX3.out
         rw [hp] at hX4
         obtain rfl:=(Option.some.inj hX4).symm
         have hfl2:=fld_a m.n (.slice none 0 0)
         clear hp hX4 HX3
         unfold str at hlook
         unfold RanF
         go_wp2_with fail
         go_at_call 121
         refine (place_none y.n _).mono ?_
         rintro e w6 ⟨⟨older,rfl⟩,rfl⟩
         go_wp2
         exact ⟨rfl,⟨older,rfl⟩,M7,A7,HR7.out,HE8.out,HA8.out⟩
       · obtain ⟨l,hl1,rfl,hl2,hl3⟩:=HR7.out.row hv2
         have hal:arrOf s3 m=l:=by simp [arrOf,hv1,hl1,List.getD_eq_getElem?_getD]
         have hfl2:=fld_a m.n (.slice (some ⟨q,0,none⟩) l.length l.length)
         unfold str at hlook
         by_cases hout:y.n<0∨(l.length:Int)≤y.n
         · have hp:placeR s3 m y.n=stopR 3 s3:=by unfold placeR;rw [hal,if_pos];omega
           have hX4:=HX3.out
           rw [hp] at hX4
           obtain rfl:=(Option.some.inj hX4).symm
           have HP:=hiD (place_out q l.length y.n w7 hl3 hout)
           clear hp hX4 HX3 hv1 hv2 hl1 hl2 hl3 hal hout
           unfold RanF
           go_wp2_with fail
           go_at_call 121
           refine HP.out.mono ?_
           rintro e w6 ⟨⟨older,rfl⟩,rfl⟩
           go_wp2
           exact ⟨rfl,⟨older,rfl⟩,M7,A7,HR7.out,HE8.out,HA8.out⟩
         · have hp:placeR s3 m y.n=okR (l.getD y.n.toNat 0) s3:=by unfold placeR;rw [hal,if_neg (by omega)]
           have hX4:=HX3.out
           rw [hp] at hX4
           obtain ⟨j,hj⟩:∃ j,j=y.n.toNat:=⟨_,rfl⟩
           have hpa:putArr s3 m y.n z.n={ s3 with arrs:=s3.arrs.set i (l.set j z.n) }:=by rw [hj];simp [putArr,hv1,hl1,List.getD_eq_getElem?_getD]
           have hr2:r=(.ok F,{ s3 with arrs:=s3.arrs.set i (l.set j z.n) }):=by
            have:=(Option.some.inj hX4).symm
            rw [hpa] at this
            exact this
           subst hr2
           have HP:=hiD (place_in q l.length y.n w7 hl3 (by omega) (by omega))
           rw [← hj] at HP
           have hjl:j<l.length:=by omega
           have hcell:w7.cell? ⟨q,j,none⟩=some (.int .i64 (l[j]'hjl)):=hl2.cell (by simp [List.getElem?_eq_getElem hjl])
           obtain ⟨lj,hlj⟩:∃ lj,lj=l[j]'hjl:=⟨_,rfl⟩
           rw [← hlj] at hcell
           have hfz:=hl2.free j
           obtain ⟨hR9,hE9⟩:=HR7.out.setArr hv2 hl1 j z.n
           have HR9:=hiD hR9
           have HE9:=hiD hE9
           clear hp hX4 HX3 hv1 hv2 hl1 hl2 hl3 hal hout hpa hR9 hE9 hlj
           have HJ:=hiD hjl
           clear hjl hj
           unfold RanF
           go_wp2_with fail
           go_at_call 121
           refine HP.out.mono ?_
           rintro e w6 ⟨rfl,rfl⟩
           go_wp2_with fail
           go_end0
           have h1:=HNN.out.1
           have h2:=HFU.out
           have h3:s2.fuel≤s1.fuel:=HL2.out
           have h4:s3.fuel≤s2.fuel:=HL3.out
           exact ⟨rfl,M7,A7,n,HF7.out.ext HE9.out (List.prefix_refl _),by show n+s3.fuel≤N;omega,HR9.out,HE8.out.trans (HE9.out.more fun _ _ f=>f.elim),HA8.out⟩
set_option maxRecDepth 100000 in
set_option maxHeartbeats 1000000 in
theorem rst_loop {L:List Fn} {f:Nat} (ihe:∀ k,k≤f→EvC L k) (ihb:∀ k,k≤f→BlkC L k) (a:Int) (v:Ex) (t:List St) (cs:List Value) (b mb:Nat) (P M:Nat→Prop) (A:List (Nat×Nat)) (s:RS) (F:Fr) (fm n N:Nat) (W:World) (r:Except Sig Fr×RS) (h:RAt W b mb L P M A s) (hF:FrAt W P M A fm n F) (hn:n+s.fuel≤N) (hN:N≤4100000000000000000) (hg:GoodS L (.loop a v t)) (hs:StAt W (fun k=>¬ P k) (.loop a v t) cs) (hr:stmtR L (f+1) s F (.loop a v t)=some r) :
 Calls Tryz.prog 105 #[.pointer (some ⟨b,0,none⟩),.map (some fm),.agg cs.toArray] W (RanF W b mb L P M A fm N r):=by
 simp only [StAt] at hs
 obtain ⟨xv,p,vp,rfl,hxv,hp1,hp2⟩:=hs
 simp only [GoodS] at hg
 have HX:Hid (bindR (stepR s) (fun _ s=>whileR L f s F v t)=some r):=hiD (by rw [← hr];simp only [stmtR])
 obtain ⟨W1,hW1⟩:∃ W1,W1=W.alloc (.cells (cells7 5 a [] nilP xv p nilS).toArray 143):=⟨_,rfl⟩
 have HM:Mods None W W1:=by rw [hW1];exact (Mods.refl _ _).alloc _
 have HS:Hid (Sx W W1 P M fm W.heap.size (cells7 5 a [] nilP xv p nilS)):=hiD (by rw [hW1];exact Sx.new h hF _)
 have HR:=hiD (h.quiet HM)
 have HF:=hiD (hF.ext (Ext.quiet HM) (List.prefix_refl A))
 have HFM:Hid (¬ P fm):=hiD (by obtain ⟨_,_,_,k,_⟩:=hF;exact k)
 have HE:Hid (Ext (·=fm) M M W W1):=hiD (Ext.quiet HM)
 have HA:=hiD (List.prefix_refl A)
 have HNN:=hiD (And.intro hn hN)
 have HC:=hiD (fun y hy=>step_any None b mb L P M A s W1 y HR.out hy)
 have HVv:=hiD (ex_far hxv HM (fun _ f=>f.elim))
 have HG:=hiD hg
 have HIH:=hiD ihe
 have HIB:=hiD ihb
 have HBB:=hiD (And.intro hp1 hp2)
 have HR0:=hiD h
 have HM0:=hiD HM
 obtain ⟨xg,rfl⟩:=hxv.ptr
 obtain ⟨pa,pc,rfl⟩:=lex_form hp1.1
 have HXV:=hiD hxv
 clear hxv hg ihe ihb hp1 hp2
 clear h hF hn hN hr HM
 unfold cells7 str at *
 try unfold nilP at *
 try unfold nilS at *
 go_enter Tryz.func105,Tryz.ntmps105
 go_wp2_with fail
 rw [← hW1]
 clear hW1
 go_at_call 119
 refine rbindT_of (T:=None) (fun _ f=>f.elim) HE HA HX HC.out ?_ ?_
 · rintro g s' rfl older w H
   obtain ⟨M',A',k1,k2,k3⟩:=H.out
   go_wp2
   exact ⟨rfl,⟨older,rfl⟩,M',A',k1,k2,k3⟩
 · rintro u s1 HST HX1 e w M1 A1 HEQ HR1 HE1 HE2 HA1 HA2
   obtain rfl:=HEQ
   have HS1:=hiD (HS.out.step HE1.out (fun f=>f))
   have HF1:=hiD (HF.out.ext HE1.out HA1.out)
   have HFU:=hiD (step_ok HST.out)
   have c0:=HS1.out.blk.cell (i:=0) rfl
   obtain ⟨cs,hcs⟩:∃ cs,cs=[Value.int .i64 5,.int .i64 a,.string ⟨#[]⟩,.pointer none,.pointer (some ⟨xg,0,none⟩),.slice pa t.length pc,.slice none 0 0]:=⟨_,rfl⟩
   have HSC:Hid (Sx W w P M1 fm W.heap.size cs):=hiD (by rw [hcs];exact HS1.out)
   have HCS:=hiD hcs
   have HN1:=hiD (show n+s1.fuel≤N by have h1:=HNN.out.1;have h2:=HFU.out;omega)
   clear HX HC HST HFU HVv hcs
   go_wp2_with fail
   clear c0 HS1
   go_loopw [] (fun wr=>∃ k s' F' M' A' n',k≤f∧Hid (whileR L k s' F' v t=some r)∧Hid (RAt wr b mb L P M' A' s')∧Hid (FrAt wr P M' A' fm n' F')∧Hid (n'+s'.fuel≤N)∧Hid (Ext (·=fm) M M' W wr)∧Hid (A <+: A')∧Hid (Sx W wr P M' fm W.heap.size cs)) (fun wr=>(intOf ((wr.cell? ⟨b,2,none⟩).getD (.int .i64 0))).toNat)
   case atStart=>exact ⟨f,s1,F,M1,A1,n,Nat.le_refl _,HX1,HR1,HF1,HN1,HE2,HA2,HSC⟩
   case round =>
    clear HX1 HR1 HF1 HN1 HE2 HA2 HSC HR HF HE HA HS HE1 HA1
    obtain ⟨k,s2,F2,M2,A2,n2,hk,HX,HR2,HF2,HN2,HE2,HA2,HS2⟩:=hrel
    have hfu:(intOf ((wr.cell? ⟨b,2,none⟩).getD (.int .i64 0))).toNat=s2.fuel:=fuel_cell HR2.out
    have HFU:=hiD hfu
    cases k with
    | zero=>simp only [whileR] at HX;cases HX.out
    | succ k =>
      simp only [whileR] at HX
      have hcs:=HCS.out
      subst hcs
      have c4:=HS2.out.blk.cell (i:=4) rfl
      have hmP:Mods (fun k=>¬ P k) W wr:=HE2.out.mods.mono fun k _ hk=>hk.elim (fun e=>by rw [e];exact HFM.out) (HR0.out.off k)
      have HV1:=ex_far HXV.out hmP (fun _ k=>k)
      have HCV:=hiD (fun y hy=>HIH.out k (by omega) v b mb P None M2 A2 s2 F2 fm n2 wr _ y HR2.out HF2.out HG.out.1 HV1 hy)
      have HLS:=hiD ((less_all L k).1 s2 F2 v)
      have HKF:=hiD hk
      clear hfu HV1 hmP hk
      go_wp2_with fail
      go_at_call 120
      refine rbindT_of (T:=None) (fun _ f=>f.elim) HE2 HA2 HX HCV.out ?_ ?_
      · rintro g s' rfl older w H
        obtain ⟨M',A',k1,k2,k3⟩:=H.out
        go_wp2
        exact ⟨rfl,⟨older,rfl⟩,M',A',k1,k2,k3⟩
      · rintro y s5 HZ HX2 e w5 M5 A5 ⟨yv,rfl,hyv⟩ HR5 HE5 HE6 HA5 HA6
        have HL2:=hiD (HLS.out _ HZ.out)
        have HS5:=hiD (HS2.out.step HE5.out (fun f=>f))
        have HF5:=hiD (HF2.out.ext HE5.out HA5.out)
        have HYV:=hiD hyv
        obtain ⟨kk,av,an,rfl,-,-⟩:=hyv.len HR5.out
        obtain rfl:kk=y.n:=by
         rcases HYV.out with ⟨-,h⟩|⟨_,_,_,-,-,h⟩ <;> simp at h <;> exact h.1
        have hfl:=fld_n y.n (.slice av an an)
        clear hyv HLS HZ HX HCV HYV c4
        have HN5:=hiD (show n2+s5.fuel≤N by have h1:=HN2.out;have h2:s5.fuel≤s2.fuel:=HL2.out;omega)
        by_cases hz:y.n=0
        · have hz1:(y.n != 0)=false:=by simp [hz]
          have hX3:=HX2.out
          simp only [hz,ne_eq,not_true_eq_false,if_false] at hX3
          obtain rfl:=(Option.some.inj hX3).symm
          clear hz HX2 hX3
          go_wp2_with fail
          go_end0
          exact ⟨rfl,M5,A5,n2,HF5.out,HN5.out,HR5.out,HE6.out,HA6.out⟩
        · have hz1:(y.n != 0)=true:=by simp [hz]
          have HX3:Hid (bindR (blockR L k s5 F2 t) (fun F s=>bindR (stepR s) fun _ s=>whileR L k s F v t)=some r):=hiD (by have:=HX2.out;simpa [hz] using this)
          have hmP5:Mods (fun k=>¬ P k) W w5:=HE6.out.mods.mono fun k _ hk=>hk.elim (fun e=>by rw [e];exact HFM.out) (HR0.out.off k)
          have HMP:=hiD hmP5
          have c5:=HS5.out.blk.cell (i:=5) rfl
          have HCB:=hiD (fun y hy=>HIB.out k (by have:=HKF.out;omega) t (.slice pa t.length pc) vp b mb P M5 A5 s5 F2 fm n2 N w5 y HR5.out HF5.out HN5.out HNN.out.2 HG.out.2 (HBB.out.1.mods HMP.out (fun _ _ k=>k)) (StsAt.modsTo HMP.out (fun _ _ k=>k) _ _ HBB.out.2) hy)
          have HLB:=hiD ((less_all L k).2.2.2.1 s5 F2 t)
          clear hz HX2 hmP5
          go_wp2_with fail
          go_at_call 75
          refine rbindF_of HE6 HA6 HX3 HCB.out ?_ ?_
          · rintro g s' rfl older w H
            obtain ⟨M',A',k1,k2,k3⟩:=H.out
            go_wp2
            exact ⟨rfl,⟨older,rfl⟩,M',A',k1,k2,k3⟩
          · rintro G s6 HZ6 HX4 w6 M6 A6 n6 HF6 HN6 HR6 HE7 HE8 HA7 HA8
            have HL6:=hiD (HLB.out _ HZ6.out)
            have HS6:=hiD (HS5.out.step HE7.out HS5.out.far)
            have HCS6:=hiD (fun y hy=>step_any None b mb L P M6 A6 s6 w6 y HR6.out hy)
            clear HX3 HCB HLB HZ6 c5 hfl
            go_wp2_with fail
            go_at_call 119
            refine rbindT_of (T:=None) (fun _ f=>f.elim) HE8 HA8 HX4 HCS6.out ?_ ?_
            · rintro g s' rfl older w H
              obtain ⟨M',A',k1,k2,k3⟩:=H.out
              go_wp2
              exact ⟨rfl,⟨older,rfl⟩,M',A',k1,k2,k3⟩
            · rintro u7 s7 HST7 HX7 e w7 M7 A7 HEQ7 HR7 HE9 HE10 HA9 HA10
              obtain rfl:=HEQ7
              have HFU7:=hiD (step_ok HST7.out)
              have HS7:=hiD (HS6.out.step HE9.out (fun f=>f))
              have HF7:=hiD (HF6.out.ext HE9.out HA9.out)
              have hfu7:=fuel_cell HR7.out
              have HFC:=hiD hfu7
              clear HX4 HCS6 HST7 hfu7
              go_wp2_with fail
              refine ⟨⟨k,s7,G,M7,A7,n6,by have:=HKF.out;omega,HX7,HR7,HF7,hiD ?_,HE10,HA10,HS7⟩,?_⟩
              · have h1:=HN6.out
                have h2:=HFU7.out
                omega
              · rw [HFC.out,HFU.out]
                have h1:s5.fuel≤s2.fuel:=HL2.out
                have h2:s6.fuel≤s5.fuel:=HL6.out
                have h3:=HFU7.out
                omega
end Go.Proofs.YtnicpmoanjddbaaGreatDoor.TreeP

/- What the document's runner calls at the bottom: spend, enter, in, input, print, item. Conditions: its world lies. The document's runner makes an array; how it ends. Conditions: its world lies. Plainly: all numbers of a run have 64 bits. No program in sight. No conditions but that what is given, and the program's own numbers, have. -/
import Derived.Test.YtdgedlhefjmcpaaGreatDoorEn24
import Derived.Test.YtdgedlhefjmcpaaGreatDoorEn07
import Derived.Laws.MakeOwn
import Derived.Deep.RegionLaw
import Derived.Deep.RegionWith
import Derived.Test.YtdgedlhefjmcpaaGreatDoorEn19
namespace Go.Proofs.YtdgedlhefjmcpaaGreatDoor.TreeP.R
open Go.RowKit Go.Proofs.YtdgedlhefjmcpaaGreatDoor.Wo Go.Proofs.YtdgedlhefjmcpaaGreatDoor.TreeP
set_option linter.unusedVariables false
set_option linter.unusedSimpArgs false
theorem sl_form {W:World} {B:Nat} {e:TypeId} {size n:Nat} {v:Value} {vs:List Value} (h:W.ownsRow B e size v n vs):∃ oa oc,v=.slice oa n oc:=by
 rcases h.2 with ⟨hv,h0⟩|⟨g,cap,cur,hv,_⟩
 · exact ⟨_,_,by rw [hv,h0]⟩
 · exact ⟨_,_,hv⟩
set_option maxRecDepth 100000 in
theorem spend_any (T:Nat→Prop) (b:Nat) (P M:Nat→Prop) (A:List (Nat×Nat)) (s:RS) (W:World) (r:Except Sig Unit×RS) (h:WAt W b P M A s) (hr:stepR s=some r) :
 Calls Tryz.prog 125 #[.pointer (some ⟨b,0,none⟩)] W (Zan W b P T M A (fun _ _ e=>e=.returned (.bool true)) (fun e=>e=.returned (.bool false)) r):=by
 obtain ⟨av,iv,k,ov,hb,⟨hk1,hk2,hk3⟩,-⟩:=h.blk
 have c2:W.cell? ⟨b,2,none⟩=some (.int .i64 k):=hb.cell rfl
 have f2:W.frozen? ⟨b,2,none⟩=false:=hb.free 2
 have H:=hiD h
 unfold stepR at hr
 by_cases h0:k≤0
 · rw [if_pos (by omega)] at hr
   obtain rfl:=(Option.some.inj hr).symm
   clear hb hr hk1 hk2 hk3 h
   go_enter Tryz.func125,Tryz.ntmps125
   go_wp2_with fail
   go_at_call 124
   refine (ends_any 6 (by decide) b P M A s W H.out).mono ?_
   rintro e w ⟨rfl,h1,h2⟩
   go_wp2_with fail
   go_ret
   unfold Zan
   exact ⟨rfl,M,h1,h2 T⟩
 · rw [if_neg (by omega)] at hr
   obtain rfl:=(Option.some.inj hr).symm
   have hs1:¬ (k-1 < -9223372036854775808):=by omega
   have HK:=hiD (And.intro hk1 (And.intro hk2 hk3))
   have H0:=hiD h0
   have hw:IntKind.i64.wrap (k-1)=k-1:=IntWalk.i64_in _ (by omega)
   clear hb hr hk1 h
   go_enter Tryz.func125,Tryz.ntmps125
   go_wp2_with fail
   go_ret
   have h3:=H.out.setFuel (k-1) (by have:=HK.out;have:=H0.out;omega)
   rw [show (k-1).toNat=s.fuel-1 by have:=HK.out;have:=H0.out;omega] at h3
   unfold Zan
   exact ⟨M,A,rfl,h3,H.out.ext _ _ _,List.prefix_refl _⟩
set_option maxRecDepth 100000 in
theorem enter_no (T:Nat→Prop) (b:Nat) (P M:Nat→Prop) (A:List (Nat×Nat)) (s:RS) (W:World) (h:WAt W b P M A s) (h40:s.calls=40) :
 Calls Tryz.prog 93 #[.pointer (some ⟨b,0,none⟩)] W fun e w=>e=.returned (.bool false)∧WEnd w b P M 5 s.out∧Ext T M M W w:=by
 obtain ⟨av,iv,k,ov,hb,-⟩:=h.blk
 rw [h40] at hb
 have c3:W.cell? ⟨b,3,none⟩=some (.int .i64 40):=hb.cell rfl
 have H:=hiD h
 clear hb h h40
 go_enter Tryz.func93,Tryz.ntmps93
 go_wp2_with fail
 go_at_call 124
 refine (ends_any 5 (by decide) b P M A s W H.out).mono ?_
 rintro e w ⟨rfl,h1,h2⟩
 go_wp2_with fail
 go_ret
 exact ⟨rfl,h1,h2 T⟩
set_option maxRecDepth 100000 in
theorem enter_yes (T:Nat→Prop) (b:Nat) (P M:Nat→Prop) (A:List (Nat×Nat)) (s:RS) (W:World) (h:WAt W b P M A s) (h40:s.calls≠40) :
 Calls Tryz.prog 93 #[.pointer (some ⟨b,0,none⟩)] W fun e w=>e=.returned (.bool true)∧WAt w b P M A { s with calls:=s.calls+1 }∧Ext T M M W w:=by
 obtain ⟨av,iv,k,ov,hb,-⟩:=h.blk
 have hc:=h.calls
 obtain ⟨c,hce⟩:∃ c,c=s.calls:=⟨_,rfl⟩
 have c3:W.cell? ⟨b,3,none⟩=some (.int .i64 s.calls):=hb.cell rfl
 have f3:W.frozen? ⟨b,3,none⟩=false:=hb.free 3
 rw [← hce] at c3 hc h40
 have hlt:¬ (40:Int)≤(c:Int):=by omega
 have H:=hiD h
 have HC:=hiD hce
 have hw:IntKind.i64.wrap ((c:Int)+1)=((c+1:Nat):Int):=by rw [IntWalk.i64_in _ (by omega)];omega
 have HL:=hiD (show c+1≤40 by omega)
 clear hb h hce hc h40
 go_enter Tryz.func93,Tryz.ntmps93
 go_wp2_with fail
 go_ret
 have h3:=H.out.setCalls (c+1) HL.out
 rw [HC.out] at h3 ⊢
 rw [show ((s.calls+1:Nat):Int)=(s.calls:Int)+1 by omega] at h3
 exact ⟨rfl,h3,H.out.ext _ _ _⟩
set_option maxRecDepth 100000 in
theorem in_any (n lo hi:Int) (W:World) :
 Calls Tryz.prog 169 #[.int .i64 n,.int .i64 lo,.int .i64 hi] W fun e w=>e=.returned (.bool (decide (lo≤n∧n≤hi)))∧W=w:=by
 by_cases h1:lo≤n <;> by_cases h2:n≤hi
 all_goals
  first
   | rw [show decide (lo≤n∧n≤hi)=true from decide_eq_true ⟨h1,h2⟩]
   | rw [show decide (lo≤n∧n≤hi)=false from decide_eq_false (fun k=>h1 k.1)]
   | rw [show decide (lo≤n∧n≤hi)=false from decide_eq_false (fun k=>h2 k.2)]
  first|(have d1:decide (lo≤n)=true:=decide_eq_true h1)|(have d1:decide (lo≤n)=false:=decide_eq_false h1)
  first|(have d2:decide (n≤hi)=true:=decide_eq_true h2)|(have d2:decide (n≤hi)=false:=decide_eq_false h2)
  go_enter Tryz.func169,Tryz.ntmps169
  go_wp2_with fail
  go_ret
  exact ⟨rfl,rfl⟩
theorem WAt.taken {W:World} {b:Nat} {P M:Nat→Prop} {A:List (Nat×Nat)} {s:RS} (h:WAt W b P M A s) (r:List Int) (iv:Value) (hi:TreeP.InAt W (fun k=>¬ P k) iv r):WAt (W.setCell ⟨b,1,none⟩ iv) b P M A { s with inp:=r } :=
 h.own (mods_put _ _ _ _) rfl rfl h.calls (fun av iv' k ov h1 h2 h3=>⟨iv,k,h1.set 1 _,h2,hi⟩)
set_option maxRecDepth 100000 in
theorem input_none (b:Nat) (P M:Nat→Prop) (A:List (Nat×Nat)) (s:RS) (W:World) (h:WAt W b P M A s) (hin:s.inp=[]) :
 Calls Tryz.prog 168 #[.pointer (some ⟨b,0,none⟩)] W fun e w=>e=.returned (.int .i64 0)∧W=w:=by
 obtain ⟨av,iv,k,ov,hb,-,⟨ia,il,ic,rfl,hn,hc,hmax,hcell⟩,-⟩:=h.blk
 rw [hin] at hn
 simp only [List.length_nil] at hn
 subst hn
 have c1:W.cell? ⟨b,1,none⟩=some (.slice ia 0 ic):=hb.cell rfl
 clear hb h hin hcell hc hmax
 go_enter Tryz.func168,Tryz.ntmps168
 go_wp2_with fail
 go_ret
 exact ⟨rfl,rfl⟩
set_option maxRecDepth 100000 in
theorem input_some (T:Nat→Prop) (b:Nat) (P M:Nat→Prop) (A:List (Nat×Nat)) (s:RS) (x:Int) (t:List Int) (W:World) (h:WAt W b P M A s) (hin:s.inp=x::t) :
 Calls Tryz.prog 168 #[.pointer (some ⟨b,0,none⟩)] W fun e w=>e=.returned (.int .i64 x)∧WAt w b P M A { s with inp:=t }∧Ext T M M W w:=by
 obtain ⟨av,iv,k,ov,hb,-,⟨ia,il,ic,rfl,hn,hc,hmax,hcell⟩,-⟩:=h.blk
 rw [hin] at hn hcell
 obtain ⟨gi,oi,rfl,hgi,hci⟩:=hcell 0 x rfl
 have hgi:P gi:=Classical.not_not.1 hgi
 simp only [List.length_cons] at hn
 obtain ⟨m,hm⟩:∃ m,m=t.length:=⟨_,rfl⟩
 rw [← hm] at hn
 subst hn
 have c1:W.cell? ⟨b,1,none⟩=some (.slice (some ⟨gi,oi,none⟩) (m+1) ic):=hb.cell rfl
 have f1:W.frozen? ⟨b,1,none⟩=false:=hb.free 1
 have HI:Hid (TreeP.InAt W (fun k=>¬ P k) (.slice (some ⟨gi,oi+1,none⟩) m (ic-1)) t):=hiD ⟨_,_,_,rfl,hm,by omega,by omega,fun i x hx=>by
  obtain ⟨g2,o2,e1,e2,e3⟩:=hcell (i+1) x hx
  simp only [Option.some.injEq,Addr.mk.injEq,and_true] at e1
  obtain ⟨rfl,rfl⟩:=e1
  exact ⟨_,_,rfl,e2,by have:oi+1+i=oi+(i+1):=by omega
                       rw [this];exact e3⟩⟩
 have hs1:(0:Int)<(m:Int)+1:=by omega
 have hs2:(((m+1:Nat):Int)==0)=false:=by simp;omega
 have hs3:((m:Int)+1==0)=false:=by simp;omega
 simp only [Nat.add_zero] at hci
 have H:=hiD h
 have HT:=hiD hm
 have HC:=hiD (And.intro hc hmax)
 clear hb h hin hcell hm
 go_enter Tryz.func168,Tryz.ntmps168
 go_wp2_with fail
 all_goals
  try go_ret
 all_goals
  first
  | exact ⟨rfl,H.out.taken t _ HI.out,H.out.ext _ _ _⟩
  | (refine ⟨rfl,H.out.taken t (.slice (some ⟨gi,oi,none⟩) m 0) ?_,H.out.ext _ _ _⟩
     have h1:=HC.out.1
     have h2:=HT.out
     obtain rfl:m=0:=by omega
     obtain rfl:t=[]:=List.eq_nil_of_length_eq_zero h2.symm
     exact ⟨_,_,_,rfl,rfl,Nat.le_refl _,Nat.zero_le _,fun i x hx=>by simp at hx⟩)
theorem infoI:(Tryz.prog.info? 2).map (fun i=>(i.zero,i.size,i.bytes))=some (some (.int .i64 0),1,8):=by kernel_rfl
theorem WAt.told {w6 w7:World} {b:Nat} {P M:Nat→Prop} {A:List (Nat×Nat)} {s:RS} (h:WAt w6 b P M A s) {ov v':Value} (hov:w6.cell? ⟨b,6,none⟩=some ov) (x:Int) (hn:s.out.length<200) (hown:w7.ownsRow 0 2 1 v' (s.out.length+1) (s.out.map (Value.int .i64)++[.int .i64 x])) (hg:Grew w6 w7 ov v') :
 WAt (w7.setCell ⟨b,6,none⟩ v') b P (fun k=>M k∨v'.ownBlock=some k) A { s with out:=s.out++[x] }∧Ext None M (fun k=>M k∨v'.ownBlock=some k) w6 (w7.setCell ⟨b,6,none⟩ v'):=by
 obtain ⟨av,iv,k0,ov2,h1,h2,h3,h4,h5,h6,h7,h8⟩:=h.blk
 obtain rfl:ov2=ov:=by
  have:=h1.cell (i:=6) (v:=ov2) rfl
  rw [hov] at this
  exact (Option.some.inj this).symm
 have hm7:Mods (fun k=>ov2.ownBlock=some k) w6 w7:=hg.mods
 have hm8:Mods (·=b) w7 (w7.setCell ⟨b,6,none⟩ v'):=mods_put _ _ _ _
 have hb6:b<w6.heap.size:=h.old b h.has
 have hm68:Mods (fun k=>ov2.ownBlock=some k∨k=b) w6 (w7.setCell ⟨b,6,none⟩ v'):=(hm7.mono fun _ _ hk=>Or.inl hk).trans (hm8.mono fun _ _ hk=>Or.inr hk)
 have hMP:∀ k,(ov2.ownBlock=some k∨k=b)→M k:=fun k hk=>hk.elim (fun e=>(h5 k e).1) (fun e=>by rw [e];exact h.has)
 have hm68P:Mods (fun k=>¬ P k) w6 (w7.setCell ⟨b,6,none⟩ v'):=hm68.mono fun k _ hk=>h.off k (hMP k hk)
 have hloc:∀ k,v'.ownBlock=some k→ov2.ownBlock=some k∨k=w6.heap.size:=fun k hk=>by
  rcases hg.loc with e|e
  · exact Or.inl (by rw [← e];exact hk)
  · rw [e] at hk
    exact Or.inr (Option.some.inj hk).symm
 have hne:∀ k,v'.ownBlock=some k→k≠b:=fun k hk=>by
  rcases hloc k hk with e|e
  · exact (h5 k e).2.1
  · omega
 have hAk:∀ k,v'.ownBlock=some k→∀ g n,(g,n)∈A→g≠k:=fun k hk g m hgm=>by
  rcases hloc k hk with e|e
  · exact (h5 k e).2.2 g m hgm
  · have:=h.old g (h.mine g m hgm).1
    omega
 have hb7:Blk w7 b [av,iv,.int .i64 k0,.int .i64 s.calls,.int .i64 0,.int .i64 0,ov2] 129:=h1.mods hm7 (fun e=>(h5 b e).2.1 rfl)
 refine ⟨⟨⟨av,iv,k0,v',hb7.set 6 v',h2,h3.mods hm68P (fun _ _ k=>k),?_,fun k hk=>⟨Or.inr hk,hne k hk,hAk k hk⟩,?_,fun k hk=>⟨Or.inl (h7 k hk).1,(h7 k hk).2⟩,?_⟩,Or.inl h.has,h.arrs,?_,fun g m hgm=>⟨Or.inl (h.mine g m hgm).1,(h.mine g m hgm).2⟩,h.apart,?_,?_,fun k hk=>Nat.lt_of_lt_of_le (h.given k hk) hm68.size,?_,h.calls⟩,?_⟩
 · have:=hm8.ownsRow hown (fun k hk=>hne k hk)
   simpa using this
 · exact hm68.ownsRow h6 (fun k hk f=>f.elim (h8 k hk) (fun e=>(h7 k hk).2.1 e))
 · intro k hk e
   rcases hloc k e with e|e
   · exact h8 k hk e
   · have:=h.old k (h7 k hk).1
     omega
 · intro i l hl
   obtain ⟨g,e1,e2,e3⟩:=h.arr i l hl
   refine ⟨g,e1,e2.mods hm68 ?_,e3⟩
   rintro (e|e)
   · exact (h5 g e).2.2 g _ (List.mem_of_getElem? e1) rfl
   · exact (h.mine g _ (List.mem_of_getElem? e1)).2 e
 · intro k hk
   have hsz:(w7.setCell ⟨b,6,none⟩ v').heap.size=w7.heap.size:=by simp [World.setCell]
   rw [hsz]
   rcases hk with hk|hk
   · exact Nat.lt_of_lt_of_le (h.old k hk) hm7.size
   · exact (hown.lt k hk).2
 · rintro k (hk|hk) hp
   · exact h.off k hk hp
   · rcases hloc k hk with e|e
     · exact h.off k (h5 k e).1 hp
     · have:=h.given k hp
       omega
 · simp only [List.length_append,List.length_singleton]
   omega
 · refine ⟨hm68.mono fun k _ hk=>Or.inr (hMP k hk),fun k hk hm=>?_⟩
   rcases hm with hm|hm
   · exact hm
   · rcases hloc k hm with e|e
     · exact (h5 k e).1
     · omega
theorem WAt.outAt {w6 w7:World} {b:Nat} {P M:Nat→Prop} {A:List (Nat×Nat)} {s:RS} (h:WAt w6 b P M A s) {ov v':Value} (hov:w6.cell? ⟨b,6,none⟩=some ov) (hg:Grew w6 w7 ov v'):w7.cell? ⟨b,6,none⟩=some ov∧w7.frozen? ⟨b,6,none⟩=false:=by
 obtain ⟨av,iv,k0,ov2,h1,h2,h3,h4,h5,h6,h7,h8⟩:=h.blk
 obtain rfl:ov2=ov:=by
  have:=h1.cell (i:=6) (v:=ov2) rfl
  rw [hov] at this
  exact (Option.some.inj this).symm
 have hb7:Blk w7 b [av,iv,.int .i64 k0,.int .i64 s.calls,.int .i64 0,.int .i64 0,ov2] 129:=h1.mods hg.mods (fun e=>(h5 b e).2.1 rfl)
 exact ⟨hb7.cell rfl,hb7.free 6⟩
set_option maxRecDepth 100000 in
theorem print_any (T:Nat→Prop) (b:Nat) (P M:Nat→Prop) (A:List (Nat×Nat)) (s:RS) (x:Int) (W:World) (h:WAt W b P M A s) :
 Calls Tryz.prog 148 #[.pointer (some ⟨b,0,none⟩),.int .i64 x] W (Zan W b P T M A (fun (_:Unit) _ e=>e=.returned (.tuple #[])) (fun e=>e=.returned (.tuple #[])) (if s.out.length≥200 then (.error (.stop 7),s) else (.ok (),{ s with out:=s.out++[x] }))):=by
 obtain ⟨i0,hi,hz0,hz1,hz2⟩:=info_parts infoI
 have HI:=hiD (And.intro hi (And.intro hz0 (And.intro hz1 hz2)))
 obtain ⟨av,iv,k,ov,hb,-,-,hown,-⟩:=h.blk
 obtain ⟨oa,oc,rfl⟩:=sl_form hown
 have c6:W.cell? ⟨b,6,none⟩=some (.slice oa s.out.length oc):=hb.cell rfl
 have f6:=hb.free 6
 have hbl:=h.old b h.has
 have H:=hiD h
 obtain ⟨on,hon⟩:∃ on,on=s.out.length:=⟨_,rfl⟩
 have HON:=hiD hon
 rw [← hon] at c6 hown
 have HOWN:=hiD hown
 clear hb hown h hi hz0 hz1 hz2
 by_cases hz:on≥200
 · rw [if_pos (by rw [← hon];exact hz)]
   have hz1:(200:Int)≤(on:Int):=by omega
   clear hz hon
   go_enter Tryz.func148,Tryz.ntmps148
   go_wp2_with fail
   go_at_call 124
   refine (ends_any 7 (by decide) b P M A s W H.out).mono ?_
   rintro e w ⟨rfl,h1,h2⟩
   go_wp2
   go_end0
   unfold Zan
   exact ⟨rfl,M,h1,h2 T⟩
 · rw [if_neg (by rw [← hon];exact hz)]
   have hz1:¬ (200:Int)≤(on:Int):=by omega
   have HZ:=hiD hz
   have HOA:=hiD (HOWN.out.alloc (.cells #[.int .i64 x] 2))
   have HMA:Hid (Mods None W (W.alloc (.cells #[.int .i64 x] 2))):=hiD ((Mods.refl _ _).alloc _)
   have hbn:b≠W.heap.size:=by omega
   have HCA:=hiD (HMA.out.cellOf c6 (fun f=>f))
   clear hz hon
   go_enter Tryz.func148,Tryz.ntmps148
   go_wp2_with (at_builtin;refine wpList_append_own_at _ rfl _ _ 46 rfl 0 2 i0 _ 1 8 Tryz.underlying46 HI.out.1 HI.out.2.1 HI.out.2.2.1 HI.out.2.2.2 rfl (by decide) (.slice oa on oc) on (s.out.map (Value.int .i64)) rfl HOA.out ⟨W.heap.size,0,none⟩ 1 1 [.int .i64 x] rfl rfl (cell_one_new _ _ _) (ints_oneCell .i64 [x]) (by have:=HZ.out;unfold maxLen;omega) (by have:=HZ.out;omega) (Nat.zero_le _) ?_;intro v' w7 hown hgrow hnil hloc;have HOW:=hiD hown;have HGR:=hiD (grew_of hgrow hloc);clear hown hgrow hnil hloc;refine Hid.out ?_)
   refine hiD ?_
   obtain ⟨qa,qc,rfl⟩:=sl_form HOW.out
   have hsz:s.out.length<200:=by have h1:=HZ.out;have h2:=HON.out;omega
   obtain ⟨hR8,hE8⟩:=(H.out.quiet HMA.out).told HCA.out x hsz (by rw [← HON.out];exact HOW.out) HGR.out
   have HR8:=hiD hR8
   have HE8:=hiD ((Ext.quiet (T:=None) HMA.out).trans hE8)
   obtain ⟨c74,z74⟩:=(H.out.quiet HMA.out).outAt HCA.out HGR.out
   clear hR8 hE8 hsz c6 f6 hbn
   go_wp2_with fail
   go_end0
   unfold Zan
   exact ⟨_,A,rfl,HR8.out,HE8.out.more (fun _ _ f=>f.elim),List.prefix_refl _⟩
theorem row_pt {W:World} {B:Nat} {e:TypeId} {size n:Nat} {x:Value} {vs:List Value} (h:W.ownsRow B e size x n vs) (h0:0<n) :
 ∃ q c,x=.slice (some ⟨q,0,none⟩) n c∧n≤c∧c≤9223372036854775807∧∀ j u,vs[j]?=some u→W.cell? ⟨q,j,none⟩=some u:=by
 rcases h.2 with ⟨hv,hz⟩|⟨g2,cap2,cur2,hv,_,_,h3,h4,_⟩
 · omega
 · refine ⟨g2,cap2,hv,h3,by unfold maxLen at h4;omega,fun j c hj=>?_⟩
   rw [hv] at h
   have:=h.cells (g:=g2) rfl j c hj
   cases j with
   | zero=>exact this
   | succ j=>simpa [Addr.add] using this
theorem WAt.place {W:World} {b:Nat} {P M:Nat→Prop} {A:List (Nat×Nat)} {s:RS} (h:WAt W b P M A s) {i:Nat} {l:List Int} (hl:s.arrs[i]?=some l) :
 ∃ q c g,W.cell? ⟨b,0,none⟩=some (.slice (some ⟨q,0,none⟩) (A.length+1) c)∧A.length+1≤c∧c≤9223372036854775807∧i<A.length∧W.cell? ⟨q,i+1,none⟩=some (.slice (some ⟨g,0,none⟩) l.length l.length)∧A[i]?=some (g,l.length)∧Blk W g (l.map (.int .i64)) 2∧l.length≤40:=by
 obtain ⟨av,iv,k,ov,hb,-,-,-,-,h6,-⟩:=h.blk
 obtain ⟨q,c,rfl,h1,h2,h3⟩:=row_pt h6 (by omega)
 obtain ⟨g,e1,e2,e3⟩:=h.arr i l hl
 have hi:i<A.length:=(List.getElem?_eq_some_iff.1 e1).1
 refine ⟨q,c,g,hb.cell rfl,h1,h2,hi,?_,e1,e2,e3⟩
 have:=h3 (i+1) (arrV (g,l.length)) (by rw [List.getElem?_cons_succ,List.getElem?_map,e1];rfl)
 exact this
set_option maxRecDepth 100000 in
theorem item_out (T:Nat→Prop) (b:Nat) (P M:Nat→Prop) (A:List (Nat×Nat)) (s:RS) (i j:Nat) (l:List Int) (n:Int) (W:World) (h:WAt W b P M A s) (hl:s.arrs[i]?=some l) (hj:j=i+1) (hn:n<0∨n≥l.length) :
 Calls Tryz.prog 147 #[.pointer (some ⟨b,0,none⟩),.int .i64 j,.int .i64 n] W fun e w=>e=.returned (.pointer none)∧WEnd w b P M 3 s.out∧Ext T M M W w:=by
 obtain ⟨q,c,g,c0,h1,h2,h3,h4,-,-,h40⟩:=h.place hl
 obtain ⟨m,hm⟩:∃ m,m=A.length+1:=⟨_,rfl⟩
 obtain ⟨ln,hln⟩:∃ ln,ln=l.length:=⟨_,rfl⟩
 rw [← hm] at c0 h1
 rw [← hj] at h4
 rw [← hln] at h4 h40 hn
 have hjm:(j:Int)<(m:Int):=by omega
 have hj0:(0:Int)≤(j:Int):=by omega
 have hw:IntKind.i64.wrap ((ln:Int)-1)=(ln:Int)-1:=IntWalk.i64_in _ (by omega)
 have HD:Hid (decide (0≤n∧n≤(ln:Int)-1)=false):=hiD (decide_eq_false (by omega))
 have H:=hiD h
 clear h hl hj hn hm hln h3 h40
 go_enter Tryz.func147,Tryz.ntmps147
 go_wp2_with fail
 go_at_call 169
 refine (in_any _ _ _ _).mono ?_
 rintro e w ⟨rfl,rfl⟩
 rw [HD.out]
 go_wp2_with fail
 go_at_call 124
 refine (ends_any 3 (by decide) b P M A s W H.out).mono ?_
 rintro e w ⟨rfl,k1,k2⟩
 go_wp2
 go_ret
 exact ⟨rfl,k1,k2 T⟩
set_option maxRecDepth 100000 in
theorem item_in (b:Nat) (P M:Nat→Prop) (A:List (Nat×Nat)) (s:RS) (i j:Nat) (l:List Int) (n:Int) (W:World) (h:WAt W b P M A s) (hl:s.arrs[i]?=some l) (hj:j=i+1) (hn:0≤n∧n<l.length) :
 Calls Tryz.prog 147 #[.pointer (some ⟨b,0,none⟩),.int .i64 j,.int .i64 n] W fun e w=>(∃ g,A[i]?=some (g,l.length)∧e=.returned (.pointer (some ⟨g,n.toNat,none⟩)))∧W=w:=by
 obtain ⟨q,c,g,c0,h1,h2,h3,h4,h5,-,h40⟩:=h.place hl
 obtain ⟨m,hm⟩:∃ m,m=A.length+1:=⟨_,rfl⟩
 obtain ⟨ln,hln⟩:∃ ln,ln=l.length:=⟨_,rfl⟩
 rw [← hm] at c0 h1
 rw [← hj] at h4
 have HA:=hiD h5
 rw [← hln] at h4 h40 hn
 have hjm:(j:Int)<(m:Int):=by omega
 have hj0:(0:Int)≤(j:Int):=by omega
 have hw:IntKind.i64.wrap ((ln:Int)-1)=(ln:Int)-1:=IntWalk.i64_in _ (by omega)
 have HD:Hid (decide (0≤n∧n≤(ln:Int)-1)=true):=hiD (decide_eq_true (by omega))
 obtain ⟨hn0,hn1⟩:=hn
 clear h hl hj hm hln h3 h5
 go_enter Tryz.func147,Tryz.ntmps147
 go_wp2_with fail
 go_at_call 169
 refine (in_any _ _ _ _).mono ?_
 rintro e w ⟨rfl,rfl⟩
 rw [HD.out]
 go_wp2_with fail
 go_ret
 exact ⟨⟨g,HA.out,by simp⟩,rfl⟩
theorem WAt.made {W w6 w7:World} {b:Nat} {P M:Nat→Prop} {A:List (Nat×Nat)} {s:RS} (h:WAt W b P M A s) (hm6:Mods None W w6) (n:Nat) (hn:n≤40) (hsz:W.heap.size<w6.heap.size)
 (hB:Blk w6 W.heap.size ((List.replicate n (0:Int)).map (Value.int .i64)) 2) {av v':Value} (hav:W.cell? ⟨b,0,none⟩=some av)
 (hown:w7.ownsRow 0 46 1 v' (A.length+1+1) ((.slice none 0 0::A.map arrV)++[arrV (W.heap.size,n)])) (hg:Grew w6 w7 av v') :
 WAt (w7.setCell ⟨b,0,none⟩ v') b P (fun k=>M k∨k=W.heap.size∨v'.ownBlock=some k) (A++[(W.heap.size,n)]) { s with arrs:=s.arrs++[List.replicate n 0] }∧Ext None M (fun k=>M k∨k=W.heap.size∨v'.ownBlock=some k) W (w7.setCell ⟨b,0,none⟩ v'):=by
 obtain ⟨av2,iv,k0,ov,h1,h2,h3,h4,h5,h6,h7,h8⟩:=h.blk
 obtain rfl:av2=av:=by
  have:=h1.cell (i:=0) (v:=av2) rfl
  rw [hav] at this
  exact (Option.some.inj this).symm
 have hbs:=h.old b h.has
 have hm7:Mods (fun k=>av2.ownBlock=some k) w6 w7:=hg.mods
 have hm8:Mods (·=b) w7 (w7.setCell ⟨b,0,none⟩ v'):=mods_put _ _ _ _
 have hm:Mods (fun k=>av2.ownBlock=some k∨k=b) W (w7.setCell ⟨b,0,none⟩ v'):=((hm6.mono fun _ _ f=>f.elim).trans (hm7.mono fun _ _ hk=>Or.inl hk)).trans (hm8.mono fun _ _ hk=>Or.inr hk)
 have hMP:∀ k,(av2.ownBlock=some k∨k=b)→M k:=fun k hk=>hk.elim (fun e=>(h7 k e).1) (fun e=>by rw [e];exact h.has)
 have hmP:Mods (fun k=>¬ P k) W (w7.setCell ⟨b,0,none⟩ v'):=hm.mono fun k _ hk=>h.off k (hMP k hk)
 have hloc:∀ k,v'.ownBlock=some k→av2.ownBlock=some k∨k=w6.heap.size:=fun k hk=>by
  rcases hg.loc with e|e
  · exact Or.inl (by rw [← e];exact hk)
  · rw [e] at hk
    exact Or.inr (Option.some.inj hk).symm
 have hne:∀ k,v'.ownBlock=some k→k≠b:=fun k hk=>by
  rcases hloc k hk with e|e
  · exact (h7 k e).2.1
  · omega
 have hB8:Blk (w7.setCell ⟨b,0,none⟩ v') W.heap.size ((List.replicate n (0:Int)).map (Value.int .i64)) 2 :=
  (hB.mods hm7 (fun e=>by have:=h.old _ (h7 _ e).1;omega)).mods hm8 (fun e=>by omega)
 have hs7:w6.heap.size≤w7.heap.size:=hm7.size
 have hs8:(w7.setCell ⟨b,0,none⟩ v').heap.size=w7.heap.size:=by simp [World.setCell]
 refine ⟨⟨⟨v',iv,k0,ov,?_,h2,h3.mods hmP (fun _ _ k=>k),?_,?_,?_,?_,?_⟩,Or.inl h.has,?_,?_,?_,?_,?_,?_,fun k hk=>Nat.lt_of_lt_of_le (h.given k hk) hm.size,h.few,h.calls⟩,?_⟩
 · exact (((h1.mods hm6 (fun f=>f)).mods hm7 (fun e=>(h7 b e).2.1 rfl)).set 0 v')
 · exact hm.ownsRow h4 (fun k hk f=>f.elim (fun e=>h8 k e hk) (fun e=>(h5 k hk).2.1 e))
 · intro k hk
   refine ⟨Or.inl (h5 k hk).1,(h5 k hk).2.1,fun g m hgm=>?_⟩
   rcases List.mem_append.1 hgm with hgm|hgm
   · exact (h5 k hk).2.2 g m hgm
   · simp only [List.mem_singleton,Prod.mk.injEq] at hgm
     have:=h.old k (h5 k hk).1
     omega
 · have:=hm8.ownsRow hown (fun k hk=>hne k hk)
   simpa using this
 · intro k hk
   refine ⟨Or.inr (Or.inr hk),hne k hk,fun g m hgm=>?_⟩
   rcases List.mem_append.1 hgm with hgm|hgm
   · rcases hloc k hk with e|e
     · exact (h7 k e).2.2 g m hgm
     · have:=h.old g (h.mine g m hgm).1
       omega
   · simp only [List.mem_singleton,Prod.mk.injEq] at hgm
     rcases hloc k hk with e|e
     · have:=h.old k (h7 k e).1
       omega
     · omega
 · intro k hk e
   rcases hloc k hk with f|f
   · exact h8 k f e
   · have:=h.old k (h5 k e).1
     omega
 · simp [h.arrs]
 · intro i l hl
   rcases Nat.lt_or_ge i s.arrs.length with hi|hi
   · have hl2:s.arrs[i]?=some l:=by simpa [List.getElem?_append_left hi] using hl
     obtain ⟨g,e1,e2,e3⟩:=h.arr i l hl2
     refine ⟨g,by rw [List.getElem?_append_left (by rw [h.arrs];exact hi)];exact e1,e2.mods hm ?_,e3⟩
     rintro (e|e)
     · exact (h7 g e).2.2 g _ (List.mem_of_getElem? e1) rfl
     · exact (h.mine g _ (List.mem_of_getElem? e1)).2 e
   · simp only [List.getElem?_append_right hi] at hl
     obtain ⟨hi2,hl⟩:=List.getElem?_eq_some_iff.1 hl
     simp only [List.length_singleton] at hi2
     obtain rfl:i=s.arrs.length:=by omega
     simp only [Nat.sub_self,List.getElem_cons_zero] at hl
     subst hl
     refine ⟨W.heap.size,?_,hB8,by simpa using hn⟩
     rw [List.getElem?_append_right (by rw [h.arrs];exact Nat.le_refl _)]
     simp [h.arrs]
 · intro g m hgm
   rcases List.mem_append.1 hgm with hgm|hgm
   · exact ⟨Or.inl (h.mine g m hgm).1,(h.mine g m hgm).2⟩
   · simp only [List.mem_singleton,Prod.mk.injEq] at hgm
     exact ⟨Or.inr (Or.inl hgm.1),by omega⟩
 · refine List.pairwise_append.2 ⟨h.apart,List.pairwise_singleton _ _,?_⟩
   intro x hx y hy
   simp only [List.mem_singleton] at hy
   subst hy
   have:=h.old x.1 (h.mine x.1 x.2 hx).1
   show x.1≠W.heap.size
   omega
 · intro k hk
   rw [hs8]
   rcases hk with hk|hk|hk
   · have:=h.old k hk
     omega
   · omega
   · exact (hown.lt k hk).2
 · rintro k (hk|hk|hk) hp
   · exact h.off k hk hp
   · have:=h.given k hp
     omega
   · rcases hloc k hk with e|e
     · exact h.off k (h7 k e).1 hp
     · have:=h.given k hp
       omega
 · refine ⟨hm.mono fun k _ hk=>Or.inr (hMP k hk),fun k hk hm=>?_⟩
   rcases hm with hm|hm|hm
   · exact hm
   · omega
   · rcases hloc k hm with e|e
     · exact (h7 k e).1
     · omega
theorem WAt.arrsAt {W w6 w7:World} {b:Nat} {P M:Nat→Prop} {A:List (Nat×Nat)} {s:RS} (h:WAt W b P M A s) (hm6:Mods None W w6) {av v':Value} (hav:W.cell? ⟨b,0,none⟩=some av) (hg:Grew w6 w7 av v'):w7.cell? ⟨b,0,none⟩=some av∧w7.frozen? ⟨b,0,none⟩=false:=by
 obtain ⟨av2,iv,k0,ov2,h1,h2,h3,h4,h5,h6,h7,h8⟩:=h.blk
 obtain rfl:av2=av:=by
  have:=h1.cell (i:=0) (v:=av2) rfl
  rw [hav] at this
  exact (Option.some.inj this).symm
 have hb7:=(h1.mods hm6 (fun f=>f)).mods hg.mods (fun e=>(h7 b e).2.1 rfl)
 exact ⟨hb7.cell rfl,hb7.free 0⟩
theorem run_make_row1 {P:Program} (t e:TypeId) (i:TypeInfo) (z:Value) (ht:P.underlying t=some (.slice e)) (hi:P.info? e=some i) (hz:i.zero=some z)
 (kl kc:IntKind) (n:Nat) (hbytes:i.bytes*n≤281474976710656) (h63:n≤9223372036854775807) (w:World) :
 (Instr.makeSlice t (.int kl (n:Int)) (.int kc (n:Int))).run P w=.ok (.slice (some ⟨w.heap.size,0,none⟩) n n) (w.alloc (.cells (madeCells z.cells (n*i.size)) e)):=by
 have hb:(i.bytes:Int)*(n:Int)≤281474976710656:=by
  have h:((i.bytes*n:Nat):Int)≤281474976710656:=by omega
  rwa [Int.natCast_mul] at h
 have hr:=run_make (P:=P) w t e i z ht hi hz kl kc n n (by omega) (by omega) hb (by omega)
 simp only [Int.toNat_natCast] at hr
 exact hr
theorem made_row (n:Nat):madeCells (Value.int .i64 0).cells (n*1)=((List.replicate n (0:Int)).map (Value.int .i64)).toArray:=by
 apply Array.ext
 · simp [madeCells]
 · intro i h1 h2
   simp [madeCells,Value.cells,Nat.mod_one]
theorem infoS:(Tryz.prog.info? 46).map (fun i=>(i.zero,i.size,i.bytes))=some (some (.slice none 0 0),1,24):=by kernel_rfl
theorem one_two (W:World) (o:Obj) (v:Value) (e:TypeId):∀ j u,[v][j]?=some u→((W.alloc o).alloc (.cells #[v] e)).drew.cell? ((⟨W.heap.size+1,0,none⟩:Addr).add j)=some u:=by
 have h:=one_new (W.alloc o) v e
 rw [show (W.alloc o).heap.size=W.heap.size+1 by simp] at h
 exact h
set_option maxRecDepth 100000 in
theorem make_no (T:Nat→Prop) (b:Nat) (P M:Nat→Prop) (A:List (Nat×Nat)) (s:RS) (n:Int) (W:World) (h:WAt W b P M A s) (hn:n<0∨n > 40) :
 Calls Tryz.prog 167 #[.pointer (some ⟨b,0,none⟩),.int .i64 n] W fun e w=>e=.returned (.int .i64 0)∧WEnd w b P M 4 s.out∧Ext T M M W w:=by
 have HD:Hid (decide (0≤n∧n≤40)=false):=hiD (decide_eq_false (by omega))
 have H:=hiD h
 clear h hn
 go_enter Tryz.func167,Tryz.ntmps167
 go_wp2_with fail
 go_at_call 169
 refine (in_any _ _ _ _).mono ?_
 rintro e w ⟨rfl,rfl⟩
 rw [HD.out]
 go_wp2_with fail
 go_at_call 124
 refine (ends_any 4 (by decide) b P M A s W H.out).mono ?_
 rintro e w ⟨rfl,k1,k2⟩
 go_wp2
 go_ret
 exact ⟨rfl,k1,k2 T⟩
set_option maxRecDepth 100000 in
set_option maxHeartbeats 1000000 in
theorem make_yes (T:Nat→Prop) (b:Nat) (P M:Nat→Prop) (A:List (Nat×Nat)) (s:RS) (n:Nat) (W:World) (h:WAt W b P M A s) (hn:n≤40) (hA:A.length≤4000000000000) :
 Calls Tryz.prog 167 #[.pointer (some ⟨b,0,none⟩),.int .i64 n] W fun e w=>e=.returned (.int .i64 ((s.arrs.length:Int)+1))∧∃ M' A',WAt w b P M' A' { s with arrs:=s.arrs++[List.replicate n 0] }∧Ext T M M' W w∧A <+: A':=by
 have HD:Hid (decide (0≤(n:Int)∧(n:Int)≤40)=true):=hiD (decide_eq_true (by omega))
 obtain ⟨i0,hi,hz0,hz1,hz2⟩:=info_parts infoS
 have HI:=hiD (And.intro hi (And.intro hz0 (And.intro hz1 hz2)))
 obtain ⟨i1,hi1,hy0,hy1,hy2⟩:=info_parts infoI
 have hmk:∀ (w:World),(Instr.makeSlice 46 (.int .i64 (n:Int)) (.int .i64 (n:Int))).run Tryz.prog w=.ok (.slice (some ⟨w.heap.size,0,none⟩) n n) (w.alloc (.cells ((List.replicate n (0:Int)).map (Value.int .i64)).toArray 2)):=fun w=>by
  have h:=run_make_row1 (P:=Tryz.prog) 46 2 i1 (.int .i64 0) Tryz.underlying46 hi1 hy0 .i64 .i64 n (by rw [hy2];omega) (by omega) w
  rw [h,hy1,made_row]
 obtain ⟨av,iv,k,ov,hb,-,-,-,-,h6,-⟩:=h.blk
 obtain ⟨q,c,rfl,hc1,hc2,-⟩:=row_pt h6 (by omega)
 obtain ⟨m,hm⟩:∃ m,m=A.length+1:=⟨_,rfl⟩
 rw [← hm] at h6 hb hc1
 have c0:W.cell? ⟨b,0,none⟩=some (.slice (some ⟨q,0,none⟩) m c):=hb.cell rfl
 have f0:=hb.free 0
 have hbl:=h.old b h.has
 have H:=hiD h
 have HO:=hiD h6
 have HMM:=hiD hm
 have HN:=hiD (And.intro hn hA)
 have HC0:=hiD c0
 clear h hn hb h6 hi hz0 hz1 hz2 hi1 hy0 hy1 hy2 hm hA
 go_enter Tryz.func167,Tryz.ntmps167
 go_wp2_with fail
 go_at_call 169
 refine (in_any _ _ _ _).mono ?_
 rintro e w ⟨rfl,rfl⟩
 rw [HD.out]
 go_wp2_with fail
 obtain ⟨Z,hZ⟩:∃ Z,Z=((List.replicate n (0:Int)).map (Value.int .i64)).toArray:=⟨_,rfl⟩
 rw [← hZ] at hmk
 have HZZ:=hiD hZ
 clear hZ
 go_region_law (refine step_append_at rfl (.tmp 14) (.tmp 17) 127 rfl 0 46 i0 _ 1 24 Tryz.underlying127 HI.out.1 HI.out.2.1 HI.out.2.2.1 HI.out.2.2.2 rfl (by decide) (.slice (some ⟨q,0,none⟩) m c) m (.slice none 0 0::A.map arrV) (by simp [Act.eval,Act.put]) ((HO.out.alloc _).alloc _) ⟨W.heap.size+1,0,none⟩ 1 1 [arrV (W.heap.size,n)] (by simp [Act.eval,Act.put]) rfl (one_two _ _ _ _) (fun u hu=>by simp at hu;subst hu;rfl) (by have:=HMM.out;have:=HN.out.2;unfold maxLen;omega) (by have:=HMM.out;have:=HN.out.2;omega) (Nat.zero_le _) ?_;intro v' w7 hown hgrow hloc;have HOW:=hiD hown;have HGR:=hiD (grew_of hgrow hloc);have hm6:=hiD (show Mods None W _ from (((Mods.refl _ _).alloc (.cells Z 2)).alloc (.cells #[arrV (W.heap.size,n)] 46)).drew);obtain ⟨c70,z70⟩:=H.out.arrsAt hm6.out HC0.out HGR.out;clear hown hgrow hloc;obtain ⟨qa,qc,rfl⟩:=sl_form HOW.out)
 all_goals
  have HB6:Hid (Blk (((W.alloc (.cells Z 2)).alloc (.cells #[arrV (W.heap.size,n)] 46)).drew) W.heap.size ((List.replicate n (0:Int)).map (Value.int .i64)) 2):=hiD (by
   have:=((Blk.new W Z 2).alloc (.cells #[arrV (W.heap.size,n)] 46)).drew
   rwa [HZZ.out] at this ⊢)
  obtain ⟨k1,k2⟩:=H.out.made hm6.out n HN.out.1 (by simp;omega) HB6.out HC0.out (by rw [← HMM.out];exact HOW.out) HGR.out
  have K1:=hiD k1
  have K2:=hiD k2
  have HLA:=hiD H.out.arrs
  clear k1 k2 hmk
  go_wp2_with fail
  go_ret
  refine ⟨congrArg (fun x=>Ending.returned (.int .i64 x)) ?_,_,_,K1.out,K2.out.more (fun _ _ f=>f.elim),List.prefix_append _ _⟩
  have h1:=HMM.out
  have h2:=HLA.out
  omega
end Go.Proofs.YtdgedlhefjmcpaaGreatDoor.TreeP.R
namespace Go.Proofs.YtdgedlhefjmcpaaGreatDoor.TreeP
open Go.RowKit Go.Proofs.YtdgedlhefjmcpaaGreatDoor.AluP
set_option linter.unusedVariables false
set_option linter.unusedSimpArgs false
def RsOk (s:RS):Prop:=(∀ x∈s.inp,I64 x)∧∀ l∈s.arrs,l.length≤40∧∀ x∈l,I64 x
def VOk (v:V):Prop:=I64 v.n
def FrOk (F:Fr):Prop:=∀ p∈F,VOk p.2
def Rg {α:Type} (Q:α→Prop) (x:RM α):Prop:=∀ y,x=some y→(∀ a,y.1=.ok a→Q a∧RsOk y.2)∧∀ n,y.1=.error (.ret n)→I64 n∧RsOk y.2
theorem Rg.ok {α:Type} {Q:α→Prop} {a:α} {s:RS} (h:Q a) (hs:RsOk s):Rg Q (okR a s):=by
 intro y hy
 obtain rfl:=(Option.some.inj hy).symm
 exact ⟨fun b hb=>by cases hb;exact ⟨h,hs⟩,fun n hn=>by cases hn⟩
theorem Rg.stop {α:Type} {Q:α→Prop} (w:Int) (s:RS):Rg Q (stopR w s:RM α):=by
 intro y hy
 obtain rfl:=(Option.some.inj hy).symm
 exact ⟨fun b hb=>(by cases hb),fun n hn=>(by cases hn)⟩
theorem Rg.none {α:Type} {Q:α→Prop}:Rg Q (Option.none:RM α):=fun y hy=>by cases hy
theorem Rg.bind {α β:Type} {Q:α→Prop} {R:β→Prop} {x:RM α} {k:α→RS→RM β} (h:Rg Q x) (hk:∀ a s,Q a→RsOk s→Rg R (k a s)):Rg R (bindR x k):=by
 cases x with
 | none=>exact Rg.none
 | some y =>
   obtain ⟨y,t⟩:=y
   obtain ⟨h1,h2⟩:=h _ rfl
   cases y with
   | ok a =>
     obtain ⟨h3,h4⟩:=h1 a rfl
     exact hk a t h3 h4
   | error e =>
     intro z hz
     obtain rfl:=(Option.some.inj hz).symm
     exact ⟨fun b hb=>(by cases hb),fun n hn=>by cases hn;exact h2 n rfl⟩
theorem i64_zero:I64 0:=by unfold I64;omega
theorem FrOk.get:{F:Fr}→FrOk F→(x:List UInt8)→VOk (F.get x)
 | [],h,x=>i64_zero
 | p::r,h,x=>by
   simp only [Fr.get]
   split
   · exact h p List.mem_cons_self
   · exact FrOk.get (fun q hq=>h q (List.mem_cons_of_mem _ hq)) x
theorem FrOk.put:{F:Fr}→FrOk F→(x:List UInt8)→(v:V)→VOk v→FrOk (F.put x v)
 | [],h,x,v,hv=>by
   intro p hp
   simp only [Fr.put,List.mem_singleton] at hp
   subst hp
   exact hv
 | q::r,h,x,v,hv=>by
   simp only [Fr.put]
   split
   · intro p hp
     rcases List.mem_cons.1 hp with rfl|hp
     · exact hv
     · exact h p (List.mem_cons_of_mem _ hp)
   · intro p hp
     rcases List.mem_cons.1 hp with rfl|hp
     · exact h _ List.mem_cons_self
     · exact FrOk.put (fun q hq=>h q (List.mem_cons_of_mem _ hq)) x v hv p hp
theorem FrOk.params:(ps:List (List UInt8×Int))→(vs:List V)→{F:Fr}→FrOk F→(∀ v∈vs,VOk v)→FrOk (bindParams F ps vs)
 | [],vs,F,h,hv=>by simpa [bindParams] using h
 | p::ps,[],F,h,hv=>by simpa [bindParams] using h
 | p::ps,v::vs,F,h,hv=>by
   simp only [bindParams]
   exact FrOk.params ps vs (h.put p.1 v (hv v List.mem_cons_self)) (fun u hu=>hv u (List.mem_cons_of_mem _ hu))
theorem i64_wrap64 (a:Int):I64 (wrap64 a):=by unfold wrap64 I64;omega
theorem i64_oneB (b:Bool):I64 (oneB b):=by unfold oneB I64;split <;> omega
theorem i64_two {op:List UInt8} {a b n:Int} (ha:I64 a) (h:twoP op a b=some n):I64 n:=by
 unfold twoP at h
 repeat' split at h
 all_goals
  first
   | (cases h;done)
   | (obtain rfl:=Option.some.inj h;first|exact i64_wrap64 _|exact i64_oneB _|exact tmod_in _ _ ha)
theorem RsOk.arr {s:RS} (h:RsOk s) (v:V):(arrOf s v).length≤40∧∀ x∈arrOf s v,I64 x:=by
 unfold arrOf
 split
 · rename_i i _
   rw [List.getD_eq_getElem?_getD]
   cases hl:s.arrs[i]? with
   | none=>simp
   | some l=>exact h.2 l (List.mem_of_getElem? hl)
 · simp
theorem getD_ok {l:List Int} (h:∀ x∈l,I64 x) (i:Nat):I64 (l.getD i 0):=by
 rw [List.getD_eq_getElem?_getD]
 cases hl:l[i]? with
 | none=>exact i64_zero
 | some x=>exact h x (List.mem_of_getElem? hl)
theorem RsOk.place {s:RS} (h:RsOk s) (v:V) (i:Int):Rg I64 (placeR s v i):=by
 unfold placeR
 split
 · exact Rg.stop _ _
 · exact Rg.ok (getD_ok (h.arr v).2 _) h
theorem RsOk.putArr {s:RS} (h:RsOk s) (v:V) (i x:Int) (hx:I64 x):RsOk (putArr s v i x):=by
 unfold TreeP.putArr
 split
 · rename_i k hk
   refine ⟨h.1,fun l hl=>?_⟩
   rcases List.mem_or_eq_of_mem_set hl with hl|rfl
   · exact h.2 l hl
   · have ha:=h.arr v
     unfold arrOf at ha
     rw [hk] at ha
     refine ⟨by rw [List.length_set];exact ha.1,fun y hy=>?_⟩
     rcases List.mem_or_eq_of_mem_set hy with hy|rfl
     · exact ha.2 y hy
     · exact hx
 · exact h
theorem RsOk.step {s:RS} (h:RsOk s):Rg (fun _=>True) (stepR s):=by
 unfold stepR
 split
 · exact Rg.stop _ _
 · exact Rg.ok trivial h
def EvRg (L:List Fn) (f:Nat):Prop:=∀ s F e,RsOk s→FrOk F→NumE e→Rg VOk (evE L f s F e)
def ArRg (L:List Fn) (f:Nat):Prop:=∀ s F l vs,RsOk s→FrOk F→NumsE l→(∀ v∈vs,VOk v)→Rg (fun ws=>∀ v∈ws,VOk v) (evA L f s F l vs)
def ClRg (L:List Fn) (f:Nat):Prop:=∀ s g vs,RsOk s→(∀ v∈vs,VOk v)→Rg I64 (callR L f s g vs)
def BkRg (L:List Fn) (f:Nat):Prop:=∀ s F l,RsOk s→FrOk F→NumSts l→Rg FrOk (blockR L f s F l)
def SmRg (L:List Fn) (f:Nat):Prop:=∀ s F x,RsOk s→FrOk F→NumSt x→Rg FrOk (stmtR L f s F x)
def WlRg (L:List Fn) (f:Nat):Prop:=∀ s F v l,RsOk s→FrOk F→NumE v→NumSts l→Rg FrOk (whileR L f s F v l)
theorem fnGet_num {L:List Fn} (hL:∀ x∈L,NumSts x.body) (g:List UInt8):NumSts (fnGet L g).body:=by
 unfold fnGet
 cases hf:fnOf L g with
 | none=>simp [NumSts]
 | some x=>exact hL x (List.mem_of_find?_eq_some hf)
set_option maxHeartbeats 2000000 in
theorem rg_all {L:List Fn} (hL:∀ x∈L,NumSts x.body):(f:Nat)→EvRg L f∧ArRg L f∧ClRg L f∧BkRg L f∧SmRg L f∧WlRg L f
 | 0=>⟨fun s F e _ _ _=>by simp only [evE];exact Rg.none,fun s F l vs _ _ _ _=>by simp only [evA];exact Rg.none,fun s g vs _ _=>by simp only [callR];exact Rg.none,fun s F l _ _ _=>by simp only [blockR];exact Rg.none,fun s F x _ _ _=>by simp only [stmtR];exact Rg.none,fun s F v l _ _ _ _=>by simp only [whileR];exact Rg.none⟩
 | f+1=>by
   obtain ⟨he,ha,hc,hb,hs,hw⟩:=rg_all hL f
   refine ⟨?_,?_,?_,?_,?_,?_⟩
   · intro s F e h hF hn
     cases e with
     | num a n=>simp only [evE,NumE] at hn ⊢;exact Rg.ok (by unfold VOk I64 numV;simp only;omega) h
     | var a x=>simp only [evE];exact Rg.ok (hF.get x) h
     | un a op x =>
       simp only [evE,NumE] at hn ⊢
       refine (he s F x h hF hn).bind fun v t hv ht=>Rg.ok ?_ ht
       unfold VOk numV
       simp only
       split
       · exact i64_wrap64 _
       · exact i64_oneB _
     | bin a op l r =>
       simp only [evE,NumE] at hn ⊢
       refine (he s F l h hF hn.1).bind fun v t hv ht=>?_
       split
       · split
         · exact Rg.ok (i64_oneB _) ht
         · exact (he t F r ht hF hn.2).bind fun u t2 hu ht2=>Rg.ok (i64_oneB _) ht2
       · refine (he t F r ht hF hn.2).bind fun u t2 hu ht2=>?_
         cases h2:twoP op v.n u.n with
         | none=>exact Rg.stop _ _
         | some n=>exact Rg.ok (i64_two hv h2) ht2
     | call a g args =>
       simp only [evE,NumE] at hn ⊢
       refine (ha s F args [] h hF hn (fun _ h=>nomatch h)).bind fun vs t hv ht=>?_
       exact (hc t g vs ht hv).bind fun n t2 h2 ht2=>Rg.ok h2 ht2
     | new a x =>
       simp only [evE,NumE] at hn ⊢
       refine (he s F x h hF hn).bind fun v t hv ht=>?_
       split
       · exact Rg.stop _ _
       · refine Rg.ok i64_zero ⟨ht.1,fun l hl=>?_⟩
         rcases List.mem_append.1 hl with hl|hl
         · exact ht.2 l hl
         · simp only [List.mem_singleton] at hl
           subst hl
           refine ⟨by rw [List.length_replicate];omega,fun y hy=>?_⟩
           rw [(List.mem_replicate.1 hy).2]
           exact i64_zero
     | len a x =>
       simp only [evE,NumE] at hn ⊢
       refine (he s F x h hF hn).bind fun v t hv ht=>Rg.ok ?_ ht
       have:=(ht.arr v).1
       unfold VOk I64 numV
       simp only
       omega
     | item a x i =>
       simp only [evE,NumE] at hn ⊢
       refine (he s F x h hF hn.1).bind fun v t hv ht=>?_
       refine (he t F i ht hF hn.2).bind fun k t2 hk ht2=>?_
       exact (ht2.place v k.n).bind fun n t3 h3 ht3=>Rg.ok h3 ht3
     | input a =>
       simp only [evE]
       cases hi:s.inp with
       | nil=>exact Rg.ok i64_zero h
       | cons n r =>
         have h1:=h.1
         rw [hi] at h1
         exact Rg.ok (h1 n List.mem_cons_self) ⟨fun x hx=>h1 x (List.mem_cons_of_mem _ hx),h.2⟩
   · intro s F l vs h hF hn hv
     cases l with
     | nil=>simp only [evA];exact Rg.ok hv h
     | cons e r =>
       simp only [evA,NumsE] at hn ⊢
       refine (he s F e h hF hn.1).bind fun v t hv2 ht=>?_
       refine ha t F r _ ht hF hn.2 fun u hu=>?_
       rcases List.mem_append.1 hu with hu|hu
       · exact hv u hu
       · rw [List.mem_singleton.1 hu];exact hv2
   · intro s g vs h hv
     simp only [callR]
     split
     · exact Rg.stop _ _
     · have hk:=hb { s with calls:=s.calls+1 } (bindParams [] (fnGet L g).params vs) (fnGet L g).body h (FrOk.params _ _ (fun _ h=>nomatch h) hv) (fnGet_num hL g)
       intro y hy
       split at hy
       · rename_i a t hx
         obtain rfl:=(Option.some.inj hy).symm
         obtain ⟨-,h2⟩:=(hk _ hx).1 a rfl
         exact ⟨fun b hb=>by cases hb;exact ⟨i64_zero,h2⟩,fun n hn=>by cases hn⟩
       · rename_i n t hx
         obtain rfl:=(Option.some.inj hy).symm
         obtain ⟨h1,h2⟩:=(hk _ hx).2 n rfl
         exact ⟨fun b hb=>by cases hb;exact ⟨h1,h2⟩,fun n hn=>by cases hn⟩
       · rename_i w t hx
         obtain rfl:=(Option.some.inj hy).symm
         exact ⟨fun b hb=>(by cases hb),fun n hn=>(by cases hn)⟩
       · cases hy
   · intro s F l h hF hn
     cases l with
     | nil=>simp only [blockR];exact Rg.ok hF h
     | cons x r =>
       simp only [blockR,NumSts] at hn ⊢
       exact (hs s F x h hF hn.1).bind fun G t hG ht=>hb t G r ht hG hn.2
   · intro s F x h hF hn
     simp only [stmtR]
     refine h.step.bind fun _ s _ h=>?_
     cases x with
     | var a n v=>simp only [NumSt] at hn ⊢;exact (he s F v h hF hn).bind fun y t hy ht=>Rg.ok (hF.put n y hy) ht
     | set a n v=>simp only [NumSt] at hn ⊢;exact (he s F v h hF hn).bind fun y t hy ht=>Rg.ok (hF.put n y hy) ht
     | put a n i v =>
       simp only [NumSt] at hn ⊢
       refine (he s F i h hF hn.1).bind fun k t hk ht=>(he t F v ht hF hn.2).bind fun y t2 hy ht2=>?_
       exact (ht2.place _ _).bind fun n t3 hn3 ht3=>Rg.ok hF (ht3.putArr _ _ _ hy)
     | cond a v t e =>
       simp only [NumSt] at hn ⊢
       refine (he s F v h hF hn.1).bind fun c u hc hu=>?_
       split
       · exact hb u F t hu hF hn.2.1
       · exact hb u F e hu hF hn.2.2
     | loop a v t=>simp only [NumSt] at hn ⊢;exact hw s F v t h hF hn.1 hn.2
     | ret a v =>
       simp only [NumSt] at hn ⊢
       refine (he s F v h hF hn).bind fun y t hy ht=>?_
       intro z hz
       obtain rfl:=(Option.some.inj hz).symm
       exact ⟨fun b hb=>(by cases hb),fun n hn=>by cases hn;exact ⟨hy,ht⟩⟩
     | print a v =>
       simp only [NumSt] at hn ⊢
       refine (he s F v h hF hn).bind fun y t hy ht=>?_
       split
       · exact Rg.stop _ _
       · exact Rg.ok hF ht
     | call a v=>simp only [NumSt] at hn ⊢;exact (he s F v h hF hn).bind fun y t hy ht=>Rg.ok hF ht
   · intro s F v l h hF hn hl
     simp only [whileR]
     refine (he s F v h hF hn).bind fun c u hc hu=>?_
     split
     · exact (hb u F l hu hF hl).bind fun G t hG ht=>ht.step.bind fun _ t2 _ ht2=>hw t2 G v l ht2 hG hn hl
     · exact Rg.ok hF hu
end Go.Proofs.YtdgedlhefjmcpaaGreatDoor.TreeP

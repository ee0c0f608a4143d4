/- The document's runner: how it begins and ends. Conditions: the program lies. What the law holds against one another: its sameInts and sameEnd where both are alike. Conditions: both lie. RunEnds, walked. Conditions: what both readers, and errors told, read of the package's variables lies (Lies, Laid, ErrLaid); what is given lies. Slices of numbers, and texts, as the walks of the runner want them. No conditions. -/
import Derived.Test.YtdgedlhefjmcpaaGreatDoorEn37
import Derived.Test.YtdgedlhefjmcpaaGreatDoorEn38
import Derived.Test.YtdgedlhefjmcpaaGreatDoorEn24
import Derived.BigQuiet
import Derived.Test.YtdgedlhefjmcpaaGreatDoorEn01
namespace Go.Proofs.YtdgedlhefjmcpaaGreatDoor.TreeP.R
open Go.RowKit Go.Proofs.YtdgedlhefjmcpaaGreatDoor.Wo Go.Proofs.YtdgedlhefjmcpaaGreatDoor.TreeP Go.Proofs.YtdgedlhefjmcpaaGreatDoor.AluP
set_option linter.unusedVariables false
set_option linter.unusedSimpArgs false
theorem end_ret {W w:World} {tmps:Array Value} {n a:Int} {oa:Option Addr} {on oc:Nat} {Q:Ending→World→Prop} (h2:tmps.getD 4 undef=.pointer (some ⟨W.heap.size,0,none⟩)) (hB:Blk w W.heap.size [.int .i64 n,.int .i64 a,.slice oa on oc] 50) (hQ:Q (.returned (.agg #[.int .i64 n,.int .i64 a,.slice oa on oc])) w) :
 bodyPost Tryz.prog Tryz.f62 Q .ret { tmps:=tmps,defers:=[] } w :=
 bodyPost_ret (results_cell_row Tryz.results62 tmps _ _ _ #[.int .i64 n,.int .i64 a,.slice oa on oc] _ _ h2 hB Tryz.underlying50 rfl (by kernel_rfl)) rfl hQ
theorem run_ret {W w:World} {tmps:Array Value} {n a:Int} {oa:Option Addr} {on oc:Nat} {Q:Ending→World→Prop} (h2:tmps.getD 6 undef=.pointer (some ⟨W.heap.size,0,none⟩)) (hB:Blk w W.heap.size [.int .i64 n,.int .i64 a,.slice oa on oc] 50) (hQ:Q (.returned (.agg #[.int .i64 n,.int .i64 a,.slice oa on oc])) w) :
 bodyPost Tryz.prog Tryz.f28 Q .ret { tmps:=tmps,defers:=[] } w :=
 bodyPost_ret (results_cell_row Tryz.results28 tmps _ _ _ #[.int .i64 n,.int .i64 a,.slice oa on oc] _ _ h2 hB Tryz.underlying50 rfl (by kernel_rfl)) rfl hQ
set_option maxRecDepth 100000 in
theorem end_any (b:Nat) (av iv:Value) (k c way n:Int) (oa:Option Addr) (on oc:Nat) (W:World) (hb:Blk W b [av,iv,.int .i64 k,.int .i64 c,.int .i64 way,.int .i64 0,.slice oa on oc] 129) :
 Calls Tryz.prog 62 #[.pointer (some ⟨b,0,none⟩),.int .i64 n] W fun e w=>e=.returned (.agg #[.int .i64 (if way=0 then 1 else way),.int .i64 (if way=0 then n else 0),.slice oa on oc])∧Mods (·=b) W w:=by
 obtain ⟨W1,hW1⟩:∃ W1,W1=W.alloc (.cells #[.int .i64 0,.int .i64 0,.slice none 0 0] 50):=⟨_,rfl⟩
 have hm1:Mods None W W1:=by rw [hW1];exact (Mods.refl _ _).alloc _
 have HM1:=hiD hm1
 have HE:Hid (Blk W1 W.heap.size [.int .i64 0,.int .i64 0,.slice none 0 0] 50):=hiD (by rw [hW1];exact Blk.new W _ _)
 have HB:=hiD (hb.mods hm1 (fun f=>f))
 have hlt:=hb.lt
 have hne:b≠W.heap.size:=by omega
 have c4:=HB.out.cell (i:=4) rfl
 have c5:=HB.out.cell (i:=5) rfl
 have c6:=HB.out.cell (i:=6) rfl
 have z4:=HB.out.free 4
 have z5:=HB.out.free 5
 have e0:=HE.out.cell (i:=0) rfl
 have e1:=HE.out.cell (i:=1) rfl
 have e2:=HE.out.cell (i:=2) rfl
 have y0:=HE.out.free 0
 have y1:=HE.out.free 1
 have y2:=HE.out.free 2
 have HNE:=hiD hne
 clear hb hm1
 by_cases hw:way=0
 · subst hw
   simp only [if_pos]
   go_enter Tryz.func62,Tryz.ntmps62
   go_upto_region 1 with (fail)
   rw [← hW1]
   clear hW1
   go_wp2_with fail
   refine end_ret rfl (blk_put (blk_put (blk_put (HE.out.mods ((mods_put W1 b 4 (.int .i64 1)).trans (mods_put _ b 5 (.int .i64 n))) (fun e=>HNE.out e.symm)) 0 (.int .i64 1) rfl) 1 (.int .i64 n) rfl) 2 (.slice oa on oc) rfl) ⟨rfl,?_⟩
   exact (HM1.out.mono (T:=(·=b)) fun _ _ f=>f.elim).trans' ((((mods_put W1 b 4 (.int .i64 1)).trans (mods_put _ b 5 (.int .i64 n))).mono (T:=fun k=>k=b∨k=W.heap.size) fun _ _ h=>Or.inl h).trans ((((mods_put _ W.heap.size 0 _).trans (mods_put _ W.heap.size 1 _)).trans (mods_put _ W.heap.size 2 _)).mono fun _ _ h=>Or.inr h)) (fun k hk hlt=>hk.elim id (fun e=>absurd e (by omega)))
 · have hw1:(way==0)=false:=by simpa using hw
   simp only [if_neg hw]
   have HW:=hiD hw
   clear hw
   go_enter Tryz.func62,Tryz.ntmps62
   go_upto_region 1 with (fail)
   rw [← hW1]
   clear hW1
   go_wp2_with fail
   refine end_ret rfl (blk_put (blk_put (blk_put HE.out 0 (.int .i64 way) rfl) 1 (.int .i64 0) rfl) 2 (.slice oa on oc) rfl) ⟨rfl,?_⟩
   exact (HM1.out.trans' (((mods_put _ W.heap.size 0 _).trans (mods_put _ W.heap.size 1 _)).trans (mods_put _ W.heap.size 2 _)) (fun k hk hlt=>by omega)).mono fun _ _ f=>f.elim
theorem endv_of {w w':World} {b:Nat} {M:Nat→Prop} {S:Nat→Prop} {out:List Int} {oa:Option Addr} {oc:Nat} {a c:Int} (h:w.ownsRow 0 2 1 (.slice oa out.length oc) out.length (out.map (.int .i64))) (hS:∀ k,(Value.slice oa out.length oc).ownBlock=some k→¬ S k) (hm:Mods S w w') (hl:out.length≤200):EndV w' (a,c,out) (.agg #[.int .i64 a,.int .i64 c,.slice oa out.length oc]):=by
 have h2:=hm.ownsRow h (fun k hk hs=>hS k hk hs)
 exact ⟨oa,oc,rfl,in_of_row h2 (fun _ _ f=>f),hl,own_none h2⟩
theorem WAt.begin_ {W W3:World} {given:List Int} {fuel:Int} {iv:Value} (hW3:W3=(((W.alloc (.cells #[.int .i64 0,.int .i64 0,.slice none 0 0] 50)).alloc (.cells #[.slice none 0 0] 46)).alloc (.cells #[.slice (some ⟨W.heap.size+1,0,none⟩) 1 1,iv,.int .i64 fuel,.int .i64 0,.int .i64 0,.int .i64 0,.slice none 0 0] 129)))
 (hi:TreeP.InAt W None iv given) (hf:fuel≤3000) (hf2:-9223372036854775808≤fuel):WAt W3 (W.heap.size+1+1) (fun k=>k<W.heap.size) (fun k=>k=W.heap.size+1∨k=W.heap.size+1+1) [] ⟨given,fuel.toNat,0,[],[]⟩:=by
 have e1:(W.alloc (.cells #[.int .i64 0,.int .i64 0,.slice none 0 0] 50)).heap.size=W.heap.size+1:=by simp
 have e2:((W.alloc (.cells #[.int .i64 0,.int .i64 0,.slice none 0 0] 50)).alloc (.cells #[.slice none 0 0] 46)).heap.size=W.heap.size+1+1:=by simp
 have hm:Mods None W W3:=by rw [hW3];exact (((Mods.refl _ _).alloc _).alloc _).alloc _
 have hs3:W3.heap.size=W.heap.size+3:=by rw [hW3];simp
 have hb:Blk W3 (W.heap.size+1+1) [.slice (some ⟨W.heap.size+1,0,none⟩) 1 1,iv,.int .i64 fuel,.int .i64 0,.int .i64 0,.int .i64 0,.slice none 0 0] 129:=by
  have:=Blk.new ((W.alloc (.cells #[.int .i64 0,.int .i64 0,.slice none 0 0] 50)).alloc (.cells #[.slice none 0 0] 46)) #[.slice (some ⟨W.heap.size+1,0,none⟩) 1 1,iv,.int .i64 fuel,.int .i64 0,.int .i64 0,.int .i64 0,.slice none 0 0] 129
  rw [e2,← hW3] at this
  exact this
 have hrow:W3.ownsRow 0 46 1 (.slice (some ⟨W.heap.size+1,0,none⟩) 1 1) 1 [.slice none 0 0]:=by
  have h1:=World.ownsRow_lit (base:=0) (e:=46) (size:=1) (W.alloc (.cells #[.int .i64 0,.int .i64 0,.slice none 0 0] 50)) #[.slice none 0 0] 1 (Nat.zero_le _) (by decide) rfl
  rw [e1] at h1
  have h2:=h1.alloc (.cells #[.slice (some ⟨W.heap.size+1,0,none⟩) 1 1,iv,.int .i64 fuel,.int .i64 0,.int .i64 0,.int .i64 0,.slice none 0 0] 129)
  rw [← hW3] at h2
  exact h2
 have hmine1:Mine (fun k=>k=W.heap.size+1∨k=W.heap.size+1+1) (W.heap.size+1+1) [] (.slice none 0 0):=fun k hk=>by cases hk
 have hmine2:Mine (fun k=>k=W.heap.size+1∨k=W.heap.size+1+1) (W.heap.size+1+1) [] (.slice (some ⟨W.heap.size+1,0,none⟩) 1 1):=fun k hk=>by
  obtain rfl:W.heap.size+1=k:=by simpa [Value.ownBlock] using hk
  exact ⟨Or.inl rfl,by omega,fun g n h=>by cases h⟩
 exact { blk:=(⟨_,iv,fuel,.slice none 0 0,hb,⟨rfl,hf2,by omega⟩,hi.mods hm (fun k h1 h2=>(h2 h1).elim),World.ownsRow_nil _ _ _ _,hmine1,hrow,hmine2,fun k hk h=>by cases h⟩),
         has:=(Or.inr rfl),
         arrs:=(rfl),
         arr:=(fun i l h=>by simp at h),
         mine:=(fun g n h=>by cases h),
         apart:=(List.Pairwise.nil),
         old:=(fun k hk=>by rcases hk with rfl|rfl <;> omega),
         off:=(fun k hk h=>by have h:k<W.heap.size:=h;rcases hk with rfl|rfl <;> omega),
         given:=(fun k hk=>by rw [hs3];exact Nat.lt_add_right 3 hk),
         few:=(Nat.zero_le _),
         calls:=(Nat.zero_le _) }
set_option maxRecDepth 100000 in
set_option maxHeartbeats 1600000 in
theorem rrun_any {L:List Fn} (hp:Prog L) (hc:checkOk L) (f:Nat) (given:List Int) (fuel:Int) (x:Int×Int×List Int) (hx:runR L f given fuel.toNat=some x) (v iv:Value) (W:World) (hv:FsAt W None v L) (hi:TreeP.InAt W None iv given) (hg:∀ n∈given,I64 n) (hf:fuel≤3000) (hf2:-9223372036854775808≤fuel) :
 Calls Tryz.prog 28 #[v,iv,.int .i64 fuel] W fun e w=>∃ u,e=.returned u∧EndV w x u∧Mods None W w:=by
 obtain ⟨va,vn,vc,rfl⟩:∃ va vn vc,v=.slice va vn vc:=by
  obtain ⟨a,n,c,h1,-⟩:=hv
  exact ⟨a,n,c,h1⟩
 obtain ⟨ia,il,ic,rfl⟩:∃ ia il ic,iv=.slice ia il ic:=by
  obtain ⟨a,n,c,h1,-⟩:=hi
  exact ⟨a,n,c,h1⟩
 obtain ⟨W3,hW3⟩:∃ W3,W3=(((W.alloc (.cells #[.int .i64 0,.int .i64 0,.slice none 0 0] 50)).alloc (.cells #[.slice none 0 0] 46)).alloc (.cells #[.slice (some ⟨W.heap.size+1,0,none⟩) 1 1,.slice ia il ic,.int .i64 fuel,.int .i64 0,.int .i64 0,.int .i64 0,.slice none 0 0] 129)):=⟨_,rfl⟩
 have hm3:Mods None W W3:=by rw [hW3];exact (((Mods.refl _ _).alloc _).alloc _).alloc _
 have hs3:W3.heap.size=W.heap.size+3:=by rw [hW3];simp
 have HE:Hid (Blk W3 W.heap.size [.int .i64 0,.int .i64 0,.slice none 0 0] 50):=hiD (by rw [hW3];exact ((Blk.new W _ _).alloc _).alloc _)
 have hw:=WAt.begin_ hW3 hi hf hf2
 rw [runR_eq] at hx
 obtain ⟨y,hy,hxy⟩:∃ y,callR L f ⟨given,fuel.toNat,0,[],[]⟩ [109,97,105,110] []=some y∧endOf y=x:=by
  cases hy:callR L f ⟨given,fuel.toNat,0,[],[]⟩ [109,97,105,110] [] with
  | none=>rw [hy] at hx;cases hx
  | some y=>rw [hy] at hx;exact ⟨y,rfl,Option.some.inj hx⟩
 obtain ⟨fn,hfn,hps⟩:=main_of hc
 have HC:=hiD ((rw_all (few_prog hp) (nums_prog hp) (small_of hp) hp.fit hc.1 hc.2.1 (Nat.le_trans hp.few (by decide)) f).2.1 f (Nat.le_refl _) [109,97,105,110] [] (W.heap.size+1+1) 0 (fun k=>k<W.heap.size) _ [] ⟨given,fuel.toNat,0,[],[]⟩ va vn vc W3 (.slice none 0 0) y hw (hv.mods hm3 (fun k h1 h2=>(h2 h1).elim)) ⟨hg,fun l hl=>by cases hl⟩ (fun v hv=>by cases hv) (Nums.none_ _ _ _ _) ⟨fn,hfn,by rw [hps];exact trivial⟩ (by simp only [List.length_nil];omega) hy)
 have HW:=hiD (And.intro hm3 hs3)
 have HXY:=hiD hxy
 have hsz:(W.alloc (.cells #[.int .i64 0,.int .i64 0,.slice none 0 0] 50)).heap.size=W.heap.size+1:=by simp
 clear hv hi hx hy hm3 hw hps hfn hxy hs3
 unfold str at HC
 go_enter Tryz.func28,Tryz.ntmps28
 go_upto_region 2 with (fail)
 rw [← hW3]
 clear hW3 hsz
 go_wp2_with fail
 go_at_call 63
 refine HC.out.mono ?_
 intro e w hR
 have HF:Hid (∃ m M' av iv2 k c way oa out oc,e=.returned (.int .i64 m)∧Ext None (fun k=>k=W.heap.size+1∨k=W.heap.size+1+1) M' W3 w∧Blk w (W.heap.size+1+1) [av,iv2,.int .i64 k,.int .i64 c,.int .i64 way,.int .i64 0,.slice oa (List.length out) oc] 129∧w.ownsRow 0 2 1 (.slice oa (List.length out) oc) (List.length out) (out.map (.int .i64))∧(∀ k,(Value.slice oa (List.length out) oc).ownBlock=some k→M' k∧k≠W.heap.size+1+1)∧List.length out≤200∧x=(if way=0 then 1 else way,if way=0 then m else 0,out)):=hiD (by
  have hxy:=HXY.out
  obtain ⟨y,s⟩:=y
  cases y with
  | ok n =>
    obtain ⟨rfl,M',A',h1,h2,-⟩:=hR
    obtain ⟨av,iv2,k,ov,hb,-,-,h4,h5,-⟩:=h1.blk
    obtain ⟨oa,oc,rfl⟩:=sl_form h4
    exact ⟨n,M',av,iv2,k,_,0,oa,s.out,oc,rfl,h2,hb,h4,fun k hk=>⟨(h5 k hk).1,(h5 k hk).2.1⟩,h1.few,by rw [← hxy];rfl⟩
  | error sg =>
    cases sg with
    | ret q=>exact hR.elim
    | stop q =>
      obtain ⟨m,M',rfl,-,h1,h2⟩:=hR
      obtain ⟨av,iv2,k,c,ov,m9,r9,hb,h4,h5,-⟩:=h1.blk
      obtain ⟨oa,oc,rfl⟩:=sl_form h4
      have hq:=h1.way
      exact ⟨m,M',av,iv2,k,c,q,oa,s.out,oc,rfl,h2,hb,h4,h5,h1.few,by rw [← hxy,if_neg (by omega),if_neg (by omega)];rfl⟩)
 obtain ⟨m,M',av,iv2,k,c,way,oa,out,oc,he,h2,hb,h4,h5,h6,h7⟩:=HF.out
 subst he
 have hne:∀ k,M' k→k≠W.heap.size:=fun k hk e=>by
  have h1:=HW.out.2
  rcases h2.back k (by omega) hk with e2|e2 <;> omega
 have HEW:=hiD (HE.out.mods h2.mods (fun k=>k.elim (fun f=>f.elim) (fun e=>by rcases e with e|e <;> omega)))
 have HK:=hiD (And.intro h2 (And.intro h4 (And.intro h5 (And.intro h6 (And.intro h7 hne)))))
 obtain ⟨on,hon⟩:∃ on,on=List.length out:=⟨_,rfl⟩
 rw [← hon] at hb
 have HON:=hiD hon
 have HEN:=hiD (end_any (W.heap.size+1+1) av iv2 k c way m oa on oc w hb)
 clear hb h2 h4 h5 h6 h7 hne hR HF HC hon HXY
 go_wp2_with fail
 go_at_call 62
 refine HEN.out.mono ?_
 rintro e w5 ⟨rfl,hm5⟩
 have HE5:=hiD (HEW.out.mods hm5 (fun e=>by omega))
 have HM5:=hiD hm5
 have e0:=HE5.out.cell (i:=0) rfl
 have e1:=HE5.out.cell (i:=1) rfl
 have e2:=HE5.out.cell (i:=2) rfl
 have y0:=HE5.out.free 0
 have y1:=HE5.out.free 1
 have y2:=HE5.out.free 2
 obtain ⟨p1,hp1⟩:∃ p1,p1=(if way=0 then (1:Int) else way):=⟨_,rfl⟩
 obtain ⟨p2,hp2⟩:∃ p2,p2=(if way=0 then m else (0:Int)):=⟨_,rfl⟩
 have HPP:=hiD (And.intro hp1 hp2)
 rw [← hp1,← hp2]
 clear hm5 HEN hp1 hp2
 go_wp2_with fail
 obtain ⟨h2,h4,h5,h6,h7,hne⟩:=HK.out
 have hm9:Mods (·=W.heap.size) w5 (((w5.setCell ⟨W.heap.size,0,none⟩ (.int .i64 p1)).setCell ⟨W.heap.size,1,none⟩ (.int .i64 p2)).setCell ⟨W.heap.size,2,none⟩ (.slice oa on oc)):=((mods_put _ _ _ _).trans (mods_put _ _ _ _)).trans (mods_put _ _ _ _)
 refine run_ret rfl (blk_put (blk_put (blk_put HE5.out 0 (.int .i64 p1) rfl) 1 (.int .i64 p2) rfl) 2 (.slice oa on oc) rfl) ⟨_,rfl,?_,?_⟩
 · rw [h7,← HPP.out.1,← HPP.out.2,HON.out]
   refine endv_of (b:=0) (M:=None) (S:=fun k=>k=W.heap.size+1+1∨k=W.heap.size) h4 (fun k hk e=>e.elim (h5 k hk).2 (hne k (h5 k hk).1)) ?_ h6
   rw [HON.out] at hm9
   exact (HM5.out.mono fun _ _ e=>Or.inl e).trans (hm9.mono fun _ _ e=>Or.inr e)
 · exact HW.out.1.trans' (((h2.mods.mono (T:=fun k=>W.heap.size≤k) (fun k _ hk=>hk.elim (fun f=>f.elim) (fun e=>by rcases e with e|e <;> omega))).trans (HM5.out.mono fun k _ e=>by omega)).trans (hm9.mono fun k _ e=>by omega)) (fun k hk hlt=>by omega)
end Go.Proofs.YtdgedlhefjmcpaaGreatDoor.TreeP.R
namespace Go.Proofs.YtdgedlhefjmcpaaGreatDoor.TreeP.R
open Go.RowKit Go.Proofs.YtdgedlhefjmcpaaGreatDoor.Wo Go.Proofs.YtdgedlhefjmcpaaGreatDoor.TreeP
set_option linter.unusedVariables false
set_option linter.unusedSimpArgs false
set_option maxRecDepth 100000 in
set_option maxHeartbeats 400000 in
theorem same_ints (v1 v2:Value) (l:List Int) (W:World) (h1:TreeP.InAt W None v1 l) (h2:TreeP.InAt W None v2 l) (hl:l.length≤65536) :
 Calls Tryz.prog 61 #[v1,v2] W fun e W'=>e=.returned (.bool true)∧Mods None W W':=by
 obtain ⟨a1,n1,c1,rfl,hn1,hc1,hm1,hx1⟩:=h1
 obtain ⟨a2,n2,c2,rfl,hn2,hc2,hm2,hx2⟩:=h2
 obtain rfl:n1=n2:=by omega
 have HN:=hiD hn1
 have H1:=hiD hx1
 have H2:=hiD hx2
 have hb:n1≤65536:=by omega
 try unfold maxLen at hm1 hm2
 clear hn1 hn2 hx1 hx2 hl
 go_enter Tryz.func61,Tryz.ntmps61
 go_wp2
 go_loopw [5] (fun v wr=>∃ i:Nat,i≤n1∧v=.int .i64 i∧Hid (Mods None W wr)) (fun v _=>(n1-intOf v).toNat)
 case atStart=>exact ⟨0,Nat.zero_le _,rfl,hiD (Mods.refl _ _)⟩
 case round =>
  obtain ⟨i,hi,rfl,hm⟩:=hrel
  by_cases hlt:i<n1
  · obtain ⟨x,hx⟩:∃ x,l[i]?=some x:=⟨l[i]'(by rw [← HN.out];exact hlt),List.getElem?_eq_getElem _⟩
    obtain ⟨g1,o1,he1,hs1,hc1⟩:=H1.out i x hx
    obtain ⟨g2,o2,he2,hs2,hc2⟩:=H2.out i x hx
    have d1:=hm.out.cellOf hc1 (fun f=>f)
    have d2:=hm.out.cellOf hc2 (fun f=>f)
    subst he1 he2
    clear hc1 hc2 hx hs1 hs2
    go_wp2
    go_region
    go_wp2
    go_roundw
    case rel=>exact ⟨i+1,by omega,by go_num,hiD hm.out.drew⟩
    case measure=>simp [intOf];omega
  · obtain rfl:i=n1:=by omega
    go_wp2
    go_ret
    exact ⟨rfl,hm.out⟩
set_option maxRecDepth 100000 in
set_option maxHeartbeats 400000 in
theorem same_end (a c:Int) (p1 p2:Option Addr) (m1 m2 c1 c2:Nat) (l:List Int) (W:World) (h1:TreeP.InAt W None (.slice p1 m1 c1) l) (h2:TreeP.InAt W None (.slice p2 m2 c2) l) (hl:l.length≤65536) :
 Calls Tryz.prog 27 #[.agg #[.int .i64 a,.int .i64 c,.slice p1 m1 c1],.agg #[.int .i64 a,.int .i64 c,.slice p2 m2 c2]] W fun e W'=>e=.returned (.bool true)∧Mods None W W':=by
 have H1:=hiD h1
 have H2:=hiD h2
 have HL:=hiD hl
 clear h1 h2 hl
 go_enter Tryz.func27,Tryz.ntmps27
 go_wp2_with fail
 have hm:Mods None W ((W.alloc (.cells #[.int .i64 a,.int .i64 c,.slice p1 m1 c1] 50)).alloc (.cells #[.int .i64 a,.int .i64 c,.slice p2 m2 c2] 50)):=((Mods.refl _ _).alloc _).alloc _
 refine (same_ints _ _ l _ (H1.out.mods hm (fun _ _ f=>f)) (H2.out.mods hm (fun _ _ f=>f)) HL.out).mono ?_
 rintro e w1 ⟨rfl,hm1⟩
 have HM:=hiD (hm.trans hm1)
 clear hm hm1
 go_wp2
 go_ret
 exact ⟨rfl,HM.out⟩
end Go.Proofs.YtdgedlhefjmcpaaGreatDoor.TreeP.R
namespace Go.Proofs.YtdgedlhefjmcpaaGreatDoor.TreeP.R
open Go.RowKit Go.Proofs.YtdgedlhefjmcpaaGreatDoor.Wo Go.Proofs.YtdgedlhefjmcpaaGreatDoor.TreeP Go.Proofs.YtdgedlhefjmcpaaGreatDoor.AluP
set_option linter.unusedVariables false
set_option linter.unusedSimpArgs false
theorem wf_low {a:Int} (h:(Lit.int .i64 a).wf=true):-9223372036854775808≤a:=by
 simp only [Lit.wf,IntKind.min,IntKind.max,IntKind.signed,IntKind.bits,Bool.and_eq_true,decide_eq_true_eq,if_true] at h
 omega
set_option maxRecDepth 100000 in
set_option maxHeartbeats 3200000 in
theorem ends_walk (s:List UInt8) (iv:Value) (given:List Int) (fuel:Int) (W:World) (hs:s.length≤9223372036854775807) (hR:Lies W) (hT:Laid W) (hE:ErrP.ErrLaid W) (hi:TreeP.InAt W None iv given) (hi0:∀ n c,iv=.slice none n c→c=0) (hg:∀ n∈given,I64 n) (hf:-9223372036854775808≤fuel) :
 Calls Tryz.prog 9 #[.string ⟨s.toArray⟩,iv,.int .i64 fuel] W fun e w=>e=.returned (.bool true)∧Mods None W w:=by
 obtain ⟨ia,gn,ic,rfl,hgn,hic1,hic2,-⟩:=id hi
 have HGN:=hiD (And.intro hgn (And.intro hi (And.intro hi0 (And.intro hg hf))))
 unfold maxLen at hic2
 have HR:=hiD hR
 have HT:=hiD hT
 have HE:=hiD hE
 clear hR hT hE hi hi0 hg hf hgn
 have h1:=neq_fine
 have h2:=neq_3
 have h3:=neq_4
 go_enter Tryz.func9,Tryz.ntmps9
 by_cases hl:1500<s.length
 · have hl':(1500:Int)<(s.length:Int):=by omega
   go_wp2_with fail
   go_ret
   exact ⟨rfl,Mods.refl _ _⟩
 have hl':¬ (1500:Int)<(s.length:Int):=by omega
 by_cases h20:20<gn
 · have h20':(20:Int)<(gn:Int):=by omega
   go_wp2_with fail
   go_ret
   exact ⟨rfl,Mods.refl _ _⟩
 have h20':¬ (20:Int)<(gn:Int):=by omega
 have H20:=hiD (show gn≤20 by omega)
 obtain ⟨x,hx⟩:=read_any s
 have HX:=hiD hx
 have HL:=hiD (show s.length≤10000000 by omega)
 have HLr:=hiD (fun (w:World) (hm:Mods None W w)=>(⟨lies_next HR.out hm,HT.out.next hm,hm.cellOf HE.out (fun f=>f)⟩:Lies w∧Laid w∧ErrP.ErrLaid w))
 clear hx hl
 go_wp2_with fail
 go_at_call 15
 refine (ref_read s x _ HR.out HL.out HX.out).mono ?_
 cases x with
 | error e =>
   obtain ⟨n1,a1⟩:=e
   rintro e w1 ⟨rfl,hn1,hm1⟩
   have hnb:∀ (w:World),(Go.binOp .neq 40 (.agg #[.int .i64 n1,.int .i64 a1]) (.agg #[.int .i64 0,.int .i64 (-1)])).run Tryz.prog w=.ok (.bool true) w:=by
    rcases hn1 with rfl|rfl
    · exact fun w=>h2 a1 w
    · exact fun w=>h3 a1 w
   have HW1:=hiD hm1
   clear hm1 hn1 h2 h3 h1
   go_wp2_with fail
   go_at_call 11
   have hm2:Mods None w1 (w1.alloc (.cells #[.int .i64 n1,.int .i64 a1] 40)):=(Mods.refl _ _).alloc _
   have HF2:=hiD (Blk.new w1 #[.int .i64 n1,.int .i64 a1] 40)
   have HW2:=hiD (HW1.out.trans hm2)
   obtain ⟨w2,hw2⟩:∃ q,q=w1.alloc (.cells #[.int .i64 n1,.int .i64 a1] 40):=⟨_,rfl⟩
   obtain ⟨b2,hb2⟩:∃ q,q=w1.heap.size:=⟨_,rfl⟩
   rw [← hw2] at HF2 HW2 ⊢
   rw [← hb2] at HF2 ⊢
   clear hw2 hb2 hm2 HW1
   refine (tree_read s (.error (n1,a1)) w2 (HLr.out _ HW2.out).2.1 HL.out HX.out).mono ?_
   rintro e w3 ⟨g,rfl,hbg,hm3⟩
   have HF3:=hiD (HF2.out.mods hm3 (fun f=>f))
   have HW3:=hiD (HW2.out.trans hm3)
   have HG3:=hiD hbg
   have c0:=HF3.out.cell (i:=0) rfl
   have c1:=HF3.out.cell (i:=1) rfl
   have HC0:=hiD (HLr.out _ HW3.out).1.fine
   obtain ⟨-,d0,d1⟩:=HC0.out
   clear hm3 hbg
   go_wp2_with fail
   go_at_call 16
   refine (ErrP.is_at n1 a1 g w3 (HLr.out _ HW3.out).2.2 HG3.out).mono ?_
   rintro e w4 ⟨rfl,hm4⟩
   have HW4:=hiD (HW3.out.trans hm4)
   clear hm4 c0 c1 d0 d1
   go_wp2_with fail
   go_ret
   exact ⟨rfl,HW4.out⟩
 | ok l =>
   rintro e w1 ⟨v,vs,rfl,hrow,hfns,hm1⟩
   have HP:=hiD (read_prog HX.out)
   have HW1:=hiD hm1
   have HV1:=hiD (fs_of_row hrow.1 hfns (fun _ _ f=>f))
   obtain ⟨va,vc,rfl⟩:=lex_form hrow.1
   clear hm1 h2 h3 hrow hfns
   go_wp2_with fail
   go_at_call 11
   have hm2:Mods None w1 (w1.alloc (.cells #[.int .i64 0,.int .i64 (-1)] 40)):=(Mods.refl _ _).alloc _
   have HF2:=hiD (Blk.new w1 #[.int .i64 0,.int .i64 (-1)] 40)
   have HW2:=hiD (HW1.out.trans hm2)
   have HV2:=hiD (HV1.out.mods hm2 (fun _ _ f=>f))
   obtain ⟨w2,hw2⟩:∃ q,q=w1.alloc (.cells #[.int .i64 0,.int .i64 (-1)] 40):=⟨_,rfl⟩
   obtain ⟨b2,hb2⟩:∃ q,q=w1.heap.size:=⟨_,rfl⟩
   rw [← hw2] at HF2 HW2 HV2 ⊢
   rw [← hb2] at HF2 ⊢
   clear hw2 hb2 hm2 HW1 HV1
   refine (tree_read s (.ok l) w2 (HLr.out _ HW2.out).2.1 HL.out HX.out).mono ?_
   rintro e w3 ⟨v2,vs2,rfl,hrow2,hfns2,hm3⟩
   have HU3:=hiD (fs_of_row hrow2.1 hfns2 (fun _ _ f=>f))
   obtain ⟨ua,uc,rfl⟩:=lex_form hrow2.1
   have HF3:=hiD (HF2.out.mods hm3 (fun f=>f))
   have HW3:=hiD (HW2.out.trans hm3)
   have HV3:=hiD (HV2.out.mods hm3 (fun _ _ f=>f))
   have c0:=HF3.out.cell (i:=0) rfl
   have c1:=HF3.out.cell (i:=1) rfl
   have HC0:=hiD (HLr.out _ HW3.out).1.fine
   obtain ⟨-,d0,d1⟩:=HC0.out
   clear hm3 hrow2 hfns2 HV2 h20
   obtain ⟨f,x,hfx⟩:=run_soon l given (min fuel 3000).toNat
   have HRX:=hiD (hfx f (Nat.le_refl _))
   have HFD:=hiD (found_all l)
   have HCK:=hiD (fun (w:World) (hm:Mods None w3 w)=>rcheck_any l _ w (HV3.out.mods hm (fun _ _ f=>f)) (HLr.out _ (HW3.out.trans hm)).1.fine (small_of HP.out) (Nat.le_trans HP.out.few (by decide)))
   have hall:checkR l=bindK (twiceK [] l) (fun _=>bindK (fnsK l l) fun _=>.ok (l.any mainB)):=rfl
   have HNX:Hid (checkR l=.ok true∨∃ n a,finC (checkR l)=(n,a)∧∀ w,(Go.binOp .neq 40 (.agg #[.int .i64 n,.int .i64 a]) (.agg #[.int .i64 0,.int .i64 (-1)])).run Tryz.prog w=.ok (.bool true) w):=hiD (by
    cases hy:checkR l with
    | ok b =>
      cases b with
      | true=>exact Or.inl rfl
      | false=>exact Or.inr ⟨8,-1,rfl,fun w=>by kernel_rfl⟩
    | error q =>
      obtain ⟨n,a⟩:=q
      refine Or.inr ⟨n,a,rfl,fun w=>?_⟩
      rcases HFD.out n a (by rw [← hall,hy]) with rfl|rfl|rfl|rfl|rfl
      · exact neq_1 a w
      · exact neq_2 a w
      · exact neq_7 a w
      · exact neq_9 a w
      · exact neq_12 a w)
   clear hfx hall
   rcases HNX.out with hck|⟨n,a,hck,hne⟩
   · have HCO:Hid (checkOk l):=hiD ((checkOk_iff l).1 hck)
     have HC:=hiD (fun (w:World) (hm:Mods None w3 w)=>show Calls Tryz.prog 25 #[_] w fun e w'=>e=.returned (.agg #[.int .i64 0,.int .i64 (-1)])∧Mods None w w' from by have:=HCK.out w hm;rw [hck] at this;exact this)
     clear hck HNX HCK
     go_wp2_with fail
     go_region_with (first|(go_at_call 25;refine (HC.out _ (Mods.refl _ _).drew).mono ?_;rintro e w4 ⟨rfl,hm4⟩;have HM4:=hiD hm4;obtain ⟨-,d04,d14⟩:=(HLr.out _ (HW3.out.trans ((Mods.refl None w3).drew.trans hm4))).1.fine;clear hm4))
     all_goals
        have hm34:Mods None w3 w4:=(Mods.refl None w3).drew.trans HM4.out
        have HW4:=hiD (HW3.out.trans hm34)
        have HU4:=hiD (HU3.out.mods hm34 (fun _ _ f=>f))
        have HV4:=hiD (HV3.out.mods hm34 (fun _ _ f=>f))
        have hfu1:min fuel 3000≤3000:=by omega
        have hfu2:-9223372036854775808≤min fuel 3000:=by have:=HGN.out.2.2.2.2;omega
        have HFU:=hiD (And.intro hfu1 hfu2)
        clear hm34 HM4 c0 c1 d0 d1 d04 d14 h1 HC hfu1 hfu2 HFD HF3
        go_wp2_with (at_builtin;refine wpList_copy rfl (.tmp 46) (.tmp 47) rfl w4.heap.size (.slice (some ⟨w4.heap.size,0,none⟩) 0 0) (.slice ia gn ic) rfl (own_C w4) (by simp) None given rfl ((HGN.out.2.1.mods HW4.out (fun _ _ f=>f)).mods ((Mods.refl _ _).alloc _) (fun _ _ f=>f)) HGN.out.2.2.1 (by have h1:=HGN.out.1;have h2:=H20.out;omega) ?_;rintro v' w6 hown hm6 ⟨oa,oc,rfl⟩ hloc;have H6:=hiD (And.intro hown (And.intro hm6 hloc));clear hown hm6 hloc)
        have hmc6:Mods None w4 w6:=((Mods.refl None w4).alloc (.cells #[] 2)).trans' H6.out.2.1 (fun k hk hlt=>by simp only [Value.ownBlock,Option.some.injEq] at hk;omega)
        have hin:=in_of_row (S:=None) H6.out.1 (fun _ _ f=>f)
        have hn0:∀ n c,(Value.slice oa given.length oc)=.slice none n c→c=0:=fun n c e=>by
         obtain ⟨e1,-,e2⟩:=Value.slice.inj e
         rw [← e2]
         exact own_none H6.out.1 e1
        have HC6:=hiD (run_good HX.out HCO.out f given (min fuel 3000) x HRX.out _ _ w6 (HU4.out.mods hmc6 (fun _ _ f=>f)) hin hn0 (by have h1:=HGN.out.1;have h2:=H20.out;omega) (by have:=HFU.out.1;omega) HFU.out.2)
        have HW6:=hiD (HW4.out.trans hmc6)
        have HV6:=hiD (HV4.out.mods hmc6 (fun _ _ f=>f))
        clear hmc6 hin hn0 H6 HU4 HV4
        go_at_call 20
        refine HC6.out.mono ?_
        rintro e w7 ⟨u,rfl,⟨za,zc,rfl,hz1,hz2,hz3⟩,hm7⟩
        have HW7:=hiD (HW6.out.trans hm7)
        have HV7:=hiD (HV6.out.mods hm7 (fun _ _ f=>f))
        have HZ7:=hiD (And.intro hz1 hz2)
        clear hm7 hz1 hz2 hz3 HC6
        go_wp2_with (at_builtin;refine wpList_copy rfl (.tmp 52) (.tmp 53) rfl w7.heap.size (.slice (some ⟨w7.heap.size,0,none⟩) 0 0) (.slice ia gn ic) rfl (own_C w7) (by simp) None given rfl ((HGN.out.2.1.mods HW7.out (fun _ _ f=>f)).mods ((Mods.refl _ _).alloc _) (fun _ _ f=>f)) HGN.out.2.2.1 (by have h1:=HGN.out.1;have h2:=H20.out;omega) ?_;rintro v' w8 hown hm8 ⟨oa2,oc2,rfl⟩ hloc;have H8:=hiD (And.intro hown (And.intro hm8 hloc));clear hown hm8 hloc)
        have hmc8:Mods None w7 w8:=((Mods.refl None w7).alloc (.cells #[] 2)).trans' H8.out.2.1 (fun k hk hlt=>by simp only [Value.ownBlock,Option.some.injEq] at hk;omega)
        have hin:=in_of_row (S:=None) H8.out.1 (fun _ _ f=>f)
        have HC8:=hiD (rrun_any HP.out HCO.out f given (min fuel 3000) x HRX.out _ _ w8 (HV7.out.mods hmc8 (fun _ _ f=>f)) hin HGN.out.2.2.2.1 HFU.out.1 HFU.out.2)
        have HW8:=hiD (HW7.out.trans hmc8)
        have HZ8:=hiD (HZ7.out.1.mods hmc8 (fun _ _ f=>f))
        clear hmc8 hin H8
        go_at_call 28
        refine HC8.out.mono ?_
        rintro e w9 ⟨u2,rfl,⟨ya,yc,rfl,hy1,hy2,hy3⟩,hm9⟩
        have HW9:=hiD (HW8.out.trans hm9)
        have HCE:=hiD (same_end x.1 x.2.1 _ _ _ _ _ _ x.2.2 w9 (HZ8.out.mods hm9 (fun _ _ f=>f)) hy1 (by omega))
        clear hm9 hy1 hy2 hy3 HC8
        go_wp2_with fail
        go_at_call 27
        refine HCE.out.mono ?_
        rintro e w10 ⟨rfl,hm10⟩
        have HW10:=hiD (HW9.out.trans hm10)
        clear hm10 HCE
        go_wp2_with fail
        go_ret
        exact ⟨rfl,HW10.out⟩
   · have HC:=hiD (fun (w:World) (hm:Mods None w3 w)=>show Calls Tryz.prog 25 #[_] w fun e w'=>e=.returned (.agg #[.int .i64 n,.int .i64 a])∧Mods None w w' from by have:=HCK.out w hm;rw [hck] at this;exact this)
     clear hck HNX HCK h1
     go_wp2_with fail
     go_region_with (first|(go_at_call 25;refine (HC.out _ (Mods.refl _ _).drew).mono ?_;rintro e w4 ⟨rfl,hm4⟩;have HM4:=hiD hm4;obtain ⟨-,d04,d14⟩:=(HLr.out _ (HW3.out.trans ((Mods.refl None w3).drew.trans hm4))).1.fine;clear hm4))
     all_goals
        go_wp2_with fail
        go_ret
        exact ⟨rfl,HW3.out.trans ((Mods.refl None w3).drew.trans HM4.out)⟩
end Go.Proofs.YtdgedlhefjmcpaaGreatDoor.TreeP.R
namespace Go.Proofs.YtdgedlhefjmcpaaGreatDoor.TreeP
open Go.RowKit Go.Proofs.YtdgedlhefjmcpaaGreatDoor.Wo
set_option linter.unusedVariables false
set_option linter.unusedSimpArgs false
theorem nums_in {W:World} {v:Value} {l:List Int} (h:Wo.NumsAt W v l):InAt W None v l∧∀ n c,v=.slice none n c→c=0:=by
 obtain ⟨a,n,c,rfl,h1,h2,h3,h4,-,h5⟩:=h
 refine ⟨⟨a,n,c,rfl,h1,h2,h3,fun i x hx=>?_⟩,fun n' c' e=>?_⟩
 · obtain ⟨g,o,e1,e2⟩:=h5 i x hx
   exact ⟨g,o,e1,fun f=>f,e2⟩
 · obtain ⟨e1,-,e2⟩:=Value.slice.inj e
   rw [← e2]
   exact h4 e1
end Go.Proofs.YtdgedlhefjmcpaaGreatDoor.TreeP

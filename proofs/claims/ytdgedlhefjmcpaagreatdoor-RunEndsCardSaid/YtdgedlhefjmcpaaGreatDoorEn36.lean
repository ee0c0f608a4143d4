/- The document's runner: each kind of statement. Conditions: what it has lies. -/
import Derived.Test.YtdgedlhefjmcpaaGreatDoorEn27
import Derived.Test.YtdgedlhefjmcpaaGreatDoorEn33
namespace Go.Proofs.YtdgedlhefjmcpaaGreatDoor.TreeP.R
open Go.RowKit Go.Proofs.YtdgedlhefjmcpaaGreatDoor.Wo Go.Proofs.YtdgedlhefjmcpaaGreatDoor.TreeP Go.Proofs.YtdgedlhefjmcpaaGreatDoor.AluP
set_option linter.unusedVariables false
set_option linter.unusedSimpArgs false
structure Sb (W0 w:World) (P M:Nat→Prop) (b nb q:Nat) (cs:List Value):Prop where
 c4:Blk w q [.pointer (some ⟨b,0,none⟩)] 126
 c6:Blk w (q+1) [.pointer (some ⟨nb,0,none⟩)] 168
 c7:Blk w (q+1+1) cs 143
 nm:∀ k,q≤k→k≤q+1+1→¬ M k∧¬ P k
 at_:W0.heap.size≤q
theorem Sb.step {W0 w w':World} {P M M' T:Nat→Prop} {b nb q:Nat} {cs:List Value} (h:Sb W0 w P M b nb q cs) (hE:Ext T M M' w w') (hT:∀ k,T k→k<q):Sb W0 w' P M' b nb q cs:=by
 have hl:=h.c7.lt
 have no:∀ k,q≤k→k≤q+1+1→¬ (T k∨M k):=fun k h1 h2 hk=>hk.elim (fun ht=>by have:=hT k ht;omega) (h.nm k h1 h2).1
 exact ⟨h.c4.mods hE.mods (no q (by omega) (by omega)),h.c6.mods hE.mods (no (q+1) (by omega) (by omega)),h.c7.mods hE.mods (no (q+1+1) (by omega) (by omega)),fun k h1 h2=>⟨fun hm=>(h.nm k h1 h2).1 (hE.back k (by omega) hm),(h.nm k h1 h2).2⟩,h.at_⟩
def boxes (W:World) (b nb:Nat) (cs:List Value):World :=
 ((W.alloc (.cells #[.pointer (some ⟨b,0,none⟩)] 126)).alloc (.cells #[.pointer (some ⟨nb,0,none⟩)] 168)).alloc (.cells cs.toArray 143)
theorem boxes_mods (W:World) (b nb:Nat) (cs:List Value):Mods None W (boxes W b nb cs):=(((Mods.refl _ _).alloc _).alloc _).alloc _
theorem Sb.new {W:World} {P M:Nat→Prop} (b nb:Nat) (cs:List Value) (hM:∀ k,M k→k<W.heap.size) (hP:∀ k,P k→k<W.heap.size):Sb W (boxes W b nb cs) P M b nb W.heap.size cs:=by
 have e1:(W.alloc (.cells #[.pointer (some ⟨b,0,none⟩)] 126)).heap.size=W.heap.size+1:=by simp
 have e2:((W.alloc (.cells #[.pointer (some ⟨b,0,none⟩)] 126)).alloc (.cells #[.pointer (some ⟨nb,0,none⟩)] 168)).heap.size=W.heap.size+1+1:=by simp
 refine ⟨((Blk.new W _ _).alloc _).alloc _,?_,?_,fun k h1 _=>⟨fun hm=>absurd (hM k hm) (by omega),fun hp=>absurd (hP k hp) (by omega)⟩,Nat.le_refl _⟩
 · have:=(Blk.new (W.alloc (.cells #[.pointer (some ⟨b,0,none⟩)] 126)) #[.pointer (some ⟨nb,0,none⟩)] 168).alloc (.cells cs.toArray 143)
   rw [e1] at this
   exact this
 · have:=Blk.new ((W.alloc (.cells #[.pointer (some ⟨b,0,none⟩)] 126)).alloc (.cells #[.pointer (some ⟨nb,0,none⟩)] 168)) cs.toArray 143
   rw [e2] at this
   have h9:Blk (((W.alloc (.cells #[.pointer (some ⟨b,0,none⟩)] 126)).alloc (.cells #[.pointer (some ⟨nb,0,none⟩)] 168)).alloc (.cells cs.toArray 143)) (W.heap.size+1+1) cs 143:=by simpa using this
   exact h9
set_option maxRecDepth 100000 in
theorem going_any (q b nb:Nat) (k:Int) (told:Bool) (W:World) (h4:W.cell? ⟨q,0,none⟩=some (.pointer (some ⟨b,0,none⟩))) (h6:W.cell? ⟨q+1,0,none⟩=some (.pointer (some ⟨nb,0,none⟩))) (hw:W.cell? ⟨b,4,none⟩=some (.int .i64 k)) (ht:W.cell? ⟨nb,1,none⟩=some (.bool told)) :
 Calls Tryz.prog 145 #[.pointer (some ⟨q,0,none⟩),.pointer (some ⟨q+1,0,none⟩)] W fun e w=>e=.returned (.bool (k==0 && !told))∧W=w:=by
 by_cases hk:k=0
 · subst hk
   go_enter Tryz.func145,Tryz.ntmps145
   go_wp2_with fail
   go_ret
   exact ⟨rfl,rfl⟩
 · have hk:(k==0)=false:=by simpa using hk
   go_enter Tryz.func145,Tryz.ntmps145
   go_wp2_with fail
   go_ret
   exact ⟨by rw [hk];rfl,rfl⟩
theorem WEnd.go_no {W:World} {b:Nat} {P M:Nat→Prop} {k:Int} {out:List Int} (h:WEnd W b P M k out):W.cell? ⟨b,4,none⟩=some (.int .i64 k)∧(k==0)=false:=by
 obtain ⟨av,iv,k0,c,ov,m,r,hb,-⟩:=h.blk
 exact ⟨hb.cell rfl,by have:=h.way;simp;omega⟩
theorem WAt.go_yes {W:World} {b:Nat} {P M:Nat→Prop} {A:List (Nat×Nat)} {s:RS} (h:WAt W b P M A s):W.cell? ⟨b,4,none⟩=some (.int .i64 0):=by
 obtain ⟨av,iv,k,ov,hb,-⟩:=h.blk
 exact hb.cell rfl
theorem WAt.fuelAt {W:World} {b:Nat} {P M:Nat→Prop} {A:List (Nat×Nat)} {s:RS} (h:WAt W b P M A s):(intOf ((W.cell? ⟨b,2,none⟩).getD (.int .i64 0))).toNat=s.fuel:=by
 obtain ⟨av,iv,k,ov,hb,⟨hk,-⟩,-⟩:=h.blk
 rw [hb.cell (i:=2) rfl,hk]
 rfl
theorem names_off {W:World} {P M:Nat→Prop} {nb mb n:Nat} {F:Fr} {told:Bool} {out:Int} (h:NtAt W P M nb mb n F told out):∀ k,Tn nb mb k→k<W.heap.size:=fun k hk=>by
 obtain ⟨-,-,-,h1,h2⟩:=h.off
 rcases hk with rfl|rfl <;> omega
def SwAt (L:List Fn) (K f:Nat) (x:St):Prop:=∀ (cs:List Value) (b:Nat) (P M:Nat→Prop) (A:List (Nat×Nat)) (s:RS) (N N':Nm) (m m':Nat) (F:Fr) (nb mb n NN d:Nat) (la:Option Addr) (ln lc:Nat) (W:World) (r:Except Sig Fr×RS),
 PreS L W b P M A s N F nb mb n (.slice la ln lc)→FitS x d→FewS K x→stmtK L N m x=.ok (N',m')→s.arrs.length+K*s.fuel+K≤1000000000000→n+1+s.fuel≤NN→NN≤4100000000000000000→StAt W (fun k=>¬ P k) x cs→stmtB L f s F x=some r →
 Calls Tryz.prog 126 #[.pointer (some ⟨b,0,none⟩),.slice la ln lc,.pointer (some ⟨nb,0,none⟩),.agg cs.toArray] W (ResS W b P M A nb mb NN r)
set_option maxRecDepth 100000 in
set_option maxHeartbeats 1600000 in
theorem sw_var {L:List Fn} {K f:Nat} (hL:∀ x∈L,FewSs K x.body) (hN:∀ x∈L,NumSts x.body) (ihe:∀ k,k≤f→EwC L K k) (ihb:∀ k,k≤f→BwC L K k) (a:Int) (x:List UInt8) (v:Ex):SwAt L K f (.var a x v):=by
 intro cs b P M A s N N' m m' F nb mb n NN d la ln lc W r h hd hk ht hfew hroom hNN hs hr
 have hmf:∀ (fn:Go.Fn) (first cap:Array Value) (w:World),(Instr.makeFunc fn first cap).run Tryz.prog w=.ok (.func fn first cap) w:=fun _ _ _ _=>rfl
 simp only [StAt] at hs
 obtain ⟨xv,rfl,hxv⟩:=hs
 have HP:=hiD h
 obtain ⟨cs,hcs⟩:∃ cs,cs=cells7 1 a x nilP xv nilS nilS:=⟨_,rfl⟩
 obtain ⟨W3,hW3⟩:∃ W3,W3=boxes W b nb (cells7 1 a x nilP xv nilS nilS):=⟨_,rfl⟩
 have HM:Hid (Mods None W W3):=hiD (by rw [hW3];exact boxes_mods _ _ _ _)
 have HB:Hid (Sb W W3 P M b nb W.heap.size cs):=hiD (by rw [hW3,hcs];exact Sb.new _ _ _ h.wd.old h.wd.given)
 have HP3:=hiD (h.quiet HM.out)
 have HTN:Hid (∀ k,Tn nb mb k→k<W.heap.size):=hiD (names_off h.ns)
 have q4:=HB.out.c4.cell (i:=0) rfl
 have q6:=HB.out.c6.cell (i:=0) rfl
 have q7:=HB.out.c7
 rw [hcs] at q7
 have e0:=q7.cell (i:=0) rfl
 have e2:=q7.cell (i:=2) rfl
 have e4:=q7.cell (i:=4) rfl
 simp only [FitS] at hd
 obtain ⟨hxn,hdv⟩:=hd
 simp only [FewS] at hk
 simp only [stmtK] at ht
 obtain ⟨tv,ht1,ht2⟩:=bindK_ok2 ht
 simp only [stmtB] at hr
 obtain ⟨y,hy⟩:∃ y,evE L f s F v=some y:=by
  cases hy:evE L f s F v with
  | none=>rw [hy] at hr;cases hr
  | some y=>exact ⟨y,rfl⟩
 have HC:=hiD (ihe f (Nat.le_refl _) v b P M A s N F nb n la ln lc W3 _ tv y HP3.out.pre ⟨_,hdv⟩ ht1 (by omega) (ew_far hxv HM.out) hy)
 have HAF:=hiD (fun (w:World) (M':Nat→Prop) (A':List (Nat×Nat)) (u:V) (s1:RS) (e:y=(.ok u,s1)) (hw:WAt w b P M' A' s1) (hE:Ext None M M' W3 w)=>PreS.after (c:=0) (B:=1000000000000) hL hN HP3.out ht1 hdv (by rw [hy,e]) hE hw (by omega))
 have HBU:Hid (∀ u s1,y=(.ok u,s1)→s1.fuel≤s.fuel):=hiD (fun u s1 e=>by
  have:=(less_all L f).1 s F v y hy
  rw [e] at this
  exact this)
 have HRM:=hiD (And.intro hroom hNN)
 rw [hy] at hr
 have HR:=hiD hr
 obtain ⟨xg,rfl⟩:=hxv.ptr
 have HXN:=hiD (Nat.le_trans hxn.2.2.2 (by decide:12≤10000000))
 clear q7 hxv hxn hdv ht1 ht2
 clear h hk ht hfew hroom hNN hr hy ihe ihb hL hN
 unfold boxes at hW3
 unfold cells7 at *
 try unfold str at *
 try unfold nilP at *
 try unfold nilS at *
 go_enter Tryz.func126,Tryz.ntmps126
 go_upto_region 1 with (fail)
 rw [← hW3]
 clear hW3
 go_wp2_with fail
 go_at_call 146
 refine HC.out.mono ?_
 intro e w hR
 clear HC
 obtain ⟨y,s1⟩:=y
 cases y with
 | error sg =>
   cases sg with
   | ret k=>exact hR.elim
   | stop k =>
     obtain ⟨n',M',rfl,-,-,hW,hE⟩:=hR
     have hr:=HR.out
     obtain rfl:=(Option.some.inj hr).symm
     have HBw:=hiD (HB.out.step hE (fun _ f=>f.elim))
     have hns:=HP3.out.ns.ext hE
     have HF:=hiD (show ResS W b P M A nb mb NN (.error (.stop k),s1) (.returned (.tuple #[])) w from ⟨rfl,M',n,F,hW,hns,((Ext.quiet (T:=None) HM.out).trans hE).sole⟩)
     obtain ⟨w4,hk0⟩:=hW.go_no
     have t1:=hns.cells.2.1
     have g4:=HBw.out.c4.cell (i:=0) rfl
     have g6:=HBw.out.c6.cell (i:=0) rfl
     have HGO:=hiD (going_any W.heap.size b nb k false w g4 g6 w4 t1)
     clear hW hE hns w4 t1 g4 g6 hr HR HAF
     go_wp2_with fail
     go_at_call 145
     refine HGO.out.mono ?_
     rintro e w6 ⟨rfl,rfl⟩
     rw [hk0]
     go_wp2_with fail
     go_end0
     exact HF.out
 | ok u =>
   obtain ⟨rfl,M',A',hw,hE,hA⟩:=hR
   obtain ⟨hpre,hfw,hvt,hvi⟩:=HAF.out w M' A' u s1 rfl hw hE
   have HBw:=hiD (HB.out.step hE (fun _ f=>f.elim))
   have HPW:=hiD hpre
   have HEX:=hiD ((Ext.quiet (T:=None) HM.out).trans hE)
   have HAX:=hiD hA
   have HVT:=hiD (And.intro hvt (And.intro hvi (HBU.out u s1 rfl)))
   have w4:=hw.go_yes
   have t1:=hpre.ns.cells.2.1
   have g4:=HBw.out.c4.cell (i:=0) rfl
   have g6:=HBw.out.c6.cell (i:=0) rfl
   have HGO:=hiD (going_any W.heap.size b nb 0 false w g4 g6 w4 t1)
   have g7:=HBw.out.c7
   rw [hcs] at g7
   have e0:=g7.cell (i:=0) rfl
   have HFW:=hiD hfw
   clear hw hE hA hpre hfw hvt hvi HAF HB HBU w4 t1
   go_wp2_with fail
   go_at_call 145
   refine HGO.out.mono ?_
   rintro e w6 ⟨rfl,rfl⟩
   clear HGO
   have e2:=g7.cell (i:=2) rfl
   obtain ⟨n0,-⟩:=HPW.out.ns.cells
   have hr:=HR.out
   obtain rfl:=(Option.some.inj hr).symm
   obtain ⟨w9,hu,hn9,hm9⟩:=(HPW.out.ns.ext (Ext.quiet (Mods.refl None w).drew)).put x HXN.out u (by have h1:=HRM.out.1;have h2:=HRM.out.2;unfold maxLen;omega)
   have HN9:=hiD hn9
   have HM9:Hid (Mods (·=mb) w w9):=hiD (((Mods.refl None w).drew.mono fun _ _ f=>f.elim).trans hm9)
   have HF:Hid (ResS W b P M A nb mb NN (.ok (F.put x u),s1) (.returned (.tuple #[])) w9):=hiD (by
    obtain ⟨o1,o2,-⟩:=HPW.out.ns.off
    refine ⟨rfl,M',A',n+1,HPW.out.wd.aside HM9.out (fun k e=>by rw [e];exact o2),HN9.out,?_,(HEX.out.sole (T:=Tn nb mb)).trans ⟨HM9.out.mono fun k _ e=>Or.inl (Or.inr e),fun _ _ k=>k⟩,HAX.out⟩
    have h1:=HVT.out.2.2
    have h2:=HRM.out.1
    omega)
   unfold str at hu
   clear hn9 hm9 hr HR HPW
   go_wp2_with fail
   go_region
   go_wp2_with fail
   go_end0
   exact HF.out
set_option maxRecDepth 100000 in
set_option maxHeartbeats 1600000 in
theorem sw_set {L:List Fn} {K f:Nat} (hL:∀ x∈L,FewSs K x.body) (hN:∀ x∈L,NumSts x.body) (ihe:∀ k,k≤f→EwC L K k) (ihb:∀ k,k≤f→BwC L K k) (a:Int) (x:List UInt8) (v:Ex):SwAt L K f (.set a x v):=by
 intro cs b P M A s N N' m m' F nb mb n NN d la ln lc W r h hd hk ht hfew hroom hNN hs hr
 have hmf:∀ (fn:Go.Fn) (first cap:Array Value) (w:World),(Instr.makeFunc fn first cap).run Tryz.prog w=.ok (.func fn first cap) w:=fun _ _ _ _=>rfl
 simp only [StAt] at hs
 obtain ⟨xv,rfl,hxv⟩:=hs
 have HP:=hiD h
 obtain ⟨cs,hcs⟩:∃ cs,cs=cells7 2 a x nilP xv nilS nilS:=⟨_,rfl⟩
 obtain ⟨W3,hW3⟩:∃ W3,W3=boxes W b nb (cells7 2 a x nilP xv nilS nilS):=⟨_,rfl⟩
 have HM:Hid (Mods None W W3):=hiD (by rw [hW3];exact boxes_mods _ _ _ _)
 have HB:Hid (Sb W W3 P M b nb W.heap.size cs):=hiD (by rw [hW3,hcs];exact Sb.new _ _ _ h.wd.old h.wd.given)
 have HP3:=hiD (h.quiet HM.out)
 have HTN:Hid (∀ k,Tn nb mb k→k<W.heap.size):=hiD (names_off h.ns)
 have q4:=HB.out.c4.cell (i:=0) rfl
 have q6:=HB.out.c6.cell (i:=0) rfl
 have q7:=HB.out.c7
 rw [hcs] at q7
 have e0:=q7.cell (i:=0) rfl
 have e2:=q7.cell (i:=2) rfl
 have e4:=q7.cell (i:=4) rfl
 simp only [FitS] at hd
 obtain ⟨hxn,hdv⟩:=hd
 simp only [FewS] at hk
 simp only [stmtK] at ht
 by_cases hf0:findN N x=0
 · rw [if_pos hf0] at ht;cases ht
 rw [if_neg hf0] at ht
 obtain ⟨u0,ht1,ht2⟩:=bindK_ok2 ht
 have ht1:=wantK_ok ht1
 simp only [stmtB] at hr
 obtain ⟨y,hy⟩:∃ y,evE L f s F v=some y:=by
  cases hy:evE L f s F v with
  | none=>rw [hy] at hr;cases hr
  | some y=>exact ⟨y,rfl⟩
 have HC:=hiD (ihe f (Nat.le_refl _) v b P M A s N F nb n la ln lc W3 _ (findN N x) y HP3.out.pre ⟨_,hdv⟩ ht1 (by omega) (ew_far hxv HM.out) hy)
 have HAF:=hiD (fun (w:World) (M':Nat→Prop) (A':List (Nat×Nat)) (u:V) (s1:RS) (e:y=(.ok u,s1)) (hw:WAt w b P M' A' s1) (hE:Ext None M M' W3 w)=>PreS.after (c:=0) (B:=1000000000000) hL hN HP3.out ht1 hdv (by rw [hy,e]) hE hw (by omega))
 have HBU:Hid (∀ u s1,y=(.ok u,s1)→s1.fuel≤s.fuel):=hiD (fun u s1 e=>by
  have:=(less_all L f).1 s F v y hy
  rw [e] at this
  exact this)
 have HRM:=hiD (And.intro hroom hNN)
 rw [hy] at hr
 have HR:=hiD hr
 obtain ⟨xg,rfl⟩:=hxv.ptr
 have HXN:=hiD (Nat.le_trans hxn.2.2.2 (by decide:12≤10000000))
 clear q7 hxv hxn hdv ht1 ht2 hf0
 clear h hk ht hfew hroom hNN hr hy ihe ihb hL hN
 unfold boxes at hW3
 unfold cells7 at *
 try unfold str at *
 try unfold nilP at *
 try unfold nilS at *
 go_enter Tryz.func126,Tryz.ntmps126
 go_upto_region 1 with (fail)
 rw [← hW3]
 clear hW3
 go_wp2_with fail
 go_at_call 146
 refine HC.out.mono ?_
 intro e w hR
 clear HC
 obtain ⟨y,s1⟩:=y
 cases y with
 | error sg =>
   cases sg with
   | ret k=>exact hR.elim
   | stop k =>
     obtain ⟨n',M',rfl,-,-,hW,hE⟩:=hR
     have hr:=HR.out
     obtain rfl:=(Option.some.inj hr).symm
     have HBw:=hiD (HB.out.step hE (fun _ f=>f.elim))
     have hns:=HP3.out.ns.ext hE
     have HF:=hiD (show ResS W b P M A nb mb NN (.error (.stop k),s1) (.returned (.tuple #[])) w from ⟨rfl,M',n,F,hW,hns,((Ext.quiet (T:=None) HM.out).trans hE).sole⟩)
     obtain ⟨w4,hk0⟩:=hW.go_no
     have t1:=hns.cells.2.1
     have g4:=HBw.out.c4.cell (i:=0) rfl
     have g6:=HBw.out.c6.cell (i:=0) rfl
     have HGO:=hiD (going_any W.heap.size b nb k false w g4 g6 w4 t1)
     clear hW hE hns w4 t1 g4 g6 hr HR HAF
     go_wp2_with fail
     go_at_call 145
     refine HGO.out.mono ?_
     rintro e w6 ⟨rfl,rfl⟩
     rw [hk0]
     go_wp2_with fail
     go_end0
     exact HF.out
 | ok u =>
   obtain ⟨rfl,M',A',hw,hE,hA⟩:=hR
   obtain ⟨hpre,hfw,hvt,hvi⟩:=HAF.out w M' A' u s1 rfl hw hE
   have HBw:=hiD (HB.out.step hE (fun _ f=>f.elim))
   have HPW:=hiD hpre
   have HEX:=hiD ((Ext.quiet (T:=None) HM.out).trans hE)
   have HAX:=hiD hA
   have HVT:=hiD (And.intro hvt (And.intro hvi (HBU.out u s1 rfl)))
   have w4:=hw.go_yes
   have t1:=hpre.ns.cells.2.1
   have g4:=HBw.out.c4.cell (i:=0) rfl
   have g6:=HBw.out.c6.cell (i:=0) rfl
   have HGO:=hiD (going_any W.heap.size b nb 0 false w g4 g6 w4 t1)
   have g7:=HBw.out.c7
   rw [hcs] at g7
   have e0:=g7.cell (i:=0) rfl
   have HFW:=hiD hfw
   clear hw hE hA hpre hfw hvt hvi HAF HB HBU w4 t1
   go_wp2_with fail
   go_at_call 145
   refine HGO.out.mono ?_
   rintro e w6 ⟨rfl,rfl⟩
   clear HGO
   have e2:=g7.cell (i:=2) rfl
   obtain ⟨n0,-⟩:=HPW.out.ns.cells
   have hr:=HR.out
   obtain rfl:=(Option.some.inj hr).symm
   obtain ⟨w9,hu,hn9,hm9⟩:=(HPW.out.ns.ext (Ext.quiet (Mods.refl None w).drew)).put x HXN.out u (by have h1:=HRM.out.1;have h2:=HRM.out.2;unfold maxLen;omega)
   have HN9:=hiD hn9
   have HM9:Hid (Mods (·=mb) w w9):=hiD (((Mods.refl None w).drew.mono fun _ _ f=>f.elim).trans hm9)
   have HF:Hid (ResS W b P M A nb mb NN (.ok (F.put x u),s1) (.returned (.tuple #[])) w9):=hiD (by
    obtain ⟨o1,o2,-⟩:=HPW.out.ns.off
    refine ⟨rfl,M',A',n+1,HPW.out.wd.aside HM9.out (fun k e=>by rw [e];exact o2),HN9.out,?_,(HEX.out.sole (T:=Tn nb mb)).trans ⟨HM9.out.mono fun k _ e=>Or.inl (Or.inr e),fun _ _ k=>k⟩,HAX.out⟩
    have h1:=HVT.out.2.2
    have h2:=HRM.out.1
    omega)
   unfold str at hu
   clear hn9 hm9 hr HR HPW
   go_wp2_with fail
   go_region
   go_wp2_with fail
   go_end0
   exact HF.out
set_option maxRecDepth 100000 in
set_option maxHeartbeats 1600000 in
theorem sw_print {L:List Fn} {K f:Nat} (hL:∀ x∈L,FewSs K x.body) (hN:∀ x∈L,NumSts x.body) (ihe:∀ k,k≤f→EwC L K k) (ihb:∀ k,k≤f→BwC L K k) (a:Int) (v:Ex):SwAt L K f (.print a v):=by
 intro cs b P M A s N N' m m' F nb mb n NN d la ln lc W r h hd hk ht hfew hroom hNN hs hr
 have hmf:∀ (fn:Go.Fn) (first cap:Array Value) (w:World),(Instr.makeFunc fn first cap).run Tryz.prog w=.ok (.func fn first cap) w:=fun _ _ _ _=>rfl
 simp only [StAt] at hs
 obtain ⟨xv,rfl,hxv⟩:=hs
 have HP:=hiD h
 obtain ⟨cs,hcs⟩:∃ cs,cs=cells7 7 a [] nilP xv nilS nilS:=⟨_,rfl⟩
 obtain ⟨W3,hW3⟩:∃ W3,W3=boxes W b nb (cells7 7 a [] nilP xv nilS nilS):=⟨_,rfl⟩
 have HM:Hid (Mods None W W3):=hiD (by rw [hW3];exact boxes_mods _ _ _ _)
 have HB:Hid (Sb W W3 P M b nb W.heap.size cs):=hiD (by rw [hW3,hcs];exact Sb.new _ _ _ h.wd.old h.wd.given)
 have HP3:=hiD (h.quiet HM.out)
 have HTN:Hid (∀ k,Tn nb mb k→k<W.heap.size):=hiD (names_off h.ns)
 have q4:=HB.out.c4.cell (i:=0) rfl
 have q6:=HB.out.c6.cell (i:=0) rfl
 have q7:=HB.out.c7
 rw [hcs] at q7
 have e0:=q7.cell (i:=0) rfl
 have e4:=q7.cell (i:=4) rfl
 simp only [FitS] at hd
 have hdv:=hd
 simp only [FewS] at hk
 simp only [stmtK] at ht
 obtain ⟨u0,ht1,ht2⟩:=bindK_ok2 ht
 have ht1:=wantK_ok ht1
 simp only [stmtB] at hr
 obtain ⟨y,hy⟩:∃ y,evE L f s F v=some y:=by
  cases hy:evE L f s F v with
  | none=>rw [hy] at hr;cases hr
  | some y=>exact ⟨y,rfl⟩
 have HC:=hiD (ihe f (Nat.le_refl _) v b P M A s N F nb n la ln lc W3 _ 1 y HP3.out.pre ⟨_,hdv⟩ ht1 (by omega) (ew_far hxv HM.out) hy)
 have HAF:=hiD (fun (w:World) (M':Nat→Prop) (A':List (Nat×Nat)) (u:V) (s1:RS) (e:y=(.ok u,s1)) (hw:WAt w b P M' A' s1) (hE:Ext None M M' W3 w)=>PreS.after (c:=0) (B:=1000000000000) hL hN HP3.out ht1 hdv (by rw [hy,e]) hE hw (by omega))
 have HBU:Hid (∀ u s1,y=(.ok u,s1)→s1.fuel≤s.fuel):=hiD (fun u s1 e=>by
  have:=(less_all L f).1 s F v y hy
  rw [e] at this
  exact this)
 have HRM:=hiD (And.intro hroom hNN)
 rw [hy] at hr
 have HR:=hiD hr
 obtain ⟨xg,rfl⟩:=hxv.ptr
 clear q7 hxv hdv ht1 ht2
 clear h hd hk ht hfew hroom hNN hr hy ihe ihb hL hN
 unfold boxes at hW3
 unfold cells7 at *
 try unfold str at *
 try unfold nilP at *
 try unfold nilS at *
 go_enter Tryz.func126,Tryz.ntmps126
 go_upto_region 1 with (fail)
 rw [← hW3]
 clear hW3
 go_wp2_with fail
 go_at_call 146
 refine HC.out.mono ?_
 intro e w hR
 clear HC
 obtain ⟨y,s1⟩:=y
 cases y with
 | error sg =>
   cases sg with
   | ret k=>exact hR.elim
   | stop k =>
     obtain ⟨n',M',rfl,-,-,hW,hE⟩:=hR
     have hr:=HR.out
     obtain rfl:=(Option.some.inj hr).symm
     have HBw:=hiD (HB.out.step hE (fun _ f=>f.elim))
     have hns:=HP3.out.ns.ext hE
     have HF:=hiD (show ResS W b P M A nb mb NN (.error (.stop k),s1) (.returned (.tuple #[])) w from ⟨rfl,M',n,F,hW,hns,((Ext.quiet (T:=None) HM.out).trans hE).sole⟩)
     obtain ⟨w4,hk0⟩:=hW.go_no
     have t1:=hns.cells.2.1
     have g4:=HBw.out.c4.cell (i:=0) rfl
     have g6:=HBw.out.c6.cell (i:=0) rfl
     have HGO:=hiD (going_any W.heap.size b nb k false w g4 g6 w4 t1)
     clear hW hE hns w4 t1 g4 g6 hr HR HAF
     go_wp2_with fail
     go_at_call 145
     refine HGO.out.mono ?_
     rintro e w6 ⟨rfl,rfl⟩
     rw [hk0]
     go_wp2_with fail
     go_end0
     exact HF.out
 | ok u =>
   obtain ⟨rfl,M',A',hw,hE,hA⟩:=hR
   obtain ⟨hpre,hfw,hvt,hvi⟩:=HAF.out w M' A' u s1 rfl hw hE
   have HBw:=hiD (HB.out.step hE (fun _ f=>f.elim))
   have HPW:=hiD hpre
   have HEX:=hiD ((Ext.quiet (T:=None) HM.out).trans hE)
   have HAX:=hiD hA
   have HVT:=hiD (And.intro hvt (And.intro hvi (HBU.out u s1 rfl)))
   have w4:=hw.go_yes
   have t1:=hpre.ns.cells.2.1
   have g4:=HBw.out.c4.cell (i:=0) rfl
   have g6:=HBw.out.c6.cell (i:=0) rfl
   have HGO:=hiD (going_any W.heap.size b nb 0 false w g4 g6 w4 t1)
   have g7:=HBw.out.c7
   rw [hcs] at g7
   have e0:=g7.cell (i:=0) rfl
   have HFW:=hiD hfw
   clear hw hE hA hpre hfw hvt hvi HAF HB HBU w4 t1
   go_wp2_with fail
   go_at_call 145
   refine HGO.out.mono ?_
   rintro e w6 ⟨rfl,rfl⟩
   clear HGO
   have hrep:rep u=u.n:=rep_num HVT.out.1
   rw [hrep]
   have HPR:=hiD (print_any None b P M' A' s1 u.n w HPW.out.wd)
   clear hrep
   go_wp2_with fail
   go_at_call 148
   refine HPR.out.mono ?_
   intro e w9 hZ
   have hr:=HR.out
   by_cases hz:s1.out.length≥200
   · have hr:(if s1.out.length≥200 then stopR 7 s1 else okR F { s1 with out:=s1.out++[u.n] })=some r:=hr
     rw [if_pos hz] at hr hZ
     obtain rfl:=(Option.some.inj hr).symm
     obtain ⟨rfl,M9,z1,z2⟩:=hZ
     have HF:=hiD (show ResS W b P M A nb mb NN (.error (.stop 7),s1) (.returned (.tuple #[])) w9 from ⟨rfl,M9,n,F,z1,HPW.out.ns.ext z2,(HEX.out.trans z2).sole⟩)
     clear z1 z2 hr HR HPW
     go_wp2_with fail
     go_end0
     exact HF.out
   · have hr:(if s1.out.length≥200 then stopR 7 s1 else okR F { s1 with out:=s1.out++[u.n] })=some r:=hr
     rw [if_neg hz] at hr hZ
     obtain rfl:=(Option.some.inj hr).symm
     obtain ⟨M9,A9,rfl,z1,z2,z3⟩:=hZ
     have HF:=hiD (show ResS W b P M A nb mb NN (.ok F,{ s1 with out:=s1.out++[u.n] }) (.returned (.tuple #[])) w9 from ⟨rfl,M9,A9,n,z1,HPW.out.ns.ext z2,(by have h1:=HVT.out.2.2;have h2:=HRM.out.1;simp only;omega),(HEX.out.trans z2).sole,HAX.out.trans z3⟩)
     clear z1 z2 z3 hr HR HPW
     go_wp2_with fail
     go_end0
     exact HF.out
set_option maxRecDepth 100000 in
set_option maxHeartbeats 1600000 in
theorem sw_ret {L:List Fn} {K f:Nat} (hL:∀ x∈L,FewSs K x.body) (hN:∀ x∈L,NumSts x.body) (ihe:∀ k,k≤f→EwC L K k) (ihb:∀ k,k≤f→BwC L K k) (a:Int) (v:Ex):SwAt L K f (.ret a v):=by
 intro cs b P M A s N N' m m' F nb mb n NN d la ln lc W r h hd hk ht hfew hroom hNN hs hr
 have hmf:∀ (fn:Go.Fn) (first cap:Array Value) (w:World),(Instr.makeFunc fn first cap).run Tryz.prog w=.ok (.func fn first cap) w:=fun _ _ _ _=>rfl
 simp only [StAt] at hs
 obtain ⟨xv,rfl,hxv⟩:=hs
 have HP:=hiD h
 obtain ⟨cs,hcs⟩:∃ cs,cs=cells7 6 a [] nilP xv nilS nilS:=⟨_,rfl⟩
 obtain ⟨W3,hW3⟩:∃ W3,W3=boxes W b nb (cells7 6 a [] nilP xv nilS nilS):=⟨_,rfl⟩
 have HM:Hid (Mods None W W3):=hiD (by rw [hW3];exact boxes_mods _ _ _ _)
 have HB:Hid (Sb W W3 P M b nb W.heap.size cs):=hiD (by rw [hW3,hcs];exact Sb.new _ _ _ h.wd.old h.wd.given)
 have HP3:=hiD (h.quiet HM.out)
 have HTN:Hid (∀ k,Tn nb mb k→k<W.heap.size):=hiD (names_off h.ns)
 have q4:=HB.out.c4.cell (i:=0) rfl
 have q6:=HB.out.c6.cell (i:=0) rfl
 have q7:=HB.out.c7
 rw [hcs] at q7
 have e0:=q7.cell (i:=0) rfl
 have e4:=q7.cell (i:=4) rfl
 simp only [FitS] at hd
 have hdv:=hd
 simp only [FewS] at hk
 simp only [stmtK] at ht
 obtain ⟨u0,ht1,ht2⟩:=bindK_ok2 ht
 have ht1:=wantK_ok ht1
 simp only [stmtB] at hr
 obtain ⟨y,hy⟩:∃ y,evE L f s F v=some y:=by
  cases hy:evE L f s F v with
  | none=>rw [hy] at hr;cases hr
  | some y=>exact ⟨y,rfl⟩
 have HC:=hiD (ihe f (Nat.le_refl _) v b P M A s N F nb n la ln lc W3 _ 1 y HP3.out.pre ⟨_,hdv⟩ ht1 (by omega) (ew_far hxv HM.out) hy)
 have HAF:=hiD (fun (w:World) (M':Nat→Prop) (A':List (Nat×Nat)) (u:V) (s1:RS) (e:y=(.ok u,s1)) (hw:WAt w b P M' A' s1) (hE:Ext None M M' W3 w)=>PreS.after (c:=0) (B:=1000000000000) hL hN HP3.out ht1 hdv (by rw [hy,e]) hE hw (by omega))
 have HBU:Hid (∀ u s1,y=(.ok u,s1)→s1.fuel≤s.fuel):=hiD (fun u s1 e=>by
  have:=(less_all L f).1 s F v y hy
  rw [e] at this
  exact this)
 have HRM:=hiD (And.intro hroom hNN)
 rw [hy] at hr
 have HR:=hiD hr
 obtain ⟨xg,rfl⟩:=hxv.ptr
 clear q7 hxv hdv ht1 ht2
 clear h hd hk ht hfew hroom hNN hr hy ihe ihb hL hN
 unfold boxes at hW3
 unfold cells7 at *
 try unfold str at *
 try unfold nilP at *
 try unfold nilS at *
 go_enter Tryz.func126,Tryz.ntmps126
 go_upto_region 1 with (fail)
 rw [← hW3]
 clear hW3
 go_wp2_with fail
 go_at_call 146
 refine HC.out.mono ?_
 intro e w hR
 clear HC
 obtain ⟨y,s1⟩:=y
 cases y with
 | error sg =>
   cases sg with
   | ret k=>exact hR.elim
   | stop k =>
     obtain ⟨n',M',rfl,-,-,hW,hE⟩:=hR
     have hr:=HR.out
     obtain rfl:=(Option.some.inj hr).symm
     have HBw:=hiD (HB.out.step hE (fun _ f=>f.elim))
     have hns:=HP3.out.ns.ext hE
     have HF:=hiD (show ResS W b P M A nb mb NN (.error (.stop k),s1) (.returned (.tuple #[])) w from ⟨rfl,M',n,F,hW,hns,((Ext.quiet (T:=None) HM.out).trans hE).sole⟩)
     obtain ⟨w4,hk0⟩:=hW.go_no
     have t1:=hns.cells.2.1
     have g4:=HBw.out.c4.cell (i:=0) rfl
     have g6:=HBw.out.c6.cell (i:=0) rfl
     have HGO:=hiD (going_any W.heap.size b nb k false w g4 g6 w4 t1)
     clear hW hE hns w4 t1 g4 g6 hr HR HAF
     go_wp2_with fail
     go_at_call 145
     refine HGO.out.mono ?_
     rintro e w6 ⟨rfl,rfl⟩
     rw [hk0]
     go_wp2_with fail
     go_end0
     exact HF.out
 | ok u =>
   obtain ⟨rfl,M',A',hw,hE,hA⟩:=hR
   obtain ⟨hpre,hfw,hvt,hvi⟩:=HAF.out w M' A' u s1 rfl hw hE
   have HBw:=hiD (HB.out.step hE (fun _ f=>f.elim))
   have HPW:=hiD hpre
   have HEX:=hiD ((Ext.quiet (T:=None) HM.out).trans hE)
   have HAX:=hiD hA
   have HVT:=hiD (And.intro hvt (And.intro hvi (HBU.out u s1 rfl)))
   have w4:=hw.go_yes
   have t1:=hpre.ns.cells.2.1
   have g4:=HBw.out.c4.cell (i:=0) rfl
   have g6:=HBw.out.c6.cell (i:=0) rfl
   have HGO:=hiD (going_any W.heap.size b nb 0 false w g4 g6 w4 t1)
   have g7:=HBw.out.c7
   rw [hcs] at g7
   have e0:=g7.cell (i:=0) rfl
   have HFW:=hiD hfw
   clear hw hE hA hpre hfw hvt hvi HAF HB HBU w4 t1
   go_wp2_with fail
   go_at_call 145
   refine HGO.out.mono ?_
   rintro e w6 ⟨rfl,rfl⟩
   clear HGO
   have hrep:rep u=u.n:=rep_num HVT.out.1
   rw [hrep]
   have hr:=HR.out
   obtain rfl:=(Option.some.inj hr).symm
   obtain ⟨w9,hw9⟩:∃ w9,w9=(w.drew.setCell ⟨nb,2,none⟩ (.int .i64 u.n)).setCell ⟨nb,1,none⟩ (.bool true):=⟨_,rfl⟩
   have hm9:Mods (·=nb) w w9:=by rw [hw9];exact (((Mods.refl None w).drew.mono fun _ _ f=>f.elim).trans (mods_put _ _ _ _)).trans (mods_put _ _ _ _)
   have HF:Hid (ResS W b P M A nb mb NN (.error (.ret u.n),s1) (.returned (.tuple #[])) w9):=hiD (by
    obtain ⟨o1,o2,-⟩:=HPW.out.ns.off
    exact ⟨rfl,M',A',n,F,HPW.out.wd.aside hm9 (fun k e=>by rw [e];exact o1),by rw [hw9];exact (HPW.out.ns.ext (Ext.quiet (Mods.refl None w).drew)).tell u.n,(HEX.out.sole (T:=Tn nb mb)).trans ⟨hm9.mono fun k _ e=>Or.inl (Or.inl e),fun _ _ k=>k⟩,HAX.out⟩)
   rw [hw9] at HF
   obtain ⟨-,t1,t2,z1,z2⟩:=HPW.out.ns.cells
   clear hw9 hm9 hr HR HPW hrep
   go_wp2_with fail
   go_region
   go_wp2_with fail
   go_end0
   exact HF.out
set_option maxRecDepth 100000 in
set_option maxHeartbeats 1600000 in
theorem sw_call {L:List Fn} {K f:Nat} (hL:∀ x∈L,FewSs K x.body) (hN:∀ x∈L,NumSts x.body) (ihe:∀ k,k≤f→EwC L K k) (ihb:∀ k,k≤f→BwC L K k) (a:Int) (v:Ex):SwAt L K f (.call a v):=by
 intro cs b P M A s N N' m m' F nb mb n NN d la ln lc W r h hd hk ht hfew hroom hNN hs hr
 have hmf:∀ (fn:Go.Fn) (first cap:Array Value) (w:World),(Instr.makeFunc fn first cap).run Tryz.prog w=.ok (.func fn first cap) w:=fun _ _ _ _=>rfl
 simp only [StAt] at hs
 obtain ⟨xv,rfl,hxv⟩:=hs
 have HP:=hiD h
 obtain ⟨cs,hcs⟩:∃ cs,cs=cells7 8 a [] nilP xv nilS nilS:=⟨_,rfl⟩
 obtain ⟨W3,hW3⟩:∃ W3,W3=boxes W b nb (cells7 8 a [] nilP xv nilS nilS):=⟨_,rfl⟩
 have HM:Hid (Mods None W W3):=hiD (by rw [hW3];exact boxes_mods _ _ _ _)
 have HB:Hid (Sb W W3 P M b nb W.heap.size cs):=hiD (by rw [hW3,hcs];exact Sb.new _ _ _ h.wd.old h.wd.given)
 have HP3:=hiD (h.quiet HM.out)
 have HTN:Hid (∀ k,Tn nb mb k→k<W.heap.size):=hiD (names_off h.ns)
 have q4:=HB.out.c4.cell (i:=0) rfl
 have q6:=HB.out.c6.cell (i:=0) rfl
 have q7:=HB.out.c7
 rw [hcs] at q7
 have e0:=q7.cell (i:=0) rfl
 have e4:=q7.cell (i:=4) rfl
 simp only [FitS] at hd
 have hdv:=hd.2
 simp only [FewS] at hk
 simp only [stmtK] at ht
 obtain ⟨u0,ht1,ht2⟩:=bindK_ok2 ht
 have ht1:=wantK_ok ht1
 simp only [stmtB] at hr
 obtain ⟨y,hy⟩:∃ y,evE L f s F v=some y:=by
  cases hy:evE L f s F v with
  | none=>rw [hy] at hr;cases hr
  | some y=>exact ⟨y,rfl⟩
 have HC:=hiD (ihe f (Nat.le_refl _) v b P M A s N F nb n la ln lc W3 _ 1 y HP3.out.pre ⟨_,hdv⟩ ht1 (by omega) (ew_far hxv HM.out) hy)
 have HAF:=hiD (fun (w:World) (M':Nat→Prop) (A':List (Nat×Nat)) (u:V) (s1:RS) (e:y=(.ok u,s1)) (hw:WAt w b P M' A' s1) (hE:Ext None M M' W3 w)=>PreS.after (c:=0) (B:=1000000000000) hL hN HP3.out ht1 hdv (by rw [hy,e]) hE hw (by omega))
 have HBU:Hid (∀ u s1,y=(.ok u,s1)→s1.fuel≤s.fuel):=hiD (fun u s1 e=>by
  have:=(less_all L f).1 s F v y hy
  rw [e] at this
  exact this)
 have HRM:=hiD (And.intro hroom hNN)
 rw [hy] at hr
 have HR:=hiD hr
 obtain ⟨xg,rfl⟩:=hxv.ptr
 clear q7 hxv hdv ht1 ht2
 clear h hd hk ht hfew hroom hNN hr hy ihe ihb hL hN
 unfold boxes at hW3
 unfold cells7 at *
 try unfold str at *
 try unfold nilP at *
 try unfold nilS at *
 go_enter Tryz.func126,Tryz.ntmps126
 go_upto_region 1 with (fail)
 rw [← hW3]
 clear hW3
 go_wp2_with fail
 go_at_call 146
 refine HC.out.mono ?_
 intro e w hR
 clear HC
 obtain ⟨y,s1⟩:=y
 cases y with
 | error sg =>
   cases sg with
   | ret k=>exact hR.elim
   | stop k =>
     obtain ⟨n',M',rfl,-,-,hW,hE⟩:=hR
     have hr:=HR.out
     obtain rfl:=(Option.some.inj hr).symm
     have HBw:=hiD (HB.out.step hE (fun _ f=>f.elim))
     have hns:=HP3.out.ns.ext hE
     have HF:=hiD (show ResS W b P M A nb mb NN (.error (.stop k),s1) (.returned (.tuple #[])) w from ⟨rfl,M',n,F,hW,hns,((Ext.quiet (T:=None) HM.out).trans hE).sole⟩)
     obtain ⟨w4,hk0⟩:=hW.go_no
     have t1:=hns.cells.2.1
     have g4:=HBw.out.c4.cell (i:=0) rfl
     have g6:=HBw.out.c6.cell (i:=0) rfl
     have HGO:=hiD (going_any W.heap.size b nb k false w g4 g6 w4 t1)
     clear hW hE hns w4 t1 g4 g6 hr HR HAF
     go_wp2_with fail
     go_at_call 145
     refine HGO.out.mono ?_
     rintro e w6 ⟨rfl,rfl⟩
     rw [hk0]
     go_wp2_with fail
     go_end0
     exact HF.out
 | ok u =>
   obtain ⟨rfl,M',A',hw,hE,hA⟩:=hR
   obtain ⟨hpre,hfw,hvt,hvi⟩:=HAF.out w M' A' u s1 rfl hw hE
   have HBw:=hiD (HB.out.step hE (fun _ f=>f.elim))
   have HPW:=hiD hpre
   have HEX:=hiD ((Ext.quiet (T:=None) HM.out).trans hE)
   have HAX:=hiD hA
   have HVT:=hiD (And.intro hvt (And.intro hvi (HBU.out u s1 rfl)))
   have w4:=hw.go_yes
   have t1:=hpre.ns.cells.2.1
   have g4:=HBw.out.c4.cell (i:=0) rfl
   have g6:=HBw.out.c6.cell (i:=0) rfl
   have HGO:=hiD (going_any W.heap.size b nb 0 false w g4 g6 w4 t1)
   have g7:=HBw.out.c7
   rw [hcs] at g7
   have e0:=g7.cell (i:=0) rfl
   have HFW:=hiD hfw
   clear hw hE hA hpre hfw hvt hvi HAF HB HBU w4 t1
   go_wp2_with fail
   go_at_call 145
   refine HGO.out.mono ?_
   rintro e w6 ⟨rfl,rfl⟩
   clear HGO
   have hr:=HR.out
   obtain rfl:=(Option.some.inj hr).symm
   have HF:=hiD (show ResS W b P M A nb mb NN (.ok F,s1) (.returned (.tuple #[])) w from ⟨rfl,M',A',n,HPW.out.wd,HPW.out.ns,(by have h1:=HVT.out.2.2;have h2:=HRM.out.1;omega),HEX.out.sole,HAX.out⟩)
   clear hr HR HPW
   go_wp2_with fail
   go_end0
   exact HF.out
set_option maxRecDepth 100000 in
set_option maxHeartbeats 1600000 in
theorem sw_cond {L:List Fn} {K f:Nat} (hL:∀ x∈L,FewSs K x.body) (hN:∀ x∈L,NumSts x.body) (ihe:∀ k,k≤f→EwC L K k) (ihb:∀ k,k≤f→BwC L K k) (a:Int) (v:Ex) (t e:List St):SwAt L K f (.cond a v t e):=by
 intro cs b P M A s N N' m m' F nb mb n NN d la ln lc W r h hd hk ht hfew hroom hNN hs hr
 have hmf:∀ (fn:Go.Fn) (first cap:Array Value) (w:World),(Instr.makeFunc fn first cap).run Tryz.prog w=.ok (.func fn first cap) w:=fun _ _ _ _=>rfl
 simp only [StAt] at hs
 obtain ⟨xv,p,vp,q,vq,rfl,hxv,hp1,hp2,hq1,hq2⟩:=hs
 have HP:=hiD h
 obtain ⟨cs,hcs⟩:∃ cs,cs=cells7 4 a [] nilP xv p q:=⟨_,rfl⟩
 obtain ⟨W3,hW3⟩:∃ W3,W3=boxes W b nb (cells7 4 a [] nilP xv p q):=⟨_,rfl⟩
 have HM:Hid (Mods None W W3):=hiD (by rw [hW3];exact boxes_mods _ _ _ _)
 have HB:Hid (Sb W W3 P M b nb W.heap.size cs):=hiD (by rw [hW3,hcs];exact Sb.new _ _ _ h.wd.old h.wd.given)
 have HP3:=hiD (h.quiet HM.out)
 have HTN:Hid (∀ k,Tn nb mb k→k<W.heap.size):=hiD (names_off h.ns)
 have q4:=HB.out.c4.cell (i:=0) rfl
 have q6:=HB.out.c6.cell (i:=0) rfl
 have q7:=HB.out.c7
 rw [hcs] at q7
 have e0:=q7.cell (i:=0) rfl
 have e4:=q7.cell (i:=4) rfl
 simp only [FitS] at hd
 have hdv:=hd.1
 simp only [FewS] at hk
 simp only [stmtK] at ht
 obtain ⟨u0,ht1,ht2⟩:=bindK_ok2 ht
 have ht1:=wantK_ok ht1
 obtain ⟨⟨Nt,mt⟩,ht3,ht4⟩:=bindK_ok2 ht2
 obtain ⟨⟨Ne,me⟩,ht5,-⟩:=bindK_ok2 ht4
 simp only [stmtB] at hr
 obtain ⟨y,hy⟩:∃ y,evE L f s F v=some y:=by
  cases hy:evE L f s F v with
  | none=>rw [hy] at hr;cases hr
  | some y=>exact ⟨y,rfl⟩
 have HC:=hiD (ihe f (Nat.le_refl _) v b P M A s N F nb n la ln lc W3 _ 1 y HP3.out.pre ⟨_,hdv⟩ ht1 (by omega) (ew_far hxv HM.out) hy)
 have HAF:=hiD (fun (w:World) (M':Nat→Prop) (A':List (Nat×Nat)) (u:V) (s1:RS) (e:y=(.ok u,s1)) (hw:WAt w b P M' A' s1) (hE:Ext None M M' W3 w)=>PreS.after (c:=0) (B:=1000000000000) hL hN HP3.out ht1 hdv (by rw [hy,e]) hE hw (by omega))
 have HBU:Hid (∀ u s1,y=(.ok u,s1)→s1.fuel≤s.fuel):=hiD (fun u s1 e=>by
  have:=(less_all L f).1 s F v y hy
  rw [e] at this
  exact this)
 have HRM:=hiD (And.intro hroom hNN)
 rw [hy] at hr
 have HR:=hiD hr
 obtain ⟨xg,rfl⟩:=hxv.ptr
 obtain ⟨pa,pc,rfl⟩:=lex_form hp1.1
 obtain ⟨qa,qc,rfl⟩:=lex_form hq1.1
 have HIB:=hiD (ihb f (Nat.le_refl _))
 have HBB:=hiD (And.intro (And.intro hp1 hp2) (And.intro hq1 hq2))
 have HOF:=hiD h.wd.off
 have HST:=hiD (And.intro hd (And.intro hk (And.intro ht3 ht5)))
 clear q7 hxv hdv ht1 ht2 ht3 ht4 ht5 hp1 hp2 hq1 hq2
 clear h hd hk ht hfew hroom hNN hr hy ihe ihb hL hN
 unfold boxes at hW3
 unfold cells7 at *
 try unfold str at *
 try unfold nilP at *
 try unfold nilS at *
 go_enter Tryz.func126,Tryz.ntmps126
 go_upto_region 1 with (fail)
 rw [← hW3]
 clear hW3
 go_wp2_with fail
 go_at_call 146
 refine HC.out.mono ?_
 intro e w hR
 clear HC
 obtain ⟨y,s1⟩:=y
 cases y with
 | error sg =>
   cases sg with
   | ret k=>exact hR.elim
   | stop k =>
     obtain ⟨n',M',rfl,-,-,hW,hE⟩:=hR
     have hr:=HR.out
     obtain rfl:=(Option.some.inj hr).symm
     have HBw:=hiD (HB.out.step hE (fun _ f=>f.elim))
     have hns:=HP3.out.ns.ext hE
     have HF:=hiD (show ResS W b P M A nb mb NN (.error (.stop k),s1) (.returned (.tuple #[])) w from ⟨rfl,M',n,F,hW,hns,((Ext.quiet (T:=None) HM.out).trans hE).sole⟩)
     obtain ⟨w4,hk0⟩:=hW.go_no
     have t1:=hns.cells.2.1
     have g4:=HBw.out.c4.cell (i:=0) rfl
     have g6:=HBw.out.c6.cell (i:=0) rfl
     have HGO:=hiD (going_any W.heap.size b nb k false w g4 g6 w4 t1)
     clear hW hE hns w4 t1 g4 g6 hr HR HAF
     go_wp2_with fail
     go_at_call 145
     refine HGO.out.mono ?_
     rintro e w6 ⟨rfl,rfl⟩
     rw [hk0]
     go_wp2_with fail
     go_end0
     exact HF.out
 | ok u =>
   obtain ⟨rfl,M',A',hw,hE,hA⟩:=hR
   obtain ⟨hpre,hfw,hvt,hvi⟩:=HAF.out w M' A' u s1 rfl hw hE
   have HBw:=hiD (HB.out.step hE (fun _ f=>f.elim))
   have HPW:=hiD hpre
   have HEX:=hiD ((Ext.quiet (T:=None) HM.out).trans hE)
   have HAX:=hiD hA
   have HVT:=hiD (And.intro hvt (And.intro hvi (HBU.out u s1 rfl)))
   have w4:=hw.go_yes
   have t1:=hpre.ns.cells.2.1
   have g4:=HBw.out.c4.cell (i:=0) rfl
   have g6:=HBw.out.c6.cell (i:=0) rfl
   have HGO:=hiD (going_any W.heap.size b nb 0 false w g4 g6 w4 t1)
   have g7:=HBw.out.c7
   rw [hcs] at g7
   have e0:=g7.cell (i:=0) rfl
   have HFW:=hiD hfw
   clear hw hE hA hpre hfw hvt hvi HAF HB HBU w4 t1
   go_wp2_with fail
   go_at_call 145
   refine HGO.out.mono ?_
   rintro e w6 ⟨rfl,rfl⟩
   clear HGO
   have hrep:rep u=u.n:=rep_num HVT.out.1
   rw [hrep]
   have hr:(if u.n≠0 then blockR L f s1 F t else blockR L f s1 F e)=some r:=HR.out
   have hmP:Mods (fun k=>¬ P k) W w:=HEX.out.mods.mono fun k _ hk=>hk.elim (fun f=>f.elim) (HOF.out k)
   by_cases hz:u.n=0
   · have hz1:(u.n != 0)=false:=by simp [hz]
     rw [if_neg (by simpa using hz)] at hr
     have g6c:=g7.cell (i:=6) rfl
     have HCB:=hiD (HIB.out e _ vq b P M' A' s1 N Ne mt me F nb mb n NN _ la ln lc w r HPW.out HST.out.1.2.2.2 HST.out.2.1.2.2 HST.out.2.2.2 (by have:=HFW.out;omega) (by have h1:=HVT.out.2.2;have h2:=HRM.out.1;omega) HRM.out.2 (HBB.out.2.1.mods hmP (fun _ _ k=>k)) (StsAt.modsTo hmP (fun _ _ k=>k) _ _ HBB.out.2.2) hr)
     clear hz hr HR hmP hrep
     go_wp2_with fail
     go_at_call 94
     refine HCB.out.mono ?_
     intro e9 w9 hZ
     obtain rfl:=hZ.told
     have HF:=hiD (hZ.before HEX.out.sole HAX.out)
     clear hZ HCB HPW
     go_wp2_with fail
     go_end0
     exact HF.out
   · have hz1:(u.n != 0)=true:=by simp [hz]
     rw [if_pos (by simpa using hz)] at hr
     have g5c:=g7.cell (i:=5) rfl
     have HCB:=hiD (HIB.out t _ vp b P M' A' s1 N Nt m mt F nb mb n NN _ la ln lc w r HPW.out HST.out.1.2.2.1 HST.out.2.1.2.1 HST.out.2.2.1 (by have:=HFW.out;omega) (by have h1:=HVT.out.2.2;have h2:=HRM.out.1;omega) HRM.out.2 (HBB.out.1.1.mods hmP (fun _ _ k=>k)) (StsAt.modsTo hmP (fun _ _ k=>k) _ _ HBB.out.1.2) hr)
     clear hz hr HR hmP hrep
     go_wp2_with fail
     go_at_call 94
     refine HCB.out.mono ?_
     intro e9 w9 hZ
     obtain rfl:=hZ.told
     have HF:=hiD (hZ.before HEX.out.sole HAX.out)
     clear hZ HCB HPW
     go_wp2_with fail
     go_end0
     exact HF.out
set_option maxRecDepth 100000 in
set_option maxHeartbeats 1600000 in
theorem sw_put {L:List Fn} {K f:Nat} (hL:∀ x∈L,FewSs K x.body) (hN:∀ x∈L,NumSts x.body) (ihe:∀ k,k≤f→EwC L K k) (ihb:∀ k,k≤f→BwC L K k) (a:Int) (x:List UInt8) (i v:Ex):SwAt L K f (.put a x i v):=by
 intro cs b P M A s N N' m m' F nb mb n NN d la ln lc W r h hd hk ht hfew hroom hNN hs hr
 have hmf:∀ (fn:Go.Fn) (first cap:Array Value) (w:World),(Instr.makeFunc fn first cap).run Tryz.prog w=.ok (.func fn first cap) w:=fun _ _ _ _=>rfl
 simp only [StAt] at hs
 obtain ⟨xi,xv,rfl,hxi,hxv⟩:=hs
 have HP:=hiD h
 obtain ⟨cs,hcs⟩:∃ cs,cs=cells7 3 a x xi xv nilS nilS:=⟨_,rfl⟩
 obtain ⟨W3,hW3⟩:∃ W3,W3=boxes W b nb (cells7 3 a x xi xv nilS nilS):=⟨_,rfl⟩
 have HM:Hid (Mods None W W3):=hiD (by rw [hW3];exact boxes_mods _ _ _ _)
 have HB:Hid (Sb W W3 P M b nb W.heap.size cs):=hiD (by rw [hW3,hcs];exact Sb.new _ _ _ h.wd.old h.wd.given)
 have HP3:=hiD (h.quiet HM.out)
 have HTN:Hid (∀ k,Tn nb mb k→k<W.heap.size):=hiD (names_off h.ns)
 have q4:=HB.out.c4.cell (i:=0) rfl
 have q6:=HB.out.c6.cell (i:=0) rfl
 have q7:=HB.out.c7
 rw [hcs] at q7
 have e0:=q7.cell (i:=0) rfl
 have e2:=q7.cell (i:=2) rfl
 have e3:=q7.cell (i:=3) rfl
 simp only [FitS] at hd
 obtain ⟨hxn,hdi,hdv⟩:=hd
 simp only [FewS] at hk
 simp only [stmtK] at ht
 by_cases hf0:findN N x=0
 · rw [if_pos hf0] at ht;cases ht
 rw [if_neg hf0] at ht
 by_cases hf2:findN N x=2
 case neg=>rw [if_pos (by simpa using hf2)] at ht;cases ht
 rw [if_neg (by simpa using hf2)] at ht
 obtain ⟨u0,ht1,ht2⟩:=bindK_ok2 ht
 have ht1:=wantK_ok ht1
 obtain ⟨u1,ht3,ht4⟩:=bindK_ok2 ht2
 have ht3:=wantK_ok ht3
 simp only [stmtB] at hr
 obtain ⟨vg,rfl⟩:=hxv.ptr
 obtain ⟨y,hy⟩:∃ y,evE L f s F i=some y:=by
  cases hy:evE L f s F i with
  | none=>rw [hy] at hr;cases hr
  | some y=>exact ⟨y,rfl⟩
 have HC:=hiD (ihe f (Nat.le_refl _) i b P M A s N F nb n la ln lc W3 _ 1 y HP3.out.pre ⟨_,hdi⟩ ht1 (by omega) (ew_far hxi HM.out) hy)
 have HAF:=hiD (fun (w:World) (M':Nat→Prop) (A':List (Nat×Nat)) (u:V) (s1:RS) (e:y=(.ok u,s1)) (hw:WAt w b P M' A' s1) (hE:Ext None M M' W3 w)=>PreS.after (c:=newsE v) (B:=1000000000000) hL hN HP3.out ht1 hdi (by rw [hy,e]) hE hw (by omega))
 have HBU:Hid (∀ u s1,y=(.ok u,s1)→s1.fuel≤s.fuel):=hiD (fun u s1 e=>by
  have:=(less_all L f).1 s F i y hy
  rw [e] at this
  exact this)
 have HRM:=hiD (And.intro hroom hNN)
 rw [hy] at hr
 have HR:=hiD hr
 obtain ⟨xg,rfl⟩:=hxi.ptr
 have HXN:=hiD (Nat.le_trans hxn.2.2.2 (by decide:12≤10000000))
 have HIE:=hiD (ihe f (Nat.le_refl _))
 have HST:=hiD (And.intro hdv (And.intro ht3 hf2))
 have HVX:=hiD (ew_far hxv HM.out)
 have HLL:=hiD (And.intro hL hN)
 clear q7 hxv hxi hxn hdi hdv ht1 ht2 ht3 ht4 hf0 hf2
 clear h hk ht hfew hroom hNN hr hy ihe ihb hL hN
 unfold boxes at hW3
 unfold cells7 at *
 try unfold str at *
 try unfold nilP at *
 try unfold nilS at *
 go_enter Tryz.func126,Tryz.ntmps126
 go_upto_region 1 with (fail)
 rw [← hW3]
 clear hW3
 go_wp2_with fail
 go_at_call 146
 refine HC.out.mono ?_
 intro e w hR
 clear HC
 obtain ⟨y,s1⟩:=y
 cases y with
 | error sg =>
   cases sg with
   | ret k=>exact hR.elim
   | stop k =>
     obtain ⟨n',M',rfl,-,-,hW,hE⟩:=hR
     have hr:=HR.out
     obtain rfl:=(Option.some.inj hr).symm
     have HBw:=hiD (HB.out.step hE (fun _ f=>f.elim))
     have HNS:=hiD (HP3.out.ns.ext hE)
     have HEE:=hiD ((Ext.quiet (T:=None) HM.out).trans hE)
     have g4:=HBw.out.c4.cell (i:=0) rfl
     have g6:=HBw.out.c6.cell (i:=0) rfl
     have g7:=HBw.out.c7
     rw [hcs] at g7
     have e4:=g7.cell (i:=4) rfl
     have HCE:=hiD (ex_ended la ln lc b nb vg P M' k s1.out w hW)
     have HWW:=hiD hW
     clear hW hE hr HR HAF
     go_wp2_with fail
     go_at_call 146
     refine HCE.out.mono ?_
     rintro e w5 ⟨rfl,hm5⟩
     have hns:=HNS.out.ext (Ext.quiet (T:=None) (M:=M') hm5)
     have hW5:=HWW.out.quiet hm5
     have HF:=hiD (show ResS W b P M A nb mb NN (.error (.stop k),s1) (.returned (.tuple #[])) w5 from ⟨rfl,M',n,F,hW5,hns,(HEE.out.trans (Ext.quiet hm5)).sole⟩)
     obtain ⟨w4,hk0⟩:=hW5.go_no
     have t1:=hns.cells.2.1
     have HB5:=HBw.out.step (Ext.quiet (T:=None) hm5) (fun _ f=>f.elim)
     have g4:=HB5.c4.cell (i:=0) rfl
     have g6:=HB5.c6.cell (i:=0) rfl
     have HGO:=hiD (going_any W.heap.size b nb k false w5 g4 g6 w4 t1)
     clear hns hW5 w4 t1 g4 g6 g7 e4 hm5 HCE HWW HNS HEE HBw HB5
     go_wp2_with fail
     go_at_call 145
     refine HGO.out.mono ?_
     rintro e w6 ⟨rfl,rfl⟩
     rw [hk0]
     go_wp2_with fail
     go_end0
     exact HF.out
 | ok u =>
   obtain ⟨rfl,M',A',hw,hE,hA⟩:=hR
   obtain ⟨hpre,hfw,hvt,hvi⟩:=HAF.out w M' A' u s1 rfl hw hE
   have HBw:=hiD (HB.out.step hE (fun _ f=>f.elim))
   have HPW:=hiD hpre
   have HEX:=hiD ((Ext.quiet (T:=None) HM.out).trans hE)
   have HAX:=hiD hA
   have HVT:=hiD (And.intro hvt (And.intro hvi (HBU.out u s1 rfl)))
   have g4:=HBw.out.c4.cell (i:=0) rfl
   have g6:=HBw.out.c6.cell (i:=0) rfl
   have g7:=HBw.out.c7
   rw [hcs] at g7
   have e4:=g7.cell (i:=4) rfl
   have hrep:rep u=u.n:=rep_num hvt
   rw [hrep]
   have hr:bindR (evE L f s1 F v) (fun y s=>bindR (placeR s (F.get x) u.n) fun _ s=>okR F (putArr s (F.get x) u.n y.n))=some r:=HR.out
   obtain ⟨z,hz⟩:∃ z,evE L f s1 F v=some z:=by
    cases hz:evE L f s1 F v with
    | none=>rw [hz] at hr;cases hr
    | some z=>exact ⟨z,rfl⟩
   rw [hz] at hr
   have HR2:=hiD hr
   have HC2:=hiD (HIE.out v b P M' A' s1 N F nb n la ln lc w _ 1 z hpre.pre ⟨_,HST.out.1⟩ HST.out.2.1 (by omega) (HVX.out.ext hE (fun k hk=>hk.elim (fun f=>f.elim) (HP.out.wd.off k))) hz)
   have HBU2:Hid (∀ u2 s2,z=(.ok u2,s2)→s2.fuel≤s1.fuel∧s1.arrs.length≤s2.arrs.length):=hiD (fun u2 s2 e=>by
    have h1:=(less_all L f).1 s1 F v z hz
    have h2:=(((exprs_typed L f).1 s1 N F v 1 hpre.ty HST.out.2.1) _ hz).1
    rw [e] at h1 h2
    exact ⟨h1,h2⟩)
   have HTZ:Hid (∀ u2 s2,z=(.ok u2,s2)→VTy s2 1 u2):=hiD (fun u2 s2 e=>(ev_typed hpre.ty HST.out.2.1 (by rw [hz,e])).1)
   clear hw hE hA hpre hfw hvt hvi HAF HB HBU hrep hr hz HR
   go_wp2_with fail
   go_at_call 146
   refine HC2.out.mono ?_
   intro e w5 hR
   clear HC2 g4 g6 g7 e4
   obtain ⟨z,s2⟩:=z
   cases z with
   | error sg =>
     cases sg with
     | ret k=>exact hR.elim
     | stop k =>
       obtain ⟨n',M5,rfl,-,-,hW,hE⟩:=hR
       have hr:=HR2.out
       obtain rfl:=(Option.some.inj hr).symm
       have HB5:=hiD (HBw.out.step hE (fun _ f=>f.elim))
       have hns:=HPW.out.ns.ext hE
       have HF:=hiD (show ResS W b P M A nb mb NN (.error (.stop k),s2) (.returned (.tuple #[])) w5 from ⟨rfl,M5,n,F,hW,hns,(HEX.out.trans hE).sole⟩)
       obtain ⟨w4,hk0⟩:=hW.go_no
       have t1:=hns.cells.2.1
       have g4:=HB5.out.c4.cell (i:=0) rfl
       have g6:=HB5.out.c6.cell (i:=0) rfl
       have HGO:=hiD (going_any W.heap.size b nb k false w5 g4 g6 w4 t1)
       clear hW hE hns w4 t1 g4 g6 hr HR2
       go_wp2_with fail
       go_at_call 145
       refine HGO.out.mono ?_
       rintro e w6 ⟨rfl,rfl⟩
       rw [hk0]
       go_wp2_with fail
       go_end0
       exact HF.out
   | ok u2 =>
     obtain ⟨rfl,M5,A5,hw,hE,hA⟩:=hR
     have hrep:rep u2=u2.n:=rep_num (HTZ.out u2 s2 rfl)
     rw [hrep]
     have hns:=HPW.out.ns.ext hE
     have HB5:=hiD (HBw.out.step hE (fun _ f=>f.elim))
     have w4:=hw.go_yes
     have t1:=hns.cells.2.1
     have g4:=HB5.out.c4.cell (i:=0) rfl
     have g6:=HB5.out.c6.cell (i:=0) rfl
     have HGO:=hiD (going_any W.heap.size b nb 0 false w5 g4 g6 w4 t1)
     have HWD:=hiD (hw.quiet (Mods.refl None w5).drew)
     have HNS:=hiD (hns.ext (Ext.quiet (Mods.refl None w5).drew))
     have HEX5:=hiD ((HEX.out.trans hE).trans (Ext.quiet (Mods.refl None w5).drew))
     have HAX5:=hiD (HAX.out.trans hA)
     have HB6:=hiD (HB5.out.step (Ext.quiet (T:=None) (Mods.refl None w5).drew) (fun _ f=>f.elim))
     obtain ⟨n0,-⟩:=hns.cells
     have g7:=HB5.out.c7
     rw [hcs] at g7
     have e2:=g7.cell (i:=2) rfl
     obtain ⟨F',hnb,hmap,hget,-⟩:=HNS.out
     have hlook:=hmap.look (t:=169) Tryz.underlying169 (zero_int _) x HXN.out
     obtain ⟨F5,-,hmap5,hget5,-⟩:=hns
     have hlook5:=hmap5.look (t:=169) Tryz.underlying169 (zero_int _) x HXN.out
     have hns:NtAt w5 P M5 nb mb n F false 0:=HPW.out.ns.ext hE
     obtain ⟨j,hj,hjl⟩:∃ j,(F.get x).arr=some j∧j<s2.arrs.length:=by
        have h1:=HPW.out.ty x (by rw [HST.out.2.2];decide)
        rw [HST.out.2.2] at h1
        rcases h1 with ⟨h4,-⟩|⟨-,-,i,hi,hil⟩
        · cases h4
        · exact ⟨i,hi,Nat.lt_of_lt_of_le hil (HBU2.out u2 s2 rfl).2⟩
     have hrepx:rep (F.get x)=((j+1:Nat):Int):=by
        unfold rep
        rw [hj]
        simp
     rw [hget x,hrepx] at hlook
     rw [hget5 x,hrepx] at hlook5
     obtain ⟨j1,hj1⟩:∃ j1,j1=j+1:=⟨_,rfl⟩
     rw [← hj1] at hlook hlook5
     obtain ⟨l2,hl2⟩:∃ l2,s2.arrs[j]?=some l2:=⟨_,List.getElem?_eq_getElem hjl⟩
     have ha:arrOf s2 (F.get x)=l2:=by
        unfold arrOf
        rw [hj]
        simp only
        rw [List.getD_eq_getElem?_getD,hl2]
        rfl
     have hr:bindR (placeR s2 (F.get x) u.n) (fun _ s=>okR F (putArr s (F.get x) u.n u2.n))=some r:=HR2.out
     unfold placeR at hr
     rw [ha] at hr
     have HJ:=hiD (And.intro hl2 (And.intro hj hj1))
     have HFB:=hiD ((HBU2.out u2 s2 rfl).1)
     unfold str at hlook hlook5
     have hlookd:=hlook
     clear hmap5 hget5
     obtain ⟨W6,hW6⟩:∃ W6,W6=w5.drew:=⟨_,rfl⟩
     rw [← hW6] at HWD HNS HEX5 HB6 hlook
     by_cases hin:u.n<0∨u.n≥l2.length
     · rw [if_pos hin] at hr
       obtain rfl:=(Option.some.inj hr).symm
       have HIT:=hiD (item_out None b P M5 A5 s2 j j1 l2 u.n W6 HWD.out hl2 hj1 hin)
       clear hnb hmap hget hin hl2 hj hjl hj1 hrepx ha hr hw hE hA hns hrep w4 t1 HPW
       go_wp2_with fail
       go_at_call 145
       refine HGO.out.mono ?_
       rintro e w6 ⟨rfl,rfl⟩
       clear HGO
       go_wp2_with fail
       go_still_tail 9,(by kernel_rfl)
       change wpList _ _ _ _ _ w5.drew
       rw [← hW6]
       clear hW6 g4 g6 g7 e2 n0
       go_wp2_with fail
       go_at_call 147
       refine HIT.out.mono ?_
       rintro e w9 ⟨rfl,z1,z2⟩
       have HF:=hiD (show ResS W b P M A nb mb NN (.error (.stop 3),s2) (.returned (.tuple #[])) w9 from ⟨rfl,M5,n,F,z1,HNS.out.ext z2,(HEX5.out.trans z2).sole⟩)
       clear z1 z2 HIT
       go_wp2_with fail
       go_end0
       exact HF.out
     · rw [if_neg hin] at hr
       obtain rfl:=(Option.some.inj hr).symm
       have HIT:=hiD (item_in b P M5 A5 s2 j j1 l2 u.n W6 HWD.out hl2 hj1 (by omega))
       have HIN:=hiD hin
       clear hnb hmap hget hin hl2 hj hjl hj1 hrepx ha hr hw hE hA hns hrep w4 t1 HPW
       go_wp2_with fail
       go_at_call 145
       refine HGO.out.mono ?_
       rintro e w6 ⟨rfl,rfl⟩
       clear HGO
       go_wp2_with fail
       go_still_tail 9,(by kernel_rfl)
       change wpList _ _ _ _ _ w5.drew
       rw [← hW6]
       clear hW6 g4 g6 g7 e2 n0
       go_wp2_with fail
       go_at_call 147
       refine HIT.out.mono ?_
       rintro e w9 ⟨⟨g,hgA,rfl⟩,rfl⟩
       have hin:=HIN.out
       obtain ⟨hl2,hj,hj1⟩:=HJ.out
       obtain ⟨k,hk⟩:∃ k,k=u.n.toNat:=⟨_,rfl⟩
       have hkl:k<l2.length:=by omega
       obtain ⟨g',e1,e5,-⟩:=HWD.out.arr j l2 hl2
       rw [hgA] at e1
       obtain ⟨rfl,-⟩:=Prod.mk.inj (Option.some.inj e1)
       have cg:W6.cell? ⟨g,k,none⟩=some (.int .i64 (l2[k]'hkl)):=e5.cell (by simp [hkl])
       have fg:=e5.free k
       obtain ⟨hset,hes⟩:=HWD.out.setArr hgA hl2 k u2.n
       have HF:=hiD (show ResS W b P M A nb mb NN (.ok F,putArr s2 (F.get x) u.n u2.n) (.returned (.tuple #[])) (W6.setCell ⟨g,k,none⟩ (.int .i64 u2.n)) from by
        have h9:putArr s2 (F.get x) u.n u2.n={ s2 with arrs:=s2.arrs.set j (l2.set k u2.n) }:=by
           unfold putArr
           rw [hj]
           simp only
           rw [List.getD_eq_getElem?_getD,hl2,hk]
           rfl
        rw [h9]
        exact ⟨rfl,M5,A5,n,hset,HNS.out.ext hes,(by have h1:=HFB.out;have h2:=HVT.out.2.2;have h3:=HRM.out.1;simp only;omega),(HEX5.out.trans hes).sole,HAX5.out⟩)
       rw [← hk]
       clear hset hes e5 e1 hgA hl2 hj hj1 hin hk HIT HIN
       go_wp2_with fail
       go_end0
       exact HF.out
set_option maxRecDepth 100000 in
set_option maxHeartbeats 1600000 in
theorem sw_loop {L:List Fn} {K f:Nat} (hL:∀ x∈L,FewSs K x.body) (hN:∀ x∈L,NumSts x.body) (ihe:∀ k,k≤f→EwC L K k) (ihb:∀ k,k≤f→BwC L K k) (a:Int) (v:Ex) (t:List St):SwAt L K f (.loop a v t):=by
 intro cs b P M A s N N' m m' F nb mb n NN d la ln lc W r h hd hk ht hfew hroom hNN hs hr
 have hmf:∀ (fn:Go.Fn) (first cap:Array Value) (w:World),(Instr.makeFunc fn first cap).run Tryz.prog w=.ok (.func fn first cap) w:=fun _ _ _ _=>rfl
 simp only [StAt] at hs
 obtain ⟨xv,p,vp,rfl,hxv,hp1,hp2⟩:=hs
 have HP:=hiD h
 obtain ⟨cs,hcs⟩:∃ cs,cs=cells7 5 a [] nilP xv p nilS:=⟨_,rfl⟩
 obtain ⟨W3,hW3⟩:∃ W3,W3=boxes W b nb (cells7 5 a [] nilP xv p nilS):=⟨_,rfl⟩
 have HM:Hid (Mods None W W3):=hiD (by rw [hW3];exact boxes_mods _ _ _ _)
 have HB:Hid (Sb W W3 P M b nb W.heap.size cs):=hiD (by rw [hW3,hcs];exact Sb.new _ _ _ h.wd.old h.wd.given)
 have HP3:=hiD (h.quiet HM.out)
 have HTN:Hid (∀ k,Tn nb mb k→k<W.heap.size):=hiD (names_off h.ns)
 have q4:=HB.out.c4.cell (i:=0) rfl
 have q6:=HB.out.c6.cell (i:=0) rfl
 have q7:=HB.out.c7
 rw [hcs] at q7
 have e0:=q7.cell (i:=0) rfl
 have e4:=q7.cell (i:=4) rfl
 simp only [FitS] at hd
 have hdv:=hd.1
 simp only [FewS] at hk
 simp only [stmtK] at ht
 obtain ⟨u0,ht1,ht2⟩:=bindK_ok2 ht
 have ht1:=wantK_ok ht1
 obtain ⟨⟨Nt,mt⟩,ht3,-⟩:=bindK_ok2 ht2
 simp only [stmtB] at hr
 have HR:=hiD hr
 obtain ⟨xg,rfl⟩:=hxv.ptr
 obtain ⟨pa,pc,rfl⟩:=lex_form hp1.1
 have HEX:Hid (Ext (Tn nb mb) M M W W3):=hiD (Ext.quiet HM.out)
 have HRM:=hiD (And.intro hroom hfew)
 have HBB:=hiD (And.intro hp1 hp2)
 have HXV:=hiD hxv
 have HST:=hiD (And.intro hd (And.intro hk (And.intro ht3 (And.intro ht1 (And.intro hNN h.nm)))))
 have HIE:=hiD ihe
 have HIB:=hiD ihb
 have HLL:=hiD (And.intro hL hN)
 have HCS:=hiD hcs
 have HOF:Hid (∀ k,(Tn nb mb k∨M k)→¬ P k):=hiD (fun k hk=>hk.elim (fun e=>by
  obtain ⟨o1,o2,-⟩:=h.ns.off
  rcases e with rfl|rfl
  · exact o1.2
  · exact o2.2) (h.wd.off k))
 clear q7 hxv hdv ht1 ht2 ht3 hp1 hp2 hcs
 clear h hd hk ht hfew hroom hNN hr ihe ihb hL hN
 unfold boxes at hW3
 unfold cells7 at *
 try unfold str at *
 try unfold nilP at *
 try unfold nilS at *
 go_enter Tryz.func126,Tryz.ntmps126
 go_upto_region 1 with (fail)
 rw [← hW3]
 clear hW3
 go_wp2_with fail
 go_loopw [] (fun wr=>∃ k s' F' M' A' n',k≤f∧Hid (whileR L k s' F' v t=some r)∧Hid (PreS L wr b P M' A' s' N F' nb mb n' (.slice la ln lc))∧Hid (n'+1+s'.fuel≤NN∧s'.arrs.length+K*s'.fuel+K≤1000000000000)∧Hid (Ext (Tn nb mb) M M' W wr)∧Hid (A <+: A')∧Hid (Sb W wr P M' b nb W.heap.size cs)) (fun wr=>(intOf ((wr.cell? ⟨b,2,none⟩).getD (.int .i64 0))).toNat)
 case atStart=>exact ⟨f,s,F,M,A,n,Nat.le_refl _,HR,HP3,HRM,HEX,hiD (List.prefix_refl A),HB⟩
 case round =>
  clear HR HP3 HRM HEX HB q4 q6 e0 e4
  obtain ⟨k,s2,F2,M2,A2,n2,hk,HX,HP2,HR2,HE2,HA2,HB2⟩:=hrel
  have HFU:=hiD (HP2.out.wd.fuelAt)
  cases k with
  | zero=>simp only [whileR] at HX;cases HX.out
  | succ k =>
    have hr:=HX.out
    simp only [whileR] at hr
    obtain ⟨y,hy⟩:∃ y,evE L k s2 F2 v=some y:=by
        cases hy:evE L k s2 F2 v with
        | none=>rw [hy] at hr;cases hr
        | some y=>exact ⟨y,rfl⟩
    rw [hy] at hr
    have HR:=hiD hr
    have hmP:Mods (fun k=>¬ P k) W wr:=HE2.out.mods.mono (fun k _ hk=>HOF.out k hk)
    have hfv:s2.arrs.length+K*s2.fuel+newsE v≤1000000000000:=by have h1:=HR2.out.2;have h2:=HST.out.2.1.1;omega
    have HC:=hiD (HIE.out k (by omega) v b P M2 A2 s2 N F2 nb n2 la ln lc wr _ 1 y HP2.out.pre ⟨_,HST.out.1.1⟩ HST.out.2.2.2.1 hfv (ExAt.modsTo hmP (fun _ _ k=>k) _ _ HXV.out) hy)
    have HAF:=hiD (fun (w:World) (M':Nat→Prop) (A':List (Nat×Nat)) (u:V) (s1:RS) (e:y=(.ok u,s1)) (hw:WAt w b P M' A' s1) (hE:Ext None M2 M' wr w)=>PreS.after (c:=0) (B:=1000000000000) HLL.out.1 HLL.out.2 HP2.out HST.out.2.2.2.1 HST.out.1.1 (by rw [hy,e]) hE hw (by omega))
    have HBU:Hid (∀ u s1,y=(.ok u,s1)→s1.fuel≤s2.fuel):=hiD (fun u s1 e=>by
        have:=(less_all L k).1 s2 F2 v y hy
        rw [e] at this
        exact this)
    have g4:=HB2.out.c4.cell (i:=0) rfl
    have g6:=HB2.out.c6.cell (i:=0) rfl
    have g7:=HB2.out.c7
    rw [HCS.out] at g7
    have e4:=g7.cell (i:=4) rfl
    have HKF:=hiD hk
    clear hr hy hmP hfv hk
    go_wp2_with fail
    go_at_call 146
    refine HC.out.mono ?_
    intro e w hR
    clear HC g4 g6 g7 e4
    obtain ⟨y,s1⟩:=y
    cases y with
    | error sg =>
      cases sg with
      | ret k=>exact hR.elim
      | stop q =>
        obtain ⟨n',M',rfl,-,-,hW,hE⟩:=hR
        have hr:=HR.out
        obtain rfl:=(Option.some.inj hr).symm
        have HBw:=hiD (HB2.out.step hE (fun _ f=>f.elim))
        have hns:=HP2.out.ns.ext hE
        have HF:=hiD (show ResS W b P M A nb mb NN (.error (.stop q),s1) (.returned (.tuple #[])) w from ⟨rfl,M',n2,F2,hW,hns,HE2.out.trans hE.sole⟩)
        obtain ⟨w4,hk0⟩:=hW.go_no
        have t1:=hns.cells.2.1
        have g4:=HBw.out.c4.cell (i:=0) rfl
        have g6:=HBw.out.c6.cell (i:=0) rfl
        have HGO:=hiD (going_any W.heap.size b nb q false w g4 g6 w4 t1)
        clear hW hE hns w4 t1 g4 g6 hr HR HAF
        by_cases hz:n'=0
        · subst hz
          go_wp2_with fail
          go_end0
          exact HF.out
        · have hz1:(n' != 0)=true:=by simp [hz]
          have HZ:=hiD hz
          clear hz
          go_wp2_with fail
          go_at_call 145
          refine HGO.out.mono ?_
          rintro e w6 ⟨rfl,rfl⟩
          rw [hk0]
          go_wp2_with fail
          go_end0
          exact HF.out
    | ok u =>
      obtain ⟨rfl,M',A',hw,hE,hA⟩:=hR
      obtain ⟨hpre,hfw,hvt,hvi⟩:=HAF.out w M' A' u s1 rfl hw hE
      have hrep:rep u=u.n:=rep_num hvt
      rw [hrep]
      have HBw:=hiD (HB2.out.step hE (fun _ f=>f.elim))
      have HPW:=hiD hpre
      have HEX:=hiD (HE2.out.trans hE.sole)
      have HAX:=hiD (HA2.out.trans hA)
      have HVT:=hiD (HBU.out u s1 rfl)
      have hr:(if u.n≠0 then bindR (blockR L k s1 F2 t) (fun F s=>bindR (stepR s) fun _ s=>whileR L k s F v t) else okR F2 s1)=some r:=HR.out
      have HFW:=hiD hfw
      have w4:=hw.go_yes
      have t1:=hpre.ns.cells.2.1
      have g4:=HBw.out.c4.cell (i:=0) rfl
      have g6:=HBw.out.c6.cell (i:=0) rfl
      have HGO:=hiD (going_any W.heap.size b nb 0 false w g4 g6 w4 t1)
      clear hw hE hA hpre hfw hvt hvi HAF HBU HR hrep w4 t1
      by_cases hz:u.n=0
      · rw [if_neg (by simpa using hz)] at hr
        obtain rfl:=(Option.some.inj hr).symm
        have hz1:(u.n != 0)=false:=by simp [hz]
        have HF:=hiD (show ResS W b P M A nb mb NN (.ok F2,s1) (.returned (.tuple #[])) w from ⟨rfl,M',A',n2,HPW.out.wd,HPW.out.ns,(by have h1:=HVT.out;have h2:=HR2.out.1;omega),HEX.out,HAX.out⟩)
        clear hz hr g4 g6
        go_wp2_with fail
        go_end0
        exact HF.out
      · rw [if_pos (by simpa using hz)] at hr
        have hz1:(u.n != 0)=true:=by simp [hz]
        have HZ:=hiD hz
        clear hz
        go_wp2_with fail
        go_at_call 145
        refine HGO.out.mono ?_
        rintro e w6 ⟨rfl,rfl⟩
        clear HGO
        have hmP:Mods (fun k=>¬ P k) W w:=HEX.out.mods.mono (fun k _ hk=>HOF.out k hk)
        obtain ⟨z,hz⟩:∃ z,blockR L k s1 F2 t=some z:=by
         cases hz:blockR L k s1 F2 t with
         | none=>rw [hz] at hr;cases hr
         | some z=>exact ⟨z,rfl⟩
        rw [hz] at hr
        have HR:=hiD hr
        have HCB:=hiD (HIB.out k (by have:=HKF.out;omega) t _ vp b P M' A' s1 N Nt m mt F2 nb mb n2 NN _ la ln lc w z HPW.out HST.out.1.2.2 HST.out.2.1.2 HST.out.2.2.1 (by have:=HFW.out;omega) (by have h1:=HVT.out;have h2:=HR2.out.1;omega) HST.out.2.2.2.2.1 (HBB.out.1.mods hmP (fun _ _ k=>k)) (StsAt.modsTo hmP (fun _ _ k=>k) _ _ HBB.out.2) hz)
        have HBK:Hid (∀ G s6,z=(.ok G,s6)→s6.fuel≤s1.fuel∧s6.arrs.length+K*s6.fuel≤1000000000000∧FTy s6 N G∧RsOk s6∧FrOk G):=hiD (fun G s6 e=>by
         subst e
         have h1:=(less_all L k).2.2.2.1 s1 F2 t _ hz
         have h2:=(paid_all HLL.out.1 k).2.2.2.1 s1 F2 t HST.out.2.1.2 _ hz
         have h3:=((stmts_typed L k).2.1 s1 N Nt m mt F2 t HPW.out.nm HPW.out.ty HST.out.2.2.1 _ hz).2 G rfl
         have h4:=((rg_all HLL.out.2 k).2.2.2.1 s1 F2 t HPW.out.rs HPW.out.fr (fitSs_num t _ HST.out.1.2.2) _ hz).1 G rfl
         have h5:=HFW.out
         exact ⟨h1,by simp only at h2;omega,h3.less (stmtsK_ext L t N Nt m mt HPW.out.nm HST.out.2.2.1),h4.2,h4.1⟩)
        have g7:=HBw.out.c7
        rw [HCS.out] at g7
        have e5:=g7.cell (i:=5) rfl
        clear hr hz hmP
        go_wp2_with fail
        go_at_call 94
        refine HCB.out.mono ?_
        intro e w7 hZ
        obtain rfl:=hZ.told
        clear HCB g4 g6 g7 e5
        obtain ⟨z,s6⟩:=z
        cases z with
        | error sg =>
          have hr:=HR.out
          obtain rfl:=(Option.some.inj hr).symm
          have HF:=hiD (hZ.before HEX.out HAX.out)
          have hdead:Dead W b P M A nb mb NN (.error sg,s6) w7:=⟨HF.out,_,_,rfl⟩
          obtain ⟨told,q,t1,w4,hflag⟩:=hdead.flags
          obtain ⟨M7,hE7⟩:=hZ.off
          have HB7:=hiD (HBw.out.step hE7 (fun k hk=>by have:=HTN.out k hk;omega))
          have g4:=HB7.out.c4.cell (i:=0) rfl
          have g6:=HB7.out.c6.cell (i:=0) rfl
          have HGO:=hiD (going_any W.heap.size b nb q told w7 g4 g6 w4 t1)
          have hgo:(q==0 && !told)=false:=by
            rcases hflag with rfl|⟨rfl,h0⟩
            · simp
            · rw [h0];rfl
          clear hr hdead hflag hE7 t1 w4 g4 g6 hZ HR HPW
          go_wp2_with fail
          go_at_call 145
          refine HGO.out.mono ?_
          rintro e w8 ⟨rfl,rfl⟩
          rw [hgo]
          go_wp2_with fail
          go_end0
          exact HF.out
        | ok G =>
          obtain ⟨-,M7,A7,n7,hw,hns,hrm,hE,hA⟩:=hZ
          obtain ⟨hb1,hb2,hb3,hb4,hb5⟩:=HBK.out G s6 rfl
          have HB7:=hiD (HBw.out.step hE (fun k hk=>by have:=HTN.out k hk;omega))
          have g4:=HB7.out.c4.cell (i:=0) rfl
          have g6:=HB7.out.c6.cell (i:=0) rfl
          have w4:=hw.go_yes
          have t1:=hns.cells.2.1
          have HGO:=hiD (going_any W.heap.size b nb 0 false w7 g4 g6 w4 t1)
          have hr:bindR (stepR s6) (fun _ s=>whileR L k s G v t)=some r:=HR.out
          have HE7:=hiD (HEX.out.trans hE)
          have HA7:=hiD (HAX.out.trans hA)
          have HP7:Hid (PreS L w7 b P M7 A7 s6 N G nb mb n7 (.slice la ln lc)):=hiD ⟨hw,hns,HPW.out.fs.mods (hE.mods.mono fun k hl hk=>hk.elim (fun e=>HOF.out k (Or.inl e)) (HPW.out.wd.off k)) (fun _ _ k=>k),hb3,hb4,hb5,HPW.out.nm⟩
          obtain ⟨y9,hy9⟩:∃ y9,stepR s6=some y9:=by unfold stepR;split <;> exact ⟨_,rfl⟩
          rw [hy9] at hr
          have HR9:=hiD hr
          have HY9:=hiD hy9
          have HSP:=hiD (spend_any None b P M7 A7 s6 w7 y9 hw hy9)
          have HNUM:=hiD (And.intro hb1 (And.intro hb2 hrm))
          clear hr hy9 hw hns hE hA hb1 hb2 hb3 hb4 hb5 hrm w4 t1 HR HPW HBK
          go_wp2_with fail
          go_at_call 145
          refine HGO.out.mono ?_
          rintro e w8 ⟨rfl,rfl⟩
          clear HGO
          go_wp2_with fail
          go_at_call 125
          refine HSP.out.mono ?_
          intro e w8 hZ
          obtain ⟨y9,s9⟩:=y9
          cases y9 with
          | error sg =>
            cases sg with
            | ret q=>exact hZ.elim
            | stop q =>
              obtain ⟨rfl,M9,z1,z2⟩:=hZ
              have hr:=HR9.out
              obtain rfl:=(Option.some.inj hr).symm
              have HF:=hiD (show ResS W b P M A nb mb NN (.error (.stop q),s9) (.returned (.tuple #[])) w8 from ⟨rfl,M9,n7,G,z1,HP7.out.ns.ext z2,HE7.out.trans z2.sole⟩)
              clear z1 z2 hr HR9
              go_wp2_with fail
              go_end0
              exact HF.out
          | ok u9 =>
            obtain ⟨M9,A9,rfl,z1,z2,z3⟩:=hZ
            have hfu:=step_ok HY9.out
            have hs9:s9={ s6 with fuel:=s6.fuel-1 }:=by
                have:=HY9.out
                unfold stepR at this
                split at this
                · cases this
                · exact (Prod.mk.inj (Option.some.inj this)).2.symm
            have HX9:Hid (whileR L k s9 G v t=some r):=HR9
            have HP9:=hiD (HP7.out.ext z2 z1 (by rw [hs9];exact Nat.le_refl _) (by rw [hs9];exact HP7.out.rs))
            have HE9:=hiD (HE7.out.trans z2.sole)
            have HA9:=hiD (HA7.out.trans z3)
            have HB9:=hiD (HB7.out.step z2 (fun _ f=>f.elim))
            have HFC:=hiD z1.fuelAt
            have HN9:Hid (n7+1+s9.fuel≤NN∧s9.arrs.length+K*s9.fuel+K≤1000000000000):=hiD (by
                obtain ⟨h1,h2,h3⟩:=HNUM.out
                have h4:s9.arrs=s6.arrs:=by rw [hs9]
                rw [h4]
                rw [← hfu,Nat.mul_add,Nat.mul_one] at h2
                exact ⟨by omega,by omega⟩)
            have HLT:Hid (s9.fuel<s2.fuel):=hiD (by have h1:=HNUM.out.1;have h2:=HVT.out;omega)
            clear z1 z2 z3 hfu hs9 HR9 HSP g4 g6
            go_wp2_with fail
            refine ⟨⟨k,s9,G,M9,A9,n7,by have:=HKF.out;omega,HX9,HP9,HN9,HE9,HA9,HB9⟩,?_⟩
            rw [HFC.out,HFU.out]
            exact HLT.out
theorem sw_any {L:List Fn} {K f:Nat} (hL:∀ x∈L,FewSs K x.body) (hN:∀ x∈L,NumSts x.body) (ihe:∀ k,k≤f→EwC L K k) (ihb:∀ k,k≤f→BwC L K k):SwC L K f:=by
 intro x
 cases x with
 | var a x v=>exact sw_var hL hN ihe ihb a x v
 | set a x v=>exact sw_set hL hN ihe ihb a x v
 | put a x i v=>exact sw_put hL hN ihe ihb a x i v
 | cond a v t e=>exact sw_cond hL hN ihe ihb a v t e
 | loop a v t=>exact sw_loop hL hN ihe ihb a v t
 | ret a v=>exact sw_ret hL hN ihe ihb a v
 | print a v=>exact sw_print hL hN ihe ihb a v
 | call a v=>exact sw_call hL hN ihe ihb a v
end Go.Proofs.YtdgedlhefjmcpaaGreatDoor.TreeP.R

/- The document's reader as it lies in memory: its tokens, what was wrong first; its small parts. Conditions: that Fine, and a number of the library's own, lie. How a walk through the document's reader goes on behind a call of one of its parts. No conditions. -/
import Derived.Test.YtdgedlhefjmcpaaGreatDoorEn04
import Derived.Test.YtdgedlhefjmcpaaGreatDoorEn08
import Derived.Test.YtdgedlhefjmcpaaGreatDoorShelfC
import Derived.Test.YtdgedlhefjmcpaaGreatDoorShelfE
import Derived.Deep.QuietTactic
import Derived.BigQuiet
import Derived.Deep.DeepCutAuto
import Derived.Deep.RegionWith
namespace Go.Proofs.YtdgedlhefjmcpaaGreatDoor.TreeP.R
open Go.RowKit Go.Proofs.YtdgedlhefjmcpaaGreatDoor.Wo Go.Proofs.YtdgedlhefjmcpaaGreatDoor.TreeP
set_option linter.unusedVariables false
set_option linter.unusedSimpArgs false
def TF (t:Tok):Prop:=(t.kind=1∧(∃ c r,t.text=c::r∧letterB c=true)∧t.text.all (fun x=>letterB x || digitB x)=true)∨(t.kind=2∧t.text≠[]∧t.text.all digitB=true)∨(t.kind=3∧t.text∈markList)∨(t.kind=4∧t.text=[])
structure RAt (W:World) (b g o c:Nat) (ts:List Tok) (n a:Int):Prop where
 blk:Blk W b [.slice (some ⟨g,o,none⟩) ts.length c,.int .i64 n,.int .i64 a] 93
 cap:ts.length≤c
 max:c≤9223372036854775807
 len:ts.length≤10000000
 lt:g<b
 toks:ToksAt W g o ts
 ends:Ends ts
 small:∀ t∈ts,t.text.length≤10000000
 forms:∀ t∈ts,TF t
def Par (W:World) (b:Nat) (ts:List Tok):Prop:=∃ g o c,RAt W b g o c ts 0 (-1)
def Bad (W:World) (b:Nat) (n a:Int):Prop:=∃ g o c ts,RAt W b g o c ts n a∧(n=3∨n=4)
theorem RAt.mods {S:Nat→Prop} {W W':World} {b g o c:Nat} {ts:List Tok} {n a:Int} (h:RAt W b g o c ts n a) (hm:Mods S W W') (hb:¬ S b) (hg:¬ S g):RAt W' b g o c ts n a :=
 ⟨h.blk.mods hm hb,h.cap,h.max,h.len,h.lt,h.toks.mods hm hg,h.ends,h.small,h.forms⟩
theorem Par.far {W W':World} {b:Nat} {ts:List Tok} {T:Nat→Prop} (h:Par W b ts) (hm:Mods T W W') (hT:∀ k,T k→b<k):Par W' b ts:=by
 obtain ⟨g,o,c,h⟩:=h
 exact ⟨g,o,c,h.mods hm (fun f=>Nat.lt_irrefl _ (hT _ f)) (fun f=>Nat.lt_asymm h.lt (hT _ f))⟩
theorem Bad.far {W W':World} {b:Nat} {n a:Int} {T:Nat→Prop} (h:Bad W b n a) (hm:Mods T W W') (hT:∀ k,T k→b<k):Bad W' b n a:=by
 obtain ⟨g,o,c,ts,h,h0⟩:=h
 exact ⟨g,o,c,ts,h.mods hm (fun f=>Nat.lt_irrefl _ (hT _ f)) (fun f=>Nat.lt_asymm h.lt (hT _ f)),h0⟩
theorem Par.mods {W W':World} {b:Nat} {ts:List Tok} (h:Par W b ts) (hm:Mods None W W'):Par W' b ts:=h.far hm (fun _ f=>f.elim)
theorem Bad.mods {W W':World} {b:Nat} {n a:Int} (h:Bad W b n a) (hm:Mods None W W'):Bad W' b n a:=h.far hm (fun _ f=>f.elim)
theorem Par.ends {W:World} {b:Nat} {ts:List Tok} (h:Par W b ts):Ends ts:=by
 obtain ⟨g,o,c,h⟩:=h;exact h.ends
theorem RAt.tail {W:World} {b g o c:Nat} {t:Tok} {ts:List Tok} {n a:Int} (h:RAt W b g o c (t::ts) n a) (hk:t.kind≠4):RAt (W.setCell ⟨b,0,none⟩ (.slice (some ⟨g,o+3,none⟩) ts.length (c-1))) b g (o+3) (c-1) ts n a:=by
 have hm:Mods (·=b) W (W.setCell ⟨b,0,none⟩ (.slice (some ⟨g,o+3,none⟩) ts.length (c-1))):=Mods.setCell (S:=(·=b)) (p:=⟨b,0,none⟩) (Mods.refl _ _) (fun _=>rfl) _
 have hc:=h.cap
 simp only [List.length_cons] at hc
 exact ⟨h.blk.set 0 _,by omega,by have:=h.max;omega,by have:=h.len;simp only [List.length_cons] at this;omega,h.lt,h.toks.tail.mods hm (Nat.ne_of_lt h.lt),h.ends.tail hk,fun u hu=>h.small u (List.mem_cons_of_mem _ hu),fun u hu=>h.forms u (List.mem_cons_of_mem _ hu)⟩
section
variable {W:World} {b g o c:Nat} {t:Tok} {ts:List Tok} {n a:Int}
theorem RAt.cl (h:RAt W b g o c (t::ts) n a):W.cell? ⟨b,0,none⟩=some (.slice (some ⟨g,o,none⟩) (ts.length+1) c):=h.blk.cell rfl
theorem RAt.ck (h:RAt W b g o c (t::ts) n a):W.cell? ⟨g,o,none⟩=some (.int .i64 t.kind):=(h.toks 0 t rfl).1
theorem RAt.ct (h:RAt W b g o c (t::ts) n a):W.cell? ⟨g,o+1,none⟩=some (.string ⟨t.text.toArray⟩):=(h.toks 0 t rfl).2.1
theorem RAt.ca (h:RAt W b g o c (t::ts) n a):W.cell? ⟨g,o+2,none⟩=some (.int .i64 t.at_):=(h.toks 0 t rfl).2.2
end
def FineAt (W:World) (b:Nat):Prop:=0<b∧W.cell? ⟨0,0,none⟩=some (.int .i64 0)∧W.cell? ⟨0,1,none⟩=some (.int .i64 (-1))
theorem FineAt.far {W W':World} {b:Nat} {T:Nat→Prop} (h:FineAt W b) (hm:Mods T W W') (hT:∀ k,T k→b≤k):FineAt W' b:=by
 obtain ⟨h1,h2,h3⟩:=h
 exact ⟨h1,hm.cellOf h2 (fun f=>Nat.lt_irrefl _ (Nat.lt_of_lt_of_le h1 (hT _ f))),hm.cellOf h3 (fun f=>Nat.lt_irrefl _ (Nat.lt_of_lt_of_le h1 (hT _ f)))⟩
def MaxAt (W:World) (b:Nat):Prop:=3<b∧∃ m,W.cell? ⟨3,0,none⟩=some (.int .i64 m)
theorem MaxAt.far {W W':World} {b:Nat} {T:Nat→Prop} (h:MaxAt W b) (hm:Mods T W W') (hT:∀ k,T k→b≤k):MaxAt W' b:=by
 obtain ⟨h1,m,h2⟩:=h
 exact ⟨h1,m,hm.cellOf h2 (fun f=>Nat.lt_irrefl _ (Nat.lt_of_lt_of_le h1 (hT _ f)))⟩
theorem eql_fine (w:World):(Go.binOp .eql 40 (.agg #[.int .i64 0,.int .i64 (-1)]) (.agg #[.int .i64 0,.int .i64 (-1)])).run Tryz.prog w=.ok (.bool true) w:=by kernel_rfl
theorem eql_3 (a:Int) (w:World):(Go.binOp .eql 40 (.agg #[.int .i64 3,.int .i64 a]) (.agg #[.int .i64 0,.int .i64 (-1)])).run Tryz.prog w=.ok (.bool false) w:=by kernel_rfl
theorem eql_4 (a:Int) (w:World):(Go.binOp .eql 40 (.agg #[.int .i64 4,.int .i64 a]) (.agg #[.int .i64 0,.int .i64 (-1)])).run Tryz.prog w=.ok (.bool false) w:=by kernel_rfl
set_option maxRecDepth 100000 in
theorem ok_yes (b:Nat) (ts:List Tok) (W:World) (h:Par W b ts) (hF:FineAt W b) :
  Calls Tryz.prog 42 #[.pointer (some ⟨b,0,none⟩)] W fun e w=>e=.returned (.bool true)∧∃ d,w=W.drewN d:=by
 obtain ⟨g,o,c,h⟩:=h
 have c1:=h.blk.cell (i:=1) rfl
 have c2:=h.blk.cell (i:=2) rfl
 have he:=eql_fine
 obtain ⟨-,f1,f2⟩:=hF
 clear h
 go_enter Tryz.func42,Tryz.ntmps42
 go_wp2_with fail
 go_quiet (fail)
 go_wp2
 go_ret
 exact ⟨rfl,_,rfl⟩
set_option maxRecDepth 100000 in
theorem ok_no (b:Nat) (n a:Int) (W:World) (h:Bad W b n a) (hF:FineAt W b) :
  Calls Tryz.prog 42 #[.pointer (some ⟨b,0,none⟩)] W fun e w=>e=.returned (.bool false)∧∃ d,w=W.drewN d:=by
 obtain ⟨g,o,c,ts,h,h0⟩:=h
 have c1:=h.blk.cell (i:=1) rfl
 have c2:=h.blk.cell (i:=2) rfl
 obtain ⟨-,f1,f2⟩:=hF
 clear h
 rcases h0 with rfl|rfl
 ·have he:=eql_3 a
  go_enter Tryz.func42,Tryz.ntmps42
  go_wp2_with fail
  go_quiet (fail)
  go_wp2
  go_ret
  exact ⟨rfl,_,rfl⟩
 ·have he:=eql_4 a
  go_enter Tryz.func42,Tryz.ntmps42
  go_wp2_with fail
  go_quiet (fail)
  go_wp2
  go_ret
  exact ⟨rfl,_,rfl⟩
structure Base (W:World) (b:Nat) (S:Nat→Prop):Prop where
 fine:FineAt W b
 most:MaxAt W b
 rng:RangeAt W b
 has:S b
 old:∀ k,S k→k<W.heap.size
theorem Base.far {W W':World} {b:Nat} {S T:Nat→Prop} (h:Base W b S) (hm:Mods T W W') (hT:∀ k,T k→b≤k):Base W' b S :=
 ⟨h.fine.far hm hT,h.most.far hm hT,h.rng.far hm hT,h.has,fun k hk=>Nat.lt_of_lt_of_le (h.old k hk) hm.size⟩
structure Rd (W:World) (b:Nat) (S:Nat→Prop) (ts:List Tok):Prop where
 par:Par W b ts
 base:Base W b S
structure Rb (W:World) (b:Nat) (S:Nat→Prop) (n a:Int):Prop where
 bad:Bad W b n a
 base:Base W b S
theorem Rd.next {W W':World} {b:Nat} {S:Nat→Prop} {ts r:List Tok} (h:Rd W b S ts) (hp:Par W' b r) (hm:Mods (·=b) W W'):Rd W' b S r:=⟨hp,h.base.far hm (fun k hk=>Nat.le_of_eq hk.symm)⟩
theorem Rd.quiet {W W':World} {b:Nat} {S:Nat→Prop} {ts:List Tok} (h:Rd W b S ts) (hm:Mods None W W'):Rd W' b S ts:=⟨h.par.mods hm,h.base.far hm (fun _ f=>f.elim)⟩
theorem Rb.quiet {W W':World} {b:Nat} {S:Nat→Prop} {n a:Int} (h:Rb W b S n a) (hm:Mods None W W'):Rb W' b S n a:=⟨h.bad.mods hm,h.base.far hm (fun _ f=>f.elim)⟩
theorem Base.ok_ {W:World} {b:Nat} {S:Nat→Prop} {ts:List Tok} (h:Rd W b S ts) (k:Nat):Calls Tryz.prog 42 #[.pointer (some ⟨b,0,none⟩)] (W.drewN k) fun e w=>e=.returned (.bool true)∧∃ d,w=W.drewN d:=by
 have h2:=h.quiet ((Mods.refl None W).drewN k)
 exact (ok_yes b ts _ h2.par h2.base.fine).mono fun e w ⟨h1,d,h3⟩=>⟨h1,k+d,by rw [h3,World.drewN_drewN]⟩
theorem mods_drewN {W w:World} (h:∃ d,w=W.drewN d):Mods None W w:=by
 obtain ⟨d,rfl⟩:=h
 exact (Mods.refl None W).drewN d
set_option maxRecDepth 100000 in
set_option maxHeartbeats 400000 in
theorem see_any (b:Nat) (S:Nat→Prop) (s:List UInt8) (ts:List Tok) (W:World) (h:Rd W b S ts) :
  Calls Tryz.prog 78 #[.pointer (some ⟨b,0,none⟩),str s] W fun e w=>e=.returned (.bool (seeB s ts))∧∃ d,w=W.drewN d:=by
 have HO:=hiD (ok_yes b ts W h.par h.base.fine)
 obtain ⟨g,o,c,h⟩:=h.par
 obtain ⟨t,r,rfl⟩:=ends_cons h.ends
 have hl:=h.cl
 have hk:=h.ck
 have ht:=h.ct
 have hcap:=h.cap
 have hmax:=h.max
 simp only [List.length_cons] at hcap
 obtain ⟨tk,tt,ta⟩:=t
 simp only at hk ht
 unfold str
 have HS:seeB s (⟨tk,tt,ta⟩::r)=(tt==s && tk != 4):=rfl
 rw [HS]
 clear h HS
 cases hq:(tt==s)
 all_goals
  by_cases h4:tk=4
  ·subst h4
   go_enter Tryz.func78,Tryz.ntmps78
   go_wp2_with fail
   go_at_call 42
   refine HO.out.mono ?_
   rintro e w ⟨rfl,d,rfl⟩
   go_wp2
   go_ret
   exact ⟨rfl,_,rfl⟩
  ·have h4b:(tk != 4)=true:=by simpa using h4
   go_enter Tryz.func78,Tryz.ntmps78
   go_wp2_with fail
   go_at_call 42
   refine HO.out.mono ?_
   rintro e w ⟨rfl,d,rfl⟩
   go_wp2
   go_ret
   exact ⟨by rw [h4b];rfl,_,rfl⟩
set_option maxRecDepth 100000 in
theorem see_bad (b:Nat) (S:Nat→Prop) (s:List UInt8) (n a:Int) (W:World) (h:Rb W b S n a) :
  Calls Tryz.prog 78 #[.pointer (some ⟨b,0,none⟩),str s] W fun e w=>e=.returned (.bool false)∧∃ d,w=W.drewN d:=by
 have HO:=hiD (ok_no b n a W h.bad h.base.fine)
 clear h
 unfold str
 go_enter Tryz.func78,Tryz.ntmps78
 go_wp2_with fail
 go_at_call 42
 refine HO.out.mono ?_
 rintro e w ⟨rfl,d,rfl⟩
 go_wp2
 go_ret
 exact ⟨rfl,_,rfl⟩
theorem take_no (b:Nat) (S:Nat→Prop) (s:List UInt8) (ts:List Tok) (W:World) (h:Rd W b S ts) (hs:seeB s ts=false) :
  Calls Tryz.prog 46 #[.pointer (some ⟨b,0,none⟩),str s] W fun e w=>e=.returned (.bool false)∧Mods None W w:=by
 have HS:=see_any b S s ts W h
 rw [hs] at HS
 unfold str at HS ⊢
 have H:=hiD HS
 clear h hs HS
 go_enter Tryz.func46,Tryz.ntmps46
 go_wp2_with fail
 go_at_call 78
 refine H.out.mono ?_
 rintro e w ⟨rfl,hd⟩
 have HM:=hiD (mods_drewN hd)
 clear hd
 go_wp2
 go_ret
 exact ⟨rfl,HM.out⟩
theorem take_bad (b:Nat) (S:Nat→Prop) (s:List UInt8) (n a:Int) (W:World) (h:Rb W b S n a) :
  Calls Tryz.prog 46 #[.pointer (some ⟨b,0,none⟩),str s] W fun e w=>e=.returned (.bool false)∧Mods None W w:=by
 have HS:=see_bad b S s n a W h
 unfold str at HS ⊢
 have H:=hiD HS
 clear h HS
 go_enter Tryz.func46,Tryz.ntmps46
 go_wp2_with fail
 go_at_call 78
 refine H.out.mono ?_
 rintro e w ⟨rfl,hd⟩
 have HM:=hiD (mods_drewN hd)
 clear hd
 go_wp2
 go_ret
 exact ⟨rfl,HM.out⟩
def Passed (W:World) (b:Nat) (ts:List Tok) (W':World):Prop:=Par W' b ts.tail∧Mods (·=b) W W'
theorem more_left {W:World} {b g o c:Nat} {t:Tok} {r:List Tok} {n a:Int} (h:RAt W b g o c (t::r) n a) (hk:t.kind≠4):1≤r.length:=by
 have:=(h.ends.tail hk).ne
 cases r with
 | nil=>exact absurd rfl this
 | cons _ _=>simp
set_option maxRecDepth 100000 in
theorem take_yes (b:Nat) (S:Nat→Prop) (s:List UInt8) (ts:List Tok) (W:World) (h:Rd W b S ts) (hs:seeB s ts=true) :
  Calls Tryz.prog 46 #[.pointer (some ⟨b,0,none⟩),str s] W fun e w=>e=.returned (.bool true)∧Passed W b ts w:=by
 have HS:=see_any b S s ts W h
 rw [hs] at HS
 unfold str at HS ⊢
 have H:=hiD HS
 obtain ⟨t,r,rfl,hk⟩:=see_cons hs h.par.ends
 obtain ⟨g,o,c,h⟩:=h.par
 have HP:=hiD (And.intro h hk)
 have hcap:=h.cap
 have hmax:=h.max
 simp only [List.length_cons] at hcap
 have hr:1≤r.length:=more_left h hk
 clear h hs HS hk
 go_enter Tryz.func46,Tryz.ntmps46
 go_wp2_with fail
 go_at_call 78
 refine H.out.mono ?_
 rintro e w ⟨rfl,hd⟩
 have hm:=mods_drewN hd
 have HM:=hiD hm
 have h2:=HP.out.1.mods hm (fun f=>f) (fun f=>f)
 have hl:=h2.cl
 have hf:=h2.blk.free 0
 have HT:=hiD (h2.tail HP.out.2)
 clear hd h2 hm
 go_wp2
 go_ret
 exact ⟨rfl,⟨_,_,_,HT.out⟩,Mods.setCell (S:=(·=b)) (p:=⟨b,0,none⟩) (HM.out.mono fun _ _ f=>f.elim) (fun _=>rfl) _⟩
def Fails (W:World) (b:Nat) (S:Nat→Prop) (n a:Int) (W':World):Prop:=Rb W' b S n a∧Mods (·=b) W W'
set_option maxRecDepth 100000 in
theorem fails_any (b:Nat) (S:Nat→Prop) (n:Int) (ts:List Tok) (W:World) (h:Rd W b S ts) (hn:n=3∨n=4) :
  Calls Tryz.prog 43 #[.pointer (some ⟨b,0,none⟩),.int .i64 n] W fun e w=>e=.returned (.tuple #[])∧Fails W b S n (headAt ts) w:=by
 have HO:=hiD (ok_yes b ts W h.par h.base.fine)
 have HB:=hiD h.base
 obtain ⟨g,o,c,h⟩:=h.par
 obtain ⟨t,r,rfl⟩:=ends_cons h.ends
 have HP:=hiD h
 have HN:=hiD hn
 have hcap:=h.cap
 have hmax:=h.max
 have hlt:=h.lt
 simp only [List.length_cons] at hcap
 have hta:headAt (t::r)=t.at_:=rfl
 rw [hta]
 obtain ⟨ta,hta2⟩:∃ ta,ta=t.at_:=⟨_,rfl⟩
 rw [← hta2]
 have HTA:=hiD hta2
 clear h hn hta hta2
 go_enter Tryz.func43,Tryz.ntmps43
 go_wp2_with fail
 go_at_call 42
 refine HO.out.mono ?_
 rintro e w ⟨rfl,hd⟩
 have hm:=mods_drewN hd
 have h2:=HP.out.mods hm (fun f=>f) (fun f=>f)
 have hl:=h2.cl
 have ha:=h2.ca
 rw [← HTA.out] at ha
 have c1:=h2.blk.cell (i:=1) rfl
 have c2:=h2.blk.cell (i:=2) rfl
 have hf1:=h2.blk.free 1
 have hf2:=h2.blk.free 2
 have HM:=hiD hm
 have H2:=hiD h2
 clear hd h2 hm
 go_wp2
 go_end0
 have hm2:Mods (·=b) w ((w.setCell ⟨b,1,none⟩ (.int .i64 n)).setCell ⟨b,2,none⟩ (.int .i64 ta)):=(mods_put w b 1 _).trans (mods_put _ b 2 _)
 have hm3:Mods (·=b) W ((w.setCell ⟨b,1,none⟩ (.int .i64 n)).setCell ⟨b,2,none⟩ (.int .i64 ta)):=(HM.out.mono fun _ _ f=>f.elim).trans hm2
 refine ⟨rfl,⟨⟨g,o,c,t::r,⟨?_,H2.out.cap,H2.out.max,H2.out.len,H2.out.lt,H2.out.toks.mods hm2 (Nat.ne_of_lt H2.out.lt),H2.out.ends,H2.out.small,H2.out.forms⟩,HN.out⟩,HB.out.far hm3 (fun k hk=>Nat.le_of_eq hk.symm)⟩,hm3⟩
 exact blk_put (blk_put H2.out.blk 1 (.int .i64 n) rfl) 2 (.int .i64 ta) rfl
set_option maxRecDepth 100000 in
theorem fails_bad (b:Nat) (S:Nat→Prop) (k n a:Int) (W:World) (h:Rb W b S n a) :
  Calls Tryz.prog 43 #[.pointer (some ⟨b,0,none⟩),.int .i64 k] W fun e w=>e=.returned (.tuple #[])∧Mods None W w:=by
 have HO:=hiD (ok_no b n a W h.bad h.base.fine)
 clear h
 go_enter Tryz.func43,Tryz.ntmps43
 go_wp2_with fail
 go_at_call 42
 refine HO.out.mono ?_
 rintro e w ⟨rfl,hd⟩
 have HM:=hiD (mods_drewN hd)
 clear hd
 go_wp2
 go_end0
 exact ⟨rfl,HM.out⟩
theorem must_yes (b:Nat) (S:Nat→Prop) (s:List UInt8) (ts:List Tok) (W:World) (h:Rd W b S ts) (hs:seeB s ts=true) :
  Calls Tryz.prog 44 #[.pointer (some ⟨b,0,none⟩),str s] W fun e w=>e=.returned (.tuple #[])∧Passed W b ts w:=by
 have H:=hiD (take_yes b S s ts W h hs)
 unfold str at H ⊢
 clear h hs
 go_enter Tryz.func44,Tryz.ntmps44
 go_wp2_with (go_at_call 46;refine H.out.mono ?_;rintro e w' ⟨rfl,hp⟩)
 go_end0
 exact ⟨rfl,hp⟩
theorem must_no (b:Nat) (S:Nat→Prop) (s:List UInt8) (ts:List Tok) (W:World) (h:Rd W b S ts) (hs:seeB s ts=false) :
  Calls Tryz.prog 44 #[.pointer (some ⟨b,0,none⟩),str s] W fun e w=>e=.returned (.tuple #[])∧Fails W b S 3 (headAt ts) w:=by
 have H:=hiD (take_no b S s ts W h hs)
 have HF:=hiD (fun (w:World) (hm:Mods None W w)=>fails_any b S 3 ts w (h.quiet hm) (Or.inl rfl))
 unfold str at H ⊢
 clear h hs
 go_enter Tryz.func44,Tryz.ntmps44
 go_wp2_with fail
 go_at_call 46
 refine H.out.mono ?_
 rintro e w ⟨rfl,hm⟩
 have HM:=hiD hm
 clear hm
 go_wp2_with fail
 go_at_call 43
 refine (HF.out _ HM.out).mono ?_
 rintro e w2 ⟨rfl,h1,h2⟩
 have HB:=hiD (And.intro h1 h2)
 clear h1 h2
 go_wp2
 go_end0
 exact ⟨rfl,HB.out.1,(HM.out.mono fun _ _ f=>f.elim).trans HB.out.2⟩
theorem must_bad (b:Nat) (S:Nat→Prop) (s:List UInt8) (n a:Int) (W:World) (h:Rb W b S n a) :
  Calls Tryz.prog 44 #[.pointer (some ⟨b,0,none⟩),str s] W fun e w=>e=.returned (.tuple #[])∧Mods None W w:=by
 have H:=hiD (take_bad b S s n a W h)
 have HF:=hiD (fun (w:World) (hm:Mods None W w)=>fails_bad b S 3 n a w (h.quiet hm))
 unfold str at H ⊢
 clear h
 go_enter Tryz.func44,Tryz.ntmps44
 go_wp2_with fail
 go_at_call 46
 refine H.out.mono ?_
 rintro e w ⟨rfl,hm⟩
 have HM:=hiD hm
 clear hm
 go_wp2_with fail
 go_at_call 43
 refine (HF.out _ HM.out).mono ?_
 rintro e w2 ⟨rfl,h1⟩
 have HB:=hiD h1
 clear h1
 go_wp2
 go_end0
 exact ⟨rfl,HM.out.trans HB.out⟩
def Got {α:Type} (M:Nat→Prop) (W:World) (b:Nat) (S:Nat→Prop) (Sh:Value→Prop) (V:α→Value→World→Prop):PR α→Ending→World→Prop
 | none=>fun _ _=>True
 | some (.error (n,a))=>fun e W'=>∃ x,e=.returned x∧Sh x∧Rb W' b S n a∧Mods M W W'
 | some (.ok (v,ts))=>fun e W'=>∃ x,e=.returned x∧V v x W'∧Par W' b ts∧Mods M W W'
theorem contains_any (s t:List UInt8) (b:Nat) (W:World) (hM:MaxAt W b) (hs:s.length<4294967281) :
  Calls Tryz.prog 22 #[.string ⟨s.toArray⟩,.string ⟨t.toArray⟩] W fun e w=>e=.returned (.bool (Lib.contains s t))∧W=w:=by
 obtain ⟨-,m,hm⟩:=hM
 exact (Any.strings_Contains { Tryz.laysM144 with } ⟨s.toArray⟩ ⟨t.toArray⟩ m W (by simpa [ByteArray.size] using hs) hm).mono fun e w ⟨h1,h2⟩=>⟨h1,h2.symm⟩
theorem blanks_cat (t:List UInt8):((⟨#[32]⟩:ByteArray)++⟨t.toArray⟩++⟨#[32]⟩)=⟨(32::(t++[32])).toArray⟩:=by
 apply ByteArray.ext
 simp [ByteArray.data_append]
theorem contains_kept (t:List UInt8) (b:Nat) (W:World) (hM:MaxAt W b) :
  Calls Tryz.prog 22 #[.string ⟨#[32,102,110,32,118,97,114,32,105,102,32,101,108,115,101,32,119,104,105,108,101,32,114,101,116,117,114,110,32,112,114,105,110,116,32,110,101,119,32,108,101,110,32,105,110,112,117,116,32,105,110,116,32,97,114,114,32]⟩,.string ((⟨#[32]⟩:ByteArray)++⟨t.toArray⟩++⟨#[32]⟩)] W fun e w=>e=.returned (.bool (Lib.contains keptText (32::(t++[32]))))∧W=w:=by
 rw [blanks_cat]
 exact contains_any keptText (32::(t++[32])) b W hM (by decide)
theorem fails_rd {W:World} {b:Nat} {S:Nat→Prop} {n a:Int} {w w2:World} (hm:Mods None W w) (hf:Fails w b S n a w2):Rb w2 b S n a∧Mods (·=b) W w2:=⟨hf.1,(hm.mono fun _ _ f=>f.elim).trans hf.2⟩
set_option maxRecDepth 100000 in
theorem name_any (b:Nat) (S:Nat→Prop) (ts:List Tok) (W:World) (h:Rd W b S ts) :
  Calls Tryz.prog 45 #[.pointer (some ⟨b,0,none⟩)] W (Got (·=b) W b S (fun x=>∃ s:List UInt8,x=str s∧s.length≤10000000) (fun s x _=>x=str s) (nameP ts)):=by
 have HF:=hiD (fun (n:Int) (w:World) (hm:Mods None W w) (hn:n=3∨n=4)=>fails_any b S n ts w (h.quiet hm) hn)
 have HFB:=hiD (fun (k n a:Int) (w:World) (hb:Rb w b S n a)=>fails_bad b S k n a w hb)
 have HO:=hiD (fun (w:World) (hm:Mods None W w)=>ok_yes b ts w (h.quiet hm).par (h.quiet hm).base.fine)
 have HON:=hiD (fun (n a:Int) (w:World) (hb:Rb w b S n a)=>ok_no b n a w hb.bad hb.base.fine)
 have HM:=hiD (fun (t:List UInt8) (w:World) (hm:Mods None W w)=>contains_kept t b w (h.quiet hm).base.most)
 have HR:=hiD h
 obtain ⟨g,o,c,h⟩:=h.par
 obtain ⟨t,r,rfl⟩:=ends_cons h.ends
 have hl:=h.cl
 have hk:=h.ck
 have ht:=h.ct
 have ha:=h.ca
 have hcap:=h.cap
 have hmax:=h.max
 have hs:=h.small t List.mem_cons_self
 have htf:=h.forms t List.mem_cons_self
 simp only [List.length_cons] at hcap
 have HP:=hiD h
 obtain ⟨tk,tt,ta⟩:=t
 simp only at hk ht hs
 unfold str at *
 have HN:nameP (⟨tk,tt,ta⟩::r)=if tk != 1 || keptB tt then failP 3 (⟨tk,tt,ta⟩::r) else if 12<tt.length then failP 4 (⟨tk,tt,ta⟩::r) else okP tt r:=rfl
 rw [HN]
 clear h HN
 by_cases h1:tk=1
 ·subst h1
  obtain ⟨-,h2,h3⟩|⟨h2,-⟩|⟨h2,-⟩|⟨h2,-⟩:=htf
  rotate_left
  ·cases h2
  ·cases h2
  ·cases h2
  have hkt:=hiD (kept_text (t:=tt) (no_blank h3))
  have hs2:¬ 9223372036854775807<tt.length+2:=by omega
  have hs3:¬ 9223372036854775807<tt.length+1:=by omega
  clear h2 h3
  have HA:=hiD ((Mods.refl None W).alloc (.cells #[.int .i64 1,.string ⟨tt.toArray⟩,.int .i64 ta] 95))
  have HB0:=hiD (Blk.new W #[.int .i64 1,.string ⟨tt.toArray⟩,.int .i64 ta] 95)
  have hne:Hid (¬ W.heap.size=b):=hiD (by have:=HR.out.base.old b HR.out.base.has;omega)
  have HK:=hiD ((HM.out tt _ HA.out).mono fun (e:Ending) (w:World) ⟨h1,h2⟩=>(⟨by rw [h1,hkt.out],h2⟩:e=Ending.returned (.bool (keptB tt))∧(W.alloc (.cells #[.int .i64 1,.string ⟨tt.toArray⟩,.int .i64 ta] 95))=w))
  clear HM hkt
  cases h2:keptB tt
  ·rw [h2] at HK
   by_cases h3:12<tt.length
   ·rw [if_neg (by simp),if_pos h3]
    have HF4:=hiD (HF.out 4 _ HA.out (Or.inr rfl))
    have h3i:(12:Int)<(tt.length:Int):=by omega
    clear h2
    go_enter Tryz.func45,Tryz.ntmps45
    go_wp2_with fail
    go_at_call 22
    refine HK.out.mono ?_
    rintro e w ⟨rfl,rfl⟩
    go_wp2_with fail
    go_at_call 43
    refine HF4.out.mono ?_
    rintro e w ⟨rfl,hf⟩
    have HFL:=hiD hf
    have hc1:=(HB0.out.mods hf.2 hne.out).cell (i:=1) rfl
    have HNB:=hiD (HON.out _ _ w hf.1)
    clear hf
    go_wp2_with fail
    go_at_call 42
    refine HNB.out.mono ?_
    rintro e w2 ⟨rfl,hd⟩
    have hm2:=mods_drewN hd
    have HM2:=hiD hm2
    have hc2:=hm2.cellOf hc1 (fun f=>f)
    clear hd hm2 hc1
    go_wp2
    go_ret
    exact ⟨_,rfl,⟨tt,rfl,hs⟩,(fails_rd HA.out HFL.out).1.quiet HM2.out,(fails_rd HA.out HFL.out).2.trans (HM2.out.mono fun _ _ f=>f.elim)⟩
   ·rw [if_neg (by simp),if_neg h3]
    have h3i:¬ (12:Int)<(tt.length:Int):=by omega
    have HO4:=hiD (HO.out _ HA.out)
    have hr:1≤r.length:=more_left HP.out (by simp)
    clear h2
    go_enter Tryz.func45,Tryz.ntmps45
    go_wp2_with fail
    go_at_call 22
    refine HK.out.mono ?_
    rintro e w ⟨rfl,rfl⟩
    go_wp2_with fail
    go_at_call 42
    refine HO4.out.mono ?_
    rintro e w2 ⟨rfl,hd⟩
    have hm2:=HA.out.trans (mods_drewN hd)
    have HM2:=hiD hm2
    have hc2:=(HB0.out.mods (mods_drewN hd) (fun f=>f)).cell (i:=1) rfl
    have hp2:=HP.out.mods hm2 (fun f=>f) (fun f=>f)
    have hl2:=hp2.cl
    have hf2:=hp2.blk.free 0
    have hlt2:=hp2.lt
    have HT:=hiD (hp2.tail (by simp))
    have hc3:(w2.setCell ⟨b,0,none⟩ (.slice (some ⟨g,o+3,none⟩) r.length (c-1))).cell? ⟨W.heap.size,1,none⟩=some (.string ⟨tt.toArray⟩):=(mods_put w2 b 0 _).cellOf hc2 hne.out
    clear hd hm2 hp2 hl ha
    go_wp2
    go_ret
    exact ⟨_,rfl,rfl,⟨_,_,_,HT.out⟩,(HM2.out.mono fun _ _ f=>f.elim).trans (mods_put w2 b 0 _)⟩
  ·rw [if_pos (by simp)]
   rw [h2] at HK
   have HF4:=hiD (HF.out 3 _ HA.out (Or.inl rfl))
   clear h2
   go_enter Tryz.func45,Tryz.ntmps45
   go_wp2_with fail
   go_at_call 22
   refine HK.out.mono ?_
   rintro e w ⟨rfl,rfl⟩
   go_wp2_with fail
   go_at_call 43
   refine HF4.out.mono ?_
   rintro e w ⟨rfl,hf⟩
   have HFL:=hiD hf
   have hc1:=(HB0.out.mods hf.2 hne.out).cell (i:=1) rfl
   have HNB:=hiD (HON.out _ _ w hf.1)
   clear hf
   go_wp2_with fail
   go_at_call 42
   refine HNB.out.mono ?_
   rintro e w2 ⟨rfl,hd⟩
   have hm2:=mods_drewN hd
   have HM2:=hiD hm2
   have hc2:=hm2.cellOf hc1 (fun f=>f)
   clear hd hm2 hc1
   go_wp2
   go_ret
   exact ⟨_,rfl,⟨tt,rfl,hs⟩,(fails_rd HA.out HFL.out).1.quiet HM2.out,(fails_rd HA.out HFL.out).2.trans (HM2.out.mono fun _ _ f=>f.elim)⟩
 ·have h1b:(tk != 1)=true:=by simpa using h1
  rw [if_pos (by simp [h1])]
  have HA:=hiD ((Mods.refl None W).alloc (.cells #[.int .i64 tk,.string ⟨tt.toArray⟩,.int .i64 ta] 95))
  have HB0:=hiD (Blk.new W #[.int .i64 tk,.string ⟨tt.toArray⟩,.int .i64 ta] 95)
  have hne:Hid (¬ W.heap.size=b):=hiD (by have:=HR.out.base.old b HR.out.base.has;omega)
  have HF4:=hiD (HF.out 3 _ HA.out (Or.inl rfl))
  clear HM htf
  go_enter Tryz.func45,Tryz.ntmps45
  go_wp2_with fail
  go_at_call 43
  refine HF4.out.mono ?_
  rintro e w ⟨rfl,hf⟩
  have HFL:=hiD hf
  have hc1:=(HB0.out.mods hf.2 hne.out).cell (i:=1) rfl
  have HNB:=hiD (HON.out _ _ w hf.1)
  clear hf
  go_wp2_with fail
  go_at_call 42
  refine HNB.out.mono ?_
  rintro e w2 ⟨rfl,hd⟩
  have hm2:=mods_drewN hd
  have HM2:=hiD hm2
  have hc2:=hm2.cellOf hc1 (fun f=>f)
  clear hd hm2 hc1
  go_wp2
  go_ret
  exact ⟨_,rfl,⟨tt,rfl,hs⟩,(fails_rd HA.out HFL.out).1.quiet HM2.out,(fails_rd HA.out HFL.out).2.trans (HM2.out.mono fun _ _ f=>f.elim)⟩
end Go.Proofs.YtdgedlhefjmcpaaGreatDoor.TreeP.R
namespace Go.Proofs.YtdgedlhefjmcpaaGreatDoor.TreeP.R
open Go.RowKit Go.Proofs.YtdgedlhefjmcpaaGreatDoor.Wo Go.Proofs.YtdgedlhefjmcpaaGreatDoor.TreeP
set_option linter.unusedVariables false
set_option linter.unusedSimpArgs false
theorem mods_b {b:Nat} {W w:World} (h:Mods None W w):Mods (·=b) W w:=h.mono fun _ _ f=>f.elim
theorem bind_of {α β:Type} {b:Nat} {S:Nat→Prop} {W0 W:World} {ts:List Tok} {p:PR α} {k:α→List Tok→PR β} {x:Except (Int×Int) (β×List Tok)} {F:FuncId} {args:Array Value} {Sh:Value→Prop} {V:α→Value→World→Prop} {Q:Ending→World→Prop}
  (hM:Hid (Mods (·=b) W0 W)) (hR:Hid (Rd W b S ts)) (hx:Hid (andThen p k=some x))
  (hc:∀ y,p=some y→Calls Tryz.prog F args W (Got (·=b) W b S Sh V (some y)))
  (herr:∀ n a,x=.error (n,a)→∀ xv w,Sh xv→Hid (Rb w b S n a)→Hid (Mods (·=b) W w)→Hid (Mods (·=b) W0 w)→Q (.returned xv) w)
  (hok:∀ v r,Hid (p=some (.ok (v,r)))→Hid (k v r=some x)→∀ xv w,V v xv w→Hid (Rd w b S r)→Hid (Mods (·=b) W w)→Hid (Mods (·=b) W0 w)→Q (.returned xv) w) :
  Calls Tryz.prog F args W Q:=by
 have hx:=hx.out
 cases hp:p with
 | none=>rw [hp] at hx;cases hx
 | some y =>
  refine (hc y hp).mono ?_
  intro e w h
  rw [hp] at hx
  cases y with
  | error q =>
   obtain ⟨n,a⟩:=q
   obtain ⟨xv,rfl,hs,hb,hm⟩:=h
   exact herr n a (Option.some.inj hx).symm xv w hs (hiD hb) (hiD hm) (hiD (hM.out.trans hm))
  | ok q =>
   obtain ⟨v,r⟩:=q
   obtain ⟨xv,rfl,hv,hpar,hm⟩:=h
   exact hok v r (hiD hp) (hiD hx) xv w hv (hiD (hR.out.next hpar hm)) (hiD hm) (hiD (hM.out.trans hm))
theorem tail_of {β:Type} {b:Nat} {S:Nat→Prop} {W0 W:World} {ts:List Tok} {p:PR β} {x:Except (Int×Int) (β×List Tok)} {F:FuncId} {args:Array Value} {Sh:Value→Prop} {V:β→Value→World→Prop} {Q:Ending→World→Prop}
  (hM:Hid (Mods (·=b) W0 W)) (hR:Hid (Rd W b S ts)) (hx:Hid (p=some x))
  (hc:∀ y,p=some y→Calls Tryz.prog F args W (Got (·=b) W b S Sh V (some y)))
  (herr:∀ n a,x=.error (n,a)→∀ xv w,Sh xv→Hid (Rb w b S n a)→Hid (Mods (·=b) W w)→Hid (Mods (·=b) W0 w)→Q (.returned xv) w)
  (hok:∀ v r,x=.ok (v,r)→∀ xv w,V v xv w→Hid (Rd w b S r)→Hid (Mods (·=b) W w)→Hid (Mods (·=b) W0 w)→Q (.returned xv) w) :
  Calls Tryz.prog F args W Q:=by
 have hx:=hx.out
 refine (hc x hx).mono ?_
 intro e w h
 cases x with
 | error q =>
  obtain ⟨n,a⟩:=q
  obtain ⟨xv,rfl,hs,hb,hm⟩:=h
  exact herr n a rfl xv w hs (hiD hb) (hiD hm) (hiD (hM.out.trans hm))
 | ok q =>
  obtain ⟨v,r⟩:=q
  obtain ⟨xv,rfl,hv,hpar,hm⟩:=h
  exact hok v r rfl xv w hv (hiD (hR.out.next hpar hm)) (hiD hm) (hiD (hM.out.trans hm))
theorem must_any (b:Nat) (S:Nat→Prop) (s:List UInt8) (ts:List Tok) (W:World) (h:Rd W b S ts) :
  Calls Tryz.prog 44 #[.pointer (some ⟨b,0,none⟩),str s] W (Got (·=b) W b S (fun x=>x=.tuple #[]) (fun _ x _=>x=.tuple #[]) (must s ts)):=by
 unfold must
 cases hs:seeB s ts
 ·rw [if_neg (by simp)]
  exact (must_no b S s ts W h hs).mono fun e w ⟨h1,h2,h3⟩=>⟨_,h1,rfl,h2,h3⟩
 ·rw [if_pos rfl]
  exact (must_yes b S s ts W h hs).mono fun e w ⟨h1,h2,h3⟩=>⟨_,h1,rfl,h2,h3⟩
theorem must_of {β:Type} {b:Nat} {S:Nat→Prop} {W0 W:World} {s:List UInt8} {ts:List Tok} {k:Unit→List Tok→PR β} {x:Except (Int×Int) (β×List Tok)} {Q:Ending→World→Prop}
  (hM:Hid (Mods (·=b) W0 W)) (hR:Hid (Rd W b S ts)) (hx:Hid (andThen (must s ts) k=some x))
  (herr:∀ n a,x=.error (n,a)→∀ w,Hid (Rb w b S n a)→Hid (Mods (·=b) W w)→Hid (Mods (·=b) W0 w)→Q (.returned (.tuple #[])) w)
  (hok:∀ r,Hid (seeB s ts=true∧r=ts.tail)→Hid (k () r=some x)→∀ w,Hid (Rd w b S r)→Hid (Mods (·=b) W w)→Hid (Mods (·=b) W0 w)→Q (.returned (.tuple #[])) w) :
  Calls Tryz.prog 44 #[.pointer (some ⟨b,0,none⟩),str s] W Q:=by
 refine bind_of hM hR hx (fun y hy=>hy ▸ must_any b S s ts W hR.out) ?_ ?_
 ·rintro n a he xv w rfl h1 h2 h3
  exact herr n a he w h1 h2 h3
 ·rintro v r hp hk xv w rfl h1 h2 h3
  have:=must_ok hp.out
  exact hok r (hiD ⟨this.2,this.1⟩) hk w h1 h2 h3
theorem name_of {β:Type} {b:Nat} {S:Nat→Prop} {W0 W:World} {ts:List Tok} {k:List UInt8→List Tok→PR β} {x:Except (Int×Int) (β×List Tok)} {Q:Ending→World→Prop}
  (hM:Hid (Mods (·=b) W0 W)) (hR:Hid (Rd W b S ts)) (hx:Hid (andThen (nameP ts) k=some x))
  (herr:∀ n a,x=.error (n,a)→∀ (s:List UInt8) w,Hid (s.length≤10000000)→Hid (Rb w b S n a)→Hid (Mods (·=b) W w)→Hid (Mods (·=b) W0 w)→Q (.returned (.string ⟨s.toArray⟩)) w)
  (hok:∀ s r,Hid (nameP ts=some (.ok (s,r)))→Hid (k s r=some x)→∀ w,Hid (Rd w b S r)→Hid (Mods (·=b) W w)→Hid (Mods (·=b) W0 w)→Q (.returned (.string ⟨s.toArray⟩)) w) :
  Calls Tryz.prog 45 #[.pointer (some ⟨b,0,none⟩)] W Q:=by
 refine bind_of hM hR hx (fun y hy=>hy ▸ name_any b S ts W hR.out) ?_ ?_
 ·rintro n a he xv w ⟨s,rfl,hs⟩ h1 h2 h3
  exact herr n a he s w (hiD hs) h1 h2 h3
 ·rintro v r hp hk xv w rfl h1 h2 h3
  exact hok v r hp hk w h1 h2 h3
theorem take_of {β:Type} {b:Nat} {S:Nat→Prop} {W0 W:World} {s:List UInt8} {ts:List Tok} {A B x:β} {Q:Ending→World→Prop}
  (hM:Hid (Mods (·=b) W0 W)) (hR:Hid (Rd W b S ts)) (hx:Hid ((if seeB s ts then A else B)=x))
  (hyes:Hid (seeB s ts=true)→Hid (A=x)→∀ w,Hid (Rd w b S ts.tail)→Hid (Mods (·=b) W w)→Hid (Mods (·=b) W0 w)→Q (.returned (.bool true)) w)
  (hno:Hid (seeB s ts=false)→Hid (B=x)→∀ w,Hid (Rd w b S ts)→Hid (Mods None W w)→Hid (Mods (·=b) W0 w)→Q (.returned (.bool false)) w) :
  Calls Tryz.prog 46 #[.pointer (some ⟨b,0,none⟩),str s] W Q:=by
 have hx:=hx.out
 cases hs:seeB s ts
 ·rw [hs,if_neg (by simp)] at hx
  refine (take_no b S s ts W hR.out hs).mono ?_
  rintro e w ⟨rfl,hm⟩
  exact hno (hiD hs) (hiD hx) w (hiD (hR.out.quiet hm)) (hiD hm) (hiD (hM.out.trans (mods_b hm)))
 ·rw [hs,if_pos rfl] at hx
  refine (take_yes b S s ts W hR.out hs).mono ?_
  rintro e w ⟨rfl,hp,hm⟩
  exact hyes (hiD hs) (hiD hx) w (hiD (hR.out.next hp hm)) (hiD hm) (hiD (hM.out.trans hm))
theorem see_of {β:Type} {b:Nat} {S:Nat→Prop} {W0 W:World} {s:List UInt8} {ts:List Tok} {A B x:β} {Q:Ending→World→Prop}
  (hM:Hid (Mods (·=b) W0 W)) (hR:Hid (Rd W b S ts)) (hx:Hid ((if seeB s ts then A else B)=x))
  (hyes:Hid (seeB s ts=true)→Hid (A=x)→∀ w,Hid (Rd w b S ts)→Hid (Mods None W w)→Hid (Mods (·=b) W0 w)→Q (.returned (.bool true)) w)
  (hno:Hid (seeB s ts=false)→Hid (B=x)→∀ w,Hid (Rd w b S ts)→Hid (Mods None W w)→Hid (Mods (·=b) W0 w)→Q (.returned (.bool false)) w) :
  Calls Tryz.prog 78 #[.pointer (some ⟨b,0,none⟩),str s] W Q:=by
 have hx:=hx.out
 refine (see_any b S s ts W hR.out).mono ?_
 rintro e w ⟨rfl,hd⟩
 have hm:=mods_drewN hd
 cases hs:seeB s ts
 ·rw [hs,if_neg (by simp)] at hx
  exact hno (hiD hs) (hiD hx) w (hiD (hR.out.quiet hm)) (hiD hm) (hiD (hM.out.trans (mods_b hm)))
 ·rw [hs,if_pos rfl] at hx
  exact hyes (hiD hs) (hiD hx) w (hiD (hR.out.quiet hm)) (hiD hm) (hiD (hM.out.trans (mods_b hm)))
theorem fail_of {b:Nat} {S:Nat→Prop} {W0 W:World} {ts:List Tok} {β:Type} {n:Int} {x:Except (Int×Int) (β×List Tok)} {Q:Ending→World→Prop}
  (hM:Hid (Mods (·=b) W0 W)) (hR:Hid (Rd W b S ts)) (hx:Hid ((failP n ts:PR β)=some x)) (hn:n=3∨n=4)
  (herr:∀ n a,x=.error (n,a)→∀ w,Hid (Rb w b S n a)→Hid (Mods (·=b) W w)→Hid (Mods (·=b) W0 w)→Q (.returned (.tuple #[])) w) :
  Calls Tryz.prog 43 #[.pointer (some ⟨b,0,none⟩),.int .i64 n] W Q:=by
 refine (fails_any b S n ts W hR.out hn).mono ?_
 rintro e w ⟨rfl,hb,hm⟩
 exact herr n (headAt ts) (Option.some.inj hx.out).symm w (hiD hb) (hiD hm) (hiD (hM.out.trans hm))
theorem ok_of {b:Nat} {S:Nat→Prop} {W0 W:World} {ts:List Tok} {Q:Ending→World→Prop} (hM:Hid (Mods (·=b) W0 W)) (hR:Hid (Rd W b S ts))
  (h:∀ w,Hid (Rd w b S ts)→Hid (Mods None W w)→Hid (Mods (·=b) W0 w)→Q (.returned (.bool true)) w) :
  Calls Tryz.prog 42 #[.pointer (some ⟨b,0,none⟩)] W Q:=by
 refine (ok_yes b ts W hR.out.par hR.out.base.fine).mono ?_
 rintro e w ⟨rfl,hd⟩
 have hm:=mods_drewN hd
 exact h w (hiD (hR.out.quiet hm)) (hiD hm) (hiD (hM.out.trans (mods_b hm)))
/-! Something is wrong already. -/
theorem okb_of {b:Nat} {S:Nat→Prop} {W0 W:World} {n a:Int} {Q:Ending→World→Prop} (hM:Hid (Mods (·=b) W0 W)) (hB:Hid (Rb W b S n a))
  (h:∀ w,Hid (Rb w b S n a)→Hid (Mods None W w)→Hid (Mods (·=b) W0 w)→Q (.returned (.bool false)) w) :
  Calls Tryz.prog 42 #[.pointer (some ⟨b,0,none⟩)] W Q:=by
 refine (ok_no b n a W hB.out.bad hB.out.base.fine).mono ?_
 rintro e w ⟨rfl,hd⟩
 have hm:=mods_drewN hd
 exact h w (hiD (hB.out.quiet hm)) (hiD hm) (hiD (hM.out.trans (mods_b hm)))
theorem seeb_of {b:Nat} {S:Nat→Prop} {W0 W:World} {s:List UInt8} {n a:Int} {Q:Ending→World→Prop} (hM:Hid (Mods (·=b) W0 W)) (hB:Hid (Rb W b S n a))
  (h:∀ w,Hid (Rb w b S n a)→Hid (Mods None W w)→Hid (Mods (·=b) W0 w)→Q (.returned (.bool false)) w) :
  Calls Tryz.prog 78 #[.pointer (some ⟨b,0,none⟩),str s] W Q:=by
 refine (see_bad b S s n a W hB.out).mono ?_
 rintro e w ⟨rfl,hd⟩
 have hm:=mods_drewN hd
 exact h w (hiD (hB.out.quiet hm)) (hiD hm) (hiD (hM.out.trans (mods_b hm)))
theorem takeb_of {b:Nat} {S:Nat→Prop} {W0 W:World} {s:List UInt8} {n a:Int} {Q:Ending→World→Prop} (hM:Hid (Mods (·=b) W0 W)) (hB:Hid (Rb W b S n a))
  (h:∀ w,Hid (Rb w b S n a)→Hid (Mods None W w)→Hid (Mods (·=b) W0 w)→Q (.returned (.bool false)) w) :
  Calls Tryz.prog 46 #[.pointer (some ⟨b,0,none⟩),str s] W Q:=by
 refine (take_bad b S s n a W hB.out).mono ?_
 rintro e w ⟨rfl,hm⟩
 exact h w (hiD (hB.out.quiet hm)) (hiD hm) (hiD (hM.out.trans (mods_b hm)))
theorem mustb_of {b:Nat} {S:Nat→Prop} {W0 W:World} {s:List UInt8} {n a:Int} {Q:Ending→World→Prop} (hM:Hid (Mods (·=b) W0 W)) (hB:Hid (Rb W b S n a))
  (h:∀ w,Hid (Rb w b S n a)→Hid (Mods None W w)→Hid (Mods (·=b) W0 w)→Q (.returned (.tuple #[])) w) :
  Calls Tryz.prog 44 #[.pointer (some ⟨b,0,none⟩),str s] W Q:=by
 refine (must_bad b S s n a W hB.out).mono ?_
 rintro e w ⟨rfl,hm⟩
 exact h w (hiD (hB.out.quiet hm)) (hiD hm) (hiD (hM.out.trans (mods_b hm)))
def IsPtr (x:Value):Prop:=∃ p,x=.pointer p
theorem ExAt.by {W W':World} {b:Nat} {S:Nat→Prop} {ts:List Tok} {e:Ex} {v:Value} (h:ExAt W S e v) (hR:Rd W b S ts) (hm:Mods (·=b) W W'):ExAt W' S e v :=
 h.mods (hm.mono fun k _ hk=>by rw [hk];exact hR.base.has)
def ExprC (f:Nat):Prop:=∀ (b:Nat) (S:Nat→Prop) (level deep:Nat) (ts:List Tok) (W:World) (x:Except (Int×Int) (Ex×List Tok)),level≤6→deep≤14→Rd W b S ts→exprF f level deep ts=some x →
 Calls Tryz.prog 111 #[.pointer (some ⟨b,0,none⟩),.int .i64 level,.int .i64 deep] W (Got (·=b) W b S IsPtr (ExIs S) (some x))
def UnaryC (f:Nat):Prop:=∀ (b:Nat) (S:Nat→Prop) (deep:Nat) (ts:List Tok) (W:World) (x:Except (Int×Int) (Ex×List Tok)),deep≤14→Rd W b S ts→unaryF f deep ts=some x →
 Calls Tryz.prog 136 #[.pointer (some ⟨b,0,none⟩),.int .i64 deep] W (Got (·=b) W b S IsPtr (ExIs S) (some x))
def FirstC (f:Nat):Prop:=∀ (b:Nat) (S:Nat→Prop) (deep:Nat) (ts:List Tok) (W:World) (x:Except (Int×Int) (Ex×List Tok)),deep≤13→Rd W b S ts→firstF f deep ts=some x →
 Calls Tryz.prog 156 #[.pointer (some ⟨b,0,none⟩),.int .i64 deep] W (Got (·=b) W b S IsPtr (ExIs S) (some x))
def AloneC (f:Nat):Prop:=∀ (b:Nat) (S:Nat→Prop) (deep:Nat) (ts:List Tok) (W:World) (x:Except (Int×Int) (Ex×List Tok)),deep≤13→Rd W b S ts→aloneF f deep ts=some x →
 Calls Tryz.prog 110 #[.pointer (some ⟨b,0,none⟩),.int .i64 deep] W (Got (·=b) W b S IsPtr (ExIs S) (some x))
def IsSl (x:Value):Prop:=∃ a n c,x=.slice a n c
def ExsIs (S:Nat→Prop) (l:List Ex) (v:Value) (w:World):Prop:=∃ vs,RowAt w S 141 1 v l.length vs∧ExsAt w S l vs
def ArgsC (f:Nat):Prop:=∀ (b:Nat) (S:Nat→Prop) (deep:Nat) (ts:List Tok) (W:World) (x:Except (Int×Int) (List Ex×List Tok)),deep≤13→Rd W b S ts→argsF f deep ts=some x →
 Calls Tryz.prog 137 #[.pointer (some ⟨b,0,none⟩),.int .i64 deep] W (Got (·=b) W b S IsSl (ExsIs S) (some x))
set_option maxRecDepth 100000 in
set_option maxHeartbeats 600000 in
theorem round_of (f:Nat) (ih:ExprC f):AloneC (f+1):=by
 intro b S deep ts W x hd h hx
 simp only [aloneF] at hx
 have HX:=hiD hx
 have HR:=hiD h
 have HM:=hiD (Mods.refl (·=b) W)
 have hds:Hid ((deep:Int)+1=((deep+1:Nat):Int)):=hiD (by omega)
 have hd0:0≤(deep:Int)∧(deep:Int)≤13:=by omega
 have HD:=hiD hd
 clear hx h hd
 go_enter Tryz.func110,Tryz.ntmps110
 go_wp2_with fail
 go_at_call 44
 refine must_of (s:=[40]) HM HR HX ?_ ?_
 ·rintro n a rfl w HB-HM1
  go_wp2_with fail
  go_at_call 42
  refine okb_of HM1 HB ?_
  rintro w2 HB2-HM2
  go_wp2
  go_ret
  exact ⟨_,rfl,⟨_,rfl⟩,HB2.out,HM2.out⟩
 clear HX
 rintro r1-HX w1 HR1-HM1
 go_wp2_with fail
 go_at_call 42
 refine ok_of HM1 HR1 ?_
 rintro w2 HR2-HM2
 go_wp2_with fail
 go_at_call 111
 rw [hds.out]
 refine bind_of HM2 HR2 HX (fun y hy=>ih b S 0 (deep+1) r1 w2 y (by omega) (by have:=HD.out;omega) HR2.out hy) ?_ ?_
 ·rintro n a rfl xv w ⟨p,rfl⟩ HB-HM3
  go_wp2_with fail
  go_at_call 44
  refine mustb_of (s:=[41]) HM3 HB ?_
  rintro w4 HB4-HM4
  go_wp2
  go_ret
  exact ⟨_,rfl,⟨_,rfl⟩,HB4.out,HM4.out⟩
 clear HX
 rintro v r2-HX xv w3 hv HR3-HM3
 obtain ⟨gv,rfl⟩:=ExAt.ptr hv
 have HV:=hiD (show ExAt w3 S v _ from hv)
 clear hv
 go_wp2_with fail
 go_at_call 44
 refine must_of (s:=[41]) HM3 HR3 HX ?_ ?_
 ·rintro n a rfl w HB-HM4
  go_wp2
  go_ret
  exact ⟨_,rfl,⟨_,rfl⟩,HB.out,HM4.out⟩
 clear HX
 rintro r3-HX w4 HR4 hm HM4
 obtain rfl:=(Option.some.inj HX.out).symm
 go_wp2
 go_ret
 exact ⟨_,rfl,ExAt.by HV.out HR3.out hm.out,HR4.out.par,HM4.out⟩
end Go.Proofs.YtdgedlhefjmcpaaGreatDoor.TreeP.R

/- The document's checker as it lies in memory; what a name stands for; what was wrong first; a name that is added. Conditions: that Fine lies. The document's checker: of which type an expression is. Conditions: that Fine lies; that no two functions have one name. The document's checker: a call; any expression. Conditions: that Fine lies; that no two functions have one name. The document's checker: a name is added. Conditions: that Fine lies. -/
import Derived.Test.YtdgedlhefjmcpaaGreatDoorEn09
import Derived.Test.YtdgedlhefjmcpaaGreatDoorEn18
import Derived.Laws.OwnMore
import Derived.Deep.RegionLaw
import Derived.Deep.RegionWith
import Derived.Deep.QuietTactic
import Derived.BigQuiet
import Derived.Deep.DeepCutAuto
import Derived.Deep.CutBlock
import Derived.StillTailTactics
import Derived.Test.YtdgedlhefjmcpaaGreatDoorEn20
import Derived.Test.YtdgedlhefjmcpaaGreatDoorEn10
namespace Go.Proofs.YtdgedlhefjmcpaaGreatDoor.TreeP.R
open Go.RowKit Go.Proofs.YtdgedlhefjmcpaaGreatDoor.Wo Go.Proofs.YtdgedlhefjmcpaaGreatDoor.TreeP
set_option linter.unusedVariables false
set_option linter.unusedSimpArgs false
theorem run_append_src {P:Program} (w:World) (base:Nat) (t ty e:TypeId) (i:TypeInfo) (z:Value) (size bytes:Nat) (ht:P.underlying t=some (.slice e)) (hi:P.info? e=some i) (hz:i.zero=some z)
  (hsize:i.size=size) (hby:i.bytes=bytes) (hzs:z.cells.size=size) (hsz:0<size)
  (v:Value) (n:Nat) (xs:List Value) (hown:w.ownsRow base e size v n xs)
  (oa:Option Addr) (m c:Nat) (news:List Value) (hl:news.length=m*size) (h0:oa=none→m=0∧c=0) (hnews:∀ p j u,oa=some p→news[j]?=some u→w.cell? (p.add j)=some u) (h1:∀ u∈news,u.oneCell'=true)
  (h63:n+m≤maxLen) (hbytes:(n+m)*bytes≤140737488355328) (hbase:base≤w.heap.size) :
  ∃ v' w',(Builtin.append_ #[t,t] ty #[v,.slice oa m c]).run P w=.ok v' w'∧w'.ownsRow base e size v' (n+m) (xs++news)∧w.grownBy w' v.ownBlock∧(v'.ownBlock=v.ownBlock∨v'.ownBlock=some w.heap.size):=by
 cases oa with
 | none =>
  obtain ⟨rfl,rfl⟩:=h0 rfl
  have hn:news=[]:=List.eq_nil_of_length_eq_zero (by simpa using hl)
  subst hn
  exact ⟨v,w,run_append_owned_none (P:=P) (w:=w) base t ty e i size ht hi v n xs hown,by simpa using hown,⟨rfl,rfl,rfl,Nat.le_refl _,fun _ _ _=>rfl⟩,Or.inl rfl⟩
 | some a =>
  obtain ⟨v',w',h2,h3,h4,_,h5⟩:=run_append_own_at (P:=P) w base t ty e i z size bytes ht hi hz hsize hby hzs hsz v n xs hown a m c news hl (fun j u hu=>hnews a j u rfl hu) h1 h63 hbytes hbase
  exact ⟨v',w',h2,h3,h4,h5⟩
theorem step_append_src {P:Program} {ops:Array Oper} {o:Oper} {a:Act} {w:World} {K:Act→World→Prop} {Q:Exit→Act→World→Prop} {E:Prop} (hgd:o.guard=none) (s x:Operand) (t:TypeId)
  (ho:o.op=.call { callee:=.builtin .append,args:=#[s,x],argTypes:=#[t,t] })
  (base:Nat) (e:TypeId) (i:TypeInfo) (z:Value) (size bytes:Nat) (ht:P.underlying t=some (.slice e)) (hi:P.info? e=some i) (hz:i.zero=some z)
  (hsize:i.size=size) (hby:i.bytes=bytes) (hzs:z.cells.size=size) (hsz:0<size)
  (v:Value) (n:Nat) (xs:List Value) (hs:a.eval s=v) (hown:w.ownsRow base e size v n xs)
  (oa:Option Addr) (m c:Nat) (news:List Value) (hx:a.eval x=.slice oa m c) (hl:news.length=m*size) (h0:oa=none→m=0∧c=0) (hnews:∀ p j u,oa=some p→news[j]?=some u→w.cell? (p.add j)=some u) (h1:∀ u∈news,u.oneCell'=true)
  (h63:n+m≤maxLen) (hbytes:(n+m)*bytes≤140737488355328) (hbase:base≤w.heap.size)
  (h:∀ v' w',w'.ownsRow base e size v' (n+m) (xs++news)→w.grownBy w' v.ownBlock→(v'.ownBlock=v.ownBlock∨v'.ownBlock=some w.heap.size)→K (a.put o.dst v') w') :
  if Region.wanted o (yielded ops a.tmps)=true then Oper.wp P o a w K Q else E:=by
 have hw:Region.wanted o (yielded ops a.tmps)=true:=by simp [Region.wanted,hgd]
 rw [if_pos hw]
 obtain ⟨v',w',hr,h2,h3,h4⟩:=run_append_src (P:=P) w base t o.type e i z size bytes ht hi hz hsize hby hzs hsz v n xs hown oa m c news hl h0 hnews h1 h63 hbytes hbase
 unfold Oper.wp execOp
 simp only [ho,resolve,invoke,builtin,Sem.run_bind,Sem.run_pure,Result.andThen_ok,List.map_toArray,List.map_cons,List.map_nil,hs,hx,hr]
 exact h v' w' h2 h3 h4
def badN (n:Int):Prop:=n=1∨n=2∨n=7∨n=9∨n=12
theorem eql_1 (a:Int) (w:World):(Go.binOp .eql 40 (.agg #[.int .i64 1,.int .i64 a]) (.agg #[.int .i64 0,.int .i64 (-1)])).run Tryz.prog w=.ok (.bool false) w:=by kernel_rfl
theorem eql_2 (a:Int) (w:World):(Go.binOp .eql 40 (.agg #[.int .i64 2,.int .i64 a]) (.agg #[.int .i64 0,.int .i64 (-1)])).run Tryz.prog w=.ok (.bool false) w:=by kernel_rfl
theorem eql_7 (a:Int) (w:World):(Go.binOp .eql 40 (.agg #[.int .i64 7,.int .i64 a]) (.agg #[.int .i64 0,.int .i64 (-1)])).run Tryz.prog w=.ok (.bool false) w:=by kernel_rfl
theorem eql_9 (a:Int) (w:World):(Go.binOp .eql 40 (.agg #[.int .i64 9,.int .i64 a]) (.agg #[.int .i64 0,.int .i64 (-1)])).run Tryz.prog w=.ok (.bool false) w:=by kernel_rfl
theorem eql_12 (a:Int) (w:World):(Go.binOp .eql 40 (.agg #[.int .i64 12,.int .i64 a]) (.agg #[.int .i64 0,.int .i64 (-1)])).run Tryz.prog w=.ok (.bool false) w:=by kernel_rfl
theorem neq_1 (a:Int) (w:World):(Go.binOp .neq 40 (.agg #[.int .i64 1,.int .i64 a]) (.agg #[.int .i64 0,.int .i64 (-1)])).run Tryz.prog w=.ok (.bool true) w:=by kernel_rfl
theorem neq_2 (a:Int) (w:World):(Go.binOp .neq 40 (.agg #[.int .i64 2,.int .i64 a]) (.agg #[.int .i64 0,.int .i64 (-1)])).run Tryz.prog w=.ok (.bool true) w:=by kernel_rfl
theorem neq_7 (a:Int) (w:World):(Go.binOp .neq 40 (.agg #[.int .i64 7,.int .i64 a]) (.agg #[.int .i64 0,.int .i64 (-1)])).run Tryz.prog w=.ok (.bool true) w:=by kernel_rfl
theorem neq_9 (a:Int) (w:World):(Go.binOp .neq 40 (.agg #[.int .i64 9,.int .i64 a]) (.agg #[.int .i64 0,.int .i64 (-1)])).run Tryz.prog w=.ok (.bool true) w:=by kernel_rfl
theorem neq_12 (a:Int) (w:World):(Go.binOp .neq 40 (.agg #[.int .i64 12,.int .i64 a]) (.agg #[.int .i64 0,.int .i64 (-1)])).run Tryz.prog w=.ok (.bool true) w:=by kernel_rfl
theorem eql_bad {n:Int} (h:badN n) (a:Int) (w:World):(Go.binOp .eql 40 (.agg #[.int .i64 n,.int .i64 a]) (.agg #[.int .i64 0,.int .i64 (-1)])).run Tryz.prog w=.ok (.bool false) w:=by
 rcases h with rfl|rfl|rfl|rfl|rfl
 ·exact eql_1 a w
 ·exact eql_2 a w
 ·exact eql_7 a w
 ·exact eql_9 a w
 ·exact eql_12 a w
theorem neq_bad {n:Int} (h:badN n) (a:Int) (w:World):(Go.binOp .neq 40 (.agg #[.int .i64 n,.int .i64 a]) (.agg #[.int .i64 0,.int .i64 (-1)])).run Tryz.prog w=.ok (.bool true) w:=by
 rcases h with rfl|rfl|rfl|rfl|rfl
 ·exact neq_1 a w
 ·exact neq_2 a w
 ·exact neq_7 a w
 ·exact neq_9 a w
 ·exact neq_12 a w
structure Ck (W:World) (b:Nat) (L:List Fn) (N:Nm) (m:Nat) (n a:Int):Prop where
 at_:∃ fv nv,Blk W b [fv,nv,.int .i64 m,.int .i64 n,.int .i64 a] 123∧FsAt W (·=b) fv L∧NmAt W (·=b) nv N∧∀ k c,nv=.slice none k c→c=0
 len:N.length≤m
 small:m≤2000000
 fine:FineAt W b
theorem Ck.mods {W W':World} {b:Nat} {L:List Fn} {N:Nm} {m:Nat} {n a:Int} (h:Ck W b L N m n a) (hm:Mods None W W'):Ck W' b L N m n a:=by
 obtain ⟨⟨fv,nv,h1,h2,h3,h4⟩,h5,h6,h7⟩:=h
 exact ⟨⟨fv,nv,h1.mods hm (fun f=>f),h2.mods (hm.mono fun _ _ f=>f.elim) (fun _ _ k=>k),h3.mods (hm.mono fun _ _ f=>f.elim) (fun _ _ k=>k),h4⟩,h5,h6,h7.far hm (fun _ f=>f.elim)⟩
theorem Ck.lt {W:World} {b:Nat} {L:List Fn} {N:Nm} {m:Nat} {n a:Int} (h:Ck W b L N m n a):b<W.heap.size:=by
 obtain ⟨⟨fv,nv,h1,_⟩,_⟩:=h
 exact h1.lt
set_option maxRecDepth 100000 in
theorem cfails_yes (b:Nat) (L:List Fn) (N:Nm) (m:Nat) (n a:Int) (W:World) (h:Ck W b L N m 0 (-1)) :
  Calls Tryz.prog 89 #[.pointer (some ⟨b,0,none⟩),.int .i64 n,.int .i64 a] W fun e w=>e=.returned (.tuple #[])∧Ck w b L N m n a∧Mods (·=b) W w:=by
 have HK:=hiD h
 obtain ⟨⟨fv,nv,hb,-⟩,-,-,-,f1,f2⟩:=h
 have c1:=hb.cell (i:=3) rfl
 have c2:=hb.cell (i:=4) rfl
 have hf1:=hb.free 3
 have hf2:=hb.free 4
 have he:=eql_fine
 clear hb
 go_enter Tryz.func89,Tryz.ntmps89
 go_wp2_with fail
 go_quiet (fail)
 go_wp2
 go_end0
 have hm0:Mods None W (W.drewN nq):=(Mods.refl None W).drewN nq
 have hm2:Mods (·=b) (W.drewN nq) (((W.drewN nq).setCell ⟨b,3,none⟩ (.int .i64 n)).setCell ⟨b,4,none⟩ (.int .i64 a)):=(mods_put _ b 3 _).trans (mods_put _ b 4 _)
 have hm3:Mods (·=b) W (((W.drewN nq).setCell ⟨b,3,none⟩ (.int .i64 n)).setCell ⟨b,4,none⟩ (.int .i64 a)):=(hm0.mono fun _ _ f=>f.elim).trans hm2
 obtain ⟨⟨fv,nv,h1,h2,h3,h4⟩,h5,h6,h7⟩:=HK.out
 refine ⟨rfl,⟨⟨fv,nv,?_,h2.mods hm3 (fun _ _ k=>k),h3.mods hm3 (fun _ _ k=>k),h4⟩,h5,h6,h7.far hm3 (fun k hk=>Nat.le_of_eq hk.symm)⟩,hm3⟩
 exact blk_put (blk_put (h1.mods hm0 (fun f=>f)) 3 (.int .i64 n) rfl) 4 (.int .i64 a) rfl
set_option maxRecDepth 100000 in
theorem cfails_bad (b:Nat) (L:List Fn) (N:Nm) (m:Nat) (k d n a:Int) (W:World) (h:Ck W b L N m n a) (hn:badN n) :
  Calls Tryz.prog 89 #[.pointer (some ⟨b,0,none⟩),.int .i64 k,.int .i64 d] W fun e w=>e=.returned (.tuple #[])∧Mods None W w:=by
 obtain ⟨⟨fv,nv,hb,-⟩,-,-,-,f1,f2⟩:=h
 have c1:=hb.cell (i:=3) rfl
 have c2:=hb.cell (i:=4) rfl
 have he:=eql_bad hn a
 clear hb
 go_enter Tryz.func89,Tryz.ntmps89
 go_wp2_with fail
 go_quiet (fail)
 go_wp2
 go_end0
 exact ⟨rfl,(Mods.refl None W).drewN _⟩
set_option maxRecDepth 100000 in
set_option maxHeartbeats 1000000 in
theorem cfind_any (b:Nat) (L:List Fn) (N:Nm) (m:Nat) (n a:Int) (s:List UInt8) (W:World) (h:Ck W b L N m n a) :
  Calls Tryz.prog 88 #[.pointer (some ⟨b,0,none⟩),str s] W fun e w=>e=.returned (.int .i64 (findN N s))∧Mods None W w:=by
 obtain ⟨⟨fv,nv,hb,hF,⟨na,nn,nc,rfl,hn,hnc,hcm,h0,hcell⟩,-⟩,-,-,-⟩:=h
 have c1:W.cell? ⟨b,1,none⟩=some (.slice na nn nc):=hb.cell rfl
 have HN:=hiD hn
 have HC:=hiD (fun (w:World) (hm:Mods None W w) (i:Nat) (hi:i<nn)=>(by
  have hi2:i<N.length:=by omega
  obtain ⟨g,o,e1,e2,e3,e4⟩:=hcell i N[i] (List.getElem?_eq_getElem hi2)
  exact ⟨N[i],g,o,e1,List.getElem?_eq_getElem hi2,hm.cellOf e3 (fun f=>f),hm.cellOf e4 (fun f=>f)⟩:∃ p g o,na=some ⟨g,o,none⟩∧N[i]?=some p∧w.cell? ⟨g,o+i*2,none⟩=some (str p.1)∧w.cell? ⟨g,o+i*2+1,none⟩=some (.int .i64 p.2)))
 unfold maxLen at hcm
 clear hb hF hn hcell
 unfold str at *
 go_enter Tryz.func88,Tryz.ntmps88
 go_wp2_with fail
 go_loopw [12] (fun iv wr=>∃ i:Nat,i≤nn∧iv=.int .i64 i∧Hid (idxN (N.take i) s=none)∧Hid (Mods None W wr)) (fun iv _=>(nn-intOf iv).toNat)
 case atStart=>exact ⟨0,Nat.zero_le _,rfl,hiD (by simp [idxN]),hiD (Mods.refl _ _)⟩
 case round =>
  obtain ⟨i,hi,rfl,HI,HM⟩:=hrel
  by_cases hlt:i<nn
  ·obtain ⟨p,g,o,rfl,hp,d1,d2⟩:=HC.out wr HM.out i hlt
   have hpi:(i:Int)<(nn:Int):=by omega
   have HT:=hiD (idxN_take HI.out hp)
   have HP:=hiD hp
   clear hp
   rcases hb:(p.1==s) with _|_
   ·have HT2:Hid (idxN (N.take (i+1)) s=none):=hiD (by rw [HT.out];simp only [hb];rfl)
    go_wp2_with fail
    exact ⟨⟨i+1,by omega,by go_num,HT2,hiD (HM.out.alloc _)⟩,by simp [intOf];omega⟩
   ·have HT2:Hid (findN N s=p.2):=hiD (by
     obtain ⟨q,h1,h2⟩:=findN_some (idxN_more (i:=i+1) (by rw [HT.out];simp only [hb];rfl))
     rw [HP.out] at h1
     rw [h2,Option.some.inj h1])
    go_wp2_with fail
    go_ret
    exact ⟨by rw [HT2.out];rfl,HM.out.alloc _⟩
  ·obtain rfl:i=nn:=by omega
   have hpi:¬ (i:Int)<(i:Int):=by omega
   have HT2:Hid (findN N s=0):=hiD (by
    have:=HI.out
    rw [HN.out,List.take_length] at this
    exact findN_none this)
   go_wp2_with fail
   go_ret
   exact ⟨by rw [HT2.out];rfl,HM.out⟩
def Mz {α:Type} (W:World) (b:Nat) (L:List Fn) (N:Nm) (m:Nat):CK α→Prop
 | .ok _=>Ck W b L N m 0 (-1)
 | .error (n,a)=>Ck W b L N m n a∧badN n
theorem Mz.mods {α:Type} {W W':World} {b:Nat} {L:List Fn} {N:Nm} {m:Nat} {z:CK α} (h:Mz W b L N m z) (hm:Mods None W W'):Mz W' b L N m z:=by
 cases z with
 | ok x=>exact Ck.mods h hm
 | error e=>exact ⟨Ck.mods h.1 hm,h.2⟩
theorem Mz.lt {α:Type} {W:World} {b:Nat} {L:List Fn} {N:Nm} {m:Nat} {z:CK α} (h:Mz W b L N m z):b<W.heap.size:=by
 cases z with
 | ok x=>exact Ck.lt h
 | error e=>exact Ck.lt h.1
theorem Mz.ck {α:Type} {W:World} {b:Nat} {L:List Fn} {N:Nm} {m:Nat} {z:CK α} (h:Mz W b L N m z):∃ n a,Ck W b L N m n a:=by
 cases z with
 | ok x=>exact ⟨_,_,h⟩
 | error e=>exact ⟨_,_,h.1⟩
theorem cfails_z {α β:Type} (b:Nat) (L:List Fn) (N:Nm) (m:Nat) (n a:Int) (hn:badN n) (W:World) (z:CK α) (h:Mz W b L N m z) :
  Calls Tryz.prog 89 #[.pointer (some ⟨b,0,none⟩),.int .i64 n,.int .i64 a] W fun e w=>e=.returned (.tuple #[])∧Mz w b L N m (bindK z fun _=>(.error (n,a):CK β))∧Mods (·=b) W w:=by
 cases z with
 | ok x=>exact (cfails_yes b L N m n a W h).mono fun e w ⟨h1,h2,h3⟩=>⟨h1,⟨h2,hn⟩,h3⟩
 | error e =>
  obtain ⟨n',a'⟩:=e
  exact (cfails_bad b L N m n a n' a' W h.1 h.2).mono fun e w ⟨h1,h2⟩=>⟨h1,⟨Ck.mods h.1 h2,h.2⟩,h2.mono fun _ _ f=>f.elim⟩
def KR (W:World) (b:Nat) (L:List Fn) (N:Nm) (m:Nat) (r:CK Int) (e:Ending) (w:World):Prop:=(∃ t,e=.returned (.int .i64 t)∧∀ t',r=.ok t'→t=t')∧Mz w b L N m r∧Mods (·=b) W w
def KxC (L:List Fn) (N:Nm) (e:Ex):Prop:=∀ (b m:Nat) (v:Value) (W:World),Ck W b L N m 0 (-1)→ExAt W (·=b) e v →
 Calls Tryz.prog 90 #[.pointer (some ⟨b,0,none⟩),v] W (KR W b L N m (exprK L N e))
theorem kr_end {W w:World} {b m:Nat} {L:List Fn} {N:Nm} {α:Type} {z:CK α} {t:Int} {r:CK Int} (hz:Mz w b L N m z) (hm:Mods (·=b) W w) (hr:r=bindK z fun _=>.ok t):KR W b L N m r (.returned (.int .i64 t)) w:=by
 subst hr
 refine ⟨⟨t,rfl,fun t' h=>?_⟩,?_,hm⟩
 ·cases z with
  | ok x=>cases h;rfl
  | error e=>cases h
 ·cases z with
  | ok x=>exact hz
  | error e=>exact hz
theorem ck_old {W:World} {b m:Nat} {L:List Fn} {N:Nm} {n a:Int} (h:Ck W b L N m n a):W.cell? ⟨0,0,none⟩=some (.int .i64 0)∧W.cell? ⟨0,1,none⟩=some (.int .i64 (-1))∧W.cell? ⟨b,3,none⟩=some (.int .i64 n)∧W.cell? ⟨b,4,none⟩=some (.int .i64 a):=by
 obtain ⟨⟨fv,nv,hb,-⟩,-,-,-,f1,f2⟩:=h
 exact ⟨f1,f2,hb.cell rfl,hb.cell rfl⟩
set_option maxRecDepth 100000 in
set_option maxHeartbeats 1000000 in
theorem kmust_bad {α:Type} (L:List Fn) (N:Nm) (b m:Nat) (v:Value) (hv:∃ g,v=.pointer (some ⟨g,0,none⟩)) (k n a:Int) (W:World) (h:Ck W b L N m n a) (hn:badN n) :
  Calls Tryz.prog 91 #[.pointer (some ⟨b,0,none⟩),v,.int .i64 k] W fun r w=>r=.returned (.tuple #[])∧Mods None W w:=by
 obtain ⟨g,rfl⟩:=hv
 obtain ⟨f1,f2,c1,c2⟩:=ck_old h
 have he:=eql_bad hn a
 clear h
 go_enter Tryz.func91,Tryz.ntmps91
 go_wp2_with fail
 go_quiet (fail)
 go_wp2
 go_end0
 exact ⟨rfl,(Mods.refl None W).drewN _⟩
set_option maxRecDepth 100000 in
set_option maxHeartbeats 2000000 in
theorem kmust_good {L:List Fn} {N:Nm} {e:Ex} (he:KxC L N e) (b m:Nat) (v:Value) (k:Int) (W:World) (h:Ck W b L N m 0 (-1)) (hv:ExAt W (·=b) e v) :
  Calls Tryz.prog 91 #[.pointer (some ⟨b,0,none⟩),v,.int .i64 k] W fun r w=>r=.returned (.tuple #[])∧Mz w b L N m (wantK L N e k)∧Mods (·=b) W w:=by
 have HC:=hiD (fun (w:World) (hm:Mods None W w)=>he b m v w (h.mods hm) (hv.mods (hm.mono fun _ _ f=>f.elim)))
 obtain ⟨r,hr⟩:∃ r,r=exprK L N e:=⟨_,rfl⟩
 have HW:Hid (wantK L N e k=bindK r (wantT e k)):=hiD (by rw [hr];rfl)
 rw [← hr] at HC
 obtain ⟨g,rfl,hgb,hg⟩:=hv.at_cell
 have HG:=hiD (And.intro hgb hg)
 obtain ⟨f1,f2,c1,c2⟩:=ck_old h
 have hq:=eql_fine
 rw [HW.out]
 clear h hv he hr hgb hg
 go_enter Tryz.func91,Tryz.ntmps91
 go_wp2_with fail
 go_region_with (first|(go_at_call 90;refine (HC.out _ ((Mods.refl None W).drew)).mono ?_;rintro e2 w2 ⟨⟨t,rfl,ht⟩,hz2,hm2⟩))
 all_goals
  have HZ2:=hiD hz2
  have HM2:Hid (Mods (·=b) W w2):=hiD ((((Mods.refl None W).drew).mono fun _ _ f=>f.elim).trans hm2)
  have HT:=hiD ht
  have hg2:w2.cell? ⟨g,1,none⟩=some (.int .i64 (atE e)):=HM2.out.cellOf HG.out.2 HG.out.1
  clear hz2 hm2 ht hq c1 c2 f1 f2 HC
  rcases hb:(t != k) with _|_
  ·go_wp2_with fail
   go_end0
   refine ⟨rfl,?_,HM2.out⟩
   have htk:t=k:=by simpa using hb
   have hz:=HZ2.out
   cases r with
   | error q=>exact hz
   | ok t' =>
    have:=HT.out t' rfl
    simp only [bindK,wantT]
    rw [if_pos (by omega)]
    exact hz
  ·go_wp2_with fail
   go_at_call 89
   refine (cfails_z (β:=Unit) b L N m 1 (atE e) (by unfold badN;omega) w2 r HZ2.out).mono ?_
   rintro e3 w3 ⟨rfl,hz3,hm3⟩
   have HZ3:=hiD hz3
   have HM3:=hiD (HM2.out.trans hm3)
   clear hz3 hm3
   go_wp2_with fail
   go_end0
   refine ⟨rfl,?_,HM3.out⟩
   have htk:t≠k:=by simpa using hb
   have hz:=HZ3.out
   cases r with
   | error q=>exact hz
   | ok t' =>
    have:=HT.out t' rfl
    simp only [bindK,wantT]
    rw [if_neg (by omega)]
    exact hz
theorem kmust_z {α:Type} {L:List Fn} {N:Nm} {e:Ex} (he:KxC L N e) (b m:Nat) (v:Value) (k:Int) (W:World) (z:CK α) (hz:Mz W b L N m z) (hv:ExAt W (·=b) e v) :
  Calls Tryz.prog 91 #[.pointer (some ⟨b,0,none⟩),v,.int .i64 k] W fun r w=>r=.returned (.tuple #[])∧Mz w b L N m (bindK z fun _=>wantK L N e k)∧Mods (·=b) W w:=by
 cases z with
 | ok x=>exact kmust_good he b m v k W hz hv
 | error q =>
  obtain ⟨n,a⟩:=q
  exact (kmust_bad (α:=Unit) L N b m v hv.ptr k n a W hz.1 hz.2).mono fun r w ⟨h1,h2⟩=>⟨h1,⟨Ck.mods hz.1 h2,hz.2⟩,h2.mono fun _ _ f=>f.elim⟩
set_option maxRecDepth 100000 in
theorem kx_num (L:List Fn) (N:Nm) (a n:Int):KxC L N (.num a n):=by
 intro b m v W hC hv
 simp only [ExAt] at hv
 obtain ⟨g,rfl,_,hg⟩:=hv
 have c0:W.cell? ⟨g,0,none⟩=some (.int .i64 1):=hg.cell rfl
 have HC:=hiD hC
 clear hC hg
 go_enter Tryz.func90,Tryz.ntmps90
 go_wp2_with fail
 go_ret
 exact kr_end (z:=(.ok ():CK Unit)) HC.out (Mods.refl _ _) (by simp only [exprK];rfl)
set_option maxRecDepth 100000 in
theorem kx_input (L:List Fn) (N:Nm) (a:Int):KxC L N (.input a):=by
 intro b m v W hC hv
 simp only [ExAt] at hv
 obtain ⟨g,rfl,_,hg⟩:=hv
 have c0:W.cell? ⟨g,0,none⟩=some (.int .i64 9):=hg.cell rfl
 have HC:=hiD hC
 clear hC hg
 go_enter Tryz.func90,Tryz.ntmps90
 go_wp2_with fail
 go_ret
 exact kr_end (z:=(.ok ():CK Unit)) HC.out (Mods.refl _ _) (by simp only [exprK];rfl)
set_option maxRecDepth 100000 in
theorem kx_un {L:List Fn} {N:Nm} (a:Int) (op:List UInt8) {x:Ex} (hx:KxC L N x):KxC L N (.un a op x):=by
 intro b m v W hC hv
 simp only [ExAt] at hv
 obtain ⟨xv,⟨g,rfl,_,hg⟩,hxv⟩:=hv
 have HW:=hiD (kmust_z hx b m xv 1 W (.ok ():CK Unit) hC hxv)
 have c0:W.cell? ⟨g,0,none⟩=some (.int .i64 4):=hg.cell rfl
 have c5:W.cell? ⟨g,5,none⟩=some xv:=hg.cell rfl
 obtain ⟨xg,rfl⟩:=hxv.ptr
 clear hC hg hxv hx
 go_enter Tryz.func90,Tryz.ntmps90
 go_wp2_with fail
 go_at_call 91
 refine HW.out.mono ?_
 rintro e w ⟨rfl,hz,hm⟩
 have HZ:=hiD hz
 have HM:=hiD hm
 clear HW c0 c5 hz hm
 go_wp2_with fail
 go_ret
 exact kr_end HZ.out HM.out (by simp only [exprK,wantK,bindK_assoc];rfl)
set_option maxRecDepth 100000 in
theorem kx_new {L:List Fn} {N:Nm} (a:Int) {x:Ex} (hx:KxC L N x):KxC L N (.new a x):=by
 intro b m v W hC hv
 simp only [ExAt] at hv
 obtain ⟨xv,⟨g,rfl,_,hg⟩,hxv⟩:=hv
 have HW:=hiD (kmust_z hx b m xv 1 W (.ok ():CK Unit) hC hxv)
 have c0:W.cell? ⟨g,0,none⟩=some (.int .i64 6):=hg.cell rfl
 have c5:W.cell? ⟨g,5,none⟩=some xv:=hg.cell rfl
 obtain ⟨xg,rfl⟩:=hxv.ptr
 clear hC hg hxv hx
 go_enter Tryz.func90,Tryz.ntmps90
 go_wp2_with fail
 go_at_call 91
 refine HW.out.mono ?_
 rintro e w ⟨rfl,hz,hm⟩
 have HZ:=hiD hz
 have HM:=hiD hm
 clear HW c0 c5 hz hm
 go_wp2_with fail
 go_ret
 exact kr_end HZ.out HM.out (by simp only [exprK,wantK,bindK_assoc];rfl)
set_option maxRecDepth 100000 in
theorem kx_len {L:List Fn} {N:Nm} (a:Int) {x:Ex} (hx:KxC L N x):KxC L N (.len a x):=by
 intro b m v W hC hv
 simp only [ExAt] at hv
 obtain ⟨xv,⟨g,rfl,_,hg⟩,hxv⟩:=hv
 have HW:=hiD (kmust_z hx b m xv 2 W (.ok ():CK Unit) hC hxv)
 have c0:W.cell? ⟨g,0,none⟩=some (.int .i64 7):=hg.cell rfl
 have c5:W.cell? ⟨g,5,none⟩=some xv:=hg.cell rfl
 obtain ⟨xg,rfl⟩:=hxv.ptr
 clear hC hg hxv hx
 go_enter Tryz.func90,Tryz.ntmps90
 go_wp2_with fail
 go_at_call 91
 refine HW.out.mono ?_
 rintro e w ⟨rfl,hz,hm⟩
 have HZ:=hiD hz
 have HM:=hiD hm
 clear HW c0 c5 hz hm
 go_wp2_with fail
 go_ret
 exact kr_end HZ.out HM.out (by simp only [exprK,wantK,bindK_assoc];rfl)
set_option maxRecDepth 100000 in
theorem kx_bin {L:List Fn} {N:Nm} (a:Int) (op:List UInt8) {x y:Ex} (hx:KxC L N x) (hy:KxC L N y):KxC L N (.bin a op x y):=by
 intro b m v W hC hv
 simp only [ExAt] at hv
 obtain ⟨xv,yv,⟨g,rfl,hgb,hg⟩,hxv,hyv⟩:=hv
 have HW:=hiD (kmust_z hx b m xv 1 W (.ok ():CK Unit) hC hxv)
 have HY:=hiD (fun (w:World) (z:CK Unit) (hz:Mz w b L N m z) (hm:Mods (·=b) W w)=>kmust_z hy b m yv 1 w z hz (ExAt.modsTo hm (fun _ _ k=>k) _ _ hyv))
 have HG:=hiD (And.intro hgb hg)
 have c0:W.cell? ⟨g,0,none⟩=some (.int .i64 3):=hg.cell rfl
 have c5:W.cell? ⟨g,5,none⟩=some xv:=hg.cell rfl
 obtain ⟨xg,rfl⟩:=hxv.ptr
 obtain ⟨yg,rfl⟩:=hyv.ptr
 clear hC hg hxv hx hyv hy hgb
 go_enter Tryz.func90,Tryz.ntmps90
 go_wp2_with fail
 go_at_call 91
 refine HW.out.mono ?_
 rintro e w ⟨rfl,hz,hm⟩
 have HY2:=hiD (HY.out w _ hz hm)
 have HM:=hiD hm
 have c6:w.cell? ⟨g,6,none⟩=some (.pointer (some ⟨yg,0,none⟩)):=hm.cellOf (HG.out.2.cell rfl) HG.out.1
 clear HW HY c0 c5 hz hm HG
 go_wp2_with fail
 go_at_call 91
 refine HY2.out.mono ?_
 rintro e w2 ⟨rfl,hz,hm⟩
 have HZ:=hiD hz
 have HM2:=hiD (HM.out.trans hm)
 clear HY2 c6 hz hm
 go_wp2_with fail
 go_ret
 exact kr_end HZ.out HM2.out (by simp only [exprK,wantK,bindK_assoc];rfl)
set_option maxRecDepth 100000 in
theorem kx_item {L:List Fn} {N:Nm} (a:Int) {x y:Ex} (hx:KxC L N x) (hy:KxC L N y):KxC L N (.item a x y):=by
 intro b m v W hC hv
 simp only [ExAt] at hv
 obtain ⟨xv,yv,⟨g,rfl,hgb,hg⟩,hxv,hyv⟩:=hv
 have HW:=hiD (kmust_z hx b m xv 2 W (.ok ():CK Unit) hC hxv)
 have HY:=hiD (fun (w:World) (z:CK Unit) (hz:Mz w b L N m z) (hm:Mods (·=b) W w)=>kmust_z hy b m yv 1 w z hz (ExAt.modsTo hm (fun _ _ k=>k) _ _ hyv))
 have HG:=hiD (And.intro hgb hg)
 have c0:W.cell? ⟨g,0,none⟩=some (.int .i64 8):=hg.cell rfl
 have c5:W.cell? ⟨g,5,none⟩=some xv:=hg.cell rfl
 obtain ⟨xg,rfl⟩:=hxv.ptr
 obtain ⟨yg,rfl⟩:=hyv.ptr
 clear hC hg hxv hx hyv hy hgb
 go_enter Tryz.func90,Tryz.ntmps90
 go_wp2_with fail
 go_at_call 91
 refine HW.out.mono ?_
 rintro e w ⟨rfl,hz,hm⟩
 have HY2:=hiD (HY.out w _ hz hm)
 have HM:=hiD hm
 have c6:w.cell? ⟨g,6,none⟩=some (.pointer (some ⟨yg,0,none⟩)):=hm.cellOf (HG.out.2.cell rfl) HG.out.1
 clear HW HY c0 c5 hz hm HG
 go_wp2_with fail
 go_at_call 91
 refine HY2.out.mono ?_
 rintro e w2 ⟨rfl,hz,hm⟩
 have HZ:=hiD hz
 have HM2:=hiD (HM.out.trans hm)
 clear HY2 c6 hz hm
 go_wp2_with fail
 go_ret
 exact kr_end HZ.out HM2.out (by simp only [exprK,wantK,bindK_assoc];rfl)
set_option maxRecDepth 100000 in
theorem kx_var (L:List Fn) (N:Nm) (a:Int) (s:List UInt8):KxC L N (.var a s):=by
 intro b m v W hC hv
 simp only [ExAt] at hv
 obtain ⟨g,rfl,hgb,hg⟩:=hv
 have HC:=hiD hC
 have HF:=hiD (cfind_any b L N m 0 (-1) s W hC)
 have c0:W.cell? ⟨g,0,none⟩=some (.int .i64 2):=hg.cell rfl
 have c3:W.cell? ⟨g,3,none⟩=some (.string ⟨s.toArray⟩):=hg.cell rfl
 have HG:=hiD hg
 obtain ⟨q,hq⟩:∃ q,q=findN N s:=⟨_,rfl⟩
 have HQ:=hiD hq
 rw [← hq] at HF
 unfold str at HF
 clear hC hg hgb hq
 go_enter Tryz.func90,Tryz.ntmps90
 go_wp2_with fail
 go_at_call 88
 refine HF.out.mono ?_
 rintro e w ⟨rfl,hm⟩
 have HM:=hiD hm
 have HC2:=hiD (HC.out.mods hm)
 have c1:w.cell? ⟨g,1,none⟩=some (.int .i64 a):=hm.cellOf (HG.out.cell rfl) (fun f=>f)
 clear HF hm c0 c3 HC
 rcases hb:(q==0) with _|_
 ·go_wp2_with fail
  go_ret
  have h0:findN N s≠0:=by have:=HQ.out;simp at hb;omega
  refine kr_end (z:=(.ok ():CK Unit)) HC2.out (HM.out.mono fun _ _ f=>f.elim) ?_
  simp only [exprK]
  rw [if_neg h0,← HQ.out]
  rfl
 ·go_wp2_with fail
  go_at_call 89
  refine (cfails_z (β:=Unit) b L N m 7 a (by unfold badN;omega) w (.ok ():CK Unit) HC2.out).mono ?_
  rintro e3 w3 ⟨rfl,hz3,hm3⟩
  have HZ3:=hiD hz3
  have HM3:Hid (Mods (·=b) W w3):=hiD ((HM.out.mono fun _ _ f=>f.elim).trans hm3)
  clear hz3 hm3
  go_wp2_with fail
  go_ret
  have h0:findN N s=0:=by have:=HQ.out;simp at hb;omega
  refine kr_end HZ3.out HM3.out ?_
  simp only [exprK]
  rw [if_pos h0]
  rfl
theorem idxF_snoc {N:List Fn} {s:List UInt8} {i:Nat} {p:Fn} (hp:N[i]?=some p):idxF (N.take (i+1)) s=(match idxF (N.take i) s with|some j=>some j|none=>if p.name==s then some i else none):=by
 cases h:idxF (N.take i) s with
 | none=>exact idxF_take h hp
 | some j =>
  have e:(N.take (i+1)).take i=N.take i:=by rw [List.take_take];congr 1;omega
  exact idxF_more (N:=N.take (i+1)) (i:=i) (by rw [e];exact h)
theorem idxF_name {N:List Fn} {s:List UInt8} {i:Nat} (h:idxF N s=some i):∃ p,N[i]?=some p∧p.name=s:=by
 induction N generalizing i with
 | nil=>simp [idxF] at h
 | cons a r ih =>
  simp only [idxF] at h
  split at h
  ·rename_i hy
   obtain rfl:=Option.some.inj h
   exact ⟨a,rfl,by simpa using hy⟩
  ·obtain ⟨k,hk,rfl⟩:=Option.map_eq_some_iff.1 h
   obtain ⟨p,h1,h2⟩:=ih hk
   exact ⟨p,by simpa using h1,h2⟩
theorem apart_idx {L:List Fn} (hU:Apart L) {s:List UInt8} {i:Nat} {p:Fn} (hp:L[i]?=some p) (hs:p.name=s):idxF (L.take i) s=none:=by
 cases h:idxF (L.take i) s with
 | none=>rfl
 | some j =>
  exfalso
  obtain ⟨q,h1,h2⟩:=idxF_name h
  have hji:j<i:=by
   have:=(List.getElem?_eq_some_iff.1 h1).1
   rw [List.length_take] at this
   omega
  rw [List.getElem?_take_of_lt hji] at h1
  obtain ⟨hj,rfl⟩:=List.getElem?_eq_some_iff.1 h1
  obtain ⟨hi,rfl⟩:=List.getElem?_eq_some_iff.1 hp
  exact List.pairwise_iff_getElem.1 hU j i hj hi hji (h2.trans hs.symm)
theorem fs_at {w:World} {S:Nat→Prop} {fa:Option Addr} {fn fc:Nat} {L:List Fn} (h:FsAt w S (.slice fa fn fc) L):fn=L.length∧fn≤fc∧fc≤maxLen∧∀ i,i<fn →
  ∃ x g o pa pc qa qn qc,fa=some ⟨g,o,none⟩∧L[i]?=some x∧w.cell? ⟨g,o+i*4,none⟩=some (str x.name)∧w.cell? ⟨g,o+i*4+1,none⟩=some (.int .i64 x.at_)∧w.cell? ⟨g,o+i*4+2,none⟩=some (.slice pa x.params.length pc)∧w.cell? ⟨g,o+i*4+3,none⟩=some (.slice qa qn qc)∧x.params.length≤pc∧pc≤maxLen∧∀ j u,(pcells x.params)[j]?=some u→∃ pg,pa=some ⟨pg,0,none⟩∧w.cell? ⟨pg,j,none⟩=some u:=by
 obtain ⟨fa',fn',fc',e,hfn,hfc,hfm,hf0,hfcell⟩:=h
 obtain ⟨rfl,rfl,rfl⟩:=Value.slice.inj e
 refine ⟨hfn,hfc,hfm,fun i hi=>?_⟩
 have hi2:i<L.length:=by omega
 obtain ⟨g,o,p,q,vq,e1,e2,e3,e4,e5,e6,e7,e8,e9⟩:=hfcell i L[i] (List.getElem?_eq_getElem hi2)
 obtain ⟨pa,pc,rfl,hpc,hpm,hpcell⟩:=ownsRow_slice e7.1
 obtain ⟨qa,qn,qc,rfl⟩:=e8.form
 refine ⟨L[i],g,o,pa,pc,qa,qn,qc,e1,List.getElem?_eq_getElem hi2,e3,e4,e5,e6,hpc,hpm,fun j t h=>?_⟩
 obtain ⟨pg,hpg,ho,d1⟩:=hpcell _ _ h
 exact ⟨pg,hpg,d1⟩
def CallZ (L:List Fn) (N:Nm) (a:Int) (f:List UInt8) (args:List Ex) (z:CK Unit):Prop :=
 (∃ n a',z=.error (n,a')∧callK L N a f args=.error (n,a'))∨(z=.ok ()∧∃ k p,idxF L f=some k∧L[k]?=some p∧args.length=p.params.length∧callK L N a f args=argsK L N args (p.params.map (·.2)))
set_option maxRecDepth 100000 in
set_option maxHeartbeats 8000000 in
theorem kx_call {L:List Fn} {N:Nm} (hU:Apart L) (a:Int) (f:List UInt8) {args:List Ex} (hA:∀ e∈args,KxC L N e):KxC L N (.call a f args):=by
 intro b m v W hC hv
 have HX:Hid (exprK L N (.call a f args)=bindK (callK L N a f args) (fun _=>.ok 1)):=hiD (by
  simp only [exprK]
  unfold callK
  cases fnOf L f with
  | none=>rfl
  | some g =>
   simp only
   split <;> rfl)
 rw [HX.out]
 clear HX
 obtain ⟨r,hr⟩:∃ r,r=callK L N a f args:=⟨_,rfl⟩
 rw [← hr]
 have HR:=hiD hr
 clear hr
 simp only [ExAt] at hv
 obtain ⟨av,vs,⟨g,rfl,hgb,hg⟩,hrow,hex⟩:=hv
 have HC:=hiD hC
 obtain ⟨⟨fv,nv,hb,hF,-⟩,-,-,-⟩:=hC
 have hF0:=hF
 obtain ⟨fa,fn,fc,rfl,-⟩:=hF
 obtain ⟨hfn,hfc,hfm,-⟩:=fs_at hF0
 obtain ⟨aa,ac,rfl,hac,ham,hacell⟩:=ownsRow_slice hrow.1
 -- what is read,in any world in which only the checker has turned
 have HG:=hiD (fun (w:World) (hm:Mods (·=b) W w)=>(⟨hm.cellOf (hg.cell (i:=0) rfl) hgb,hm.cellOf (hg.cell (i:=1) rfl) hgb,hm.cellOf (hg.cell (i:=3) rfl) hgb,hm.cellOf (hg.cell (i:=7) rfl) hgb⟩:w.cell? ⟨g,0,none⟩=some (.int .i64 5)∧w.cell? ⟨g,1,none⟩=some (.int .i64 a)∧w.cell? ⟨g,3,none⟩=some (.string ⟨f.toArray⟩)∧w.cell? ⟨g,7,none⟩=some (.slice aa args.length ac)))
 have HFN:=hiD hfn
 have HL:=hiD (fun (w:World) (hm:Mods None W w)=>(fs_at (hF0.mods (T:=(·=b)) (hm.mono fun _ _ f=>f.elim) (fun _ _ k=>k))).2.2.2)
 have HE:=hiD (fun (w:World) (hm:Mods (·=b) W w) (i:Nat) (hi:i<args.length)=>(by
  obtain ⟨y,hy,hye⟩:=hex.get i args[i] (List.getElem?_eq_getElem hi)
  obtain ⟨eg,rfl⟩:=hye.ptr
  obtain ⟨ag,hag,ho,d3⟩:=hacell _ _ hy
  exact ⟨ag,eg,hag,hm.cellOf d3 (hrow.2 _ ho),fun z k w' hm' hz=>kmust_z (hA _ (List.getElem_mem hi)) b m _ k w' z hz (ExAt.modsTo (hm.trans hm') (fun _ _ k=>k) _ _ hye)⟩ :
  ∃ ag eg,aa=some ⟨ag,0,none⟩∧w.cell? ⟨ag,i,none⟩=some (.pointer (some ⟨eg,0,none⟩))∧∀ (z:CK Unit) (k:Int) (w':World),Mods (·=b) w w'→Mz w' b L N m z→Calls Tryz.prog 91 #[.pointer (some ⟨b,0,none⟩),.pointer (some ⟨eg,0,none⟩),.int .i64 k] w' fun r w2=>r=.returned (.tuple #[])∧Mz w2 b L N m (bindK z fun _=>wantK L N args[i] k)∧Mods (·=b) w' w2))
 obtain ⟨an,han⟩:∃ n,n=args.length:=⟨_,rfl⟩
 have HAN:=hiD han
 rw [← han] at HG hac
 have hbl:=hb.lt
 have hgl:=hg.lt
 have cb0:W.cell? ⟨b,0,none⟩=some (.slice fa fn fc):=hb.cell rfl
 obtain ⟨cg0,-,-,-⟩:=HG.out W (Mods.refl _ _)
 have HB:=hiD hb
 have HCB:=hiD (fun (w:World) (h:∃ n a,Ck w b L N m n a∧Mods (·=b) W w)=>h)
 have HU:=hiD hU
 unfold maxLen at hfm ham
 clear hg hb hF0 hrow hex hacell hA hfn han hU
 go_enter Tryz.func90,Tryz.ntmps90
 go_wp2_with fail
 go_loopw [6,90] (fun kv iv wr=>∃ i:Nat,i≤fn∧iv=.int .i64 i∧kv=.int .i64 (optI (idxF (L.take i) f))∧Hid (Mods None W wr)) (fun _ iv _=>(fn-intOf iv).toNat)
 case atStart=>exact ⟨0,Nat.zero_le _,rfl,by simp [idxF,optI],hiD (Mods.refl _ _)⟩
 case round =>
  clear cb0 cg0
  obtain ⟨i,hi,rfl,rfl,HM⟩:=hrel
  by_cases hlt:i<fn
  ·obtain ⟨x,gg,o,pa,pc,qa,qn,qc,rfl,hx,c1,c2,c3,c4,-⟩:=HL.out wr HM.out i hlt
   obtain ⟨-,-,cg3,-⟩:=HG.out wr (HM.out.mono fun _ _ f=>f.elim)
   have hpi:(i:Int)<(fn:Int):=by omega
   have HS:=hiD (idxF_snoc (s:=f) hx)
   have HAP:=hiD (fun hs=>apart_idx (s:=f) HU.out hx hs)
   have hgl2:=World.block_lt_of_cell? wr _ cg3
   have hgn:g≠wr.heap.size:=by simp only at hgl2;omega
   obtain ⟨pn,hpn⟩:∃ n,n=x.params.length:=⟨_,rfl⟩
   rw [← hpn] at c3
   obtain ⟨kq,hkq⟩:∃ kq,kq=optI (idxF (L.take i) f):=⟨_,rfl⟩
   have HKQ:=hiD hkq
   rw [← hkq]
   clear hx hpn hkq
   unfold str at c1
   rcases hb:(x.name==f) with _|_
   ·have hnk:Hid (Value.int .i64 kq=.int .i64 (optI (idxF (L.take (i+1)) f))):=hiD (by
     rw [HS.out,HKQ.out]
     cases idxF (L.take i) f <;> simp [hb])
    clear HS HAP
    go_wp2_with fail
    go_quiet (fail)
    go_wp2_with fail
    exact ⟨⟨i+1,by omega,by go_num,hnk.out,hiD ((HM.out.alloc _).drewN _)⟩,by simp [intOf];omega⟩
   ·have hnk:Hid (Value.int .i64 (i:Int)=.int .i64 (optI (idxF (L.take (i+1)) f))):=hiD (by
     rw [HS.out,HAP.out (by simpa using hb)]
     simp [hb,optI])
    clear HS HAP
    go_wp2_with fail
    go_quiet (fail)
    go_wp2_with fail
    exact ⟨⟨i+1,by omega,by go_num,hnk.out,hiD ((HM.out.alloc _).drewN _)⟩,by simp [intOf];omega⟩
  ·obtain rfl:fn=i:=by omega
   have hpi:¬ (fn:Int)<(fn:Int):=by omega
   have HT:Hid (idxF (L.take fn) f=idxF L f):=hiD (by rw [HFN.out,List.take_length])
   rw [HT.out]
   clear HT
   go_upto_if 105 with (fail)
   go_cut [6] (fun kv w=>kv=.int .i64 (optI (idxF L f))∧∃ z,Hid (CallZ L N a f args z)∧Hid (Mz w b L N m z)∧Hid (Mods (·=b) W w))
   case first =>
    have HMB:Hid (Mods (·=b) W wr):=hiD (HM.out.mono fun _ _ f=>f.elim)
    have HC2:=hiD (HC.out.mods HM.out)
    obtain ⟨-,cg1,-,cg7⟩:=HG.out wr HMB.out
    have cb0:wr.cell? ⟨b,0,none⟩=some (.slice fa fn fc):=HM.out.cellOf (HB.out.cell rfl) (fun f=>f)
    cases hx:idxF L f with
    | none =>
     have HK:Hid (callK L N a f args=.error (7,a)):=hiD (by unfold callK;rw [fnOf_none hx])
     have HXE:=hiD hx
     simp only [optI]
     go_wp2_with fail
     go_at_call 89
     refine (cfails_z (β:=Unit) b L N m 7 a (by unfold badN;omega) _ (.ok ():CK Unit) HC2.out).mono ?_
     rintro e w3 ⟨rfl,hz3,hm3⟩
     have HZ3:=hiD hz3
     have HM3:=hiD (HMB.out.trans hm3)
     clear hz3 hm3 cg1 cg7 cb0
     go_wp2_with fail
     go_meet
     case rel=>exact ⟨by rw [HXE.out];rfl,.error (7,a),hiD (Or.inl ⟨7,a,rfl,HK.out⟩),HZ3,HM3⟩
    | some k =>
     obtain ⟨p,hp,hfo⟩:=fnOf_some hx
     have hkl:k<L.length:=(List.getElem?_eq_some_iff.1 hp).1
     have hkf:k<fn:=by have:=HFN.out;omega
     obtain ⟨x,gg,o,pa,pc,qa,qn,qc,rfl,hx2,-,-,c3,-,hpc,hpm,-⟩:=HL.out wr HM.out k hkf
     obtain rfl:x=p:=by rw [hp] at hx2;exact (Option.some.inj hx2).symm
     have hki:(k:Int)<(fn:Int):=by omega
     have hk0:¬ (k:Int)<0:=by omega
     have hk1:(0:Int)≤(k:Int):=by omega
     have HK:Hid (callK L N a f args=if args.length=x.params.length then argsK L N args (x.params.map (·.2)) else .error (2,a)):=hiD (by unfold callK;rw [hfo])
     have HXP:=hiD (And.intro hx hp)
     obtain ⟨pn,hpn⟩:∃ n,n=x.params.length:=⟨_,rfl⟩
     have HPN:=hiD hpn
     rw [← hpn] at c3 hpc
     unfold maxLen at hpm
     simp only [optI]
     clear hx hp hfo hx2 hkl hpn
     by_cases hn:an=pn
     ·subst hn
      go_wp2_with fail
      go_quiet (fail)
      go_wp2_with fail
      go_meet
      case rel=>exact ⟨by rw [HXP.out.1];rfl,.ok (),hiD (Or.inr ⟨rfl,k,x,HXP.out.1,HXP.out.2,by rw [← HAN.out,← HPN.out],by rw [HK.out,if_pos (by rw [← HAN.out,← HPN.out])]⟩),hiD (Ck.mods HC2.out ((Mods.refl _ _).drewN _)),hiD (HMB.out.drewN _)⟩
     ·have hne:((pn:Int) != (an:Int))=true:=by simp;omega
      have HNE:=hiD hn
      clear hn
      go_wp2_with fail
      go_quiet (fail)
      go_wp2_with fail
      go_at_call 89
      refine (cfails_z (β:=Unit) b L N m 2 a (by unfold badN;omega) _ (.ok ():CK Unit) (Ck.mods HC2.out ((Mods.refl _ _).drewN _))).mono ?_
      rintro e w3 ⟨rfl,hz3,hm3⟩
      have HZ3:=hiD hz3
      have HM3:=hiD ((HMB.out.drewN _).trans hm3)
      clear hz3 hm3 cg1 cg7 cb0 c3
      go_wp2_with fail
      go_meet
      case rel=>exact ⟨by rw [HXP.out.1];rfl,.error (2,a),hiD (Or.inl ⟨2,a,rfl,by rw [HK.out,if_neg (by rw [← HAN.out,← HPN.out];exact HNE.out)]⟩),HZ3,HM3⟩
   case rest =>
   obtain ⟨rfl,z,HZC,HZ,HMB⟩:=hcut
   rcases HZC.out with ⟨n',a',rfl,hcall⟩|⟨rfl,k,p,hx,hp,hlen,hcall⟩
   ·have HCALL:=hiD hcall
    have HBN:=hiD HZ.out
    obtain ⟨f1,f2,c1,c2⟩:=ck_old HZ.out.1
    have heq:=eql_bad HZ.out.2 a'
    obtain ⟨-,-,-,cg7⟩:=HG.out wc HMB.out
    clear hcall HL HE HZC
    go_wp2_with fail
    go_loopw [9] (fun iv w=>iv=.int .i64 0∧Hid (wc=w)) (fun _ _=>0)
    case atStart=>exact ⟨rfl,hiD rfl⟩
    case round =>
     obtain ⟨rfl,hw⟩:=hrel
     obtain rfl:=hw.out
     clear hw
     by_cases h0:an=0
     ·have h0d:decide ((0:Int)<(an:Int))=false:=by simp;omega
      have h0n:decide (0<an)=false:=by simp;omega
      clear h0
      go_wp2_with fail
      go_quiet (fail)
      go_wp2_with fail
      go_ret
      exact kr_end (z:=r) (by rw [HR.out,HCALL.out];exact ⟨Ck.mods HBN.out.1 ((Mods.refl _ _).drewN _),HBN.out.2⟩) (HMB.out.drewN _) rfl
     ·have h0i:(0:Int)<(an:Int):=by omega
      have h0n:decide (0<an)=true:=by simp;omega
      go_wp2_with fail
      go_quiet (fail)
      go_wp2_with fail
      go_ret
      exact kr_end (z:=r) (by rw [HR.out,HCALL.out];exact ⟨Ck.mods HBN.out.1 ((Mods.refl _ _).drewN _),HBN.out.2⟩) (HMB.out.drewN _) rfl
   ·rw [← HR.out] at hcall
    obtain ⟨ks,hks⟩:∃ ks,ks=p.params.map (·.2):=⟨_,rfl⟩
    rw [← hks] at hcall
    have hkl:k<fn:=by have:=(List.getElem?_eq_some_iff.1 hp).1;have:=HFN.out;omega
    have HX:Hid (bindK (.ok ():CK Unit) (fun _=>argsK L N (args.drop 0) (ks.drop 0))=r):=hiD (by rw [hcall];rfl)
    have HKL:=hiD hkl
    have HPL:Hid (an=p.params.length):=hiD (by rw [HAN.out,hlen])
    have HP:=hiD hp
    have HXI:=hiD hx
    have HSTEP:=hiD (fun (i:Nat) (hi:i<an)=>(by
     have hi1:i<args.length:=by have:=HAN.out;omega
     have hi2:i<p.params.length:=by have:=HPL.out;omega
     have e2:p.params[i]?=some p.params[i]:=List.getElem?_eq_getElem hi2
     obtain ⟨q1,q2⟩:=ncells_at p.params i p.params[i] e2
     refine ⟨hi1,p.params[i].2,q2,?_⟩
     rw [hks,List.drop_eq_getElem_cons hi1,List.drop_eq_getElem_cons (show i<(p.params.map (·.2)).length by simpa using hi2)]
     simp only [argsK,wantK,bindK_assoc,List.getElem_map] :
     ∃ (hi1:i<args.length) (ty:Int),(pcells p.params)[i*2+1]?=some (.int .i64 ty)∧argsK L N (args.drop i) (ks.drop i)=bindK (wantK L N args[i] ty) (fun _=>argsK L N (args.drop (i+1)) (ks.drop (i+1)))))
    have HEND:Hid (argsK L N (args.drop an) (ks.drop an)=.ok ()):=hiD (by
     rw [List.drop_eq_nil_of_le (by have:=HAN.out;omega)]
     simp only [argsK])
    rw [HXI.out]
    simp only [optI]
    clear hks hcall hlen hp hx hkl HZC HR
    go_wp2_with fail
    go_loopw [9] (fun iv w=>∃ (i:Nat) (z:CK Unit),i≤an∧iv=.int .i64 i∧Hid (Mz w b L N m z)∧Hid (bindK z (fun _=>argsK L N (args.drop i) (ks.drop i))=r)∧Hid (Mods (·=b) W w)) (fun iv _=>(an-intOf iv).toNat)
    case atStart=>exact ⟨0,.ok (),Nat.zero_le _,rfl,HZ,HX,HMB⟩
    case round =>
     clear HZ HX HMB
     obtain ⟨i,z,hi,rfl,HZ,HX,HMB⟩:=hrel
     obtain ⟨-,-,-,cg7⟩:=HG.out wr HMB.out
     cases z with
     | error q =>
      obtain ⟨n',a'⟩:=q
      obtain rfl:r=.error (n',a'):=HX.out.symm
      have HBN:=hiD HZ.out
      obtain ⟨f1,f2,c1,c2⟩:=ck_old HZ.out.1
      have heq:=eql_bad HZ.out.2 a'
      clear HL HE HSTEP HX
      rcases hlt:(decide (i<an)) with _|_
      ·go_wp2_with fail
       go_quiet (fail)
       go_wp2_with fail
       go_ret
       exact kr_end (z:=(.error (n',a'):CK Unit)) ⟨Ck.mods HBN.out.1 ((Mods.refl _ _).drewN _),HBN.out.2⟩ (HMB.out.drewN _) rfl
      ·go_wp2_with fail
       go_quiet (fail)
       go_wp2_with fail
       go_ret
       exact kr_end (z:=(.error (n',a'):CK Unit)) ⟨Ck.mods HBN.out.1 ((Mods.refl _ _).drewN _),HBN.out.2⟩ (HMB.out.drewN _) rfl
     | ok u =>
      obtain ⟨f1,f2,c1,c2⟩:=ck_old HZ.out
      have heq:=eql_fine
      by_cases hlt:i<an
      ·have hltd:decide (i<an)=true:=by simpa using hlt
       obtain ⟨hi1,ty,hty,hstep⟩:=HSTEP.out i hlt
       have HX2:Hid (bindK (wantK L N args[i] ty) (fun _=>argsK L N (args.drop (i+1)) (ks.drop (i+1)))=r):=hiD (by rw [← hstep];exact HX.out)
       have HTY:=hiD hty
       clear hstep hty HX
       go_wp2_with fail
       go_quiet (fail)
       go_wp2_with fail
       have HMD:Hid (Mods None wr (wr.drewN nq)):=hiD ((Mods.refl _ _).drewN _)
       obtain ⟨w1,hw1⟩:∃ w1,w1=wr.drewN nq:=⟨_,rfl⟩
       have HMB1:Hid (Mods (·=b) W w1):=hiD (by rw [hw1];exact HMB.out.drewN _)
       have HZ1:Hid (Mz w1 b L N m (.ok u)):=hiD (by rw [hw1];exact HZ.out.mods HMD.out)
       rw [← hw1]
       clear hw1 HZ HMB HMD f1 f2 c1 c2 heq cg7
       obtain ⟨-,-,-,cg7⟩:=HG.out w1 HMB1.out
       obtain ⟨⟨fv2,nv2,hb2,hF2,-⟩,-⟩:=HZ1.out
       have hF20:=hF2
       obtain ⟨fa2,fn2,fc2,rfl,-⟩:=hF2
       obtain ⟨hfn2,hfc2,hfm2,hall2⟩:=fs_at hF20
       have hk2:k<fn2:=by have:=HKL.out;have:=HFN.out;omega
       obtain ⟨x,gg,o,pa,pc,qa,qn,qc,rfl,hx2,-,-,c3,-,hpc,hpm,hpt⟩:=hall2 k hk2
       obtain rfl:x=p:=by rw [HP.out] at hx2;exact (Option.some.inj hx2).symm
       obtain ⟨pg,rfl,cty⟩:=hpt _ _ HTY.out
       obtain ⟨ag,eg,rfl,cae,hcall⟩:=HE.out w1 HMB1.out i hi1
       have HCALL:=hiD hcall
       have cb0:w1.cell? ⟨b,0,none⟩=some (.slice (some ⟨gg,o,none⟩) fn2 fc2):=hb2.cell rfl
       have hlti:(i:Int)<(an:Int):=by omega
       have hki:(k:Int)<(fn2:Int):=by omega
       obtain ⟨pn,hpn⟩:∃ n,n=x.params.length:=⟨_,rfl⟩
       rw [← hpn] at c3 hpc
       have hk1:(0:Int)≤(k:Int):=by omega
       have hi0:(0:Int)≤(i:Int):=by omega
       have hpni:(i:Int)<(pn:Int):=by have:=HPL.out;omega
       unfold maxLen at hpm hfm2
       clear hcall hx2 hpt hpn hF20 hall2 hb2 hfn2
       go_still_tail 20,(by kernel_rfl)
       change wpList _ _ _ _ _ w1.drew
       obtain ⟨w4,hw4⟩:∃ w4,w4=w1.drew:=⟨_,rfl⟩
       have HM4:Hid (Mods None w1 w4):=hiD (by rw [hw4];exact (Mods.refl _ _).drew)
       rw [← hw4]
       have HZ4:=hiD (HZ1.out.mods HM4.out)
       have HCL:=hiD (HCALL.out _ ty w4 (HM4.out.mono fun _ _ f=>f.elim) HZ4.out)
       clear hw4 cb0 cg7 cty cae c3 HCALL
       go_wp2_with fail
       go_at_call 91
       refine HCL.out.mono ?_
       rintro e w5 ⟨rfl,hz5,hm5⟩
       have HZ5:Hid (Mz w5 b L N m (wantK L N args[i] ty)):=hiD hz5
       have HM5:Hid (Mods (·=b) W w5):=hiD (HMB1.out.trans ((HM4.out.mono fun _ _ f=>f.elim).trans hm5))
       clear hz5 hm5 HCL
       go_wp2_with fail
       exact ⟨⟨i+1,_,by omega,by go_num,HZ5,HX2,HM5⟩,by simp [intOf];omega⟩
      ·have hltd:decide (i<an)=false:=by simpa using hlt
       obtain rfl:an=i:=by omega
       obtain rfl:r=.ok ():=by rw [← HX.out];exact HEND.out
       clear HL HE HSTEP HX
       go_wp2_with fail
       go_quiet (fail)
       go_wp2_with fail
       go_ret
       exact kr_end (z:=(.ok ():CK Unit)) (Ck.mods HZ.out ((Mods.refl _ _).drewN _)) (HMB.out.drewN _) rfl
mutual
theorem kx_all {L:List Fn} (hU:Apart L) (N:Nm):(e:Ex)→KxC L N e
 | .num a n=>kx_num L N a n
 | .var a s=>kx_var L N a s
 | .bin a op l r=>kx_bin a op (kx_all hU N l) (kx_all hU N r)
 | .un a op x=>kx_un a op (kx_all hU N x)
 | .call a f args=>kx_call hU a f (kxs_all hU N args)
 | .new a x=>kx_new a (kx_all hU N x)
 | .len a x=>kx_len a (kx_all hU N x)
 | .item a x i=>kx_item a (kx_all hU N x) (kx_all hU N i)
 | .input a=>kx_input L N a
theorem kxs_all {L:List Fn} (hU:Apart L) (N:Nm):(l:List Ex)→∀ e∈l,KxC L N e
 | []=>fun e h=>nomatch h
 | a::r=>fun e h=>(List.mem_cons.1 h).elim (fun h1=>h1 ▸ kx_all hU N a) (kxs_all hU N r e)
end
theorem bindK_assoc2 {α β γ:Type} (x:CK α) (f:α→CK β) (g:β→CK γ):bindK (bindK x f) g=bindK x (fun a=>bindK (f a) g):=by cases x <;> rfl
theorem bindK_unit (z:CK Unit):bindK z (fun _=>.ok ())=z:=by cases z <;> rfl
def addU (N:Nm) (m:Nat) (s:List UInt8) (a:Int):CK Unit:=if findN N s≠0 then .error (9,a) else if 12≤m then .error (12,a) else .ok ()
theorem addN_U {N:Nm} {m:Nat} {s:List UInt8} {k a:Int} (hm:m≤12):addN N m (s,k) a=bindK (addU N m s a) fun _=>.ok (N++[(s,k)],m+1):=by
 unfold addN addU
 simp only
 by_cases h:findN N s≠0
 ·rw [if_pos h,if_pos h];rfl
 ·rw [if_neg h,if_neg h]
  by_cases h12:m=12
  ·rw [if_pos h12,if_pos (by omega)];rfl
  ·rw [if_neg h12,if_neg (by omega)];rfl
theorem Mz.put {α:Type} {W:World} {b:Nat} {L:List Fn} {N:Nm} {m:Nat} {z:CK α} (h:Mz W b L N m z):∃ n a,Ck W b L N m n a∧∀ w N' m',Ck w b L N' m' n a→Mz w b L N' m' z:=by
 cases z with
 | ok x=>exact ⟨_,_,h,fun _ _ _ k=>k⟩
 | error e=>exact ⟨_,_,h.1,fun _ _ _ k=>⟨k,h.2⟩⟩
theorem pcells_one:(N:Nm)→∀ u∈pcells N,u.oneCell'=true
 | [],u,h=>by cases h
 | (n,t)::r,u,h=>by
  simp only [pcells,List.mem_cons] at h
  rcases h with rfl|rfl|h
  ·rfl
  ·rfl
  ·exact pcells_one r u h
theorem empty_own {W:World} {B g:Nat} (h:Blk W g [] 85) (hB:B≤g):W.ownsRow B 85 2 (.slice (some ⟨g,0,none⟩) 0 0) 0 [] :=
 ⟨rfl,Or.inr ⟨g,0,#[],rfl,hB,h,Nat.le_refl _,by decide,rfl,rfl⟩⟩
theorem grown_mods {W5 w w':World} {v:Value} {B:Nat} (hm:Mods None W5 w) (hg:w.grownBy w' v.ownBlock) (hv:∀ k,v.ownBlock=some k→W5.heap.size≤k):Mods None W5 w' :=
 hm.trans' (Mods.of_grownBy hg (S:=fun k=>v.ownBlock=some k) (fun k hk _=>hk)) (fun k hk hw=>by have:=hv k hk;omega)
theorem new_two (W:World) (o:Obj):Blk ((W.alloc o).alloc (.cells #[] 85)) (W.heap.size+1) [] 85:=by
 have:=Blk.new (W.alloc o) #[] 85
 rwa [show (W.alloc o).heap.size=W.heap.size+1 by simp] at this
theorem new_two2 (W:World) (o:Obj) (cs:Array Value) (e:TypeId):Blk ((W.alloc o).alloc (.cells cs e)) (W.heap.size+1) cs.toList e:=by
 have:=Blk.new (W.alloc o) cs e
 rwa [show (W.alloc o).heap.size=W.heap.size+1 by simp] at this
theorem far_blk {w w':World} {v:Value} {g:Nat} {cs:List Value} {t:TypeId} (h:Blk w g cs t) (hg:w.grownBy w' v.ownBlock) (hn:¬ v.ownBlock=some g):Blk w' g cs t :=
 h.mods (Mods.of_grownBy hg (S:=fun k=>v.ownBlock=some k) (fun k hk _=>hk)) hn
theorem own_zero {w:World} {B:Nat} {e:TypeId} {size n:Nat} {v:Value} {xs:List Value} (h:w.ownsRow B e size v (0+n) ([]++xs)):w.ownsRow B e size v n xs:=by simpa using h
theorem blk_two {w:World} {g:Nat} {z0 z1:Value} {e:TypeId} (h:Blk w g [z0,z1] e):∀ j u,[z0,z1][j]?=some u→w.cell? ((⟨g,0,none⟩:Addr).add j)=some u:=by
 intro j u hj
 have h:=h.cell hj
 cases j with
 | zero=>exact h
 | succ j=>simpa [Addr.add] using h
theorem param_box (W:World) (s:List UInt8) (k:Int):Blk (W.alloc (.cells #[.string ⟨s.toArray⟩,.int .i64 k] 85)) W.heap.size [.string ⟨s.toArray⟩,.int .i64 k] 85:=Blk.new W _ _
set_option maxRecDepth 100000 in
set_option maxHeartbeats 4000000 in
theorem radd_any (b:Nat) (L:List Fn) (N:Nm) (m:Nat) (s:List UInt8) (k a:Int) (W:World) (z:CK Unit) (h:Mz W b L N m z) (hm:m+1≤2000000) (hp:0≤findN N s) :
  Calls Tryz.prog 57 #[.pointer (some ⟨b,0,none⟩),.agg #[str s,.int .i64 k],.int .i64 a] W fun e w=>e=.returned (.tuple #[])∧Mz w b L (N++[(s,k)]) (m+1) (bindK z fun _=>addU N m s a)∧Mods (·=b) W w:=by
 have hbl:=h.lt
 have hbne:b≠W.heap.size:=by omega
 obtain ⟨W1,hW1⟩:∃ W1,W1=W.alloc (.cells #[.string ⟨s.toArray⟩,.int .i64 k] 85):=⟨_,rfl⟩
 have HM1:Hid (Mods None W W1):=hiD (by rw [hW1];exact (Mods.refl _ _).alloc _)
 have HB1:Hid (Blk W1 W.heap.size [.string ⟨s.toArray⟩,.int .i64 k] 85):=hiD (by rw [hW1];exact param_box W s k)
 have HZ1:=hiD (h.mods HM1.out)
 obtain ⟨n0,a0,hck⟩:=HZ1.out.ck
 have HF:=hiD (cfind_any b L N m n0 a0 s W1 hck)
 obtain ⟨q,hq⟩:∃ q,q=findN N s:=⟨_,rfl⟩
 have HQ:=hiD hq
 rw [← hq] at HF hp
 have HMM:=hiD hm
 unfold str at HF ⊢
 clear hck hq h hm
 go_enter Tryz.func57,Tryz.ntmps57
 go_wp2_with fail
 rw [← hW1]
 clear hW1
 have c0:W1.cell? ⟨W.heap.size,0,none⟩=some (.string ⟨s.toArray⟩):=HB1.out.cell rfl
 go_wp2_with fail
 go_at_call 88
 refine HF.out.mono ?_
 rintro e w2 ⟨rfl,hm2⟩
 have HM2:=hiD (HM1.out.trans hm2)
 have HB2:=hiD (HB1.out.mods hm2 (fun f=>f))
 have HZ2:=hiD (HZ1.out.mods hm2)
 clear hm2 c0 HF HZ1 HB1 HM1
 go_upto_if 10 with (fail)
 go_cut [] (fun w=>Hid (Mz w b L N m (bindK z fun _=>if findN N s≠0 then (.error (9,a):CK Unit) else .ok ()))∧Hid (Blk w W.heap.size [.string ⟨s.toArray⟩,.int .i64 k] 85)∧Hid (Mods (·=b) W w))
 case first =>
  by_cases h0:0<q
  ·go_wp2_with fail
   go_at_call 89
   refine (cfails_z (β:=Unit) b L N m 9 a (by unfold badN;omega) w2 z HZ2.out).mono ?_
   rintro e w3 ⟨rfl,hz3,hm3⟩
   have hne:findN N s≠0:=by have:=HQ.out;omega
   have HZ3:Hid (Mz w3 b L N m (bindK z fun _=>if findN N s≠0 then (.error (9,a):CK Unit) else .ok ())):=hiD (by rw [if_pos hne];exact hz3)
   have HB3:=hiD (HB2.out.mods hm3 (by omega))
   have HM3:Hid (Mods (·=b) W w3):=hiD ((HM2.out.mono fun _ _ f=>f.elim).trans hm3)
   clear hz3 hm3 hne
   go_wp2_with fail
   go_meet
   case rel=>exact ⟨HZ3,HB3,HM3⟩
  ·have hne:¬ findN N s≠0:=by have:=HQ.out;omega
   have HZ3:Hid (Mz w2 b L N m (bindK z fun _=>if findN N s≠0 then (.error (9,a):CK Unit) else .ok ())):=hiD (by rw [if_neg hne,bindK_unit];exact HZ2.out)
   have HM3:Hid (Mods (·=b) W w2):=hiD (HM2.out.mono fun _ _ f=>f.elim)
   clear hne
   go_wp2_with fail
   go_meet
   case rel=>exact ⟨HZ3,HB2,HM3⟩
 case rest =>
 clear HZ2 HB2 HM2 hp HQ
 obtain ⟨HZ2,HB2,HM2⟩:=hcut
 obtain ⟨zA,hzA⟩:∃ zA,zA=(bindK z fun _=>if findN N s≠0 then (.error (9,a):CK Unit) else .ok ()):=⟨_,rfl⟩
 rw [← hzA] at HZ2
 have HZA:=hiD hzA
 clear hzA
 obtain ⟨n1,a1,⟨fv,nv,hb,-⟩,-⟩:=HZ2.out.ck
 have c2:wc.cell? ⟨b,2,none⟩=some (.int .i64 m):=hb.cell rfl
 clear hb
 go_upto_if 18 with (fail)
 go_cut [] (fun w=>Hid (Mz w b L N m (bindK z fun _=>addU N m s a))∧Hid (Blk w W.heap.size [.string ⟨s.toArray⟩,.int .i64 k] 85)∧Hid (Mods (·=b) W w))
 case first =>
  by_cases h12:12≤m
  ·have h12i:(12:Int)≤(m:Int):=by omega
   go_wp2_with fail
   go_at_call 89
   refine (cfails_z (β:=Unit) b L N m 12 a (by unfold badN;omega) _ zA HZ2.out).mono ?_
   rintro e w3 ⟨rfl,hz3,hm3⟩
   have HZ3:Hid (Mz w3 b L N m (bindK z fun _=>addU N m s a)):=hiD (by
    rw [HZA.out,bindK_assoc2] at hz3
    unfold addU
    simp only [if_pos h12]
    have e1:(fun (x:Unit)=>bindK (if findN N s≠0 then (.error (9,a):CK Unit) else .ok ()) fun _=>(.error (12,a):CK Unit))=fun _=>if findN N s≠0 then .error (9,a) else .error (12,a):=by
     funext _;split <;> rfl
    rw [e1] at hz3
    exact hz3)
   have HB3:=hiD (HB2.out.mods hm3 (by omega))
   have HM3:Hid (Mods (·=b) W w3):=hiD (HM2.out.trans hm3)
   clear hz3 hm3 c2
   go_wp2_with fail
   go_meet
   case rel=>exact ⟨HZ3,HB3,HM3⟩
  ·have h12i:¬ (12:Int)≤(m:Int):=by omega
   have HZ3:Hid (Mz wc b L N m (bindK z fun _=>addU N m s a)):=hiD (by
    have:=HZ2.out
    rw [HZA.out] at this
    unfold addU
    simp only [if_neg h12]
    exact this)
   go_wp2_with fail
   go_meet
   case rel=>exact ⟨HZ3,HB2,HM2⟩
 case rest =>
 clear HZ2 HB2 HM2 c2 HZA
 obtain ⟨HZ2,HB2,HM2⟩:=hcut
 obtain ⟨n3,a3,hck,hput⟩:=HZ2.out.put
 have HPUT:=hiD hput
 have HCK:=hiD hck
 obtain ⟨⟨fv,nv,hb,hF,hN,hnil⟩,hlen,hsmall,hfine⟩:=hck
 have c2:wc.cell? ⟨b,2,none⟩=some (.int .i64 m):=hb.cell rfl
 have f2:=hb.free 2
 have hm63:¬ 9223372036854775807<(m:Int)+1:=by omega
 have HN:=hiD hN
 obtain ⟨na,nn,nc,rfl,hn,hnc,hcm,h0,hcell⟩:=hN
 have HNL:=hiD hn
 have HNIL:Hid (na=none→nc=0):=hiD (fun e=>hnil nn nc (by rw [e]))
 have HFF:=hiD hF
 have HFN:=hiD hfine
 have HL:=hiD hlen
 clear hput hF hnil hfine hn hcell
 go_wp2_with fail
 obtain ⟨W5,hW5⟩:∃ w,w=wc.setCell ⟨b,2,none⟩ (.int .i64 ((m:Int)+1)):=⟨_,rfl⟩
 have HM5:Hid (Mods (·=b) wc W5):=hiD (by rw [hW5];exact mods_put _ b 2 _)
 have HB5:Hid (Blk W5 b [fv,.slice na nn nc,.int .i64 ((m:Int)+1),.int .i64 n3,.int .i64 a3] 123):=hiD (by rw [hW5];exact blk_put hb 2 _ rfl)
 have HP5:Hid (Blk W5 W.heap.size [.string ⟨s.toArray⟩,.int .i64 k] 85):=hiD (HB2.out.mods HM5.out (by omega))
 rw [← hW5]
 clear hW5 hb HB2
 have c1:W5.cell? ⟨b,1,none⟩=some (.slice na nn nc):=HB5.out.cell rfl
 have f1:W5.frozen? ⟨b,1,none⟩=false:=HB5.out.free 1
 have p0:W5.cell? ⟨W.heap.size,0,none⟩=some (.string ⟨s.toArray⟩):=HP5.out.cell rfl
 have p1:W5.cell? ⟨W.heap.size,1,none⟩=some (.int .i64 k):=HP5.out.cell rfl
 have hb5:b<W5.heap.size:=HB5.out.lt
 have hw5:W.heap.size<W5.heap.size:=HP5.out.lt
 have hbn5:b≠W5.heap.size:=by omega
 have hwn5:W.heap.size≠W5.heap.size:=by omega
 clear c2 f2
 have HLN:Hid ((pcells N).length=nn*2∧nn≤2000000):=hiD ⟨by rw [pcells_len,HNL.out],by have:=HNL.out;omega⟩
 have HNC:=hiD (fun (w:World) (hm:Mods None W5 w) (p:Addr) (j:Nat) (u:Value) (hp:na=some p) (hj:(pcells N)[j]?=some u)=>(hm.cellOf ((HN.out.mods HM5.out (fun _ _ k=>k)).cells p j u hp hj) (fun f=>f):w.cell? (p.add j)=some u))
 have HN0:Hid (na=none→nn=0∧nc=0):=hiD (fun e=>⟨h0 e,HNIL.out e⟩)
 have HONE:Hid (∀ u∈pcells N,u.oneCell'=true):=hiD (pcells_one N)
 obtain ⟨i0,hi,hz0,hz1,hz2⟩:=info_parts param_info
 have HI:=hiD (⟨hi,hz0,hz1,hz2⟩:_∧_∧_∧_)
 clear hi hz0 hz1 hz2 hnc hcm h0
 have HC1:=hiD c1
 have HP0:=hiD p0
 have HP1:=hiD p1
 go_region_law ((first
   | ((with_reducible show @ite Prop _ _ (Oper.wp _ _ _ (World.drew (World.alloc W5 (Obj.cells #[] 85))) _ _) _);have hM9:Mods None W5 (World.drew (World.alloc W5 (Obj.cells #[] 85))):=((Mods.refl _ _).alloc _).drew;refine step_append_src rfl (.tmp 30) (.tmp 34) 30 rfl W5.heap.size 85 i0 _ 2 24 Tryz.underlying30 HI.out.1 HI.out.2.1 HI.out.2.2.1 HI.out.2.2.2 rfl (by decide) (.slice (some ⟨W5.heap.size,0,none⟩) 0 0) 0 [] (by simp [Act.eval,Act.put]) (empty_own (g:=W5.heap.size) (Blk.new W5 _ _) (by omega)) na nn nc (pcells N) (by simp [Act.eval,Act.put]) HLN.out.1 HN0.out (fun p j u hp hj=>HNC.out _ hM9 p j u hp hj) HONE.out (by have:=HLN.out.2;unfold maxLen;omega) (by have:=HLN.out.2;omega) hM9.size ?_;intro v1 w6 hown1 hgrow1 hloc1;have hmA:Mods None W5 w6:=grown_mods (B:=0) hM9 hgrow1 (fun k hk=>by cases hk;first|exact Nat.le_refl _|exact Nat.le_succ _);have HO1:=hiD hown1;have HMA:=hiD hmA;have e0:=hmA.cellOf HP0.out (fun f=>f);have e1:=hmA.cellOf HP1.out (fun f=>f);clear hgrow1 hloc1 hown1 hmA hM9)
   | ((with_reducible show @ite Prop _ _ (Oper.wp _ _ _ (World.drew (World.alloc (World.alloc W5 _) (Obj.cells #[] 85))) _ _) _);have hM9:Mods None W5 (World.drew (World.alloc (World.alloc W5 (Obj.cells #[Value.string ⟨s.toArray⟩,Value.int .i64 k] 85)) (Obj.cells #[] 85))):=(((Mods.refl _ _).alloc _).alloc _).drew;refine step_append_src rfl (.tmp 30) (.tmp 34) 30 rfl W5.heap.size 85 i0 _ 2 24 Tryz.underlying30 HI.out.1 HI.out.2.1 HI.out.2.2.1 HI.out.2.2.2 rfl (by decide) (.slice (some ⟨W5.heap.size+1,0,none⟩) 0 0) 0 [] (by simp [Act.eval,Act.put]) (empty_own (g:=W5.heap.size+1) (new_two W5 _) (by omega)) na nn nc (pcells N) (by simp [Act.eval,Act.put]) HLN.out.1 HN0.out (fun p j u hp hj=>HNC.out _ hM9 p j u hp hj) HONE.out (by have:=HLN.out.2;unfold maxLen;omega) (by have:=HLN.out.2;omega) hM9.size ?_;intro v1 w6 hown1 hgrow1 hloc1;have hmA:Mods None W5 w6:=grown_mods (B:=0) hM9 hgrow1 (fun k hk=>by cases hk;first|exact Nat.le_refl _|exact Nat.le_succ _);have HO1:=hiD hown1;have HMA:=hiD hmA;have e0:=hmA.cellOf HP0.out (fun f=>f);have e1:=hmA.cellOf HP1.out (fun f=>f);have HPB:Hid (Blk w6 (W5.heap.size) [.string ⟨s.toArray⟩,.int .i64 k] 85):=hiD (far_blk (g:=W5.heap.size) (v:=.slice (some ⟨W5.heap.size+1,0,none⟩) 0 0) ((Blk.new W5 _ _).alloc _).drew hgrow1 (by intro e;simp [Value.ownBlock] at e));clear hgrow1 hloc1 hown1 hmA hM9)
   | ((with_reducible show @ite Prop _ _ (Oper.wp _ _ _ (World.drew (World.alloc (World.alloc W5 (Obj.cells #[] 85)) _)) _ _) _);have hM9:Mods None W5 (World.drew (World.alloc (World.alloc W5 (Obj.cells #[] 85)) (Obj.cells #[Value.string ⟨s.toArray⟩,Value.int .i64 k] 85))):=(((Mods.refl _ _).alloc _).alloc _).drew;refine step_append_src rfl (.tmp 30) (.tmp 34) 30 rfl W5.heap.size 85 i0 _ 2 24 Tryz.underlying30 HI.out.1 HI.out.2.1 HI.out.2.2.1 HI.out.2.2.2 rfl (by decide) (.slice (some ⟨W5.heap.size,0,none⟩) 0 0) 0 [] (by simp [Act.eval,Act.put]) (empty_own (g:=W5.heap.size) ((Blk.new W5 _ _).alloc _) (by omega)) na nn nc (pcells N) (by simp [Act.eval,Act.put]) HLN.out.1 HN0.out (fun p j u hp hj=>HNC.out _ hM9 p j u hp hj) HONE.out (by have:=HLN.out.2;unfold maxLen;omega) (by have:=HLN.out.2;omega) hM9.size ?_;intro v1 w6 hown1 hgrow1 hloc1;have hmA:Mods None W5 w6:=grown_mods (B:=0) hM9 hgrow1 (fun k hk=>by cases hk;first|exact Nat.le_refl _|exact Nat.le_succ _);have HO1:=hiD hown1;have HMA:=hiD hmA;have e0:=hmA.cellOf HP0.out (fun f=>f);have e1:=hmA.cellOf HP1.out (fun f=>f);have HPB:Hid (Blk w6 (W5.heap.size+1) [.string ⟨s.toArray⟩,.int .i64 k] 85):=hiD (far_blk (g:=W5.heap.size+1) (v:=.slice (some ⟨W5.heap.size,0,none⟩) 0 0) (new_two2 W5 _ _ _).drew hgrow1 (by intro e;simp [Value.ownBlock] at e));clear hgrow1 hloc1 hown1 hmA hM9)
   | ((with_reducible show @ite Prop _ _ (Oper.wp _ _ _ (World.alloc w6 _) _ _) _);refine step_append_src rfl (.tmp 35) (.tmp 37) 30 rfl W5.heap.size 85 i0 _ 2 24 Tryz.underlying30 HI.out.1 HI.out.2.1 HI.out.2.2.1 HI.out.2.2.2 rfl (by decide) v1 nn (pcells N) (by simp [Act.eval,Act.put]) ((own_zero HO1.out).alloc _) (some ⟨w6.heap.size,0,none⟩) 1 1 [.string ⟨s.toArray⟩,.int .i64 k] (by simp [Act.eval,Act.put]) rfl (fun h=>by cases h) (fun p j u hp hj=>by cases hp;exact two_new _ _ _ _ j u hj) (two_one _ _) (by have:=HLN.out.2;unfold maxLen;omega) (by have:=HLN.out.2;omega) (HMA.out.alloc _).size ?_;intro v2 w7 hown2 hgrow2 hloc2;have hmB:Mods None W5 w7:=grown_mods (B:=0) (HMA.out.alloc _) hgrow2 (fun k hk=>(HO1.out.lt k hk).1);have HO2:=hiD hown2;have HMB:=hiD hmB;have HB7:=hiD (HB5.out.mods hmB (fun f=>f));have cb1:=HB7.out.cell (i:=1) rfl;have fb1:=HB7.out.free 1;obtain ⟨oa2,oc2,rfl⟩:=row_form HO2.out;clear hgrow2 hloc2 hown2 hmB)
   | ((with_reducible show @ite Prop _ _ (Oper.wp _ _ _ (w6) _ _) _);refine step_append_src rfl (.tmp 35) (.tmp 37) 30 rfl W5.heap.size 85 i0 _ 2 24 Tryz.underlying30 HI.out.1 HI.out.2.1 HI.out.2.2.1 HI.out.2.2.2 rfl (by decide) v1 nn (pcells N) (by simp [Act.eval,Act.put]) (own_zero HO1.out) (some ⟨W5.heap.size,0,none⟩) 1 1 [.string ⟨s.toArray⟩,.int .i64 k] (by simp [Act.eval,Act.put]) rfl (fun h=>by cases h) (fun p j u hp hj=>by cases hp;exact blk_two HPB.out j u hj) (two_one _ _) (by have:=HLN.out.2;unfold maxLen;omega) (by have:=HLN.out.2;omega) (HMA.out).size ?_;intro v2 w7 hown2 hgrow2 hloc2;have hmB:Mods None W5 w7:=grown_mods (B:=0) (HMA.out) hgrow2 (fun k hk=>(HO1.out.lt k hk).1);have HO2:=hiD hown2;have HMB:=hiD hmB;have HB7:=hiD (HB5.out.mods hmB (fun f=>f));have cb1:=HB7.out.cell (i:=1) rfl;have fb1:=HB7.out.free 1;obtain ⟨oa2,oc2,rfl⟩:=row_form HO2.out;clear hgrow2 hloc2 hown2 hmB)
   | ((with_reducible show @ite Prop _ _ (Oper.wp _ _ _ (w6) _ _) _);refine step_append_src rfl (.tmp 35) (.tmp 37) 30 rfl W5.heap.size 85 i0 _ 2 24 Tryz.underlying30 HI.out.1 HI.out.2.1 HI.out.2.2.1 HI.out.2.2.2 rfl (by decide) v1 nn (pcells N) (by simp [Act.eval,Act.put]) (own_zero HO1.out) (some ⟨W5.heap.size+1,0,none⟩) 1 1 [.string ⟨s.toArray⟩,.int .i64 k] (by simp [Act.eval,Act.put]) rfl (fun h=>by cases h) (fun p j u hp hj=>by cases hp;exact blk_two HPB.out j u hj) (two_one _ _) (by have:=HLN.out.2;unfold maxLen;omega) (by have:=HLN.out.2;omega) (HMA.out).size ?_;intro v2 w7 hown2 hgrow2 hloc2;have hmB:Mods None W5 w7:=grown_mods (B:=0) (HMA.out) hgrow2 (fun k hk=>(HO1.out.lt k hk).1);have HO2:=hiD hown2;have HMB:=hiD hmB;have HB7:=hiD (HB5.out.mods hmB (fun f=>f));have cb1:=HB7.out.cell (i:=1) rfl;have fb1:=HB7.out.free 1;obtain ⟨oa2,oc2,rfl⟩:=row_form HO2.out;clear hgrow2 hloc2 hown2 hmB)))
 all_goals
  go_wp2_with fail
  go_end0
  have hMs:Mods (·=b) w7 (w7.setCell ⟨b,1,none⟩ (.slice oa2 (nn+1) oc2)):=mods_put w7 b 1 _
  have hM57:Mods (·=b) W5 (w7.setCell ⟨b,1,none⟩ (.slice oa2 (nn+1) oc2)):=(HMB.out.mono fun _ _ f=>f.elim).trans hMs
  have hM:Mods (·=b) wc (w7.setCell ⟨b,1,none⟩ (.slice oa2 (nn+1) oc2)):=HM5.out.trans hM57
  refine ⟨rfl,HPUT.out _ _ _ ?_,HM2.out.trans hM⟩
  have hrow:=HO2.out
  have hlb:∀ k,(Value.slice oa2 (nn+1) oc2).ownBlock=some k→¬ (k=b):=fun q hq=>by have:=(hrow.lt q hq).1;omega
  rw [show nn+1=(N++[(s,k)]).length by simp [HNL.out],show pcells N++[.string ⟨s.toArray⟩,.int .i64 k]=pcells (N++[(s,k)]) from (pcells_append N s k).symm] at hrow
  have hNm:=nm_of_row (S:=(·=b)) hrow (by rw [show (N++[(s,k)]).length=nn+1 by simp [HNL.out]];exact hlb)
  rw [show (N++[(s,k)]).length=nn+1 by simp [HNL.out]] at hNm
  have hnil2:∀ k c,Value.slice oa2 (nn+1) oc2=.slice none k c→c=0:=by
   intro q c hq
   cases hq
   rcases HO2.out.2 with ⟨e1,e2⟩|⟨g,cap,cur,e1,_⟩
   ·cases e1
   ·cases e1
  refine ⟨⟨fv,_,by simpa using (blk_put (ds:=[fv,.slice oa2 (nn+1) oc2,.int .i64 ((m:Int)+1),.int .i64 n3,.int .i64 a3]) HB7.out 1 _ rfl),HFF.out.mods hM (fun _ _ k=>k),hNm.mods hMs (fun _ _ k=>k),hnil2⟩,by have:=HL.out;simp;omega,HMM.out,HFN.out.far hM (fun k hk=>Nat.le_of_eq hk.symm)⟩
end Go.Proofs.YtdgedlhefjmcpaaGreatDoor.TreeP.R

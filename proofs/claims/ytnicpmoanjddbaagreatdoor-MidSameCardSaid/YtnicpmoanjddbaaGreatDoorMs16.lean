/- The checker as it lies in memory; what it finds a name to be; names that are added. Conditions: its functions and names lie. -/
import Derived.Test.YtnicpmoanjddbaaGreatDoorMs02
import Derived.Test.YtnicpmoanjddbaaGreatDoorMs06
import Derived.Laws.AppendOwn
import Derived.Laws.PanicsMore
import Derived.Deep.RegionLaw
namespace Go.Proofs.YtnicpmoanjddbaaGreatDoor.TreeP
open Go.RowKit Go.Proofs.YtnicpmoanjddbaaGreatDoor.Wo
set_option linter.unusedVariables false
set_option linter.unusedSimpArgs false
theorem run_append_full {P:Program} (w:World) (t ty e:TypeId) (i:TypeInfo) (z:Value) (size bytes:Nat) (ht:P.underlying t=some (.slice e)) (hi:P.info? e=some i) (hz:i.zero=some z)
 (hsize:i.size=size) (hby:i.bytes=bytes) (hzs:z.cells.size=size) (hsz:0<size)
 (b:Option Addr) (n:Nat) (xs:List Value) (hlx:xs.length=n*size) (h0:b=none→n=0) (hxs:∀ p j u,b=some p→xs[j]?=some u→w.cell? (p.add j)=some u)
 (a:Addr) (m c:Nat) (news:List Value) (hl:news.length=m*size) (hnews:∀ j u,news[j]?=some u→w.cell? (a.add j)=some u) (hm:0<m)
 (h63:n+m≤maxLen) (hbytes:(n+m)*bytes≤140737488355328) :
 ∃ v' w',(Builtin.append_ #[t,t] ty #[.slice b n n,.slice (some a) m c]).run P w=.ok v' w'∧w'.ownsRow w.heap.size e size v' (n+m) (xs++news)∧Mods None w w':=by
 subst hsize
 subst hby
 have hsmall:n+m≤9223372036854775807:=by simp only [maxLen] at h63;omega
 have hlen:(xs++news).length=(n+m)*i.size:=by rw [List.length_append,hlx,hl,Nat.add_mul]
 have grown:∀ (old:Nat),old<n+m →
  (w.drew.alloc (.cells (xs.toArray++news.toArray++Builtin.zeroCells z.cells (grownCap w (n+m) old e-(n+m))) e)).ownsRow w.heap.size e i.size
        (.slice (some ⟨w.heap.size,0,none⟩) (n+m) (grownCap w (n+m) old e)) (n+m) (xs++news) ∧
  Mods None w (w.drew.alloc (.cells (xs.toArray++news.toArray++Builtin.zeroCells z.cells (grownCap w (n+m) old e-(n+m))) e)):=by
  intro old ho
  have hge:=grownCap_ge w (n+m) old e
  have hcm:grownCap w (n+m) old e≤maxLen:=grownCap_le_maxLen w (n+m) old e h63
  refine ⟨⟨hlen,.inr ⟨w.heap.size,_,_,rfl,Nat.le_refl _,heap_alloc_new w.drew _,hge,hcm,?_,?_⟩⟩,(Mods.refl _ _).drew.alloc _⟩
  · simp only [Array.size_append,List.size_toArray,size_zeroCells,hzs,hlx,hl,← Nat.add_mul]
    congr 1
    omega
  · simp only [Array.toList_append,List.append_assoc]
    rw [← List.append_assoc,← hlen]
    exact List.take_left
 cases b with
 | none =>
   obtain rfl:=h0 rfl
   have hx:xs=[]:=List.eq_nil_of_length_eq_zero (by simpa using hlx)
   subst hx
   have hr:=run_append_nil (P:=P) w t ty e i z ht hi hz a m c news hl hnews hm (by omega) (by have hb:=hbytes;simp only [Nat.zero_add] at hb;omega)
   have hgr:=grown 0 (by omega)
   simp only [Nat.zero_add,List.nil_append,Array.empty_append] at hgr ⊢
   exact ⟨_,_,hr,hgr.1,hgr.2⟩
 | some b =>
   have hr:=run_append_grow (P:=P) w t ty e i z ht hi hz b n n xs hlx (fun j u hu=>hxs b j u rfl hu) a m c news hl hnews (by omega) (by omega) (growslice_fits (by omega) hbytes)
   have hgr:=grown n (by omega)
   exact ⟨_,_,hr,hgr.1,hgr.2⟩
theorem step_append_full {P:Program} {ops:Array Oper} {o:Oper} {a:Act} {w:World} {K:Act→World→Prop} {Q:Exit→Act→World→Prop} {E:Prop} (hgd:o.guard=none) (s x:Operand) (t:TypeId)
 (ho:o.op=.call { callee:=.builtin .append,args:=#[s,x],argTypes:=#[t,t] })
 (e:TypeId) (i:TypeInfo) (z:Value) (size bytes:Nat) (ht:P.underlying t=some (.slice e)) (hi:P.info? e=some i) (hz:i.zero=some z)
 (hsize:i.size=size) (hby:i.bytes=bytes) (hzs:z.cells.size=size) (hsz:0<size)
 (b:Option Addr) (n:Nat) (xs:List Value) (hs:a.eval s=.slice b n n) (hlx:xs.length=n*size) (h0:b=none→n=0) (hxs:∀ p j u,b=some p→xs[j]?=some u→w.cell? (p.add j)=some u)
 (ad:Addr) (m c:Nat) (news:List Value) (hx:a.eval x=.slice (some ad) m c) (hl:news.length=m*size) (hnews:∀ j u,news[j]?=some u→w.cell? (ad.add j)=some u) (hm:0<m)
 (h63:n+m≤maxLen) (hbytes:(n+m)*bytes≤140737488355328)
 (h:∀ v' w',w'.ownsRow w.heap.size e size v' (n+m) (xs++news)→Mods None w w'→K (a.put o.dst v') w') :
 if Region.wanted o (yielded ops a.tmps)=true then Oper.wp P o a w K Q else E:=by
 have hw:Region.wanted o (yielded ops a.tmps)=true:=by simp [Region.wanted,hgd]
 rw [if_pos hw]
 obtain ⟨v',w',hr,h2,h3⟩:=run_append_full (P:=P) w t o.type e i z size bytes ht hi hz hsize hby hzs hsz b n xs hlx h0 hxs ad m c news hl hnews hm h63 hbytes
 unfold Oper.wp execOp
 simp only [ho,resolve,invoke,builtin,Sem.run_bind,Sem.run_pure,Result.andThen_ok,List.map_toArray,List.map_cons,List.map_nil,hs,hx,hr]
 exact h v' w' h2 h3
def NmAt (W:World) (S:Nat→Prop) (v:Value) (N:Nm):Prop :=
 ∃ a n c,v=.slice a n c∧n=N.length∧n≤c∧c≤maxLen∧(a=none→n=0)∧∀ i p,N[i]?=some p→∃ g o,a=some ⟨g,o,none⟩∧¬ S g∧W.cell? ⟨g,o+i*2,none⟩=some (str p.1)∧W.cell? ⟨g,o+i*2+1,none⟩=some (.int .i64 p.2)
theorem NmAt.mods {W W':World} {S T:Nat→Prop} {v:Value} {N:Nm} (h:NmAt W S v N) (hm:Mods S W W') (hT:∀ k,k<W.heap.size→T k→S k):NmAt W' T v N:=by
 obtain ⟨a,n,c,h1,h2,h3,h4,h5,h6⟩:=h
 refine ⟨a,n,c,h1,h2,h3,h4,h5,fun i p hp=>?_⟩
 obtain ⟨g,o,e1,e2,e3,e4⟩:=h6 i p hp
 exact ⟨g,o,e1,fun ht=>e2 (hT g (World.block_lt_of_cell? W _ e3) ht),hm.cellOf e3 e2,hm.cellOf e4 e2⟩
def FsAt (W:World) (S:Nat→Prop) (v:Value) (L:List Fn):Prop :=
 ∃ a n c,v=.slice a n c∧n=L.length∧n≤c∧c≤maxLen∧(a=none→n=0)∧∀ i f,L[i]?=some f→∃ g o p q vq,a=some ⟨g,o,none⟩∧¬ S g ∧
   W.cell? ⟨g,o+i*4,none⟩=some (str f.name)∧W.cell? ⟨g,o+i*4+1,none⟩=some (.int .i64 f.at_)∧W.cell? ⟨g,o+i*4+2,none⟩=some p∧W.cell? ⟨g,o+i*4+3,none⟩=some q ∧
   RowAt W S 91 2 p f.params.length (pcells f.params)∧RowAt W S 143 7 q f.body.length vq∧StsAt W S f.body vq
theorem FsAt.mods {W W':World} {S T:Nat→Prop} {v:Value} {L:List Fn} (h:FsAt W S v L) (hm:Mods S W W') (hT:∀ k,k<W.heap.size→T k→S k):FsAt W' T v L:=by
 obtain ⟨a,n,c,h1,h2,h3,h4,h5,h6⟩:=h
 refine ⟨a,n,c,h1,h2,h3,h4,h5,fun i p hp=>?_⟩
 obtain ⟨g,o,p,q,vq,e1,e2,e3,e4,e5,e6,e7,e8,e9⟩:=h6 i p hp
 exact ⟨g,o,p,q,vq,e1,fun ht=>e2 (hT g (World.block_lt_of_cell? W _ e3) ht),hm.cellOf e3 e2,hm.cellOf e4 e2,hm.cellOf e5 e2,hm.cellOf e6 e2,e7.mods hm hT,e8.mods hm hT,StsAt.modsTo hm hT _ _ e9⟩
structure Chk (W:World) (b:Nat) (L:List Fn) (N:Nm) (m:Nat):Prop where
 few:m≤12
 len:N.length≤m
 at_:∃ fv nv,Blk W b [fv,nv,.int .i64 m] 104∧FsAt W (·=b) fv L∧NmAt W (·=b) nv N
theorem Chk.mods {W W':World} {b:Nat} {L:List Fn} {N:Nm} {m:Nat} (h:Chk W b L N m) (hm:Mods None W W'):Chk W' b L N m:=by
 obtain ⟨fv,nv,h1,h2,h3⟩:=h.at_
 exact ⟨h.few,h.len,fv,nv,h1.mods hm (fun f=>f),h2.mods (hm.mono fun _ _ f=>f.elim) (fun _ _ k=>k),h3.mods (hm.mono fun _ _ f=>f.elim) (fun _ _ k=>k)⟩
def wrongC (g:Nat):Value:=.iface 97 (.agg #[.iface 134 (.pointer (some ⟨g,0,none⟩))])
def Thrown (W:World) (n a:Int) (e:Ending) (w:World):Prop:=∃ g,e=.panicked [{ v:=wrongC g,recovered:=false }]∧Blk w g [.int .i64 n,.int .i64 a] 136
set_option maxRecDepth 100000 in
theorem cfail_any (n a:Int) (W:World):Calls Tryz.prog 39 #[.int .i64 n,.int .i64 a] W fun e w=>Thrown W n a e w∧Mods None W w:=by
 go_enter Tryz.func39,Tryz.ntmps39
 go_wp2
 exact ⟨rfl,⟨_,rfl,Blk.new W _ _⟩,(Mods.refl _ _).alloc _⟩
def idxN:Nm→List UInt8→Option Nat
 | [],_=>none
 | p::r,s=>if p.1==s then some 0 else (idxN r s).map (·+1)
def optI:Option Nat→Int
 | some i=>i
 | none=>-1
set_option maxRecDepth 100000 in
theorem eq_name (s:List UInt8) (a:List UInt8) (k:Int) (q:Nat) (W:World) (hq:W.cell? ⟨q,0,none⟩=some (str s)) :
 Calls Tryz.prog 99 #[.agg #[str a,.int .i64 k],.pointer (some ⟨q,0,none⟩)] W fun e w=>e=.returned (.bool (a==s))∧Mods None W w:=by
 have hlt:q<W.heap.size:=World.block_lt_of_cell? W _ hq
 have hne:q≠W.heap.size:=by omega
 unfold str at *
 go_enter Tryz.func99,Tryz.ntmps99
 go_wp2
 go_ret
 refine ⟨?_,(Mods.refl _ _).alloc _⟩
 simp
theorem idxN_take {N:Nm} {s:List UInt8} {i:Nat} (h:idxN (N.take i) s=none) {p:List UInt8×Int} (hp:N[i]?=some p):idxN (N.take (i+1)) s=if p.1==s then some i else none:=by
 induction N generalizing i with
 | nil=>simp at hp
 | cons a r ih =>
   cases i with
   | zero =>
     simp only [List.getElem?_cons_zero,Option.some.injEq] at hp
     subst hp
     simp [idxN]
   | succ i =>
     simp only [List.take_succ_cons,idxN] at h ⊢
     split at h
     · cases h
     · rename_i hn
       rw [if_neg hn]
       simp only [Option.map_eq_none_iff] at h
       rw [ih h (by simpa using hp)]
       split <;> rfl
theorem idxN_more {N:Nm} {s:List UInt8} {i j:Nat} (h:idxN (N.take i) s=some j):idxN N s=some j:=by
 induction N generalizing i j with
 | nil=>simp [idxN] at h
 | cons a r ih =>
   cases i with
   | zero=>simp [idxN] at h
   | succ i =>
     simp only [List.take_succ_cons,idxN] at h ⊢
     split at h
     · rename_i hy
       rw [if_pos hy]
       exact h
     · rename_i hn
       rw [if_neg hn]
       obtain ⟨k,hk,rfl⟩:=Option.map_eq_some_iff.1 h
       rw [ih hk]
       rfl
set_option maxRecDepth 100000 in
set_option maxHeartbeats 1000000 in
theorem index_param (s:List UInt8) (N:Nm) (v:Value) (q:Nat) (W:World) (hq:W.cell? ⟨q,0,none⟩=some (str s)) (hN:NmAt W None v N) :
 Calls Tryz.prog 98 #[v,.func (.func 99) #[] #[.pointer (some ⟨q,0,none⟩)]] W fun e w=>e=.returned (.int .i64 (optI (idxN N s)))∧Mods None W w:=by
 obtain ⟨a,n,c,rfl,hn,hnc,hcm,h0,hcell⟩:=hN
 have HN:=hiD hn
 have HC:=hiD (fun (w:World) (hm:Mods None W w) (i:Nat) (hi:i<n)=>(by
  have hi2:i<N.length:=by omega
  obtain ⟨g,o,e1,e2,e3,e4⟩:=hcell i N[i] (List.getElem?_eq_getElem hi2)
  exact ⟨N[i].1,N[i].2,g,o,e1,List.getElem?_eq_getElem hi2,hm.cellOf e3 (fun f=>f),hm.cellOf e4 (fun f=>f)⟩:∃ x k g o,a=some ⟨g,o,none⟩∧N[i]?=some (x,k)∧w.cell? ⟨g,o+i*2,none⟩=some (str x)∧w.cell? ⟨g,o+i*2+1,none⟩=some (.int .i64 k)))
 have HQ:=hiD (fun (w:World) (hm:Mods None W w)=>(hm.cellOf hq (fun f=>f):w.cell? ⟨q,0,none⟩=some (str s)))
 unfold maxLen at hcm
 clear hn hcell hq
 unfold str at *
 go_enter Tryz.func98,Tryz.ntmps98
 go_wp2_with fail
 go_loopw [5,8] (fun _ iv wr=>∃ i:Nat,i≤n∧iv=.int .i64 i∧Hid (idxN (N.take i) s=none)∧Hid (Mods None W wr)) (fun _ iv _=>(n-intOf iv).toNat)
 case atStart=>exact ⟨0,Nat.zero_le _,rfl,hiD (by simp [idxN]),hiD (Mods.refl _ _)⟩
 case round =>
  obtain ⟨i,hi,rfl,HI,HM⟩:=hrel
  by_cases hlt:i<n
  · obtain ⟨x,k,g,o,rfl,hx,c1,c2⟩:=HC.out wr HM.out i hlt
    have hpi:(i:Int)<(n:Int):=by omega
    have HT:=hiD (idxN_take HI.out hx)
    have HE:=hiD (eq_name s x k q wr (HQ.out wr HM.out))
    clear hx
    unfold str at *
    go_wp2_with fail
    go_at_call 99
    refine HE.out.mono ?_
    rintro e w1 ⟨rfl,hm1⟩
    have HM1:=hiD (HM.out.trans hm1)
    clear hm1
    rcases hb:(x==s) with _|_
    · have HT2:Hid (idxN (N.take (i+1)) s=none):=hiD (by rw [HT.out];simp only [hb];rfl)
      clear hb
      go_wp2_with fail
      exact ⟨⟨i+1,by omega,by go_num,HT2,HM1⟩,by simp [intOf];omega⟩
    · have HT2:Hid (idxN N s=some i):=hiD (idxN_more (i:=i+1) (by rw [HT.out];simp only [hb];rfl))
      clear hb
      go_wp2_with fail
      go_ret
      refine ⟨?_,HM1.out⟩
      rw [HT2.out]
      rfl
  · obtain rfl:i=n:=by omega
    have hpi:¬ (i:Int)<(i:Int):=by omega
    have HT2:Hid (idxN N s=none):=hiD (by
        have:=HI.out
        rw [HN.out,List.take_length] at this
        exact this)
    go_wp2_with fail
    go_ret
    refine ⟨?_,HM.out⟩
    rw [HT2.out]
    rfl
theorem findN_none {N:Nm} {s:List UInt8} (h:idxN N s=none):findN N s=0:=by
 unfold findN
 induction N with
 | nil=>rfl
 | cons a r ih =>
   simp only [idxN] at h
   split at h
   · cases h
   · rename_i hn
     rw [Bool.not_eq_true] at hn
     rw [List.find?_cons,hn]
     exact ih (by simpa using h)
theorem findN_some {N:Nm} {s:List UInt8} {i:Nat} (h:idxN N s=some i):∃ p,N[i]?=some p∧findN N s=p.2:=by
 unfold findN
 induction N generalizing i with
 | nil=>simp [idxN] at h
 | cons a r ih =>
   simp only [idxN] at h
   split at h
   · rename_i hy
     obtain rfl:=Option.some.inj h
     exact ⟨a,rfl,by rw [List.find?_cons,hy]⟩
   · rename_i hn
     obtain ⟨k,hk,rfl⟩:=Option.map_eq_some_iff.1 h
     obtain ⟨p,h1,h2⟩:=ih hk
     refine ⟨p,by simpa using h1,?_⟩
     rw [Bool.not_eq_true] at hn
     rw [List.find?_cons,hn]
     exact h2
set_option maxRecDepth 100000 in
set_option maxHeartbeats 1000000 in
theorem find_any (b:Nat) (L:List Fn) (N:Nm) (m:Nat) (s:List UInt8) (W:World) (h:Chk W b L N m) :
 Calls Tryz.prog 66 #[.pointer (some ⟨b,0,none⟩),str s] W fun e w=>e=.returned (.int .i64 (findN N s))∧Mods None W w:=by
 obtain ⟨fv,nv,hb,hF,hN⟩:=h.at_
 have HN:=hiD hN
 obtain ⟨a,n,c,rfl,hn,hnc,hcm,h0,hcell⟩:=hN
 have c1:W.cell? ⟨b,1,none⟩=some (.slice a n c):=hb.cell rfl
 have hbl:=hb.lt
 obtain ⟨W1,hW1⟩:∃ W1,W1=W.alloc (.cells #[str s] 9):=⟨_,rfl⟩
 have hm1:Mods None W W1:=by rw [hW1];exact (Mods.refl _ _).alloc _
 have hI:=index_param s N (.slice a n c) W.heap.size W1 (by rw [hW1];simp) (HN.out.mods (T:=None) (S:=(·=b)) (by rw [hW1];exact (Mods.refl _ _).alloc _) (fun _ _ f=>f.elim))
 have HI:=hiD hI
 have HM1:=hiD hm1
 have HB:=hiD hb
 have HC:=hiD hcell
 have HNL:=hiD hn
 unfold maxLen at hcm
 have c2:W1.cell? ⟨b,1,none⟩=some (.slice a n c):=hm1.cellOf c1 (fun f=>f)
 clear hI hm1 hF hb hn hcell
 have hbne:b≠W.heap.size:=by omega
 unfold str at *
 go_enter Tryz.func66,Tryz.ntmps66
 go_wp2_with fail
 rw [← hW1]
 clear hW1
 go_at_call 98
 refine HI.out.mono ?_
 rintro e w2 ⟨rfl,hm2⟩
 have HM2:=hiD (HM1.out.trans hm2)
 have c3:w2.cell? ⟨b,1,none⟩=some (.slice a n c):=hm2.cellOf c2 (fun f=>f)
 clear hm2 c2
 cases hx:idxN N s with
 | none =>
   have HR:=hiD (findN_none hx)
   clear hx
   simp only [optI]
   go_wp2_with fail
   go_ret
   exact ⟨by rw [HR.out];rfl,HM2.out⟩
 | some i =>
   obtain ⟨p,hp,hf⟩:=findN_some hx
   obtain ⟨g,o,rfl,e2,e3,e4⟩:=HC.out i p hp
   have hi:i<N.length:=(List.getElem?_eq_some_iff.1 hp).1
   have hin:(i:Int)<(n:Int):=by have:=HNL.out;omega
   have HR:=hiD hf
   have c4:w2.cell? ⟨g,o+i*2+1,none⟩=some (.int .i64 p.2):=HM2.out.cellOf e4 (fun f=>f)
   clear hx hp hf e3 e4
   simp only [optI]
   go_wp2_with fail
   go_ret
   exact ⟨by rw [HR.out];rfl,HM2.out⟩
theorem clip_any (a:Option Addr) (n c:Nat) (W:World) (hnc:n≤c) (hcm:c≤maxLen) (h0:a=none→n=0) :
 Calls Tryz.prog 67 #[.slice a n c] W fun e w=>e=.returned (.slice a n n)∧W=w:=by
 unfold maxLen at hcm
 cases a with
 | none =>
   obtain rfl:=h0 rfl
   go_enter Tryz.func67,Tryz.ntmps67
   go_wp2
   go_ret
   exact ⟨rfl,rfl⟩
 | some p =>
   obtain ⟨g,o,s⟩:=p
   go_enter Tryz.func67,Tryz.ntmps67
   go_wp2
   go_ret
   exact ⟨rfl,rfl⟩
theorem ncells_at:(N:Nm)→(i:Nat)→(p:List UInt8×Int)→N[i]?=some p→(pcells N)[i*2]?=some (str p.1)∧(pcells N)[i*2+1]?=some (.int .i64 p.2)
 | [],i,p,h=>by simp at h
 | a::r,0,p,h=>by
   simp only [List.getElem?_cons_zero,Option.some.injEq] at h
   subst h
   exact ⟨rfl,rfl⟩
 | a::r,i+1,p,h=>by
   have:=ncells_at r i p (by simpa using h)
   rw [show (i+1)*2=i*2+2 by omega]
   exact this
theorem nm_of_row {W:World} {S:Nat→Prop} {v:Value} {N:Nm} {B:Nat} (h:W.ownsRow B 91 2 v N.length (pcells N)) (hS:∀ k,v.ownBlock=some k→¬ S k):NmAt W S v N:=by
 rcases h.2 with ⟨rfl,h0⟩|⟨g,cap,cur,rfl,_,hg,h3,h4,_⟩
 · have hN:N=[]:=List.eq_nil_of_length_eq_zero h0
   subst hN
   exact ⟨none,0,0,rfl,rfl,Nat.le_refl _,by decide,fun _=>rfl,fun i p hp=>by simp at hp⟩
 · have hc:=h.cells (g:=g) rfl
   refine ⟨some ⟨g,0,none⟩,N.length,cap,rfl,rfl,h3,h4,(fun h=>by cases h),fun i p hp=>?_⟩
   obtain ⟨h5,h6⟩:=ncells_at N i p hp
   have e1:=hc _ _ h5
   have e2:=hc _ _ h6
   refine ⟨g,0,rfl,hS g rfl,?_,?_⟩
   · simpa [Addr.add_lit] using e1
   · simpa [Addr.add_lit,Nat.add_assoc] using e2
theorem NmAt.cells {W:World} {S:Nat→Prop} {a:Option Addr} {n c:Nat} {N:Nm} (h:NmAt W S (.slice a n c) N):∀ p j u,a=some p→(pcells N)[j]?=some u→W.cell? (p.add j)=some u:=by
 obtain ⟨a',n',c',e,h2,h3,h4,h5,h6⟩:=h
 obtain ⟨rfl,rfl,rfl⟩:=Value.slice.inj e
 intro p j u hp hj
 have hlen:(pcells N).length=N.length*2:=by
  clear h2 h6 hj
  induction N with
  | nil=>rfl
  | cons a r ih=>simp only [pcells,List.length_append,List.length_cons,List.length_nil] at ih ⊢;omega
 have hjl:j<N.length*2:=by
  have:=(List.getElem?_eq_some_iff.1 hj).1
  omega
 obtain ⟨i,hi⟩:∃ i,i=j / 2:=⟨_,rfl⟩
 have hil:i<N.length:=by omega
 obtain ⟨g,o,e1,e2,e3,e4⟩:=h6 i N[i] (List.getElem?_eq_getElem hil)
 rw [hp] at e1
 obtain rfl:=Option.some.inj e1
 obtain ⟨p1,p2⟩:=ncells_at N i N[i] (List.getElem?_eq_getElem hil)
 rcases Nat.mod_two_eq_zero_or_one j with h0|h0
 · have hji:j=i*2:=by omega
   rw [hji] at hj ⊢
   rw [hj] at p1
   rw [Option.some.inj p1]
   simpa [Addr.add_lit] using e3
 · have hji:j=i*2+1:=by omega
   rw [hji] at hj ⊢
   rw [hj] at p2
   rw [Option.some.inj p2]
   simpa [Addr.add_lit,Nat.add_assoc] using e4
theorem pcells_len (N:Nm):(pcells N).length=N.length*2:=by
 induction N with
 | nil=>rfl
 | cons a r ih=>simp only [pcells,List.length_append,List.length_cons,List.length_nil] at ih ⊢;omega
theorem row_form {W:World} {B:Nat} {e:TypeId} {size n:Nat} {v:Value} {vs:List Value} (h:W.ownsRow B e size v n vs):∃ oa oc,v=.slice oa n oc:=by
 rcases h.2 with ⟨hv,h0⟩|⟨g,cap,cur,hv,_⟩
 · exact ⟨_,_,by rw [hv,h0]⟩
 · exact ⟨_,_,hv⟩
def AddTo (W:World) (b:Nat) (L:List Fn):CK (Nm×Nat)→Ending→World→Prop
 | .error (n,a)=>fun e w=>Thrown W n a e w∧Mods (·=b) W w
 | .ok x=>fun e w=>e=.returned (.tuple #[])∧Chk w b L x.1 x.2∧Mods (·=b) W w
set_option maxRecDepth 100000 in
set_option maxHeartbeats 1000000 in
theorem add_any (b:Nat) (L:List Fn) (N:Nm) (m:Nat) (p:List UInt8×Int) (a:Int) (W:World) (h:Chk W b L N m) :
 Calls Tryz.prog 40 #[.pointer (some ⟨b,0,none⟩),.agg #[str p.1,.int .i64 p.2],.int .i64 a] W (AddTo W b L (addN N m p a)):=by
 obtain ⟨few,hlen,fv,nv,hb,hF,hN⟩:=h
 have HF:=hiD hF
 have HN:=hiD hN
 obtain ⟨na,n,c,rfl,hn,hnc,hcm,h0,hcell⟩:=hN
 have hbl:=hb.lt
 have hbne:b≠W.heap.size:=by omega
 obtain ⟨W1,hW1⟩:∃ W1,W1=W.alloc (.cells #[str p.1,.int .i64 p.2] 91):=⟨_,rfl⟩
 have hm1:Mods None W W1:=by rw [hW1];exact (Mods.refl _ _).alloc _
 have hK:Chk W b L N m:=⟨few,hlen,fv,_,hb,hF,HN.out⟩
 have HFi:=hiD (find_any b L N m p.1 W1 (hK.mods hm1))
 have HK:=hiD (hK.mods hm1)
 have HP:Hid (W1.cell? ⟨W.heap.size,0,none⟩=some (str p.1)∧W1.cell? ⟨W.heap.size,1,none⟩=some (.int .i64 p.2)):=hiD (by rw [hW1];simp)
 have HM1:=hiD hm1
 have HB:=hiD hb
 have HC:=hiD hcell
 have HNL:=hiD hn
 have HL:=hiD hlen
 unfold maxLen at hcm
 clear hm1 hF hb hn hcell hK hlen
 obtain ⟨s,k⟩:=p
 have hPf:∀ (e:Ending) (w2:World),(e=.returned (.int .i64 (findN N s))∧Mods None W1 w2)→True:=fun _ _ _=>trivial
 clear hPf
 by_cases hf:findN N s≠0
 · have hf0:(findN N s != 0)=true:=by simpa using hf
   have hr:addN N m (s,k) a=.error (9,a):=by unfold addN;rw [if_pos hf]
   rw [hr]
   clear hr hf
   unfold AddTo str at *
   go_enter Tryz.func40,Tryz.ntmps40
   go_wp2_with fail
   rw [← hW1]
   clear hW1
   go_at_call 66
   refine HFi.out.mono ?_
   rintro e w2 ⟨rfl,hm2⟩
   have HM2:=hiD (HM1.out.trans hm2)
   go_wp2_with fail
   go_at_call 39
   refine (cfail_any 9 a w2).mono ?_
   rintro e w3 ⟨⟨g,rfl,hb3⟩,hm3⟩
   go_wp2
   exact ⟨rfl,⟨g,rfl,hb3⟩,(HM2.out.trans hm3).mono fun _ _ f=>f.elim⟩
 · have hf0:(findN N s != 0)=false:=by simpa using hf
   by_cases h12:m=12
   · have hr:addN N m (s,k) a=.error (12,a):=by unfold addN;rw [if_neg hf,if_pos h12]
     rw [hr]
     clear hr hf
     subst h12
     unfold AddTo str at *
     go_enter Tryz.func40,Tryz.ntmps40
     go_wp2_with fail
     rw [← hW1]
     clear hW1
     go_at_call 66
     refine HFi.out.mono ?_
     rintro e w2 ⟨rfl,hm2⟩
     have HM2:=hiD (HM1.out.trans hm2)
     have cm:w2.cell? ⟨b,2,none⟩=some (.int .i64 12):=HM2.out.cellOf (HB.out.cell rfl) (fun f=>f)
     go_wp2_with fail
     go_at_call 39
     refine (cfail_any 12 a w2).mono ?_
     rintro e w3 ⟨⟨g,rfl,hb3⟩,hm3⟩
     go_wp2
     exact ⟨rfl,⟨g,rfl,hb3⟩,(HM2.out.trans hm3).mono fun _ _ f=>f.elim⟩
   · have hr:addN N m (s,k) a=.ok (N++[(s,k)],m+1):=by unfold addN;rw [if_neg hf,if_neg h12]
     rw [hr]
     have hm12:((m:Int)==12)=false:=by simp;omega
     obtain ⟨i0,hi,hz0,hz1,hz2⟩:=info_parts param_info
     have HI:=hiD (⟨hi,hz0,hz1,hz2⟩:_∧_∧_∧_)
     clear hr hf hi hz0 hz1 hz2
     unfold AddTo str at *
     go_enter Tryz.func40,Tryz.ntmps40
     go_wp2_with fail
     rw [← hW1]
     clear hW1
     go_at_call 66
     refine HFi.out.mono ?_
     rintro e w2 ⟨rfl,hm2⟩
     have HM2:=hiD (HM1.out.trans hm2)
     have cm:w2.cell? ⟨b,2,none⟩=some (.int .i64 m):=HM2.out.cellOf (HB.out.cell rfl) (fun f=>f)
     have cn:w2.cell? ⟨b,1,none⟩=some (.slice na n c):=HM2.out.cellOf (HB.out.cell rfl) (fun f=>f)
     have cp0:w2.cell? ⟨W.heap.size,0,none⟩=some (.string ⟨s.toArray⟩):=hm2.cellOf HP.out.1 (fun f=>f)
     have cp1:w2.cell? ⟨W.heap.size,1,none⟩=some (.int .i64 k):=hm2.cellOf HP.out.2 (fun f=>f)
     have fb1:w2.frozen? ⟨b,1,none⟩=false:=((HB.out.mods HM2.out (fun f=>f)).free 1)
     go_wp2_with fail
     have hbl2:b<w2.heap.size:=(HB.out.mods HM2.out (fun f=>f)).lt
     have hbn2:b≠w2.heap.size:=by omega
     have hwl2:W.heap.size<w2.heap.size:=World.block_lt_of_cell? w2 _ cp0
     have hwn2:W.heap.size≠w2.heap.size:=by omega
     have HNC:=hiD (fun (w:World) (hm:Mods None w2 w) (p:Addr) (j:Nat) (u:Value) (hp:na=some p) (hj:(pcells N)[j]?=some u)=>(hm.cellOf ((HN.out.mods (T:=(·=b)) (HM2.out.mono fun _ _ f=>f.elim) (fun _ _ f=>f)).cells p j u hp hj) (fun f=>f):w.cell? (p.add j)=some u))
     have HLN:Hid (pcells N=pcells N∧(pcells N).length=n*2∧n≤12):=hiD ⟨rfl,by rw [pcells_len,HNL.out],by have:=HNL.out;have:=HL.out;omega⟩
     go_region_law (first|(refine step_append_full rfl (.tmp 27) (.tmp 29) 81 rfl 91 i0 _ 2 24 Tryz.underlying81 HI.out.1 HI.out.2.1 HI.out.2.2.1 HI.out.2.2.2 rfl (by decide) na n (pcells N) (by simp [Act.eval,Act.put]) HLN.out.2.1 h0 (fun p j u hp hj=>HNC.out _ ((Mods.refl None w2).drew.alloc _) p j u hp hj) ⟨w2.heap.size,0,none⟩ 1 1 [.string ⟨s.toArray⟩,.int .i64 k] (by simp [Act.eval,Act.put]) rfl (two_new _ _ _ _) (by decide) (by have:=HLN.out.2.2;unfold maxLen;omega) (by have:=HLN.out.2.2;omega) ?_;intro v' w5 hown hm5;have HOW:=hiD hown;have HM5:=hiD (((Mods.refl None w2).drew.alloc (.cells #[.string ⟨s.toArray⟩,.int .i64 k] 91)).trans hm5);clear hown hm5;obtain ⟨ra,rc,rfl⟩:=row_form HOW.out;have c5:=HM5.out.cellOf cn (fun f=>f);have hb5:=(HB.out.mods HM2.out (fun f=>f)).mods HM5.out (fun f=>f);have f5:=hb5.free 1;have HB5:=hiD hb5;clear hb5)|(go_simp;go_at_call 67;refine (clip_any na n c _ hnc (by unfold maxLen;omega) h0).mono ?_;rintro e w3 ⟨rfl,rfl⟩))
     all_goals
        have c6:(w5.setCell ⟨b,1,none⟩ (.slice ra (n+1) rc)).cell? ⟨b,2,none⟩=some (.int .i64 m):=by
         have:=HB5.out.set 1 (.slice ra (n+1) rc)
         exact this.cell rfl
        have f6:(w5.setCell ⟨b,1,none⟩ (.slice ra (n+1) rc)).frozen? ⟨b,2,none⟩=false:=(HB5.out.set 1 (.slice ra (n+1) rc)).free 2
        have hm63:¬ 9223372036854775807<(m:Int)+1:=by omega
        go_wp2_with fail
        go_end0
        have hMs:Mods (·=b) w5 ((w5.setCell ⟨b,1,none⟩ (.slice ra (n+1) rc)).setCell ⟨b,2,none⟩ (.int .i64 ((m:Int)+1))):=Mods.setCell (S:=(·=b)) (p:=⟨b,2,none⟩) (Mods.setCell (S:=(·=b)) (p:=⟨b,1,none⟩) (Mods.refl _ _) (fun _=>rfl) _) (fun _=>rfl) _
        have hM:Mods (·=b) W ((w5.setCell ⟨b,1,none⟩ (.slice ra (n+1) rc)).setCell ⟨b,2,none⟩ (.int .i64 ((m:Int)+1))):=((HM2.out.trans HM5.out).mono fun _ _ f=>f.elim).trans hMs
        have hrow:=HOW.out
        rw [show n+1=(N++[(s,k)]).length by simp [HNL.out],show pcells N++[.string ⟨s.toArray⟩,.int .i64 k]=pcells (N++[(s,k)]) from (pcells_append N s k).symm] at hrow
        have hNm:=nm_of_row (S:=(·=b)) hrow (fun q hq=>by have:=(hrow.lt q hq).1;simp at this;omega)
        rw [show (N++[(s,k)]).length=n+1 by simp [HNL.out]] at hNm
        exact ⟨rfl,⟨by omega,by have:=HL.out;simp;omega,fv,.slice ra (n+1) rc,by simpa using (HB5.out.set 1 (.slice ra (n+1) rc)).set 2 (.int .i64 ((m:Int)+1)),HF.out.mods hM (fun _ _ f=>f),hNm.mods hMs (fun _ _ f=>f)⟩,hM⟩
end Go.Proofs.YtnicpmoanjddbaaGreatDoor.TreeP

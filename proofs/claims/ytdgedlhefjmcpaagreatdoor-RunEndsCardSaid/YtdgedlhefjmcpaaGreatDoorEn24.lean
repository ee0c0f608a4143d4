/- CheckFinds, walked. Conditions: what both readers, and errors told, read of the package's variables lies (Lies, Laid, ErrLaid). A runner as it lies in memory; what it calls at the bottom. Conditions: what it has lies. The plain law of the machine's ops: what an op comes to, as a function of integers, and the equalities between the two ways of saying it. No program in sight. No conditions but that numbers fit their kinds. The document's two-sided ops: bloomeryref.Quo and Both. Conditions: the numbers have 64 bits. The document's runner as it lies in memory; what it calls at the bottom. Conditions: what it has lies. -/
import Derived.Test.YtdgedlhefjmcpaaGreatDoorEn18
import Derived.Test.YtdgedlhefjmcpaaGreatDoorEn23
import Derived.Test.YtdgedlhefjmcpaaGreatDoorEn20
import Derived.Test.YtdgedlhefjmcpaaGreatDoorEn02
import Derived.Laws.PanicsMore
import Derived.WalkKit
import Derived.Test.YtdgedlhefjmcpaaGreatDoorRows
import Derived.Test.YtdgedlhefjmcpaaGreatDoorEn19
import Derived.Deep.QuietTactic
import Derived.BigQuiet
import Derived.Lib.Hide
namespace Go.Proofs.YtdgedlhefjmcpaaGreatDoor.TreeP.R
open Go.RowKit Go.Proofs.YtdgedlhefjmcpaaGreatDoor.Wo Go.Proofs.YtdgedlhefjmcpaaGreatDoor.TreeP
set_option linter.unusedVariables false
set_option linter.unusedSimpArgs false
theorem str_fit {s:ByteArray} (h:s.size≤maxLen):s.data.toList.length≤9223372036854775807:=by
 unfold maxLen at h
 simpa using h
theorem few_ps:(l:List (List UInt8×Int))→l.length≤cntPs l
 | []=>Nat.le_refl _
 | [p]=>by simp [cntPs]
 | p::q::r=>by
  have h1:cntPs (p::q::r)=3+(1+cntPs (q::r)):=rfl
  have:=few_ps (q::r)
  simp only [List.length_cons] at this ⊢
  omega
theorem few_fs:{L:List Fn}→{x:Fn}→x∈L→cntF x≤cntFs L
 | a::r,x,h=>by
  simp only [cntFs]
  rcases List.mem_cons.1 h with rfl|h
  ·omega
  ·have:=few_fs h
   omega
theorem small_of {L:List Fn} (h:Prog L):Small L:=fun f hf=>by
 have h1:=h.fit f hf
 have h2:=few_ps f.params
 have h3:=few_fs hf
 have h4:=h.cnt
 have h5:cntF f=6+cntPs f.params+cntSs f.body:=rfl
 exact ⟨Nat.le_trans h1.1.2.2.2 (by decide),by omega,fun p hp=>(h1.2.1 p hp).2⟩
end Go.Proofs.YtdgedlhefjmcpaaGreatDoor.TreeP.R
namespace Go.Proofs.YtdgedlhefjmcpaaGreatDoor.TreeP
open Go.RowKit Go.Proofs.YtdgedlhefjmcpaaGreatDoor.Wo
set_option linter.unusedVariables false
set_option linter.unusedSimpArgs false
def zeroVal:Value:=.agg #[.int .i64 0,.slice none 0 0]
def zeroFn:Value:=.agg #[.string ⟨#[]⟩,.int .i64 0,.slice none 0 0,.slice none 0 0]
def VAt (A:List (Nat×Nat)) (x:V) (v:Value):Prop :=
 (x.arr=none∧v=.agg #[.int .i64 x.n,.slice none 0 0])∨∃ i g n,x.arr=some i∧A[i]?=some (g,n)∧v=.agg #[.int .i64 x.n,.slice (some ⟨g,0,none⟩) n n]
theorem VAt.more {A A':List (Nat×Nat)} {x:V} {v:Value} (h:VAt A x v) (hA:A <+: A'):VAt A' x v:=by
 rcases h with h|⟨i,g,n,h1,h2,h3⟩
 ·exact Or.inl h
 ·refine Or.inr ⟨i,g,n,h1,?_,h3⟩
  obtain ⟨t,rfl⟩:=hA
  rw [List.getElem?_append_left (List.getElem?_eq_some_iff.1 h2).1]
  exact h2
def InAt (W:World) (M:Nat→Prop) (v:Value) (l:List Int):Prop :=
 ∃ a n c,v=.slice a n c∧n=l.length∧n≤c∧c≤maxLen∧(∀ i x,l[i]?=some x→∃ g o,a=some ⟨g,o,none⟩∧¬ M g∧W.cell? ⟨g,o+i,none⟩=some (.int .i64 x))
theorem InAt.mods {W W':World} {S T:Nat→Prop} {v:Value} {l:List Int} (h:InAt W S v l) (hm:Mods S W W') (hT:∀ k,k<W.heap.size→T k→S k):InAt W' T v l:=by
 obtain ⟨a,n,c,h1,h2,h3,h4,h5⟩:=h
 refine ⟨a,n,c,h1,h2,h3,h4,fun i x hx=>?_⟩
 obtain ⟨g,o,e1,e2,e3⟩:=h5 i x hx
 exact ⟨g,o,e1,fun ht=>e2 (hT g (World.block_lt_of_cell? W _ e3) ht),hm.cellOf e3 e2⟩
def FnV (W:World) (M:Nat→Prop) (x:Fn) (v:Value):Prop :=
 ∃ p q vq,v=.agg #[str x.name,.int .i64 x.at_,p,q]∧RowAt W M 85 2 p x.params.length (pcells x.params)∧RowAt W M 143 7 q x.body.length vq∧StsAt W M x.body vq
theorem FnV.mods {W W':World} {S T:Nat→Prop} {x:Fn} {v:Value} (h:FnV W S x v) (hm:Mods S W W') (hT:∀ k,k<W.heap.size→T k→S k):FnV W' T x v:=by
 obtain ⟨p,q,vq,h1,h2,h3,h4⟩:=h
 exact ⟨p,q,vq,h1,h2.mods hm hT,h3.mods hm hT,StsAt.modsTo hm hT _ _ h4⟩
structure RAt (W:World) (b mb:Nat) (L:List Fn) (P M:Nat→Prop) (A:List (Nat×Nat)) (s:RS):Prop where
 blk:∃ iv ov,Blk W b [.map (some mb),iv,.int .i64 s.fuel,.int .i64 s.calls,ov] 105∧InAt W (fun k=>¬ P k) iv s.inp∧W.ownsRow 0 2 1 ov s.out.length (s.out.map (.int .i64))∧(∀ k,ov.ownBlock=some k→M k∧k≠b∧∀ g n,(g,n)∈A→g≠k)
 has:M b
 fns:P mb∧∃ n F,NameMap W mb n zeroFn F∧∀ f x,fnOf L f=some x→FnV W (fun k=>¬ P k) x (getL zeroFn F f)
 arrs:A.length=s.arrs.length
 arr:∀ (i:Nat) (l:List Int),s.arrs[i]?=some l→∃ g,A[i]?=some (g,l.length)∧Blk W g (l.map (.int .i64)) 2∧l.length≤40
 mine:∀ g n,(g,n)∈A→M g∧g≠b
 apart:A.Pairwise (fun x y=>x.1≠y.1)
 old:∀ k,M k→k<W.heap.size
 off:∀ k,M k→¬ P k
 given:∀ k,P k→k<W.heap.size
 few:s.out.length≤200
 calls:s.calls≤40
 fuel:s.fuel≤4000000000000000000
structure Ext (T M M':Nat→Prop) (W W':World):Prop where
 mods:Mods (fun k=>T k∨M k) W W'
 back:∀ k,k<W.heap.size→M' k→M k
theorem Ext.refl (T M:Nat→Prop) (W:World):Ext T M M W W:=⟨Mods.refl _ _,fun _ _ h=>h⟩
theorem Ext.trans {T M M' M'':Nat→Prop} {W W' W'':World} (h:Ext T M M' W W') (k:Ext T M' M'' W' W''):Ext T M M'' W W'' :=
 ⟨h.mods.trans' k.mods (fun i hi hl=>hi.imp id (h.back i hl)),fun i hi hm=>h.back i hi (k.back i (Nat.lt_of_lt_of_le hi h.mods.size) hm)⟩
theorem Ext.more {T T' M M':Nat→Prop} {W W':World} (h:Ext T M M' W W') (hT:∀ k,k<W.heap.size→T k→T' k):Ext T' M M' W W':=⟨h.mods.mono (fun k hk ht=>ht.imp (hT k hk) id),h.back⟩
theorem Ext.aside {T S M:Nat→Prop} {W W':World} (hm:Mods S W W') (hS:∀ k,k<W.heap.size→S k→T k):Ext T M M W W':=⟨hm.mono fun k hk hs=>Or.inl (hS k hk hs),fun _ _ h=>h⟩
theorem Ext.quiet {T M:Nat→Prop} {W W':World} (h:Mods None W W'):Ext T M M W W':=Ext.aside h (fun _ _ f=>f.elim)
theorem RAt.aside {W W':World} {b mb:Nat} {L:List Fn} {P M S:Nat→Prop} {A:List (Nat×Nat)} {s:RS} (h:RAt W b mb L P M A s) (hm:Mods S W W') (hS:∀ k,S k→¬ M k∧¬ P k):RAt W' b mb L P M A s:=by
 have hmP:Mods (fun k=>¬ P k) W W':=hm.mono fun k _ f=>(hS k f).2
 obtain ⟨⟨iv,ov,h1,h2,h3,h4⟩,h5,⟨h7,n,F,h6,h8⟩,h9,h10,h11,h12,h13,h17,h18,h14,h15,h16⟩:=h
 exact ⟨⟨iv,ov,h1.mods hm (fun f=>(hS _ f).1 h5),h2.mods hmP (fun _ _ k=>k),hm.ownsRow h3 (fun k hk f=>(hS _ f).1 (h4 k hk).1),h4⟩,h5,⟨h7,n,F,h6.mods hm (fun f=>(hS _ f).2 h7),fun f x hx=>(h8 f x hx).mods hmP (fun _ _ k=>k)⟩,h9,
  fun i l hl=>by obtain ⟨g,e1,e2,e3⟩:=h10 i l hl;exact ⟨g,e1,e2.mods hm (fun f=>(hS _ f).1 (h11 g _ (List.mem_of_getElem? e1)).1),e3⟩,h11,h12,fun k hk=>Nat.lt_of_lt_of_le (h13 k hk) hm.size,h17,fun k hk=>Nat.lt_of_lt_of_le (h18 k hk) hm.size,h14,h15,h16⟩
theorem RAt.quiet {W W':World} {b mb:Nat} {L:List Fn} {P M:Nat→Prop} {A:List (Nat×Nat)} {s:RS} (h:RAt W b mb L P M A s) (hm:Mods None W W'):RAt W' b mb L P M A s:=h.aside hm (fun _ f=>f.elim)
def endedV (w:Int):Value:=.iface 107 (.agg #[.int .i64 w])
def returnedV (n:Int):Value:=.iface 160 (.agg #[.int .i64 n])
def sigV:Sig→Value
 | .stop w=>endedV w
 | .ret n=>returnedV n
def Old:Type:={ l:List PanicEntry // ∀ x∈l,x.goexit=false }
def Old.nil:Old:=⟨[],fun _ h=>(by cases h)⟩
def Pan (g:Sig) (e:Ending):Prop:=∃ older:Old,e=.panicked ({ v:=sigV g,recovered:=false }::older.1)
set_option maxRecDepth 100000 in
theorem stop_any (n:Int) (W:World):Calls Tryz.prog 81 #[.int .i64 n] W fun e w=>Pan (.stop n) e∧W=w:=by
 go_enter Tryz.func81,Tryz.ntmps81
 go_wp2
 exact ⟨rfl,⟨Old.nil,rfl⟩,rfl⟩
theorem one_any (c:Bool) (W:World):Calls Tryz.prog 158 #[.bool c] W fun e w=>e=.returned (.int .i64 (oneB c))∧W=w:=by
 cases c
 all_goals
  go_enter Tryz.func158,Tryz.ntmps158
  go_wp2
  go_ret
  exact ⟨rfl,rfl⟩
def TwoTo (r:Option Int) (W:World) (e:Ending) (w:World):Prop:=(match r with
 | some n=>e=.returned (.int .i64 n)
 | none=>Pan (.stop 2) e)∧W=w
set_option maxRecDepth 100000 in
set_option maxHeartbeats 1000000 in
theorem two_any (op:List UInt8) (a b:Int) (W:World):Calls Tryz.prog 159 #[str op,.int .i64 a,.int .i64 b] W (TwoTo (twoP op a b) W):=by
 unfold str
 by_cases h:op=[43]
 ·subst h
  have ht:twoP [43] a b=some (wrap64 (a+b)):=by unfold twoP;rfl
  rw [ht]
  clear ht
  unfold TwoTo
  go_enter Tryz.func159,Tryz.ntmps159
  go_wp2
  go_ret
  exact ⟨rfl,rfl⟩
 have n43:(op==[43])=false:=by simpa using h
 clear h
 by_cases h:op=[45]
 ·subst h
  have ht:twoP [45] a b=some (wrap64 (a-b)):=by unfold twoP;rfl
  rw [ht]
  clear ht
  unfold TwoTo
  go_enter Tryz.func159,Tryz.ntmps159
  go_wp2
  go_ret
  exact ⟨rfl,rfl⟩
 have n45:(op==[45])=false:=by simpa using h
 clear h
 by_cases h:op=[42]
 ·subst h
  have ht:twoP [42] a b=some (wrap64 (a*b)):=by unfold twoP;rfl
  rw [ht]
  clear ht
  unfold TwoTo
  go_enter Tryz.func159,Tryz.ntmps159
  go_wp2
  go_ret
  exact ⟨rfl,rfl⟩
 have n42:(op==[42])=false:=by simpa using h
 clear h
 by_cases h:op=[47]
 ·subst h
  by_cases hb:b=0
  ·subst hb
   have ht:twoP [47] a 0=none:=by unfold twoP;rfl
   rw [ht]
   clear ht
   unfold TwoTo
   go_enter Tryz.func159,Tryz.ntmps159
   go_wp2_with fail
   go_at_call 81
   refine (stop_any 2 _).mono ?_
   rintro e w ⟨⟨older,rfl⟩,rfl⟩
   go_wp2
   exact ⟨rfl,⟨older,rfl⟩,rfl⟩
  ·have hb0:(b==0)=false:=by simpa using hb
   have ht:twoP [47] a b=some (wrap64 (a.tdiv b)):=by unfold twoP;rw [if_neg (by decide),if_neg (by decide),if_neg (by decide),if_pos (by decide),if_neg hb];rfl
   rw [ht]
   clear ht
   unfold TwoTo
   go_enter Tryz.func159,Tryz.ntmps159
   go_wp2
   go_ret
   exact ⟨rfl,rfl⟩
 have n47:(op==[47])=false:=by simpa using h
 clear h
 by_cases h:op=[37]
 ·subst h
  by_cases hb:b=0
  ·subst hb
   have ht:twoP [37] a 0=none:=by unfold twoP;rfl
   rw [ht]
   clear ht
   unfold TwoTo
   go_enter Tryz.func159,Tryz.ntmps159
   go_wp2_with fail
   go_at_call 81
   refine (stop_any 2 _).mono ?_
   rintro e w ⟨⟨older,rfl⟩,rfl⟩
   go_wp2
   exact ⟨rfl,⟨older,rfl⟩,rfl⟩
  ·have hb0:(b==0)=false:=by simpa using hb
   have ht:twoP [37] a b=some (a.tmod b):=by unfold twoP;rw [if_neg (by decide),if_neg (by decide),if_neg (by decide),if_pos (by decide),if_neg hb];rfl
   rw [ht]
   clear ht
   unfold TwoTo
   go_enter Tryz.func159,Tryz.ntmps159
   go_wp2
   go_ret
   exact ⟨rfl,rfl⟩
 have n37:(op==[37])=false:=by simpa using h
 clear h
 by_cases h:op=[61,61]
 ·subst h
  have ht:twoP [61,61] a b=some (oneB (a==b)):=by unfold twoP;rfl
  rw [ht]
  clear ht
  rcases hx:(a==b) with _|_
  all_goals
   unfold TwoTo
   go_enter Tryz.func159,Tryz.ntmps159
   go_wp2
   go_ret
   exact ⟨rfl,rfl⟩
 have n61_61:(op==[61,61])=false:=by simpa using h
 clear h
 by_cases h:op=[33,61]
 ·subst h
  have ht:twoP [33,61] a b=some (oneB (a != b)):=by unfold twoP;rfl
  rw [ht]
  clear ht
  rcases hx:(a != b) with _|_
  all_goals
   unfold TwoTo
   go_enter Tryz.func159,Tryz.ntmps159
   go_wp2
   go_ret
   exact ⟨rfl,rfl⟩
 have n33_61:(op==[33,61])=false:=by simpa using h
 clear h
 by_cases h:op=[60]
 ·subst h
  have ht:twoP [60] a b=some (oneB (decide (a<b))):=by unfold twoP;rfl
  rw [ht]
  clear ht
  rcases hx:(decide (a<b)) with _|_
  all_goals
   unfold TwoTo
   go_enter Tryz.func159,Tryz.ntmps159
   go_wp2
   go_ret
   exact ⟨rfl,rfl⟩
 have n60:(op==[60])=false:=by simpa using h
 clear h
 by_cases h:op=[60,61]
 ·subst h
  have ht:twoP [60,61] a b=some (oneB (decide (a≤b))):=by unfold twoP;rfl
  rw [ht]
  clear ht
  rcases hx:(decide (a≤b)) with _|_
  all_goals
   unfold TwoTo
   go_enter Tryz.func159,Tryz.ntmps159
   go_wp2
   go_ret
   exact ⟨rfl,rfl⟩
 have n60_61:(op==[60,61])=false:=by simpa using h
 clear h
 by_cases h:op=[62]
 ·subst h
  have ht:twoP [62] a b=some (oneB (decide (a > b))):=by unfold twoP;rfl
  rw [ht]
  clear ht
  rcases hx:(decide (a > b)) with _|_
  all_goals
   unfold TwoTo
   go_enter Tryz.func159,Tryz.ntmps159
   go_wp2
   go_ret
   exact ⟨rfl,rfl⟩
 have n62:(op==[62])=false:=by simpa using h
 clear h
 have ht:twoP op a b=some (oneB (decide (a≥b))):=by
  simp only [beq_eq_false_iff_ne,ne_eq] at *
  unfold twoP
  rw [if_neg n43,if_neg n45,if_neg n42,if_neg (by simp [n47,n37]),if_neg n61_61,if_neg n33_61,if_neg n60,if_neg n60_61,if_neg n62]
 rw [ht]
 clear ht
 rcases hx:(decide (a≥b)) with _|_
 all_goals
  unfold TwoTo
  go_enter Tryz.func159,Tryz.ntmps159
  go_wp2
  go_ret
  exact ⟨rfl,rfl⟩
theorem RAt.own {W W':World} {b mb:Nat} {L:List Fn} {P M:Nat→Prop} {A:List (Nat×Nat)} {s s':RS} (h:RAt W b mb L P M A s) (hm:Mods (·=b) W W') (ho:s'.out=s.out) (ha:s'.arrs=s.arrs) (hc:s'.calls≤40) (hf:s'.fuel≤4000000000000000000)
  (hb:∀ iv ov,Blk W b [.map (some mb),iv,.int .i64 s.fuel,.int .i64 s.calls,ov] 105→InAt W (fun k=>¬ P k) iv s.inp→∃ iv',Blk W' b [.map (some mb),iv',.int .i64 s'.fuel,.int .i64 s'.calls,ov] 105∧InAt W (fun k=>¬ P k) iv' s'.inp):RAt W' b mb L P M A s':=by
 obtain ⟨⟨iv,ov,h1,h2,h3,h4⟩,h5,⟨h7,n,F,h6,h8⟩,h9,h10,h11,h12,h13,h17,h18,h14,h15,h16⟩:=h
 have hmP:Mods (fun k=>¬ P k) W W':=hm.mono fun k _ hk=>by rw [hk];exact h17 b h5
 obtain ⟨iv',k1,k2⟩:=hb iv ov h1 h2
 refine ⟨⟨iv',ov,k1,k2.mods hmP (fun _ _ k=>k),?_,h4⟩,h5,⟨h7,n,F,h6.mods hm (fun e=>h17 b h5 (e ▸ h7)),fun f x hx=>(h8 f x hx).mods hmP (fun _ _ k=>k)⟩,by rw [ha];exact h9,?_,h11,h12,fun k hk=>Nat.lt_of_lt_of_le (h13 k hk) hm.size,h17,fun k hk=>Nat.lt_of_lt_of_le (h18 k hk) hm.size,by rw [ho];exact h14,hc,hf⟩
 ·rw [ho]
  exact hm.ownsRow h3 (fun k hk=>(h4 k hk).2.1)
 ·intro i l hl
  rw [ha] at hl
  obtain ⟨g,e1,e2,e3⟩:=h10 i l hl
  exact ⟨g,e1,e2.mods hm (fun e=>(h11 g _ (List.mem_of_getElem? e1)).2 e),e3⟩
theorem RAt.setFuel {W:World} {b mb:Nat} {L:List Fn} {P M:Nat→Prop} {A:List (Nat×Nat)} {s:RS} (h:RAt W b mb L P M A s) (k:Nat) (hk:k≤4000000000000000000):RAt (W.setCell ⟨b,2,none⟩ (.int .i64 k)) b mb L P M A { s with fuel:=k } :=
 h.own (mods_put _ _ _ _) rfl rfl h.calls hk (fun iv ov h1 h2=>⟨iv,h1.set 2 _,h2⟩)
theorem RAt.setCalls {W:World} {b mb:Nat} {L:List Fn} {P M:Nat→Prop} {A:List (Nat×Nat)} {s:RS} (h:RAt W b mb L P M A s) (k:Nat) (hk:k≤40):RAt (W.setCell ⟨b,3,none⟩ (.int .i64 k)) b mb L P M A { s with calls:=k } :=
 h.own (mods_put _ _ _ _) rfl rfl hk h.fuel (fun iv ov h1 h2=>⟨iv,h1.set 3 _,h2⟩)
theorem RAt.ext {W:World} {b mb:Nat} {L:List Fn} {P M:Nat→Prop} {A:List (Nat×Nat)} {s:RS} (h:RAt W b mb L P M A s) (T:Nat→Prop) (i:Nat) (v:Value):Ext T M M W (W.setCell ⟨b,i,none⟩ v) :=
 ⟨(mods_put _ _ _ _).mono (fun k _ hk=>Or.inr (by rw [hk];exact h.has)),fun _ _ k=>k⟩
def Ran {α:Type} (W:World) (b mb:Nat) (L:List Fn) (P T M:Nat→Prop) (A:List (Nat×Nat)) (ok:α→(Nat→Prop)→List (Nat×Nat)→Ending→World→Prop):Except Sig α×RS→Ending→World→Prop
 | (.error g,s)=>fun e w=>Pan g e∧∃ M' A',RAt w b mb L P M' A' s∧Ext T M M' W w∧A <+: A'
 | (.ok x,s)=>fun e w=>∃ M' A',ok x M' A' e w∧RAt w b mb L P M' A' s∧Ext T M M' W w∧A <+: A'
def retT:Unit→(Nat→Prop)→List (Nat×Nat)→Ending→World→Prop:=fun _ _ _ e _=>e=.returned (.tuple #[])
def retN:Int→(Nat→Prop)→List (Nat×Nat)→Ending→World→Prop:=fun n _ _ e _=>e=.returned (.int .i64 n)
def retV:V→(Nat→Prop)→List (Nat×Nat)→Ending→World→Prop:=fun x _ A e _=>∃ v,e=.returned v∧VAt A x v
set_option maxRecDepth 100000 in
theorem step_any (T:Nat→Prop) (b mb:Nat) (L:List Fn) (P M:Nat→Prop) (A:List (Nat×Nat)) (s:RS) (W:World) (r:Except Sig Unit×RS) (h:RAt W b mb L P M A s) (hr:stepR s=some r) :
  Calls Tryz.prog 138 #[.pointer (some ⟨b,0,none⟩)] W (Ran W b mb L P T M A retT r):=by
 obtain ⟨iv,ov,hb,_⟩:=h.blk
 have c2:W.cell? ⟨b,2,none⟩=some (.int .i64 s.fuel):=hb.cell rfl
 have f2:W.frozen? ⟨b,2,none⟩=false:=hb.free 2
 have H:=hiD h
 unfold stepR at hr
 by_cases h0:s.fuel=0
 ·rw [if_pos h0] at hr
  obtain rfl:=(Option.some.inj hr).symm
  rw [h0] at c2
  clear h hb hr
  unfold Ran
  go_enter Tryz.func138,Tryz.ntmps138
  go_wp2_with fail
  go_at_call 81
  refine (stop_any 6 _).mono ?_
  rintro e w ⟨⟨older,rfl⟩,rfl⟩
  go_wp2
  exact ⟨rfl,⟨older,rfl⟩,M,A,H.out,Ext.refl _ _ _,List.prefix_refl _⟩
 ·rw [if_neg h0] at hr
  obtain rfl:=(Option.some.inj hr).symm
  have hf:=h.fuel
  have h0i:((s.fuel:Int)==0)=false:=by simp;omega
  have hcast:Hid ((s.fuel:Int)-1=((s.fuel-1:Nat):Int)):=hiD (by omega)
  have hs1:¬ ((s.fuel:Int)-1 < -9223372036854775808):=by omega
  clear h hb hr
  unfold Ran
  go_enter Tryz.func138,Tryz.ntmps138
  go_wp2_with fail
  go_end0
  rw [hcast.out]
  exact ⟨M,A,rfl,H.out.setFuel _ (by omega),H.out.ext _ _ _,List.prefix_refl _⟩
theorem place_out (q n:Nat) (i:Int) (W:World) (hn:n≤40) (h:i<0∨(n:Int)≤i) :
  Calls Tryz.prog 140 #[.slice (some ⟨q,0,none⟩) n n,.int .i64 i] W fun e w=>Pan (.stop 3) e∧W=w:=by
 by_cases h0:i<0
 ·clear h
  go_enter Tryz.func140,Tryz.ntmps140
  go_wp2_with fail
  go_at_call 81
  refine (stop_any 3 _).mono ?_
  rintro e w ⟨⟨older,rfl⟩,rfl⟩
  go_wp2
  exact ⟨rfl,⟨older,rfl⟩,rfl⟩
 ·have h1:(n:Int)≤i:=by omega
  clear h
  go_enter Tryz.func140,Tryz.ntmps140
  go_wp2_with fail
  go_at_call 81
  refine (stop_any 3 _).mono ?_
  rintro e w ⟨⟨older,rfl⟩,rfl⟩
  go_wp2
  exact ⟨rfl,⟨older,rfl⟩,rfl⟩
theorem place_in (q n:Nat) (i:Int) (W:World) (hn:n≤40) (hi0:0≤i) (hi1:i<n) :
  Calls Tryz.prog 140 #[.slice (some ⟨q,0,none⟩) n n,.int .i64 i] W fun e w=>e=.returned (.pointer (some ⟨q,i.toNat,none⟩))∧W=w:=by
 have h0:¬ i<0:=by omega
 have h1:¬ (n:Int)≤i:=by omega
 go_enter Tryz.func140,Tryz.ntmps140
 go_wp2_with fail
 go_ret
 exact ⟨by simp,rfl⟩
set_option maxRecDepth 100000 in
theorem place_none (i:Int) (W:World) :
  Calls Tryz.prog 140 #[.slice none 0 0,.int .i64 i] W fun e w=>Pan (.stop 3) e∧W=w:=by
 by_cases h0:i<0
 ·go_enter Tryz.func140,Tryz.ntmps140
  go_wp2_with fail
  go_at_call 81
  refine (stop_any 3 _).mono ?_
  rintro e w ⟨⟨older,rfl⟩,rfl⟩
  go_wp2
  exact ⟨rfl,⟨older,rfl⟩,rfl⟩
 ·have h1:(0:Int)≤i:=by omega
  go_enter Tryz.func140,Tryz.ntmps140
  go_wp2_with fail
  go_at_call 81
  refine (stop_any 3 _).mono ?_
  rintro e w ⟨⟨older,rfl⟩,rfl⟩
  go_wp2
  exact ⟨rfl,⟨older,rfl⟩,rfl⟩
end Go.Proofs.YtdgedlhefjmcpaaGreatDoor.TreeP
namespace Go.Proofs.YtdgedlhefjmcpaaGreatDoor.AluP
open Go.RowKit
def I64 (a:Int):Prop:=-9223372036854775808≤a∧a≤9223372036854775807
theorem i64_in {a:Int} (h:I64 a):IntKind.i64.wrap a=a:=IntWalk.i64_in a h
theorem wrap_eq (a:Int):IntKind.i64.wrap a=(a+9223372036854775808) % 18446744073709551616-9223372036854775808:=IntKind.wrap_i64 a
theorem wrap_congr {a b:Int} (h:a % 18446744073709551616=b % 18446744073709551616):IntKind.i64.wrap a=IntKind.i64.wrap b:=by
 rw [wrap_eq,wrap_eq];omega
/-! ### Shifts,round by round -/
def hlv:Nat→Int→Int
 | 0,a=>a
 | n+1,a=>hlv n (a / 2)
/-! ### The quotient,and what is left,by numbers without signs -/
def ab (a:Int):Int:=if a<0 then IntKind.u64.wrap (-(IntKind.u64.wrap a)) else IntKind.u64.wrap a
theorem ab_eq (a:Int) (h:I64 a):ab a=a.natAbs:=by
 unfold ab I64 at *;rw [IntKind.wrap_u64,IntKind.wrap_u64];split <;> omega
def qq (a b:Int):Int :=
 if (decide (a<0) != decide (b<0)) then IntKind.i64.wrap (-(IntKind.i64.wrap (IntKind.u64.wrap ((ab a).tdiv (ab b))))) else IntKind.i64.wrap (IntKind.u64.wrap ((ab a).tdiv (ab b)))
def rr (a b:Int):Int :=
 if a<0 then IntKind.i64.wrap (-(IntKind.i64.wrap ((ab a).tmod (ab b)))) else IntKind.i64.wrap ((ab a).tmod (ab b))
theorem wrap_neg_wrap (a:Int):IntKind.i64.wrap (-(IntKind.i64.wrap a))=IntKind.i64.wrap (-a):=by
 apply wrap_congr;rw [wrap_eq];omega
theorem tdiv_abs (a b:Int):a.tdiv b=if (decide (a<0) != decide (b<0)) then -((a.natAbs:Int).tdiv b.natAbs) else (a.natAbs:Int).tdiv b.natAbs:=by
 rcases Int.lt_or_le a 0 with ha|ha <;> rcases Int.lt_or_le b 0 with hb|hb
 ·have e1:(a.natAbs:Int)=-a:=by omega
  have e2:(b.natAbs:Int)=-b:=by omega
  rw [e1,e2,Int.neg_tdiv,Int.tdiv_neg];simp [ha,hb]
 ·have e1:(a.natAbs:Int)=-a:=by omega
  have e2:(b.natAbs:Int)=b:=by omega
  rw [e1,e2,Int.neg_tdiv];simp [ha,Int.not_lt.2 hb]
 ·have e1:(a.natAbs:Int)=a:=by omega
  have e2:(b.natAbs:Int)=-b:=by omega
  rw [e1,e2,Int.tdiv_neg];simp [hb,Int.not_lt.2 ha]
 ·have e1:(a.natAbs:Int)=a:=by omega
  have e2:(b.natAbs:Int)=b:=by omega
  rw [e1,e2];simp [Int.not_lt.2 ha,Int.not_lt.2 hb]
theorem tmod_abs (a b:Int):a.tmod b=if a<0 then -((a.natAbs:Int).tmod b.natAbs) else (a.natAbs:Int).tmod b.natAbs:=by
 have hb:∀ x:Int,x.tmod b.natAbs=x.tmod b:=by
  intro x
  rcases Int.natAbs_eq b with h|h
  ·rw [← h]
  ·have:(b.natAbs:Int)=-b:=by omega
   rw [this,Int.tmod_neg]
 rw [hb]
 split
 ·rename_i h
  have:(a.natAbs:Int)=-a:=by omega
  rw [this,Int.neg_tmod];simp
 ·have:(a.natAbs:Int)=a:=by omega
  rw [this]
theorem nat_tdiv_le (x y:Nat):0≤((x:Int).tdiv y)∧((x:Int).tdiv y)≤x:=by
 have:=Nat.div_le_self x y
 exact ⟨Int.natCast_nonneg (x / y),Int.ofNat_le.2 this⟩
theorem nat_tmod_le (x y:Nat):0≤((x:Int).tmod y)∧((x:Int).tmod y)≤x:=by
 have:=Nat.mod_le x y
 exact ⟨Int.natCast_nonneg (x % y),Int.ofNat_le.2 this⟩
theorem qq_eq (a b:Int) (ha:I64 a) (hb:I64 b):qq a b=IntKind.i64.wrap (a.tdiv b):=by
 unfold qq
 rw [ab_eq a ha,ab_eq b hb,tdiv_abs a b,wrap_neg_wrap]
 have hq:=nat_tdiv_le a.natAbs b.natAbs
 have:IntKind.u64.wrap ((a.natAbs:Int).tdiv b.natAbs)=(a.natAbs:Int).tdiv b.natAbs:=by
  rw [IntKind.wrap_u64];unfold I64 at ha;omega
 rw [this]
 split <;> rfl
theorem tmod_in (a b:Int) (ha:I64 a):I64 (a.tmod b):=by
 rw [tmod_abs]
 have hr:=nat_tmod_le a.natAbs b.natAbs
 unfold I64 at *
 split <;> omega
theorem rr_eq (a b:Int) (ha:I64 a) (hb:I64 b):rr a b=a.tmod b:=by
 unfold rr
 rw [ab_eq a ha,ab_eq b hb,wrap_neg_wrap]
 have:=tmod_in a b ha
 have e:=tmod_abs a b
 have hr:=nat_tmod_le a.natAbs b.natAbs
 split
 ·rename_i h;rw [if_pos h] at e;rw [← e,i64_in this]
 ·rename_i h;rw [if_neg h] at e;rw [← e,i64_in this]
end Go.Proofs.YtdgedlhefjmcpaaGreatDoor.AluP
namespace Go.Proofs.YtdgedlhefjmcpaaGreatDoor.TreeP.R
open Go.RowKit Go.Proofs.YtdgedlhefjmcpaaGreatDoor.Wo Go.Proofs.YtdgedlhefjmcpaaGreatDoor.TreeP Go.Proofs.YtdgedlhefjmcpaaGreatDoor.AluP
set_option linter.unusedVariables false
set_option linter.unusedSimpArgs false
theorem ab_ne (b:Int) (hb:I64 b) (h:¬ b=0):¬ ab b=0:=by rw [ab_eq b hb];omega
theorem ret_two {k k':IntKind} {a b a' b':Int} (h:a=b) (h':a'=b'):Ending.returned (.tuple #[.int k a,.int k' a'])=.returned (.tuple #[.int k b,.int k' b']):=by rw [h,h']
theorem quo_zero (a:Int) (w:World) :
  Calls Tryz.prog 178 #[.int .i64 a,.int .i64 0] w fun e w'=>e=.returned (.tuple #[.int .i64 (-1),.int .i64 a])∧Mods None w w':=by
 go_enter Tryz.func178,Tryz.ntmps178
 go_wp2
 go_ret2
 exact ⟨rfl,Mods.refl _ _⟩
set_option maxRecDepth 100000 in
set_option maxHeartbeats 4000000 in
theorem quo_any (a b:Int) (ha:I64 a) (hb:I64 b) (h:¬ b=0) (w:World) :
  Calls Tryz.prog 178 #[.int .i64 a,.int .i64 b] w fun e w'=>e=.returned (.tuple #[.int .i64 (qq a b),.int .i64 (rr a b)])∧Mods None w w':=by
 have hz:(b==0)=false:=by simpa using h
 have hy:=ab_ne b hb h
 clear ha hb h
 unfold ab at hy
 by_cases h1:a<0 <;> by_cases h2:b<0 <;> simp only [h2,if_true,if_false] at hy
 all_goals
  first|(have d1:decide (a<0)=true:=decide_eq_true h1)|(have d1:decide (a<0)=false:=decide_eq_false h1)
  first|(have d2:decide (b<0)=true:=decide_eq_true h2)|(have d2:decide (b<0)=false:=decide_eq_false h2)
  go_enter Tryz.func178,Tryz.ntmps178
  go_wp2
  go_quiet (fail)
  go_wp2
  go_ret2
  refine ⟨ret_two ?_ ?_,(Mods.refl _ _).drewN _⟩
  ·simp only [qq,ab,d1,d2,IntWalk.i64_left,bne_self_eq_false,Bool.true_bne,Bool.false_bne,Bool.not_false,if_true,Bool.false_eq_true,if_false]
   (repeat' split) <;> first|rfl|(exfalso;omega)
  ·simp only [rr,ab,IntWalk.i64_left]
   (repeat' split) <;> first|rfl|(exfalso;omega)
def bothV:Option Int→Value
 | some n=>.tuple #[.int .i64 n,.int .i64 0]
 | none=>.tuple #[.int .i64 0,.int .i64 2]
set_option maxRecDepth 100000 in
set_option maxHeartbeats 4000000 in
theorem both_any (op:List UInt8) (a b:Int) (ha:I64 a) (hb:I64 b) (hop:∃ k,2≤k∧k<6∧op∈levelList.getD k []) (W:World) :
  Calls Tryz.prog 166 #[str op,.int .i64 a,.int .i64 b] W fun e w=>e=.returned (bothV (twoP op a b))∧Mods None W w:=by
 unfold str
 have hc:op=[61,61]∨op=[33,61]∨op=[60]∨op=[60,61]∨op=[62]∨op=[62,61]∨op=[43]∨op=[45]∨op=[42]∨op=[47]∨op=[37]:=by
  obtain ⟨k,h2,h6,hk⟩:=hop
  obtain rfl|rfl|rfl|rfl:k=2∨k=3∨k=4∨k=5:=by omega
  all_goals
   simp [levelList] at hk
   first
    | (rcases hk with h|h <;> simp [h];done)
    | (rcases hk with h|h|h <;> simp [h];done)
    | (rcases hk with h|h|h|h <;> simp [h];done)
 clear hop
 rcases hc with rfl|rfl|rfl|rfl|rfl|rfl|rfl|rfl|rfl|rfl|rfl
 ·have ht:twoP [61,61] a b=some (oneB (a==b)):=by unfold twoP;rfl
  by_cases h:a=b
  ·have hd:(a==b)=true:=by simpa using h
   have hv:oneB (a==b)=1:=by simp [oneB];omega
   rw [ht,hv]
   clear ht hv h
   go_enter Tryz.func166,Tryz.ntmps166
   go_wp2
   go_ret2
   exact ⟨rfl,Mods.refl _ _⟩
  ·have hd:(a==b)=false:=by simpa using h
   have hv:oneB (a==b)=0:=by simp [oneB];omega
   rw [ht,hv]
   clear ht hv h
   go_enter Tryz.func166,Tryz.ntmps166
   go_wp2
   go_ret2
   exact ⟨rfl,Mods.refl _ _⟩
 ·have ht:twoP [33,61] a b=some (oneB (a != b)):=by unfold twoP;rfl
  by_cases h:a=b
  ·have hd:(a==b)=true:=by simpa using h
   have hv:oneB (a != b)=0:=by simp [oneB];omega
   rw [ht,hv]
   clear ht hv h
   go_enter Tryz.func166,Tryz.ntmps166
   go_wp2
   go_ret2
   exact ⟨rfl,Mods.refl _ _⟩
  ·have hd:(a==b)=false:=by simpa using h
   have hv:oneB (a != b)=1:=by simp [oneB];omega
   rw [ht,hv]
   clear ht hv h
   go_enter Tryz.func166,Tryz.ntmps166
   go_wp2
   go_ret2
   exact ⟨rfl,Mods.refl _ _⟩
 ·have ht:twoP [60] a b=some (oneB (decide (a<b))):=by unfold twoP;rfl
  by_cases h:a<b
  ·have hd:decide (a<b)=true:=by simpa using h
   have hd2:(a<b):=h
   have hv:oneB (decide (a<b))=1:=by simp [oneB];omega
   rw [ht,hv]
   clear ht hv h
   go_enter Tryz.func166,Tryz.ntmps166
   go_wp2
   go_ret2
   exact ⟨rfl,Mods.refl _ _⟩
  ·have hd:decide (a<b)=false:=by simpa using h
   have hd2:¬ (a<b):=h
   have hv:oneB (decide (a<b))=0:=by simp [oneB];omega
   rw [ht,hv]
   clear ht hv h
   go_enter Tryz.func166,Tryz.ntmps166
   go_wp2
   go_ret2
   exact ⟨rfl,Mods.refl _ _⟩
 ·have ht:twoP [60,61] a b=some (oneB (decide (a≤b))):=by unfold twoP;rfl
  by_cases h:b<a
  ·have hd:decide (b<a)=true:=by simpa using h
   have hd2:(b<a):=h
   have hv:oneB (decide (a≤b))=0:=by simp [oneB];omega
   rw [ht,hv]
   clear ht hv h
   go_enter Tryz.func166,Tryz.ntmps166
   go_wp2
   go_ret2
   exact ⟨rfl,Mods.refl _ _⟩
  ·have hd:decide (b<a)=false:=by simpa using h
   have hd2:¬ (b<a):=h
   have hv:oneB (decide (a≤b))=1:=by simp [oneB];omega
   rw [ht,hv]
   clear ht hv h
   go_enter Tryz.func166,Tryz.ntmps166
   go_wp2
   go_ret2
   exact ⟨rfl,Mods.refl _ _⟩
 ·have ht:twoP [62] a b=some (oneB (decide (a > b))):=by unfold twoP;rfl
  by_cases h:b<a
  ·have hd:decide (b<a)=true:=by simpa using h
   have hd2:(b<a):=h
   have hv:oneB (decide (a > b))=1:=by simp [oneB];omega
   rw [ht,hv]
   clear ht hv h
   go_enter Tryz.func166,Tryz.ntmps166
   go_wp2
   go_ret2
   exact ⟨rfl,Mods.refl _ _⟩
  ·have hd:decide (b<a)=false:=by simpa using h
   have hd2:¬ (b<a):=h
   have hv:oneB (decide (a > b))=0:=by simp [oneB];omega
   rw [ht,hv]
   clear ht hv h
   go_enter Tryz.func166,Tryz.ntmps166
   go_wp2
   go_ret2
   exact ⟨rfl,Mods.refl _ _⟩
 ·have ht:twoP [62,61] a b=some (oneB (decide (a≥b))):=by unfold twoP;rfl
  by_cases h:a<b
  ·have hd:decide (a<b)=true:=by simpa using h
   have hd2:(a<b):=h
   have hv:oneB (decide (a≥b))=0:=by simp [oneB];omega
   rw [ht,hv]
   clear ht hv h
   go_enter Tryz.func166,Tryz.ntmps166
   go_wp2
   go_ret2
   exact ⟨rfl,Mods.refl _ _⟩
  ·have hd:decide (a<b)=false:=by simpa using h
   have hd2:¬ (a<b):=h
   have hv:oneB (decide (a≥b))=1:=by simp [oneB];omega
   rw [ht,hv]
   clear ht hv h
   go_enter Tryz.func166,Tryz.ntmps166
   go_wp2
   go_ret2
   exact ⟨rfl,Mods.refl _ _⟩
 ·have ht:twoP [43] a b=some (wrap64 (a+b)):=by unfold twoP;rfl
  rw [ht]
  clear ht
  go_enter Tryz.func166,Tryz.ntmps166
  go_wp2
  go_ret2
  exact ⟨rfl,Mods.refl _ _⟩
 ·have ht:twoP [45] a b=some (wrap64 (a-b)):=by unfold twoP;rfl
  rw [ht]
  clear ht
  go_enter Tryz.func166,Tryz.ntmps166
  go_wp2
  go_ret2
  exact ⟨rfl,Mods.refl _ _⟩
 ·have ht:twoP [42] a b=some (wrap64 (a*b)):=by unfold twoP;rfl
  rw [ht]
  clear ht
  go_enter Tryz.func166,Tryz.ntmps166
  go_wp2
  go_ret2
  exact ⟨rfl,Mods.refl _ _⟩
 ·by_cases hz:b=0
  ·subst hz
   have ht:twoP [47] a 0=none:=by unfold twoP;rfl
   rw [ht]
   clear ht
   go_enter Tryz.func166,Tryz.ntmps166
   go_wp2_with fail
   go_at_call 178
   refine (quo_zero a W).mono ?_
   rintro e w ⟨rfl,hm⟩
   go_wp2
   go_ret2
   exact ⟨rfl,hm⟩
  ·have hb0:(b==0)=false:=by simpa using hz
   have ht:twoP [47] a b=some (wrap64 (a.tdiv b)):=by unfold twoP;rw [if_neg (by decide),if_neg (by decide),if_neg (by decide),if_pos (by decide),if_neg hz];rfl
   rw [ht]
   clear ht
   have hqa:=qq_eq a b ha hb
   have hra:=rr_eq a b ha hb
   have HQ:=hiD (quo_any a b ha hb hz W)
   clear hqa hra
   go_enter Tryz.func166,Tryz.ntmps166
   go_wp2_with fail
   go_at_call 178
   refine HQ.out.mono ?_
   rintro e w ⟨rfl,hm⟩
   go_wp2
   go_ret2
   refine ⟨?_,hm⟩
   show Ending.returned (.tuple #[.int .i64 (qq a b),.int .i64 0])=_
   rw [qq_eq a b ha hb]
   first
    | rfl
    | simp [bothV,wrap64,IntKind.wrap_i64]
 ·by_cases hz:b=0
  ·subst hz
   have ht:twoP [37] a 0=none:=by unfold twoP;rfl
   rw [ht]
   clear ht
   go_enter Tryz.func166,Tryz.ntmps166
   go_wp2_with fail
   go_at_call 178
   refine (quo_zero a W).mono ?_
   rintro e w ⟨rfl,hm⟩
   go_wp2
   go_ret2
   exact ⟨rfl,hm⟩
  ·have hb0:(b==0)=false:=by simpa using hz
   have ht:twoP [37] a b=some (a.tmod b):=by unfold twoP;rw [if_neg (by decide),if_neg (by decide),if_neg (by decide),if_pos (by decide),if_neg hz];rfl
   rw [ht]
   clear ht
   have hqa:=qq_eq a b ha hb
   have hra:=rr_eq a b ha hb
   have HQ:=hiD (quo_any a b ha hb hz W)
   clear hqa hra
   go_enter Tryz.func166,Tryz.ntmps166
   go_wp2_with fail
   go_at_call 178
   refine HQ.out.mono ?_
   rintro e w ⟨rfl,hm⟩
   go_wp2
   go_ret2
   refine ⟨?_,hm⟩
   show Ending.returned (.tuple #[.int .i64 (rr a b),.int .i64 0])=_
   rw [rr_eq a b ha hb]
   first
    | rfl
    | simp [bothV,wrap64,IntKind.wrap_i64]
end Go.Proofs.YtdgedlhefjmcpaaGreatDoor.TreeP.R
namespace Go.Proofs.YtdgedlhefjmcpaaGreatDoor.TreeP.R
open Go.RowKit Go.Proofs.YtdgedlhefjmcpaaGreatDoor.Wo Go.Proofs.YtdgedlhefjmcpaaGreatDoor.TreeP
set_option linter.unusedVariables false
set_option linter.unusedSimpArgs false
def arrV (p:Nat×Nat):Value:=.slice (some ⟨p.1,0,none⟩) p.2 p.2
def Mine (M:Nat→Prop) (b:Nat) (A:List (Nat×Nat)) (v:Value):Prop:=∀ k,v.ownBlock=some k→M k∧k≠b∧∀ g n,(g,n)∈A→g≠k
structure WAt (W:World) (b:Nat) (P M:Nat→Prop) (A:List (Nat×Nat)) (s:RS):Prop where
 blk:∃ av iv k ov,Blk W b [av,iv,.int .i64 k,.int .i64 s.calls,.int .i64 0,.int .i64 0,ov] 129∧(s.fuel=k.toNat∧-9223372036854775808≤k∧k≤4000000000000000000)∧TreeP.InAt W (fun k=>¬ P k) iv s.inp∧W.ownsRow 0 2 1 ov s.out.length (s.out.map (.int .i64))∧Mine M b A ov∧W.ownsRow 0 46 1 av (A.length+1) (.slice none 0 0::A.map arrV)∧Mine M b A av∧(∀ k,av.ownBlock=some k→ov.ownBlock≠some k)
 has:M b
 arrs:A.length=s.arrs.length
 arr:∀ (i:Nat) (l:List Int),s.arrs[i]?=some l→∃ g,A[i]?=some (g,l.length)∧Blk W g (l.map (.int .i64)) 2∧l.length≤40
 mine:∀ g n,(g,n)∈A→M g∧g≠b
 apart:A.Pairwise (fun x y=>x.1≠y.1)
 old:∀ k,M k→k<W.heap.size
 off:∀ k,M k→¬ P k
 given:∀ k,P k→k<W.heap.size
 few:s.out.length≤200
 calls:s.calls≤40
structure WEnd (W:World) (b:Nat) (P M:Nat→Prop) (way:Int) (out:List Int):Prop where
 blk:∃ av iv k c ov m r,Blk W b [av,iv,.int .i64 k,.int .i64 c,.int .i64 way,.int .i64 0,ov] 129∧W.ownsRow 0 2 1 ov out.length (out.map (.int .i64))∧(∀ k,ov.ownBlock=some k→M k∧k≠b)∧W.ownsRow 0 46 1 av (m+1) (.slice none 0 0::r)∧(∀ k,av.ownBlock=some k→M k∧k≠b)
 has:M b
 old:∀ k,M k→k<W.heap.size
 off:∀ k,M k→¬ P k
 given:∀ k,P k→k<W.heap.size
 few:out.length≤200
 way:2≤way∧way≤7
theorem WAt.aside {W W':World} {b:Nat} {P M S:Nat→Prop} {A:List (Nat×Nat)} {s:RS} (h:WAt W b P M A s) (hm:Mods S W W') (hS:∀ k,S k→¬ M k∧¬ P k):WAt W' b P M A s:=by
 have hmP:Mods (fun k=>¬ P k) W W':=hm.mono fun k _ f=>(hS k f).2
 obtain ⟨av,iv,k,ov,h1,h2,h3,h4,h5,h6,h7,h8⟩:=h.blk
 exact ⟨⟨av,iv,k,ov,h1.mods hm (fun f=>(hS _ f).1 h.has),h2,h3.mods hmP (fun _ _ k=>k),hm.ownsRow h4 (fun k hk f=>(hS _ f).1 (h5 k hk).1),h5,hm.ownsRow h6 (fun k hk f=>(hS _ f).1 (h7 k hk).1),h7,h8⟩,h.has,h.arrs,
  fun i l hl=>by obtain ⟨g,e1,e2,e3⟩:=h.arr i l hl;exact ⟨g,e1,e2.mods hm (fun f=>(hS _ f).1 (h.mine g _ (List.mem_of_getElem? e1)).1),e3⟩,h.mine,h.apart,fun k hk=>Nat.lt_of_lt_of_le (h.old k hk) hm.size,h.off,fun k hk=>Nat.lt_of_lt_of_le (h.given k hk) hm.size,h.few,h.calls⟩
theorem WAt.quiet {W W':World} {b:Nat} {P M:Nat→Prop} {A:List (Nat×Nat)} {s:RS} (h:WAt W b P M A s) (hm:Mods None W W'):WAt W' b P M A s:=h.aside hm (fun _ f=>f.elim)
theorem WEnd.aside {W W':World} {b:Nat} {P M S:Nat→Prop} {way:Int} {out:List Int} (h:WEnd W b P M way out) (hm:Mods S W W') (hS:∀ k,S k→¬ M k):WEnd W' b P M way out:=by
 obtain ⟨av,iv,k,c,ov,m,r,h1,h4,h5,h6,h7⟩:=h.blk
 exact ⟨⟨av,iv,k,c,ov,m,r,h1.mods hm (fun f=>hS _ f h.has),hm.ownsRow h4 (fun k hk f=>hS _ f (h5 k hk).1),h5,hm.ownsRow h6 (fun k hk f=>hS _ f (h7 k hk).1),h7⟩,h.has,fun k hk=>Nat.lt_of_lt_of_le (h.old k hk) hm.size,h.off,fun k hk=>Nat.lt_of_lt_of_le (h.given k hk) hm.size,h.few,h.way⟩
theorem WEnd.quiet {W W':World} {b:Nat} {P M:Nat→Prop} {way:Int} {out:List Int} (h:WEnd W b P M way out) (hm:Mods None W W'):WEnd W' b P M way out:=h.aside hm (fun _ f=>f.elim)
theorem WAt.own {W W':World} {b:Nat} {P M:Nat→Prop} {A:List (Nat×Nat)} {s s':RS} (h:WAt W b P M A s) (hm:Mods (·=b) W W') (ho:s'.out=s.out) (ha:s'.arrs=s.arrs) (hc:s'.calls≤40)
  (hb:∀ av iv k ov,Blk W b [av,iv,.int .i64 k,.int .i64 s.calls,.int .i64 0,.int .i64 0,ov] 129→(s.fuel=k.toNat∧-9223372036854775808≤k∧k≤4000000000000000000)→TreeP.InAt W (fun k=>¬ P k) iv s.inp→∃ iv' k',Blk W' b [av,iv',.int .i64 k',.int .i64 s'.calls,.int .i64 0,.int .i64 0,ov] 129∧(s'.fuel=k'.toNat∧-9223372036854775808≤k'∧k'≤4000000000000000000)∧TreeP.InAt W (fun k=>¬ P k) iv' s'.inp):WAt W' b P M A s':=by
 obtain ⟨av,iv,k,ov,h1,h2,h3,h4,h5,h6,h7,h8⟩:=h.blk
 have hmP:Mods (fun k=>¬ P k) W W':=hm.mono fun k _ hk=>by rw [hk];exact h.off b h.has
 obtain ⟨iv',k',k1,k2,k3⟩:=hb av iv k ov h1 h2 h3
 refine ⟨⟨av,iv',k',ov,k1,k2,k3.mods hmP (fun _ _ k=>k),?_,h5,hm.ownsRow h6 (fun k hk=>(h7 k hk).2.1),h7,h8⟩,h.has,by rw [ha];exact h.arrs,?_,h.mine,h.apart,fun k hk=>Nat.lt_of_lt_of_le (h.old k hk) hm.size,h.off,fun k hk=>Nat.lt_of_lt_of_le (h.given k hk) hm.size,by rw [ho];exact h.few,hc⟩
 ·rw [ho]
  exact hm.ownsRow h4 (fun k hk=>(h5 k hk).2.1)
 ·intro i l hl
  rw [ha] at hl
  obtain ⟨g,e1,e2,e3⟩:=h.arr i l hl
  exact ⟨g,e1,e2.mods hm (fun e=>(h.mine g _ (List.mem_of_getElem? e1)).2 e),e3⟩
theorem WAt.setFuel {W:World} {b:Nat} {P M:Nat→Prop} {A:List (Nat×Nat)} {s:RS} (h:WAt W b P M A s) (k:Int) (hk:-9223372036854775808≤k∧k≤4000000000000000000):WAt (W.setCell ⟨b,2,none⟩ (.int .i64 k)) b P M A { s with fuel:=k.toNat } :=
 h.own (mods_put _ _ _ _) rfl rfl h.calls (fun av iv k0 ov h1 h2 h3=>⟨iv,k,h1.set 2 _,⟨rfl,hk⟩,h3⟩)
theorem WAt.setCalls {W:World} {b:Nat} {P M:Nat→Prop} {A:List (Nat×Nat)} {s:RS} (h:WAt W b P M A s) (k:Nat) (hk:k≤40):WAt (W.setCell ⟨b,3,none⟩ (.int .i64 k)) b P M A { s with calls:=k } :=
 h.own (mods_put _ _ _ _) rfl rfl hk (fun av iv k0 ov h1 h2 h3=>⟨iv,k0,h1.set 3 _,h2,h3⟩)
theorem WAt.ends {W:World} {b:Nat} {P M:Nat→Prop} {A:List (Nat×Nat)} {s:RS} (h:WAt W b P M A s) (way:Int) (hw:2≤way∧way≤7):WEnd (W.setCell ⟨b,4,none⟩ (.int .i64 way)) b P M way s.out:=by
 obtain ⟨av,iv,k,ov,h1,h2,h3,h4,h5,h6,h7,h8⟩:=h.blk
 have hm:=mods_put W b 4 (.int .i64 way)
 exact ⟨⟨av,iv,k,s.calls,ov,A.length,A.map arrV,h1.set 4 _,hm.ownsRow h4 (fun k hk=>(h5 k hk).2.1),fun k hk=>⟨(h5 k hk).1,(h5 k hk).2.1⟩,hm.ownsRow h6 (fun k hk=>(h7 k hk).2.1),fun k hk=>⟨(h7 k hk).1,(h7 k hk).2.1⟩⟩,h.has,fun k hk=>Nat.lt_of_lt_of_le (h.old k hk) hm.size,h.off,fun k hk=>Nat.lt_of_lt_of_le (h.given k hk) hm.size,h.few,hw⟩
theorem WAt.ext {W:World} {b:Nat} {P M:Nat→Prop} {A:List (Nat×Nat)} {s:RS} (h:WAt W b P M A s) (T:Nat→Prop) (i:Nat) (v:Value):Ext T M M W (W.setCell ⟨b,i,none⟩ v) :=
 ⟨(mods_put _ _ _ _).mono (fun k _ hk=>Or.inr (by rw [hk];exact h.has)),fun _ _ k=>k⟩
def Zan {α:Type} (W:World) (b:Nat) (P T M:Nat→Prop) (A:List (Nat×Nat)) (ok:α→List (Nat×Nat)→Ending→Prop) (no:Ending→Prop):Except Sig α×RS→Ending→World→Prop
 | (.error (.stop n),s)=>fun e w=>no e∧∃ M',WEnd w b P M' n s.out∧Ext T M M' W w
 | (.error (.ret _),_)=>fun _ _=>False
 | (.ok x,s)=>fun e w=>∃ M' A',ok x A' e∧WAt w b P M' A' s∧Ext T M M' W w∧A <+: A'
theorem ends_any (way:Int) (hw:2≤way∧way≤7) (b:Nat) (P M:Nat→Prop) (A:List (Nat×Nat)) (s:RS) (W:World) (h:WAt W b P M A s) :
  Calls Tryz.prog 124 #[.pointer (some ⟨b,0,none⟩),.int .i64 way] W fun e w=>e=.returned (.tuple #[])∧WEnd w b P M way s.out∧∀ T,Ext T M M W w:=by
 obtain ⟨av,iv,k,ov,hb,-⟩:=h.blk
 have f4:W.frozen? ⟨b,4,none⟩=false:=hb.free 4
 have c4:W.cell? ⟨b,4,none⟩=some (.int .i64 0):=hb.cell rfl
 have H:=hiD h
 have HW:=hiD hw
 clear h hb hw
 go_enter Tryz.func124,Tryz.ntmps124
 go_wp2_with fail
 go_end0
 exact ⟨rfl,H.out.ends way HW.out,fun T=>H.out.ext _ _ _⟩
end Go.Proofs.YtdgedlhefjmcpaaGreatDoor.TreeP.R

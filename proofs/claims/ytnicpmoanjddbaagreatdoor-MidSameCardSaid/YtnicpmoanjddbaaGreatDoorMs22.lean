/- copy of elements of several cells, as a law for the walk. No program in sight. No conditions. Steps, plainly: more fuel is no other road; rounds enough. No program in sight. No conditions. Functions of steps as arguments: opened to lists. No conditions. A call of mid's runner: its state, what is handed over. Conditions: what it has lies. -/
import Derived.Laws.CopyOwn
import Derived.Test.YtnicpmoanjddbaaGreatDoorMs07
import Derived.Test.YtnicpmoanjddbaaGreatDoorMs08
import Derived.Test.YtnicpmoanjddbaaGreatDoorMs01
import Derived.Test.YtnicpmoanjddbaaGreatDoorMs21
import Derived.Test.YtnicpmoanjddbaaGreatDoorMs11
import Derived.Deep.DeepCutAuto
namespace Go.Proofs.YtnicpmoanjddbaaGreatDoor.Wo
set_option linter.unusedVariables false
theorem run_copy_rows (P:Program) (w:World) (dT sT ty elem:TypeId) (k g o dLen dCap:Nat) (a:Addr) (sLen sCap:Nat) (cur:Array Value) (t:TypeId) (cs:List Value)
 (hu:P.underlying dT=some (.slice elem)) (hs:(P.info? elem).map (·.size)=some k)
 (hg:w.heap[g]?=some (.cells cur t (0,0))) (hn:cs.length=Nat.min sLen dLen*k)
 (hsrc:∀ j v,cs[j]?=some v→w.cell? (a.add j)=some v) (hfit:o+cs.length≤cur.size) (h1:∀ v∈cs,v.oneCell'=true) :
 (Builtin.copy_ #[dT,sT] ty #[.slice (some ⟨g,o,none⟩) dLen dCap,.slice (some a) sLen sCap]).run P w =
  .ok (goInt (Nat.min sLen dLen)) (w.setRow g (cur.toList.take o++cs++cur.toList.drop (o+cs.length)).toArray):=by
 have hl:=run_loadCells_list (P:=P) w a cs hsrc
 have hst:=run_storeCells_at P g o t cs 0 cur w hg (by simpa using hfit) h1
 cases hq:P.info? elem with
 | none=>simp [hq] at hs
 | some i =>
   have hi:i.size=k:=by simpa [hq] using hs
   rw [hn] at hl
   simp [Builtin.copy_,run_underlying hu,Builtin.lenOf,Builtin.firstCells,sizeOf,typeInfo,hq,hi,hl,hst]
theorem run_copy_none' (P:Program) (w:World) (dT sT ty elem:TypeId) (k:Nat) (d a:Option Addr) (dLen dCap sLen sCap:Nat) (hu:P.underlying dT=some (.slice elem)) (hs:(P.info? elem).map (·.size)=some k) (hn:Nat.min sLen dLen=0) :
 (Builtin.copy_ #[dT,sT] ty #[.slice d dLen dCap,.slice a sLen sCap]).run P w=.ok (goInt 0) w:=by
 cases hq:P.info? elem with
 | none=>simp [hq] at hs
 | some i =>
   have hl:∀ (x:Addr),(loadCells x 0).run P w=.ok #[] w:=fun x=>by simpa using run_loadCells_list (P:=P) w x [] (by simp)
   cases d <;> cases a <;> simp [Builtin.copy_,run_underlying hu,Builtin.lenOf,Builtin.firstCells,sizeOf,typeInfo,hq,hn,storeCells,hl]
open Go.RowKit in
theorem wpList_copy_rows {P:Program} {w:World} {ops:Array Oper} {rest:List Oper} {o:Oper} {a:Act} {Q:Exit→Act→World→Prop} (hgd:o.guard=none) (d s:Operand) (dT sT:TypeId)
 (ho:o.op=.call { callee:=.builtin .copy,args:=#[d,s],argTypes:=#[dT,sT] }) (elem:TypeId) (k:Nat) (hu:P.underlying dT=some (.slice elem)) (hsz:(P.info? elem).map (·.size)=some k)
 (dp sp:Option Addr) (dLen dCap sLen sCap:Nat) (hd:a.eval d=.slice dp dLen dCap) (hs:a.eval s=.slice sp sLen sCap)
 (g off:Nat) (cur:List Value) (t:TypeId) (hg:w.heap[g]?=some (.cells cur.toArray t (0,0))) (cs:List Value) (hn:cs.length=Nat.min sLen dLen*k)
 (hpos:0<Nat.min sLen dLen→dp=some ⟨g,off,none⟩∧∃ ad,sp=some ad∧∀ j v,cs[j]?=some v→w.cell? (ad.add j)=some v)
 (hfit:off+cs.length≤cur.length) (h1:∀ v∈cs,v.oneCell'=true) (B:Nat) (w0:World) (hb:Below B w0 w) (hBg:B≤g)
 (h:∀ w',Hid (w'.heap[g]?=some (.cells (splice cur off cs).toArray t (0,0)))→Below B w0 w'→wpList P ops Q rest (a.put o.dst (goInt (Nat.min sLen dLen))) w') :
 wpList P ops Q (o::rest) a w:=by
 by_cases h0:Nat.min sLen dLen=0
 · obtain rfl:cs=[]:=List.eq_nil_of_length_eq_zero (by rw [hn,h0,Nat.zero_mul])
   have hh:=h w (show _=_ by simpa [splice] using hg) hb
   refine wpList_plain hgd fun K hK=>?_
   have hrun:=run_copy_none' P w dT sT o.type elem k dp sp dLen dCap sLen sCap hu hsz h0
   unfold Oper.wp
   simp [execOp,ho,resolve,invoke,builtin,hd,hs,hrun,Result.andThen]
   rw [h0] at hh
   exact hK _ _ hh
 · obtain ⟨rfl,ad,rfl,hsrc⟩:=hpos (by omega)
   have hh:=h _ (show _=_ by simpa [splice] using setRow_heap w g cur.toArray _ t _ hg) (below_setRow hb hBg _)
   refine wpList_plain hgd fun K hK=>?_
   have hrun:=run_copy_rows P w dT sT o.type elem k g off dLen dCap ad sLen sCap cur.toArray t cs hu hsz hg hn hsrc (by simpa using hfit) h1
   unfold Oper.wp
   simp [execOp,ho,resolve,invoke,builtin,hd,hs,hrun,Result.andThen]
   refine hK _ _ ?_
   simpa [splice] using hh
end Go.Proofs.YtnicpmoanjddbaaGreatDoor.Wo
namespace Go.Proofs.YtnicpmoanjddbaaGreatDoor.MidP
open Go.RowKit Go.Proofs.YtnicpmoanjddbaaGreatDoor.TreeP
set_option linter.unusedVariables false
set_option linter.unusedSimpArgs false
section goes
variable {R:RS→RS→Prop}
theorem stepM_goes (hR:OneWay R) (v:Pl) (x:Stp) (s:RS):Goes R s (stepM v x s):=by
 unfold stepM
 split
 · exact Goes.ok _ (hR.refl s)
 split
 · exact Goes.ok _ (hR.refl s)
 split
 · split
   · exact Goes.err _ (hR.refl s)
   · exact Goes.ok _ (hR.refl s)
 split
 · split
   · exact Goes.err _ (hR.refl s)
   · exact Goes.ok _ (hR.arrs s _ (by simp))
 split
 · exact Goes.ok _ (hR.refl s)
 split
 · exact (placeR_goes hR s _ _).bind hR fun _ t=>Goes.ok _ (hR.refl t)
 split
 · exact (placeR_goes hR s _ _).bind hR fun _ t=>Goes.ok _ (putArr_goes hR t _ _ _)
 split
 · split
   · exact Goes.err _ (hR.refl s)
   · exact Goes.ok _ (hR.told s _)
 split
 · split
   · exact Goes.ok _ (hR.refl s)
   · exact Goes.ok _ (hR.inp s _)
 · exact Goes.ok _ (hR.refl s)
theorem goesM_all (hR:OneWay R) (L:List Fm):∀ f,(∀ s F v i,Goes R s (goM L f s F v i))∧(∀ s g vs,Goes R s (callM L f s g vs)):=by
 intro f
 induction f with
 | zero=>exact ⟨fun s F v i=>by simp only [goM];exact Goes.none_ _,fun s g vs=>by simp only [callM];exact Goes.none_ _⟩
 | succ f ih =>
   obtain ⟨i1,i2⟩:=ih
   refine ⟨fun s F v i=>?_,fun s g vs=>?_⟩
   · simp only [goM]
     split
     · exact Goes.ok _ (hR.refl s)
     · refine (stepR_goes hR s).bind hR fun _ t=>?_
       split
       · exact i1 _ _ _ _
       split
       · split
         · exact i1 _ _ _ _
         · exact i1 _ _ _ _
       split
       · exact (i2 t _ _).bind hR fun n t2=>i1 _ _ _ _
       split
       · exact Goes.ok _ (hR.refl t)
       · exact (stepM_goes hR v _ t).bind hR fun v2 t2=>i1 _ _ _ _
   · simp only [callM]
     split
     · exact Goes.err _ (hR.refl s)
     · intro y hy
       have h1:Goes R { s with calls:=s.calls+1 } (bindR (goM L f { s with calls:=s.calls+1 } (fmGet L g) (fillP vs (fmGet L g).types.length) 0) fun n t=>okR n { t with calls:=t.calls-1 }):=(i1 _ _ _ _).bind hR fun n t=>Goes.ok _ (hR.calls t _)
       exact hR.trans _ _ _ (hR.calls s _) (h1 y hy)
end goes
def KeptM {α:Type} (s:RS) (x:RM α):Prop:=∀ y,x=some y→(∃ w,y.1=.error (.stop w))∨((∃ a,y.1=.ok a)∧y.2.calls=s.calls)
theorem KeptM.ok {α:Type} {s s':RS} (a:α) (h:s'.calls=s.calls):KeptM s (okR a s'):=by
 intro y hy
 obtain rfl:=(Option.some.inj hy).symm
 exact Or.inr ⟨⟨a,rfl⟩,h⟩
theorem KeptM.stop {α:Type} {s s':RS} (w:Int):KeptM s (stopR w s':RM α):=by
 intro y hy
 obtain rfl:=(Option.some.inj hy).symm
 exact Or.inl ⟨w,rfl⟩
theorem KeptM.bind {α β:Type} {s:RS} {x:RM α} {f:α→RS→RM β} (h:KeptM s x) (hf:∀ a t,t.calls=s.calls→KeptM s (f a t)):KeptM s (bindR x f):=by
 rcases x with _|⟨g|a,t⟩
 · intro y hy;cases hy
 · intro y hy
   obtain rfl:=(Option.some.inj hy).symm
   rcases h _ rfl with ⟨w,hw⟩|⟨⟨a,ha⟩,h⟩
   · simp only [Except.error.injEq] at hw
     exact Or.inl ⟨w,by rw [hw]⟩
   · cases ha
 · rcases h _ rfl with ⟨w,hw⟩|⟨_,h⟩
   · cases hw
   · exact hf a t h
theorem KeptM.to {α:Type} {s t:RS} {x:RM α} (h:KeptM t x) (hs:t.calls=s.calls):KeptM s x:=fun y hy=>(h y hy).imp id (fun e=>⟨e.1,e.2.trans hs⟩)
theorem KeptM.none_ {α:Type} (s:RS):KeptM s (none:RM α):=by intro y hy;cases hy
theorem stepR_keptM (s:RS):KeptM s (stepR s):=by
 unfold stepR
 split
 · exact KeptM.stop _
 · exact KeptM.ok _ rfl
theorem placeR_keptM (s:RS) (v:V) (i:Int):KeptM s (placeR s v i):=by
 unfold placeR
 split
 · exact KeptM.stop _
 · exact KeptM.ok _ rfl
theorem stepM_kept (v:Pl) (x:Stp) (s:RS):KeptM s (stepM v x s):=by
 unfold stepM
 split
 · exact KeptM.ok _ rfl
 split
 · exact KeptM.ok _ rfl
 split
 · split
   · exact KeptM.stop _
   · exact KeptM.ok _ rfl
 split
 · split
   · exact KeptM.stop _
   · exact KeptM.ok _ rfl
 split
 · exact KeptM.ok _ rfl
 split
 · exact (placeR_keptM s _ _).bind fun _ t ht=>KeptM.ok _ ht
 split
 · exact (placeR_keptM s _ _).bind fun _ t ht=>KeptM.ok _ (by rw [putArr_calls];exact ht)
 split
 · split
   · exact KeptM.stop _
   · exact KeptM.ok _ rfl
 split
 · split
   · exact KeptM.ok _ rfl
   · exact KeptM.ok _ rfl
 · exact KeptM.ok _ rfl
theorem keptM_all (L:List Fm):∀ f,(∀ s F v i,KeptM s (goM L f s F v i))∧(∀ s g vs,KeptM s (callM L f s g vs)):=by
 intro f
 induction f with
 | zero=>exact ⟨fun s F v i=>by simp only [goM];exact KeptM.none_ _,fun s g vs=>by simp only [callM];exact KeptM.none_ _⟩
 | succ f ih =>
   obtain ⟨i1,i2⟩:=ih
   refine ⟨fun s F v i=>?_,fun s g vs=>?_⟩
   · simp only [goM]
     split
     · exact KeptM.ok _ rfl
     · refine (stepR_keptM s).bind fun _ t ht=>?_
       split
       · exact (i1 _ _ _ _).to ht
       split
       · split
         · exact (i1 _ _ _ _).to ht
         · exact (i1 _ _ _ _).to ht
       split
       · exact ((i2 t _ _).to ht).bind fun n t2 ht2=>(i1 _ _ _ _).to ht2
       split
       · exact KeptM.ok _ ht
       · exact ((stepM_kept v _ t).to ht).bind fun v2 t2 ht2=>(i1 _ _ _ _).to ht2
   · simp only [callM]
     split
     · exact KeptM.stop _
     · intro y hy
       rcases hx:goM L f { s with calls:=s.calls+1 } (fmGet L g) (fillP vs (fmGet L g).types.length) 0 with _|⟨e|n,t⟩
       · rw [hx] at hy;cases hy
       · rw [hx] at hy
         obtain rfl:=(Option.some.inj hy).symm
         rcases i1 _ _ _ _ _ hx with ⟨w,hw⟩|⟨⟨a,ha⟩,_⟩
         · simp only at hw
           exact Or.inl ⟨w,by rw [Except.error.inj hw]⟩
         · cases ha
       · rw [hx] at hy
         obtain rfl:=(Option.some.inj hy).symm
         rcases i1 _ _ _ _ _ hx with ⟨w,hw⟩|⟨_,h1⟩
         · cases hw
         · exact Or.inr ⟨⟨n,rfl⟩,by simp only at h1 ⊢;omega⟩
/-! More rounds. -/
/-! More fuel. -/
section more
variable {d:Nat} {p:Prop}
end more
/-! Rounds enough. -/
section soon
variable {L:List Fm} {c:Nat}
end soon
/-! Steps as a whole. -/
theorem runM_eq (L:List Fm) (f:Nat) (given:List Int) (fuel:Nat):runM L f given fuel=(callM L f ⟨given,fuel,0,[],[]⟩ [109,97,105,110] []).map endOf:=by
 unfold runM
 cases callM L f ⟨given,fuel,0,[],[]⟩ [109,97,105,110] [] with
 | none=>rfl
 | some y =>
   obtain ⟨(w|n)|n,t⟩:=y <;> rfl
end Go.Proofs.YtnicpmoanjddbaaGreatDoor.MidP
namespace Go.Proofs.YtnicpmoanjddbaaGreatDoor.MidP
open Go.RowKit Go.Proofs.YtnicpmoanjddbaaGreatDoor.Wo Go.ChangeShapes Go.WideShapes
set_option linter.unusedVariables false
set_option linter.unusedSimpArgs false
structure StpOk (s:Stp):Prop where
 nums:I64 s.code∧I64 s.dst∧I64 s.a∧I64 s.b∧I64 s.c∧I64 s.n∧I64 s.label
 texts:s.op.length≤maxLen∧s.name.length≤maxLen
 args:∀ x∈s.args,I64 x
structure FmOk (f:Fm):Prop where
 name:f.name.length≤maxLen
 params:I64 f.params
 types:∀ x∈f.types,I64 x
 steps:∀ s∈f.steps,StpOk s
section
variable {H:Type} {enc:TypeId×Value→H} {P:Program} {W:World}
end
section
variable {H:Type} {enc:TypeId×Value→H} {W:World}
end
end Go.Proofs.YtnicpmoanjddbaaGreatDoor.MidP
namespace Go.Proofs.YtnicpmoanjddbaaGreatDoor.MidP
open Go.RowKit Go.Proofs.YtnicpmoanjddbaaGreatDoor.Wo Go.Maps Go.Proofs.YtnicpmoanjddbaaGreatDoor.TreeP
set_option linter.unusedVariables false
set_option linter.unusedSimpArgs false
def Vals (W:World) (base:Nat) (P M:Nat→Prop) (A:List (Nat×Nat)) (lv:Value) (vs:List V):Prop :=
 ∃ cs,W.ownsRow base 123 2 lv vs.length cs∧(∀ k,lv.ownBlock=some k→¬ M k∧¬ P k)∧∀ j x,vs[j]?=some x→∃ u v,cs[j*2]?=some u∧cs[j*2+1]?=some v∧VAt A x (.agg #[u,v])
theorem Vals.none_ (W:World) (base:Nat) (P M:Nat→Prop) (A:List (Nat×Nat)):Vals W base P M A (.slice none 0 0) [] :=
 ⟨[],World.ownsRow_nil _ _ _ _,fun k hk=>(by cases hk),fun j x hx=>(by simp at hx)⟩
theorem Vals.ext {W w:World} {base:Nat} {P M M':Nat→Prop} {A A':List (Nat×Nat)} {lv:Value} {vs:List V} (h:Vals W base P M A lv vs) (hE:Ext None M M' W w) (hA:A <+: A'):Vals w base P M' A' lv vs:=by
 obtain ⟨cs,h1,h2,h3⟩:=h
 refine ⟨cs,hE.mods.ownsRow h1 (fun k hk hs=>hs.elim (fun f=>f.elim) (h2 k hk).1),fun k hk=>⟨fun hm=>(h2 k hk).1 (hE.back k (h1.lt k hk).2 hm),(h2 k hk).2⟩,fun j x hx=>?_⟩
 obtain ⟨u,v,e1,e2,e3⟩:=h3 j x hx
 exact ⟨u,v,e1,e2,e3.more hA⟩
theorem Vals.grow {w4 w5:World} {base:Nat} {P M:Nat→Prop} {A:List (Nat×Nat)} {lv v':Value} {vs:List V} {cs:List Value} {x:V} {u v:Value} (h1:w4.ownsRow base 123 2 lv vs.length cs) (h2:∀ k,lv.ownBlock=some k→¬ M k∧¬ P k) (h3:∀ j x,vs[j]?=some x→∃ u v,cs[j*2]?=some u∧cs[j*2+1]?=some v∧VAt A x (.agg #[u,v]))
 (hown:w5.ownsRow base 123 2 v' (vs.length+1) (cs++[u,v])) (hloc:v'.ownBlock=lv.ownBlock∨v'.ownBlock=some w4.heap.size) (hM:∀ k,M k→k<w4.heap.size) (hP:∀ k,P k→k<w4.heap.size) (hv:VAt A x (.agg #[u,v])):Vals w5 base P M A v' (vs++[x]):=by
 refine ⟨cs++[u,v],by simpa using hown,fun k hk=>?_,fun j y hy=>?_⟩
 · rcases hloc with hl|hl
   · exact h2 k (by rw [← hl];exact hk)
   · rw [hl] at hk
     obtain rfl:=Option.some.inj hk
     exact ⟨fun hm=>absurd (hM _ hm) (Nat.lt_irrefl _),fun hp=>absurd (hP _ hp) (Nat.lt_irrefl _)⟩
 · have hlen:=h1.1
   rcases Nat.lt_or_ge j vs.length with hj|hj
   · rw [List.getElem?_append_left hj] at hy
     obtain ⟨u',v',e1,e2,e3⟩:=h3 j y hy
     exact ⟨u',v',by rw [List.getElem?_append_left (by omega)];exact e1,by rw [List.getElem?_append_left (by omega)];exact e2,e3⟩
   · rw [List.getElem?_append_right hj] at hy
     obtain ⟨hj2,hy⟩:=List.getElem?_eq_some_iff.1 hy
     simp only [List.length_singleton] at hj2
     obtain rfl:j=vs.length:=by omega
     simp only [Nat.sub_self,List.getElem_cons_zero] at hy
     subst hy
     refine ⟨u,v,?_,?_,hv⟩
     · rw [List.getElem?_append_right (by omega),hlen,Nat.sub_self];rfl
     · rw [List.getElem?_append_right (by omega),hlen,show vs.length*2+1-vs.length*2=1 by omega];rfl
structure GoodM (L:List Fm):Prop where
 code:codeB L=true
 ok:∀ f∈L,FmOk f
theorem GoodM.fn {L:List Fm} (h:GoodM L) {f:Fm} (hf:f∈L):fnB L f=true:=by
 have:=h.code
 unfold codeB at this
 simp only [Bool.and_eq_true,List.all_eq_true] at this
 exact this.1.2 f hf
theorem GoodM.sizes {L:List Fm} (h:GoodM L) {f:Fm} (hf:f∈L):f.types.length≤3000∧f.steps.length≤6000∧∀ s∈f.steps,rightB L f s=true:=by
 have:=h.fn hf
 unfold fnB at this
 simp only [Bool.and_eq_true,decide_eq_true_eq,List.all_eq_true] at this
 exact ⟨this.1.1.1.1.1.1,this.1.1.1.1.2,this.2⟩
def CallC (L:List Fm) (f:Nat):Prop:=∀ (g:List UInt8) (vs:List V) (b mb base:Nat) (P M:Nat→Prop) (A:List (Nat×Nat)) (s:RS) (W:World) (lv:Value) (r:Except Sig Int×RS),RAt W b mb L P M A s→Vals W base P M A lv vs→g.length≤maxLen→(∃ h,fmOf L g=some h∧vs.length≤h.types.length)→callM L f s g vs=some r →
 Calls Tryz.prog 23 #[.pointer (some ⟨b,0,none⟩),str g,lv] W (Ran W b mb L P None M A retN r)
theorem mval_info:(Tryz.prog.info? 123).map (fun i=>(i.zero,i.size,i.bytes))=some (some zeroVal,2,32):=by kernel_rfl
theorem mval_size:(Tryz.prog.info? 123).map (·.size)=some 2:=by kernel_rfl
theorem zero_fm (w:World):(zeroValue 55).run Tryz.prog w=.ok zeroFm w:=by kernel_rfl
structure GoSt (W:World) (P M:Nat→Prop) (A:List (Nat×Nat)) (b mb g q bm:Nat) (L:List Fm) (F:Fm) (ta sa:Option Addr) (tc sc c0:Nat) (r:Except Sig Int×RS) (k i:Nat) (v:Pl) (M':Nat→Prop) (A':List (Nat×Nat)) (s':RS) (wr:World):Prop where
 run:bindR (goM L k s' F v i) (fun n t=>okR n { t with calls:=t.calls-1 })=some r
 rat:RAt wr b mb L P M' A' s'
 pl:PlAt wr P M' A' g v
 len:v.length=F.types.length
 ext:Ext None M M' W wr
 pre:A <+: A'
 box:Blk wr q [str F.name,.int .i64 F.params,.slice ta F.types.length tc,.slice sa F.steps.length sc] 55
 nq:¬ M' q∧¬ P q
 lab:∃ n,IntMap wr bm n (.int .i64 0) (fun l=>.int .i64 (labelAt F.steps l 0 0))
 nb:¬ M' bm∧¬ P bm
 sts:StpsAt wr (fun k=>¬ P k) (.slice sa F.steps.length sc) F.steps
 base:W.heap.size≤g∧W.heap.size≤q∧W.heap.size≤bm∧g≠q∧g≠bm
 calls:s'.calls=c0+1
theorem GoSt.next {W wr w:World} {P M:Nat→Prop} {A:List (Nat×Nat)} {b mb g q bm:Nat} {L:List Fm} {F:Fm} {ta sa:Option Addr} {tc sc c0:Nat} {r:Except Sig Int×RS} {k i:Nat} {v:Pl} {M' T M2:Nat→Prop} {A' A2:List (Nat×Nat)} {s' s2:RS} {k2 i2:Nat} {v2:Pl}
 (h:GoSt W P M A b mb g q bm L F ta sa tc sc c0 r k i v M' A' s' wr) (hrun:bindR (goM L k2 s2 F v2 i2) (fun n t=>okR n { t with calls:=t.calls-1 })=some r) (hR:RAt w b mb L P M2 A2 s2) (hv:PlAt w P M2 A2 g v2) (hl:v2.length=F.types.length) (hE:Ext T M' M2 wr w) (hT:∀ j,T j→j=g) (hA:A' <+: A2) (hc:s2.calls=c0+1) :
 GoSt W P M A b mb g q bm L F ta sa tc sc c0 r k2 i2 v2 M2 A2 s2 w:=by
 obtain ⟨h1,h2,h3,h4,h5,h6,h7,h8,⟨n,h9⟩,h10,h11,h12,h13⟩:=h
 have hq:¬ T q:=fun e=>h12.2.2.2.1 (hT q e).symm
 have hbm:¬ T bm:=fun e=>h12.2.2.2.2 (hT bm e).symm
 have hbl:bm<wr.heap.size:=h9.lt
 refine ⟨hrun,hR,hv,hl,?_,h6.trans hA,(keep_blk h7 hE h8.1 hq).1,⟨(keep_blk h7 hE h8.1 hq).2,h8.2⟩,⟨n,h9.mods hE.mods (fun f=>f.elim hbm h10.1)⟩,⟨fun hm=>h10.1 (hE.back bm hbl hm),h10.2⟩,h11.mods (hE.mods.mono ?_) (fun _ _ k=>k),h12,hc⟩
 · exact h5.transNew hE (fun j hj hTj=>by have:=hT j hTj;have:=h12.1;omega)
 · intro j hj hTj
   obtain ⟨_,_,_,_,_,k5⟩:=h3
   exact hTj.elim (fun e=>by rw [hT j e];exact k5) (h2.off j)
theorem zero_cells:zeroVal.cells=#[.int .i64 0,.slice none 0 0]:=rfl
theorem made_at (n j:Nat) (h:j<n):(madeCells zeroVal.cells (n*2)).toList[j*2]?=some (.int .i64 0)∧(madeCells zeroVal.cells (n*2)).toList[j*2+1]?=some (.slice none 0 0):=by
 rw [zero_cells]
 have h1:j*2<n*2:=by omega
 have h2:j*2+1<n*2:=by omega
 have e1:j*2 % 2=0:=by omega
 have e2:(j*2+1) % 2=1:=by omega
 constructor
 · simp [madeCells,h1,e1]
 · simp [madeCells,h2,e2]
theorem pl_filled {w:World} {P M:Nat→Prop} {A:List (Nat×Nat)} {g n:Nat} {vs:List V} {cs:List Value} (hb:Blk w g (splice (madeCells zeroVal.cells (n*2)).toList 0 cs) 123) (hl:vs.length≤n) (hc:cs.length=vs.length*2) (hv:∀ j x,vs[j]?=some x→∃ u v,cs[j*2]?=some u∧cs[j*2+1]?=some v∧VAt A x (.agg #[u,v])) (hM:¬ M g) (hP:¬ P g):PlAt w P M A g (fillP vs n)∧(fillP vs n).length=n:=by
 have hlen:(fillP vs n).length=n:=by unfold fillP;simp;omega
 have hml:(madeCells zeroVal.cells (n*2)).toList.length=n*2:=by simp [madeCells]
 refine ⟨⟨_,hb,?_,fun j x hx=>?_,hM,hP⟩,hlen⟩
 · rw [length_splice _ _ _ (by omega),hml,hlen]
 · unfold splice
   simp only [List.take_zero,List.nil_append,Nat.zero_add]
   unfold fillP at hx
   rw [List.take_of_length_le hl] at hx
   rcases Nat.lt_or_ge j vs.length with hj|hj
   · rw [List.getElem?_append_left hj] at hx
     obtain ⟨u,v,e1,e2,e3⟩:=hv j x hx
     exact ⟨u,v,by rw [List.getElem?_append_left (by omega)];exact e1,by rw [List.getElem?_append_left (by omega)];exact e2,e3⟩
   · rw [List.getElem?_append_right hj] at hx
     obtain ⟨hj2,hx⟩:=List.getElem?_eq_some_iff.1 hx
     simp only [List.length_replicate] at hj2
     simp only [List.getElem_replicate] at hx
     subst hx
     obtain ⟨m1,m2⟩:=made_at n j (by omega)
     refine ⟨_,_,?_,?_,Or.inl ⟨rfl,rfl⟩⟩
     · rw [List.getElem?_append_right (by omega),List.getElem?_drop,hc,show vs.length*2+(j*2-vs.length*2)=j*2 by omega];exact m1
     · rw [List.getElem?_append_right (by omega),List.getElem?_drop,hc,show vs.length*2+(j*2+1-vs.length*2)=j*2+1 by omega];exact m2
theorem Vals.at_ {W:World} {base:Nat} {P M:Nat→Prop} {A:List (Nat×Nat)} {lv:Value} {vs:List V} (h:Vals W base P M A lv vs):∃ (la:Option Addr) (lc:Nat) (cs:List Value),lv=.slice la vs.length lc∧cs.length=vs.length*2∧(0<vs.length→∃ ad,la=some ad∧∀ j v,cs[j]?=some v→W.cell? (ad.add j)=some v)∧(∀ j x,vs[j]?=some x→∃ u v,cs[j*2]?=some u∧cs[j*2+1]?=some v∧VAt A x (.agg #[u,v]))∧∀ v∈cs,v.oneCell'=true:=by
 obtain ⟨cs,h1,h2,h3⟩:=h
 obtain ⟨la,lc,rfl⟩:=row_form h1
 refine ⟨la,lc,cs,rfl,h1.1,fun hp=>?_,h3,fun v hv=>?_⟩
 · rcases h1.2 with ⟨hv,h0⟩|⟨g,cap,cur,hv,_⟩
   · omega
   · simp only [Value.slice.injEq] at hv
     obtain ⟨rfl,-,-⟩:=hv
     exact ⟨_,rfl,fun j v hj=>h1.cells (g:=g) rfl j v hj⟩
 · obtain ⟨j,hj⟩:=List.mem_iff_getElem?.1 hv
   have hjl:=(List.getElem?_eq_some_iff.1 hj).1
   have hl:=h1.1
   obtain ⟨x,hx⟩:∃ x,vs[j / 2]?=some x:=⟨_,List.getElem?_eq_getElem (by omega)⟩
   obtain ⟨u,w,e1,e2,e3⟩:=h3 _ x hx
   have hj2:j=j / 2*2∨j=j / 2*2+1:=by omega
   rcases e3 with ⟨-,e⟩|⟨_,_,_,-,-,e⟩ <;> simp only [Value.agg.injEq,Array.mk.injEq,List.cons.injEq,and_true] at e <;> obtain ⟨rfl,rfl⟩:=e <;> rcases hj2 with k|k <;> rw [k] at hj <;> (first|(rw [e1] at hj;obtain rfl:=Option.some.inj hj;rfl)|(rw [e2] at hj;obtain rfl:=Option.some.inj hj;rfl))
theorem mbind_of {α β:Type} {W0 W:World} {b mb:Nat} {L:List Fm} {P T T0 M0 M:Nat→Prop} {A0 A:List (Nat×Nat)} {x:RM α} {f:α→RS→RM β} {r:Except Sig β×RS} {F:FuncId} {args:Array Value} {ok:α→(Nat→Prop)→List (Nat×Nat)→Ending→World→Prop} {Q:Ending→World→Prop}
 (hT:∀ k,T k→T0 k) (hE:Hid (Ext T0 M0 M W0 W)) (hA:Hid (A0 <+: A)) (hx:Hid (bindR x f=some r)) (hc:∀ y,x=some y→Calls Tryz.prog F args W (Ran W b mb L P T M A ok y))
 (herr:∀ g s',r=(.error g,s')→∀ (older:Old) w,Hid (∃ M' A',RAt w b mb L P M' A' s'∧Ext T0 M0 M' W0 w∧A0 <+: A')→Q (.panicked ({ v:=sigV g,recovered:=false }::older.1)) w)
 (hok:∀ a s',Hid (x=some (.ok a,s'))→Hid (f a s'=some r)→∀ e w M' A',ok a M' A' e w→Hid (RAt w b mb L P M' A' s')→Hid (Ext T M M' W w)→Hid (Ext T0 M0 M' W0 w)→Hid (A <+: A')→Hid (A0 <+: A')→Q e w) :
 Calls Tryz.prog F args W Q:=by
 have hx:=hx.out
 cases hp:x with
 | none=>rw [hp] at hx;cases hx
 | some y =>
   refine (hc y hp).mono ?_
   intro e w h
   rw [hp] at hx
   obtain ⟨y,s'⟩:=y
   cases y with
   | error g =>
     obtain ⟨⟨older,rfl⟩,M',A',h1,h2,h3⟩:=h
     exact herr g s' (Option.some.inj hx).symm older w (hiD ⟨M',A',h1,hE.out.trans (h2.more fun k _ hk=>hT k hk),hA.out.trans h3⟩)
   | ok a =>
     obtain ⟨M',A',h0,h1,h2,h3⟩:=h
     exact hok a s' (hiD hp) (hiD hx) e w M' A' h0 (hiD h1) (hiD h2) (hiD (hE.out.trans (h2.more fun k _ hk=>hT k hk))) (hiD h3) (hiD (hA.out.trans h3))
theorem put_len (v:Pl) (p:Int) (x:V):(v.put p x).length=v.length:=by unfold Pl.put;simp
theorem stepM_len {v v2:Pl} {x:Stp} {s t:RS} (h:stepM v x s=some (.ok v2,t)):v2.length=v.length:=by
 have ok:∀ {a:Pl} {s:RS},okR a s=some (.ok v2,t)→a.length=v.length→v2.length=v.length:=by
  intro a s h k
  unfold okR at h
  simp only [Option.some.injEq,Prod.mk.injEq,Except.ok.injEq] at h
  rw [← h.1,k]
 have bad:∀ {w:Int} {s:RS},¬ (stopR w s:RM Pl)=some (.ok v2,t):=by
  intro w s h
  unfold stopR at h
  cases h
 unfold stepM at h
 split at h
 · exact ok h (put_len _ _ _)
 split at h
 · exact ok h (put_len _ _ _)
 split at h
 · split at h
   · exact (bad h).elim
   · exact ok h (put_len _ _ _)
 split at h
 · split at h
   · exact (bad h).elim
   · exact ok h (put_len _ _ _)
 split at h
 · exact ok h (put_len _ _ _)
 split at h
 · unfold placeR at h
   split at h
   · exact (bad h).elim
   · exact ok h (put_len _ _ _)
 split at h
 · unfold placeR at h
   split at h
   · exact (bad h).elim
   · exact ok h rfl
 split at h
 · split at h
   · exact (bad h).elim
   · exact ok h rfl
 split at h
 · split at h
   · exact ok h (put_len _ _ _)
   · exact ok h (put_len _ _ _)
 · exact ok h rfl
end Go.Proofs.YtnicpmoanjddbaaGreatDoor.MidP

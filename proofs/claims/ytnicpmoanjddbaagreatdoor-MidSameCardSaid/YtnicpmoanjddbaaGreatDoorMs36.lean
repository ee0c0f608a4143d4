/- Lower's steps may be: their places are of their types, their labels stand. No program in sight. No conditions. -/
import Derived.Test.YtnicpmoanjddbaaGreatDoorMs35
namespace Go.Proofs.YtnicpmoanjddbaaGreatDoor.MidP.Sm
open Go.RowKit Go.Proofs.YtnicpmoanjddbaaGreatDoor.TreeP Go.Proofs.YtnicpmoanjddbaaGreatDoor.MidP
set_option linter.unusedVariables false
set_option linter.unusedSimpArgs false
theorem to_typ (k:Int) (s:Stp) (w:Lw):w.types <+: (toL k s w).2.types:=⟨[k],rfl⟩
theorem short_typ (op:List UInt8) (a:Int) (w:Lw):w.types <+: (shortA op a w).2.2.types:=by
 unfold shortA
 split
 · exact (to_typ _ _ _).trans (to_typ _ _ _)
 · exact to_typ _ _ _
mutual
theorem expr_typ:(e:Ex)→(w:Lw)→w.types <+: (exprL e w).2.types
 | .num _ _,w=>to_typ _ _ _
 | .var _ _,w=>List.prefix_refl _
 | .un _ op x,w=>by
   simp only [exprL]
   split
   · exact (expr_typ x w).trans (to_typ _ _ _)
   · exact (expr_typ x w).trans (to_typ _ _ _)
 | .bin _ op l r,w=>by
   simp only [exprL]
   split
   · exact ((expr_typ l (labelL w).2).trans (short_typ _ _ _)).trans (expr_typ r (addL _ _))
   · exact ((expr_typ l w).trans (expr_typ r _)).trans (to_typ _ _ _)
 | .call _ g l,w=>(args_typ l w).trans (to_typ _ _ _)
 | .new _ x,w=>(expr_typ x w).trans (to_typ _ _ _)
 | .len _ x,w=>(expr_typ x w).trans (to_typ _ _ _)
 | .item _ x i,w=>((expr_typ x w).trans (expr_typ i _)).trans (to_typ _ _ _)
 | .input _,w=>to_typ _ _ _
theorem args_typ:(l:List Ex)→(w:Lw)→w.types <+: (argsL l w).2.types
 | [],w=>List.prefix_refl _
 | e::r,w=>(expr_typ e w).trans (args_typ r _)
end
mutual
theorem stmt_typ:(s:St)→(w:Lw)→w.types <+: (stmtL s w).types
 | .var _ x v,w=>(expr_typ v w).trans ⟨[_],rfl⟩
 | .set _ x v,w=>expr_typ v w
 | .put _ x i v,w=>(expr_typ i w).trans (expr_typ v _)
 | .cond _ v t e,w=>by
   simp only [stmtL]
   exact ((expr_typ v (labelL (labelL w).2).2).trans (block_typ t (addL _ _))).trans (block_typ e (addL _ (addL _ _)))
 | .loop _ v t,w=>by
   simp only [stmtL]
   exact (expr_typ v (addL _ (labelL (labelL w).2).2)).trans (block_typ t (addL _ _))
 | .ret _ v,w=>expr_typ v w
 | .print _ v,w=>expr_typ v w
 | .call _ v,w=>expr_typ v w
theorem block_typ:(l:List St)→(w:Lw)→w.types <+: (blockL l w).types
 | [],w=>List.prefix_refl _
 | s::r,w=>(stmt_typ s w).trans (block_typ r _)
end
structure InR (w:Lw) (F:Fm):Prop where
 types:w.types <+: F.types
 steps:w.steps <+: F.steps
 labels:w.labels≤1000000
theorem InR.less {w w':Lw} {F:Fm} (h:InR w' F) (hn:NewL w w') (ht:w.types <+: w'.types):InR w F :=
 ⟨ht.trans h.types,hn.pre.trans h.steps,by obtain ⟨d,_,h2,_⟩:=hn;have:=h.labels;omega⟩
theorem InR.tol {w:Lw} {F:Fm} {k:Int} {s:Stp} (h:InR (toL k s w).2 F):InR w F:=⟨(to_typ k s w).trans h.types,(show w.steps <+: (toL k s w).2.steps from ⟨[_],rfl⟩).trans h.steps,h.labels⟩
theorem InR.addl {w:Lw} {F:Fm} {s:Stp} (h:InR (addL s w) F):InR w F:=⟨h.types,(show w.steps <+: (addL s w).steps from ⟨[s],rfl⟩).trans h.steps,h.labels⟩
def PlaceT (w:Lw) (a t:Int):Prop:=∃ p:Nat,a=(p:Int)∧w.types[p]?=some t
theorem pre_get {l m:List Int} (h:l <+: m) {p:Nat} {t:Int} (hp:l[p]?=some t):m[p]?=some t:=by
 obtain ⟨d,rfl⟩:=h
 obtain ⟨hl,-⟩:=List.getElem?_eq_some_iff.1 hp
 rw [List.getElem?_append_left hl]
 exact hp
theorem PlaceT.grow {w w':Lw} {a t:Int} (h:PlaceT w a t) (ht:w.types <+: w'.types):PlaceT w' a t:=by
 obtain ⟨p,h1,h2⟩:=h
 exact ⟨p,h1,pre_get ht h2⟩
theorem PlaceT.kind {w:Lw} {F:Fm} {a t:Int} (h:PlaceT w a t) (hF:InR w F):kindP F a=t:=by
 obtain ⟨p,rfl,h2⟩:=h
 have h3:=pre_get hF.types h2
 obtain ⟨hl,-⟩:=List.getElem?_eq_some_iff.1 h3
 unfold kindP
 rw [if_neg (by omega)]
 simp only [Int.toNat_natCast,List.getD_eq_getElem?_getD,h3,Option.getD_some]
def Fair (x:Int):Prop:=-9223372036854775808≤x∧x≤9223372036854775807
theorem PlaceT.fair {w:Lw} {F:Fm} {a t:Int} (h:PlaceT w a t) (hF:InR w F) (h3:F.types.length≤3000):Fair a:=by
 obtain ⟨p,rfl,h2⟩:=h
 obtain ⟨hl,-⟩:=List.getElem?_eq_some_iff.1 (pre_get hF.types h2)
 unfold Fair
 omega
theorem to_placeT (k:Int) (s:Stp) (w:Lw):PlaceT (toL k s w).2 (toL k s w).1 k:=⟨w.types.length,rfl,by simp [toL]⟩
structure StpG (s:Stp):Prop where
 code:Fair s.code
 dst:Fair s.dst
 a:Fair s.a
 b:Fair s.b
 c:Fair s.c
 n:Fair s.n
 label:Fair s.label
 op:s.op.length≤1000
 name:s.name.length≤1000
 args:∀ x∈s.args,Fair x
 many:s.code=7∨s.args=[]
theorem fair0:Fair 0:=by unfold Fair;omega
structure AllG (Lt:List TreeP.Fn) (F:Fm) (w:Lw):Prop where
 steps:∀ s∈w.steps,rightB (lowP Lt) F s=true∧StpG s
 types:∀ t∈w.types,t=1∨t=2
section
variable {Lt:List TreeP.Fn} {F:Fm}
theorem AllG.add {w:Lw} {s:Stp} (h:AllG Lt F w) (h1:rightB (lowP Lt) F s=true) (h2:StpG s):AllG Lt F (addL s w):=by
 refine ⟨fun x hx=>?_,h.types⟩
 simp only [addL,List.mem_append,List.mem_singleton] at hx
 rcases hx with hx|rfl
 · exact h.steps x hx
 · exact ⟨h1,h2⟩
theorem AllG.to {w:Lw} {k:Int} {s:Stp} (h:AllG Lt F w) (hk:k=1∨k=2) (h1:rightB (lowP Lt) F { s with dst:=(w.types.length:Int) }=true) (h2:StpG { s with dst:=(w.types.length:Int) }):AllG Lt F (toL k s w).2:=by
 refine ⟨fun x hx=>?_,fun t ht=>?_⟩
 · simp only [toL,List.mem_append,List.mem_singleton] at hx
   rcases hx with hx|rfl
   · exact h.steps x hx
   · exact ⟨h1,h2⟩
 · simp only [toL,List.mem_append,List.mem_singleton] at ht
   rcases ht with ht|rfl
   · exact h.types t ht
   · exact hk
theorem fit0 (p:Int):fitB F 0 p=true:=by simp [fitB]
theorem fit_k {p t:Int} (h:kindP F p=t):fitB F t p=true:=by simp [fitB,h]
theorem right_gen {L:List Fm} {s:Stp} (hc:1≤s.code∧s.code≤14) (hc2:s.code≠2) (hc7:s.code≠7) (hd:fitB F ((formsP s.code).getD 0 0) s.dst=true) (ha:fitB F ((formsP s.code).getD 1 0) s.a=true) (hb:fitB F ((formsP s.code).getD 2 0) s.b=true) (hcc:fitB F ((formsP s.code).getD 3 0) s.c=true)
 (hl:s.code=4∨s.code=5→hasLabel F s.label=true) (ho:s.code=3→s.op∈opList):rightB L F s=true:=by
 unfold rightB
 rw [if_neg hc2,if_neg hc7,if_neg (by omega),hd,ha,hb,hcc]
 simp only [Bool.and_true,Bool.true_and,Bool.and_eq_true,Bool.or_eq_true,Bool.not_eq_true']
 constructor
 · by_cases h:s.code=4∨s.code=5
   · exact Or.inr (hl h)
   · left;simp only [Bool.or_eq_false_iff,beq_eq_false_iff_ne];omega
 · by_cases h:s.code=3
   · right;simpa using ho h
   · left;simp only [beq_eq_false_iff_ne];exact h
theorem label_in {w:Lw} {s:Stp} (h:InR w F) (hm:s∈w.steps) (hc:s.code=6):hasLabel F s.label=true:=by
 unfold hasLabel
 rw [List.any_eq_true]
 refine ⟨s,?_,by simp [hc]⟩
 obtain ⟨d,hd⟩:=h.steps
 rw [← hd]
 exact List.mem_append_left _ hm
structure NT (w:Lw) (N:Nm):Prop where
 names:∀ x,findN N x≠0→PlaceT w (getN w.names x) (findN N x)
 none:PlaceT w w.none 1
theorem NT.next {w w':Lw} {N:Nm} (h:NT w N) (hn:w'.names=w.names) (h0:w'.none=w.none) (ht:w.types <+: w'.types):NT w' N :=
 ⟨fun x hx=>by rw [hn];exact (h.names x hx).grow ht,by rw [h0];exact h.none.grow ht⟩
theorem NT.less {w:Lw} {N N':Nm} (h:NT w N') (he:ExtN N N'):NT w N:=⟨fun x hx=>by
 have:=h.names x (by rw [he x hx];exact hx)
 rw [he x hx] at this
 exact this,h.none⟩
theorem NT.expr {w:Lw} {N:Nm} (h:NT w N) (e:Ex):NT (exprL e w).2 N:=h.next (expr_same e w).1 (expr_same e w).2 (expr_typ e w)
theorem two_good (h3:F.types.length≤3000) {w:Lw} {op:List UInt8} {a b:Int} (hop:op∈opList) (hA:AllG Lt F w) (ha:PlaceT w a 1) (hb:PlaceT w b 1) (hF:InR (toL 1 { stp0 with code:=3,op:=op,a:=a,b:=b } w).2 F):AllG Lt F (toL 1 { stp0 with code:=3,op:=op,a:=a,b:=b } w).2:=by
 have hp:=to_placeT 1 { stp0 with code:=3,op:=op,a:=a,b:=b } w
 have hw:=hF.tol
 have hlen:op.length≤1000:=by
  have:∀ o∈opList,o.length≤1000:=by decide
  exact this op hop
 refine hA.to (Or.inl rfl) (right_gen ?_ ?_ ?_ (fit_k (hp.kind hF)) (fit_k (ha.kind hw)) (fit_k (hb.kind hw)) (fit0 _) ?_ (fun _=>hop)) ⟨?_,hp.fair hF h3,ha.fair hw h3,hb.fair hw h3,fair0,fair0,fair0,hlen,by simp [stp0],fun x hx=>by simp [stp0] at hx,Or.inr rfl⟩ <;> simp [Fair]
theorem not_eq_in:([33,61]:List UInt8)∈opList:=by decide
theorem eq_in:([61,61]:List UInt8)∈opList:=by decide
theorem zero_good (h3:F.types.length≤3000) {w:Lw} {a:Int} (hA:AllG Lt F w) (ha:PlaceT w a 1) (hn:PlaceT w w.none 1) (hF:InR (zeroL a w).2 F):AllG Lt F (zeroL a w).2:=two_good h3 eq_in hA ha hn hF
theorem short_good (h3:F.types.length≤3000) {w:Lw} {op:List UInt8} {a:Int} (hA:AllG Lt F w) (ha:PlaceT w a 1) (hn:PlaceT w w.none 1) (hF:InR (shortA op a w).2.2 F) :
 AllG Lt F (shortA op a w).2.2∧PlaceT (shortA op a w).2.2 (shortA op a w).1 1∧PlaceT (shortA op a w).2.2 (shortA op a w).2.1 1∧(shortA op a w).2.2.names=w.names∧(shortA op a w).2.2.none=w.none:=by
 unfold shortA at hF ⊢
 split
 · rename_i h
   rw [if_pos h] at hF
   have h1:AllG Lt F (toL 1 { stp0 with code:=3,op:=[33,61],a:=a,b:=w.none } w).2:=two_good h3 not_eq_in hA ha hn (InR.tol hF)
   have hp:=to_placeT 1 { stp0 with code:=3,op:=[33,61],a:=a,b:=w.none } w
   exact ⟨zero_good h3 h1 hp (hn.grow (to_typ _ _ _)) hF,hp.grow (to_typ _ _ _),to_placeT _ _ _,rfl,rfl⟩
 · rename_i h
   rw [if_neg h] at hF
   exact ⟨two_good h3 not_eq_in hA ha hn hF,to_placeT _ _ _,to_placeT _ _ _,rfl,rfl⟩
theorem find_low (Lt:List TreeP.Fn) (g:List UInt8):(lowP Lt).find? (fun f=>f.name==g)=(fnOf Lt g).map lowF:=by
 unfold fnOf
 induction Lt with
 | nil=>rfl
 | cons a r ih =>
   show ((lowF a)::lowP r).find? _=_
   simp only [List.find?_cons]
   show (match a.name==g with|true=>_|false=>_)=_
   cases a.name==g with
   | true=>rfl
   | false=>exact ih
theorem pars_types:(l:List (List UInt8×Int))→(w:Lw)→(parsL l w).types=w.types++l.map (·.2)
 | [],w=>by simp [parsL]
 | a::l,w=>by simp only [parsL,pars_types l,List.map_cons,List.append_assoc,List.singleton_append]
theorem low_take (fn:TreeP.Fn):(lowF fn).types.take fn.params.length=fn.params.map (·.2):=by
 obtain ⟨d,hd⟩:=block_typ fn.body (headL fn)
 have h1:(lowF fn).types=(blockL fn.body (headL fn)).types:=rfl
 have h2:(headL fn).types=fn.params.map (·.2)++[1]:=by
  show (parsL fn.params w00).types++[1]=_
  rw [pars_types]
  rfl
 rw [h1,← hd,h2,List.append_assoc,List.take_left' (by simp)]
mutual
theorem expr_good (h3:F.types.length≤3000) {N:Nm} (hN:TyN N):(e:Ex)→(d:Nat)→(w:Lw)→{t:Int}→Fit e d→exprK Lt N e=.ok t→InR (exprL e w).2 F→NT w N→AllG Lt F w→AllG Lt F (exprL e w).2∧PlaceT (exprL e w).2 (exprL e w).1 t
 | .num _ n,d,w,t,hf,h,hF,hT,hA=>by
   simp only [exprK,Except.ok.injEq] at h
   subst h
   simp only [Fit] at hf
   simp only [exprL] at hF ⊢
   have hp:=to_placeT 1 { stp0 with code:=1,n:=n } w
   refine ⟨hA.to (Or.inl rfl) (right_gen ?_ ?_ ?_ (fit_k (hp.kind hF)) (fit0 _) (fit0 _) (fit0 _) ?_ ?_) ⟨?_,hp.fair hF h3,fair0,fair0,fair0,⟨?_,?_⟩,fair0,?_,?_,fun x hx=>by simp [stp0] at hx,Or.inr rfl⟩,hp⟩ <;> simp [Fair,stp0] <;> omega
 | .input _,d,w,t,hf,h,hF,hT,hA=>by
   simp only [exprK,Except.ok.injEq] at h
   subst h
   simp only [exprL] at hF ⊢
   have hp:=to_placeT 1 { stp0 with code:=14 } w
   refine ⟨hA.to (Or.inl rfl) (right_gen ?_ ?_ ?_ (fit_k (hp.kind hF)) (fit0 _) (fit0 _) (fit0 _) ?_ ?_) ⟨?_,hp.fair hF h3,fair0,fair0,fair0,fair0,fair0,?_,?_,fun x hx=>by simp [stp0] at hx,Or.inr rfl⟩,hp⟩ <;> simp [Fair,stp0]
 | .var _ x,d,w,t,hf,h,hF,hT,hA=>by
   simp only [exprK] at h
   split at h
   · cases h
   · rename_i hx
     simp only [Except.ok.injEq] at h
     subst h
     exact ⟨hA,hT.names x hx⟩
 | .un _ op x,d,w,t,hf,h,hF,hT,hA=>by
   simp only [exprK] at h
   obtain ⟨t1,h1,h⟩:=bk h
   obtain ⟨_,h2,h⟩:=bk h
   rw [want_ok h2] at h1
   simp only [Except.ok.injEq] at h
   subst h
   simp only [Fit] at hf
   obtain ⟨d1,f1⟩:∃ d',Fit x d':=by
    have:=hf.2.2
    split at this
    · exact ⟨_,this.2⟩
    · exact ⟨_,this⟩
   simp only [exprL] at hF ⊢
   split at hF
   · rename_i hop
     rw [if_pos hop]
     have hF1:InR (exprL x w).2 F:=InR.tol hF
     obtain ⟨a1,a2⟩:=expr_good h3 hN x d1 w f1 h1 hF1 hT hA
     exact ⟨zero_good h3 a1 a2 (hT.expr x).none hF,to_placeT _ _ _⟩
   · rename_i hop
     rw [if_neg hop]
     have hF1:InR (exprL x w).2 F:=InR.tol hF
     obtain ⟨a1,a2⟩:=expr_good h3 hN x d1 w f1 h1 hF1 hT hA
     exact ⟨two_good h3 (by decide) a1 (hT.expr x).none a2 hF,to_placeT _ _ _⟩
 | .bin _ op l r,d,w,t,hf,h,hF,hT,hA=>by
   simp only [exprK] at h
   obtain ⟨t1,h1,h⟩:=bk h
   obtain ⟨_,h2,h⟩:=bk h
   rw [want_ok h2] at h1
   obtain ⟨t2,h4,h⟩:=bk h
   obtain ⟨_,h5,h⟩:=bk h
   rw [want_ok h5] at h4
   simp only [Except.ok.injEq] at h
   subst h
   simp only [Fit] at hf
   obtain ⟨d1,f1⟩:=fit_or hf.2.1
   obtain ⟨d2,f2⟩:=fit_or hf.2.2
   simp only [exprL] at hF ⊢
   split at hF
   · rename_i hop
     rw [if_pos hop]
     obtain ⟨ln,hln⟩:∃ ln,(labelL w).1=ln:=⟨_,rfl⟩
     have hll:ln=w.labels+1:=by rw [← hln];rfl
     obtain ⟨w0,hw0⟩:∃ w0,(labelL w).2=w0:=⟨_,rfl⟩
     rw [hln,hw0] at hF ⊢
     have hT0:NT w0 N:=hT.next (by rw [← hw0];rfl) (by rw [← hw0];rfl) (by rw [← hw0];exact List.prefix_refl _)
     have hA0:AllG Lt F w0:=by rw [← hw0];exact ⟨hA.steps,hA.types⟩
     have hlb:ln≤w0.labels:=by rw [← hw0,hll];exact Nat.le_refl _
     obtain ⟨w2,hw2⟩:∃ w2,addL { stp0 with code:=5,a:=(shortA op (exprL l w0).1 (exprL l w0).2).2.1,label:=(ln:Int) } (shortA op (exprL l w0).1 (exprL l w0).2).2.2=w2:=⟨_,rfl⟩
     rw [hw2] at hF ⊢
     obtain ⟨w4,hw4⟩:∃ w4,addL { stp0 with code:=3,op:=[33,61],dst:=(shortA op (exprL l w0).1 (exprL l w0).2).1,a:=(exprL r w2).1,b:=(exprL r w2).2.none } (exprL r w2).2=w4:=⟨_,rfl⟩
     rw [hw4] at hF ⊢
     have hF4:InR w4 F:=hF.addl
     have hF3:InR (exprL r w2).2 F:=by rw [← hw4] at hF4;exact hF4.addl
     have hF2:InR w2 F:=hF3.less (expr_new r w2) (expr_typ r w2)
     have hFs:InR (shortA op (exprL l w0).1 (exprL l w0).2).2.2 F:=by rw [← hw2] at hF2;exact hF2.addl
     have hF1:InR (exprL l w0).2 F:=hFs.less (new_short _ _ _) (short_typ _ _ _)
     obtain ⟨a1,a2⟩:=expr_good h3 hN l d1 w0 f1 h1 hF1 hT0 hA0
     obtain ⟨b1,b2,b3,b4,b5⟩:=short_good h3 (op:=op) a1 a2 (hT0.expr l).none hFs
     have hlab:hasLabel F (ln:Int)=true:=label_in (s:={ stp0 with code:=6,label:=(ln:Int) }) hF (by simp [addL]) rfl
     have hlf:Fair (ln:Int):=by
        have e1:w0.labels≤(exprL l w0).2.labels:=by obtain ⟨_,_,h2,_⟩:=expr_new l w0;exact h2
        have:=hF1.labels
        unfold Fair;omega
     have c1:AllG Lt F w2:=by
        rw [← hw2]
        refine b1.add (right_gen ?_ ?_ ?_ (fit0 _) (fit_k (b3.kind hFs)) (fit0 _) (fit0 _) (fun _=>hlab) ?_) ⟨?_,fair0,b3.fair hFs h3,fair0,fair0,fair0,hlf,?_,?_,fun x hx=>by simp [stp0] at hx,Or.inr rfl⟩ <;> simp [Fair,stp0]
     have hts:(shortA op (exprL l w0).1 (exprL l w0).2).2.2.types <+: w2.types:=by rw [← hw2];exact List.prefix_refl _
     have hT2:NT w2 N:=by
        refine (hT0.expr l).next ?_ ?_ ((short_typ op _ _).trans hts)
        · rw [← hw2];exact b4
        · rw [← hw2];exact b5
     obtain ⟨e1,e2⟩:=expr_good h3 hN r d2 w2 f2 h4 hF3 hT2 c1
     have hdst:=(b2.grow hts).grow (expr_typ r w2)
     have g1:AllG Lt F w4:=by
        rw [← hw4]
        refine e1.add (right_gen ?_ ?_ ?_ (fit_k (hdst.kind hF3)) (fit_k (e2.kind hF3)) (fit_k ((hT2.expr r).none.kind hF3)) (fit0 _) ?_ (fun _=>not_eq_in)) ⟨?_,hdst.fair hF3 h3,e2.fair hF3 h3,(hT2.expr r).none.fair hF3 h3,fair0,fair0,fair0,?_,?_,fun x hx=>by simp [stp0] at hx,Or.inr rfl⟩ <;> simp [Fair,stp0]
     refine ⟨g1.add (right_gen ?_ ?_ ?_ (fit0 _) (fit0 _) (fit0 _) (fit0 _) ?_ ?_) ⟨?_,fair0,fair0,fair0,fair0,fair0,hlf,?_,?_,fun x hx=>by simp [stp0] at hx,Or.inr rfl⟩,hdst.grow (by rw [← hw4];exact List.prefix_refl _)⟩ <;> simp [Fair,stp0]
   · rename_i hop
     rw [if_neg hop]
     have hF2:InR (exprL r (exprL l w).2).2 F:=InR.tol hF
     have hF1:InR (exprL l w).2 F:=hF2.less (expr_new r _) (expr_typ r _)
     obtain ⟨a1,a2⟩:=expr_good h3 hN l d1 w f1 h1 hF1 hT hA
     obtain ⟨b1,b2⟩:=expr_good h3 hN r d2 (exprL l w).2 f2 h4 hF2 (hT.expr l) a1
     exact ⟨two_good h3 ((op_in hf.1).resolve_right hop) b1 (a2.grow (expr_typ r _)) b2 hF,to_placeT _ _ _⟩
 | .call _ g l,d,w,t,hf,h,hF,hT,hA=>by
   simp only [exprK] at h
   simp only [Fit] at hf
   split at h
   · cases h
   · rename_i fn hfn
     split at h
     · rename_i hl
       obtain ⟨_,h1,h⟩:=bk h
       simp only [Except.ok.injEq] at h
       subst h
       simp only [exprL] at hF ⊢
       have hF1:InR (argsL l w).2 F:=InR.tol hF
       obtain ⟨a1,a2,a4⟩:=args_good h3 hN l (fn.params.map (·.2)) w (by rw [List.length_map];exact hl) hf.2.2 h1 hF1 hT hA
       have hp:=to_placeT 1 { stp0 with code:=7,name:=g,args:=(argsL l w).1 } w
       have hp:=to_placeT 1 { stp0 with code:=7,name:=g,args:=(argsL l w).1 } (argsL l w).2
       refine ⟨a1.to (Or.inl rfl) ?_ ⟨?_,hp.fair hF h3,fair0,fair0,fair0,fair0,fair0,?_,?_,a4,Or.inl rfl⟩,hp⟩
       · unfold rightB
         rw [if_neg (by simp),if_pos rfl]
         simp only
         rw [find_low,hfn]
         simp only [Option.map_some,Bool.and_eq_true,decide_eq_true_eq,beq_iff_eq]
         have hal:(argsL l w).1.length=fn.params.length:=by rw [argsL_len' l w,hl]
         refine ⟨⟨?_,hp.kind hF⟩,?_⟩
         · show ((argsL l w).1.length:Int)=(fn.params.length:Int)
           rw [hal]
         · rw [a2,hal,low_take]
       · simp [Fair]
       · simp [stp0]
       · have:=hf.2.1.2.2.2
         show g.length≤1000
         omega
     · cases h
 | .new _ x,d,w,t,hf,h,hF,hT,hA=>by
   simp only [exprK] at h
   obtain ⟨t1,h1,h⟩:=bk h
   obtain ⟨_,h2,h⟩:=bk h
   rw [want_ok h2] at h1
   simp only [Except.ok.injEq] at h
   subst h
   simp only [Fit] at hf
   simp only [exprL] at hF ⊢
   have hF1:InR (exprL x w).2 F:=InR.tol hF
   obtain ⟨a1,a2⟩:=expr_good h3 hN x _ w hf.2 h1 hF1 hT hA
   have hp:=to_placeT 2 { stp0 with code:=9,a:=(exprL x w).1 } (exprL x w).2
   refine ⟨a1.to (Or.inr rfl) (right_gen ?_ ?_ ?_ (fit_k (hp.kind hF)) (fit_k (a2.kind hF1)) (fit0 _) (fit0 _) ?_ ?_) ⟨?_,hp.fair hF h3,a2.fair hF1 h3,fair0,fair0,fair0,fair0,?_,?_,fun x hx=>by simp [stp0] at hx,Or.inr rfl⟩,hp⟩ <;> simp [Fair,stp0]
 | .len _ x,d,w,t,hf,h,hF,hT,hA=>by
   simp only [exprK] at h
   obtain ⟨t1,h1,h⟩:=bk h
   obtain ⟨_,h2,h⟩:=bk h
   rw [want_ok h2] at h1
   simp only [Except.ok.injEq] at h
   subst h
   simp only [Fit] at hf
   simp only [exprL] at hF ⊢
   have hF1:InR (exprL x w).2 F:=InR.tol hF
   obtain ⟨a1,a2⟩:=expr_good h3 hN x _ w hf.2 h1 hF1 hT hA
   have hp:=to_placeT 1 { stp0 with code:=10,a:=(exprL x w).1 } (exprL x w).2
   refine ⟨a1.to (Or.inl rfl) (right_gen ?_ ?_ ?_ (fit_k (hp.kind hF)) (fit_k (a2.kind hF1)) (fit0 _) (fit0 _) ?_ ?_) ⟨?_,hp.fair hF h3,a2.fair hF1 h3,fair0,fair0,fair0,fair0,?_,?_,fun x hx=>by simp [stp0] at hx,Or.inr rfl⟩,hp⟩ <;> simp [Fair,stp0]
 | .item _ x i,d,w,t,hf,h,hF,hT,hA=>by
   simp only [exprK] at h
   obtain ⟨t1,h1,h⟩:=bk h
   obtain ⟨_,h2,h⟩:=bk h
   rw [want_ok h2] at h1
   obtain ⟨t2,h4,h⟩:=bk h
   obtain ⟨_,h5,h⟩:=bk h
   rw [want_ok h5] at h4
   simp only [Except.ok.injEq] at h
   subst h
   simp only [Fit] at hf
   obtain ⟨d1,f1⟩:∃ d',Fit x d':=by
    have:=hf.2.1
    split at this
    · exact ⟨_,this⟩
    · exact fit_or this
   simp only [exprL] at hF ⊢
   have hF2:InR (exprL i (exprL x w).2).2 F:=InR.tol hF
   have hF1:InR (exprL x w).2 F:=hF2.less (expr_new i _) (expr_typ i _)
   obtain ⟨a1,a2⟩:=expr_good h3 hN x d1 w f1 h1 hF1 hT hA
   obtain ⟨b1,b2⟩:=expr_good h3 hN i _ (exprL x w).2 hf.2.2 h4 hF2 (hT.expr x) a1
   have a3:=a2.grow (expr_typ i _)
   have hp:=to_placeT 1 { stp0 with code:=11,a:=(exprL x w).1,b:=(exprL i (exprL x w).2).1 } (exprL i (exprL x w).2).2
   refine ⟨b1.to (Or.inl rfl) (right_gen ?_ ?_ ?_ (fit_k (hp.kind hF)) (fit_k (a3.kind hF2)) (fit_k (b2.kind hF2)) (fit0 _) ?_ ?_) ⟨?_,hp.fair hF h3,a3.fair hF2 h3,b2.fair hF2 h3,fair0,fair0,fair0,?_,?_,fun x hx=>by simp [stp0] at hx,Or.inr rfl⟩,hp⟩ <;> simp [Fair,stp0]
theorem args_good (h3:F.types.length≤3000) {N:Nm} (hN:TyN N):(l:List Ex)→(ks:List Int)→(w:Lw)→{d:Nat}→{u:Unit}→l.length=ks.length→Fits l d→argsK Lt N l ks=.ok u→InR (argsL l w).2 F→NT w N→AllG Lt F w→AllG Lt F (argsL l w).2∧(argsL l w).1.map (kindP F)=ks∧∀ x∈(argsL l w).1,Fair x
 | [],ks,w,d,u,hl,hf,h,hF,hT,hA=>by
   cases ks with
   | nil=>exact ⟨hA,rfl,fun x hx=>by simp [argsL] at hx⟩
   | cons _ _=>simp at hl
 | e::r,[],w,d,u,hl,hf,h,hF,hT,hA=>by simp at hl
 | e::r,k::ks,w,d,u,hl,hf,h,hF,hT,hA=>by
   simp only [argsK] at h
   simp only [Fits] at hf
   obtain ⟨t1,h1,h⟩:=bk h
   obtain ⟨_,h2,h⟩:=bk h
   rw [want_ok h2] at h1
   simp only [argsL] at hF ⊢
   have hF1:InR (exprL e w).2 F:=hF.less (args_new r _) (args_typ r _)
   obtain ⟨a1,a2⟩:=expr_good h3 hN e d w hf.1 h1 hF1 hT hA
   obtain ⟨b1,b2,b3⟩:=args_good h3 hN r ks (exprL e w).2 (by simpa using hl) hf.2 h hF (hT.expr e) a1
   refine ⟨b1,by rw [List.map_cons,b2,a2.kind hF1],fun x hx=>?_⟩
   rcases List.mem_cons.1 hx with rfl|hx
   · exact a2.fair hF1 h3
   · exact b3 x hx
end
end
end Go.Proofs.YtnicpmoanjddbaaGreatDoor.MidP.Sm

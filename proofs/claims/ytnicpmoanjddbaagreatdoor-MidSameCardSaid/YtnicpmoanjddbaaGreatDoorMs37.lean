/- Lower's steps may be: statements, functions, programs. No program in sight. No conditions. What is known of a program of which nothing is found, as the walks want it. No program in sight. No conditions. The law MidSame walked. Conditions: what the row lists lies as the program lays it. Slices of numbers, and texts, as the walks of the runner want them. No conditions. -/
import Derived.Test.YtnicpmoanjddbaaGreatDoorMs36
import Derived.Test.YtnicpmoanjddbaaGreatDoorMs11
import Derived.Test.YtnicpmoanjddbaaGreatDoorMs22
import Derived.Test.YtnicpmoanjddbaaGreatDoorMs32
import Derived.Test.YtnicpmoanjddbaaGreatDoorMs25
import Derived.Test.YtnicpmoanjddbaaGreatDoorMs01
namespace Go.Proofs.YtnicpmoanjddbaaGreatDoor.MidP.Sm
open Go.RowKit Go.Proofs.YtnicpmoanjddbaaGreatDoor.TreeP Go.Proofs.YtnicpmoanjddbaaGreatDoor.MidP
set_option linter.unusedVariables false
set_option linter.unusedSimpArgs false
section
variable {Lt:List TreeP.Fn} {F:Fm}
theorem label_fair {w:Lw} {n:Nat} (h:InR w F) (hn:n≤w.labels):Fair (n:Int):=by
 have:=h.labels
 unfold Fair
 omega
theorem lab_good {w:Lw} {n:Nat} (hA:AllG Lt F w) (hf:Fair (n:Int)):AllG Lt F (addL { stp0 with code:=6,label:=(n:Int) } w):=by
 refine hA.add (right_gen ?_ ?_ ?_ (fit0 _) (fit0 _) (fit0 _) (fit0 _) ?_ ?_) ⟨?_,fair0,fair0,fair0,fair0,fair0,hf,?_,?_,fun x hx=>by simp [stp0] at hx,Or.inr rfl⟩ <;> simp [Fair,stp0]
theorem jump_good {w:Lw} {n:Nat} (hA:AllG Lt F w) (hl:hasLabel F (n:Int)=true) (hf:Fair (n:Int)):AllG Lt F (addL { stp0 with code:=4,label:=(n:Int) } w):=by
 refine hA.add (right_gen ?_ ?_ ?_ (fit0 _) (fit0 _) (fit0 _) (fit0 _) (fun _=>hl) ?_) ⟨?_,fair0,fair0,fair0,fair0,fair0,hf,?_,?_,fun x hx=>by simp [stp0] at hx,Or.inr rfl⟩ <;> simp [Fair,stp0]
theorem branch_good (h3:F.types.length≤3000) {w:Lw} {n:Nat} {a:Int} (hA:AllG Lt F w) (ha:PlaceT w a 1) (hF:InR w F) (hl:hasLabel F (n:Int)=true) (hf:Fair (n:Int)):AllG Lt F (addL { stp0 with code:=5,a:=a,label:=(n:Int) } w):=by
 refine hA.add (right_gen ?_ ?_ ?_ (fit0 _) (fit_k (ha.kind hF)) (fit0 _) (fit0 _) (fun _=>hl) ?_) ⟨?_,fair0,ha.fair hF h3,fair0,fair0,fair0,hf,?_,?_,fun x hx=>by simp [stp0] at hx,Or.inr rfl⟩ <;> simp [Fair,stp0]
theorem one_good (h3:F.types.length≤3000) {w:Lw} {a:Int} (k:Int) (hk:k=8∨k=13) (hA:AllG Lt F w) (ha:PlaceT w a 1) (hF:InR w F):AllG Lt F (addL { stp0 with code:=k,a:=a } w):=by
 rcases hk with rfl|rfl
 · refine hA.add (right_gen ?_ ?_ ?_ (fit0 _) (fit_k (ha.kind hF)) (fit0 _) (fit0 _) ?_ ?_) ⟨?_,fair0,ha.fair hF h3,fair0,fair0,fair0,fair0,?_,?_,fun x hx=>by simp [stp0] at hx,Or.inr rfl⟩ <;> simp [Fair,stp0]
 · refine hA.add (right_gen ?_ ?_ ?_ (fit0 _) (fit_k (ha.kind hF)) (fit0 _) (fit0 _) ?_ ?_) ⟨?_,fair0,ha.fair hF h3,fair0,fair0,fair0,fair0,?_,?_,fun x hx=>by simp [stp0] at hx,Or.inr rfl⟩ <;> simp [Fair,stp0]
theorem move_good (h3:F.types.length≤3000) {w:Lw} {a d t:Int} (ht:t=1∨t=2) (hA:AllG Lt F w) (ha:PlaceT w a t) (hd:PlaceT w d t) (hF:InR w F):AllG Lt F (addL { stp0 with code:=2,dst:=d,a:=a } w):=by
 refine hA.add ?_ ⟨?_,hd.fair hF h3,ha.fair hF h3,fair0,fair0,fair0,fair0,?_,?_,fun x hx=>by simp [stp0] at hx,Or.inr rfl⟩
 · unfold rightB
   rw [if_pos rfl]
   simp only
   rw [hd.kind hF,ha.kind hF]
   rcases ht with rfl|rfl <;> decide
 all_goals simp [Fair,stp0]
theorem NT.label {w:Lw} {N:Nm} (h:NT w N):NT (labelL w).2 N:=⟨h.names,h.none⟩
theorem NT.addl {w:Lw} {N:Nm} (h:NT w N) (s:Stp):NT (addL s w) N:=⟨h.names,h.none⟩
theorem AllG.label {w:Lw} (h:AllG Lt F w):AllG Lt F (labelL w).2:=⟨h.steps,h.types⟩
mutual
theorem stmt_good (h3:F.types.length≤3000):(x:St)→(d:Nat)→{N N':Nm}→{m m':Nat}→(w:Lw)→FitS x d→stmtK Lt N m x=.ok (N',m')→TyN N→InR (stmtL x w) F→NT w N→AllG Lt F w→AllG Lt F (stmtL x w)∧NT (stmtL x w) N'∧TyN N'∧ExtN N N'
 | .var _ s v,d,N,N',m,m',w,hf,h,hN,hF,hT,hA=>by
   simp only [stmtK] at h
   simp only [FitS] at hf
   obtain ⟨t,h1,h⟩:=bk h
   obtain ⟨h2,rfl⟩:=addN_is h
   have ht:=exprK_ty hN v h1
   simp only [stmtL] at hF ⊢
   obtain ⟨kd,hkd⟩:∃ kd,(exprL v w).2.types.getD (exprL v w).1.toNat 0=kd:=⟨_,rfl⟩
   rw [hkd] at hF ⊢
   have hF2:InR (nameL s kd (exprL v w).2).2 F:=hF.addl
   have htn:(exprL v w).2.types <+: (nameL s kd (exprL v w).2).2.types:=⟨[kd],rfl⟩
   have hF1:InR (exprL v w).2 F:=⟨htn.trans hF2.types,hF2.steps,hF2.labels⟩
   obtain ⟨a1,a2⟩:=expr_good h3 hN v 0 w hf.2 h1 hF1 hT hA
   have hkt:kd=t:=by
    obtain ⟨p,e1,e2⟩:=a2
    rw [← hkd,e1,Int.toNat_natCast,List.getD_eq_getElem?_getD,e2]
    rfl
   subst hkt
   have hA2:AllG Lt F (nameL s kd (exprL v w).2).2:=by
    refine ⟨a1.steps,fun y hy=>?_⟩
    simp only [nameL,List.mem_append,List.mem_singleton] at hy
    rcases hy with hy|rfl
    · exact a1.types y hy
    · exact ht
   have hnew:PlaceT (nameL s kd (exprL v w).2).2 ((exprL v w).2.types.length:Int) kd:=⟨_,rfl,by simp [nameL]⟩
   have hT2:NT (nameL s kd (exprL v w).2).2 (N++[(s,kd)]):=by
    refine ⟨fun y hy=>?_,((hT.expr v).none.grow htn)⟩
    rw [findN_snoc hN] at hy ⊢
    show PlaceT _ (getN (putN (exprL v w).2.names s ((exprL v w).2.types.length:Int)) y) _
    rw [getN_put]
    by_cases hys:y=s
    · subst hys
      rw [if_neg (show ¬ findN N y≠0 by simpa using h2),if_pos rfl,if_pos rfl]
      exact hnew
    · rw [if_neg hys]
      rw [if_neg hys] at hy ⊢
      by_cases h0:findN N y≠0
      · rw [if_pos h0]
        exact ((hT.expr v).names y h0).grow htn
      · rw [if_neg h0] at hy;exact absurd rfl hy
   refine ⟨move_good h3 ht hA2 (a2.grow htn) hnew hF2,hT2.addl _,fun p hp=>?_,fun x hx=>?_⟩
   · rw [List.mem_append,List.mem_singleton] at hp
     rcases hp with hp|rfl
     · exact hN p hp
     · exact ht
   · rw [findN_snoc hN,if_pos hx]
 | .set _ s v,d,N,N',m,m',w,hf,h,hN,hF,hT,hA=>by
   simp only [stmtK] at h
   simp only [FitS] at hf
   split at h
   · cases h
   · rename_i h0
     obtain ⟨_,h1,h⟩:=bk h
     simp only [Except.ok.injEq,Prod.mk.injEq] at h
     obtain ⟨rfl,rfl⟩:=h
     simp only [stmtL] at hF ⊢
     have hF1:InR (exprL v w).2 F:=hF.addl
     obtain ⟨a1,a2⟩:=expr_good h3 hN v 0 w hf.2 (wantK_ok h1) hF1 hT hA
     have ht:=findN_one hN s
     exact ⟨move_good h3 (by omega) a1 a2 ((hT.expr v).names s h0) hF1,(hT.expr v).addl _,hN,ExtN.refl _⟩
 | .put _ s i v,d,N,N',m,m',w,hf,h,hN,hF,hT,hA=>by
   simp only [stmtK] at h
   simp only [FitS] at hf
   split at h
   · cases h
   · rename_i h0
     split at h
     · cases h
     · rename_i h02
       obtain ⟨_,h1,h⟩:=bk h
       obtain ⟨_,h2,h⟩:=bk h
       simp only [Except.ok.injEq,Prod.mk.injEq] at h
       obtain ⟨rfl,rfl⟩:=h
       simp only [stmtL] at hF ⊢
       have hF2:InR (exprL v (exprL i w).2).2 F:=hF.addl
       have hF1:InR (exprL i w).2 F:=hF2.less (expr_new v _) (expr_typ v _)
       obtain ⟨a1,a2⟩:=expr_good h3 hN i 1 w hf.2.1 (wantK_ok h1) hF1 hT hA
       obtain ⟨b1,b2⟩:=expr_good h3 hN v 0 (exprL i w).2 hf.2.2 (wantK_ok h2) hF2 (hT.expr i) a1
       have hT2:=(hT.expr i).expr v
       have hp:=hT2.names s h0
       rw [show findN N s=2 by omega] at hp
       have a3:=a2.grow (expr_typ v _)
       refine ⟨b1.add (right_gen ?_ ?_ ?_ (fit0 _) (fit_k (hp.kind hF2)) (fit_k (a3.kind hF2)) (fit_k (b2.kind hF2)) ?_ ?_) ⟨?_,fair0,hp.fair hF2 h3,a3.fair hF2 h3,b2.fair hF2 h3,fair0,fair0,?_,?_,fun x hx=>by simp [stp0] at hx,Or.inr rfl⟩,hT2.addl _,hN,ExtN.refl _⟩ <;> simp [Fair,stp0]
 | .cond _ v t e,d,N,N',m,m',w,hf,h,hN,hF,hT,hA=>by
   simp only [stmtK] at h
   simp only [FitS] at hf
   obtain ⟨_,h1,h⟩:=bk h
   obtain ⟨x,h2,h⟩:=bk h
   obtain ⟨y,h4,h⟩:=bk h
   simp only [Except.ok.injEq,Prod.mk.injEq] at h
   obtain ⟨rfl,rfl⟩:=h
   simp only [stmtL] at hF ⊢
   obtain ⟨l1,hl1⟩:∃ l1,(labelL w).1=l1:=⟨_,rfl⟩
   obtain ⟨l2,hl2⟩:∃ l2,(labelL (labelL w).2).1=l2:=⟨_,rfl⟩
   obtain ⟨w0,hw0⟩:∃ w0,(labelL (labelL w).2).2=w0:=⟨_,rfl⟩
   have q1:l1≤w0.labels∧l2≤w0.labels:=by rw [← hl1,← hl2,← hw0];simp [labelL]
   have hT0:NT w0 N:=by rw [← hw0];exact hT.label.label
   have hA0:AllG Lt F w0:=by rw [← hw0];exact hA.label.label
   rw [hl1,hl2,hw0] at hF ⊢
   obtain ⟨wb,hwb⟩:∃ wb,addL { stp0 with code:=5,a:=(exprL v w0).1,label:=(l1:Int) } (exprL v w0).2=wb:=⟨_,rfl⟩
   rw [hwb] at hF ⊢
   obtain ⟨w1,hw1⟩:∃ w1,blockL t wb=w1:=⟨_,rfl⟩
   rw [hw1] at hF ⊢
   obtain ⟨wk,hwk⟩:∃ wk,addL { stp0 with code:=4,label:=(l2:Int) } w1=wk:=⟨_,rfl⟩
   rw [hwk] at hF ⊢
   obtain ⟨wj,hwj⟩:∃ wj,addL { stp0 with code:=6,label:=(l1:Int) } wk=wj:=⟨_,rfl⟩
   rw [hwj] at hF ⊢
   obtain ⟨w2,hw2⟩:∃ w2,blockL e wj=w2:=⟨_,rfl⟩
   rw [hw2] at hF ⊢
   have i2:InR w2 F:=hF.addl
   have ij:InR wj F:=by rw [← hw2] at i2;exact i2.less (block_new e _) (block_typ e _)
   have ik:InR wk F:=by rw [← hwj] at ij;exact ij.addl
   have i1:InR w1 F:=by rw [← hwk] at ik;exact ik.addl
   have ib:InR wb F:=by rw [← hw1] at i1;exact i1.less (block_new t _) (block_typ t _)
   have ic:InR (exprL v w0).2 F:=by rw [← hwb] at ib;exact ib.addl
   have i0:InR w0 F:=ic.less (expr_new v _) (expr_typ v _)
   have f1:=label_fair i0 q1.1
   have f2:=label_fair i0 q1.2
   have hL1:hasLabel F (l1:Int)=true:=label_in (s:={ stp0 with code:=6,label:=(l1:Int) }) ij (by rw [← hwj];simp [addL]) rfl
   have hL2:hasLabel F (l2:Int)=true:=label_in (s:={ stp0 with code:=6,label:=(l2:Int) }) hF (by simp [addL]) rfl
   obtain ⟨a1,a2⟩:=expr_good h3 hN v 1 w0 hf.1 (wantK_ok h1) ic hT0 hA0
   have c1:AllG Lt F wb:=by rw [← hwb];exact branch_good h3 a1 a2 ic hL1 f1
   have c2:NT wb N:=by rw [← hwb];exact (hT0.expr v).addl _
   obtain ⟨e1,e2,e3,e4⟩:=block_good h3 t _ wb hf.2.2.1 h2 hN (by rw [hw1];exact i1) c2 c1
   rw [hw1] at e1 e2
   have g1:AllG Lt F wj:=by rw [← hwj,← hwk];exact lab_good (jump_good e1 hL2 f2) f1
   have g2:NT wj N:=by rw [← hwj,← hwk];exact ((e2.less e4).addl _).addl _
   obtain ⟨k1,k2,k3,k4⟩:=block_good h3 e _ wj hf.2.2.2 h4 hN (by rw [hw2];exact i2) g2 g1
   rw [hw2] at k1 k2
   exact ⟨lab_good k1 f2,(k2.less k4).addl _,hN,ExtN.refl _⟩
 | .loop _ v t,d,N,N',m,m',w,hf,h,hN,hF,hT,hA=>by
   simp only [stmtK] at h
   simp only [FitS] at hf
   obtain ⟨_,h1,h⟩:=bk h
   obtain ⟨x,h2,h⟩:=bk h
   simp only [Except.ok.injEq,Prod.mk.injEq] at h
   obtain ⟨rfl,rfl⟩:=h
   simp only [stmtL] at hF ⊢
   obtain ⟨l1,hl1⟩:∃ l1,(labelL w).1=l1:=⟨_,rfl⟩
   obtain ⟨l2,hl2⟩:∃ l2,(labelL (labelL w).2).1=l2:=⟨_,rfl⟩
   obtain ⟨w0,hw0⟩:∃ w0,(labelL (labelL w).2).2=w0:=⟨_,rfl⟩
   have q1:l1≤w0.labels∧l2≤w0.labels:=by rw [← hl1,← hl2,← hw0];simp [labelL]
   have hT0:NT w0 N:=by rw [← hw0];exact hT.label.label
   have hA0:AllG Lt F w0:=by rw [← hw0];exact hA.label.label
   rw [hl1,hl2,hw0] at hF ⊢
   obtain ⟨wh,hwh⟩:∃ wh,addL { stp0 with code:=6,label:=(l1:Int) } w0=wh:=⟨_,rfl⟩
   rw [hwh] at hF ⊢
   obtain ⟨wb,hwb⟩:∃ wb,addL { stp0 with code:=5,a:=(exprL v wh).1,label:=(l2:Int) } (exprL v wh).2=wb:=⟨_,rfl⟩
   rw [hwb] at hF ⊢
   obtain ⟨w1,hw1⟩:∃ w1,blockL t wb=w1:=⟨_,rfl⟩
   rw [hw1] at hF ⊢
   obtain ⟨wk,hwk⟩:∃ wk,addL { stp0 with code:=4,label:=(l1:Int) } w1=wk:=⟨_,rfl⟩
   rw [hwk] at hF ⊢
   have ik:InR wk F:=hF.addl
   have i1:InR w1 F:=by rw [← hwk] at ik;exact ik.addl
   have ib:InR wb F:=by rw [← hw1] at i1;exact i1.less (block_new t _) (block_typ t _)
   have ic:InR (exprL v wh).2 F:=by rw [← hwb] at ib;exact ib.addl
   have ih:InR wh F:=ic.less (expr_new v _) (expr_typ v _)
   have i0:InR w0 F:=by rw [← hwh] at ih;exact ih.addl
   have f1:=label_fair i0 q1.1
   have f2:=label_fair i0 q1.2
   have hL1:hasLabel F (l1:Int)=true:=label_in (s:={ stp0 with code:=6,label:=(l1:Int) }) ih (by rw [← hwh];simp [addL]) rfl
   have hL2:hasLabel F (l2:Int)=true:=label_in (s:={ stp0 with code:=6,label:=(l2:Int) }) hF (by simp [addL]) rfl
   have hTh:NT wh N:=by rw [← hwh];exact hT0.addl _
   have hAh:AllG Lt F wh:=by rw [← hwh];exact lab_good hA0 f1
   obtain ⟨a1,a2⟩:=expr_good h3 hN v 1 wh hf.1 (wantK_ok h1) ic hTh hAh
   have c1:AllG Lt F wb:=by rw [← hwb];exact branch_good h3 a1 a2 ic hL2 f2
   have c2:NT wb N:=by rw [← hwb];exact (hTh.expr v).addl _
   obtain ⟨e1,e2,e3,e4⟩:=block_good h3 t _ wb hf.2.2 h2 hN (by rw [hw1];exact i1) c2 c1
   rw [hw1] at e1 e2
   have g1:AllG Lt F wk:=by rw [← hwk];exact jump_good e1 hL1 f1
   have g2:NT wk N:=by rw [← hwk];exact (e2.less e4).addl _
   exact ⟨lab_good g1 f2,g2.addl _,hN,ExtN.refl _⟩
 | .ret _ v,d,N,N',m,m',w,hf,h,hN,hF,hT,hA=>by
   simp only [stmtK] at h
   simp only [FitS] at hf
   obtain ⟨_,h1,h⟩:=bk h
   simp only [Except.ok.injEq,Prod.mk.injEq] at h
   obtain ⟨rfl,rfl⟩:=h
   simp only [stmtL] at hF ⊢
   have hF1:InR (exprL v w).2 F:=hF.addl
   obtain ⟨a1,a2⟩:=expr_good h3 hN v 0 w hf (wantK_ok h1) hF1 hT hA
   exact ⟨one_good h3 8 (Or.inl rfl) a1 a2 hF1,(hT.expr v).addl _,hN,ExtN.refl _⟩
 | .print _ v,d,N,N',m,m',w,hf,h,hN,hF,hT,hA=>by
   simp only [stmtK] at h
   simp only [FitS] at hf
   obtain ⟨_,h1,h⟩:=bk h
   simp only [Except.ok.injEq,Prod.mk.injEq] at h
   obtain ⟨rfl,rfl⟩:=h
   simp only [stmtL] at hF ⊢
   have hF1:InR (exprL v w).2 F:=hF.addl
   obtain ⟨a1,a2⟩:=expr_good h3 hN v 0 w hf (wantK_ok h1) hF1 hT hA
   exact ⟨one_good h3 13 (Or.inr rfl) a1 a2 hF1,(hT.expr v).addl _,hN,ExtN.refl _⟩
 | .call _ v,d,N,N',m,m',w,hf,h,hN,hF,hT,hA=>by
   simp only [stmtK] at h
   simp only [FitS] at hf
   obtain ⟨_,h1,h⟩:=bk h
   simp only [Except.ok.injEq,Prod.mk.injEq] at h
   obtain ⟨rfl,rfl⟩:=h
   simp only [stmtL] at hF ⊢
   exact ⟨(expr_good h3 hN v 0 w hf.2 (wantK_ok h1) hF hT hA).1,hT.expr v,hN,ExtN.refl _⟩
theorem block_good (h3:F.types.length≤3000):(l:List St)→(d:Nat)→{N:Nm}→{y:Nm×Nat}→{m:Nat}→(w:Lw)→FitSs l d→stmtsK Lt N m l=.ok y→TyN N→InR (blockL l w) F→NT w N→AllG Lt F w→AllG Lt F (blockL l w)∧NT (blockL l w) y.1∧TyN y.1∧ExtN N y.1
 | [],d,N,y,m,w,hf,h,hN,hF,hT,hA=>by
   simp only [stmtsK,Except.ok.injEq] at h
   subst h
   exact ⟨hA,hT,hN,ExtN.refl _⟩
 | x::r,d,N,y,m,w,hf,h,hN,hF,hT,hA=>by
   simp only [stmtsK] at h
   simp only [FitSs] at hf
   obtain ⟨⟨N1,m1⟩,h1,h⟩:=bk h
   simp only [blockL] at hF ⊢
   obtain ⟨a1,a2,a3,a4⟩:=stmt_good h3 x d w hf.1 h1 hN (hF.less (block_new r _) (block_typ r _)) hT hA
   obtain ⟨b1,b2,b3,b4⟩:=block_good h3 r d (stmtL x w) hf.2 h a3 hF a2 a1
   exact ⟨b1,b2,b3,a4.trans b4⟩
end
end
theorem once_of:(l:List Stp)→(T:List Int)→(labs l).Nodup→(∀ x∈labs l,x ∉ T)→onceB T l=true
 | [],T,_,_=>rfl
 | s::r,T,h,hT=>by
   have h2:labs (s::r)=labs [s]++labs r:=labs_append [s] r
   simp only [onceB]
   by_cases hc:s.code=6
   · rw [if_pos hc]
     rw [h2,labs_one,if_pos hc] at h hT
     rw [if_neg (by simpa using hT s.label (by simp))]
     have h3:=List.nodup_append.1 h
     refine once_of r _ h3.2.1 (fun x hx hm=>?_)
     rw [List.mem_append,List.mem_singleton] at hm
     rcases hm with hm|rfl
     · exact hT x (by simp [hx]) hm
     · exact h3.2.2 s.label (by simp) s.label hx rfl
   · rw [if_neg hc]
     rw [h2,labs_one,if_neg hc,List.nil_append] at h hT
     exact once_of r T h hT
theorem op_nm {op:List UInt8} (h:∃ k,k<6∧op∈levelList.getD k []):nmOk op:=by
 have key:∀ k,k<6→∀ o∈levelList.getD k [],o.length≤2:=by decide
 obtain ⟨k,hk,h⟩:=h
 have:=key k hk op h
 unfold nmOk;omega
theorem name_nm {x:List UInt8} (h:NameOk x):nmOk x:=by
 have:=h.2.2.2
 unfold nmOk;omega
theorem exs_len:(l:List Ex)→l.length≤exsN l
 | []=>Nat.le_refl _
 | e::r=>by
   have:=exs_len r
   have:1≤exN e:=by cases e <;> simp only [exN] <;> omega
   simp only [exsN,List.length_cons];omega
mutual
theorem nm_of:(e:Ex)→(d:Nat)→Fit e d→exN e≤1000000→NmE e
 | .num _ _,d,hf,hn=>by simp only [NmE]
 | .var _ x,d,hf,hn=>by simp only [NmE,Fit] at hf ⊢;exact name_nm hf.2
 | .un _ op x,d,hf,hn=>by
   simp only [Fit] at hf
   simp only [exN] at hn
   obtain ⟨d1,f1⟩:∃ d',Fit x d':=by
    have:=hf.2.2
    split at this
    · exact ⟨_,this.2⟩
    · exact ⟨_,this⟩
   simp only [NmE]
   refine ⟨?_,nm_of x d1 f1 (by omega)⟩
   rcases hf.2.1 with rfl|rfl <;> simp [nmOk]
 | .bin _ op l r,d,hf,hn=>by
   simp only [Fit] at hf
   simp only [exN] at hn
   obtain ⟨d1,f1⟩:=fit_or hf.2.1
   obtain ⟨d2,f2⟩:=fit_or hf.2.2
   simp only [NmE]
   exact ⟨op_nm hf.1,nm_of l d1 f1 (by omega),nm_of r d2 f2 (by omega)⟩
 | .call _ g l,d,hf,hn=>by
   simp only [Fit] at hf
   simp only [exN] at hn
   have:=exs_len l
   simp only [NmE]
   exact ⟨name_nm hf.2.1,by omega,nms_of l _ hf.2.2 (by omega)⟩
 | .new _ x,d,hf,hn=>by simp only [Fit] at hf;simp only [exN] at hn;simp only [NmE];exact nm_of x _ hf.2 (by omega)
 | .len _ x,d,hf,hn=>by simp only [Fit] at hf;simp only [exN] at hn;simp only [NmE];exact nm_of x _ hf.2 (by omega)
 | .item _ x i,d,hf,hn=>by
   simp only [Fit] at hf
   simp only [exN] at hn
   obtain ⟨d1,f1⟩:∃ d',Fit x d':=by
    have:=hf.2.1
    split at this
    · exact ⟨_,this⟩
    · exact fit_or this
   simp only [NmE]
   exact ⟨nm_of x d1 f1 (by omega),nm_of i _ hf.2.2 (by omega)⟩
 | .input _,d,hf,hn=>by simp only [NmE]
theorem nms_of:(l:List Ex)→(d:Nat)→Fits l d→exsN l≤1000000→NmEs l
 | [],d,hf,hn=>by simp only [NmEs]
 | e::r,d,hf,hn=>by
   simp only [Fits] at hf
   simp only [exsN] at hn
   simp only [NmEs]
   exact ⟨nm_of e d hf.1 (by omega),nms_of r d hf.2 (by omega)⟩
end
mutual
theorem nmS_of:(s:St)→(d:Nat)→FitS s d→stN s≤1000000→NmS s
 | .var _ x v,d,hf,hn=>by simp only [FitS] at hf;simp only [stN] at hn;simp only [NmS];exact ⟨name_nm hf.1,nm_of v _ hf.2 (by omega)⟩
 | .set _ x v,d,hf,hn=>by simp only [FitS] at hf;simp only [stN] at hn;simp only [NmS];exact ⟨name_nm hf.1,nm_of v _ hf.2 (by omega)⟩
 | .put _ x i v,d,hf,hn=>by simp only [FitS] at hf;simp only [stN] at hn;simp only [NmS];exact ⟨name_nm hf.1,nm_of i _ hf.2.1 (by omega),nm_of v _ hf.2.2 (by omega)⟩
 | .cond _ v t e,d,hf,hn=>by simp only [FitS] at hf;simp only [stN] at hn;simp only [NmS];exact ⟨nm_of v _ hf.1 (by omega),nmSs_of t _ hf.2.2.1 (by omega),nmSs_of e _ hf.2.2.2 (by omega)⟩
 | .loop _ v t,d,hf,hn=>by simp only [FitS] at hf;simp only [stN] at hn;simp only [NmS];exact ⟨nm_of v _ hf.1 (by omega),nmSs_of t _ hf.2.2 (by omega)⟩
 | .ret _ v,d,hf,hn=>by simp only [FitS] at hf;simp only [stN] at hn;simp only [NmS];exact nm_of v _ hf (by omega)
 | .print _ v,d,hf,hn=>by simp only [FitS] at hf;simp only [stN] at hn;simp only [NmS];exact nm_of v _ hf (by omega)
 | .call _ v,d,hf,hn=>by simp only [FitS] at hf;simp only [stN] at hn;simp only [NmS];exact nm_of v _ hf.2 (by omega)
theorem nmSs_of:(l:List St)→(d:Nat)→FitSs l d→stsN l≤1000000→NmSs l
 | [],d,hf,hn=>by simp only [NmSs]
 | s::r,d,hf,hn=>by
   simp only [FitSs] at hf
   simp only [stsN] at hn
   simp only [NmSs]
   exact ⟨nmS_of s d hf.1 (by omega),nmSs_of r d hf.2 (by omega)⟩
end
theorem fn_good {Lt:List TreeP.Fn} {fn:TreeP.Fn} (hf:FitF fn) (hk:fnK Lt fn=.ok ()) (hc:cntF fn≤1200):fnB (lowP Lt) (lowF fn)=true∧(∀ s∈(lowF fn).steps,StpG s)∧(lowF fn).types.length≤3000∧(∀ t∈(lowF fn).types,t=1∨t=2)∧fn.params.length≤(lowF fn).types.length∧LowOk fn:=by
 unfold fnK at hk
 obtain ⟨⟨N1,m1⟩,h1,hk⟩:=bk hk
 obtain ⟨y,h2,-⟩:=bk hk
 obtain ⟨a1,a2,a3⟩:=params_is fn.params [] 0 (fun p hp=>(hf.2.1 p hp).2) tyN_nil h1
 simp only [List.nil_append] at a1
 subst a1
 have hty:TyN fn.params:=fun p hp=>(hf.2.1 p hp).2
 have hst:=stsN_cnt fn.body
 have hps:∀ l:List (List UInt8×Int),l.length≤cntPs l:=by
  intro l
  induction l with
  | nil=>exact Nat.le_refl _
  | cons a r ih =>
    cases r with
    | nil=>simp [cntPs]
    | cons b r=>simp only [cntPs,List.length_cons] at ih ⊢;omega
 have hpl:=hps fn.params
 unfold cntF at hc
 have hbm:=block_many fn.body (headL fn)
 have hht:(headL fn).types=fn.params.map (·.2)++[1]:=by
  show (parsL fn.params w00).types++[1]=_
  rw [pars_types]
  rfl
 obtain ⟨-,-,-,p4,p5⟩:=pars_rel fn.params w00 a2
 have hhs:(headL fn).steps=[{ stp0 with code:=1,dst:=(fn.params.length:Int) }]:=by
  rw [head_eq]
  simp only [toL,p4]
  have:=pars_types fn.params w00
  rw [this]
  simp [w00]
 have hhl:(headL fn).types.length=fn.params.length+1:=by rw [hht];simp
 have e1:(lowF fn).types=(blockL fn.body (headL fn)).types:=rfl
 have e2:(lowF fn).steps=(lowL fn).steps:=rfl
 have ht3:(lowF fn).types.length≤3000:=by rw [e1];omega
 have hsl:(lowF fn).steps.length=(blockL fn.body (headL fn)).steps.length+1:=by rw [e2];simp [lowL,addL]
 have hlow:InR (lowL fn) (lowF fn):=by
  refine ⟨List.prefix_refl _,List.prefix_refl _,?_⟩
  have b1:=block_sz fn.body (headL fn)
  have b2:=head_sz fn
  have b3:(lowL fn).labels=(blockL fn.body (headL fn)).labels:=rfl
  have b4:(blockL fn.body (headL fn)).labels≤(blockL fn.body (headL fn)).sz:=by unfold Lw.sz;omega
  omega
 have hib:InR (blockL fn.body (headL fn)) (lowF fn):=InR.addl (s:={ stp0 with code:=8,a:=(blockL fn.body (headL fn)).none }) hlow
 have hih:InR (headL fn) (lowF fn):=hib.less (block_new _ _) (block_typ _ _)
 have hnone:(headL fn).none=(fn.params.length:Int):=by
  rw [head_eq,pars_types]
  simp [w00]
 have hTh:NT (headL fn) fn.params:=by
  obtain ⟨-,r2,-,-,-⟩:=pars_rel fn.params w00 a2
  refine ⟨fun x hx=>?_,fn.params.length,hnone,by rw [hht];simp⟩
  unfold findN at hx ⊢
  cases hq:fn.params.find? (fun q=>q.1==x) with
  | none=>rw [hq] at hx;exact absurd rfl hx
  | some q =>
    simp only
    have hqm:=List.mem_of_find?_eq_some hq
    have hqx:q.1=x:=by have:=List.find?_some hq;simpa using this
    obtain ⟨i,hi,he⟩:=List.getElem_of_mem hqm
    have hi2:fn.params[i]?=some q:=by rw [List.getElem?_eq_getElem hi,he]
    refine ⟨i,?_,?_⟩
    · show getN (parsL fn.params w00).names x=_
      rw [← hqx,r2 i q hi2]
      simp [w00]
    · rw [hht,List.getElem?_append_left (by simpa using hi),List.getElem?_map,hi2]
      rfl
 have hAh:AllG Lt (lowF fn) (headL fn):=by
  have hpn:PlaceT (headL fn) (fn.params.length:Int) 1:=by have:=hTh.none;rw [hnone] at this;exact this
  refine ⟨fun s hs=>?_,fun t ht=>?_⟩
  · rw [hhs,List.mem_singleton] at hs
    subst hs
    refine ⟨right_gen ?_ ?_ ?_ (fit_k (hpn.kind hih)) (fit0 _) (fit0 _) (fit0 _) ?_ ?_,⟨?_,hpn.fair hih ht3,fair0,fair0,fair0,fair0,fair0,?_,?_,fun x hx=>by simp [stp0] at hx,Or.inr rfl⟩⟩ <;> simp [Fair,stp0]
  · rw [hht,List.mem_append,List.mem_singleton] at ht
    rcases ht with ht|rfl
    · obtain ⟨p,hp,rfl⟩:=List.mem_map.1 ht
      exact hty p hp
    · exact Or.inl rfl
 obtain ⟨g1,g2,g3,g4⟩:=block_good (F:=lowF fn) ht3 fn.body 0 (headL fn) hf.2.2 h2 hty hib hTh hAh
 have hAll:AllG Lt (lowF fn) (lowL fn):=one_good ht3 8 (Or.inl rfl) g1 g2.none hib
 refine ⟨?_,fun s hs=>(hAll.steps s hs).2,ht3,hAll.types,?_,?_⟩
 · unfold fnB
   simp only [Bool.and_eq_true,decide_eq_true_eq]
   refine ⟨⟨⟨⟨⟨⟨ht3,by omega⟩,?_⟩,?_⟩,?_⟩,?_⟩,?_⟩
   · rw [hsl]
     rw [hhs] at hbm
     simp only [List.length_singleton] at hbm
     omega
   · rw [e2]
     simp [lowL,addL]
   · rw [List.all_eq_true]
     intro t ht
     have:=hAll.types t ht
     rcases this with rfl|rfl <;> decide
   · refine once_of _ [] ?_ (fun x _=>by simp)
     obtain ⟨d,q1,q2,q3,q4⟩:=block_new fn.body (headL fn)
     rw [e2]
     simp only [lowL,addL]
     rw [q1,labs_append,labs_append,head_labs fn a2,labs_one,if_neg (by simp)]
     simpa using q4
   · rw [List.all_eq_true]
     exact fun s hs=>(hAll.steps s hs).1
 · rw [e1]
   have:=(block_typ fn.body (headL fn)).length_le
   omega
 · refine ⟨fun p hp=>?_,?_,by omega⟩
   · have:=(hf.2.1 p hp).1.2.2.2
     unfold nmOk
     omega
   · exact nmSs_of fn.body 0 hf.2.2 (by omega)
theorem cntFs_in {L:List TreeP.Fn} {fn:TreeP.Fn} (h:fn∈L):cntF fn≤cntFs L:=by
 induction L with
 | nil=>cases h
 | cons a r ih =>
   simp only [cntFs]
   rcases List.mem_cons.1 h with rfl|h
   · omega
   · have:=ih h;omega
theorem heads_of:(L A:List TreeP.Fn)→{u:Unit}→twiceK A L=.ok u→(∀ fn∈L,fn.params.length≤(lowF fn).types.length)→headsB (A.map lowF) (L.map lowF)=true
 | [],A,u,_,_=>rfl
 | f::r,A,u,h,hp=>by
   simp only [twiceK] at h
   split at h
   · cases h
   · rename_i h1
     have h2:=heads_of r (A++[f]) h (fun fn hfn=>hp fn (List.mem_cons_of_mem _ hfn))
     simp only [List.map_append,List.map_cons,List.map_nil] at h2
     simp only [List.map_cons,headsB]
     rw [if_neg,h2]
     have h3:=hp f List.mem_cons_self
     intro hc
     rcases hc with hc|hc|hc
     · have:(lowF f).params=(f.params.length:Int):=rfl
       omega
     · have:(lowF f).params=(f.params.length:Int):=rfl
       omega
     · refine h1 ?_
       rw [List.any_eq_true] at hc ⊢
       obtain ⟨x,hx,he⟩:=hc
       obtain ⟨y,hy,rfl⟩:=List.mem_map.1 hx
       exact ⟨y,hy,he⟩
structure Fine (L:List TreeP.Fn):Prop where
 seen:∀ fn∈L,SeenF L 10000 fn
 low:∀ fn∈L,LowOk fn
 code:codeB (lowP L)=true
 steps:∀ F∈lowP L,(∀ s∈F.steps,StpG s)∧F.types.length≤3000∧(∀ t∈F.types,t=1∨t=2)∧0<F.steps.length∧F.name.length≤1000∧0≤F.params∧F.params≤3000
 main:∃ fn,fnOf L [109,97,105,110]=some fn∧fn.params=[]
theorem fine_of {L:List TreeP.Fn} (hfit:∀ x∈L,FitF x) (hfew:L.length≤12) (hcnt:cntFs L≤1200) (h1:twiceK [] L=.ok ()) (h2:∀ fn∈L,fnK L fn=.ok ()) (h3:L.any mainB=true):Fine L:=by
 have hg:=fun fn (hm:fn∈L)=>fn_good (Lt:=L) (hfit fn hm) (h2 fn hm) (Nat.le_trans (cntFs_in hm) hcnt)
 refine ⟨fun fn hm=>seenF_of (hfit fn hm) (h2 fn hm) ?_,fun fn hm=>(hg fn hm).2.2.2.2.2,?_,fun F hF=>?_,?_⟩
 · have:=cntFs_in hm
   unfold cntF at this
   omega
 · unfold codeB
   simp only [Bool.and_eq_true,decide_eq_true_eq]
   refine ⟨⟨⟨by simpa [lowP] using hfew,heads_of L [] h1 (fun fn hm=>(hg fn hm).2.2.2.2.1)⟩,?_⟩,?_⟩
   · rw [List.all_eq_true]
     intro F hF
     obtain ⟨fn,hm,rfl⟩:=List.mem_map.1 hF
     exact (hg fn hm).1
   · rw [List.any_eq_true] at h3 ⊢
     obtain ⟨fn,hm,he⟩:=h3
     refine ⟨lowF fn,List.mem_map_of_mem hm,?_⟩
     unfold mainB at he
     simp only [Bool.and_eq_true,beq_iff_eq] at he ⊢
     refine ⟨he.1,?_⟩
     show ((fn.params.length:Nat):Int)=0
     omega
 · obtain ⟨fn,hm,rfl⟩:=List.mem_map.1 hF
   obtain ⟨g1,g2,g3,g4,g5,g6⟩:=hg fn hm
   refine ⟨g2,g3,g4,?_,?_,?_,?_⟩
   · show 0<(lowL fn).steps.length
     simp [lowL,addL]
   · have:=(hfit fn hm).1.2.2.2
     show fn.name.length≤1000
     omega
   · show 0≤((fn.params.length:Nat):Int)
     omega
   · show ((fn.params.length:Nat):Int)≤3000
     omega
 · obtain ⟨fn,hm,he⟩:=List.any_eq_true.1 h3
   have hone:∀ (l A:List TreeP.Fn) (u:Unit),twiceK A l=.ok u→(∀ x∈l,∀ y∈A,y.name≠x.name)∧∀ x∈l,fnOf l x.name=some x:=by
    intro l
    induction l with
    | nil=>intro A u _;exact ⟨fun x hx=>(by cases hx),fun x hx=>(by cases hx)⟩
    | cons a r ih =>
      intro A u h
      simp only [twiceK] at h
      split at h
      · cases h
      · rename_i hno
        obtain ⟨i1,i2⟩:=ih (A++[a]) u h
        have hno2:∀ y∈A,y.name≠a.name:=fun y hy e=>hno (List.any_eq_true.2 ⟨y,hy,by simpa using e⟩)
        refine ⟨fun x hx y hy=>?_,fun x hx=>?_⟩
        · rcases List.mem_cons.1 hx with rfl|hx
          · exact hno2 y hy
          · exact i1 x hx y (List.mem_append_left _ hy)
        · unfold fnOf
          rcases List.mem_cons.1 hx with rfl|hx
          · simp [List.find?_cons]
          · have hne:=i1 x hx a (by simp)
            rw [List.find?_cons]
            have:(a.name==x.name)=false:=by simpa using hne
            rw [this]
            exact i2 x hx
   unfold mainB at he
   simp only [Bool.and_eq_true,beq_iff_eq,List.length_eq_zero_iff] at he
   have:=(hone L [] () h1).2 fn hm
   rw [he.1] at this
   exact ⟨fn,this,he.2⟩
theorem Fine.same {L:List TreeP.Fn} (h:Fine L) {f:Nat} {given:List Int} {r:Int×Int×List Int} (hr:runR L f given 150=some r) (h6:r.1≠6):Soon (fun n=>runM (lowP L) n given 1510000) r:=by
 obtain ⟨fn,hm,hp⟩:=h.main
 exact run_sim (C:=10000) h.seen hm hp (by decide) hr h6
end Go.Proofs.YtnicpmoanjddbaaGreatDoor.MidP.Sm
namespace Go.Proofs.YtnicpmoanjddbaaGreatDoor.MidP
open Go.RowKit Go.Proofs.YtnicpmoanjddbaaGreatDoor.Wo Go.Maps Go.Proofs.YtnicpmoanjddbaaGreatDoor.TreeP
set_option linter.unusedVariables false
set_option linter.unusedSimpArgs false
theorem stp_of_g {s:Stp} (h:Sm.StpG s):StpOk s:=by
 obtain ⟨h1,h2,h3,h4,h5,h6,h7,h8,h9,h10,-⟩:=h
 exact ⟨⟨h1,h2,h3,h4,h5,h6,h7⟩,⟨by unfold maxLen;omega,by unfold maxLen;omega⟩,h10⟩
theorem fine_fms {L:List TreeP.Fn} (h:Sm.Fine L):∀ f∈lowP L,FmOk f:=by
 intro f hf
 obtain ⟨h1,h2,h3,h4,h5,h6,h7⟩:=h.steps f hf
 refine ⟨by unfold maxLen;omega,by unfold I64;omega,fun x hx=>?_,fun s hs=>stp_of_g (h1 s hs)⟩
 have:=h3 x hx
 unfold I64;omega
theorem fine_read {s:List UInt8} {L:List TreeP.Fn} (hr:ReadTo s (.ok L)) (hs:s.length≤1200) (hc:checkOk L):Sm.Fine L:=by
 have hp:=read_prog hr
 have h1:=read_few hr
 refine Sm.fine_of hp.fit hp.few (by omega) ?_ hc.2.1 hc.2.2
 have h2:=(checkOk_iff L).2 hc
 obtain ⟨u,h3,-⟩:=Sm.bk h2
 exact h3
theorem fine_steps {L:List TreeP.Fn} (h:Sm.Fine L):0<stepsN (lowP L)∧stepsN (lowP L)≤1000000000:=by
 have hcode:=h.code
 unfold codeB at hcode
 simp only [Bool.and_eq_true,decide_eq_true_eq,List.all_eq_true] at hcode
 have hlen:=hcode.1.1.1
 have hall:=hcode.1.2
 have key:∀ l:List Fm,(∀ f∈l,f.steps.length≤6000∧0<f.steps.length)→stepsN l≤6000*l.length∧l.length≤stepsN l:=by
  intro l
  induction l with
  | nil=>intro _;exact ⟨Nat.zero_le _,Nat.zero_le _⟩
  | cons a r ih =>
    intro hh
    obtain ⟨i1,i2⟩:=ih (fun f hf=>hh f (List.mem_cons_of_mem _ hf))
    have:=hh a List.mem_cons_self
    simp only [stepsN,List.length_cons]
    omega
 obtain ⟨k1,k2⟩:=key (lowP L) (fun f hf=>by
  have:=hall f hf
  unfold fnB at this
  simp only [Bool.and_eq_true,decide_eq_true_eq] at this
  exact ⟨this.1.1.1.1.2,(h.steps f hf).2.2.2.1⟩)
 have hpos:0<(lowP L).length:=by
  obtain ⟨fn,hm,-⟩:=h.main
  have:=List.mem_of_find?_eq_some hm
  unfold lowP
  rw [List.length_map]
  exact List.length_pos_of_mem this
 omega
theorem ms_ends {L:List TreeP.Fn} (h:Sm.Fine L) (given:List Int):∃ f x,runR L f given 150=some x∧(x.1≠6→∃ g,runC (lowP L) g given 1510000=some x):=by
 obtain ⟨f,x,hx⟩:=run_soon L given 150
 refine ⟨f,x,hx f (Nat.le_refl _),fun h6=>?_⟩
 obtain ⟨n,hn⟩:=h.same (hx f (Nat.le_refl _)) h6
 exact ⟨n,by unfold runC;rw [if_pos h.code];exact hn n (Nat.le_refl _)⟩
theorem err_next {W W':World} (h:ErrP.ErrLaid W) (hm:Mods None W W'):ErrP.ErrLaid W':=hm.cellOf h (fun f=>f)
theorem end_is {W:World} {x:Int×Int×List Int} {v:Value} (h:TreeP.EndV W x v):EndV W x v:=h
set_option maxRecDepth 100000 in
set_option maxHeartbeats 1000000 in
theorem ms_walk (s:List UInt8) (gv:Value) (given:List Int) (W:World) (hs64:s.length≤9223372036854775807) (hg:InAt W None gv given) (hg0:∀ n c,gv=.slice none n c→c=0) (hLd:TreeP.Laid W) (hFo:FormsAt W) (hOp:OpsAt W) (hE:ErrP.ErrLaid W) :
 Calls Tryz.prog 4 #[TreeP.str s,gv] W fun e w=>e=.returned (.bool true)∧Mods None W w:=by
 obtain ⟨ga,gn,gc,rfl,hgn,hgc1,hgc2,hgs⟩:=hg
 have HGI:Hid (InAt W None (.slice ga gn gc) given):=hiD ⟨ga,gn,gc,rfl,hgn,hgc1,hgc2,hgs⟩
 have HG0:=hiD hg0
 have HFO:=hiD (And.intro hLd (And.intro hFo (And.intro hOp hE)))
 have HGN:=hiD hgn
 unfold maxLen at hgc2
 by_cases h12:1200<s.length
 · unfold TreeP.str
   have h12i:(s.length:Int) > 1200:=by omega
   clear hg0 hLd hFo hOp hE hgs hgn
   go_enter Tryz.func4,Tryz.ntmps4
   go_wp2_with fail
   go_ret
   exact ⟨rfl,by first|exact Mods.refl _ _|exact (Mods.refl _ _).drew⟩
 have h12i:¬ (s.length:Int) > 1200:=by omega
 by_cases h20:gn≤20
 rotate_left
 · unfold TreeP.str
   have hg1:(gn:Int) > 20:=by omega
   clear hg0 hLd hFo hOp hE hgs hgn h20
   go_enter Tryz.func4,Tryz.ntmps4
   go_wp2_with fail
   go_ret
   exact ⟨rfl,by first|exact Mods.refl _ _|exact (Mods.refl _ _).drew⟩
 have hg1:¬ (gn:Int) > 20:=by omega
 have HLW:=hiD (lowered_yes W hLd hFo hOp)
 obtain ⟨x,hx⟩:=read_any s
 have HP:=hiD (fun (w:World) (hm:Mods None W w)=>parse_laid (s:=s) (x:=x) w (HFO.out.1.next hm) (by omega) hx)
 have HX:=hiD hx
 have HS:=hiD h12
 unfold TreeP.str at *
 clear hg0 hLd hFo hOp hE hgs hgn hx
 go_enter Tryz.func4,Tryz.ntmps4
 go_wp2_with fail
 go_at_call 7
 refine HLW.out.mono ?_
 rintro e w1 ⟨rfl,hm1⟩
 have HM1:=hiD hm1
 clear hm1 HLW
 go_wp2_with fail
 go_at_call 13
 refine (HP.out w1 HM1.out).mono ?_
 cases x with
 | error p =>
   obtain ⟨pn,pa⟩:=p
   rintro e w2 ⟨g,rfl,hb,hm2⟩
   have HM2:=hiD (HM1.out.trans hm2)
   clear hb hm2
   go_wp2_with fail
   go_ret
   exact ⟨rfl,by first|exact HM2.out|exact HM2.out.drew⟩
 | ok L =>
   rintro e w2 ⟨v,vs,rfl,hv1,hv2,hm2⟩
   obtain ⟨a,c,rfl⟩:=low_form hv1.1
   have hfs:FsAt w2 None (.slice a L.length c) L:=fs_of_row hv1.1 hv2 (fun _ _ f=>f)
   have HF:=hiD hfs
   have HM2:=hiD (HM1.out.trans hm2)
   have HCK:=hiD (fun (w:World) (hm:Mods None w2 w)=>check_any L (.slice a L.length c) w (HF.out.mods hm (fun _ _ f=>f)))
   obtain ⟨ln,hln⟩:∃ ln,ln=L.length:=⟨_,rfl⟩
   rw [← hln] at HF HCK
   have HLN:=hiD hln
   rw [← hln]
   clear hv1 hv2 hm2 hfs HM1 hln HP
   obtain ⟨ck,hck⟩:∃ ck,checkR L=ck:=⟨_,rfl⟩
   rw [hck] at HCK
   cases ck with
   | error q =>
     obtain ⟨qn,qa⟩:=q
     have HLN:=hiD (fun (w:World) (hm:Mods None w2 w)=>lower_no (R:=fun g w'=>Blk w' g [.int .i64 qn,.int .i64 qa] 136∧Mods None w w') a ln c w (HCK.out w hm))
     go_wp2_with fail
     go_at_call 14
     refine (HLN.out w2 (Mods.refl _ _)).mono ?_
     rintro e w3 ⟨g,rfl,hb,hm3⟩
     have HM3:=hiD hm3
     have HB:=hiD hb
     clear hb hm3 HLN
     go_wp2_with fail
     go_at_call 15
     refine (HCK.out w3 HM3.out).mono ?_
     rintro e w4 ⟨g2,rfl,hb2,hm4⟩
     have HB4:=hiD (And.intro (HB.out.mods hm4 (fun f=>f)) hb2)
     have HM4:=hiD (HM2.out.trans (HM3.out.trans hm4))
     clear hb2 hm4 HB HM3
     go_wp2_with fail
     go_at_call 16
     refine (ErrP.tell_at qn qa g w4 (err_next HFO.out.2.2.2 HM4.out) HB4.out.1).mono ?_
     rintro e w5 ⟨rfl,hm5⟩
     have HB5:=hiD (HB4.out.2.mods hm5 (fun f=>f))
     have HM5:=hiD (HM4.out.trans hm5)
     clear hm5 HB4 HM4
     go_wp2_with fail
     go_at_call 16
     refine (ErrP.tell_at qn qa g2 w5 (err_next HFO.out.2.2.2 HM5.out) HB5.out).mono ?_
     rintro e w6 ⟨rfl,hm6⟩
     have HM6:=hiD (HM5.out.trans hm6)
     clear hm6
     have hqq:(qn==qn)=true:=beq_self_eq_true _
     go_wp2_with fail
     go_ret
     exact ⟨rfl,by first|exact HM6.out|exact HM6.out.drew⟩
   | ok b =>
     cases b with
     | false =>
       have HLN:=hiD (fun (w:World) (hm:Mods None w2 w)=>lower_none (R:=fun _ w'=>Mods None w w') a ln c w ((HCK.out w hm).mono fun e w' h=>⟨(),h.1,h.2⟩))
       go_wp2_with fail
       go_at_call 14
       refine (HLN.out w2 (Mods.refl _ _)).mono ?_
       rintro e w3 ⟨-,rfl,hm3⟩
       have HM3:=hiD hm3
       clear hm3 HLN
       go_wp2_with fail
       go_at_call 15
       refine (HCK.out w3 HM3.out).mono ?_
       rintro e w4 ⟨rfl,hm4⟩
       have HM4:=hiD (HM2.out.trans (HM3.out.trans hm4))
       clear hm4 HM3
       go_wp2_with fail
       go_at_call 16
       refine (ErrP.tell_errno 8 w4 (err_next HFO.out.2.2.2 HM4.out)).mono ?_
       rintro e w5 ⟨rfl,hm5⟩
       have HM5:=hiD (HM4.out.trans hm5)
       clear hm5 HM4
       go_wp2_with fail
       go_at_call 16
       refine (ErrP.tell_errno 8 w5 (err_next HFO.out.2.2.2 HM5.out)).mono ?_
       rintro e w6 ⟨rfl,hm6⟩
       have HM6:=hiD (HM5.out.trans hm6)
       clear hm6
       go_wp2_with fail
       go_ret
       exact ⟨rfl,by first|exact HM6.out|exact HM6.out.drew⟩
     | true =>
       have hco:checkOk L:=(checkOk_iff L).1 (by rw [← hck];rfl)
       have hfine:=fine_read HX.out (by have:=HS.out;omega) hco
       obtain ⟨f,⟨x1,x2,o⟩,hr1,hr2⟩:=ms_ends hfine given
       have HLW:=hiD (fun (w:World) (hm:Mods None w2 w)=>lower_ok L (.slice a ln c) w (HF.out.mods hm (fun _ _ f=>f)) hfine.low (by have:=(read_prog HX.out).few;omega) (HCK.out w hm))
       have HRUN:=hiD (fun (w:World) (hm:Mods None w2 w)=>run_good HX.out hco f given 150 (x1,x2,o) hr1 (.slice a ln c) (.slice ga gn gc) w (HF.out.mods hm (fun _ _ f=>f)) (HGI.out.mods ((HM2.out.trans hm)) (fun _ _ f=>f)) HG0.out (by have:=HGN.out;omega) (by decide) (by decide))
       have HFINE:=hiD hfine
       have HR2:=hiD hr2
       clear hfine hr1 hr2 hck hco
       go_wp2_with fail
       go_at_call 14
       refine (HLW.out w2 (Mods.refl _ _)).mono ?_
       rintro e w3 ⟨pb,lv,rfl,hpb,hlv,hm3⟩
       have HM3:=hiD hm3
       have HAT:=hiD (fun (w:World) (hm:Mods None w3 w)=>(⟨hm.cellOf hpb (fun f=>f),hlv.mods hm (fun _ _ f=>f),(HFO.out.2.1.mods (HM2.out.trans hm3)).mods hm,(HFO.out.2.2.1.mods (HM2.out.trans hm3)).mods hm⟩:w.cell? ⟨pb,0,none⟩=some lv∧FmsAt w None lv (lowP L)∧FormsAt w∧OpsAt w))
       have hrc:=fun (w:World) (hm:Mods None w3 w)=>rightc_any (lowP L) pb lv w (HAT.out w hm).1 (HAT.out w hm).2.1 (HAT.out w hm).2.2.1 (HAT.out w hm).2.2.2 (fun f hf s hs=>((fine_fms HFINE.out f hf).steps s hs).nums.2.2.2.2.2.2)
       rw [HFINE.out.code] at hrc
       have HRC:=hiD hrc
       have HSTP:=hiD (fun (w:World) (hm:Mods None w3 w)=>steps_any (lowP L) pb lv w (HAT.out w hm).1 (HAT.out w hm).2.1 (fine_steps HFINE.out).2)
       clear hpb hlv hm3 hrc HLW
       go_wp2_with fail
       go_at_call 15
       refine (HCK.out w3 HM3.out).mono ?_
       rintro e w4 ⟨rfl,hm4⟩
       have HM4:=hiD hm4
       clear hm4
       go_wp2_with fail
       go_at_call 17
       refine (HRUN.out w4 (HM3.out.trans HM4.out)).mono ?_
       rintro e w5 ⟨u,rfl,hu,hm5⟩
       have HU:=hiD (end_is hu)
       have HM5:=hiD (HM4.out.trans hm5)
       clear hu hm5 HRUN HCK HM4
       obtain ⟨xa,xn,xc,rfl,hxn,hxc1,hxc2,hxi,hx0⟩:=HU.out.form
       simp only at hxi hxn ⊢
       clear hxn hxi hx0 hxc1 hxc2
       obtain ⟨W6,hW6⟩:∃ W6,W6=w5.alloc (.cells #[.int .i64 x1,.int .i64 x2,.slice xa xn xc] 31):=⟨_,rfl⟩
       have hm6:Mods None w5 W6:=by rw [hW6];exact (Mods.refl _ _).alloc _
       have hb6:Blk W6 w5.heap.size [.int .i64 x1,.int .i64 x2,.slice xa xn xc] 31:=by rw [hW6];exact Blk.new w5 _ _
       obtain ⟨q,hq⟩:∃ q,q=w5.heap.size:=⟨_,rfl⟩
       rw [← hq] at hb6
       have HM6:=hiD (HM5.out.trans hm6)
       have cx0:=hb6.cell (i:=0) rfl
       have cx1:=hb6.cell (i:=1) rfl
       have cx2:=hb6.cell (i:=2) rfl
       have HUQ:=hiD (HU.out.mods hm6)
       clear hm6 hb6 HU
       go_upto_region 13 with (fail)
       rw [← hW6,← hq]
       clear hW6 hq
       by_cases h6:x1=6
       · subst h6
         have g6:((6:Int)==6)=true:=rfl
         go_wp2_with fail
         go_at_call 10
         refine (HRC.out W6 HM6.out).mono ?_
         rintro e w7 ⟨rfl,hm7⟩
         have HM7:=hiD (HM2.out.trans (HM3.out.trans (HM6.out.trans hm7)))
         clear hm7
         go_wp2_with fail
         go_ret
         exact ⟨rfl,by first|exact HM7.out|exact HM7.out.drew⟩
       · have g6:(x1==6)=false:=by rw [beq_eq_false_iff_ne];exact h6
         obtain ⟨g,hg⟩:=HR2.out h6
         have HRN:=hiD (fun (w:World) (hm:Mods None w3 w)=>mrun_any (fine_fms HFINE.out) g given 1510000 (x1,x2,o) hg pb lv (.slice ga gn gc) w (HAT.out w hm).1 (HAT.out w hm).2.1 (HAT.out w hm).2.2.1 (HAT.out w hm).2.2.2 (HGI.out.mods (HM2.out.trans (HM3.out.trans hm)) (fun _ _ f=>f)) HG0.out (by have:=HGN.out;omega) (by decide) (by decide))
         obtain ⟨sn,hsn⟩:∃ sn,sn=stepsN (lowP L):=⟨_,rfl⟩
         rw [← hsn] at HSTP
         have hsp:(sn:Int) > 0:=by have:=(fine_steps HFINE.out).1;omega
         have hsd:decide ((0:Int)<(sn:Int))=true:=decide_eq_true hsp
         have hse:decide (0<sn)=true:=decide_eq_true (by omega)
         have hsf:0<sn:=by omega
         clear h6 hg hsn
         go_wp2_with fail
         go_region_held3 (fun w'=>Hid (Mods None W6 w')∧w'.cell? ⟨q,0,none⟩=some (.int .i64 x1)∧w'.cell? ⟨q,1,none⟩=some (.int .i64 x2)∧w'.cell? ⟨q,2,none⟩=some (.slice xa xn xc))
          (first
           | exact ⟨hiD (Mods.refl _ _).drew,cx0,cx1,cx2⟩
           | assumption
           | (go_split_ands;exact ⟨hiD (Mods.trans (Hid.out ‹_›) hm),hm.cellOf ‹_› (fun f=>f),hm.cellOf ‹_› (fun f=>f),hm.cellOf ‹_› (fun f=>f)⟩))
          ((first
            | (go_at_call 10;go_split_ands;refine (HRC.out _ (HM6.out.trans (Hid.out ‹Hid (Mods None W6 _)›))).mono ?_;rintro e w7 ⟨rfl,hm⟩)
            | (go_at_call 18;go_split_ands;refine (HSTP.out _ (HM6.out.trans (Hid.out ‹Hid (Mods None W6 _)›))).mono ?_;rintro e w8 ⟨rfl,hm⟩)
            | (go_at_call 9;go_split_ands;refine (HRN.out _ (HM6.out.trans (Hid.out ‹Hid (Mods None W6 _)›))).mono ?_;rintro e w9 ⟨u,rfl,hu,hm⟩)
            | (go_at_call 12;go_split_ands;refine (same_end (x1,x2,o) _ _ _ hu (HUQ.out.mods (Hid.out ‹Hid (Mods None W6 _)›))).mono ?_;rintro e w10 ⟨rfl,hm⟩)))
         all_goals
          go_split_ands
          have HM9:=hiD (HM2.out.trans (HM3.out.trans (HM6.out.trans (Hid.out (‹Hid (Mods None W6 w10)›:Hid (Mods None W6 w10))))))
          go_wp2_with fail
          go_ret
          exact ⟨rfl,by first|exact HM9.out|exact HM9.out.drew⟩
end Go.Proofs.YtnicpmoanjddbaaGreatDoor.MidP
namespace Go.Proofs.YtnicpmoanjddbaaGreatDoor.TreeP
open Go.RowKit Go.Proofs.YtnicpmoanjddbaaGreatDoor.Wo
set_option linter.unusedVariables false
set_option linter.unusedSimpArgs false
theorem str_fits {s:ByteArray} (h:s.size≤maxLen):s.data.toList.length≤9223372036854775807:=by
 unfold maxLen at h
 simpa using h
end Go.Proofs.YtnicpmoanjddbaaGreatDoor.TreeP

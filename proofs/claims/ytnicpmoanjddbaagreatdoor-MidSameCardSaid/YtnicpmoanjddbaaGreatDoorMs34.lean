/- Statements: what is seen, what their steps leave. No program in sight. No conditions. Plain statements, kind by kind: their steps tell what they tell. No program in sight. No conditions. Blocks: their steps tell what they tell. No program in sight. No conditions. Ways that part: their steps tell what they tell. No program in sight. No conditions. -/
import Derived.Test.YtnicpmoanjddbaaGreatDoorMs33
namespace Go.Proofs.YtnicpmoanjddbaaGreatDoor.MidP.Sm
open Go.RowKit Go.Proofs.YtnicpmoanjddbaaGreatDoor.TreeP Go.Proofs.YtnicpmoanjddbaaGreatDoor.MidP
set_option linter.unusedVariables false
set_option linter.unusedSimpArgs false
theorem fr_get_put:(F:Fr)→(s:List UInt8)→(v:V)→(x:List UInt8)→(F.put s v).get x=if x=s then v else F.get x
 | [],s,v,x=>by
   simp only [Fr.put,Fr.get]
   by_cases h:x=s
   · subst h;simp
   · rw [if_neg h]
     have:(s==x)=false:=by simpa using fun e=>h e.symm
     simp [this]
 | p::r,s,v,x=>by
   simp only [Fr.put]
   by_cases hp:(p.1==s)=true
   · rw [if_pos hp]
     have hps:p.1=s:=by simpa using hp
     simp only [Fr.get]
     by_cases h:x=s
     · subst h;simp
     · rw [if_neg h]
       have h1:(s==x)=false:=by simpa using fun e=>h e.symm
       have h2:(p.1==x)=false:=by rw [hps];exact h1
       simp [h1,h2]
   · rw [if_neg hp]
     simp only [Fr.get]
     by_cases h:x=s
     · subst h
       have h2:(p.1==x)=false:=by simpa using hp
       simp only [h2,if_true]
       have:=fr_get_put r x v x
       rw [if_pos rfl] at this
       simpa using this
     · rw [if_neg h]
       have:=fr_get_put r s v x
       rw [if_neg h] at this
       rw [this]
mutual
def SeenS (Lt:List TreeP.Fn) (Vis:List (List UInt8)):St→Prop
 | .var _ x v=>x ∉ Vis∧SeenE Lt Vis v
 | .set _ x v=>x∈Vis∧SeenE Lt Vis v
 | .put _ x i v=>x∈Vis∧SeenE Lt Vis i∧SeenE Lt Vis v
 | .cond _ v t e=>SeenE Lt Vis v∧SeenSs Lt Vis t∧SeenSs Lt Vis e
 | .loop _ v t=>SeenE Lt Vis v∧SeenSs Lt Vis t
 | .ret _ v=>SeenE Lt Vis v
 | .print _ v=>SeenE Lt Vis v
 | .call _ v=>SeenE Lt Vis v
def SeenSs (Lt:List TreeP.Fn) (Vis:List (List UInt8)):List St→Prop
 | []=>True
 | x::r=>SeenS Lt Vis x∧SeenSs Lt (match x with|.var _ n _=>n::Vis|_=>Vis) r
end
def visS (Vis:List (List UInt8)):St→List (List UInt8)
 | .var _ n _=>n::Vis
 | _=>Vis
mutual
theorem stmt_names {Lt:List TreeP.Fn}:(s:St)→(Vis:List (List UInt8))→SeenS Lt Vis s→(w:Lw)→(∀ x∈Vis,getN (stmtL s w).names x=getN w.names x)∧(stmtL s w).none=w.none
 | .var _ n v,Vis,h,w=>by
   have hs:=expr_same v w
   simp only [SeenS] at h
   simp only [stmtL,addL,nameL]
   refine ⟨fun x hx=>?_,hs.2⟩
   rw [getN_put,if_neg (fun e:x=n=>h.1 (by rw [← e];exact hx)),hs.1]
 | .set _ n v,Vis,h,w=>by
   have hs:=expr_same v w
   simp only [stmtL,addL]
   exact ⟨fun x hx=>by rw [hs.1],hs.2⟩
 | .put _ n i v,Vis,h,w=>by
   have hs:=expr_same i w
   have hs2:=expr_same v (exprL i w).2
   simp only [stmtL,addL]
   exact ⟨fun x hx=>by rw [hs2.1,hs.1],hs2.2.trans hs.2⟩
 | .cond _ v t e,Vis,h,w=>by
   simp only [SeenS] at h
   simp only [stmtL]
   have h1:=expr_same v (labelL (labelL w).2).2
   refine ⟨fun x hx=>?_,?_⟩
   · refine ((block_names e Vis h.2.2 _).1 x hx).trans ?_
     refine ((block_names t Vis h.2.1 _).1 x hx).trans ?_
     show getN (exprL v (labelL (labelL w).2).2).2.names x=_
     rw [h1.1]
     rfl
   · refine ((block_names e Vis h.2.2 _).2).trans ?_
     refine ((block_names t Vis h.2.1 _).2).trans ?_
     exact h1.2
 | .loop _ v t,Vis,h,w=>by
   simp only [SeenS] at h
   simp only [stmtL]
   refine ⟨fun x hx=>?_,?_⟩
   · refine ((block_names t Vis h.2 _).1 x hx).trans ?_
     exact congrArg (fun n=>getN n x) (expr_same v _).1
   · refine ((block_names t Vis h.2 _).2).trans ?_
     exact (expr_same v _).2
 | .ret _ v,Vis,h,w=>by
   have hs:=expr_same v w
   simp only [stmtL,addL]
   exact ⟨fun x hx=>by rw [hs.1],hs.2⟩
 | .print _ v,Vis,h,w=>by
   have hs:=expr_same v w
   simp only [stmtL,addL]
   exact ⟨fun x hx=>by rw [hs.1],hs.2⟩
 | .call _ v,Vis,h,w=>by
   have hs:=expr_same v w
   simp only [stmtL]
   exact ⟨fun x hx=>by rw [hs.1],hs.2⟩
theorem block_names {Lt:List TreeP.Fn}:(l:List St)→(Vis:List (List UInt8))→SeenSs Lt Vis l→(w:Lw)→(∀ x∈Vis,getN (blockL l w).names x=getN w.names x)∧(blockL l w).none=w.none
 | [],Vis,h,w=>⟨fun x hx=>rfl,rfl⟩
 | s::r,Vis,h,w=>by
   simp only [SeenSs] at h
   simp only [blockL]
   have h1:=stmt_names s Vis h.1 w
   have h2:=block_names r _ h.2 (stmtL s w)
   refine ⟨fun x hx=>(h2.1 x ?_).trans (h1.1 x hx),h2.2.trans h1.2⟩
   split
   · exact List.mem_cons_of_mem _ hx
   · exact hx
end
def OkS (L:List Fm) (F:Fm) (C:Nat) (w w':Lw) (Vis:List (List UInt8)) (v:Pl) (s:RS) (k:Nat):Except Sig Fr×RS→Prop
 | (.ok G,s1)=>∃ v' k',Reach L F w.steps.length v (wf s k) w'.steps.length v' (wf s1 k')∧k+C*s1.fuel≤k'+C*s.fuel∧Rel w' Vis G v'∧v'.length=v.length
 | (.error (.ret n),s1)=>∃ k',Ends L F w.steps.length v (wf s k) (.ok n,wf s1 k')∧k+C*s1.fuel≤k'+C*s.fuel
 | (.error (.stop wy),s1)=>wy=6∨∃ k',Ends L F w.steps.length v (wf s k) (.error (.stop wy),wf s1 k')
def SimS (Lt:List TreeP.Fn) (C:Nat) (F:Fm) (f:Nat) (x:St):Prop:=∀ (Vis:List (List UInt8)) (w:Lw) (Fr:Fr) (v:Pl) (s:RS) (r:Except Sig TreeP.Fr×RS) (k:Nat),stmtR Lt f s Fr x=some r→SeenS Lt Vis x→In (stmtL x w) F v→Rel w Vis Fr v→C*s.fuel≤k→OkS (lowP Lt) F C w (stmtL x w) (visS Vis x) v s k r
section
variable {Lt:List TreeP.Fn} {C:Nat} {F:Fm} {f:Nat}
theorem step_less {s:RS} (h:s.fuel≠0):(less s).fuel+1=s.fuel:=by simp only [less];omega
theorem bind_step {α:Type} {s:RS} {g:Unit→RS→RM α} {r:Except Sig α×RS} (h:bindR (stepR s) g=some r):(s.fuel=0∧r=(.error (.stop 6),s))∨(s.fuel≠0∧g () (less s)=some r):=by
 by_cases h0:s.fuel=0
 · unfold stepR at h
   rw [if_pos h0] at h
   simp only [stopR,bindR,Option.some.injEq] at h
   exact Or.inl ⟨h0,h.symm⟩
 · rw [step_ok h0] at h
   exact Or.inr ⟨h0,h⟩
theorem sims_call (a:Int) {e:Ex} (hx:∀ Vis,SimE Lt C F Vis f e) (hC:8*exN e+8≤C):SimS Lt C F (f+1) (.call a e):=by
 intro Vis w Fr v s r k hr hs hi hrel hk
 simp only [stmtR] at hr
 simp only [SeenS,stmtL,visS] at hs hi ⊢
 rcases bind_step hr with ⟨h0,rfl⟩|⟨h0,hr⟩
 · exact Or.inl rfl
 have hl:=step_less h0
 have hm:C*s.fuel=C*(less s).fuel+C:=by rw [← hl,Nat.mul_add,Nat.mul_one]
 have htp:=expr_tp e w
 have hsm:=expr_same e w
 cases hy:evE Lt f (less s) Fr e with
 | none=>rw [hy] at hr;cases hr
 | some z =>
   rw [hy] at hr
   have h1:=hx Vis w Fr v (less s) z k hy hs hi hrel (by omega)
   obtain ⟨z,t⟩:=z
   cases z with
   | error er =>
     simp only [bindR,Option.some.injEq] at hr
     subst hr
     rcases h1 with h1|⟨⟨wy,h1⟩,k',h2⟩
     · subst h1
       exact Or.inl rfl
     · subst h1
       exact Or.inr ⟨k',h2⟩
   | ok y =>
     simp only [bindR,okR,Option.some.injEq] at hr
     subst hr
     obtain ⟨v1,k1,g1,g2,g3,g4,g5⟩:=h1
     exact ⟨v1,k1,g1,by omega,hrel.next hsm.1 hsm.2 htp g4,g5⟩
theorem sims_set (a:Int) (n:List UInt8) {e:Ex} (hx:∀ Vis,SimE Lt C F Vis f e) (hC:8*exN e+8≤C):SimS Lt C F (f+1) (.set a n e):=by
 intro Vis w Fr v s r k hr hs hi hrel hk
 simp only [stmtR] at hr
 simp only [SeenS,stmtL,visS] at hs hi ⊢
 rcases bind_step hr with ⟨h0,rfl⟩|⟨h0,hr⟩
 · exact Or.inl rfl
 have hl:=step_less h0
 have hm:C*s.fuel=C*(less s).fuel+C:=by rw [← hl,Nat.mul_add,Nat.mul_one]
 have htp:=expr_tp e w
 have hsm:=expr_same e w
 cases hy:evE Lt f (less s) Fr e with
 | none=>rw [hy] at hr;cases hr
 | some z =>
   rw [hy] at hr
   have h1:=hx Vis w Fr v (less s) z k hy hs.2 hi.addl hrel (by omega)
   obtain ⟨z,t⟩:=z
   cases z with
   | error er =>
     simp only [bindR,Option.some.injEq] at hr
     subst hr
     rcases h1 with h1|⟨⟨wy,h1⟩,k',h2⟩
     · subst h1
       exact Or.inl rfl
     · subst h1
       exact Or.inr ⟨k',h2⟩
   | ok y =>
     simp only [bindR,okR,Option.some.injEq] at hr
     subst hr
     obtain ⟨v1,k1,g1,g2,g3,g4,g5⟩:=h1
     have hrel1:=hrel.next hsm.1 hsm.2 htp g4
     obtain ⟨p,n1,n2,n3⟩:=hrel1.names n hs.1
     have hpl:p<v1.length:=by have:=(hi.len g5).types;simp only [addL] at this;omega
     obtain ⟨k2,rfl⟩:∃ k2,k1=k2+1:=⟨k1-1,by omega⟩
     have a1:=okE_add (L:=lowP Lt) (s:=t) (s1:=t) (v:=v1) (v':=v1.put (p:Int) y) (k:=k2) (hi.len g5) (by simp) (fun k=>by simp [stepM,okR,g3,n1])
     refine ⟨v1.put (p:Int) y,k2,g1.trans ?_,by omega,⟨fun x hxv=>?_,?_,hrel1.inj,hrel1.apart⟩,by rw [put_len,g5]⟩
     · simpa [addL] using a1
     · obtain ⟨q,m1,m2,m3⟩:=hrel1.names x hxv
       refine ⟨q,m1,m2,?_⟩
       rw [fr_get_put,get_put hpl]
       by_cases hxn:x=n
       · subst hxn
         have:q=p:=by have:=m1.symm.trans n1;omega
         rw [if_pos rfl,if_pos this]
       · rw [if_neg hxn,if_neg (fun e2=>hxn (hrel1.inj x hxv n hs.1 (by rw [m1,n1,e2])))]
         exact m3
     · obtain ⟨q,m1,m2,m3⟩:=hrel1.none
       refine ⟨q,m1,m2,?_⟩
       rw [get_put hpl,if_neg (fun e2=>hrel1.apart n hs.1 (by rw [n1,m1,e2]))]
       exact m3
theorem sims_ret (a:Int) {e:Ex} (hx:∀ Vis,SimE Lt C F Vis f e) (hC:8*exN e+8≤C):SimS Lt C F (f+1) (.ret a e):=by
 intro Vis w Fr v s r k hr hs hi hrel hk
 simp only [stmtR] at hr
 simp only [SeenS,stmtL,visS] at hs hi ⊢
 rcases bind_step hr with ⟨h0,rfl⟩|⟨h0,hr⟩
 · exact Or.inl rfl
 have hl:=step_less h0
 have hm:C*s.fuel=C*(less s).fuel+C:=by rw [← hl,Nat.mul_add,Nat.mul_one]
 have htp:=expr_tp e w
 have hsm:=expr_same e w
 cases hy:evE Lt f (less s) Fr e with
 | none=>rw [hy] at hr;cases hr
 | some z =>
   rw [hy] at hr
   have h1:=hx Vis w Fr v (less s) z k hy hs hi.addl hrel (by omega)
   obtain ⟨z,t⟩:=z
   cases z with
   | error er =>
     simp only [bindR,Option.some.injEq] at hr
     subst hr
     rcases h1 with h1|⟨⟨wy,h1⟩,k',h2⟩
     · subst h1
       exact Or.inl rfl
     · subst h1
       exact Or.inr ⟨k',h2⟩
   | ok y =>
     simp only [bindR,Option.some.injEq] at hr
     subst hr
     obtain ⟨v1,k1,g1,g2,g3,g4,g5⟩:=h1
     obtain ⟨k2,rfl⟩:∃ k2,k1=k2+1:=⟨k1-1,by omega⟩
     have hat:F.steps[(exprL e w).2.steps.length]?=some { stp0 with code:=8,a:=(exprL e w).1 }:=by
        obtain ⟨d,hd⟩:=hi.steps
        rw [← hd]
        simp [addL]
     have a1:=ends_ret (L:=lowP Lt) (F:=F) (v:=v1) (s:=wf t (k2+1)) hat rfl (by simp [wf])
     simp only at a1
     rw [g3] at a1
     exact ⟨k2,g1.ends a1,by omega⟩
theorem sims_print (a:Int) {e:Ex} (hx:∀ Vis,SimE Lt C F Vis f e) (hC:8*exN e+8≤C):SimS Lt C F (f+1) (.print a e):=by
 intro Vis w Fr v s r k hr hs hi hrel hk
 simp only [stmtR] at hr
 simp only [SeenS,stmtL,visS] at hs hi ⊢
 rcases bind_step hr with ⟨h0,rfl⟩|⟨h0,hr⟩
 · exact Or.inl rfl
 have hl:=step_less h0
 have hm:C*s.fuel=C*(less s).fuel+C:=by rw [← hl,Nat.mul_add,Nat.mul_one]
 have htp:=expr_tp e w
 have hsm:=expr_same e w
 cases hy:evE Lt f (less s) Fr e with
 | none=>rw [hy] at hr;cases hr
 | some z =>
   rw [hy] at hr
   have h1:=hx Vis w Fr v (less s) z k hy hs hi.addl hrel (by omega)
   obtain ⟨z,t⟩:=z
   cases z with
   | error er =>
     simp only [bindR,Option.some.injEq] at hr
     subst hr
     rcases h1 with h1|⟨⟨wy,h1⟩,k',h2⟩
     · subst h1
       exact Or.inl rfl
     · subst h1
       exact Or.inr ⟨k',h2⟩
   | ok y =>
     simp only [bindR] at hr
     obtain ⟨v1,k1,g1,g2,g3,g4,g5⟩:=h1
     obtain ⟨k2,rfl⟩:∃ k2,k1=k2+1:=⟨k1-1,by omega⟩
     by_cases ho:t.out.length≥200
     · rw [if_pos ho] at hr
       simp only [stopR,Option.some.injEq] at hr
       subst hr
       have hat:F.steps[(exprL e w).2.steps.length]?=some { stp0 with code:=13,a:=(exprL e w).1 }:=by
        obtain ⟨d,hd⟩:=hi.steps
        rw [← hd]
        simp [addL]
       have a1:=ends_step (L:=lowP Lt) (F:=F) (v:=v1) (s:=wf t (k2+1)) (s':=wf t k2) (e:=.stop 7) hat (by simp) (by simp [wf]) (by
        have ho':(wf t k2).out.length≥200:=ho
        simp only [less_wf,stepM]
        simp [ho',stopR])
       exact Or.inr ⟨k2,g1.ends a1⟩
     · rw [if_neg ho] at hr
       simp only [okR,Option.some.injEq] at hr
       subst hr
       have a1:=okE_add (L:=lowP Lt) (s:=t) (s1:={ t with out:=t.out++[y.n] }) (v:=v1) (v':=v1) (k:=k2) (hi.len g5) (by simp) (fun k=>by
        have ho':¬ (wf t k).out.length≥200:=ho
        simp only [stepM,g3]
        simp [ho',okR]
        simp [wf])
       refine ⟨v1,k2,g1.trans ?_,by simp only;omega,(hrel.next hsm.1 hsm.2 htp g4).next rfl rfl (Nat.le_refl _) (fun p hp=>rfl),g5⟩
       simpa [addL] using a1
theorem sims_put (a:Int) (n:List UInt8) {i e:Ex} (hx:∀ Vis,SimE Lt C F Vis f i) (hx2:∀ Vis,SimE Lt C F Vis f e) (hC:8*exN i+8*exN e+8≤C):SimS Lt C F (f+1) (.put a n i e):=by
 intro Vis w Fr v s r k hr hs hi hrel hk
 simp only [stmtR] at hr
 simp only [SeenS,stmtL,visS] at hs hi ⊢
 rcases bind_step hr with ⟨h0,rfl⟩|⟨h0,hr⟩
 · exact Or.inl rfl
 have hl:=step_less h0
 have hm:C*s.fuel=C*(less s).fuel+C:=by rw [← hl,Nat.mul_add,Nat.mul_one]
 have htp:=expr_tp i w
 have hsm:=expr_same i w
 have htp2:=expr_tp e (exprL i w).2
 have hsm2:=expr_same e (exprL i w).2
 have hie:=hi.addl
 cases hy:evE Lt f (less s) Fr i with
 | none=>rw [hy] at hr;cases hr
 | some z =>
   rw [hy] at hr
   have h1:=hx Vis w Fr v (less s) z k hy hs.2.1 (hie.less (expr_new e _).pre htp2) hrel (by omega)
   obtain ⟨z,t⟩:=z
   cases z with
   | error er =>
     simp only [bindR,Option.some.injEq] at hr
     subst hr
     rcases h1 with h1|⟨⟨wy,h1⟩,k',h2⟩
     · subst h1
       exact Or.inl rfl
     · subst h1
       exact Or.inr ⟨k',h2⟩
   | ok y =>
     simp only [bindR] at hr
     obtain ⟨v1,k1,g1,g2,g3,g4,g5⟩:=h1
     have hrel1:=hrel.next hsm.1 hsm.2 htp g4
     have hpl:=expr_place i w Fr v hrel hs.2.1
     cases hz:evE Lt f t Fr e with
     | none=>rw [hz] at hr;cases hr
     | some z2 =>
       rw [hz] at hr
       have h2:=hx2 Vis (exprL i w).2 Fr v1 t z2 k1 hz hs.2.2 (hie.len g5) hrel1 (by omega)
       obtain ⟨z2,t2⟩:=z2
       cases z2 with
       | error er =>
         simp only [Option.some.injEq] at hr
         subst hr
         rcases h2 with h2|⟨⟨wy,h2⟩,k',h3⟩
         · subst h2
           exact Or.inl rfl
         · subst h2
           exact Or.inr ⟨k',g1.ends h3⟩
       | ok y2 =>
         simp only at hr
         obtain ⟨v2,k2,b1,b2,b3,b4,b5⟩:=h2
         have hrel2:=hrel1.next hsm2.1 hsm2.2 htp2 b4
         obtain ⟨p,n1,n2,n3⟩:=hrel2.names n hs.1
         have hi1:v2.get (exprL i w).1=y:=by
          obtain ⟨q,hq⟩:∃ q:Nat,(exprL i w).1=(q:Int):=⟨(exprL i w).1.toNat,by have:=hpl.2;omega⟩
          rw [hq] at g3 hpl ⊢
          rw [b4 q (by have:=hpl.1;omega)]
          exact g3
         obtain ⟨k3,rfl⟩:∃ k3,k2=k3+1:=⟨k2-1,by omega⟩
         have hat:F.steps[(exprL e (exprL i w).2).2.steps.length]?=some { stp0 with code:=12,a:=getN (exprL e (exprL i w).2).2.names n,b:=(exprL i w).1,c:=(exprL e (exprL i w).2).1 }:=by
          obtain ⟨d,hd⟩:=hi.steps
          rw [← hd]
          simp [addL]
         by_cases hn:y.n<0∨y.n≥(arrOf t2 (Fr.get n)).length
         · simp only [placeR,if_pos hn,stopR,Option.some.injEq] at hr
           subst hr
           have a1:=ends_step (L:=lowP Lt) (F:=F) (v:=v2) (s:=wf t2 (k3+1)) (s':=wf t2 k3) (e:=.stop 3) hat (by simp) (by simp [wf]) (by
            have hn':y.n<0∨y.n≥((arrOf (wf t2 k3) (Fr.get n)).length:Int):=hn
            simp only [less_wf,stepM,n1,n3,hi1,placeR,if_pos hn',stopR,bindR]
            simp)
           exact Or.inr ⟨k3,g1.ends (b1.ends a1)⟩
         · simp only [placeR,if_neg hn,okR,Option.some.injEq] at hr
           subst hr
           have hfu:(putArr t2 (Fr.get n) y.n y2.n).fuel=t2.fuel:=by unfold putArr;split <;> rfl
           have a1:=okE_add (L:=lowP Lt) (s:=t2) (s1:=putArr t2 (Fr.get n) y.n y2.n) (v:=v2) (v':=v2) (k:=k3) (hi.len (b5.trans g5)) (by simp) (fun k=>by
            have hn':¬ (y.n<0∨y.n≥((arrOf (wf t2 k) (Fr.get n)).length:Int)):=hn
            simp only [stepM,n1,n3,hi1,b3,placeR,if_neg hn',okR,bindR]
            have hp:putArr (wf t2 k) (Fr.get n) y.n y2.n=wf (putArr t2 (Fr.get n) y.n y2.n) k:=by
               unfold putArr
               cases (Fr.get n).arr <;> rfl
            rw [hp]
            simp)
           refine ⟨v2,k3,g1.trans (b1.trans ?_),by rw [hfu];omega,hrel2.next rfl rfl (Nat.le_refl _) (fun p hp=>rfl),b5.trans g5⟩
           simpa [addL] using a1
theorem sims_var (a:Int) (n:List UInt8) {e:Ex} (hx:∀ Vis,SimE Lt C F Vis f e) (hC:8*exN e+8≤C):SimS Lt C F (f+1) (.var a n e):=by
 intro Vis w Fr v s r k hr hs hi hrel hk
 simp only [stmtR] at hr
 simp only [SeenS,stmtL,visS] at hs hi ⊢
 rcases bind_step hr with ⟨h0,rfl⟩|⟨h0,hr⟩
 · exact Or.inl rfl
 have hl:=step_less h0
 have hm:C*s.fuel=C*(less s).fuel+C:=by rw [← hl,Nat.mul_add,Nat.mul_one]
 have htp:=expr_tp e w
 have hsm:=expr_same e w
 obtain ⟨kd,hkd⟩:∃ kd,(exprL e w).2.types.getD (exprL e w).1.toNat 0=kd:=⟨_,rfl⟩
 rw [hkd] at hi ⊢
 have hinn:In (nameL n kd (exprL e w).2).2 F v:=hi.addl
 have hin:In (exprL e w).2 F v:=hinn.less ⟨[],by simp [nameL]⟩ (by simp [nameL])
 cases hy:evE Lt f (less s) Fr e with
 | none=>rw [hy] at hr;cases hr
 | some z =>
   rw [hy] at hr
   have h1:=hx Vis w Fr v (less s) z k hy hs.2 hin hrel (by omega)
   obtain ⟨z,t⟩:=z
   cases z with
   | error er =>
     simp only [bindR,Option.some.injEq] at hr
     subst hr
     rcases h1 with h1|⟨⟨wy,h1⟩,k',h2⟩
     · subst h1
       exact Or.inl rfl
     · subst h1
       exact Or.inr ⟨k',h2⟩
   | ok y =>
     simp only [bindR,okR,Option.some.injEq] at hr
     subst hr
     obtain ⟨v1,k1,g1,g2,g3,g4,g5⟩:=h1
     have hrel1:=hrel.next hsm.1 hsm.2 htp g4
     have hpl:(exprL e w).2.types.length<v1.length:=by have:=(hinn.len g5).types;simp only [nameL,List.length_append,List.length_singleton] at this;omega
     obtain ⟨k2,rfl⟩:∃ k2,k1=k2+1:=⟨k1-1,by omega⟩
     have a1:=okE_add (L:=lowP Lt) (s:=t) (s1:=t) (v:=v1) (v':=v1.put ((exprL e w).2.types.length:Int) y) (k:=k2) (hi.len g5) (by simp) (fun k=>by simp [stepM,okR,g3,nameL])
     have hnew:∀ x,getN (nameL n kd (exprL e w).2).2.names x=if x=n then ((exprL e w).2.types.length:Int) else getN (exprL e w).2.names x:=fun x=>by simp only [nameL,getN_put]
     have htl:(nameL n kd (exprL e w).2).2.types.length=(exprL e w).2.types.length+1:=by simp [nameL]
     refine ⟨v1.put ((exprL e w).2.types.length:Int) y,k2,g1.trans ?_,by omega,⟨fun x hxv=>?_,?_,fun x hxv z hzv he=>?_,fun x hxv he=>?_⟩,by rw [put_len,g5]⟩
     · simpa [addL,nameL] using a1
     · show ∃ p:Nat,getN (nameL n kd (exprL e w).2).2.names x=(p:Int)∧p<(nameL n kd (exprL e w).2).2.types.length∧_
       rw [hnew,htl,fr_get_put]
       by_cases hxn:x=n
       · rw [if_pos hxn,if_pos hxn]
         exact ⟨_,rfl,by omega,by rw [get_put hpl,if_pos rfl]⟩
       · rw [if_neg hxn,if_neg hxn]
         obtain ⟨q,m1,m2,m3⟩:=hrel1.names x ((List.mem_cons.1 hxv).resolve_left hxn)
         exact ⟨q,m1,by omega,by rw [get_put hpl,if_neg (by omega)];exact m3⟩
     · obtain ⟨q,m1,m2,m3⟩:=hrel1.none
       refine ⟨q,m1,?_,by rw [get_put hpl,if_neg (by omega)];exact m3⟩
       show q<(nameL n kd (exprL e w).2).2.types.length
       omega
     · have he:getN (nameL n kd (exprL e w).2).2.names x=getN (nameL n kd (exprL e w).2).2.names z:=he
       rw [hnew,hnew] at he
       by_cases hxn:x=n
       · by_cases hzn:z=n
         · rw [hxn,hzn]
         · rw [if_pos hxn,if_neg hzn] at he
           obtain ⟨q,m1,m2,m3⟩:=hrel1.names z ((List.mem_cons.1 hzv).resolve_left hzn)
           omega
       · by_cases hzn:z=n
         · rw [if_neg hxn,if_pos hzn] at he
           obtain ⟨q,m1,m2,m3⟩:=hrel1.names x ((List.mem_cons.1 hxv).resolve_left hxn)
           omega
         · rw [if_neg hxn,if_neg hzn] at he
           exact hrel1.inj x ((List.mem_cons.1 hxv).resolve_left hxn) z ((List.mem_cons.1 hzv).resolve_left hzn) he
     · have he:getN (nameL n kd (exprL e w).2).2.names x=(exprL e w).2.none:=he
       rw [hnew] at he
       by_cases hxn:x=n
       · rw [if_pos hxn] at he
         obtain ⟨q,m1,m2,m3⟩:=hrel1.none
         omega
       · rw [if_neg hxn] at he
         exact hrel1.apart x ((List.mem_cons.1 hxv).resolve_left hxn) he
end
end Go.Proofs.YtnicpmoanjddbaaGreatDoor.MidP.Sm
namespace Go.Proofs.YtnicpmoanjddbaaGreatDoor.MidP.Sm
open Go.RowKit Go.Proofs.YtnicpmoanjddbaaGreatDoor.TreeP Go.Proofs.YtnicpmoanjddbaaGreatDoor.MidP
set_option linter.unusedVariables false
set_option linter.unusedSimpArgs false
theorem Rel.sub {w:Lw} {Vis Vis':List (List UInt8)} {Fr:Fr} {v:Pl} (h:Rel w Vis' Fr v) (hs:∀ x∈Vis,x∈Vis'):Rel w Vis Fr v :=
 ⟨fun x hx=>h.names x (hs x hx),h.none,fun x hx y hy=>h.inj x (hs x hx) y (hs y hy),fun x hx=>h.apart x (hs x hx)⟩
theorem vis_sub (Vis:List (List UInt8)) (x:St):∀ y∈Vis,y∈visS Vis x:=by
 intro y hy
 cases x <;> simp only [visS] <;> first|exact hy|exact List.mem_cons_of_mem _ hy
theorem seen_next {Lt:List TreeP.Fn} {Vis:List (List UInt8)} {x:St} {l:List St} (h:SeenSs Lt Vis (x::l)):SeenS Lt Vis x∧SeenSs Lt (visS Vis x) l:=by
 simp only [SeenSs] at h
 refine ⟨h.1,?_⟩
 cases x <;> exact h.2
def SimB (Lt:List TreeP.Fn) (C:Nat) (F:Fm) (f:Nat) (l:List St):Prop:=∀ (Vis:List (List UInt8)) (w:Lw) (Fr:Fr) (v:Pl) (s:RS) (r:Except Sig TreeP.Fr×RS) (k:Nat),blockR Lt f s Fr l=some r→SeenSs Lt Vis l→In (blockL l w) F v→Rel w Vis Fr v→C*s.fuel≤k→OkS (lowP Lt) F C w (blockL l w) Vis v s k r
mutual
theorem stmt_tp:(x:St)→(w:Lw)→w.types.length≤(stmtL x w).types.length
 | .var _ n v,w=>by
   have h:=expr_tp v w
   simp only [stmtL,addL,nameL,List.length_append,List.length_singleton];omega
 | .set _ n v,w=>by simp only [stmtL,addL];exact expr_tp v w
 | .put _ n i v,w=>by simp only [stmtL,addL];exact Nat.le_trans (expr_tp i w) (expr_tp v _)
 | .cond _ v t e,w=>by
   simp only [stmtL]
   refine Nat.le_trans ?_ (show _≤(addL _ (blockL e _)).types.length from block_tp e _)
   refine Nat.le_trans ?_ (show _≤(addL _ (addL _ (blockL t _))).types.length from block_tp t _)
   exact expr_tp v (labelL (labelL w).2).2
 | .loop _ v t,w=>by
   simp only [stmtL]
   refine Nat.le_trans ?_ (show _≤(addL _ (addL _ (blockL t _))).types.length from block_tp t _)
   exact expr_tp v (addL _ (labelL (labelL w).2).2)
 | .ret _ v,w=>by simp only [stmtL,addL];exact expr_tp v w
 | .print _ v,w=>by simp only [stmtL,addL];exact expr_tp v w
 | .call _ v,w=>by simp only [stmtL];exact expr_tp v w
theorem block_tp:(l:List St)→(w:Lw)→w.types.length≤(blockL l w).types.length
 | [],w=>Nat.le_refl _
 | x::r,w=>by simp only [blockL];exact Nat.le_trans (stmt_tp x w) (block_tp r _)
end
section
variable {Lt:List TreeP.Fn} {C:Nat} {F:Fm}
theorem simb_any:(l:List St)→(f:Nat)→(∀ j,j<f→∀ x∈l,SimS Lt C F j x)→SimB Lt C F f l
 | [],0,ih=>fun Vis w Fr v s r k hr=>by simp only [blockR] at hr;cases hr
 | x::l,0,ih=>fun Vis w Fr v s r k hr=>by simp only [blockR] at hr;cases hr
 | [],f+1,ih=>fun Vis w Fr v s r k hr hs hi hrel hk=>by
   simp only [blockR,okR,Option.some.injEq] at hr
   subst hr
   exact ⟨v,k,Reach.refl _ _ _ _ _,by omega,hrel,rfl⟩
 | x::l,f+1,ih=>fun Vis w Fr v s r k hr hs hi hrel hk=>by
   simp only [blockR] at hr
   obtain ⟨hs1,hs2⟩:=seen_next hs
   simp only [blockL] at hi ⊢
   cases hy:stmtR Lt f s Fr x with
   | none=>rw [hy] at hr;cases hr
   | some z =>
     rw [hy] at hr
     have h1:=ih f (Nat.lt_succ_self f) x List.mem_cons_self Vis w Fr v s z k hy hs1 (hi.less (block_new l _).pre (block_tp l _)) hrel hk
     obtain ⟨z,t⟩:=z
     cases z with
     | error er =>
       simp only [bindR,Option.some.injEq] at hr
       subst hr
       cases er with
       | stop wy=>exact h1
       | ret n=>exact h1
     | ok G =>
       simp only [bindR] at hr
       obtain ⟨v1,k1,g1,g2,g3,g4⟩:=h1
       have h2:=simb_any l f (fun j hj y hy=>ih j (by omega) y (List.mem_cons_of_mem _ hy)) (visS Vis x) (stmtL x w) G v1 t r k1 hr hs2 (hi.len g4) g3 (by omega)
       obtain ⟨r,t2⟩:=r
       cases r with
       | ok G2 =>
         obtain ⟨v2,k2,b1,b2,b3,b4⟩:=h2
         exact ⟨v2,k2,g1.trans b1,by omega,b3.sub (vis_sub Vis x),b4.trans g4⟩
       | error er =>
         cases er with
         | stop wy =>
           rcases h2 with h2|⟨k',h2⟩
           · exact Or.inl h2
           · exact Or.inr ⟨k',g1.ends h2⟩
         | ret n =>
           obtain ⟨k',h2,h3⟩:=h2
           exact ⟨k',g1.ends h2,by omega⟩
end
end Go.Proofs.YtnicpmoanjddbaaGreatDoor.MidP.Sm
namespace Go.Proofs.YtnicpmoanjddbaaGreatDoor.MidP.Sm
open Go.RowKit Go.Proofs.YtnicpmoanjddbaaGreatDoor.TreeP Go.Proofs.YtnicpmoanjddbaaGreatDoor.MidP
set_option linter.unusedVariables false
set_option linter.unusedSimpArgs false
theorem Rel.moved {w w':Lw} {Vis:List (List UInt8)} {Fr:Fr} {v:Pl} (h:Rel w Vis Fr v) (hn:∀ x∈Vis,getN w'.names x=getN w.names x) (h0:w'.none=w.none) (ht:w.types.length≤w'.types.length):Rel w' Vis Fr v:=by
 refine ⟨fun x hx=>?_,?_,fun x hx y hy e=>h.inj x hx y hy (by rw [← hn x hx,← hn y hy];exact e),fun x hx e=>h.apart x hx (by rw [← hn x hx,← h0];exact e)⟩
 · obtain ⟨p,h1,h2,h3⟩:=h.names x hx
   exact ⟨p,by rw [hn x hx];exact h1,by omega,h3⟩
 · obtain ⟨p,h1,h2,h3⟩:=h.none
   exact ⟨p,by rw [h0];exact h1,by omega,h3⟩
theorem add_at {w:Lw} {st:Stp} {F:Fm} {v:Pl} (h:In (addL st w) F v):F.steps[w.steps.length]?=some st:=by
 obtain ⟨d,hd⟩:=h.steps
 rw [← hd]
 simp [addL]
theorem add_len (st:Stp) (w:Lw):(addL st w).steps.length=w.steps.length+1:=by simp [addL]
section
variable {Lt:List TreeP.Fn} {C:Nat} {F:Fm} {f:Nat}
theorem sims_cond (a:Int) {e:Ex} {t u:List St} (hU:LabU F.steps) (hx:∀ Vis,SimE Lt C F Vis f e) (ht:SimB Lt C F f t) (hu:SimB Lt C F f u) (hC:8*exN e+8≤C):SimS Lt C F (f+1) (.cond a e t u):=by
 intro Vis w Fr v s r k hr hs hi hrel hk
 simp only [stmtR] at hr
 simp only [SeenS,stmtL,visS] at hs hi ⊢
 obtain ⟨l1,hl1⟩:∃ l1,(labelL w).1=l1:=⟨_,rfl⟩
 obtain ⟨l2,hl2⟩:∃ l2,(labelL (labelL w).2).1=l2:=⟨_,rfl⟩
 obtain ⟨w0,hw0⟩:∃ w0,(labelL (labelL w).2).2=w0:=⟨_,rfl⟩
 rw [hl1,hl2,hw0] at hi ⊢
 have hst0:w0.steps=w.steps:=by rw [← hw0];rfl
 have hrel0:Rel w0 Vis Fr v:=hrel.moved (fun x hx=>by rw [← hw0];rfl) (by rw [← hw0];rfl) (by rw [← hw0];exact Nat.le_refl _)
 obtain ⟨wb,hwb⟩:∃ wb,addL { stp0 with code:=5,a:=(exprL e w0).1,label:=(l1:Int) } (exprL e w0).2=wb:=⟨_,rfl⟩
 rw [hwb] at hi ⊢
 obtain ⟨w1,hw1⟩:∃ w1,blockL t wb=w1:=⟨_,rfl⟩
 rw [hw1] at hi ⊢
 obtain ⟨wk,hwk⟩:∃ wk,addL { stp0 with code:=4,label:=(l2:Int) } w1=wk:=⟨_,rfl⟩
 rw [hwk] at hi ⊢
 obtain ⟨wj,hwj⟩:∃ wj,addL { stp0 with code:=6,label:=(l1:Int) } wk=wj:=⟨_,rfl⟩
 rw [hwj] at hi ⊢
 obtain ⟨w2,hw2⟩:∃ w2,blockL u wj=w2:=⟨_,rfl⟩
 rw [hw2] at hi ⊢
 obtain ⟨we,hwe⟩:∃ we,addL { stp0 with code:=6,label:=(l2:Int) } w2=we:=⟨_,rfl⟩
 rw [hwe] at hi ⊢
 have i2:In w2 F v:=by rw [← hwe] at hi;exact hi.addl
 have ij:In wj F v:=by rw [← hw2] at i2;exact i2.less (block_new u _).pre (block_tp u _)
 have ik:In wk F v:=by rw [← hwj] at ij;exact ij.addl
 have i1:In w1 F v:=by rw [← hwk] at ik;exact ik.addl
 have ib:In wb F v:=by rw [← hw1] at i1;exact i1.less (block_new t _).pre (block_tp t _)
 have ic:In (exprL e w0).2 F v:=by rw [← hwb] at ib;exact ib.addl
 have at1:F.steps[(exprL e w0).2.steps.length]?=some { stp0 with code:=5,a:=(exprL e w0).1,label:=(l1:Int) }:=add_at (by rw [hwb];exact ib)
 have at2:F.steps[w1.steps.length]?=some { stp0 with code:=4,label:=(l2:Int) }:=add_at (by rw [hwk];exact ik)
 have at3:F.steps[wk.steps.length]?=some { stp0 with code:=6,label:=(l1:Int) }:=add_at (by rw [hwj];exact ij)
 have at4:F.steps[w2.steps.length]?=some { stp0 with code:=6,label:=(l2:Int) }:=add_at (by rw [hwe];exact hi)
 have p1:atP F (l1:Int)+1=wj.steps.length:=by rw [← hwj,add_len];exact congrArg (·+1) (at_label hU at3 rfl)
 have p2:atP F (l2:Int)+1=we.steps.length:=by rw [← hwe,add_len];exact congrArg (·+1) (at_label hU at4 rfl)
 have lb:wb.steps.length=(exprL e w0).2.steps.length+1:=by rw [← hwb,add_len]
 have tpe:=expr_tp e w0
 have sme:=expr_same e w0
 have nt:=block_names (Lt:=Lt) t Vis hs.2.1 wb
 have nu:=block_names (Lt:=Lt) u Vis hs.2.2 wj
 have tt:=block_tp t wb
 have tu:=block_tp u wj
 rw [hw1] at nt tt
 rw [hw2] at nu tu
 have nb:wb.names=(exprL e w0).2.names∧wb.none=(exprL e w0).2.none∧wb.types=(exprL e w0).2.types:=by rw [← hwb];exact ⟨rfl,rfl,rfl⟩
 have nj:wj.names=w1.names∧wj.none=w1.none∧wj.types=w1.types:=by rw [← hwj,← hwk];exact ⟨rfl,rfl,rfl⟩
 have ne:we.names=w2.names∧we.none=w2.none∧we.types=w2.types:=by rw [← hwe];exact ⟨rfl,rfl,rfl⟩
 rcases bind_step hr with ⟨h0,rfl⟩|⟨h0,hr⟩
 · exact Or.inl rfl
 have hl:=step_less h0
 have hm:C*s.fuel=C*(less s).fuel+C:=by rw [← hl,Nat.mul_add,Nat.mul_one]
 cases hy:evE Lt f (less s) Fr e with
 | none=>rw [hy] at hr;cases hr
 | some z =>
   rw [hy] at hr
   have h1:=hx Vis w0 Fr v (less s) z k hy hs.1 ic hrel0 (by omega)
   obtain ⟨z,tz⟩:=z
   cases z with
   | error er =>
     simp only [bindR,Option.some.injEq] at hr
     subst hr
     rcases h1 with h1|⟨⟨wy,h1⟩,k',h2⟩
     · subst h1
       exact Or.inl rfl
     · subst h1
       rw [hst0] at h2
       exact Or.inr ⟨k',h2⟩
   | ok y =>
     simp only [bindR] at hr
     obtain ⟨v1,k1,g1,g2,g3,g4,g5⟩:=h1
     rw [hst0] at g1
     obtain ⟨k2,rfl⟩:∃ k2,k1=k2+1:=⟨k1-1,by omega⟩
     have hrel1:Rel (exprL e w0).2 Vis Fr v1:=hrel0.next sme.1 sme.2 tpe g4
     by_cases hz:y.n=0
     · rw [if_neg (fun h=>h hz)] at hr
       have a1:Reach (lowP Lt) F (exprL e w0).2.steps.length v1 (wf tz (k2+1)) (atP F (l1:Int)+1) v1 (wf tz k2):=reach_zero (L:=lowP Lt) (F:=F) (v:=v1) (s:=wf tz (k2+1)) at1 rfl (by simp [wf]) (by simp only [g3];exact hz)
       rw [p1] at a1
       have h2:=hu Vis wj Fr v1 tz r k2 hr hs.2.2 (by rw [hw2];exact i2.len g5) (hrel1.moved (fun x hx=>by rw [nj.1,nt.1 x hx,nb.1]) (by rw [nj.2.1,nt.2,nb.2.1]) (by rw [nj.2.2];rw [nb.2.2] at tt;exact tt)) (by omega)
       rw [hw2] at h2
       obtain ⟨r,t2⟩:=r
       cases r with
       | ok G =>
         obtain ⟨v2,k3,b1,b2,b3,b4⟩:=h2
         obtain ⟨k4,rfl⟩:∃ k4,k3=k4+1:=⟨k3-1,by omega⟩
         have a2:=reach_step (L:=lowP Lt) (F:=F) (v:=v2) (v':=v2) (s:=wf t2 (k4+1)) (s':=wf t2 k4) at4 (by simp) (by simp [wf]) (by simp [stepM,okR,less_wf])
         rw [show w2.steps.length+1=we.steps.length by rw [← hwe,add_len]] at a2
         exact ⟨v2,k4,g1.trans (a1.trans (b1.trans a2)),by omega,b3.moved (fun x hx=>by rw [ne.1]) ne.2.1 (by rw [ne.2.2];exact Nat.le_refl _),b4.trans g5⟩
       | error er =>
         cases er with
         | stop wy =>
           rcases h2 with h2|⟨k',h2⟩
           · exact Or.inl h2
           · exact Or.inr ⟨k',g1.ends (a1.ends h2)⟩
         | ret n =>
           obtain ⟨k',h2,h3⟩:=h2
           exact ⟨k',g1.ends (a1.ends h2),by omega⟩
     · rw [if_pos hz] at hr
       have a1:Reach (lowP Lt) F (exprL e w0).2.steps.length v1 (wf tz (k2+1)) ((exprL e w0).2.steps.length+1) v1 (wf tz k2):=reach_more (L:=lowP Lt) (F:=F) (v:=v1) (s:=wf tz (k2+1)) at1 rfl (by simp [wf]) (by simp only [g3];exact hz)
       rw [← lb] at a1
       have h2:=ht Vis wb Fr v1 tz r k2 hr hs.2.1 (by rw [hw1];exact i1.len g5) (hrel1.moved (fun x hx=>by rw [nb.1]) nb.2.1 (by rw [nb.2.2];exact Nat.le_refl _)) (by omega)
       rw [hw1] at h2
       obtain ⟨r,t2⟩:=r
       cases r with
       | ok G =>
         obtain ⟨v2,k3,b1,b2,b3,b4⟩:=h2
         obtain ⟨k4,rfl⟩:∃ k4,k3=k4+1:=⟨k3-1,by omega⟩
         have a2:Reach (lowP Lt) F w1.steps.length v2 (wf t2 (k4+1)) (atP F (l2:Int)+1) v2 (wf t2 k4):=reach_jump (L:=lowP Lt) (F:=F) (v:=v2) (s:=wf t2 (k4+1)) at2 rfl (by simp [wf])
         rw [p2] at a2
         exact ⟨v2,k4,g1.trans (a1.trans (b1.trans a2)),by omega,b3.moved (fun x hx=>by rw [ne.1,nu.1 x hx,nj.1]) (by rw [ne.2.1,nu.2,nj.2.1]) (by rw [ne.2.2];rw [nj.2.2] at tu;exact tu),b4.trans g5⟩
       | error er =>
         cases er with
         | stop wy =>
           rcases h2 with h2|⟨k',h2⟩
           · exact Or.inl h2
           · exact Or.inr ⟨k',g1.ends (a1.ends h2)⟩
         | ret n =>
           obtain ⟨k',h2,h3⟩:=h2
           exact ⟨k',g1.ends (a1.ends h2),by omega⟩
def OkW (L:List Fm) (F:Fm) (C:Nat) (wh we:Lw) (Vis:List (List UInt8)) (v:Pl) (s:RS) (k c:Nat):Except Sig Fr×RS→Prop
 | (.ok G,s1)=>∃ v' k',Reach L F wh.steps.length v (wf s k) we.steps.length v' (wf s1 k')∧k+C*s1.fuel≤k'+C*s.fuel+c∧Rel we Vis G v'∧v'.length=v.length
 | (.error (.ret n),s1)=>∃ k',Ends L F wh.steps.length v (wf s k) (.ok n,wf s1 k')∧k+C*s1.fuel≤k'+C*s.fuel+c
 | (.error (.stop wy),s1)=>wy=6∨∃ k',Ends L F wh.steps.length v (wf s k) (.error (.stop wy),wf s1 k')
theorem simw {e:Ex} {t:List St} {Vis:List (List UInt8)} {wh wb w1 we:Lw} {l1 l2 n:Nat} (hC:8*exN e+8≤C) (hse:SeenE Lt Vis e) (hst:SeenSs Lt Vis t)
 (hwb:addL { stp0 with code:=5,a:=(exprL e wh).1,label:=(l2:Int) } (exprL e wh).2=wb) (hw1:blockL t wb=w1)
 (at2:F.steps[w1.steps.length]?=some { stp0 with code:=4,label:=(l1:Int) }) (p1:atP F (l1:Int)+1=wh.steps.length) (p2:atP F (l2:Int)+1=we.steps.length)
 (ne:we.names=w1.names∧we.none=w1.none∧we.types=w1.types) (hx:∀ j,j<n→∀ Vis,SimE Lt C F Vis j e) (hb:∀ j,j<n→SimB Lt C F j t) :
 (f:Nat)→f≤n→∀ (Fr:Fr) (v:Pl) (s:RS) (r:Except Sig TreeP.Fr×RS) (k:Nat),whileR Lt f s Fr e t=some r→In w1 F v→Rel wh Vis Fr v→C*s.fuel+8*exN e+2≤k→OkW (lowP Lt) F C wh we Vis v s k (8*exN e+1) r
 | 0,_,Fr,v,s,r,k,hr,i1,hrel,hk=>by simp only [whileR] at hr;cases hr
 | f+1,hf,Fr,v,s,r,k,hr,i1,hrel,hk=>by
   have ib:In wb F v:=by rw [← hw1] at i1;exact i1.less (block_new t _).pre (block_tp t _)
   have ic:In (exprL e wh).2 F v:=by rw [← hwb] at ib;exact ib.addl
   have at1:F.steps[(exprL e wh).2.steps.length]?=some { stp0 with code:=5,a:=(exprL e wh).1,label:=(l2:Int) }:=add_at (by rw [hwb];exact ib)
   have lb:wb.steps.length=(exprL e wh).2.steps.length+1:=by rw [← hwb,add_len]
   have tpe:=expr_tp e wh
   have sme:=expr_same e wh
   have nt:=block_names (Lt:=Lt) t Vis hst wb
   have tt:=block_tp t wb
   rw [hw1] at nt tt
   have nb:wb.names=(exprL e wh).2.names∧wb.none=(exprL e wh).2.none∧wb.types=(exprL e wh).2.types:=by rw [← hwb];exact ⟨rfl,rfl,rfl⟩
   simp only [whileR] at hr
   cases hy:evE Lt f s Fr e with
   | none=>rw [hy] at hr;cases hr
   | some z =>
     rw [hy] at hr
     have h1:=hx f (by omega) Vis wh Fr v s z k hy hse ic hrel (by omega)
     obtain ⟨z,tz⟩:=z
     cases z with
     | error er =>
       simp only [bindR,Option.some.injEq] at hr
       subst hr
       rcases h1 with h1|⟨⟨wy,h1⟩,k',h2⟩
       · subst h1
         exact Or.inl rfl
       · subst h1
         exact Or.inr ⟨k',h2⟩
     | ok y =>
       simp only [bindR] at hr
       obtain ⟨v1,k1,g1,g2,g3,g4,g5⟩:=h1
       obtain ⟨k2,rfl⟩:∃ k2,k1=k2+1:=⟨k1-1,by omega⟩
       have hrel1:Rel (exprL e wh).2 Vis Fr v1:=hrel.next sme.1 sme.2 tpe g4
       by_cases hz:y.n=0
       · rw [if_neg (fun h=>h hz)] at hr
         simp only [okR,Option.some.injEq] at hr
         subst hr
         have a1:Reach (lowP Lt) F (exprL e wh).2.steps.length v1 (wf tz (k2+1)) (atP F (l2:Int)+1) v1 (wf tz k2):=reach_zero (L:=lowP Lt) (F:=F) (v:=v1) (s:=wf tz (k2+1)) at1 rfl (by simp [wf]) (by simp only [g3];exact hz)
         rw [p2] at a1
         exact ⟨v1,k2,g1.trans a1,by omega,hrel1.moved (fun x hx=>by rw [ne.1,nt.1 x hx,nb.1]) (by rw [ne.2.1,nt.2,nb.2.1]) (by rw [ne.2.2];rw [nb.2.2] at tt;exact tt),g5⟩
       · rw [if_pos hz] at hr
         have a1:Reach (lowP Lt) F (exprL e wh).2.steps.length v1 (wf tz (k2+1)) ((exprL e wh).2.steps.length+1) v1 (wf tz k2):=reach_more (L:=lowP Lt) (F:=F) (v:=v1) (s:=wf tz (k2+1)) at1 rfl (by simp [wf]) (by simp only [g3];exact hz)
         rw [← lb] at a1
         cases hy2:blockR Lt f tz Fr t with
         | none=>rw [hy2] at hr;cases hr
         | some z2 =>
           rw [hy2] at hr
           have h2:=hb f (by omega) Vis wb Fr v1 tz z2 k2 hy2 hst (by rw [hw1];exact i1.len g5) (hrel1.moved (fun x hx=>by rw [nb.1]) nb.2.1 (by rw [nb.2.2];exact Nat.le_refl _)) (by omega)
           rw [hw1] at h2
           obtain ⟨z2,t2⟩:=z2
           cases z2 with
           | error er =>
             simp only [Option.some.injEq] at hr
             subst hr
             cases er with
             | stop wy =>
               rcases h2 with h2|⟨k',h2⟩
               · exact Or.inl h2
               · exact Or.inr ⟨k',g1.ends (a1.ends h2)⟩
             | ret n =>
               obtain ⟨k',h2,h3⟩:=h2
               exact ⟨k',g1.ends (a1.ends h2),by omega⟩
           | ok G =>
             obtain ⟨v2,k3,b1,b2,b3,b4⟩:=h2
             rcases bind_step hr with ⟨h0,rfl⟩|⟨h0,hr⟩
             · exact Or.inl rfl
             have hl:=step_less h0
             have hm:C*t2.fuel=C*(less t2).fuel+C:=by rw [← hl,Nat.mul_add,Nat.mul_one]
             obtain ⟨k4,rfl⟩:∃ k4,k3=k4+1:=⟨k3-1,by omega⟩
             have a2:Reach (lowP Lt) F w1.steps.length v2 (wf t2 (k4+1)) (atP F (l1:Int)+1) v2 (wf t2 k4):=reach_jump (L:=lowP Lt) (F:=F) (v:=v2) (s:=wf t2 (k4+1)) at2 rfl (by simp [wf])
             rw [p1] at a2
             have hrel2:Rel wh Vis G v2:=by
               refine ⟨fun x hxv=>?_,?_,fun x hxv y hyv he=>b3.inj x hxv y hyv (by rw [nt.1 x hxv,nt.1 y hyv,nb.1,sme.1];exact he),fun x hxv he=>b3.apart x hxv (by rw [nt.1 x hxv,nt.2,nb.1,nb.2.1,sme.1,sme.2];exact he)⟩
               · obtain ⟨p,m1,m2,m3⟩:=hrel.names x hxv
                 obtain ⟨q,n1,n2,n3⟩:=b3.names x hxv
                 rw [nt.1 x hxv,nb.1,sme.1,m1] at n1
                 have:p=q:=by omega
                 subst this
                 exact ⟨p,m1,m2,n3⟩
               · obtain ⟨p,m1,m2,m3⟩:=hrel.none
                 obtain ⟨q,n1,n2,n3⟩:=b3.none
                 rw [nt.2,nb.2.1,sme.2,m1] at n1
                 have:p=q:=by omega
                 subst this
                 exact ⟨p,m1,m2,n3⟩
             have h3:=simw hC hse hst hwb hw1 at2 p1 p2 ne hx hb f (by omega) G v2 (less t2) r k4 hr (i1.len (b4.trans g5)) hrel2 (by omega)
             have far:Reach (lowP Lt) F wh.steps.length v (wf s k) wh.steps.length v2 (wf t2 k4):=g1.trans (a1.trans (b1.trans a2))
             obtain ⟨r,t3⟩:=r
             cases r with
             | ok G2 =>
               obtain ⟨v3,k5,d1,d2,d3,d4⟩:=h3
               exact ⟨v3,k5,far.trans d1,by omega,d3,d4.trans (b4.trans g5)⟩
             | error er =>
               cases er with
               | stop wy =>
                 rcases h3 with h3|⟨k',h3⟩
                 · exact Or.inl h3
                 · exact Or.inr ⟨k',far.ends h3⟩
               | ret n =>
                 obtain ⟨k',h3,h4⟩:=h3
                 exact ⟨k',far.ends h3,by omega⟩
theorem sims_loop (a:Int) {e:Ex} {t:List St} (hU:LabU F.steps) (hx:∀ j,j<f+1→∀ Vis,SimE Lt C F Vis j e) (hb:∀ j,j<f+1→SimB Lt C F j t) (hC:8*exN e+8≤C):SimS Lt C F (f+1) (.loop a e t):=by
 intro Vis w Fr v s r k hr hs hi hrel hk
 simp only [stmtR] at hr
 simp only [SeenS,stmtL,visS] at hs hi ⊢
 obtain ⟨l1,hl1⟩:∃ l1,(labelL w).1=l1:=⟨_,rfl⟩
 obtain ⟨l2,hl2⟩:∃ l2,(labelL (labelL w).2).1=l2:=⟨_,rfl⟩
 obtain ⟨w0,hw0⟩:∃ w0,(labelL (labelL w).2).2=w0:=⟨_,rfl⟩
 rw [hl1,hl2,hw0] at hi ⊢
 have hst0:w0.steps=w.steps:=by rw [← hw0];rfl
 have hrel0:Rel w0 Vis Fr v:=hrel.moved (fun x hx=>by rw [← hw0];rfl) (by rw [← hw0];rfl) (by rw [← hw0];exact Nat.le_refl _)
 obtain ⟨wh,hwh⟩:∃ wh,addL { stp0 with code:=6,label:=(l1:Int) } w0=wh:=⟨_,rfl⟩
 rw [hwh] at hi ⊢
 obtain ⟨wb,hwb⟩:∃ wb,addL { stp0 with code:=5,a:=(exprL e wh).1,label:=(l2:Int) } (exprL e wh).2=wb:=⟨_,rfl⟩
 rw [hwb] at hi ⊢
 obtain ⟨w1,hw1⟩:∃ w1,blockL t wb=w1:=⟨_,rfl⟩
 rw [hw1] at hi ⊢
 obtain ⟨wk,hwk⟩:∃ wk,addL { stp0 with code:=4,label:=(l1:Int) } w1=wk:=⟨_,rfl⟩
 rw [hwk] at hi ⊢
 obtain ⟨we,hwe⟩:∃ we,addL { stp0 with code:=6,label:=(l2:Int) } wk=we:=⟨_,rfl⟩
 rw [hwe] at hi ⊢
 have ik:In wk F v:=by rw [← hwe] at hi;exact hi.addl
 have i1:In w1 F v:=by rw [← hwk] at ik;exact ik.addl
 have ib:In wb F v:=by rw [← hw1] at i1;exact i1.less (block_new t _).pre (block_tp t _)
 have ic:In (exprL e wh).2 F v:=by rw [← hwb] at ib;exact ib.addl
 have ih:In wh F v:=ic.less (expr_new e wh).pre (expr_tp e wh)
 have at0:F.steps[w0.steps.length]?=some { stp0 with code:=6,label:=(l1:Int) }:=add_at (by rw [hwh];exact ih)
 have at2:F.steps[w1.steps.length]?=some { stp0 with code:=4,label:=(l1:Int) }:=add_at (by rw [hwk];exact ik)
 have at4:F.steps[wk.steps.length]?=some { stp0 with code:=6,label:=(l2:Int) }:=add_at (by rw [hwe];exact hi)
 have lh:w0.steps.length+1=wh.steps.length:=by rw [← hwh,add_len]
 have p1:atP F (l1:Int)+1=wh.steps.length:=by rw [← lh];exact congrArg (·+1) (at_label hU at0 rfl)
 have p2:atP F (l2:Int)+1=we.steps.length:=by rw [← hwe,add_len];exact congrArg (·+1) (at_label hU at4 rfl)
 rcases bind_step hr with ⟨h0,rfl⟩|⟨h0,hr⟩
 · exact Or.inl rfl
 have hl:=step_less h0
 have hm:C*s.fuel=C*(less s).fuel+C:=by rw [← hl,Nat.mul_add,Nat.mul_one]
 obtain ⟨k2,rfl⟩:∃ k2,k=k2+1:=⟨k-1,by omega⟩
 have a1:Reach (lowP Lt) F w0.steps.length v (wf s (k2+1)) (w0.steps.length+1) v (wf s k2):=reach_step (L:=lowP Lt) (F:=F) (v:=v) (v':=v) (s:=wf s (k2+1)) (s':=wf s k2) at0 (by simp) (by simp [wf]) (by simp [stepM,okR,less_wf])
 rw [lh,hst0] at a1
 have h3:=simw hC hs.1 hs.2 hwb hw1 at2 p1 p2 (by rw [← hwe,← hwk];exact ⟨rfl,rfl,rfl⟩) hx hb f (Nat.le_succ f) Fr v (less s) r k2 hr i1 (hrel0.moved (fun x hx=>by rw [← hwh];rfl) (by rw [← hwh];rfl) (by rw [← hwh];exact Nat.le_refl _)) (by omega)
 obtain ⟨r,t3⟩:=r
 cases r with
 | ok G2 =>
   obtain ⟨v3,k5,d1,d2,d3,d4⟩:=h3
   exact ⟨v3,k5,a1.trans d1,by omega,d3,d4⟩
 | error er =>
   cases er with
   | stop wy =>
     rcases h3 with h3|⟨k',h3⟩
     · exact Or.inl h3
     · exact Or.inr ⟨k',a1.ends h3⟩
   | ret n =>
     obtain ⟨k',h3,h4⟩:=h3
     exact ⟨k',a1.ends h3,by omega⟩
theorem sims_any (hU:LabU F.steps):(f:Nat)→(∀ j,j<f→CallH Lt C j)→(x:St)→8*stN x+8≤C→SimS Lt C F f x:=by
 intro f
 induction f using Nat.strongRecOn with
 | _ f ih =>
   intro hc x hC
   cases f with
   | zero=>intro Vis w Fr v s r k hr;simp only [stmtR] at hr;cases hr
   | succ f =>
     have he:∀ j,j<f+1→∀ e Vis,SimE Lt C F Vis j e:=fun j hj e Vis=>sim_expr hU j (fun i hi=>hc i (by omega)) e
     have hbl:∀ j,j<f+1→∀ l:List St,8*stsN l+8≤C→SimB Lt C F j l:=fun j hj l hl=>simb_any l j (fun i hi y hy=>ih i (by omega) (fun m hm=>hc m (by omega)) y (by
       have:∀ (l:List St) (y:St),y∈l→stN y≤stsN l:=by
        intro l
        induction l with
        | nil=>intro y hy;cases hy
        | cons b r ihl =>
          intro y hy
          simp only [stsN]
          rcases List.mem_cons.1 hy with rfl|hy
          · omega
          · have:=ihl y hy;omega
       have:=this l y hy
       omega))
     cases x with
     | var a n e=>exact sims_var a n (fun Vis=>he f (by omega) e Vis) (by simp only [stN] at hC;omega)
     | set a n e=>exact sims_set a n (fun Vis=>he f (by omega) e Vis) (by simp only [stN] at hC;omega)
     | put a n i e=>exact sims_put a n (fun Vis=>he f (by omega) i Vis) (fun Vis=>he f (by omega) e Vis) (by simp only [stN] at hC;omega)
     | cond a e t u=>simp only [stN] at hC;exact sims_cond a hU (fun Vis=>he f (by omega) e Vis) (hbl f (by omega) t (by omega)) (hbl f (by omega) u (by omega)) (by omega)
     | loop a e t=>simp only [stN] at hC;exact sims_loop a hU (fun j hj Vis=>he j hj e Vis) (fun j hj=>hbl j hj t (by omega)) (by omega)
     | ret a e=>exact sims_ret a (fun Vis=>he f (by omega) e Vis) (by simp only [stN] at hC;omega)
     | print a e=>exact sims_print a (fun Vis=>he f (by omega) e Vis) (by simp only [stN] at hC;omega)
     | call a e=>exact sims_call a (fun Vis=>he f (by omega) e Vis) (by simp only [stN] at hC;omega)
end
end Go.Proofs.YtnicpmoanjddbaaGreatDoor.MidP.Sm

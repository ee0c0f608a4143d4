/- An expression's steps tell what the expression tells. No program in sight. No conditions. Expressions, kind by kind: their steps tell what they tell. No program in sight. No conditions. && and ||: their steps tell what they tell. No program in sight. No conditions. Calls within expressions: their steps tell what they tell. No program in sight. No conditions. -/
import Derived.Test.YtnicpmoanjddbaaGreatDoorMs32
namespace Go.Proofs.YtnicpmoanjddbaaGreatDoor.MidP.Sm
open Go.RowKit Go.Proofs.YtnicpmoanjddbaaGreatDoor.TreeP Go.Proofs.YtnicpmoanjddbaaGreatDoor.MidP
set_option linter.unusedVariables false
set_option linter.unusedSimpArgs false
def wf (s:RS) (k:Nat):RS:={ s with fuel:=k }
theorem less_wf (s:RS) (k:Nat):less (wf s (k+1))=wf s k:=rfl
theorem get_put {v:Pl} {p:Nat} (hp:p<v.length) (x:V) (q:Nat):(v.put (p:Int) x).get (q:Int)=if q=p then x else v.get (q:Int):=by
 simp only [Pl.put,Pl.get,Int.toNat_natCast,List.getD_eq_getElem?_getD]
 by_cases h:q=p
 · subst h
   rw [if_pos rfl,List.getElem?_set_self hp]
   rfl
 · rw [if_neg h,List.getElem?_set_ne (fun e=>h e.symm)]
theorem put_len (v:Pl) (p:Int) (x:V):(v.put p x).length=v.length:=by simp [Pl.put]
structure In (w:Lw) (F:Fm) (v:Pl):Prop where
 steps:w.steps <+: F.steps
 types:w.types.length≤v.length
def OkE (L:List Fm) (F:Fm) (C:Nat) (w w':Lw) (a:Int) (v:Pl) (s:RS) (k c:Nat):Except Sig V×RS→Prop
 | (.ok x,s1)=>∃ v' k',Reach L F w.steps.length v (wf s k) w'.steps.length v' (wf s1 k')∧k+C*s1.fuel≤k'+C*s.fuel+c∧v'.get a=x∧(∀ p:Nat,p<w.types.length→v'.get (p:Int)=v.get (p:Int))∧v'.length=v.length
 | (.error e,s1)=>e=.stop 6∨((∃ wy,e=.stop wy)∧∃ k',Ends L F w.steps.length v (wf s k) (.error e,wf s1 k'))
theorem to_at {w:Lw} {F:Fm} {v:Pl} {kd:Int} {x:Stp} (h:In (toL kd x w).2 F v):F.steps[w.steps.length]?=some { x with dst:=(w.types.length:Int) }∧w.types.length<v.length:=by
 obtain ⟨⟨t,ht⟩,h2⟩:=h
 refine ⟨?_,by simp [toL] at h2;omega⟩
 rw [← ht]
 simp [toL]
theorem okE_to {L:List Fm} {F:Fm} {C:Nat} {w:Lw} {kd:Int} {x:Stp} {v:Pl} {s s1:RS} {k:Nat} {y:V} (h:In (toL kd x w).2 F v) (hc:x.code≠4∧x.code≠5∧x.code≠7∧x.code≠8) (hs:s1.fuel=s.fuel)
 (hm:∀ k,stepM v { x with dst:=(w.types.length:Int) } (wf s k)=some (.ok (v.put (w.types.length:Int) y),wf s1 k)) (hk:1≤k):OkE L F C w (toL kd x w).2 (toL kd x w).1 v s k 1 (.ok y,s1):=by
 obtain ⟨h1,h2⟩:=to_at h
 obtain ⟨j,rfl⟩:∃ j,k=j+1:=⟨k-1,by omega⟩
 refine ⟨v.put (w.types.length:Int) y,j,?_,by rw [hs];omega,?_,fun p hp=>?_,put_len _ _ _⟩
 · have:=reach_step (L:=L) (F:=F) (i:=w.steps.length) (v:=v) (s:=wf s (j+1)) h1 hc (by simp [wf]) (hm j)
   simpa [toL] using this
 · show (v.put (w.types.length:Int) y).get (w.types.length:Int)=y
   rw [get_put h2,if_pos rfl]
 · rw [get_put h2,if_neg (by omega)]
theorem okE_stop {L:List Fm} {F:Fm} {C:Nat} {w:Lw} {kd:Int} {x:Stp} {v:Pl} {s s1:RS} {k:Nat} {wy:Int} (h:In (toL kd x w).2 F v) (hc:x.code≠4∧x.code≠5∧x.code≠7∧x.code≠8)
 (hm:∀ k,stepM v { x with dst:=(w.types.length:Int) } (wf s k)=some (.error (.stop wy),wf s1 k)) (hk:1≤k):OkE L F C w (toL kd x w).2 (toL kd x w).1 v s k 1 (.error (.stop wy),s1):=by
 obtain ⟨h1,h2⟩:=to_at h
 obtain ⟨j,rfl⟩:∃ j,k=j+1:=⟨k-1,by omega⟩
 exact Or.inr ⟨⟨wy,rfl⟩,j,ends_step (L:=L) (F:=F) (i:=w.steps.length) (v:=v) (s:=wf s (j+1)) h1 hc (by simp [wf]) (hm j)⟩
theorem okE_seq {L:List Fm} {F:Fm} {C:Nat} {w w1 w2:Lw} {a b:Int} {v:Pl} {s s1:RS} {k c1 c2:Nat} {x:V} {r:Except Sig V×RS} (h:OkE L F C w w1 a v s k c1 (.ok x,s1)) (hw:w.types.length≤w1.types.length)
 (h2:∀ v' k',v'.get a=x→(∀ p:Nat,p<w.types.length→v'.get (p:Int)=v.get (p:Int))→v'.length=v.length→k+C*s1.fuel≤k'+C*s.fuel+c1→OkE L F C w1 w2 b v' s1 k' c2 r):OkE L F C w w2 b v s k (c1+c2) r:=by
 obtain ⟨v1,k1,e1,e2,e3,e4,e5⟩:=h
 have h3:=h2 v1 k1 e3 e4 e5 e2
 obtain ⟨r,t⟩:=r
 cases r with
 | ok y =>
   obtain ⟨v2,k2,g1,g2,g3,g4,g5⟩:=h3
   exact ⟨v2,k2,e1.trans g1,by omega,g3,fun p hp=>(g4 p (by omega)).trans (e4 p hp),g5.trans e5⟩
 | error e =>
   rcases h3 with h3|⟨⟨wy,h3⟩,k',h4⟩
   · exact Or.inl h3
   · exact Or.inr ⟨⟨wy,h3⟩,k',e1.ends h4⟩
theorem okE_err {L:List Fm} {F:Fm} {C:Nat} {w w1 w2:Lw} {a b:Int} {v:Pl} {s s1:RS} {k c1 c2:Nat} {e:Sig} (h:OkE L F C w w1 a v s k c1 (.error e,s1)):OkE L F C w w2 b v s k c2 (.error e,s1):=h
structure Rel (w:Lw) (Vis:List (List UInt8)) (Fr:Fr) (v:Pl):Prop where
 names:∀ x∈Vis,∃ p:Nat,getN w.names x=(p:Int)∧p<w.types.length∧v.get (p:Int)=Fr.get x
 none:∃ p:Nat,w.none=(p:Int)∧p<w.types.length∧v.get (p:Int)=⟨0,.none⟩
 inj:∀ x∈Vis,∀ y∈Vis,getN w.names x=getN w.names y→x=y
 apart:∀ x∈Vis,getN w.names x≠w.none
theorem Rel.next {w w':Lw} {Vis:List (List UInt8)} {Fr:Fr} {v v':Pl} (h:Rel w Vis Fr v) (hn:w'.names=w.names) (h0:w'.none=w.none) (ht:w.types.length≤w'.types.length) (hv:∀ p:Nat,p<w.types.length→v'.get (p:Int)=v.get (p:Int)):Rel w' Vis Fr v':=by
 refine ⟨fun x hx=>?_,?_,fun x hx y hy e=>h.inj x hx y hy (by rw [← hn];exact e),fun x hx e=>h.apart x hx (by rw [← hn,← h0];exact e)⟩
 · obtain ⟨p,h1,h2,h3⟩:=h.names x hx
   exact ⟨p,by rw [hn];exact h1,by omega,(hv p h2).trans h3⟩
 · obtain ⟨p,h1,h2,h3⟩:=h.none
   exact ⟨p,by rw [h0];exact h1,by omega,(hv p h2).trans h3⟩
mutual
def SeenE (Lt:List TreeP.Fn) (Vis:List (List UInt8)):Ex→Prop
 | .num _ _=>True
 | .var _ x=>x∈Vis
 | .un _ op x=>(op=[33]∨op=[45])∧SeenE Lt Vis x
 | .bin _ op l r=>(op∈opList∨op=[38,38]∨op=[124,124])∧SeenE Lt Vis l∧SeenE Lt Vis r
 | .call _ g l=>(∃ fn,fnOf Lt g=some fn∧l.length=fn.params.length)∧SeenEs Lt Vis l
 | .new _ x=>SeenE Lt Vis x
 | .len _ x=>SeenE Lt Vis x
 | .item _ x i=>SeenE Lt Vis x∧SeenE Lt Vis i
 | .input _=>True
def SeenEs (Lt:List TreeP.Fn) (Vis:List (List UInt8)):List Ex→Prop
 | []=>True
 | e::r=>SeenE Lt Vis e∧SeenEs Lt Vis r
end
def SimE (Lt:List TreeP.Fn) (C:Nat) (F:Fm) (Vis:List (List UInt8)) (f:Nat) (e:Ex):Prop:=∀ (w:Lw) (Fr:Fr) (v:Pl) (s:RS) (r:Except Sig V×RS) (k:Nat),evE Lt f s Fr e=some r→SeenE Lt Vis e→In (exprL e w).2 F v→Rel w Vis Fr v→C*s.fuel+8*exN e≤k→OkE (lowP Lt) F C w (exprL e w).2 (exprL e w).1 v s k (8*exN e) r
theorem okE_more {L:List Fm} {F:Fm} {C:Nat} {w w1:Lw} {a:Int} {v:Pl} {s:RS} {k c c':Nat} {r:Except Sig V×RS} (h:OkE L F C w w1 a v s k c r) (hc:c≤c'):OkE L F C w w1 a v s k c' r:=by
 obtain ⟨r,t⟩:=r
 cases r with
 | ok y =>
   obtain ⟨v2,k2,g1,g2,g3,g4,g5⟩:=h
   exact ⟨v2,k2,g1,by omega,g3,g4,g5⟩
 | error e=>exact h
theorem In.less {w w':Lw} {F:Fm} {v:Pl} (h:In w' F v) (hs:w.steps <+: w'.steps) (ht:w.types.length≤w'.types.length):In w F v:=⟨hs.trans h.steps,Nat.le_trans ht h.types⟩
theorem In.len {w:Lw} {F:Fm} {v v':Pl} (h:In w F v) (hl:v'.length=v.length):In w F v':=⟨h.steps,by rw [hl];exact h.types⟩
mutual
theorem expr_same:(e:Ex)→(w:Lw)→(exprL e w).2.names=w.names∧(exprL e w).2.none=w.none
 | .num _ _,w=>⟨rfl,rfl⟩
 | .var _ _,w=>⟨rfl,rfl⟩
 | .un _ op x,w=>by
   have h:=expr_same x w
   simp only [exprL]
   split
   · exact h
   · exact h
 | .bin _ op l r,w=>by
   simp only [exprL]
   split
   · have h1:=expr_same l (labelL w).2
     unfold shortA
     split
     · exact ⟨(expr_same r _).1.trans h1.1,(expr_same r _).2.trans h1.2⟩
     · exact ⟨(expr_same r _).1.trans h1.1,(expr_same r _).2.trans h1.2⟩
   · exact ⟨(expr_same r _).1.trans (expr_same l w).1,(expr_same r _).2.trans (expr_same l w).2⟩
 | .call _ g l,w=>args_same l w
 | .new _ x,w=>expr_same x w
 | .len _ x,w=>expr_same x w
 | .item _ x i,w=>⟨(expr_same i _).1.trans (expr_same x w).1,(expr_same i _).2.trans (expr_same x w).2⟩
 | .input _,w=>⟨rfl,rfl⟩
theorem args_same:(l:List Ex)→(w:Lw)→(argsL l w).2.names=w.names∧(argsL l w).2.none=w.none
 | [],w=>⟨rfl,rfl⟩
 | e::r,w=>⟨(args_same r _).1.trans (expr_same e w).1,(args_same r _).2.trans (expr_same e w).2⟩
end
section
variable {Lt:List TreeP.Fn} {C:Nat} {F:Fm} {Vis:List (List UInt8)} {f:Nat}
theorem sim_num (a n:Int):SimE Lt C F Vis (f+1) (.num a n):=by
 intro w Fr v s r k hr hs hi hrel hk
 simp only [evE,okR,Option.some.injEq] at hr
 subst hr
 simp only [exprL,exN] at hi hk ⊢
 exact okE_more (okE_to hi (by simp) rfl (fun k=>by simp [stepM,okR]) (by omega)) (by omega)
theorem sim_input (a:Int):SimE Lt C F Vis (f+1) (.input a):=by
 intro w Fr v s r k hr hs hi hrel hk
 simp only [exprL,exN] at hi hk ⊢
 simp only [evE] at hr
 cases hp:s.inp with
 | nil =>
   rw [hp] at hr
   simp only [okR,Option.some.injEq] at hr
   subst hr
   exact okE_more (okE_to hi (by simp) rfl (fun k=>by simp [stepM,okR,wf,hp]) (by omega)) (by omega)
 | cons n t =>
   rw [hp] at hr
   simp only [okR,Option.some.injEq] at hr
   subst hr
   exact okE_more (okE_to hi (by simp) rfl (fun k=>by simp [stepM,okR,wf,hp]) (by omega)) (by omega)
theorem sim_var (a:Int) (x:List UInt8):SimE Lt C F Vis (f+1) (.var a x):=by
 intro w Fr v s r k hr hs hi hrel hk
 simp only [evE,okR,Option.some.injEq] at hr
 subst hr
 simp only [exprL,exN,SeenE] at hi hk hs ⊢
 obtain ⟨p,h1,h2,h3⟩:=hrel.names x hs
 exact ⟨v,k,Reach.refl _ _ _ _ _,by omega,by rw [h1];exact h3,fun p hp=>rfl,rfl⟩
theorem sim_one {x:Ex} (ih:SimE Lt C F Vis f x) {w:Lw} {Fr:Fr} {v:Pl} {s:RS} {r:Except Sig V×RS} {k:Nat} {kd:Int} {st:Stp} {g:V→RS→RM V}
 (hr:bindR (evE Lt f s Fr x) g=some r) (hs:SeenE Lt Vis x) (hi:In (toL kd st (exprL x w).2).2 F v) (hrel:Rel w Vis Fr v) (hk:C*s.fuel+8*exN x+8≤k)
 (hg:∀ y t v' k',g y t=some r→v'.get (exprL x w).1=y→Rel (exprL x w).2 Vis Fr v'→In (toL kd st (exprL x w).2).2 F v'→1≤k'→(∀ p:Nat,p<w.types.length→v'.get (p:Int)=v.get (p:Int))→OkE (lowP Lt) F C (exprL x w).2 (toL kd st (exprL x w).2).2 (toL kd st (exprL x w).2).1 v' t k' 1 r) :
 OkE (lowP Lt) F C w (toL kd st (exprL x w).2).2 (toL kd st (exprL x w).2).1 v s k (8*exN x+1) r:=by
 have hin:In (exprL x w).2 F v:=hi.less ⟨[_],rfl⟩ (by simp [toL])
 have htp:=expr_tp x w
 have hsm:=expr_same x w
 cases hx:evE Lt f s Fr x with
 | none=>rw [hx] at hr;cases hr
 | some z =>
   rw [hx] at hr
   have h1:=ih w Fr v s z k hx hs hin hrel (by omega)
   obtain ⟨z,t⟩:=z
   cases z with
   | error e =>
     simp only [bindR,Option.some.injEq] at hr
     subst hr
     exact okE_err h1
   | ok y =>
     simp only [bindR] at hr
     refine okE_seq h1 htp (fun v' k' e1 e2 e3 e4=>?_)
     exact hg y t v' k' hr e1 (hrel.next hsm.1 hsm.2 htp e2) (hi.len e3) (by omega) e2
theorem sim_len (a:Int) {x:Ex} (ih:SimE Lt C F Vis f x):SimE Lt C F Vis (f+1) (.len a x):=by
 intro w Fr v s r k hr hs hi hrel hk
 simp only [exprL,exN,SeenE,evE] at hi hk hs hr ⊢
 refine okE_more (sim_one ih hr hs hi hrel (by omega) (fun y t v' k' h1 h2 h3 h4 h5 h6=>?_)) (by omega)
 simp only [okR,Option.some.injEq] at h1
 subst h1
 exact okE_to h4 (by simp) rfl (fun k=>by simp [stepM,okR,h2,wf,arrOf]) h5
theorem sim_new (a:Int) {x:Ex} (ih:SimE Lt C F Vis f x):SimE Lt C F Vis (f+1) (.new a x):=by
 intro w Fr v s r k hr hs hi hrel hk
 simp only [exprL,exN,SeenE,evE] at hi hk hs hr ⊢
 refine okE_more (sim_one ih hr hs hi hrel (by omega) (fun y t v' k' h1 h2 h3 h4 h5 h6=>?_)) (by omega)
 by_cases hn:y.n<0∨y.n > 40
 · rw [if_pos hn] at h1
   simp only [stopR,Option.some.injEq] at h1
   subst h1
   exact okE_stop h4 (by simp) (fun k=>by simp only [stepM,h2];simp [stopR,hn]) h5
 · rw [if_neg hn] at h1
   simp only [okR,Option.some.injEq] at h1
   subst h1
   exact okE_to h4 (by simp) rfl (fun k=>by simp only [stepM,h2];simp [okR,hn,wf]) h5
theorem sim_un (a:Int) {op:List UInt8} {x:Ex} (ih:SimE Lt C F Vis f x):SimE Lt C F Vis (f+1) (.un a op x):=by
 intro w Fr v s r k hr hs hi hrel hk
 simp only [exprL,exN,SeenE,evE] at hi hk hs hr ⊢
 obtain ⟨hop,hs⟩:=hs
 by_cases h33:op=[33]
 · subst h33
   rw [if_pos rfl] at hi ⊢
   unfold zeroL at hi ⊢
   refine okE_more (sim_one ih hr hs hi hrel (by omega) (fun y t v' k' h1 h2 h3 h4 h5 h6=>?_)) (by omega)
   simp only [okR,Option.some.injEq] at h1
   subst h1
   obtain ⟨p,n1,n2,n3⟩:=h3.none
   exact okE_to h4 (by simp) rfl (fun k=>by simp [stepM,okR,h2,n1,n3,bothP]) h5
 · have h45:op=[45]:=hop.elim (fun e=>(h33 e).elim) id
   subst h45
   rw [if_neg (by decide)] at hi ⊢
   refine okE_more (sim_one ih hr hs hi hrel (by omega) (fun y t v' k' h1 h2 h3 h4 h5 h6=>?_)) (by omega)
   simp only [okR,Option.some.injEq] at h1
   subst h1
   obtain ⟨p,n1,n2,n3⟩:=h3.none
   exact okE_to h4 (by simp) rfl (fun k=>by simp [stepM,okR,h2,n1,n3,bothP]) h5
theorem sim_two {x i:Ex} (ih:SimE Lt C F Vis f x) (ih2:SimE Lt C F Vis f i) {w:Lw} {Fr:Fr} {v:Pl} {s:RS} {r:Except Sig V×RS} {k:Nat} {kd:Int} {st:Stp} {g:V→V→RS→RM V}
 (hr:(bindR (evE Lt f s Fr x) fun y s=>bindR (evE Lt f s Fr i) (g y))=some r) (hs:SeenE Lt Vis x) (hs2:SeenE Lt Vis i) (hi:In (toL kd st (exprL i (exprL x w).2).2).2 F v) (hrel:Rel w Vis Fr v) (hb:(exprL x w).1<((exprL x w).2.types.length:Int)∧0≤(exprL x w).1) (hk:C*s.fuel+8*exN x+8*exN i+8≤k)
 (hg:∀ y z t v' k',g y z t=some r→v'.get (exprL x w).1=y→v'.get (exprL i (exprL x w).2).1=z→Rel (exprL i (exprL x w).2).2 Vis Fr v'→In (toL kd st (exprL i (exprL x w).2).2).2 F v'→1≤k'→OkE (lowP Lt) F C (exprL i (exprL x w).2).2 (toL kd st (exprL i (exprL x w).2).2).2 (toL kd st (exprL i (exprL x w).2).2).1 v' t k' 1 r) :
 OkE (lowP Lt) F C w (toL kd st (exprL i (exprL x w).2).2).2 (toL kd st (exprL i (exprL x w).2).2).1 v s k (8*exN x+(8*exN i+1)) r:=by
 have htp2:=expr_tp i (exprL x w).2
 have hin:In (exprL x w).2 F v:=(hi.less (w:=(exprL i (exprL x w).2).2) ⟨[_],rfl⟩ (by simp [toL])).less (expr_new i _).pre htp2
 have htp:=expr_tp x w
 have hsm:=expr_same x w
 cases hx:evE Lt f s Fr x with
 | none=>rw [hx] at hr;cases hr
 | some z =>
   rw [hx] at hr
   have h1:=ih w Fr v s z k hx hs hin hrel (by omega)
   obtain ⟨z,t⟩:=z
   cases z with
   | error e =>
     simp only [bindR,Option.some.injEq] at hr
     subst hr
     exact okE_err h1
   | ok y =>
     simp only [bindR] at hr
     refine okE_seq h1 htp (fun v' k' e1 e2 e3 e4=>?_)
     refine sim_one ih2 hr hs2 (hi.len e3) (hrel.next hsm.1 hsm.2 htp e2) (by omega) ?_
     intro z t2 v2 k2 g1 g2 g3 g4 g5 g6
     refine hg y z t2 v2 k2 g1 ?_ g2 g3 g4 g5
     obtain ⟨p,hp⟩:∃ p:Nat,(exprL x w).1=(p:Int):=⟨(exprL x w).1.toNat,by have:=hb.2;omega⟩
     rw [hp] at e1 hb ⊢
     rw [g6 p (by have:=hb.1;omega)]
     exact e1
theorem both_two {op:List UInt8} (ho:op∈opList) (a b:Int):(∃ n,twoP op a b=some n∧bothP op a b=(n,0))∨(twoP op a b=none∧(bothP op a b).2=2):=by
 simp only [opList,List.mem_cons,List.not_mem_nil,or_false] at ho
 rcases ho with rfl|rfl|rfl|rfl|rfl|rfl|rfl|rfl|rfl|rfl|rfl
 all_goals
  by_cases hb:b=0
  · simp [twoP,bothP,hb]
  · simp [twoP,bothP,hb]
theorem sim_bin (a:Int) {op:List UInt8} {x i:Ex} (hop:¬ (op=[38,38]∨op=[124,124])) (hb:∀ w Fr v,Rel w Vis Fr v→SeenE Lt Vis x→(exprL x w).1<((exprL x w).2.types.length:Int)∧0≤(exprL x w).1) (ih:SimE Lt C F Vis f x) (ih2:SimE Lt C F Vis f i):SimE Lt C F Vis (f+1) (.bin a op x i):=by
 intro w Fr v s r k hr hs hi hrel hk
 simp only [exprL,exN,SeenE,evE,if_neg hop] at hi hk hs hr ⊢
 obtain ⟨ho,hs1,hs2⟩:=hs
 have ho:op∈opList:=ho.elim id (fun e=>(hop e).elim)
 refine okE_more (sim_two (g:=fun a b s=>match twoP op a.n b.n with|some n=>okR (numV n) s|none=>stopR 2 s) ih ih2 hr hs1 hs2 hi hrel (hb w Fr v hrel hs1) (by omega) (fun y z t v' k' h1 h2 h3 h4 h5 h6=>?_)) (by omega)
 rcases both_two ho y.n z.n with ⟨n,e1,e2⟩|⟨e1,e2⟩
 · simp only [e1,okR,Option.some.injEq] at h1
   subst h1
   exact okE_to h5 (by simp) rfl (fun k=>by simp [stepM,okR,h2,h3,e2]) h6
 · simp only [e1,stopR,Option.some.injEq] at h1
   subst h1
   exact okE_stop h5 (by simp) (fun k=>by simp [stepM,stopR,h2,h3,e2]) h6
theorem sim_item (a:Int) {x i:Ex} (hb:∀ w Fr v,Rel w Vis Fr v→SeenE Lt Vis x→(exprL x w).1<((exprL x w).2.types.length:Int)∧0≤(exprL x w).1) (ih:SimE Lt C F Vis f x) (ih2:SimE Lt C F Vis f i):SimE Lt C F Vis (f+1) (.item a x i):=by
 intro w Fr v s r k hr hs hi hrel hk
 simp only [exprL,exN,SeenE,evE] at hi hk hs hr ⊢
 refine okE_more (sim_two (g:=fun v k s=>bindR (placeR s v k.n) fun n s=>okR (numV n) s) ih ih2 hr hs.1 hs.2 hi hrel (hb w Fr v hrel hs.1) (by omega) (fun y z t v' k' h1 h2 h3 h4 h5 h6=>?_)) (by omega)
 by_cases hn:z.n<0∨z.n≥(arrOf t y).length
 · simp only [placeR,if_pos hn,stopR,bindR,Option.some.injEq] at h1
   subst h1
   refine okE_stop h5 (by simp) (fun k=>?_) h6
   have hn':z.n<0∨z.n≥((arrOf (wf t k) y).length:Int):=hn
   simp only [stepM,h2,h3,placeR,if_pos hn',stopR,bindR]
   simp
 · simp only [placeR,if_neg hn,okR,bindR,Option.some.injEq] at h1
   subst h1
   refine okE_to h5 (by simp) rfl (fun k=>?_) h6
   have hn':¬ (z.n<0∨z.n≥((arrOf (wf t k) y).length:Int)):=hn
   simp only [stepM,h2,h3,placeR,if_neg hn',okR,bindR]
   simp [arrOf,wf]
theorem to_place (kd:Int) (st:Stp) (w:Lw):(toL kd st w).1<((toL kd st w).2.types.length:Int)∧0≤(toL kd st w).1:=by
 simp only [toL,List.length_append,List.length_singleton];omega
theorem expr_place (e:Ex) (w:Lw) (Fr:Fr) (v:Pl) (h:Rel w Vis Fr v) (hs:SeenE Lt Vis e):(exprL e w).1<((exprL e w).2.types.length:Int)∧0≤(exprL e w).1:=by
 cases e with
 | num a n=>simp only [exprL];exact to_place _ _ _
 | var a x =>
   simp only [exprL,SeenE] at hs ⊢
   obtain ⟨p,h1,h2,h3⟩:=h.names x hs
   rw [h1]
   omega
 | un a op x =>
   simp only [exprL]
   split
   · exact to_place _ _ _
   · exact to_place _ _ _
 | bin a op l r =>
   simp only [exprL]
   split
   · unfold shortA
     split
     · refine ⟨?_,Int.natCast_nonneg _⟩
       refine Int.ofNat_lt.2 (Nat.lt_of_lt_of_le ?_ (expr_tp r _))
       simp [addL,zeroL,toL]
       try omega
     · refine ⟨?_,Int.natCast_nonneg _⟩
       refine Int.ofNat_lt.2 (Nat.lt_of_lt_of_le ?_ (expr_tp r _))
       simp [addL,toL]
       try omega
   · exact to_place _ _ _
 | call a g l=>simp only [exprL];exact to_place _ _ _
 | new a x=>simp only [exprL];exact to_place _ _ _
 | len a x=>simp only [exprL];exact to_place _ _ _
 | item a x i=>simp only [exprL];exact to_place _ _ _
 | input a=>simp only [exprL];exact to_place _ _ _
/-! && and ||. -/
theorem okE_add {L:List Fm} {w:Lw} {st:Stp} {v v':Pl} {s s1:RS} {k:Nat} (h:In (addL st w) F v) (hc:st.code≠4∧st.code≠5∧st.code≠7∧st.code≠8)
 (hm:∀ k,stepM v st (wf s k)=some (.ok v',wf s1 k)):Reach L F w.steps.length v (wf s (k+1)) (w.steps.length+1) v' (wf s1 k):=by
 obtain ⟨t,ht⟩:=h.steps
 refine reach_step (L:=L) (F:=F) (i:=w.steps.length) (v:=v) (s:=wf s (k+1)) (x:=st) ?_ hc (by simp [wf]) (hm k)
 rw [← ht]
 simp [addL]
end
end Go.Proofs.YtnicpmoanjddbaaGreatDoor.MidP.Sm
namespace Go.Proofs.YtnicpmoanjddbaaGreatDoor.MidP.Sm
open Go.RowKit Go.Proofs.YtnicpmoanjddbaaGreatDoor.TreeP Go.Proofs.YtnicpmoanjddbaaGreatDoor.MidP
set_option linter.unusedVariables false
set_option linter.unusedSimpArgs false
section
variable {Lt:List TreeP.Fn} {C:Nat} {F:Fm} {Vis:List (List UInt8)} {f:Nat}
theorem In.addl {w:Lw} {st:Stp} {v:Pl} (h:In (addL st w) F v):In w F v:=h.less ⟨[st],rfl⟩ (Nat.le_refl _)
theorem In.tol {w:Lw} {kd:Int} {st:Stp} {v:Pl} (h:In (toL kd st w).2 F v):In w F v:=h.less ⟨[_],rfl⟩ (by simp [toL])
def OkH (L:List Fm) (F:Fm) (C:Nat) (w w':Lw) (p:Nat) (v:Pl) (s:RS) (k c:Nat):Except Sig V×RS→Prop
 | (.ok y,s1)=>∃ v' k',Reach L F w.steps.length v (wf s k) w'.steps.length v' (wf s1 k')∧k+C*s1.fuel≤k'+C*s.fuel+c∧v'.get (p:Int)=y∧(∀ q:Nat,q<w.types.length→q≠p→v'.get (q:Int)=v.get (q:Int))∧v'.length=v.length
 | (.error e,s1)=>e=.stop 6∨((∃ wy,e=.stop wy)∧∃ k',Ends L F w.steps.length v (wf s k) (.error e,wf s1 k'))
theorem short_end {r:Ex} (ih2:SimE Lt C F Vis f r) {w5 r2 w7 w8:Lw} {r1:Int} {ln p:Nat} {Fr:Fr} {v:Pl} {s:RS} {x:Except Sig V×RS} {k:Nat} (h6:exprL r w5=(r1,r2)) (h7:addL { stp0 with code:=3,op:=[33,61],dst:=(p:Int),a:=r1,b:=r2.none } r2=w7) (h8:addL { stp0 with code:=6,label:=(ln:Int) } w7=w8)
 (hi:In w8 F v) (hrel:Rel w5 Vis Fr v) (hs:SeenE Lt Vis r) (hp:p<w5.types.length) (hk:C*s.fuel+8*exN r+2≤k) (hr:(bindR (evE Lt f s Fr r) fun b s=>okR (numV (oneB (b.n != 0))) s)=some x) :
 OkH (lowP Lt) F C w5 w8 p v s k (8*exN r+2) x:=by
 subst h8
 subst h7
 have hi7:=hi.addl
 have hi2:=hi7.addl
 have e2:r2=(exprL r w5).2:=by rw [h6]
 have e1:r1=(exprL r w5).1:=by rw [h6]
 have htp:=expr_tp r w5
 have hsm:=expr_same r w5
 rw [e2] at hi2
 cases hx:evE Lt f s Fr r with
 | none=>rw [hx] at hr;cases hr
 | some z =>
   rw [hx] at hr
   have h1:=ih2 w5 Fr v s z k hx hs hi2 hrel (by omega)
   obtain ⟨z,t⟩:=z
   cases z with
   | error e =>
     simp only [bindR,Option.some.injEq] at hr
     subst hr
     exact h1
   | ok y =>
     simp only [bindR,okR,Option.some.injEq] at hr
     subst hr
     obtain ⟨v1,k1,g1,g2,g3,g4,g5⟩:=h1
     rw [← e2] at g1 hsm htp
     rw [← e1] at g3
     have hrel1:=hrel.next hsm.1 hsm.2 htp g4
     obtain ⟨q,n1,n2,n3⟩:=hrel1.none
     have hpl:p<v1.length:=by have:=hi.types;simp only [addL] at this;rw [g5];omega
     obtain ⟨k2,rfl⟩:∃ k2,k1=k2+1+1:=⟨k1-2,by omega⟩
     have a1:=okE_add (L:=lowP Lt) (s:=t) (s1:=t) (v:=v1) (v':=v1.put (p:Int) (numV (oneB (y.n != 0)))) (k:=k2+1) (hi7.len g5) (by simp) (fun k=>by simp [stepM,okR,g3,n1,n3,bothP])
     have a2:=okE_add (L:=lowP Lt) (s:=t) (s1:=t) (v:=v1.put (p:Int) (numV (oneB (y.n != 0)))) (v':=v1.put (p:Int) (numV (oneB (y.n != 0)))) (k:=k2) (hi.len (by rw [put_len,g5])) (by simp) (fun k=>by simp [stepM,okR])
     refine ⟨v1.put (p:Int) (numV (oneB (y.n != 0))),k2,g1.trans (a1.trans ?_),by omega,by rw [get_put hpl,if_pos rfl],fun q hq hqp=>by rw [get_put hpl,if_neg hqp,g4 q hq],by rw [put_len,g5]⟩
     simpa [addL] using a2
theorem sim_and (a:Int) {l r:Ex} (hU:LabU F.steps) (ih:SimE Lt C F Vis f l) (ih2:SimE Lt C F Vis f r):SimE Lt C F Vis (f+1) (.bin a [38,38] l r):=by
 intro w Fr v s x k hr hs hi hrel hk
 obtain ⟨ln,w1,h1⟩:∃ x y,labelL w=(x,y):=⟨_,_,rfl⟩
 obtain ⟨c1,c2,h2⟩:∃ x y,exprL l w1=(x,y):=⟨_,_,rfl⟩
 obtain ⟨t1,t2,h3⟩:∃ x y,toL 1 { stp0 with code:=3,op:=[33,61],a:=c1,b:=c2.none } c2=(x,y):=⟨_,_,rfl⟩
 obtain ⟨w5,h5⟩:∃ x,addL { stp0 with code:=5,a:=t1,label:=(ln:Int) } t2=x:=⟨_,rfl⟩
 obtain ⟨r1,r2,h6⟩:∃ x y,exprL r w5=(x,y):=⟨_,_,rfl⟩
 obtain ⟨w7,h7⟩:∃ x,addL { stp0 with code:=3,op:=[33,61],dst:=t1,a:=r1,b:=r2.none } r2=x:=⟨_,rfl⟩
 obtain ⟨w8,h8⟩:∃ x,addL { stp0 with code:=6,label:=(ln:Int) } w7=x:=⟨_,rfl⟩
 have hall:exprL (.bin a [38,38] l r) w=(t1,w8):=by
  simp only [exprL,shortA,h1,h2,h3,h5,h6,h7,h8]
  simp [h5,h6,h7,h8]
 rw [hall] at hi ⊢
 simp only [exN,SeenE,evE] at hk hs hr ⊢
 have ht1:t1=(c2.types.length:Int):=by rw [show t1=(toL 1 { stp0 with code:=3,op:=[33,61],a:=c1,b:=c2.none } c2).1 by rw [h3]];rfl
 subst ht1
 have hw1:w1.types=w.types∧w1.steps=w.steps∧w1.names=w.names∧w1.none=w.none:=by rw [show w1=(labelL w).2 by rw [h1]];exact ⟨rfl,rfl,rfl,rfl⟩
 have htr:=expr_tp r w5
 rw [h6] at htr
 have hi7:In w7 F v:=by rw [← h8] at hi;exact hi.addl
 have hir:In r2 F v:=by rw [← h7] at hi7;exact hi7.addl
 have hnr:=(expr_new r w5).pre
 rw [h6] at hnr
 have hi5:In w5 F v:=hir.less hnr htr
 have hit:In t2 F v:=by rw [← h5] at hi5;exact hi5.addl
 have e3:t2=(toL 1 { stp0 with code:=3,op:=[33,61],a:=c1,b:=c2.none } c2).2:=by rw [h3]
 have hic:In c2 F v:=by rw [e3] at hit;exact hit.tol
 have htl:=expr_tp l w1
 have hsm:=expr_same l w1
 rw [h2] at htl hsm
 have hrel1:Rel w1 Vis Fr v:=hrel.next hw1.2.2.1 hw1.2.2.2 (by rw [hw1.1];exact Nat.le_refl _) (fun p hp=>rfl)
 obtain ⟨hs1,hs2⟩:=hs.2
 cases hx:evE Lt f s Fr l with
 | none=>rw [hx] at hr;cases hr
 | some z =>
   rw [hx] at hr
   have g0:=ih w1 Fr v s z k hx hs1 (by rw [h2];exact hic) hrel1 (by omega)
   rw [h2] at g0
   obtain ⟨z,t⟩:=z
   cases z with
   | error e =>
     simp only [bindR,Option.some.injEq] at hr
     subst hr
     unfold OkE at g0 ⊢
     rw [hw1.2.1] at g0
     exact g0
   | ok y =>
     simp only [bindR] at hr
     obtain ⟨v1,k1,g1,g2,g3,g4,g5⟩:=g0
     rw [hw1.2.1] at g1
     rw [hw1.1] at g4
     have hrelc:Rel c2 Vis Fr v1:=hrel1.next hsm.1 hsm.2 htl (by rw [hw1.1];exact g4)
     obtain ⟨q,n1,n2,n3⟩:=hrelc.none
     have hlen:c2.types.length<v1.length:=by
        have:=hit.types
        rw [e3] at this
        simp only [toL,List.length_append,List.length_singleton] at this
        omega
     obtain ⟨k2,rfl⟩:∃ k2,k1=k2+1+1:=⟨k1-2,by omega⟩
     have hto:=(to_at (v:=v1) (by rw [← e3];exact hit.len g5)).1
     have a1:=reach_step (L:=lowP Lt) (F:=F) (i:=c2.steps.length) (v:=v1) (s:=wf t (k2+1+1)) (v':=v1.put (c2.types.length:Int) (numV (oneB (y.n != 0)))) (s':=wf t (k2+1)) hto (by simp) (by simp [wf]) (by simp only [less_wf];simp [stepM,okR,g3,n1,n3,bothP])
     have hst:t2.steps.length=c2.steps.length+1:=by rw [e3];simp [toL]
     rw [← hst] at a1
     have h5at:F.steps[t2.steps.length]?=some { stp0 with code:=5,a:=(c2.types.length:Int),label:=(ln:Int) }:=by
        obtain ⟨d,hd⟩:=hi5.steps
        rw [← hd,← h5]
        simp [addL]
     have h8at:F.steps[w7.steps.length]?=some { stp0 with code:=6,label:=(ln:Int) }:=by
        obtain ⟨d,hd⟩:=hi.steps
        rw [← hd,← h8]
        simp [addL]
     have hat:=at_label hU h8at rfl
     have hget:(v1.put (c2.types.length:Int) (numV (oneB (y.n != 0)))).get (c2.types.length:Int)=numV (oneB (y.n != 0)):=by rw [get_put hlen,if_pos rfl]
     have hold:∀ p:Nat,p<w.types.length→(v1.put (c2.types.length:Int) (numV (oneB (y.n != 0)))).get (p:Int)=v.get (p:Int):=fun p hp=>by
        rw [get_put hlen,if_neg (by rw [hw1.1] at htl;simp only at htl;omega)]
        exact g4 p hp
     by_cases hy:y.n=0
     · rw [if_pos (by simp),if_pos (by simp [hy])] at hr
       simp only [okR,Option.some.injEq] at hr
       subst hr
       have a2:=reach_zero (L:=lowP Lt) (F:=F) (i:=t2.steps.length) (v:=v1.put (c2.types.length:Int) (numV (oneB (y.n != 0)))) (s:=wf t (k2+1)) h5at rfl (by simp [wf]) (by rw [hget];simp [numV,oneB,hy])
       rw [less_wf] at a2
       simp only at a2
       rw [hat] at a2
       have hs8:w8.steps.length=w7.steps.length+1:=by rw [← h8];simp [addL]
       rw [← hs8] at a2
       exact ⟨_,k2,g1.trans (a1.trans a2),by omega,hget,hold,by rw [put_len,g5]⟩
     · rw [if_pos (by simp),if_neg (by simp [hy])] at hr
       have a2:=reach_more (L:=lowP Lt) (F:=F) (i:=t2.steps.length) (v:=v1.put (c2.types.length:Int) (numV (oneB (y.n != 0)))) (s:=wf t (k2+1)) h5at rfl (by simp [wf]) (by rw [hget];simp [numV,oneB,hy])
       rw [less_wf] at a2
       have hs5:w5.steps.length=t2.steps.length+1:=by rw [← h5];simp [addL]
       rw [← hs5] at a2
       have hn5:w5.names=c2.names∧w5.none=c2.none∧w5.types.length=c2.types.length+1:=by rw [← h5,e3];exact ⟨rfl,rfl,by simp [addL,toL]⟩
       have hrel5:Rel w5 Vis Fr (v1.put (c2.types.length:Int) (numV (oneB (y.n != 0)))):=hrelc.next hn5.1 hn5.2.1 (by omega) (fun p hp=>by rw [get_put hlen,if_neg (by omega)])
       have hend:=short_end ih2 h6 h7 h8 (hi.len (by rw [put_len,g5])) hrel5 hs2 (by omega) (s:=t) (k:=k2) (by omega) hr
       obtain ⟨x,t3⟩:=x
       cases x with
       | error e =>
         rcases hend with e1|⟨e1,k',e2⟩
         · exact Or.inl e1
         · exact Or.inr ⟨e1,k',g1.ends (a1.ends (a2.ends e2))⟩
       | ok z =>
         obtain ⟨v3,k3,b1,b2,b3,b4,b5⟩:=hend
         refine ⟨v3,k3,g1.trans (a1.trans (a2.trans b1)),by omega,b3,fun p hp=>?_,by rw [b5,put_len,g5]⟩
         rw [b4 p (by rw [hw1.1] at htl;simp only at htl;omega) (by rw [hw1.1] at htl;simp only at htl;omega)]
         exact hold p hp
theorem sim_or (a:Int) {l r:Ex} (hU:LabU F.steps) (ih:SimE Lt C F Vis f l) (ih2:SimE Lt C F Vis f r):SimE Lt C F Vis (f+1) (.bin a [124,124] l r):=by
 intro w Fr v s x k hr hs hi hrel hk
 obtain ⟨ln,w1,h1⟩:∃ x y,labelL w=(x,y):=⟨_,_,rfl⟩
 obtain ⟨c1,c2,h2⟩:∃ x y,exprL l w1=(x,y):=⟨_,_,rfl⟩
 obtain ⟨t1,t2,h3⟩:∃ x y,toL 1 { stp0 with code:=3,op:=[33,61],a:=c1,b:=c2.none } c2=(x,y):=⟨_,_,rfl⟩
 obtain ⟨z1,z2,h4⟩:∃ x y,zeroL t1 t2=(x,y):=⟨_,_,rfl⟩
 obtain ⟨w5,h5⟩:∃ x,addL { stp0 with code:=5,a:=z1,label:=(ln:Int) } z2=x:=⟨_,rfl⟩
 obtain ⟨r1,r2,h6⟩:∃ x y,exprL r w5=(x,y):=⟨_,_,rfl⟩
 obtain ⟨w7,h7⟩:∃ x,addL { stp0 with code:=3,op:=[33,61],dst:=t1,a:=r1,b:=r2.none } r2=x:=⟨_,rfl⟩
 obtain ⟨w8,h8⟩:∃ x,addL { stp0 with code:=6,label:=(ln:Int) } w7=x:=⟨_,rfl⟩
 have hall:exprL (.bin a [124,124] l r) w=(t1,w8):=by
  simp only [exprL,shortA,h1,h2,h3,h4,h5,h6,h7,h8]
  simp only [h4,h5,h6,h7,h8,if_true,or_true]
 rw [hall] at hi ⊢
 simp only [exN,SeenE,evE] at hk hs hr ⊢
 have ht1:t1=(c2.types.length:Int):=by rw [show t1=(toL 1 { stp0 with code:=3,op:=[33,61],a:=c1,b:=c2.none } c2).1 by rw [h3]];rfl
 subst ht1
 have hw1:w1.types=w.types∧w1.steps=w.steps∧w1.names=w.names∧w1.none=w.none:=by rw [show w1=(labelL w).2 by rw [h1]];exact ⟨rfl,rfl,rfl,rfl⟩
 have htr:=expr_tp r w5
 rw [h6] at htr
 have hi7:In w7 F v:=by rw [← h8] at hi;exact hi.addl
 have hir:In r2 F v:=by rw [← h7] at hi7;exact hi7.addl
 have hnr:=(expr_new r w5).pre
 rw [h6] at hnr
 have hi5:In w5 F v:=hir.less hnr htr
 have hiz:In z2 F v:=by rw [← h5] at hi5;exact hi5.addl
 have e4:z2=(zeroL (c2.types.length:Int) t2).2:=by rw [h4]
 have ez:z1=(t2.types.length:Int):=by rw [show z1=(zeroL (c2.types.length:Int) t2).1 by rw [h4]];rfl
 subst ez
 have hit:In t2 F v:=by rw [e4] at hiz;exact In.tol (st:={ stp0 with code:=3,op:=[61,61],a:=(c2.types.length:Int),b:=t2.none }) hiz
 have e3:t2=(toL 1 { stp0 with code:=3,op:=[33,61],a:=c1,b:=c2.none } c2).2:=by rw [h3]
 have hic:In c2 F v:=by rw [e3] at hit;exact hit.tol
 have htl:=expr_tp l w1
 have hsm:=expr_same l w1
 rw [h2] at htl hsm
 have hrel1:Rel w1 Vis Fr v:=hrel.next hw1.2.2.1 hw1.2.2.2 (by rw [hw1.1];exact Nat.le_refl _) (fun p hp=>rfl)
 obtain ⟨hs1,hs2⟩:=hs.2
 cases hx:evE Lt f s Fr l with
 | none=>rw [hx] at hr;cases hr
 | some z =>
   rw [hx] at hr
   have g0:=ih w1 Fr v s z k hx hs1 (by rw [h2];exact hic) hrel1 (by omega)
   rw [h2] at g0
   obtain ⟨z,t⟩:=z
   cases z with
   | error e =>
     simp only [bindR,Option.some.injEq] at hr
     subst hr
     unfold OkE at g0 ⊢
     rw [hw1.2.1] at g0
     exact g0
   | ok y =>
     simp only [bindR] at hr
     obtain ⟨v1,k1,g1,g2,g3,g4,g5⟩:=g0
     rw [hw1.2.1] at g1
     rw [hw1.1] at g4
     have hrelc:Rel c2 Vis Fr v1:=hrel1.next hsm.1 hsm.2 htl (by rw [hw1.1];exact g4)
     obtain ⟨q,n1,n2,n3⟩:=hrelc.none
     have hlen:c2.types.length<v1.length:=by
        have:=hit.types
        rw [e3] at this
        simp only [toL,List.length_append,List.length_singleton] at this
        omega
     obtain ⟨k2,rfl⟩:∃ k2,k1=k2+1+1+1:=⟨k1-3,by omega⟩
     have hto:=(to_at (v:=v1) (by rw [← e3];exact hit.len g5)).1
     have a1:=reach_step (L:=lowP Lt) (F:=F) (i:=c2.steps.length) (v:=v1) (s:=wf t (k2+1+1+1)) (v':=v1.put (c2.types.length:Int) (numV (oneB (y.n != 0)))) (s':=wf t (k2+1+1)) hto (by simp) (by simp [wf]) (by simp only [less_wf];simp [stepM,okR,g3,n1,n3,bothP])
     have hst:t2.steps.length=c2.steps.length+1:=by rw [e3];simp [toL]
     rw [← hst] at a1
     have hget1:(v1.put (c2.types.length:Int) (numV (oneB (y.n != 0)))).get (c2.types.length:Int)=numV (oneB (y.n != 0)):=by rw [get_put hlen,if_pos rfl]
     have ht2n:t2.names=c2.names∧t2.none=c2.none∧t2.types.length=c2.types.length+1:=by rw [e3];exact ⟨rfl,rfl,by simp [toL]⟩
     obtain ⟨v2,hv2⟩:∃ v2,v2=(v1.put (c2.types.length:Int) (numV (oneB (y.n != 0)))).put (t2.types.length:Int) (numV (oneB (!(y.n != 0)))):=⟨_,rfl⟩
     have hl1:(v1.put (c2.types.length:Int) (numV (oneB (y.n != 0)))).length=v.length:=by rw [put_len,g5]
     have hlz:t2.types.length<(v1.put (c2.types.length:Int) (numV (oneB (y.n != 0)))).length:=by
        have:=hiz.types
        rw [e4] at this
        simp only [zeroL,toL,List.length_append,List.length_singleton] at this
        omega
     have htz:=(to_at (v:=v1.put (c2.types.length:Int) (numV (oneB (y.n != 0)))) (w:=t2) (kd:=1) (x:={ stp0 with code:=3,op:=[61,61],a:=(c2.types.length:Int),b:=t2.none }) (by rw [e4] at hiz;exact hiz.len hl1)).1
     have hq1:(v1.put (c2.types.length:Int) (numV (oneB (y.n != 0)))).get t2.none=⟨0,.none⟩:=by
        rw [ht2n.2.1,n1,get_put hlen,if_neg (by omega)]
        exact n3
     have az:=reach_step (L:=lowP Lt) (F:=F) (i:=t2.steps.length) (v:=v1.put (c2.types.length:Int) (numV (oneB (y.n != 0)))) (s:=wf t (k2+1+1)) (v':=v2) (s':=wf t (k2+1)) htz (by simp) (by simp [wf]) (by
        simp only [less_wf,hv2]
        simp only [stepM,hget1,hq1]
        by_cases hy0:y.n=0 <;> simp [okR,numV,oneB,bothP,hy0])
     have hsz:z2.steps.length=t2.steps.length+1:=by rw [e4];simp [zeroL,toL]
     rw [← hsz] at az
     have a1:=a1.trans az
     have h5at:F.steps[z2.steps.length]?=some { stp0 with code:=5,a:=(t2.types.length:Int),label:=(ln:Int) }:=by
        obtain ⟨d,hd⟩:=hi5.steps
        rw [← hd,← h5]
        simp [addL]
     have h8at:F.steps[w7.steps.length]?=some { stp0 with code:=6,label:=(ln:Int) }:=by
        obtain ⟨d,hd⟩:=hi.steps
        rw [← hd,← h8]
        simp [addL]
     have hat:=at_label hU h8at rfl
     have hget:v2.get (c2.types.length:Int)=numV (oneB (y.n != 0)):=by rw [hv2,get_put hlz,if_neg (by omega)];exact hget1
     have hgetz:v2.get (t2.types.length:Int)=numV (oneB (!(y.n != 0))):=by rw [hv2,get_put hlz,if_pos rfl]
     have hl2:v2.length=v.length:=by rw [hv2,put_len,hl1]
     have hold:∀ p:Nat,p<w.types.length→v2.get (p:Int)=v.get (p:Int):=fun p hp=>by
        rw [hv2,get_put hlz,if_neg (by rw [hw1.1] at htl;simp only at htl;omega),get_put hlen,if_neg (by rw [hw1.1] at htl;simp only at htl;omega)]
        exact g4 p hp
     by_cases hy:y.n≠0
     · rw [if_pos (by simp),if_pos (by simp [hy])] at hr
       simp only [okR,Option.some.injEq] at hr
       subst hr
       have a2:=reach_zero (L:=lowP Lt) (F:=F) (i:=z2.steps.length) (v:=v2) (s:=wf t (k2+1)) h5at rfl (by simp [wf]) (by rw [hgetz];simp [numV,oneB,hy])
       rw [less_wf] at a2
       simp only at a2
       rw [hat] at a2
       have hs8:w8.steps.length=w7.steps.length+1:=by rw [← h8];simp [addL]
       rw [← hs8] at a2
       exact ⟨_,k2,g1.trans (a1.trans a2),by omega,hget,hold,hl2⟩
     · rw [if_pos (by simp),if_neg (by simp [hy])] at hr
       have a2:=reach_more (L:=lowP Lt) (F:=F) (i:=z2.steps.length) (v:=v2) (s:=wf t (k2+1)) h5at rfl (by simp [wf]) (by rw [hgetz];simp [numV,oneB,hy])
       rw [less_wf] at a2
       have hs5:w5.steps.length=z2.steps.length+1:=by rw [← h5];simp [addL]
       rw [← hs5] at a2
       have hn5:w5.names=c2.names∧w5.none=c2.none∧w5.types.length=c2.types.length+2:=by rw [← h5,e4,e3];exact ⟨rfl,rfl,by simp [addL,zeroL,toL]⟩
       have hrel5:Rel w5 Vis Fr v2:=hrelc.next hn5.1 hn5.2.1 (by omega) (fun p hp=>by rw [hv2,get_put hlz,if_neg (by omega),get_put hlen,if_neg (by omega)])
       have hend:=short_end ih2 h6 h7 h8 (hi.len hl2) hrel5 hs2 (by omega) (s:=t) (k:=k2) (by omega) hr
       obtain ⟨x,t3⟩:=x
       cases x with
       | error e =>
         rcases hend with e1|⟨e1,k',e2⟩
         · exact Or.inl e1
         · exact Or.inr ⟨e1,k',g1.ends (a1.ends (a2.ends e2))⟩
       | ok z =>
         obtain ⟨v3,k3,b1,b2,b3,b4,b5⟩:=hend
         refine ⟨v3,k3,g1.trans (a1.trans (a2.trans b1)),by omega,b3,fun p hp=>?_,by rw [b5,hl2]⟩
         rw [b4 p (by rw [hw1.1] at htl;simp only at htl;omega) (by rw [hw1.1] at htl;simp only at htl;omega)]
         exact hold p hp
end
end Go.Proofs.YtnicpmoanjddbaaGreatDoor.MidP.Sm
namespace Go.Proofs.YtnicpmoanjddbaaGreatDoor.MidP.Sm
open Go.RowKit Go.Proofs.YtnicpmoanjddbaaGreatDoor.TreeP Go.Proofs.YtnicpmoanjddbaaGreatDoor.MidP
set_option linter.unusedVariables false
set_option linter.unusedSimpArgs false
def CallR (Lt:List TreeP.Fn) (C:Nat) (g:List UInt8) (vs:List V) (s:RS) (k:Nat):Except Sig Int×RS→Prop
 | (.ok m,s1)=>∃ k',Soon (fun n=>callM (lowP Lt) n (wf s k) g vs) (.ok m,wf s1 k')∧k+C*s1.fuel≤k'+C*s.fuel+3
 | (.error e,s1)=>e=.stop 6∨((∃ wy,e=.stop wy)∧∃ k',Soon (fun n=>callM (lowP Lt) n (wf s k) g vs) (.error e,wf s1 k'))
def CallH (Lt:List TreeP.Fn) (C f:Nat):Prop:=∀ (g:List UInt8) (vs:List V) (s:RS) (r:Except Sig Int×RS) (k:Nat),(∃ fn,fnOf Lt g=some fn∧vs.length=fn.params.length)→callR Lt f s g vs=some r→C*s.fuel+3≤k→CallR Lt C g vs s k r
def OkA (L:List Fm) (F:Fm) (C:Nat) (w w':Lw) (asl:List Int) (acc:List V) (v:Pl) (s:RS) (k c:Nat):Except Sig (List V)×RS→Prop
 | (.ok vs,s1)=>∃ v' k',Reach L F w.steps.length v (wf s k) w'.steps.length v' (wf s1 k')∧k+C*s1.fuel≤k'+C*s.fuel+c∧vs=acc++asl.map v'.get∧(∀ p:Nat,p<w.types.length→v'.get (p:Int)=v.get (p:Int))∧v'.length=v.length
 | (.error e,s1)=>e=.stop 6∨((∃ wy,e=.stop wy)∧∃ k',Ends L F w.steps.length v (wf s k) (.error e,wf s1 k'))
theorem argsL_len':(l:List Ex)→(w:Lw)→(argsL l w).1.length=l.length
 | [],w=>rfl
 | a::l,w=>by simp only [argsL,List.length_cons,argsL_len' l]
section
variable {Lt:List TreeP.Fn} {C:Nat} {F:Fm} {Vis:List (List UInt8)}
theorem sim_args:(l:List Ex)→(f:Nat)→(∀ j,j<f→∀ e∈l,SimE Lt C F Vis j e)→∀ (w:Lw) (Fr:Fr) (v:Pl) (s:RS) (r:Except Sig (List V)×RS) (k:Nat) (acc:List V),evA Lt f s Fr l acc=some r→SeenEs Lt Vis l→In (argsL l w).2 F v→Rel w Vis Fr v→C*s.fuel+8*exsN l≤k→OkA (lowP Lt) F C w (argsL l w).2 (argsL l w).1 acc v s k (8*exsN l) r
 | [],0,ih,w,Fr,v,s,r,k,acc,hr,hs,hi,hrel,hk=>by simp only [evA] at hr;cases hr
 | [],f+1,ih,w,Fr,v,s,r,k,acc,hr,hs,hi,hrel,hk=>by
   simp only [evA,okR,Option.some.injEq] at hr
   subst hr
   simp only [argsL,exsN]
   exact ⟨v,k,Reach.refl _ _ _ _ _,by omega,by simp,fun p hp=>rfl,rfl⟩
 | e::l,0,ih,w,Fr,v,s,r,k,acc,hr,hs,hi,hrel,hk=>by simp only [evA] at hr;cases hr
 | e::l,f+1,ih,w,Fr,v,s,r,k,acc,hr,hs,hi,hrel,hk=>by
   simp only [evA,argsL,exsN,SeenEs] at hr hi hk hs ⊢
   have htp:=expr_tp e w
   have hsm:=expr_same e w
   have hin:In (exprL e w).2 F v:=hi.less (args_new l _).pre (args_tp l _)
   have hpl:=expr_place e w Fr v hrel hs.1
   cases hx:evE Lt f s Fr e with
   | none=>rw [hx] at hr;cases hr
   | some z =>
     rw [hx] at hr
     have h1:=ih f (Nat.lt_succ_self f) e List.mem_cons_self w Fr v s z k hx hs.1 hin hrel (by omega)
     obtain ⟨z,t⟩:=z
     cases z with
     | error er =>
       simp only [bindR,Option.some.injEq] at hr
       subst hr
       exact h1
     | ok y =>
       simp only [bindR] at hr
       obtain ⟨v1,k1,g1,g2,g3,g4,g5⟩:=h1
       have h2:=sim_args l f (fun j hj e' he'=>ih j (by omega) e' (List.mem_cons_of_mem _ he')) (exprL e w).2 Fr v1 t r k1 (acc++[y]) hr hs.2 (hi.len g5) (hrel.next hsm.1 hsm.2 htp g4) (by omega)
       obtain ⟨r,t2⟩:=r
       cases r with
       | error er =>
         rcases h2 with h2|⟨h2,k',h3⟩
         · exact Or.inl h2
         · exact Or.inr ⟨h2,k',g1.ends h3⟩
       | ok vs =>
         obtain ⟨v2,k2,b1,b2,b3,b4,b5⟩:=h2
         refine ⟨v2,k2,g1.trans b1,by omega,?_,fun p hp=>(b4 p (by omega)).trans (g4 p hp),b5.trans g5⟩
         obtain ⟨p,hp⟩:∃ p:Nat,(exprL e w).1=(p:Int):=⟨(exprL e w).1.toNat,by have:=hpl.2;omega⟩
         have:v2.get (exprL e w).1=y:=by
          rw [hp] at g3 hpl ⊢
          rw [b4 p (by have:=hpl.1;omega)]
          exact g3
         rw [b3]
         simp [this]
theorem sim_call (f:Nat) (a:Int) (g:List UInt8) {l:List Ex} (ih:∀ j,j<f→∀ e∈l,SimE Lt C F Vis j e) (hc:CallH Lt C f):SimE Lt C F Vis (f+1) (.call a g l):=by
 intro w Fr v s r k hr hs hi hrel hk
 simp only [exprL,exN,SeenE,evE] at hi hk hs hr ⊢
 obtain ⟨⟨fn,hf1,hf2⟩,hs⟩:=hs
 have hia:In (argsL l w).2 F v:=hi.tol
 have htp:=args_tp l w
 cases hx:evA Lt f s Fr l [] with
 | none=>rw [hx] at hr;cases hr
 | some z =>
   rw [hx] at hr
   have h1:=sim_args l f ih w Fr v s z k [] hx hs hia hrel (by omega)
   obtain ⟨z,t⟩:=z
   cases z with
   | error e =>
     simp only [bindR,Option.some.injEq] at hr
     subst hr
     exact h1
   | ok vs =>
     simp only [bindR] at hr
     obtain ⟨v1,k1,g1,g2,g3,g4,g5⟩:=h1
     simp only [List.nil_append] at g3
     obtain ⟨q1,q2⟩:=to_at (hi.len g5)
     obtain ⟨k2,rfl⟩:∃ k2,k1=k2+1:=⟨k1-1,by omega⟩
     have hlen:vs.length=fn.params.length:=by rw [g3,List.length_map,← hf2];exact argsL_len' l w
     cases hy:callR Lt f t g vs with
     | none=>rw [hy] at hr;cases hr
     | some y =>
       rw [hy] at hr
       have h2:=hc g vs t y k2 ⟨fn,hf1,hlen⟩ hy (by omega)
       obtain ⟨y,t2⟩:=y
       cases y with
       | error e =>
         simp only [bindR,Option.some.injEq] at hr
         subst hr
         rcases h2 with h2|⟨h2,k',h3⟩
         · exact Or.inl h2
         · refine Or.inr ⟨h2,k',g1.ends (ends_call (s:=wf t (k2+1)) q1 rfl (by simp [wf]) ?_)⟩
           rw [less_wf]
           simp only
           rw [← g3]
           exact h3
       | ok m =>
         simp only [bindR,okR,Option.some.injEq] at hr
         subst hr
         obtain ⟨k',h3,h4⟩:=h2
         have a1:=reach_call (L:=lowP Lt) (F:=F) (i:=(argsL l w).2.steps.length) (v:=v1) (s:=wf t (k2+1)) (s':=wf t2 k') (m:=m) q1 rfl (by simp [wf]) (by
           rw [less_wf]
           simp only
           rw [← g3]
           exact h3)
         refine ⟨v1.put ((argsL l w).2.types.length:Int) (numV m),k',g1.trans ?_,by omega,?_,fun p hp=>?_,by rw [put_len,g5]⟩
         · simpa [toL] using a1
         · show (v1.put ((argsL l w).2.types.length:Int) (numV m)).get ((argsL l w).2.types.length:Int)=_
           rw [get_put q2,if_pos rfl]
         · rw [get_put q2,if_neg (by omega)]
           exact g4 p hp
theorem sim_expr (hU:LabU F.steps):(f:Nat)→(∀ j,j<f→CallH Lt C j)→(e:Ex)→SimE Lt C F Vis f e:=by
 intro f
 induction f using Nat.strongRecOn with
 | ind f ih =>
   intro hc e
   cases f with
   | zero =>
     intro w Fr v s r k hr
     simp only [evE] at hr
     cases hr
   | succ f =>
     have hx:∀ e,SimE Lt C F Vis f e:=ih f (Nat.lt_succ_self f) (fun j hj=>hc j (by omega))
     cases e with
     | num a n=>exact sim_num a n
     | var a x=>exact sim_var a x
     | un a op x=>exact sim_un a (hx x)
     | bin a op l r =>
       by_cases h1:op=[38,38]
       · subst h1
         exact sim_and a hU (hx l) (hx r)
       · by_cases h2:op=[124,124]
         · subst h2
           exact sim_or a hU (hx l) (hx r)
         · exact sim_bin a (fun e=>e.elim h1 h2) (fun w Fr v h hs=>expr_place l w Fr v h hs) (hx l) (hx r)
     | call a g l=>exact sim_call f a g (fun j hj e he=>ih j (by omega) (fun i hi=>hc i (by omega)) e) (hc f (Nat.lt_succ_self f))
     | new a x=>exact sim_new a (hx x)
     | len a x=>exact sim_len a (hx x)
     | item a x i=>exact sim_item a (fun w Fr v h hs=>expr_place x w Fr v h hs) (hx x) (hx i)
     | input a=>exact sim_input a
end
end Go.Proofs.YtnicpmoanjddbaaGreatDoor.MidP.Sm

/- Every text is read, with rounds enough; what was read fits. No program in sight. No conditions. Plainly: where a program's parts stand changes nothing of how it ends, nor whether something is found; who is found nothing of is right. No program in sight. No conditions. slices.Equal of two lists of numbers. Conditions: that the arguments read as lists. Texts that are read by reckoning. No program in sight. No conditions. The number that pick tells. No conditions. Parse as the laws call it. Conditions: what it reads of the package's variables lies as the program lays it. Whether something is found of a program, as the laws ask. Conditions: what is read lies. What the laws of the runner ask first: whether a text is a program of which nothing is found. Conditions: the variables lie as the program lays them. api.Tell of an error at a place. Conditions: errors.errorType lies as the program lays it. Steps, gone through: how a walk goes on. No program in sight. No conditions. What lower leaves as it was; its labels stand once each. No program in sight. No conditions. -/
import Derived.Test.YtnicpmoanjddbaaGreatDoorMs31
import Derived.Test.YtnicpmoanjddbaaGreatDoorMs07
import Derived.Test.YtnicpmoanjddbaaGreatDoorMs25
import Derived.Test.YtnicpmoanjddbaaGreatDoorMs28
import Derived.Test.YtnicpmoanjddbaaGreatDoorMs29
import Derived.Test.YtnicpmoanjddbaaGreatDoorMs06
import Derived.KernelRfl
import Derived.Test.YtnicpmoanjddbaaGreatDoorMs02
import Derived.Test.YtnicpmoanjddbaaGreatDoorMs20
import Derived.Test.YtnicpmoanjddbaaGreatDoorMs30
import Derived.Test.YtnicpmoanjddbaaGreatDoorMs12
namespace Go.Proofs.YtnicpmoanjddbaaGreatDoor.TreeP
set_option linter.unusedVariables false
set_option linter.unusedSimpArgs false
structure RunsS (f:Nat):Prop where
 block:∀ {d ts},12*ts.length+1≤f→blockF f d ts≠none
 stmts:∀ {d l ts},12*ts.length+3≤f→stmtsF f d l ts≠none
 stmt:∀ {d ts},12*ts.length+2≤f→stmtF f d ts≠none
 named:∀ {ts},12*ts.length+1≤f→namedF f ts≠none
theorem runsS:(f:Nat)→RunsS f
 | 0=>⟨fun h=>by omega,fun h=>by omega,fun h=>by omega,fun h=>by omega⟩
 | f+1=>by
   have ih:=runsS f
   have e:=runs f
   have L:=lens f
   have S:=slens f
   refine ⟨?_,?_,?_,?_⟩
   · intro d ts h
     simp only [blockF]
     split
     · exact failP_runs _ _
     · refine andThen_runs (must_runs _ _) fun u r hu=>ih.stmts ?_
       have:=must_less hu
       omega
   · intro d l ts h
     simp only [stmtsF]
     split
     · exact okP_runs _ _
     · refine andThen_runs (ih.stmt (by omega)) fun x r hx=>ih.stmts ?_
       have:=S.stmt hx
       omega
   · intro d ts h
     simp only [stmtF]
     have semi:∀ {α:Type} (mk:Ex→α) {s:List UInt8},seeB s ts=true→(andThen (exprF f 0 0 ts.tail) fun v r=>andThen (must [59] r) fun _ r2=>okP (mk v) r2)≠none:=by
      intro α mk s hs
      have:=see_less hs
      exact andThen_runs (e.expr (by omega) (by omega)) fun v r hv=>andThen_runs (must_runs _ _) fun _ _ _=>okP_runs _ _
     split
     · rename_i hs
       have:=see_less hs
       refine andThen_runs (e.alone (by omega)) fun v r hv=>?_
       have:=L.alone hv
       refine andThen_runs (ih.block (by omega)) fun t r2 ht=>?_
       have:=S.block ht
       split
       · rename_i hs2
         have:=see_less hs2
         exact andThen_runs (ih.block (by omega)) fun _ _ _=>okP_runs _ _
       · exact okP_runs _ _
     · split
       · rename_i hs
         have:=see_less hs
         refine andThen_runs (e.alone (by omega)) fun v r hv=>?_
         have:=L.alone hv
         exact andThen_runs (ih.block (by omega)) fun _ _ _=>okP_runs _ _
       · split
         · rename_i hs
           have:=see_less hs
           refine andThen_runs (name_runs _) fun n r hn=>andThen_runs (must_runs _ _) fun u r2 hu=>?_
           have:=name_less hn
           have:=must_less hu
           exact andThen_runs (e.expr (by omega) (by omega)) fun v r hv=>andThen_runs (must_runs _ _) fun _ _ _=>okP_runs _ _
         · split
           · rename_i hs
             exact semi _ hs
           · split
             · rename_i hs
               exact semi _ hs
             · exact andThen_runs (ih.named (by omega)) fun _ _ _=>andThen_runs (must_runs _ _) fun _ _ _=>okP_runs _ _
   · intro ts h
     simp only [namedF]
     refine andThen_runs (name_runs _) fun n r hn=>?_
     have:=name_less hn
     split
     · exact andThen_runs (e.args (by omega)) fun _ _ _=>okP_runs _ _
     · split
       · rename_i hs
         have:=see_less hs
         refine andThen_runs (e.expr (by omega) (by omega)) fun i r2 hi=>andThen_runs (must_runs _ _) fun u r3 hu=>andThen_runs (must_runs _ _) fun u2 r4 hu2=>?_
         have:=L.expr hi
         have:=must_less hu
         have:=must_less hu2
         exact andThen_runs (e.expr (by omega) (by omega)) fun _ _ _=>okP_runs _ _
       · refine andThen_runs (must_runs _ _) fun u r2 hu=>?_
         have:=must_less hu
         exact andThen_runs (e.expr (by omega) (by omega)) fun _ _ _=>okP_runs _ _
theorem params_runs:(f:Nat)→(b:Bool)→(l:List (List UInt8×Int))→(ts:List Tok)→ts.length<f→paramsF f b l ts≠none
 | 0,_,_,_,h=>by omega
 | f+1,b,l,ts,h=>by
   simp only [paramsF]
   split
   · exact okP_runs _ _
   · refine andThen_runs (by split;exact okP_runs _ _;exact must_runs _ _) fun u r hu=>?_
     have hr:r.length≤ts.length:=by
      split at hu
      · rw [(okP_ok hu).2];exact Nat.le_refl _
      · exact Nat.le_of_lt (must_less hu)
     refine andThen_runs (name_runs _) fun n r2 hn=>andThen_runs (must_runs _ _) fun u2 r3 hu2=>?_
     have:=name_less hn
     have:=must_less hu2
     split
     · exact params_runs f _ _ _ (by have:=tail_le r3;omega)
     · refine andThen_runs (must_runs _ _) fun u4 r4 hu4=>params_runs f _ _ _ ?_
       have:=must_less hu4
       omega
theorem function_runs {f:Nat} {ts:List Tok} (h:12*ts.length+1≤f):functionF f ts≠none:=by
 cases f with
 | zero=>omega
 | succ f =>
   simp only [functionF]
   refine andThen_runs (must_runs _ _) fun u r hu=>andThen_runs (name_runs _) fun n r2 hn=>andThen_runs (must_runs _ _) fun u3 r3 hu3=>?_
   have:=must_less hu
   have:=name_less hn
   have:=must_less hu3
   refine andThen_runs (params_runs _ _ _ _ (by omega)) fun ps r4 hp=>?_
   have:=params_le _ _ _ _ hp
   exact andThen_runs ((runsS f).block (by omega)) fun _ _ _=>okP_runs _ _
theorem program_runs:(f:Nat)→(l:List Fn)→(ts:List Tok)→12*ts.length+2≤f→programF f l ts≠none
 | 0,_,_,h=>by omega
 | f+1,l,ts,h=>by
   simp only [programF]
   split
   · exact okP_runs _ _
   · split
     · exact failP_runs _ _
     · refine andThen_runs (function_runs (by omega)) fun x r hx=>program_runs f _ _ ?_
       have:=function_less hx
       omega
def ReadTo (s:List UInt8) (x:Except (Int×Int) (List Fn)):Prop:=(∃ f n a,lexF f s 0 0=some (.error (n,a))∧x=.error (n,a))∨(∃ f fp ts y,lexF f s 0 0=some (.ok ts)∧programF fp [] ts=some y∧x=dropRest y)
theorem read_any (s:List UInt8):∃ x,ReadTo s x:=by
 have h1:=lex_runs (s.length+1) s 0 0 (by omega)
 cases hx:lexF (s.length+1) s 0 0 with
 | none=>exact absurd hx h1
 | some y =>
   cases y with
   | error e=>exact ⟨_,Or.inl ⟨_,e.1,e.2,hx,rfl⟩⟩
   | ok ts =>
     have h2:=program_runs (12*ts.length+2) [] ts (Nat.le_refl _)
     cases hy:programF (12*ts.length+2) [] ts with
     | none=>exact absurd hy h2
     | some y=>exact ⟨_,Or.inr ⟨_,_,ts,y,hx,hy,rfl⟩⟩
structure Prog (l:List Fn):Prop where
 fit:∀ x∈l,FitF x
 few:l.length≤12
 cnt:cntFs l≤1500
theorem read_prog {s:List UInt8} {l:List Fn} (h:ReadTo s (.ok l)):Prog l:=by
 rcases h with ⟨f,n,a,h1,h2⟩|⟨f,fp,ts,y,h1,h2,h3⟩
 · cases h2
 · cases y with
   | error e=>cases h3
   | ok p =>
     obtain ⟨l',r⟩:=p
     cases h3
     obtain ⟨a1,a2⟩:=lex_gives f s 0 0 ts (by omega) h1
     obtain ⟨b1,b2,b3,b4,b5⟩:=program_made fp [] ts a1 (fun _ h=>nomatch h) (by simp) h2
     refine ⟨b1,b2,?_⟩
     have hr:1≤r.length:=by
        obtain ⟨a,ha⟩:=b5.2
        cases r with
        | nil=>simp at ha
        | cons _ _=>simp
     simp only [cntFs] at b3
     omega
theorem lex_few:(f:Nat)→(l:List UInt8)→(p n:Nat)→(ts:List Tok)→lexF f l p n=some (.ok ts)→ts.length≤l.length+1
 | 0,l,p,n,ts,h=>by simp [lexF] at h
 | f+1,[],p,n,ts,h=>by
   simp only [lexF,Option.some.injEq,Except.ok.injEq] at h
   subst h
   simp
 | f+1,c::r,p,n,ts,h=>by
   simp only [lexF] at h
   split at h
   · have:=lex_few f _ _ _ ts h
     simp only [List.length_cons];omega
   · split at h
     · have:=lex_few f _ _ _ ts h
       have h2:=dropWhile_le (fun x=>x.toNat != 10) (c::r)
       omega
     · split at h
       · simp at h
       · rename_i h0
         split at h
         · simp at h
         · rename_i h15
           split at h
           · rename_i t ht
             simp only [Option.some.injEq,Except.ok.injEq] at h
             subst h
             have:=lex_few f _ _ _ t ht
             simp only [List.length_drop,List.length_cons] at this ⊢
             omega
           · rename_i hx
             exact absurd h (hx ts)
theorem read_few {s:List UInt8} {l:List Fn} (h:ReadTo s (.ok l)):cntFs l≤s.length:=by
 rcases h with ⟨f,n,a,h1,h2⟩|⟨f,fp,ts,y,h1,h2,h3⟩
 · cases h2
 · cases y with
   | error e=>cases h3
   | ok p =>
     obtain ⟨l',r⟩:=p
     cases h3
     obtain ⟨a1,a2⟩:=lex_gives f s 0 0 ts (by omega) h1
     have a3:=lex_few f s 0 0 ts h1
     obtain ⟨b1,b2,b3,b4,b5⟩:=program_made fp [] ts a1 (fun _ h=>nomatch h) (by simp) h2
     have hr:1≤r.length:=by
        obtain ⟨a,ha⟩:=b5.2
        cases r with
        | nil=>simp at ha
        | cons _ _=>simp
     simp only [cntFs] at b3
     omega
end Go.Proofs.YtnicpmoanjddbaaGreatDoor.TreeP
namespace Go.Proofs.YtnicpmoanjddbaaGreatDoor.TreeP
open Go.RowKit
set_option linter.unusedVariables false
set_option linter.unusedSimpArgs false
/-! Which functions there are. -/
/-! Whether something is found. -/
/-! Right. -/
theorem name_short {s:List UInt8} (h:NameOk s):s.length≤10000000:=by have:=h.2.2.2;omega
def FewP (L:List Fn):Prop:=∀ g fn,fnOf L g=some fn→fn.params.length≤1000000
mutual
theorem goodE_of {L:List Fn} (hP:FewP L) (N:Nm):(e:Ex)→(d:Nat)→(t:Int)→Fit e d→exprK L N e=.ok t→GoodE L e
 | .num _ n,d,t,hf,hk=>trivial
 | .var _ s,d,t,hf,hk=>by simp only [Fit] at hf;exact name_short hf.2
 | .bin _ op l r,d,t,hf,hk=>by
   simp only [Fit] at hf
   simp only [exprK] at hk
   obtain ⟨t1,k1,hk⟩:=bindK_ok hk
   obtain ⟨_,_,hk⟩:=bindK_ok hk
   obtain ⟨t2,k2,hk⟩:=bindK_ok hk
   refine ⟨?_,?_⟩
   · have h2:=hf.2.1
     split at h2
     · exact goodE_of hP N l _ _ h2.2 k1
     · exact goodE_of hP N l _ _ h2 k1
   · have h2:=hf.2.2
     split at h2
     · exact goodE_of hP N r _ _ h2.2 k2
     · exact goodE_of hP N r _ _ h2 k2
 | .un _ op x,d,t,hf,hk=>by
   simp only [Fit] at hf
   simp only [exprK] at hk
   obtain ⟨t1,k1,hk⟩:=bindK_ok hk
   simp only [GoodE]
   have h2:=hf.2.2
   split at h2
   · exact goodE_of hP N x _ _ h2.2 k1
   · exact goodE_of hP N x _ _ h2 k1
 | .call _ f args,d,t,hf,hk=>by
   simp only [Fit] at hf
   simp only [exprK] at hk
   cases hfn:fnOf L f with
   | none=>rw [hfn] at hk;cases hk
   | some g =>
     rw [hfn] at hk
     simp only at hk
     split at hk
     · rename_i hl
       obtain ⟨_,k1,hk⟩:=bindK_ok hk
       have:=hP f g hfn
       exact ⟨name_short hf.2.1,by omega,⟨g,hfn,hl⟩,goodEs_of hP N args _ _ hf.2.2 (by simp [hl]) k1⟩
     · cases hk
 | .new _ x,d,t,hf,hk=>by
   simp only [Fit] at hf
   simp only [exprK] at hk
   obtain ⟨t1,k1,hk⟩:=bindK_ok hk
   exact goodE_of hP N x _ _ hf.2 k1
 | .len _ x,d,t,hf,hk=>by
   simp only [Fit] at hf
   simp only [exprK] at hk
   obtain ⟨t1,k1,hk⟩:=bindK_ok hk
   exact goodE_of hP N x _ _ hf.2 k1
 | .item _ x i,d,t,hf,hk=>by
   simp only [Fit] at hf
   simp only [exprK] at hk
   obtain ⟨t1,k1,hk⟩:=bindK_ok hk
   obtain ⟨_,_,hk⟩:=bindK_ok hk
   obtain ⟨t2,k2,hk⟩:=bindK_ok hk
   refine ⟨?_,goodE_of hP N i _ _ hf.2.2 k2⟩
   have h2:=hf.2.1
   split at h2
   · exact goodE_of hP N x _ _ h2 k1
   · split at h2
     · exact goodE_of hP N x _ _ h2.2 k1
     · exact goodE_of hP N x _ _ h2 k1
 | .input _,d,t,hf,hk=>trivial
theorem goodEs_of {L:List Fn} (hP:FewP L) (N:Nm):(l:List Ex)→(d:Nat)→(ks:List Int)→Fits l d→l.length=ks.length→argsK L N l ks=.ok ()→GoodEs L l
 | [],d,ks,hf,hl,hk=>trivial
 | e::r,d,[],hf,hl,hk=>by simp at hl
 | e::r,d,k::ks,hf,hl,hk=>by
   simp only [Fits] at hf
   simp only [argsK] at hk
   obtain ⟨t1,k1,hk⟩:=bindK_ok hk
   obtain ⟨_,_,hk⟩:=bindK_ok hk
   exact ⟨goodE_of hP N e _ _ hf.1 k1,goodEs_of hP N r _ _ hf.2 (by simpa using hl) hk⟩
end
theorem goodW_of {L:List Fn} (hP:FewP L) {N:Nm} {e:Ex} {d:Nat} {k:Int} {u:Unit} (hf:Fit e d) (h:wantK L N e k=.ok u):GoodE L e:=by
 unfold wantK at h
 obtain ⟨t,h1,_⟩:=bindK_ok h
 exact goodE_of hP N e d t hf h1
mutual
theorem goodS_of {L:List Fn} (hP:FewP L):(x:St)→(N:Nm)→(m d:Nat)→(y:Nm×Nat)→FitS x d→stmtK L N m x=.ok y→GoodS L x
 | .var _ s v,N,m,d,y,hf,hk=>by
   simp only [FitS] at hf
   simp only [stmtK] at hk
   obtain ⟨t,h1,_⟩:=bindK_ok hk
   exact ⟨name_short hf.1,goodE_of hP N v _ _ hf.2 h1⟩
 | .set _ s v,N,m,d,y,hf,hk=>by
   simp only [FitS] at hf
   simp only [stmtK] at hk
   split at hk
   · cases hk
   · obtain ⟨t,h1,_⟩:=bindK_ok hk
     exact ⟨name_short hf.1,goodW_of hP hf.2 h1⟩
 | .put _ s i v,N,m,d,y,hf,hk=>by
   simp only [FitS] at hf
   simp only [stmtK] at hk
   split at hk
   · cases hk
   · split at hk
     · cases hk
     · obtain ⟨t,h1,hk⟩:=bindK_ok hk
       obtain ⟨t2,h2,hk⟩:=bindK_ok hk
       exact ⟨name_short hf.1,goodW_of hP hf.2.1 h1,goodW_of hP hf.2.2 h2⟩
 | .cond _ v t e,N,m,d,y,hf,hk=>by
   simp only [FitS] at hf
   simp only [stmtK] at hk
   obtain ⟨_,h1,hk⟩:=bindK_ok hk
   obtain ⟨_,h2,hk⟩:=bindK_ok hk
   obtain ⟨_,h3,hk⟩:=bindK_ok hk
   exact ⟨goodW_of hP hf.1 h1,goodSs_of hP t _ _ _ _ hf.2.2.1 h2,goodSs_of hP e _ _ _ _ hf.2.2.2 h3⟩
 | .loop _ v t,N,m,d,y,hf,hk=>by
   simp only [FitS] at hf
   simp only [stmtK] at hk
   obtain ⟨_,h1,hk⟩:=bindK_ok hk
   obtain ⟨_,h2,hk⟩:=bindK_ok hk
   exact ⟨goodW_of hP hf.1 h1,goodSs_of hP t _ _ _ _ hf.2.2 h2⟩
 | .ret _ v,N,m,d,y,hf,hk=>by
   simp only [FitS] at hf
   simp only [stmtK] at hk
   obtain ⟨_,h1,hk⟩:=bindK_ok hk
   exact goodW_of hP hf h1
 | .print _ v,N,m,d,y,hf,hk=>by
   simp only [FitS] at hf
   simp only [stmtK] at hk
   obtain ⟨_,h1,hk⟩:=bindK_ok hk
   exact goodW_of hP hf h1
 | .call _ v,N,m,d,y,hf,hk=>by
   simp only [FitS] at hf
   simp only [stmtK] at hk
   obtain ⟨_,h1,hk⟩:=bindK_ok hk
   exact goodW_of hP hf.2 h1
theorem goodSs_of {L:List Fn} (hP:FewP L):(l:List St)→(N:Nm)→(m d:Nat)→(y:Nm×Nat)→FitSs l d→stmtsK L N m l=.ok y→GoodSs L l
 | [],N,m,d,y,hf,hk=>trivial
 | x::r,N,m,d,y,hf,hk=>by
   simp only [FitSs] at hf
   simp only [stmtsK] at hk
   obtain ⟨_,h1,hk⟩:=bindK_ok hk
   exact ⟨goodS_of hP x _ _ _ _ hf.1 h1,goodSs_of hP r _ _ _ _ hf.2 hk⟩
end
theorem cntPs_len:(l:List (List UInt8×Int))→l.length≤cntPs l
 | []=>Nat.le_refl _
 | [p]=>by simp [cntPs]
 | p::q::r=>by
   have h1:cntPs (p::q::r)=3+(1+cntPs (q::r)):=rfl
   have:=cntPs_len (q::r)
   simp only [List.length_cons] at *
   omega
theorem cntFs_mem:{L:List Fn}→{x:Fn}→x∈L→cntF x≤cntFs L
 | a::r,x,h=>by
   simp only [cntFs]
   rcases List.mem_cons.1 h with rfl|h
   · omega
   · have:=cntFs_mem h
     omega
theorem good_of {L:List Fn} (hp:Prog L) (hc:checkOk L):GoodL L:=by
 have hP:∀ g fn,fnOf L g=some fn→fn∈L∧fn.params.length≤1000000:=by
  intro g fn hfn
  have hm:=((fnOf_mem hc.1 g fn).1 hfn).1
  refine ⟨hm,?_⟩
  have h1:=cntPs_len fn.params
  have h2:=cntFs_mem hm
  have h3:=hp.cnt
  unfold cntF at h2
  omega
 intro g fn hfn
 obtain ⟨hm,hl⟩:=hP g fn hfn
 have hk:=hc.2.1 fn hm
 have hf:=hp.fit fn hm
 unfold fnK at hk
 obtain ⟨_,h1,hk⟩:=bindK_ok hk
 obtain ⟨_,h2,hk⟩:=bindK_ok hk
 exact ⟨goodSs_of (fun g fn h=>(hP g fn h).2) fn.body _ _ _ _ hf.2.2 h2,fun p hp=>name_short (hf.2.1 p hp).1,hl⟩
theorem main_of {L:List Fn} (hc:checkOk L):∃ fn,fnOf L [109,97,105,110]=some fn∧fn.params=[]:=by
 obtain ⟨x,hx,hp⟩:=List.any_eq_true.1 hc.2.2
 unfold mainB at hp
 simp only [Bool.and_eq_true,beq_iff_eq,List.length_eq_zero_iff] at hp
 exact ⟨x,(fnOf_mem hc.1 _ x).2 ⟨hx,hp.1⟩,hp.2⟩
end Go.Proofs.YtnicpmoanjddbaaGreatDoor.TreeP
namespace Go.Proofs.YtnicpmoanjddbaaGreatDoor.TreeP
open Go.RowKit Go.Proofs.YtnicpmoanjddbaaGreatDoor.Wo
set_option linter.unusedVariables false
set_option linter.unusedSimpArgs false
theorem parse_laid {s:List UInt8} {x:Except (Int×Int) (List Fn)} (W:World) (hL:Laid W) (hlen:s.length≤10000000) (h:ReadTo s x):Calls Tryz.prog 13 #[str s] W (Parsed W x):=by
 rcases h with ⟨f,n,a,h1,rfl⟩|⟨f,fp,ts,y,h1,h2,rfl⟩
 · exact parse_bad s f n a W hL hlen h1
 · exact parse_run s f fp ts y W hL hlen h1 h2
theorem run_good {s:List UInt8} {L:List Fn} (hr:ReadTo s (.ok L)) (hc:checkOk L) (f:Nat) (given:List Int) (fuel:Int) (x:Int×Int×List Int) (hx:runR L f given fuel.toNat=some x) (v iv:Value) (W:World) (hv:FsAt W None v L) (hi:InAt W None iv given) (hi0:∀ n c,iv=.slice none n c→c=0) (hl:given.length≤1000000) (hf:fuel≤4000000000000000000) (hf2:-9223372036854775808≤fuel) :
 Calls Tryz.prog 17 #[v,iv,.int .i64 fuel] W fun e w=>∃ u,e=.returned u∧EndV w x u∧Mods None W w:=by
 have hp:=read_prog hr
 refine run_any (good_of hp hc) hc.1 (main_of hc) (fun x hx=>name_short (hp.fit x hx).1) (by have:=hp.few;omega) f given fuel x hx v iv W hv hi hi0 hl hf hf2
end Go.Proofs.YtnicpmoanjddbaaGreatDoor.TreeP
namespace Go.Proofs.YtnicpmoanjddbaaGreatDoor.ErrP
open Go.RowKit Go.Proofs.YtnicpmoanjddbaaGreatDoor.Wo
open Go.Extern.Stop Go.Stop Go.Extern
set_option linter.unusedVariables false
set_option linter.unusedSimpArgs false
theorem typeOfA (v:Value) (w:World):(ReflectliteType.typeOf #[.iface 134 v]).run Tryz.prog w=.ok (.iface 199 (.agg #[.pointer (some ⟨10,134,none⟩)])) w:=by kernel_rfl
theorem assignableA (w : World) : (ReflectliteType.relation "AssignableTo" ReflectliteType.assignableTo #[.agg #[.pointer (some ⟨10, 134, none⟩)], .iface 199 (.agg #[.pointer (some ⟨10, 44, none⟩)])]).run Tryz.prog w = .ok (.bool false) w := by kernel_rfl
theorem at_as (p:Value) (w:World):(Instr.typeAssert (.iface 134 p) 38 204 true).run Tryz.prog w=.ok (.tuple #[.nilIface,.bool false]) w :=
 run_typeAssert_lacksB Tryz.underlying204 (by kernel_rfl) (by kernel_rfl) _ _ w
theorem at_unwrap (p:Value) (w:World):(Instr.typeAssert (.iface 134 p) 38 207 true).run Tryz.prog w=.ok (.tuple #[.iface 134 p,.bool true]) w :=
 run_typeAssert_hasB Tryz.underlying207 (by kernel_rfl) _ _ w
theorem methodUnwrap (p : Value) (w : World) : (Go.method 398 134 p "Unwrap").run Tryz.prog w = .ok (179, p) w := by kernel_rfl
set_option maxRecDepth 100000 in
set_option maxHeartbeats 4000000 in
theorem as_at (n:Int) (g:Nat) (t:Addr) (old:Value) (w:World) (hg:w.cell? ⟨0,0,none⟩=some (.iface 199 (.agg #[.pointer (some ⟨10,38,none⟩)]))) (ht0:w.cell? t=some old) (hf0:w.frozen? t=false) (hc:w.cell? ⟨g,0,none⟩=some (.int .i64 n)) :
 Calls Tryz.prog 43 #[.iface 134 (.pointer (some ⟨g,0,none⟩)),.iface 107 (.pointer (some t))] w fun ev w'=>ev=.returned (.bool true)∧w'=((((w.alloc (.cells #[.pointer (some t)] 107)).alloc (.cells #[.pointer (some ⟨10,107,none⟩),.pointer (some ⟨w.heap.size,0,none⟩),.int .u64 150] 151)).alloc (.cells #[.pointer (some ⟨10,107,none⟩),.pointer (some ⟨w.heap.size,0,none⟩),.int .u64 150] 151)).alloc (.cells #[.int .i64 n] 44)).setCell t (.int .i64 n):=by
 have h6:=@run_callFunc_extern Tryz.prog 69 _ (fun args=>ReflectliteValue.unpack (args.getD 0 (.tuple #[]))) Tryz.func69 (by kernel_rfl) (by kernel_rfl) (by kernel_rfl) (by kernel_rfl)
 have h7 := @run_callFunc_extern Tryz.prog 70 _ (ReflectliteValue.methodAny (ReflectliteValue.valueError "reflectlite.Value.Type" 0) (fun t _ _ _ => ReflectliteType.toType t)) Tryz.func70 (by kernel_rfl) (by kernel_rfl) (by kernel_rfl) (by kernel_rfl)
 have h8 := @run_callFunc_extern Tryz.prog 71 _ (ReflectliteValue.method (ReflectliteValue.valueError "reflectlite.Value.IsNil" 0) ReflectliteValue.isNil) Tryz.func71 (by kernel_rfl) (by kernel_rfl) (by kernel_rfl) (by kernel_rfl)
 have h27:=@run_callFunc_extern Tryz.prog 174 _ (ReflectliteType.abiMethod fun t=>do pure (.int .u8 (← Rtype.kind t))) Tryz.func174 (by kernel_rfl) (by kernel_rfl) (by kernel_rfl) (by kernel_rfl)
 have h37:=@run_callFunc_extern Tryz.prog 186 _ (ReflectliteType.method ReflectliteType.elem) Tryz.func186 (by kernel_rfl) (by kernel_rfl) (by kernel_rfl) (by kernel_rfl)
 have h38 := @run_callFunc_extern Tryz.prog 187 _ (ReflectliteType.relation "Implements" ReflectliteType.implements_) Tryz.func187 (by kernel_rfl) (by kernel_rfl) (by kernel_rfl) (by kernel_rfl)
 have h10:=@run_callFunc_extern Tryz.prog 102 _ ReflectliteType.typeOf Tryz.func102 (by kernel_rfl) (by kernel_rfl) (by kernel_rfl) (by kernel_rfl)
 have h35 := @run_callFunc_extern Tryz.prog 184 _ (ReflectliteType.relation "AssignableTo" ReflectliteType.assignableTo) Tryz.func184 (by kernel_rfl) (by kernel_rfl) (by kernel_rfl) (by kernel_rfl)
 have h11 := @run_callFunc_extern Tryz.prog 103 _ (ReflectliteValue.method (ReflectliteValue.valueError "reflectlite.Value.Elem" 0) ReflectliteValue.elem) Tryz.func103 (by kernel_rfl) (by kernel_rfl) (by kernel_rfl) (by kernel_rfl)
 have h12:=@run_callFunc_extern Tryz.prog 104 _ ReflectliteValue.set Tryz.func104 (by kernel_rfl) (by kernel_rfl) (by kernel_rfl) (by kernel_rfl)
 have tO:=typeOfE
 have mA:=methodAssignableTo
 have a25:=assignableE
 have v25:=valueOfE
 have f6:=valueOfT
 have f7:=typeT
 have mK:=methodKind
 have mE:=methodElem
 have mI:=methodImplements
 have k27:=kindT
 have k25:=kindE
 have e27:=elemT
 have i25:=implementsE
 have n8:=isNilT ⟨w.heap.size,0,none⟩ t ((w.alloc (.cells #[.pointer (some t)] 107)).alloc (.cells #[.pointer (some ⟨10,107,none⟩),.pointer (some ⟨w.heap.size,0,none⟩),.int .u64 150] 151)) (by simp)
 have hlt:0<w.heap.size:=by
  rcases Nat.lt_or_ge 0 w.heap.size with h|h
  · exact h
  · simp [World.cell?,Array.getElem?_eq_none h] at hg
 have hg2:((w.alloc (.cells #[.pointer (some t)] 107)).alloc (.cells #[.pointer (some ⟨10,107,none⟩),.pointer (some ⟨w.heap.size,0,none⟩),.int .u64 150] 151)).cell? ⟨0,0,none⟩=some (.iface 199 (.agg #[.pointer (some ⟨10,38,none⟩)])):=by
  rw [World.cell?_alloc_lt _ _ ⟨0,0,none⟩ (by first|(simp;done)|(simp;omega)),World.cell?_alloc_lt _ _ ⟨0,0,none⟩ hlt];exact hg
 have htl:t.block<w.heap.size:=by
  rcases Nat.lt_or_ge t.block w.heap.size with h|h
  · exact h
  · simp [World.cell?,Array.getElem?_eq_none h] at ht0
 have el:=elemV ⟨w.heap.size,0,none⟩ t (((w.alloc (.cells #[.pointer (some t)] 107)).alloc (.cells #[.pointer (some ⟨10,107,none⟩),.pointer (some ⟨w.heap.size,0,none⟩),.int .u64 150] 151)).alloc (.cells #[.pointer (some ⟨10,107,none⟩),.pointer (some ⟨w.heap.size,0,none⟩),.int .u64 150] 151)) (by rw [World.cell?_alloc_lt _ _ ⟨w.heap.size,0,none⟩ (by simp;omega),World.cell?_alloc_lt _ _ ⟨w.heap.size,0,none⟩ (by simp),World.cell?_alloc_at _ _ _ _ (by simp)];rfl)
 have st:=setE t ⟨w.heap.size+1+1+1,0,none⟩ n old ((((w.alloc (.cells #[.pointer (some t)] 107)).alloc (.cells #[.pointer (some ⟨10,107,none⟩),.pointer (some ⟨w.heap.size,0,none⟩),.int .u64 150] 151)).alloc (.cells #[.pointer (some ⟨10,107,none⟩),.pointer (some ⟨w.heap.size,0,none⟩),.int .u64 150] 151)).alloc (.cells #[.int .i64 n] 44))
  (by rw [World.cell?_alloc_at _ _ _ _ (by simp)];rfl)
  (by rw [World.cell?_alloc_lt _ _ t (by simp;omega),World.cell?_alloc_lt _ _ t (by simp;omega),World.cell?_alloc_lt _ _ t (by simp;omega),World.cell?_alloc_lt _ _ t htl];exact ht0)
  (by rw [World.frozen?_alloc_old _ _ t (by simp;omega),World.frozen?_alloc_old _ _ t (by simp;omega),World.frozen?_alloc_old _ _ t (by simp;omega),World.frozen?_alloc_old _ _ t (Nat.ne_of_lt htl)];exact hf0)
 have tA:=typeOfA
 have aA:=assignableA
 have asA:=at_as
 have uA:=at_unwrap
 have mU:=methodUnwrap
 have hgl:g<w.heap.size:=by
  rcases Nat.lt_or_ge g w.heap.size with h|h
  · exact h
  · simp [World.cell?,Array.getElem?_eq_none h] at hc
 have hc2:((w.alloc (.cells #[.pointer (some t)] 107)).alloc (.cells #[.pointer (some ⟨10,107,none⟩),.pointer (some ⟨w.heap.size,0,none⟩),.int .u64 150] 151)).cell? ⟨g,0,none⟩=some (.int .i64 n):=by
  rw [World.cell?_alloc_lt _ _ ⟨g,0,none⟩ (by simp;omega),World.cell?_alloc_lt _ _ ⟨g,0,none⟩ hgl];exact hc
 have hc3:(((w.alloc (.cells #[.pointer (some t)] 107)).alloc (.cells #[.pointer (some ⟨10,107,none⟩),.pointer (some ⟨w.heap.size,0,none⟩),.int .u64 150] 151)).alloc (.cells #[.pointer (some ⟨10,107,none⟩),.pointer (some ⟨w.heap.size,0,none⟩),.int .u64 150] 151)).cell? ⟨g,0,none⟩=some (.int .i64 n):=by
  rw [World.cell?_alloc_lt _ _ ⟨g,0,none⟩ (by simp;omega)];exact hc2
 go_enter Tryz.func43,Tryz.ntmps43
 go_wp2
 refine wp_loop_rounds 2 ?_
 rw [rounds_succ]
 go_wp2
 rw [rounds_succ]
 go_wp2
 go_ret
 exact ⟨rfl,rfl⟩
set_option maxRecDepth 100000 in
set_option maxHeartbeats 400000 in
theorem tell_at (n a:Int) (g:Nat) (W:World) (hE:ErrLaid W) (hb:Blk W g [.int .i64 n,.int .i64 a] 136):Calls Tryz.prog 16 #[.iface 134 (.pointer (some ⟨g,0,none⟩))] W fun e W'=>e=.returned (.int .i64 n)∧Mods None W W':=by
 have hlt:0<W.heap.size:=World.block_lt_of_cell? W _ hE
 have HE:Hid (ErrLaid (W.alloc (.cells #[.int .i64 0] 44))):=hiD (by
  unfold ErrLaid
  rw [World.cell?_alloc_lt _ _ ⟨0,0,none⟩ hlt]
  exact hE)
 have HC:Hid ((W.alloc (.cells #[.int .i64 0] 44)).cell? ⟨g,0,none⟩=some (.int .i64 n)):=hiD (by
  rw [World.cell?_alloc_lt _ _ ⟨g,0,none⟩ hb.lt]
  exact hb.cell (i:=0) rfl)
 clear hE hb
 go_enter Tryz.func16,Tryz.ntmps16
 go_wp2_with fail
 refine (as_at n g ⟨W.heap.size,0,none⟩ (.int .i64 0) _ HE.out (by simp) (by simp) HC.out).mono ?_
 rintro e w' ⟨rfl,rfl⟩
 go_wp2
 go_ret
 refine ⟨rfl,?_⟩
 repeat (first|with_reducible exact Mods.refl _ _|with_reducible refine Mods.alloc ?_ _|(refine Mods.setCell ?_ (fun h=>absurd h (by simp)) _))
end Go.Proofs.YtnicpmoanjddbaaGreatDoor.ErrP
namespace Go.Proofs.YtnicpmoanjddbaaGreatDoor.MidP.Sm
open Go.RowKit Go.Proofs.YtnicpmoanjddbaaGreatDoor.TreeP Go.Proofs.YtnicpmoanjddbaaGreatDoor.MidP
set_option linter.unusedVariables false
set_option linter.unusedSimpArgs false
def Soon {α:Type} (g:Nat→Option α) (r:α):Prop:=∃ n0,∀ n,n0≤n→g n=some r
def Reach (L:List Fm) (F:Fm) (i:Nat) (v:Pl) (s:RS) (i':Nat) (v':Pl) (s':RS):Prop:=∀ r,Soon (fun n=>goM L n s' F v' i') r→Soon (fun n=>goM L n s F v i) r
def Ends (L:List Fm) (F:Fm) (i:Nat) (v:Pl) (s:RS) (r:Except Sig Int×RS):Prop:=Soon (fun n=>goM L n s F v i) r
theorem Reach.refl (L:List Fm) (F:Fm) (i:Nat) (v:Pl) (s:RS):Reach L F i v s i v s:=fun r h=>h
theorem Reach.trans {L:List Fm} {F:Fm} {i j k:Nat} {u v w:Pl} {s t z:RS} (h:Reach L F i u s j v t) (h2:Reach L F j v t k w z):Reach L F i u s k w z:=fun r hr=>h r (h2 r hr)
theorem Reach.ends {L:List Fm} {F:Fm} {i j:Nat} {u v:Pl} {s t:RS} {r:Except Sig Int×RS} (h:Reach L F i u s j v t) (h2:Ends L F j v t r):Ends L F i u s r:=h r h2
def less (s:RS):RS:={ s with fuel:=s.fuel-1 }
theorem step_ok {s:RS} (h:s.fuel≠0):stepR s=some (.ok (),less s):=by
 unfold stepR
 rw [if_neg h]
 rfl
section
variable {L:List Fm} {F:Fm} {i:Nat} {v v':Pl} {s s':RS} {x:Stp}
theorem soon_succ {α:Type} {g g':Nat→Option α} {r:α} (h:Soon g r) (hg:∀ n,g' (n+1)=g n):Soon g' r:=by
 obtain ⟨n0,h⟩:=h
 refine ⟨n0+1,fun n hn=>?_⟩
 obtain ⟨m,rfl⟩:∃ m,n=m+1:=⟨n-1,by omega⟩
 rw [hg]
 exact h m (by omega)
theorem soon_at {α:Type} {g:Nat→Option α} {r:α} (h:∀ n,g (n+1)=some r):Soon g r:=by
 refine ⟨1,fun n hn=>?_⟩
 obtain ⟨m,rfl⟩:∃ m,n=m+1:=⟨n-1,by omega⟩
 exact h m
theorem reach_step (hx:F.steps[i]?=some x) (hc:x.code≠4∧x.code≠5∧x.code≠7∧x.code≠8) (hf:s.fuel≠0) (hm:stepM v x (less s)=some (.ok v',s')):Reach L F i v s (i+1) v' s':=by
 intro r h
 refine soon_succ h (fun n=>?_)
 simp only [goM,hx,step_ok hf,bindR,if_neg hc.1,if_neg hc.2.1,if_neg hc.2.2.1,if_neg hc.2.2.2,hm]
theorem ends_step {e:Sig} (hx:F.steps[i]?=some x) (hc:x.code≠4∧x.code≠5∧x.code≠7∧x.code≠8) (hf:s.fuel≠0) (hm:stepM v x (less s)=some (.error e,s')):Ends L F i v s (.error e,s'):=by
 refine soon_at (fun n=>?_)
 simp only [goM,hx,step_ok hf,bindR,if_neg hc.1,if_neg hc.2.1,if_neg hc.2.2.1,if_neg hc.2.2.2,hm]
theorem reach_jump (hx:F.steps[i]?=some x) (hc:x.code=4) (hf:s.fuel≠0):Reach L F i v s (atP F x.label+1) v (less s):=by
 intro r h
 refine soon_succ h (fun n=>?_)
 simp only [goM,hx,step_ok hf,bindR,if_pos hc]
theorem reach_zero (hx:F.steps[i]?=some x) (hc:x.code=5) (hf:s.fuel≠0) (hz:(v.get x.a).n=0):Reach L F i v s (atP F x.label+1) v (less s):=by
 intro r h
 refine soon_succ h (fun n=>?_)
 simp only [goM,hx,step_ok hf,bindR,if_neg (show ¬ x.code=4 by omega),if_pos hc,if_pos hz]
theorem reach_more (hx:F.steps[i]?=some x) (hc:x.code=5) (hf:s.fuel≠0) (hz:(v.get x.a).n≠0):Reach L F i v s (i+1) v (less s):=by
 intro r h
 refine soon_succ h (fun n=>?_)
 simp only [goM,hx,step_ok hf,bindR,if_neg (show ¬ x.code=4 by omega),if_pos hc,if_neg hz]
theorem ends_ret (hx:F.steps[i]?=some x) (hc:x.code=8) (hf:s.fuel≠0):Ends L F i v s (.ok (v.get x.a).n,less s):=by
 refine soon_at (fun n=>?_)
 simp only [goM,hx,step_ok hf,bindR,if_neg (show ¬ x.code=4 by omega),if_neg (show ¬ x.code=5 by omega),if_neg (show ¬ x.code=7 by omega),if_pos hc,okR]
theorem reach_call {m:Int} (hx:F.steps[i]?=some x) (hc:x.code=7) (hf:s.fuel≠0) (hm:Soon (fun n=>callM L n (less s) x.name (x.args.map v.get)) (.ok m,s')):Reach L F i v s (i+1) (v.put x.dst (numV m)) s':=by
 intro r h
 obtain ⟨n1,h1⟩:=hm
 obtain ⟨n2,h2⟩:=h
 refine ⟨max n1 n2+1,fun n hn=>?_⟩
 obtain ⟨k,rfl⟩:∃ k,n=k+1:=⟨n-1,by omega⟩
 simp only [goM,hx,step_ok hf,bindR,if_neg (show ¬ x.code=4 by omega),if_neg (show ¬ x.code=5 by omega),if_pos hc,h1 k (by omega)]
 exact h2 k (by omega)
theorem ends_call {e:Sig} (hx:F.steps[i]?=some x) (hc:x.code=7) (hf:s.fuel≠0) (hm:Soon (fun n=>callM L n (less s) x.name (x.args.map v.get)) (.error e,s')):Ends L F i v s (.error e,s'):=by
 obtain ⟨n1,h1⟩:=hm
 refine ⟨n1+1,fun n hn=>?_⟩
 obtain ⟨k,rfl⟩:∃ k,n=k+1:=⟨n-1,by omega⟩
 simp only [goM,hx,step_ok hf,bindR,if_neg (show ¬ x.code=4 by omega),if_neg (show ¬ x.code=5 by omega),if_pos hc,h1 k (by omega)]
theorem call_ok {g:List UInt8} {vs:List V} {m:Int} (hs:s.calls≠40) (h:Ends L (fmGet L g) 0 (fillP vs (fmGet L g).types.length) { s with calls:=s.calls+1 } (.ok m,s')):Soon (fun n=>callM L n s g vs) (.ok m,{ s' with calls:=s'.calls-1 }):=by
 refine soon_succ (g:=fun n=>bindR (goM L n { s with calls:=s.calls+1 } (fmGet L g) (fillP vs (fmGet L g).types.length) 0) fun n t=>okR n { t with calls:=t.calls-1 }) ?_ (fun n=>by simp only [callM,if_neg hs])
 obtain ⟨n0,h⟩:=h
 exact ⟨n0,fun n hn=>by simp only [h n hn,bindR,okR]⟩
theorem call_stop {g:List UInt8} {vs:List V} {e:Sig} (hs:s.calls≠40) (h:Ends L (fmGet L g) 0 (fillP vs (fmGet L g).types.length) { s with calls:=s.calls+1 } (.error e,s')):Soon (fun n=>callM L n s g vs) (.error e,s'):=by
 refine soon_succ (g:=fun n=>bindR (goM L n { s with calls:=s.calls+1 } (fmGet L g) (fillP vs (fmGet L g).types.length) 0) fun n t=>okR n { t with calls:=t.calls-1 }) ?_ (fun n=>by simp only [callM,if_neg hs])
 obtain ⟨n0,h⟩:=h
 exact ⟨n0,fun n hn=>by simp only [h n hn,bindR]⟩
theorem call_full {g:List UInt8} {vs:List V} (hs:s.calls=40):Soon (fun n=>callM L n s g vs) (.error (.stop 5),s) :=
 soon_at (fun n=>by simp only [callM,if_pos hs,stopR])
end
/-! Where labels stand. -/
def LabU (l:List Stp):Prop:=∀ (i j:Nat) (x y:Stp),l[i]?=some x→l[j]?=some y→x.code=6→y.code=6→x.label=y.label→i=j
theorem labelAt_one:(l:List Stp)→(lab:Int)→(i k p:Nat)→(∀ (j:Nat) (y:Stp),l[j]?=some y→y.code=6→y.label=lab→i+j=p)→(∃ (j:Nat) (y:Stp),l[j]?=some y∧y.code=6∧y.label=lab)→labelAt l lab i k=p
 | [],lab,i,k,p,h,⟨j,y,hy,_⟩=>by simp at hy
 | a::r,lab,i,k,p,h,⟨j,y,hy,hy1,hy2⟩=>by
   simp only [labelAt]
   by_cases hr:∃ (j:Nat) (y:Stp),r[j]?=some y∧y.code=6∧y.label=lab
   · exact labelAt_one r lab (i+1) _ p (fun j y e1 e2 e3=>by have:=h (j+1) y (by simpa using e1) e2 e3;omega) hr
   · have h0:∀ (l:List Stp) (i k:Nat),(¬ ∃ (j:Nat) (y:Stp),l[j]?=some y∧y.code=6∧y.label=lab)→labelAt l lab i k=k:=by
        intro l
        induction l with
        | nil=>intro i k _;rfl
        | cons b t ih =>
          intro i k hn
          simp only [labelAt]
          rw [if_neg (fun e=>hn ⟨0,b,rfl,e⟩)]
          exact ih _ _ (fun ⟨j,y,e1,e2⟩=>hn ⟨j+1,y,by simpa using e1,e2⟩)
     rw [h0 r _ _ hr]
     cases j with
     | zero =>
       obtain rfl:a=y:=by simpa using hy
       rw [if_pos ⟨hy1,hy2⟩]
       exact h 0 a rfl hy1 hy2
     | succ j=>exact (hr ⟨j,y,by simpa using hy,hy1,hy2⟩).elim
theorem at_label {F:Fm} (hU:LabU F.steps) {p:Nat} {x:Stp} (hx:F.steps[p]?=some x) (hc:x.code=6):atP F x.label=p :=
 labelAt_one F.steps x.label 0 0 p (fun j y e1 e2 e3=>by have:=hU p j x y hx e1 hc e2 e3.symm;omega) ⟨p,x,hx,hc,rfl⟩
/-! The steps of lower stand in the function's steps. -/
end Go.Proofs.YtnicpmoanjddbaaGreatDoor.MidP.Sm
namespace Go.Proofs.YtnicpmoanjddbaaGreatDoor.MidP.Sm
open Go.RowKit Go.Proofs.YtnicpmoanjddbaaGreatDoor.TreeP Go.Proofs.YtnicpmoanjddbaaGreatDoor.MidP
set_option linter.unusedVariables false
set_option linter.unusedSimpArgs false
def labs (l:List Stp):List Int:=l.filterMap (fun s=>if s.code=6 then some s.label else none)
theorem labs_append (a b:List Stp):labs (a++b)=labs a++labs b:=by simp [labs]
theorem labs_one (s:Stp):labs [s]=if s.code=6 then [s.label] else []:=by
 by_cases h:s.code=6 <;> simp [labs,h]
theorem labs_mem {l:List Stp} {i:Nat} {x:Stp} (hx:l[i]?=some x) (hc:x.code=6):x.label∈labs l:=by
 simp only [labs,List.mem_filterMap]
 exact ⟨x,List.mem_of_getElem? hx,by rw [if_pos hc]⟩
theorem labU_of:(l:List Stp)→(labs l).Nodup→LabU l
 | [],_=>fun i j x y hx=>by simp at hx
 | a::r,h=>by
   have hr:(labs r).Nodup:=by
    have h2:labs (a::r)=labs [a]++labs r:=labs_append [a] r
    rw [h2] at h
    exact (List.nodup_append.1 h).2.1
   have ih:=labU_of r hr
   have key:a.code=6→∀ (j:Nat) (y:Stp),r[j]?=some y→y.code=6→a.label≠y.label:=by
    intro hc j y hy hyc e
    have h2:labs (a::r)=labs [a]++labs r:=labs_append [a] r
    rw [h2,labs_one,if_pos hc] at h
    exact (List.nodup_append.1 h).2.2 a.label (by simp) y.label (labs_mem hy hyc) e
   intro i j x y hx hy hxc hyc he
   cases i with
   | zero =>
     obtain rfl:a=x:=by simpa using hx
     cases j with
     | zero=>rfl
     | succ j=>exact (key hxc j y (by simpa using hy) hyc he).elim
   | succ i =>
     cases j with
     | zero =>
       obtain rfl:a=y:=by simpa using hy
       exact (key hyc i x (by simpa using hx) hxc he.symm).elim
     | succ j=>rw [ih i j x y (by simpa using hx) (by simpa using hy) hxc hyc he]
def NewL (w w':Lw):Prop:=∃ d,w'.steps=w.steps++d∧w.labels≤w'.labels∧(∀ l∈labs d,(w.labels:Int)<l∧l≤(w'.labels:Int))∧(labs d).Nodup
theorem NewL.refl (w:Lw):NewL w w:=⟨[],by simp,Nat.le_refl _,(fun l h=>by simp [labs] at h),by simp [labs]⟩
theorem NewL.trans {a b c:Lw} (h:NewL a b) (k:NewL b c):NewL a c:=by
 obtain ⟨d,h1,h2,h3,h4⟩:=h
 obtain ⟨e,k1,k2,k3,k4⟩:=k
 refine ⟨d++e,by rw [k1,h1,List.append_assoc],by omega,fun l hl=>?_,?_⟩
 · rw [labs_append,List.mem_append] at hl
   rcases hl with hl|hl
   · have:=h3 l hl;omega
   · have:=k3 l hl;omega
 · rw [labs_append]
   refine List.nodup_append.2 ⟨h4,k4,fun x hx y hy e=>?_⟩
   have:=h3 x hx
   have:=k3 y hy
   omega
theorem NewL.of_steps {w w':Lw} {s:Stp} (hs:w'.steps=w.steps++[s]) (hl:w'.labels=w.labels) (hc:s.code≠6):NewL w w' :=
 ⟨[s],hs,by omega,(fun l h=>by rw [labs_one,if_neg hc] at h;cases h),(by rw [labs_one,if_neg hc];exact List.nodup_nil)⟩
theorem new_add (s:Stp) (w:Lw) (hc:s.code≠6):NewL w (addL s w):=.of_steps rfl rfl hc
theorem new_to (k:Int) (s:Stp) (w:Lw) (hc:s.code≠6):NewL w (toL k s w).2:=.of_steps rfl rfl hc
theorem new_zero (a:Int) (w:Lw):NewL w (zeroL a w).2:=new_to _ _ _ (by simp)
theorem new_name (x:List UInt8) (k:Int) (w:Lw):NewL w (nameL x k w).2:=⟨[],by simp [nameL],Nat.le_refl _,(fun l h=>by simp [labs] at h),by simp [labs]⟩
theorem new_short (op:List UInt8) (a:Int) (w:Lw):NewL w (shortA op a w).2.2:=by
 unfold shortA
 split
 · exact (new_to _ _ _ (by simp)).trans (new_zero _ _)
 · exact new_to _ _ _ (by simp)
theorem new_label {w w2:Lw} (h:NewL (labelL w).2 w2) (s:Stp) (hc:s.code=6) (hl:s.label=((labelL w).1:Int)):NewL w (addL s w2):=by
 obtain ⟨d,h1,h2,h3,h4⟩:=h
 simp only [labelL] at h1 h2 h3 hl
 refine ⟨d++[s],by simp [addL,h1],by simp only [addL];omega,fun l hm=>?_,?_⟩
 · rw [labs_append,List.mem_append,labs_one,if_pos hc] at hm
   simp only [addL]
   rcases hm with hm|hm
   · have:=h3 l hm;omega
   · simp only [List.mem_singleton] at hm
     omega
 · rw [labs_append,labs_one,if_pos hc]
   refine List.nodup_append.2 ⟨h4,by simp,fun x hx y hy e=>?_⟩
   have:=h3 x hx
   simp only [List.mem_singleton] at hy
   omega
theorem new_two {w w2 w3:Lw} (h:NewL (labelL (labelL w).2).2 w2) (s:Stp) (hc:s.code=6) (hl:s.label=((labelL w).1:Int)) (k:NewL (addL s w2) w3) (t:Stp) (hc2:t.code=6) (hl2:t.label=((labelL (labelL w).2).1:Int)):NewL w (addL t w3):=by
 obtain ⟨d,h1,h2,h3,h4⟩:=h
 obtain ⟨e,k1,k2,k3,k4⟩:=k
 simp only [labelL,addL] at h1 h2 h3 hl hl2 k1 k2 k3
 refine ⟨d++([s]++(e++[t])),by simp [addL,h1,k1],by simp only [addL];omega,fun l hm=>?_,?_⟩
 · simp only [labs_append,labs_one,if_pos hc,if_pos hc2,List.mem_append,List.mem_singleton] at hm
   simp only [addL]
   rcases hm with hm|hm|hm|hm
   · have:=h3 l hm;omega
   · omega
   · have:=k3 l hm;omega
   · omega
 · simp only [labs_append,labs_one,if_pos hc,if_pos hc2]
   refine List.nodup_append.2 ⟨h4,List.nodup_append.2 ⟨by simp,List.nodup_append.2 ⟨k4,by simp,fun x hx y hy e=>?_⟩,fun x hx y hy e=>?_⟩,fun x hx y hy e=>?_⟩
   · have:=k3 x hx
     simp only [List.mem_singleton] at hy
     omega
   · simp only [List.mem_singleton] at hx
     simp only [List.mem_append,List.mem_singleton] at hy
     rcases hy with hy|hy
     · have:=k3 y hy;omega
     · omega
   · have:=h3 x hx
     simp only [List.mem_append,List.mem_singleton] at hy
     rcases hy with hy|hy|hy
     · omega
     · have:=k3 y hy;omega
     · omega
mutual
theorem expr_new:(e:Ex)→(w:Lw)→NewL w (exprL e w).2
 | .num _ _,w=>by simp only [exprL];exact new_to _ _ _ (by simp)
 | .var _ _,w=>by simp only [exprL];exact .refl _
 | .un _ op x,w=>by
   have h:=expr_new x w
   simp only [exprL]
   split
   · exact h.trans (new_zero _ _)
   · exact h.trans (new_to _ _ _ (by simp))
 | .bin _ op l r,w=>by
   simp only [exprL]
   split
   · refine new_label (w:=w) ?_ _ rfl rfl
     exact ((((expr_new l _).trans (new_short _ _ _)).trans (new_add _ _ (by simp))).trans (expr_new r _)).trans (new_add _ _ (by simp))
   · exact ((expr_new l w).trans (expr_new r _)).trans (new_to _ _ _ (by simp))
 | .call _ g l,w=>by
   simp only [exprL]
   exact (args_new l w).trans (new_to _ _ _ (by simp))
 | .new _ x,w=>by simp only [exprL];exact (expr_new x w).trans (new_to _ _ _ (by simp))
 | .len _ x,w=>by simp only [exprL];exact (expr_new x w).trans (new_to _ _ _ (by simp))
 | .item _ x i,w=>by simp only [exprL];exact ((expr_new x w).trans (expr_new i _)).trans (new_to _ _ _ (by simp))
 | .input _,w=>by simp only [exprL];exact new_to _ _ _ (by simp)
theorem args_new:(l:List Ex)→(w:Lw)→NewL w (argsL l w).2
 | [],w=>.refl _
 | e::r,w=>by simp only [argsL];exact (expr_new e w).trans (args_new r _)
end
mutual
theorem stmt_new:(s:St)→(w:Lw)→NewL w (stmtL s w)
 | .var _ x v,w=>by simp only [stmtL];exact ((expr_new v w).trans (new_name _ _ _)).trans (new_add _ _ (by simp))
 | .set _ x v,w=>by simp only [stmtL];exact (expr_new v w).trans (new_add _ _ (by simp))
 | .put _ x i v,w=>by simp only [stmtL];exact ((expr_new i w).trans (expr_new v _)).trans (new_add _ _ (by simp))
 | .cond _ v t e,w=>by
   simp only [stmtL]
   refine new_two (w:=w) (w2:=_) ?_ _ rfl rfl (block_new e _) _ rfl rfl
   exact (((expr_new v _).trans (new_add _ _ (by simp))).trans (block_new t _)).trans (new_add _ _ (by simp))
 | .loop _ v t,w=>by
   simp only [stmtL]
   refine new_two (w:=w) (w2:=(labelL (labelL w).2).2) (.refl _) { stp0 with code:=6,label:=((labelL w).1:Int) } rfl rfl ?_ _ rfl rfl
   exact (((expr_new v _).trans (new_add _ _ (by simp))).trans (block_new t _)).trans (new_add _ _ (by simp))
 | .ret _ v,w=>by simp only [stmtL];exact (expr_new v w).trans (new_add _ _ (by simp))
 | .print _ v,w=>by simp only [stmtL];exact (expr_new v w).trans (new_add _ _ (by simp))
 | .call _ v,w=>by simp only [stmtL];exact expr_new v w
theorem block_new:(l:List St)→(w:Lw)→NewL w (blockL l w)
 | [],w=>.refl _
 | s::r,w=>by simp only [blockL];exact (stmt_new s w).trans (block_new r _)
end
theorem NewL.pre {w w':Lw} (h:NewL w w'):w.steps <+: w'.steps:=by
 obtain ⟨d,h1,-⟩:=h
 exact ⟨d,h1.symm⟩
end Go.Proofs.YtnicpmoanjddbaaGreatDoor.MidP.Sm

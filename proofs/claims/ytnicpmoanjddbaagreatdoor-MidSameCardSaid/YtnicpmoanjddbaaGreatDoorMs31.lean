/- What the plain reader made fits: its depth, its names, numbers and marks; it is spelled with no more tokens than were read. No program in sight. No conditions. What the plain reader makes fits. No program in sight. No conditions. What the plain reader makes of statements and functions fits. No program in sight. No conditions. What is spelled is read again, but for places: expressions. No program in sight. No conditions. What is spelled is read again, but for places: every expression. No program in sight. No conditions. What is spelled is read again, but for places: statements, functions, programs. No program in sight. No conditions. What is written is lexed as it is spelled. No program in sight. No conditions. What is written is lexed as it is spelled: statements, functions, programs; how long it is. No program in sight. No conditions. The plain lexer and reader come to an end, with rounds enough; what the lexer gives. No program in sight. No conditions. -/
import Derived.Test.YtnicpmoanjddbaaGreatDoorMs01
namespace Go.Proofs.YtnicpmoanjddbaaGreatDoor.TreeP
set_option linter.unusedVariables false
set_option linter.unusedSimpArgs false
def NameOk (s:List UInt8):Prop:=(∃ c r,s=c::r∧letterB c=true)∧s.all (fun x=>letterB x || digitB x)=true∧keptB s=false∧s.length≤12
def TokOk (t:Tok):Prop :=
 (t.kind=1→(∃ c r,t.text=c::r∧letterB c=true)∧t.text.all (fun x=>letterB x || digitB x)=true)∧(t.kind=1∨t.kind=2∨t.kind=3∨t.kind=4)∧(t.kind=4→t.text=[])
def Last4 (ts:List Tok):Prop:=∃ a,ts.getLast?=some ⟨4,[],a⟩
def ToksOk (ts:List Tok):Prop:=(∀ t∈ts,TokOk t)∧Last4 ts
theorem ToksOk.tail {ts:List Tok} (h:ToksOk ts) (hk:headKind ts≠4):ToksOk ts.tail:=by
 refine ⟨fun t ht=>h.1 t (List.mem_of_mem_tail ht),?_⟩
 obtain ⟨a,ha⟩:=h.2
 cases ts with
 | nil=>simp at ha
 | cons t r =>
   cases r with
   | nil =>
     simp only [List.getLast?_singleton,Option.some.injEq] at ha
     subst ha
     exact absurd rfl hk
   | cons t2 r2=>exact ⟨a,by simpa [List.getLast?_cons_cons] using ha⟩
theorem see_kind {s:List UInt8} {ts:List Tok} (h:seeB s ts=true):headKind ts≠4:=by
 simp only [seeB,Bool.and_eq_true,bne_iff_ne] at h
 exact h.2
mutual
def Fit:Ex→Nat→Prop
 | .num _ n,d=>d≤12∧0≤n∧n<9223372036854775808
 | .var _ s,d=>d≤12∧NameOk s
 | .bin _ op l r,d=>(∃ k,k<6∧op∈levelList.getD k [])∧(if levelB l<lvlFrom levelList 0 op then d≤12∧Fit l (d+1) else Fit l d)∧(if levelB r<lvlFrom levelList 0 op+1 then d≤12∧Fit r (d+1) else Fit r d)
 | .un _ op x,d=>d≤12∧(op=[45]∨op=[33])∧(if levelB x<6 then d+1≤12∧Fit x (d+2) else Fit x (d+1))
 | .call _ f args,d=>d≤12∧NameOk f∧Fits args (d+1)
 | .new _ x,d=>d≤12∧Fit x (d+1)
 | .len _ x,d=>d≤12∧Fit x (d+1)
 | .item _ x i,d=>d≤12∧(if isUn x then Fit x (d+1) else if levelB x<6 then d≤12∧Fit x (d+1) else Fit x d)∧Fit i (d+1)
 | .input _,d=>d≤12
def Fits:List Ex→Nat→Prop
 | [],_=>True
 | e::r,d=>Fit e d∧Fits r d
end
def FitP (lv:Nat) (e:Ex) (d:Nat):Prop:=if levelB e<lv then d≤12∧Fit e (d+1) else Fit e d
mutual
theorem Fit.less:(e:Ex)→(d:Nat)→Fit e (d+1)→Fit e d
 | .num _ n,d,h=>by simp only [Fit] at h ⊢;omega
 | .var _ s,d,h=>by simp only [Fit] at h ⊢;exact ⟨by omega,h.2⟩
 | .bin _ op l r,d,h=>by
   simp only [Fit] at h ⊢
   refine ⟨h.1,?_,?_⟩
   · have h2:=h.2.1
     split
     · rename_i hc;rw [if_pos hc] at h2;exact ⟨by omega,Fit.less l _ h2.2⟩
     · rename_i hc;rw [if_neg hc] at h2;exact Fit.less l _ h2
   · have h2:=h.2.2
     split
     · rename_i hc;rw [if_pos hc] at h2;exact ⟨by omega,Fit.less r _ h2.2⟩
     · rename_i hc;rw [if_neg hc] at h2;exact Fit.less r _ h2
 | .un _ op x,d,h=>by
   simp only [Fit] at h ⊢
   refine ⟨by omega,h.2.1,?_⟩
   have h2:=h.2.2
   split
   · rename_i hc;rw [if_pos hc] at h2;exact ⟨by omega,Fit.less x _ h2.2⟩
   · rename_i hc;rw [if_neg hc] at h2;exact Fit.less x _ h2
 | .call _ f args,d,h=>by simp only [Fit] at h ⊢;exact ⟨by omega,h.2.1,Fits.less args _ h.2.2⟩
 | .new _ x,d,h=>by simp only [Fit] at h ⊢;exact ⟨by omega,Fit.less x _ h.2⟩
 | .len _ x,d,h=>by simp only [Fit] at h ⊢;exact ⟨by omega,Fit.less x _ h.2⟩
 | .item _ x i,d,h=>by
   simp only [Fit] at h ⊢
   refine ⟨by omega,?_,Fit.less i _ h.2.2⟩
   have h2:=h.2.1
   split
   · rename_i hc;rw [if_pos hc] at h2;exact Fit.less x _ h2
   · rename_i hc
     rw [if_neg hc] at h2
     split
     · rename_i hc2;rw [if_pos hc2] at h2;exact ⟨by omega,Fit.less x _ h2.2⟩
     · rename_i hc2;rw [if_neg hc2] at h2;exact Fit.less x _ h2
 | .input _,d,h=>by simp only [Fit] at h ⊢;omega
theorem Fits.less:(l:List Ex)→(d:Nat)→Fits l (d+1)→Fits l d
 | [],d,h=>trivial
 | e::r,d,h=>by simp only [Fits] at h ⊢;exact ⟨Fit.less e d h.1,Fits.less r d h.2⟩
end
theorem fitP_of {lv d:Nat} {e:Ex} (hd:d≤12) (h:Fit e (d+1)):FitP lv e d:=by
 unfold FitP
 split
 · exact ⟨hd,h⟩
 · exact Fit.less e d h
theorem FitP.down {lv d:Nat} {e:Ex} (h:FitP (lv+1) e d):FitP lv e d:=by
 unfold FitP at h ⊢
 split
 · rw [if_pos (by omega)] at h;exact h
 · split at h
   · exact Fit.less e d h.2
   · exact h
def parN (lv:Nat) (e:Ex):Nat:=if levelB e<lv then 2 else 0
mutual
def cnt:Ex→Nat
 | .num ..=>1
 | .var ..=>1
 | .bin _ op l r=>cnt l+parN (lvlFrom levelList 0 op) l+1+cnt r+parN (lvlFrom levelList 0 op+1) r
 | .un _ _ x=>1+cnt x+parN 6 x
 | .call _ _ args=>1+2+cnts args
 | .new _ x=>3+cnt x
 | .len _ x=>3+cnt x
 | .item _ x i=>(cnt x+if isUn x then 2 else parN 6 x)+2+cnt i
 | .input ..=>3
def cnts:List Ex→Nat
 | []=>0
 | e::r=>cnt e+(match r with|[]=>0|_::_=>1+cnts r)
end
theorem cnts_append:(l:List Ex)→(e:Ex)→cnts (l++[e])=cnts l+(if l=[] then 0 else 1)+cnt e
 | [],e=>by simp [cnts]
 | [a],e=>by simp [cnts];omega
 | a::b::r,e=>by
   have:=cnts_append (b::r) e
   simp only [List.cons_append,cnts] at this ⊢
   simp only [List.cons_append,reduceCtorEq,if_false] at this ⊢
   omega
theorem Fits.append:(l:List Ex)→(e:Ex)→(d:Nat)→Fits l d→Fit e d→Fits (l++[e]) d
 | [],e,d,h,he=>⟨he,trivial⟩
 | a::r,e,d,h,he=>by simp only [List.cons_append,Fits] at h ⊢;exact ⟨h.1,Fits.append r e d h.2 he⟩
theorem level_of {k:Nat} {op:List UInt8} (hk:k<6) (h:op∈levelList.getD k []):lvlFrom levelList 0 op=k:=by
 obtain rfl|rfl|rfl|rfl|rfl|rfl:k=0∨k=1∨k=2∨k=3∨k=4∨k=5:=by omega
 all_goals
  simp only [levelList,List.getD_cons_zero,List.getD_cons_succ,List.mem_cons,List.not_mem_nil,or_false] at h
  rcases h with rfl|rfl|rfl|rfl <;> decide
theorem opP_mem {level:Nat} {r:List Tok} (h:opP level r≠[]):opP level r∈levelList.getD level []:=by
 unfold opP at h ⊢
 cases hf:(levelList.getD level []).find? (fun m=>seeB m r) with
 | none=>rw [hf] at h;exact absurd rfl h
 | some m=>exact List.mem_of_find?_eq_some hf
def FirstOk (e:Ex) (d c:Nat):Prop:=(levelB e=6∧isUn e=false∧Fit e d∧c=cnt e)∨(Fit e (d+1)∧c=cnt e+2)
theorem name_made {ts r:List Tok} {s:List UInt8} (hk:ToksOk ts) (h:nameP ts=some (.ok (s,r))):NameOk s∧1+r.length≤ts.length∧ToksOk r:=by
 obtain ⟨hr,hs⟩:=nameP_ok h
 have hl:=name_less h
 unfold nameP at h
 split at h
 · exact (failP_ok h).elim
 · rename_i h1
   split at h
   · exact (failP_ok h).elim
   · rename_i h2
     simp only [Bool.or_eq_true,bne_iff_ne,ne_eq,not_or,Decidable.not_not,Bool.not_eq_true] at h1
     cases ts with
     | nil=>simp [headKind] at h1
     | cons t rr =>
       have ht:=(hk.1 t List.mem_cons_self).1 h1.1
       rw [hr,hs]
       exact ⟨⟨ht.1,ht.2,h1.2,by simpa [headText] using h2⟩,by simp;omega,hk.tail (by rw [h1.1];decide)⟩
theorem must_made {ts r:List Tok} {s:List UInt8} {u:Unit} (hk:ToksOk ts) (h:must s ts=some (.ok (u,r))):1+r.length≤ts.length∧ToksOk r:=by
 have:=must_less h
 have hs:=(must_ok h).2
 rw [(must_ok h).1] at this ⊢
 exact ⟨by omega,hk.tail (see_kind hs)⟩
structure MadeF (f:Nat):Prop where
 expr:∀ {lv d ts e r},lv≤6→ToksOk ts→exprF f lv d ts=some (.ok (e,r))→FitP lv e d∧cnt e+parN lv e+r.length≤ts.length∧ToksOk r
 bin:∀ {lv d a x ts e r},lv<6→ToksOk ts→FitP lv x d→binF f lv d a x ts=some (.ok (e,r))→FitP lv e d∧cnt e+parN lv e+r.length≤cnt x+parN lv x+ts.length∧ToksOk r
 unary:∀ {d ts e r},ToksOk ts→unaryF f d ts=some (.ok (e,r))→FitP 6 e d∧cnt e+parN 6 e+r.length≤ts.length∧ToksOk r
 item:∀ {d a x c ts e r},d≤12→ToksOk ts→FirstOk x d c→itemF f d a x ts=some (.ok (e,r))→∃ c',FirstOk e d c'∧c'+r.length≤c+ts.length∧ToksOk r
 alone:∀ {d ts e r},d≤12→ToksOk ts→aloneF f d ts=some (.ok (e,r))→Fit e (d+1)∧cnt e+2+r.length≤ts.length∧ToksOk r
 first:∀ {d ts e r},d≤12→ToksOk ts→firstF f d ts=some (.ok (e,r))→∃ c,FirstOk e d c∧c+r.length≤ts.length∧ToksOk r
 args:∀ {d ts l r},d≤12→ToksOk ts→argsF f d ts=some (.ok (l,r))→Fits l (d+1)∧2+cnts l+r.length≤ts.length∧ToksOk r
 rest:∀ {d b l ts l' r},d≤12→ToksOk ts→Fits l (d+1)→(b=true↔l=[])→restF f d b l ts=some (.ok (l',r))→Fits l' (d+1)∧1+cnts l'+r.length≤cnts l+ts.length∧ToksOk r
theorem parN_le (lv:Nat) (e:Ex):parN lv e≤2:=by unfold parN;split <;> omega
theorem first_par {e:Ex} {d c:Nat} (hd:d≤12) (h:FirstOk e d c):FitP 6 e d∧cnt e+parN 6 e≤c:=by
 rcases h with ⟨h1,h2,h3,rfl⟩|⟨h1,rfl⟩
 · unfold FitP parN
   rw [if_neg (by omega),if_neg (by omega)]
   exact ⟨h3,Nat.le_refl _⟩
 · exact ⟨fitP_of hd h1,by have:=parN_le 6 e;omega⟩
theorem parN_mono {lv:Nat} (e:Ex):parN lv e≤parN (lv+1) e:=by unfold parN;split <;> split <;> omega
theorem see_made {ts:List Tok} {s:List UInt8} (hk:ToksOk ts) (h:seeB s ts=true):1+ts.tail.length≤ts.length∧ToksOk ts.tail:=⟨by have:=see_less h;omega,hk.tail (see_kind h)⟩
theorem made:(f:Nat)→MadeF f
 | 0=>⟨fun _ _ h=>by simp [exprF] at h,fun _ _ _ h=>by simp [binF] at h,fun _ h=>by simp [unaryF] at h,fun _ _ _ h=>by simp [itemF] at h,fun _ _ h=>by simp [aloneF] at h,fun _ _ h=>by simp [firstF] at h,fun _ _ h=>by simp [argsF] at h,fun _ _ _ _ h=>by simp [restF] at h⟩
 | f+1=>by
   have ih:=made f
   refine ⟨?_,?_,?_,?_,?_,?_,?_,?_⟩
   · intro lv d ts e r hlv hk h
     simp only [exprF] at h
     split at h
     · rename_i h6
       subst h6
       exact ih.unary hk h
     · rename_i h6
       obtain ⟨x,t,h1,h2⟩:=andThen_ok h
       obtain ⟨a1,a2,a3⟩:=ih.expr (by omega) hk h1
       obtain ⟨b1,b2,b3⟩:=ih.bin (by omega) a3 a1.down h2
       have:=parN_mono (lv:=lv) x
       exact ⟨b1,by omega,b3⟩
   · intro lv d a x ts e r hlv hk hx h
     simp only [binF] at h
     split at h
     · obtain ⟨rfl,rfl⟩:=okP_ok h
       exact ⟨hx,Nat.le_refl _,hk⟩
     · rename_i hop
       obtain ⟨y,t,h1,h2⟩:=andThen_ok h
       have hs:=(show seeB (opP lv ts) ts=true from by
        unfold opP at hop ⊢
        cases hf:(levelList.getD lv []).find? (fun m=>seeB m ts) with
        | none=>rw [hf] at hop;exact absurd rfl hop
        | some m=>exact List.find?_some (p:=fun m=>seeB m ts) hf)
       obtain ⟨s1,s2⟩:=see_made hk hs
       obtain ⟨a1,a2,a3⟩:=ih.expr (by omega) s2 h1
       have hmem:=opP_mem hop
       have hlev:=level_of hlv hmem
       have hfit:Fit (.bin a (opP lv ts) x y) d:=by
        simp only [Fit]
        rw [hlev]
        exact ⟨⟨lv,hlv,hmem⟩,hx,a1⟩
       have hfp:FitP lv (.bin a (opP lv ts) x y) d:=by
        unfold FitP
        rw [if_neg (by simp only [levelB];omega)]
        exact hfit
       obtain ⟨b1,b2,b3⟩:=ih.bin hlv a3 hfp h2
       have hc:cnt (.bin a (opP lv ts) x y)=cnt x+parN lv x+1+cnt y+parN (lv+1) y:=by simp only [cnt];rw [hlev]
       have hp:parN lv (.bin a (opP lv ts) x y)=0:=by
        unfold parN
        rw [if_neg (by simp only [levelB];omega)]
       exact ⟨b1,by omega,b3⟩
   · intro d ts e r hk h
     simp only [unaryF] at h
     split at h
     · exact (failP_ok h).elim
     · rename_i hd
       have un:∀ (op:List UInt8),(op=[45]∨op=[33])→seeB op ts=true→∀ {x t},unaryF f (d+1) ts.tail=some (.ok (x,t))→okP (Ex.un (headAt ts) op x) t=some (.ok (e,r))→FitP 6 e d∧cnt e+parN 6 e+r.length≤ts.length∧ToksOk r:=by
        intro op hop hs x t h1 h2
        obtain ⟨rfl,rfl⟩:=okP_ok h2
        obtain ⟨s1,s2⟩:=see_made hk hs
        obtain ⟨a1,a2,a3⟩:=ih.unary s2 h1
        refine ⟨?_,?_,a3⟩
        · unfold FitP
          rw [if_neg (by simp [levelB])]
          simp only [Fit]
          refine ⟨by omega,hop,?_⟩
          unfold FitP at a1
          exact a1
        · simp only [cnt]
          unfold parN at a2 ⊢
          rw [if_neg (by simp [levelB]:¬ levelB (Ex.un (headAt ts) op x)<6)]
          omega
       split at h
       · rename_i hs
         obtain ⟨x,t,h1,h2⟩:=andThen_ok h
         exact un [45] (Or.inl rfl) hs h1 h2
       · split at h
         · rename_i hs
           obtain ⟨x,t,h1,h2⟩:=andThen_ok h
           exact un [33] (Or.inr rfl) hs h1 h2
         · obtain ⟨x,t,h1,h2⟩:=andThen_ok h
           obtain ⟨c,a1,a2,a3⟩:=ih.first (by omega) hk h1
           obtain ⟨c',b1,b2,b3⟩:=ih.item (by omega) a3 a1 h2
           obtain ⟨p1,p2⟩:=first_par (by omega) b1
           exact ⟨p1,by omega,b3⟩
   · intro d a x c ts e r hd hk hx h
     simp only [itemF] at h
     split at h
     · rename_i hs
       obtain ⟨s1,s2⟩:=see_made hk hs
       obtain ⟨i,t,h1,h2⟩:=andThen_ok h
       obtain ⟨u,t2,h3,h4⟩:=andThen_ok h2
       obtain ⟨a1,a2,a3⟩:=ih.expr (by omega) s2 h1
       obtain ⟨m1,m2⟩:=must_made a3 h3
       have hi:Fit i (d+1):=by
        unfold FitP at a1
        rwa [if_neg (by omega)] at a1
       have hpi:parN 0 i=0:=by unfold parN;rw [if_neg (by omega)]
       obtain ⟨p1,p2⟩:=first_par hd hx
       have hfit:FirstOk (.item a x i) d (cnt (.item a x i)):=by
        refine Or.inl ⟨rfl,rfl,?_,rfl⟩
        simp only [Fit]
        refine ⟨hd,?_,hi⟩
        split
        · rename_i hu
          rcases hx with ⟨_,h9,_⟩|⟨h9,_⟩
          · rw [h9] at hu;cases hu
          · exact h9
        · exact p1
       obtain ⟨c',b1,b2,b3⟩:=ih.item hd m2 hfit h4
       refine ⟨c',b1,?_,b3⟩
       have hc:cnt (.item a x i)≤c+2+cnt i:=by
        simp only [cnt]
        split
        · rename_i hu
          rcases hx with ⟨_,h9,_⟩|⟨h9,rfl⟩
          · rw [h9] at hu;cases hu
          · omega
        · omega
       omega
     · obtain ⟨rfl,rfl⟩:=okP_ok h
       exact ⟨c,hx,Nat.le_refl _,hk⟩
   · intro d ts e r hd hk h
     simp only [aloneF] at h
     obtain ⟨u,t,h1,h2⟩:=andThen_ok h
     obtain ⟨y,t2,h3,h4⟩:=andThen_ok h2
     obtain ⟨u2,t3,h5,h6⟩:=andThen_ok h4
     obtain ⟨rfl,rfl⟩:=okP_ok h6
     obtain ⟨m1,m2⟩:=must_made hk h1
     obtain ⟨a1,a2,a3⟩:=ih.expr (by omega) m2 h3
     obtain ⟨n1,n2⟩:=must_made a3 h5
     unfold FitP at a1
     rw [if_neg (by omega)] at a1
     exact ⟨a1,by omega,n2⟩
   · intro d ts e r hd hk h
     simp only [firstF] at h
     split at h
     · rename_i h2k
       split at h
       · rename_i hn
         obtain ⟨rfl,rfl⟩:=okP_ok h
         have hl:1+ts.tail.length≤ts.length:=by
           cases ts with
           | nil=>simp [headKind] at h2k
           | cons t r=>simp;omega
         exact ⟨1,Or.inl ⟨rfl,rfl,by simp only [Fit];omega,rfl⟩,hl,hk.tail (by rw [h2k];decide)⟩
       · exact (failP_ok h).elim
     · split at h
       · obtain ⟨a1,a2,a3⟩:=ih.alone hd hk h
         exact ⟨cnt e+2,Or.inr ⟨a1,rfl⟩,by omega,a3⟩
       · split at h
         · rename_i hs
           obtain ⟨s1,s2⟩:=see_made hk hs
           obtain ⟨x,t,h1,h2⟩:=andThen_ok h
           obtain ⟨rfl,rfl⟩:=okP_ok h2
           obtain ⟨a1,a2,a3⟩:=ih.alone hd s2 h1
           exact ⟨_,Or.inl ⟨rfl,rfl,by simp only [Fit];exact ⟨hd,a1⟩,rfl⟩,by simp only [cnt];omega,a3⟩
         · split at h
           · rename_i hs
             obtain ⟨s1,s2⟩:=see_made hk hs
             obtain ⟨x,t,h1,h2⟩:=andThen_ok h
             obtain ⟨rfl,rfl⟩:=okP_ok h2
             obtain ⟨a1,a2,a3⟩:=ih.alone hd s2 h1
             exact ⟨_,Or.inl ⟨rfl,rfl,by simp only [Fit];exact ⟨hd,a1⟩,rfl⟩,by simp only [cnt];omega,a3⟩
           · split at h
             · rename_i hs
               obtain ⟨s1,s2⟩:=see_made hk hs
               obtain ⟨u,t,h1,h2⟩:=andThen_ok h
               obtain ⟨u2,t2,h3,h4⟩:=andThen_ok h2
               obtain ⟨rfl,rfl⟩:=okP_ok h4
               obtain ⟨m1,m2⟩:=must_made s2 h1
               obtain ⟨n1,n2⟩:=must_made m2 h3
               exact ⟨3,Or.inl ⟨rfl,rfl,by simp only [Fit];exact hd,rfl⟩,by omega,n2⟩
             · obtain ⟨n,t,h1,h2⟩:=andThen_ok h
               obtain ⟨m1,m2,m3⟩:=name_made hk h1
               split at h2
               · obtain ⟨l,t2,h3,h4⟩:=andThen_ok h2
                 obtain ⟨rfl,rfl⟩:=okP_ok h4
                 obtain ⟨a1,a2,a3⟩:=ih.args hd m3 h3
                 exact ⟨_,Or.inl ⟨rfl,rfl,by simp only [Fit];exact ⟨hd,m1,a1⟩,rfl⟩,by simp only [cnt];omega,a3⟩
               · obtain ⟨rfl,rfl⟩:=okP_ok h2
                 exact ⟨1,Or.inl ⟨rfl,rfl,by simp only [Fit];exact ⟨hd,m1⟩,rfl⟩,by omega,m3⟩
   · intro d ts l r hd hk h
     simp only [argsF] at h
     obtain ⟨u,t,h1,h2⟩:=andThen_ok h
     obtain ⟨m1,m2⟩:=must_made hk h1
     obtain ⟨a1,a2,a3⟩:=ih.rest hd m2 (by simp only [Fits]) (by simp) h2
     exact ⟨a1,by simp only [cnts] at a2;omega,a3⟩
   · intro d b l ts l' r hd hk hl hb h
     simp only [restF] at h
     split at h
     · rename_i hs
       obtain ⟨s1,s2⟩:=see_made hk hs
       obtain ⟨rfl,rfl⟩:=okP_ok h
       exact ⟨hl,by omega,s2⟩
     · obtain ⟨u,t,h1,h2⟩:=andThen_ok h
       obtain ⟨y,t2,h3,h4⟩:=andThen_ok h2
       have ht:(if l=[] then 0 else 1)+t.length≤ts.length∧ToksOk t:=by
        split at h1
        · rename_i hbt
          rw [(okP_ok h1).2,if_pos (hb.1 hbt)]
          exact ⟨by omega,hk⟩
        · obtain ⟨m1,m2⟩:=must_made hk h1
          exact ⟨by split <;> omega,m2⟩
       obtain ⟨a1,a2,a3⟩:=ih.expr (by omega) ht.2 h3
       have hy:Fit y (d+1):=by
        unfold FitP at a1
        rwa [if_neg (by omega)] at a1
       have hpy:parN 0 y=0:=by unfold parN;rw [if_neg (by omega)]
       obtain ⟨b1,b2,b3⟩:=ih.rest hd a3 (Fits.append l y (d+1) hl hy) (by simp) h4
       rw [cnts_append] at b2
       exact ⟨b1,by have:=ht.1;omega,b3⟩
mutual
def FitS:St→Nat→Prop
 | .var _ s v,_=>NameOk s∧Fit v 0
 | .set _ s v,_=>NameOk s∧Fit v 0
 | .put _ s i v,_=>NameOk s∧Fit i 1∧Fit v 0
 | .cond _ v t e,d=>Fit v 1∧d+1≤12∧FitSs t (d+1)∧FitSs e (d+1)
 | .loop _ v t,d=>Fit v 1∧d+1≤12∧FitSs t (d+1)
 | .ret _ v,_=>Fit v 0
 | .print _ v,_=>Fit v 0
 | .call _ v,_=>(∃ a f l,v=.call a f l)∧Fit v 0
def FitSs:List St→Nat→Prop
 | [],_=>True
 | s::r,d=>FitS s d∧FitSs r d
end
mutual
def cntS:St→Nat
 | .var _ s v=>4+cnt v
 | .set _ s v=>3+cnt v
 | .put _ s i v=>5+cnt i+cnt v
 | .cond _ v t e=>5+cnt v+cntSs t+(if e.isEmpty then 0 else 3+cntSs e)
 | .loop _ v t=>5+cnt v+cntSs t
 | .ret _ v=>2+cnt v
 | .print _ v=>2+cnt v
 | .call _ v=>1+cnt v
def cntSs:List St→Nat
 | []=>0
 | s::r=>cntS s+cntSs r
end
theorem cntSs_append:(l:List St)→(s:St)→cntSs (l++[s])=cntSs l+cntS s
 | [],s=>by simp [cntSs]
 | a::r,s=>by simp only [List.cons_append,cntSs,cntSs_append r s];omega
theorem FitSs.append:(l:List St)→(s:St)→(d:Nat)→FitSs l d→FitS s d→FitSs (l++[s]) d
 | [],s,d,h,hs=>⟨hs,trivial⟩
 | a::r,s,d,h,hs=>by simp only [List.cons_append,FitSs] at h ⊢;exact ⟨h.1,FitSs.append r s d h.2 hs⟩
theorem expr_made {f d:Nat} {ts r:List Tok} {e:Ex} (hk:ToksOk ts) (h:exprF f 0 d ts=some (.ok (e,r))):Fit e d∧cnt e+r.length≤ts.length∧ToksOk r:=by
 obtain ⟨a1,a2,a3⟩:=(made f).expr (by omega) hk h
 unfold FitP at a1
 rw [if_neg (by omega)] at a1
 exact ⟨a1,by omega,a3⟩
structure MadeS (f:Nat):Prop where
 block:∀ {d ts l r},ToksOk ts→blockF f d ts=some (.ok (l,r))→d≤12∧FitSs l d∧2+cntSs l+r.length≤ts.length∧ToksOk r
 stmts:∀ {d l ts l' r},ToksOk ts→FitSs l d→stmtsF f d l ts=some (.ok (l',r))→FitSs l' d∧1+cntSs l'+r.length≤cntSs l+ts.length∧ToksOk r
 stmt:∀ {d ts s r},ToksOk ts→stmtF f d ts=some (.ok (s,r))→FitS s d∧cntS s+r.length≤ts.length∧ToksOk r
 named:∀ {d ts s r},ToksOk ts→namedF f ts=some (.ok (s,r))→FitS s d∧cntS s+r.length≤ts.length+1∧ToksOk r
theorem madeS:(f:Nat)→MadeS f
 | 0=>⟨fun _ h=>by simp [blockF] at h,fun _ _ h=>by simp [stmtsF] at h,fun _ h=>by simp [stmtF] at h,fun _ h=>by simp [namedF] at h⟩
 | f+1=>by
   have ih:=madeS f
   have e:=made f
   refine ⟨?_,?_,?_,?_⟩
   · intro d ts l r hk h
     simp only [blockF] at h
     split at h
     · exact (failP_ok h).elim
     · obtain ⟨u,t,h1,h2⟩:=andThen_ok h
       obtain ⟨m1,m2⟩:=must_made hk h1
       obtain ⟨a1,a2,a3⟩:=ih.stmts (d:=d) m2 (by simp only [FitSs]) h2
       simp only [cntSs] at a2
       exact ⟨by omega,a1,by omega,a3⟩
   · intro d l ts l' r hk hl h
     simp only [stmtsF] at h
     split at h
     · rename_i hs
       obtain ⟨s1,s2⟩:=see_made hk hs
       obtain ⟨rfl,rfl⟩:=okP_ok h
       exact ⟨hl,by omega,s2⟩
     · obtain ⟨s,t,h1,h2⟩:=andThen_ok h
       obtain ⟨a1,a2,a3⟩:=ih.stmt (d:=d) hk h1
       obtain ⟨b1,b2,b3⟩:=ih.stmts a3 (FitSs.append l s d hl a1) h2
       rw [cntSs_append] at b2
       exact ⟨b1,by omega,b3⟩
   · intro d ts s r hk h
     simp only [stmtF] at h
     split at h
     · rename_i hs
       obtain ⟨s1,s2⟩:=see_made hk hs
       obtain ⟨v,t,h1,h2⟩:=andThen_ok h
       obtain ⟨b,t2,h3,h4⟩:=andThen_ok h2
       obtain ⟨a1,a2,a3⟩:=e.alone (by omega) s2 h1
       obtain ⟨b0,b1,b2,b3⟩:=ih.block a3 h3
       split at h4
       · rename_i he
         obtain ⟨e1,e2⟩:=see_made b3 he
         obtain ⟨b',t3,h5,h6⟩:=andThen_ok h4
         obtain ⟨rfl,rfl⟩:=okP_ok h6
         obtain ⟨c0,c1,c2,c3⟩:=ih.block e2 h5
         refine ⟨by simp only [FitS];exact ⟨a1,b0,b1,c1⟩,?_,c3⟩
         simp only [cntS]
         split <;> omega
       · obtain ⟨rfl,rfl⟩:=okP_ok h4
         refine ⟨by simp only [FitS,FitSs];exact ⟨a1,b0,b1,trivial⟩,?_,b3⟩
         simp only [cntS,List.isEmpty_nil,if_true]
         omega
     · split at h
       · rename_i hs
         obtain ⟨s1,s2⟩:=see_made hk hs
         obtain ⟨v,t,h1,h2⟩:=andThen_ok h
         obtain ⟨b,t2,h3,h4⟩:=andThen_ok h2
         obtain ⟨a1,a2,a3⟩:=e.alone (by omega) s2 h1
         obtain ⟨b0,b1,b2,b3⟩:=ih.block a3 h3
         obtain ⟨rfl,rfl⟩:=okP_ok h4
         exact ⟨by simp only [FitS];exact ⟨a1,b0,b1⟩,by simp only [cntS];omega,b3⟩
       · split at h
         · rename_i hs
           obtain ⟨s1,s2⟩:=see_made hk hs
           obtain ⟨n,t,h1,h2⟩:=andThen_ok h
           obtain ⟨u,t2,h3,h4⟩:=andThen_ok h2
           obtain ⟨v,t3,h5,h6⟩:=andThen_ok h4
           obtain ⟨u2,t4,h7,h8⟩:=andThen_ok h6
           obtain ⟨rfl,rfl⟩:=okP_ok h8
           obtain ⟨n1,n2,n3⟩:=name_made s2 h1
           obtain ⟨m1,m2⟩:=must_made n3 h3
           obtain ⟨a1,a2,a3⟩:=expr_made m2 h5
           obtain ⟨p1,p2⟩:=must_made a3 h7
           exact ⟨by simp only [FitS];exact ⟨n1,a1⟩,by simp only [cntS];omega,p2⟩
         · split at h
           · rename_i hs
             obtain ⟨s1,s2⟩:=see_made hk hs
             obtain ⟨v,t,h1,h2⟩:=andThen_ok h
             obtain ⟨u,t2,h3,h4⟩:=andThen_ok h2
             obtain ⟨rfl,rfl⟩:=okP_ok h4
             obtain ⟨a1,a2,a3⟩:=expr_made s2 h1
             obtain ⟨p1,p2⟩:=must_made a3 h3
             exact ⟨by simp only [FitS];exact a1,by simp only [cntS];omega,p2⟩
           · split at h
             · rename_i hs
               obtain ⟨s1,s2⟩:=see_made hk hs
               obtain ⟨v,t,h1,h2⟩:=andThen_ok h
               obtain ⟨u,t2,h3,h4⟩:=andThen_ok h2
               obtain ⟨rfl,rfl⟩:=okP_ok h4
               obtain ⟨a1,a2,a3⟩:=expr_made s2 h1
               obtain ⟨p1,p2⟩:=must_made a3 h3
               exact ⟨by simp only [FitS];exact a1,by simp only [cntS];omega,p2⟩
             · obtain ⟨v,t,h1,h2⟩:=andThen_ok h
               obtain ⟨u,t2,h3,h4⟩:=andThen_ok h2
               obtain ⟨rfl,rfl⟩:=okP_ok h4
               obtain ⟨a1,a2,a3⟩:=ih.named (d:=d) hk h1
               obtain ⟨p1,p2⟩:=must_made a3 h3
               exact ⟨a1,by omega,p2⟩
   · intro d ts s r hk h
     simp only [namedF] at h
     obtain ⟨n,t,h1,h2⟩:=andThen_ok h
     obtain ⟨n1,n2,n3⟩:=name_made hk h1
     split at h2
     · obtain ⟨l,t2,h3,h4⟩:=andThen_ok h2
       obtain ⟨rfl,rfl⟩:=okP_ok h4
       obtain ⟨a1,a2,a3⟩:=e.args (by omega) n3 h3
       exact ⟨by simp only [FitS,Fit];exact ⟨⟨_,_,_,rfl⟩,by omega,n1,a1⟩,by simp only [cntS,cnt];omega,a3⟩
     · split at h2
       · rename_i hs
         obtain ⟨s1,s2⟩:=see_made n3 hs
         obtain ⟨i,t2,h3,h4⟩:=andThen_ok h2
         obtain ⟨u,t3,h5,h6⟩:=andThen_ok h4
         obtain ⟨u2,t4,h7,h8⟩:=andThen_ok h6
         obtain ⟨v,t5,h9,h10⟩:=andThen_ok h8
         obtain ⟨rfl,rfl⟩:=okP_ok h10
         obtain ⟨a1,a2,a3⟩:=expr_made s2 h3
         obtain ⟨m1,m2⟩:=must_made a3 h5
         obtain ⟨k1,k2⟩:=must_made m2 h7
         obtain ⟨b1,b2,b3⟩:=expr_made k2 h9
         exact ⟨by simp only [FitS];exact ⟨n1,a1,b1⟩,by simp only [cntS];omega,b3⟩
       · obtain ⟨u,t2,h3,h4⟩:=andThen_ok h2
         obtain ⟨v,t3,h5,h6⟩:=andThen_ok h4
         obtain ⟨rfl,rfl⟩:=okP_ok h6
         obtain ⟨m1,m2⟩:=must_made n3 h3
         obtain ⟨a1,a2,a3⟩:=expr_made m2 h5
         exact ⟨by simp only [FitS];exact ⟨n1,a1⟩,by simp only [cntS];omega,a3⟩
def FitF (x:Fn):Prop:=NameOk x.name∧(∀ p∈x.params,NameOk p.1∧(p.2=1∨p.2=2))∧FitSs x.body 0
def cntPs:List (List UInt8×Int)→Nat
 | []=>0
 | _::r=>3+(match r with|[]=>0|_::_=>1+cntPs r)
theorem cntPs_append:(l:List (List UInt8×Int))→(p:List UInt8×Int)→cntPs (l++[p])=cntPs l+(if l=[] then 0 else 1)+3
 | [],p=>by simp [cntPs]
 | [a],p=>by simp [cntPs]
 | a::b::r,p=>by
   have:=cntPs_append (b::r) p
   simp only [List.cons_append,cntPs,reduceCtorEq,if_false] at this ⊢
   omega
def cntF (x:Fn):Nat:=6+cntPs x.params+cntSs x.body
def cntFs:List Fn→Nat
 | []=>0
 | x::r=>cntF x+cntFs r
theorem cntFs_append:(l:List Fn)→(x:Fn)→cntFs (l++[x])=cntFs l+cntF x
 | [],x=>by simp [cntFs]
 | a::r,x=>by simp only [List.cons_append,cntFs,cntFs_append r x];omega
theorem params_made:(f:Nat)→(b:Bool)→(l:List (List UInt8×Int))→(ts:List Tok)→{l':List (List UInt8×Int)}→{r:List Tok}→ToksOk ts→(∀ p∈l,NameOk p.1∧(p.2=1∨p.2=2))→(b=true↔l=[])→paramsF f b l ts=some (.ok (l',r))→(∀ p∈l',NameOk p.1∧(p.2=1∨p.2=2))∧1+cntPs l'+r.length≤cntPs l+ts.length∧ToksOk r
 | 0,_,_,_,l',r,_,_,_,h=>by simp [paramsF] at h
 | f+1,b,l,ts,l',r,hk,hl,hb,h=>by
   simp only [paramsF] at h
   split at h
   · rename_i hs
     obtain ⟨s1,s2⟩:=see_made hk hs
     obtain ⟨rfl,rfl⟩:=okP_ok h
     exact ⟨hl,by omega,s2⟩
   · obtain ⟨u,t,h1,h2⟩:=andThen_ok h
     have ht:(if l=[] then 0 else 1)+t.length≤ts.length∧ToksOk t:=by
      split at h1
      · rename_i hbt
        rw [(okP_ok h1).2,if_pos (hb.1 hbt)]
        exact ⟨by omega,hk⟩
      · obtain ⟨m1,m2⟩:=must_made hk h1
        exact ⟨by split <;> omega,m2⟩
     obtain ⟨n,t2,h3,h4⟩:=andThen_ok h2
     obtain ⟨u2,t3,h5,h6⟩:=andThen_ok h4
     obtain ⟨n1,n2,n3⟩:=name_made ht.2 h3
     obtain ⟨m1,m2⟩:=must_made n3 h5
     have app:∀ (t:Int),(t=1∨t=2)→∀ p∈l++[(n,t)],NameOk p.1∧(p.2=1∨p.2=2):=by
      intro t ht p hp
      rw [List.mem_append,List.mem_singleton] at hp
      rcases hp with hp|rfl
      · exact hl p hp
      · exact ⟨n1,ht⟩
     split at h6
     · rename_i hs
       obtain ⟨s1,s2⟩:=see_made m2 hs
       obtain ⟨b1,b2,b3⟩:=params_made f false _ _ s2 (app 2 (Or.inr rfl)) (by simp) h6
       rw [cntPs_append] at b2
       exact ⟨b1,by have:=ht.1;omega,b3⟩
     · obtain ⟨u3,t4,h7,h8⟩:=andThen_ok h6
       obtain ⟨k1,k2⟩:=must_made m2 h7
       obtain ⟨b1,b2,b3⟩:=params_made f false _ _ k2 (app 1 (Or.inl rfl)) (by simp) h8
       rw [cntPs_append] at b2
       exact ⟨b1,by have:=ht.1;omega,b3⟩
theorem function_made {f:Nat} {ts r:List Tok} {x:Fn} (hk:ToksOk ts) (h:functionF f ts=some (.ok (x,r))):FitF x∧cntF x+r.length≤ts.length∧ToksOk r:=by
 cases f with
 | zero=>simp [functionF] at h
 | succ f =>
   simp only [functionF] at h
   obtain ⟨u,t,h1,h2⟩:=andThen_ok h
   obtain ⟨n,t2,h3,h4⟩:=andThen_ok h2
   obtain ⟨u2,t3,h5,h6⟩:=andThen_ok h4
   obtain ⟨ps,t4,h7,h8⟩:=andThen_ok h6
   obtain ⟨b,t5,h9,h10⟩:=andThen_ok h8
   obtain ⟨rfl,rfl⟩:=okP_ok h10
   obtain ⟨m1,m2⟩:=must_made hk h1
   obtain ⟨n1,n2,n3⟩:=name_made m2 h3
   obtain ⟨k1,k2⟩:=must_made n3 h5
   obtain ⟨p1,p2,p3⟩:=params_made f true [] t3 k2 (fun _ h=>nomatch h) (by simp) h7
   obtain ⟨b0,b1,b2,b3⟩:=(madeS f).block p3 h9
   simp only [cntPs] at p2
   exact ⟨⟨n1,p1,b1⟩,by simp only [cntF];omega,b3⟩
theorem program_made:(f:Nat)→(l:List Fn)→(ts:List Tok)→{l':List Fn}→{r:List Tok}→ToksOk ts→(∀ x∈l,FitF x)→l.length≤12→programF f l ts=some (.ok (l',r))→(∀ x∈l',FitF x)∧l'.length≤12∧cntFs l'+r.length≤cntFs l+ts.length∧headKind r=4∧ToksOk r
 | 0,_,_,l',r,_,_,_,h=>by simp [programF] at h
 | f+1,l,ts,l',r,hk,hl,h12,h=>by
   simp only [programF] at h
   split at h
   · rename_i h4
     obtain ⟨rfl,rfl⟩:=okP_ok h
     exact ⟨hl,h12,Nat.le_refl _,h4,hk⟩
   · split at h
     · exact (failP_ok h).elim
     · rename_i hn
       obtain ⟨x,t,h1,h2⟩:=andThen_ok h
       obtain ⟨a1,a2,a3⟩:=function_made hk h1
       obtain ⟨b1,b2,b3,b4⟩:=program_made f _ _ a3 (fun y hy=>by
        rw [List.mem_append,List.mem_singleton] at hy
        rcases hy with hy|rfl
        · exact hl y hy
        · exact a1) (by simp;omega) h2
       rw [cntFs_append] at b3
       exact ⟨b1,b2,by omega,b4⟩
def key (t:Tok):Int×List UInt8:=(t.kind,t.text)
def par (k:List (Int×List UInt8)):List (Int×List UInt8):=(3,[40])::k++[(3,[41])]
section eqs
variable {g d:Nat} {t:Tok} {R:List Tok}
end eqs
end Go.Proofs.YtnicpmoanjddbaaGreatDoor.TreeP
namespace Go.Proofs.YtnicpmoanjddbaaGreatDoor.TreeP
set_option linter.unusedVariables false
set_option linter.unusedSimpArgs false
section eqs
variable {g d:Nat} {t:Tok} {R:List Tok}
end eqs
section eqs
variable {g:Nat} {t:Tok} {R:List Tok}
end eqs
end Go.Proofs.YtnicpmoanjddbaaGreatDoor.TreeP
namespace Go.Proofs.YtnicpmoanjddbaaGreatDoor.TreeP
set_option linter.unusedVariables false
set_option linter.unusedSimpArgs false
section parts
variable {l m:List UInt8} {ks:List (Int×List UInt8)}
end parts
end Go.Proofs.YtnicpmoanjddbaaGreatDoor.TreeP
namespace Go.Proofs.YtnicpmoanjddbaaGreatDoor.TreeP
set_option linter.unusedVariables false
set_option linter.unusedSimpArgs false
theorem dropWhile_le (p:UInt8→Bool):(l:List UInt8)→(l.dropWhile p).length≤l.length
 | []=>Nat.le_refl _
 | c::r=>by
   rw [List.dropWhile_cons]
   split
   · exact Nat.le_trans (dropWhile_le p r) (by simp)
   · exact Nat.le_refl _
theorem lex_runs:(f:Nat)→(l:List UInt8)→(p n:Nat)→l.length<f→lexF f l p n≠none
 | 0,l,p,n,h=>by omega
 | f+1,[],p,n,h=>by simp [lexF]
 | f+1,c::r,p,n,h=>by
   simp only [List.length_cons] at h
   simp only [lexF]
   split
   · exact lex_runs f r _ _ (by omega)
   · split
     · rename_i hb hc
       have:((c::r).dropWhile fun x=>x.toNat != 10)=(r.dropWhile fun x=>x.toNat != 10):=by
        rw [List.dropWhile_cons,if_pos]
        rw [beq_iff_eq] at hc
        simp [hc]
       rw [this]
       exact lex_runs f _ _ _ (Nat.lt_of_le_of_lt (dropWhile_le _ r) (by omega))
     · split
       · simp
       · split
         · simp
         · rename_i h0 hn
           have:=lex_runs f ((c::r).drop (nextP (c::r)).2) (p+(nextP (c::r)).2) (n+1) (by simp;omega)
           split
           · simp
           · assumption
theorem next_ok {c:UInt8} {r:List UInt8} (h0:¬ (nextP (c::r)).2=0) (p:Nat):TokOk ⟨(nextP (c::r)).1,(c::r).take (nextP (c::r)).2,p⟩:=by
 unfold TokOk
 simp only
 by_cases h1:letterB c=true
 · have hn:nextP (c::r)=(1,((c::r).takeWhile fun x=>letterB x || digitB x).length):=by simp only [nextP];rw [if_pos h1]
   have ht:(c::r).take ((c::r).takeWhile fun x=>letterB x || digitB x).length=(c::r).takeWhile fun x=>letterB x || digitB x:=by
    have h2:=List.takeWhile_append_dropWhile (p:=fun x=>letterB x || digitB x) (l:=c::r)
    conv=>lhs;arg 2;rw [← h2]
    exact List.take_left' rfl
   rw [hn]
   simp only
   rw [ht]
   refine ⟨fun _=>⟨⟨c,r.takeWhile fun x=>letterB x || digitB x,?_,h1⟩,?_⟩,Or.inl trivial,fun h=>by omega⟩
   · rw [List.takeWhile_cons,if_pos (by rw [h1];rfl)]
   · exact List.all_takeWhile
 · by_cases h2:digitB c=true
   · have hn:nextP (c::r)=(2,((c::r).takeWhile digitB).length):=by simp only [nextP];rw [if_neg h1,if_pos h2]
     rw [hn]
     exact ⟨fun h=>by omega,Or.inr (Or.inl rfl),fun h=>by omega⟩
   · have hn:(nextP (c::r)).1=3:=by
        simp only [nextP]
        rw [if_neg h1,if_neg h2]
        split <;> rfl
     rw [hn]
     exact ⟨fun h=>by omega,Or.inr (Or.inr (Or.inl rfl)),fun h=>by omega⟩
theorem lex_gives:(f:Nat)→(l:List UInt8)→(p n:Nat)→(ts:List Tok)→n≤1500→lexF f l p n=some (.ok ts)→ToksOk ts∧ts.length+n≤1501
 | 0,l,p,n,ts,hn,h=>by simp [lexF] at h
 | f+1,[],p,n,ts,hn,h=>by
   simp only [lexF,Option.some.injEq,Except.ok.injEq] at h
   subst h
   refine ⟨⟨fun t ht=>?_,⟨_,rfl⟩⟩,by simp;omega⟩
   rw [List.mem_singleton] at ht
   subst ht
   exact ⟨fun h=>by simp at h,Or.inr (Or.inr (Or.inr rfl)),fun _=>rfl⟩
 | f+1,c::r,p,n,ts,hn,h=>by
   simp only [lexF] at h
   split at h
   · exact lex_gives f _ _ _ ts hn h
   · split at h
     · exact lex_gives f _ _ _ ts hn h
     · split at h
       · simp at h
       · rename_i h0
         split at h
         · simp at h
         · rename_i h15
           split at h
           · rename_i t ht
             simp only [Option.some.injEq,Except.ok.injEq] at h
             subst h
             obtain ⟨⟨a1,a2⟩,a3⟩:=lex_gives f _ _ _ t (by omega) ht
             refine ⟨⟨fun u hu=>?_,?_⟩,by simp only [List.length_cons];omega⟩
             · rw [List.mem_cons] at hu
               rcases hu with rfl|hu
               · exact next_ok h0 p
               · exact a1 u hu
             · obtain ⟨a,ha⟩:=a2
               refine ⟨a,?_⟩
               cases t with
               | nil=>simp at ha
               | cons u q=>rw [List.getLast?_cons_cons];exact ha
           · rename_i hx
             exact absurd h (hx ts)
structure Runs (f:Nat):Prop where
 expr:∀ {lv d ts},lv≤6→12*ts.length+10-lv≤f→exprF f lv d ts≠none
 bin:∀ {lv d a x ts},lv<6→12*ts.length+1≤f→binF f lv d a x ts≠none
 unary:∀ {d ts},12*ts.length+3≤f→unaryF f d ts≠none
 item:∀ {d a x ts},12*ts.length+1≤f→itemF f d a x ts≠none
 alone:∀ {d ts},12*ts.length+1≤f→aloneF f d ts≠none
 first:∀ {d ts},12*ts.length+2≤f→firstF f d ts≠none
 args:∀ {d ts},12*ts.length+1≤f→argsF f d ts≠none
 rest:∀ {d b l ts},12*ts.length+11≤f→restF f d b l ts≠none
theorem andThen_runs {α β:Type} {x:PR α} {k:α→List Tok→PR β} (h:x≠none) (hk:∀ a r,x=some (.ok (a,r))→k a r≠none):andThen x k≠none:=by
 unfold andThen
 split
 · exact hk _ _ rfl
 · simp
 · exact absurd rfl h
theorem must_runs (s:List UInt8) (ts:List Tok):must s ts≠none:=by
 unfold must
 split <;> simp [okP,failP]
theorem name_runs (ts:List Tok):nameP ts≠none:=by
 unfold nameP
 split
 · simp [failP]
 · split <;> simp [okP,failP]
theorem okP_runs {α:Type} (a:α) (ts:List Tok):okP a ts≠none:=by simp [okP]
theorem failP_runs {α:Type} (n:Int) (ts:List Tok):(failP n ts:PR α)≠none:=by simp [failP]
theorem op_less {lv:Nat} {ts:List Tok} (h:¬ opP lv ts=[]):ts.tail.length<ts.length:=by
 refine see_less (s:=opP lv ts) ?_
 unfold opP at h ⊢
 cases hf:(levelList.getD lv []).find? (fun m=>seeB m ts) with
 | none=>rw [hf] at h;exact absurd rfl h
 | some m=>exact List.find?_some (p:=fun m=>seeB m ts) hf
theorem runs:(f:Nat)→Runs f
 | 0=>⟨fun _ h=>by omega,fun _ h=>by omega,fun h=>by omega,fun h=>by omega,fun h=>by omega,fun h=>by omega,fun h=>by omega,fun h=>by omega⟩
 | f+1=>by
   have ih:=runs f
   have L:=lens f
   refine ⟨?_,?_,?_,?_,?_,?_,?_,?_⟩
   · intro lv d ts hl h
     simp only [exprF]
     split
     · exact ih.unary (by omega)
     · refine andThen_runs (ih.expr (by omega) (by omega)) fun x r hx=>ih.bin (by omega) ?_
       have:=L.expr hx
       omega
   · intro lv d a x ts hl h
     simp only [binF]
     split
     · exact okP_runs _ _
     · rename_i ho
       have:=op_less ho
       refine andThen_runs (ih.expr (by omega) (by omega)) fun x r hx=>ih.bin hl ?_
       have:=L.expr hx
       omega
   · intro d ts h
     simp only [unaryF]
     split
     · exact failP_runs _ _
     · split
       · rename_i hs
         have:=see_less hs
         exact andThen_runs (ih.unary (by omega)) fun x r hx=>okP_runs _ _
       · split
         · rename_i hs
           have:=see_less hs
           exact andThen_runs (ih.unary (by omega)) fun x r hx=>okP_runs _ _
         · refine andThen_runs (ih.first (by omega)) fun x r hx=>ih.item ?_
           have:=L.first hx
           omega
   · intro d a x ts h
     simp only [itemF]
     split
     · rename_i hs
       have:=see_less hs
       refine andThen_runs (ih.expr (by omega) (by omega)) fun x r hx=>andThen_runs (must_runs _ _) fun u r2 hu=>ih.item ?_
       have:=L.expr hx
       have:=must_less hu
       omega
     · exact okP_runs _ _
   · intro d ts h
     simp only [aloneF]
     refine andThen_runs (must_runs _ _) fun u r hu=>andThen_runs (ih.expr (by omega) ?_) fun x r2 hx=>andThen_runs (must_runs _ _) fun _ _ _=>okP_runs _ _
     have:=must_less hu
     omega
   · intro d ts h
     simp only [firstF]
     split
     · split
       · exact okP_runs _ _
       · exact failP_runs _ _
     · split
       · exact ih.alone (by omega)
       · split
         · rename_i hs
           have:=see_less hs
           exact andThen_runs (ih.alone (by omega)) fun x r hx=>okP_runs _ _
         · split
           · rename_i hs
             have:=see_less hs
             exact andThen_runs (ih.alone (by omega)) fun x r hx=>okP_runs _ _
           · split
             · exact andThen_runs (must_runs _ _) fun u r hu=>andThen_runs (must_runs _ _) fun _ _ _=>okP_runs _ _
             · refine andThen_runs (name_runs _) fun n r hn=>?_
               have:=name_less hn
               split
               · exact andThen_runs (ih.args (by omega)) fun _ _ _=>okP_runs _ _
               · exact okP_runs _ _
   · intro d ts h
     simp only [argsF]
     refine andThen_runs (must_runs _ _) fun u r hu=>ih.rest ?_
     have:=must_less hu
     omega
   · intro d b l ts h
     simp only [restF]
     split
     · exact okP_runs _ _
     · refine andThen_runs (by split;exact okP_runs _ _;exact must_runs _ _) fun u r hu=>?_
       have hr:r.length≤ts.length:=by
        split at hu
        · rw [(okP_ok hu).2];exact Nat.le_refl _
        · exact Nat.le_of_lt (must_less hu)
       refine andThen_runs (ih.expr (by omega) (by omega)) fun x r2 hx=>ih.rest ?_
       have:=L.expr hx
       omega
end Go.Proofs.YtnicpmoanjddbaaGreatDoor.TreeP

/- What is found of a program does not hang on the order of its functions. No program in sight. No conditions. Plainly: of which type a value is; what an expression comes to is of its type. No program in sight. No conditions. Maps from names, as they lie. No conditions. -/
import Derived.Test.YtdgedlhefjmcpaaGreatDoorEn18
import Derived.Test.YtdgedlhefjmcpaaGreatDoorEn19
import Derived.Test.YtdgedlhefjmcpaaGreatDoorEn02
import Derived.Maps.OwnSet
namespace Go.Proofs.YtdgedlhefjmcpaaGreatDoor.TreeP
set_option linter.unusedVariables false
set_option linter.unusedSimpArgs false
theorem bind_ok_iff {β:Type} {x:CK Unit} {f:Unit→CK β} {y:β}:bindK x f=.ok y↔x=.ok ()∧f ()=.ok y:=by
 cases x with
 | error e=>simp [bindK]
 | ok u=>simp [bindK]
def Apart (L:List Fn):Prop:=L.Pairwise (fun a b=>a.name≠b.name)
theorem twiceK_iff:(A L:List Fn)→(twiceK A L=.ok ()↔(∀ x∈L,∀ g∈A,g.name≠x.name)∧Apart L)
 | A,[]=>by simp [twiceK,Apart]
 | A,f::r=>by
  simp only [twiceK]
  split
  ·rename_i h
   simp only [List.any_eq_true,beq_iff_eq] at h
   obtain ⟨g,hg,he⟩:=h
   constructor
   ·intro h;cases h
   ·rintro ⟨h,_⟩
    exact absurd he (h f List.mem_cons_self g hg)
  ·rename_i h
   simp only [List.any_eq_true,beq_iff_eq,not_exists,not_and] at h
   rw [twiceK_iff (A++[f]) r]
   unfold Apart
   rw [List.pairwise_cons]
   constructor
   ·rintro ⟨h1,h2⟩
    refine ⟨fun x hx g hg=>?_,fun x hx=>h1 x hx f (by simp),h2⟩
    rcases List.mem_cons.1 hx with rfl|hx
    ·exact h g hg
    ·exact h1 x hx g (by simp [hg])
   ·rintro ⟨h1,h2,h3⟩
    refine ⟨fun x hx g hg=>?_,h3⟩
    rcases List.mem_append.1 hg with hg|hg
    ·exact h1 x (List.mem_cons_of_mem _ hx) g hg
    ·rw [List.mem_singleton] at hg
     subst hg
     exact h2 x hx
theorem fnsK_iff (M:List Fn):(L:List Fn)→(fnsK M L=.ok ()↔∀ f∈L,fnK M f=.ok ())
 | []=>by simp [fnsK]
 | f::r=>by
  simp only [fnsK]
  rw [bind_ok_iff,fnsK_iff M r]
  simp
theorem fnOf_mem {L:List Fn} (h:Apart L) (s:List UInt8) (f:Fn):fnOf L s=some f↔f∈L∧f.name=s:=by
 unfold fnOf
 constructor
 ·intro hf
  exact ⟨List.mem_of_find?_eq_some hf,by have:=List.find?_some hf;simpa using this⟩
 ·rintro ⟨hm,rfl⟩
  induction L with
  | nil=>simp at hm
  | cons a r ih =>
   unfold Apart at h
   rw [List.pairwise_cons] at h
   rw [List.find?_cons]
   rcases List.mem_cons.1 hm with rfl|hm
   ·simp
   ·have:(a.name==f.name)=false:=by simpa using h.1 f hm
    rw [this]
    exact ih h.2 hm
def checkOk (L:List Fn):Prop:=Apart L∧(∀ f∈L,fnK L f=.ok ())∧L.any mainB=true
theorem checkOk_iff (L:List Fn):bindK (twiceK [] L) (fun _=>bindK (fnsK L L) fun _=>.ok (L.any mainB))=.ok true↔checkOk L:=by
 rw [bind_ok_iff,bind_ok_iff,twiceK_iff,fnsK_iff]
 unfold checkOk
 constructor
 ·rintro ⟨h1,h2,h3⟩
  exact ⟨h1.2,h2,Except.ok.inj h3⟩
 ·rintro ⟨h1,h2,h3⟩
  exact ⟨⟨fun _ _ _ h=>(nomatch h),h1⟩,h2,by rw [h3]⟩
end Go.Proofs.YtdgedlhefjmcpaaGreatDoor.TreeP
namespace Go.Proofs.YtdgedlhefjmcpaaGreatDoor.TreeP
open Go.RowKit
set_option linter.unusedVariables false
set_option linter.unusedSimpArgs false
def ArrsOn (s t:RS):Prop:=s.arrs.length≤t.arrs.length
theorem arrs_way:OneWay ArrsOn:=⟨fun _=>Nat.le_refl _,fun _ _ _ h k=>Nat.le_trans h k,fun _=>Nat.le_refl _,fun _ _=>Nat.le_refl _,fun _ _=>Nat.le_refl _,fun _ _ h=>h,fun _ _=>Nat.le_refl _⟩
def VTy (s:RS) (t:Int) (v:V):Prop:=(t=1∧v.arr=none)∨(t=2∧v.n=0∧∃ i,v.arr=some i∧i<s.arrs.length)
theorem VTy.on {s u:RS} {t:Int} {v:V} (h:VTy s t v) (hs:ArrsOn s u):VTy u t v:=by
 rcases h with h|⟨h1,h2,i,h3,h4⟩
 ·exact Or.inl h
 ·exact Or.inr ⟨h1,h2,i,h3,Nat.lt_of_lt_of_le h4 hs⟩
theorem VTy.num (s:RS) (n:Int):VTy s 1 (numV n):=Or.inl ⟨rfl,rfl⟩
def FTy (s:RS) (N:Nm) (F:Fr):Prop:=∀ x,findN N x≠0→VTy s (findN N x) (F.get x)
theorem FTy.on {s u:RS} {N:Nm} {F:Fr} (h:FTy s N F) (hs:ArrsOn s u):FTy u N F:=fun x hx=>(h x hx).on hs
theorem Fr.get_put:(F:Fr)→(s:List UInt8)→(v:V)→(x:List UInt8)→(F.put s v).get x=if x=s then v else F.get x
 | [],s,v,x=>by
  simp only [Fr.put,Fr.get,beq_iff_eq]
  by_cases h:x=s
  ·subst h;simp
  ·rw [if_neg h,if_neg (fun e=>h e.symm)]
 | p::r,s,v,x=>by
  simp only [Fr.put]
  by_cases hp:p.1=s
  ·rw [if_pos (by simpa using hp)]
   simp only [Fr.get,beq_iff_eq]
   by_cases h:x=s
   ·subst h;simp
   ·rw [if_neg h,if_neg (fun e=>h e.symm),if_neg (fun e=>h (e.symm.trans hp))]
  ·rw [if_neg (by simpa using hp)]
   simp only [Fr.get,beq_iff_eq]
   by_cases h:p.1=x
   ·rw [if_pos h,if_pos h,if_neg]
    rintro rfl
    exact hp h
   ·rw [if_neg h,if_neg h,Fr.get_put r s v x]
theorem findN_append (N:Nm) (s:List UInt8) (t:Int) (x:List UInt8) (hN:∀ p∈N,p.2≠0):findN (N++[(s,t)]) x=if findN N x≠0 then findN N x else if s=x then t else 0:=by
 unfold findN
 rw [List.find?_append]
 cases h:N.find? (fun p=>p.1==x) with
 | none =>
  simp only [Option.none_or,ne_eq,not_true_eq_false,if_false]
  simp only [List.find?_cons,List.find?_nil]
  by_cases hs:s=x
  ·subst hs;simp
  ·rw [if_neg hs,show (s==x)=false by simpa using hs]
 | some p =>
  simp only [Option.some_or]
  rw [if_pos (hN p (List.mem_of_find?_eq_some h))]
def NmOk (N:Nm):Prop:=∀ p∈N,p.2=1∨p.2=2
theorem NmOk.ne {N:Nm} (h:NmOk N):∀ p∈N,p.2≠0:=fun p hp=>by rcases h p hp with h|h <;> omega
theorem NmOk.find {N:Nm} (h:NmOk N) (x:List UInt8):findN N x=0∨findN N x=1∨findN N x=2:=by
 unfold findN
 cases hf:N.find? (fun p=>p.1==x) with
 | none=>exact Or.inl rfl
 | some p=>exact Or.inr (h p (List.mem_of_find?_eq_some hf))
theorem NmOk.add {N:Nm} (h:NmOk N) {s:List UInt8} {t:Int} (ht:t=1∨t=2):NmOk (N++[(s,t)]):=fun p hp=>by
 rcases List.mem_append.1 hp with hp|hp
 ·exact h p hp
 ·simp only [List.mem_singleton] at hp;subst hp;exact ht
theorem addN_ok {N N':Nm} {m m':Nat} {p:List UInt8×Int} {a:Int} (h:addN N m p a=.ok (N',m')):findN N p.1=0∧N'=N++[p]∧m'=m+1∧m≠12:=by
 unfold addN at h
 split at h
 ·cases h
 ·rename_i h0
  split at h
  ·cases h
  ·rename_i h12
   cases h
   exact ⟨by simpa using h0,rfl,rfl,h12⟩
theorem bindK_ok2 {α β:Type} {x:CK α} {f:α→CK β} {y:β} (h:bindK x f=.ok y):∃ a,x=.ok a∧f a=.ok y:=by
 cases x with
 | error e=>cases h
 | ok a=>exact ⟨a,rfl,h⟩
theorem wantT_ok {e:Ex} {k t:Int} {u:Unit} (h:wantT e k t=.ok u):t=k:=by
 unfold wantT at h
 split at h
 ·assumption
 ·cases h
theorem wantK_ok {L:List Fn} {N:Nm} {e:Ex} {k:Int} {u:Unit} (h:wantK L N e k=.ok u):exprK L N e=.ok k:=by
 unfold wantK at h
 obtain ⟨t,h1,h2⟩:=bindK_ok2 h
 rw [h1,wantT_ok h2]
def Ty {α:Type} (s:RS) (Q:α→RS→Prop) (x:RM α):Prop:=∀ y,x=some y→ArrsOn s y.2∧∀ a,y.1=.ok a→Q a y.2
theorem Ty.ok {α:Type} {s t:RS} {Q:α→RS→Prop} {a:α} (hs:ArrsOn s t) (h:Q a t):Ty s Q (okR a t):=by
 intro y hy
 obtain rfl:=(Option.some.inj hy).symm
 exact ⟨hs,fun b hb=>by simp only [Except.ok.injEq] at hb;subst hb;exact h⟩
theorem Ty.err {α:Type} {s t:RS} {Q:α→RS→Prop} (g:Sig) (hs:ArrsOn s t):Ty s Q (some ((Except.error g:Except Sig α),t)):=by
 intro y hy
 obtain rfl:=(Option.some.inj hy).symm
 exact ⟨hs,fun b hb=>by cases hb⟩
theorem Ty.bind {α β:Type} {s:RS} {Q:α→RS→Prop} {Q':β→RS→Prop} {x:RM α} {f:α→RS→RM β} (h:Ty s Q x) (hf:∀ a t,ArrsOn s t→Q a t→Ty t Q' (f a t)):Ty s Q' (bindR x f):=by
 intro y hy
 rcases x with _|⟨g|a,t⟩
 ·cases hy
 ·obtain rfl:=(Option.some.inj hy).symm
  exact ⟨(h _ rfl).1,fun b hb=>by cases hb⟩
 ·obtain ⟨h1,h2⟩:=h _ rfl
  obtain ⟨h3,h4⟩:=hf a t h1 (h2 a rfl) y hy
  exact ⟨Nat.le_trans h1 h3,h4⟩
theorem Ty.none_ {α:Type} (s:RS) (Q:α→RS→Prop):Ty s Q (none:RM α):=by intro y hy;cases hy
theorem Ty.of_goes {α:Type} {s:RS} {x:RM α} (h:Goes ArrsOn s x):Ty s (fun _ _=>True) x:=fun y hy=>⟨h y hy,fun _ _=>trivial⟩
theorem Ty.imp {α:Type} {s:RS} {Q Q':α→RS→Prop} {x:RM α} (h:Ty s Q x) (hq:∀ a t,ArrsOn s t→Q a t→Q' a t):Ty s Q' x:=fun y hy=>⟨(h y hy).1,fun a ha=>hq a _ (h y hy).1 ((h y hy).2 a ha)⟩
def VsTy (s:RS):List V→List Int→Prop
 | [],[]=>True
 | v::vs,k::ks=>VTy s k v∧VsTy s vs ks
 | _,_=>False
theorem VsTy.on {s u:RS} (hs:ArrsOn s u):{vs:List V}→{ks:List Int}→VsTy s vs ks→VsTy u vs ks
 | [],[],h=>trivial
 | v::vs,k::ks,h=>⟨h.1.on hs,VsTy.on hs h.2⟩
 | [],k::ks,h=>h.elim
 | v::vs,[],h=>h.elim
theorem VsTy.append {s:RS} {v:V} {k:Int} (h:VTy s k v):{vs:List V}→{ks:List Int}→VsTy s vs ks→VsTy s (vs++[v]) (ks++[k])
 | [],[],_=>⟨h,trivial⟩
 | u::vs,j::ks,hv=>⟨hv.1,VsTy.append h hv.2⟩
 | [],k::ks,h=>h.elim
 | v::vs,[],h=>h.elim
theorem VsTy.len {s:RS}:{vs:List V}→{ks:List Int}→VsTy s vs ks→vs.length=ks.length
 | [],[],_=>rfl
 | v::vs,k::ks,h=>by simp only [List.length_cons,VsTy.len h.2]
 | [],k::ks,h=>h.elim
 | v::vs,[],h=>h.elim
def EvTy (L:List Fn) (f:Nat):Prop:=∀ s N F e t,FTy s N F→exprK L N e=.ok t→Ty s (fun v u=>VTy u t v) (evE L f s F e)
def ArTy (L:List Fn) (f:Nat):Prop:=∀ s N F l ks vs js,FTy s N F→argsK L N l ks=.ok ()→l.length=ks.length→VsTy s vs js→Ty s (fun ws u=>VsTy u ws (js++ks)) (evA L f s F l vs)
theorem exprs_typed (L:List Fn):∀ f,EvTy L f∧ArTy L f:=by
 intro f
 induction f with
 | zero =>
  refine ⟨fun s N F e t hF hk=>?_,fun s N F l ks vs js hF hk hn hv=>?_⟩
  ·simp only [evE];exact Ty.none_ _ _
  ·simp only [evA];exact Ty.none_ _ _
 | succ f ih =>
  obtain ⟨i1,i2⟩:=ih
  refine ⟨fun s N F e t hF hk=>?_,fun s N F l ks vs js hF hk hn hv=>?_⟩
  ·cases e with
   | num a k=>simp only [exprK,Except.ok.injEq] at hk;subst hk;simp only [evE];exact Ty.ok (Nat.le_refl _) (VTy.num _ _)
   | var a x =>
    simp only [exprK] at hk
    split at hk
    ·cases hk
    ·rename_i h0
     simp only [Except.ok.injEq] at hk
     subst hk
     simp only [evE]
     exact Ty.ok (Nat.le_refl _) (hF x h0)
   | un a op x =>
    simp only [exprK] at hk
    obtain ⟨t1,h1,hk⟩:=bindK_ok2 hk
    obtain ⟨_,h2,hk⟩:=bindK_ok2 hk
    simp only [Except.ok.injEq] at hk
    subst hk
    simp only [evE]
    exact (i1 s N F x t1 hF h1).bind fun v u hu _=>Ty.ok (Nat.le_refl _) (VTy.num _ _)
   | bin a op x y =>
    simp only [exprK] at hk
    obtain ⟨t1,h1,hk⟩:=bindK_ok2 hk
    obtain ⟨_,h2,hk⟩:=bindK_ok2 hk
    obtain ⟨t3,h3,hk⟩:=bindK_ok2 hk
    obtain ⟨_,h4,hk⟩:=bindK_ok2 hk
    simp only [Except.ok.injEq] at hk
    subst hk
    simp only [evE]
    refine (i1 s N F x t1 hF h1).bind fun v u hu _=>?_
    split
    ·split
     ·exact Ty.ok (Nat.le_refl _) (VTy.num _ _)
     ·exact (i1 u N F y t3 (hF.on hu) h3).bind fun v2 u2 hu2 _=>Ty.ok (Nat.le_refl _) (VTy.num _ _)
    ·refine (i1 u N F y t3 (hF.on hu) h3).bind fun v2 u2 hu2 _=>?_
     split
     ·exact Ty.ok (Nat.le_refl _) (VTy.num _ _)
     ·exact Ty.err _ (Nat.le_refl _)
   | call a g l =>
    have ht:t=1:=by
     simp only [exprK] at hk
     split at hk
     ·cases hk
     ·split at hk
      ·obtain ⟨_,_,hk⟩:=bindK_ok2 hk
       simp only [Except.ok.injEq] at hk
       exact hk.symm
      ·cases hk
    subst ht
    simp only [evE]
    exact (Ty.of_goes ((goes_all arrs_way L f).2.1 s F l [])).bind fun vs u hu _=>(Ty.of_goes ((goes_all arrs_way L f).2.2.1 u g vs)).bind fun n u2 hu2 _=>Ty.ok (Nat.le_refl _) (VTy.num _ _)
   | new a x =>
    simp only [exprK] at hk
    obtain ⟨t1,h1,hk⟩:=bindK_ok2 hk
    obtain ⟨_,h2,hk⟩:=bindK_ok2 hk
    simp only [Except.ok.injEq] at hk
    subst hk
    simp only [evE]
    refine (i1 s N F x t1 hF h1).bind fun v u hu _=>?_
    split
    ·exact Ty.err _ (Nat.le_refl _)
    ·exact Ty.ok (by simp [ArrsOn]) (Or.inr ⟨rfl,rfl,_,rfl,by simp⟩)
   | len a x =>
    simp only [exprK] at hk
    obtain ⟨t1,h1,hk⟩:=bindK_ok2 hk
    obtain ⟨_,h2,hk⟩:=bindK_ok2 hk
    simp only [Except.ok.injEq] at hk
    subst hk
    simp only [evE]
    exact (i1 s N F x t1 hF h1).bind fun v u hu _=>Ty.ok (Nat.le_refl _) (VTy.num _ _)
   | item a x y =>
    simp only [exprK] at hk
    obtain ⟨t1,h1,hk⟩:=bindK_ok2 hk
    obtain ⟨_,h2,hk⟩:=bindK_ok2 hk
    obtain ⟨t3,h3,hk⟩:=bindK_ok2 hk
    obtain ⟨_,h4,hk⟩:=bindK_ok2 hk
    simp only [Except.ok.injEq] at hk
    subst hk
    simp only [evE]
    refine (i1 s N F x t1 hF h1).bind fun v u hu _=>?_
    refine (i1 u N F y t3 (hF.on hu) h3).bind fun v2 u2 hu2 _=>?_
    refine (Ty.of_goes (placeR_goes arrs_way u2 v v2.n)).bind fun n u3 hu3 _=>Ty.ok (Nat.le_refl _) (VTy.num _ _)
   | input a =>
    simp only [exprK,Except.ok.injEq] at hk;subst hk;simp only [evE]
    split
    ·exact Ty.ok (Nat.le_refl _) (VTy.num _ _)
    ·exact Ty.ok (Nat.le_refl _) (VTy.num _ _)
  ·cases l with
   | nil =>
    cases ks with
    | nil=>simp only [evA,List.append_nil];exact Ty.ok (Nat.le_refl _) hv
    | cons k ks=>simp at hn
   | cons e r =>
    cases ks with
    | nil=>simp at hn
    | cons k ks =>
     simp only [argsK] at hk
     obtain ⟨t1,h1,hk1⟩:=bindK_ok2 hk
     obtain ⟨_,h2,hk2⟩:=bindK_ok2 hk1
     obtain rfl:=wantT_ok h2
     simp only [evA]
     refine (i1 s N F e t1 hF h1).bind fun v u hu hvt=>?_
     have:=i2 u N F r ks (vs++[v]) (js++[t1]) (hF.on hu) hk2 (by simpa using hn) ((hv.on hu).append hvt)
     rwa [List.append_assoc] at this
theorem ev_typed {L:List Fn} {f:Nat} {s s':RS} {N:Nm} {F:Fr} {e:Ex} {t:Int} {v:V} (hF:FTy s N F) (hk:exprK L N e=.ok t) (h:evE L f s F e=some (.ok v,s')):VTy s' t v∧ArrsOn s s' :=
 ⟨(((exprs_typed L f).1 s N F e t hF hk) _ h).2 v rfl,(((exprs_typed L f).1 s N F e t hF hk) _ h).1⟩
theorem exprK_12 {L:List Fn} {N:Nm} (hN:NmOk N) {e:Ex} {t:Int} (h:exprK L N e=.ok t):t=1∨t=2:=by
 cases e with
 | num a k=>simp only [exprK,Except.ok.injEq] at h;exact Or.inl h.symm
 | var a x =>
  simp only [exprK] at h
  split at h
  ·cases h
  ·rename_i h0
   simp only [Except.ok.injEq] at h
   subst h
   exact (hN.find x).resolve_left h0
 | un a op x =>
  simp only [exprK] at h
  obtain ⟨_,_,h⟩:=bindK_ok2 h
  obtain ⟨_,_,h⟩:=bindK_ok2 h
  simp only [Except.ok.injEq] at h;exact Or.inl h.symm
 | bin a op x y =>
  simp only [exprK] at h
  obtain ⟨_,_,h⟩:=bindK_ok2 h
  obtain ⟨_,_,h⟩:=bindK_ok2 h
  obtain ⟨_,_,h⟩:=bindK_ok2 h
  obtain ⟨_,_,h⟩:=bindK_ok2 h
  simp only [Except.ok.injEq] at h;exact Or.inl h.symm
 | call a g l =>
  simp only [exprK] at h
  split at h
  ·cases h
  ·split at h
   ·obtain ⟨_,_,h⟩:=bindK_ok2 h
    simp only [Except.ok.injEq] at h;exact Or.inl h.symm
   ·cases h
 | new a x =>
  simp only [exprK] at h
  obtain ⟨_,_,h⟩:=bindK_ok2 h
  obtain ⟨_,_,h⟩:=bindK_ok2 h
  simp only [Except.ok.injEq] at h;exact Or.inr h.symm
 | len a x =>
  simp only [exprK] at h
  obtain ⟨_,_,h⟩:=bindK_ok2 h
  obtain ⟨_,_,h⟩:=bindK_ok2 h
  simp only [Except.ok.injEq] at h;exact Or.inl h.symm
 | item a x y =>
  simp only [exprK] at h
  obtain ⟨_,_,h⟩:=bindK_ok2 h
  obtain ⟨_,_,h⟩:=bindK_ok2 h
  obtain ⟨_,_,h⟩:=bindK_ok2 h
  obtain ⟨_,_,h⟩:=bindK_ok2 h
  simp only [Except.ok.injEq] at h;exact Or.inl h.symm
 | input a=>simp only [exprK,Except.ok.injEq] at h;exact Or.inl h.symm
structure NmExt (N N':Nm):Prop where
 ok:NmOk N'
 keep:∀ x,findN N x≠0→findN N' x=findN N x
theorem NmExt.refl {N:Nm} (h:NmOk N):NmExt N N:=⟨h,fun _ _=>rfl⟩
theorem NmExt.trans {N N' N'':Nm} (h:NmExt N N') (k:NmExt N' N''):NmExt N N'':=⟨k.ok,fun x hx=>(k.keep x (by rw [h.keep x hx];exact hx)).trans (h.keep x hx)⟩
theorem FTy.less {s:RS} {N N':Nm} {F:Fr} (h:FTy s N' F) (hN:NmExt N N'):FTy s N F:=fun x hx=>by
 have:=h x (by rw [hN.keep x hx];exact hx)
 rwa [hN.keep x hx] at this
theorem addN_ext {N N':Nm} {m m':Nat} {p:List UInt8×Int} {a:Int} (hN:NmOk N) (hp:p.2=1∨p.2=2) (h:addN N m p a=.ok (N',m')):NmExt N N':=by
 obtain ⟨h0,rfl,_,_⟩:=addN_ok h
 obtain ⟨s,t⟩:=p
 exact ⟨hN.add hp,fun x hx=>by rw [findN_append N s t x hN.ne,if_pos hx]⟩
theorem FTy.add {s:RS} {N N':Nm} {F:Fr} {m m':Nat} {x:List UInt8} {t a:Int} {v:V} (hN:NmOk N) (hF:FTy s N F) (hv:VTy s t v) (h:addN N m (x,t) a=.ok (N',m')):FTy s N' (F.put x v):=by
 obtain ⟨h0,rfl,_,_⟩:=addN_ok h
 intro y hy
 rw [findN_append N x t y hN.ne] at hy ⊢
 rw [Fr.get_put]
 by_cases h1:findN N y≠0
 ·rw [if_pos h1]
  have hne:¬ y=x:=by rintro rfl;exact h1 h0
  rw [if_neg hne]
  exact hF y h1
 ·rw [if_neg h1] at hy ⊢
  by_cases hx:x=y
  ·rw [if_pos hx,if_pos hx.symm];exact hv
  ·rw [if_neg hx] at hy;exact absurd rfl hy
theorem FTy.set {s:RS} {N:Nm} {F:Fr} {x:List UInt8} {v:V} (hF:FTy s N F) (hv:VTy s (findN N x) v):FTy s N (F.put x v):=by
 intro y hy
 rw [Fr.get_put]
 by_cases hx:y=x
 ·subst hx;rw [if_pos rfl];exact hv
 ·rw [if_neg hx];exact hF y hy
mutual
theorem stmtK_ext (L:List Fn):(x:St)→(N N':Nm)→(m m':Nat)→NmOk N→stmtK L N m x=.ok (N',m')→NmExt N N'
 | .var a s v,N,N',m,m',hN,h=>by
  simp only [stmtK] at h
  obtain ⟨t,h1,h2⟩:=bindK_ok2 h
  exact addN_ext hN (exprK_12 hN h1) h2
 | .set a s v,N,N',m,m',hN,h=>by
  simp only [stmtK] at h
  split at h
  ·cases h
  ·obtain ⟨_,_,h⟩:=bindK_ok2 h
   cases h;exact NmExt.refl hN
 | .put a s i v,N,N',m,m',hN,h=>by
  simp only [stmtK] at h
  split at h
  ·cases h
  ·split at h
   ·cases h
   ·obtain ⟨_,_,h⟩:=bindK_ok2 h
    obtain ⟨_,_,h⟩:=bindK_ok2 h
    cases h;exact NmExt.refl hN
 | .cond a v t e,N,N',m,m',hN,h=>by
  simp only [stmtK] at h
  obtain ⟨_,_,h⟩:=bindK_ok2 h
  obtain ⟨_,_,h⟩:=bindK_ok2 h
  obtain ⟨_,_,h⟩:=bindK_ok2 h
  cases h;exact NmExt.refl hN
 | .loop a v t,N,N',m,m',hN,h=>by
  simp only [stmtK] at h
  obtain ⟨_,_,h⟩:=bindK_ok2 h
  obtain ⟨_,_,h⟩:=bindK_ok2 h
  cases h;exact NmExt.refl hN
 | .ret a v,N,N',m,m',hN,h=>by
  simp only [stmtK] at h
  obtain ⟨_,_,h⟩:=bindK_ok2 h
  cases h;exact NmExt.refl hN
 | .print a v,N,N',m,m',hN,h=>by
  simp only [stmtK] at h
  obtain ⟨_,_,h⟩:=bindK_ok2 h
  cases h;exact NmExt.refl hN
 | .call a v,N,N',m,m',hN,h=>by
  simp only [stmtK] at h
  obtain ⟨_,_,h⟩:=bindK_ok2 h
  cases h;exact NmExt.refl hN
theorem stmtsK_ext (L:List Fn):(l:List St)→(N N':Nm)→(m m':Nat)→NmOk N→stmtsK L N m l=.ok (N',m')→NmExt N N'
 | [],N,N',m,m',hN,h=>by
  simp only [stmtsK] at h
  cases h;exact NmExt.refl hN
 | x::r,N,N',m,m',hN,h=>by
  simp only [stmtsK] at h
  obtain ⟨y,h1,h2⟩:=bindK_ok2 h
  have e1:=stmtK_ext L x N y.1 m y.2 hN h1
  exact e1.trans (stmtsK_ext L r y.1 N' y.2 m' e1.ok h2)
end
def StTy (L:List Fn) (f:Nat):Prop:=∀ s N N' m m' F x,NmOk N→FTy s N F→stmtK L N m x=.ok (N',m')→Ty s (fun G u=>FTy u N' G) (stmtR L f s F x)
def BkTy (L:List Fn) (f:Nat):Prop:=∀ s N N' m m' F l,NmOk N→FTy s N F→stmtsK L N m l=.ok (N',m')→Ty s (fun G u=>FTy u N' G) (blockR L f s F l)
def WhTy (L:List Fn) (f:Nat):Prop:=∀ s N N' m m' F v l,NmOk N→FTy s N F→exprK L N v=.ok 1→stmtsK L N m l=.ok (N',m')→Ty s (fun G u=>FTy u N G) (whileR L f s F v l)
theorem stmts_typed (L:List Fn):∀ f,StTy L f∧BkTy L f∧WhTy L f:=by
 intro f
 induction f with
 | zero =>
  refine ⟨fun s N N' m m' F x hN hF hk=>?_,fun s N N' m m' F l hN hF hk=>?_,fun s N N' m m' F v l hN hF hk hl=>?_⟩
  ·simp only [stmtR];exact Ty.none_ _ _
  ·simp only [blockR];exact Ty.none_ _ _
  ·simp only [whileR];exact Ty.none_ _ _
 | succ f ih =>
  obtain ⟨i1,i2,i3⟩:=ih
  have ex:=(exprs_typed L f).1
  refine ⟨fun s N N' m m' F x hN hF hk=>?_,fun s N N' m m' F l hN hF hk=>?_,fun s N N' m m' F v l hN hF hk hl=>?_⟩
  ·simp only [stmtR]
   refine (Ty.of_goes (stepR_goes arrs_way s)).bind fun _ t ht _=>?_
   have hF:=hF.on ht
   cases x with
   | var a n v =>
    simp only [stmtK] at hk
    obtain ⟨ty,h1,h2⟩:=bindK_ok2 hk
    exact (ex t N F v ty hF h1).bind fun y u hu hy=>Ty.ok (Nat.le_refl _) ((hF.on hu).add hN hy h2)
   | set a n v =>
    simp only [stmtK] at hk
    split at hk
    ·cases hk
    ·obtain ⟨_,h1,h2⟩:=bindK_ok2 hk
     cases h2
     exact (ex t N F v _ hF (wantK_ok h1)).bind fun y u hu hy=>Ty.ok (Nat.le_refl _) ((hF.on hu).set hy)
   | put a n i v =>
    simp only [stmtK] at hk
    split at hk
    ·cases hk
    ·split at hk
     ·cases hk
     ·obtain ⟨_,h1,hk⟩:=bindK_ok2 hk
      obtain ⟨_,h2,hk⟩:=bindK_ok2 hk
      cases hk
      exact (ex t N F i _ hF (wantK_ok h1)).bind fun k u hu _=>(ex u N F v _ (hF.on hu) (wantK_ok h2)).bind fun y u2 hu2 _=>(Ty.of_goes (placeR_goes arrs_way u2 _ _)).bind fun _ u3 hu3 _=>Ty.ok (putArr_goes arrs_way u3 _ _ _) (((hF.on hu).on (Nat.le_trans hu2 hu3)).on (putArr_goes arrs_way u3 _ _ _))
   | cond a v t1 e1 =>
    simp only [stmtK] at hk
    obtain ⟨_,h1,hk⟩:=bindK_ok2 hk
    obtain ⟨y1,h2,hk⟩:=bindK_ok2 hk
    obtain ⟨y2,h3,hk⟩:=bindK_ok2 hk
    cases hk
    refine (ex t N F v _ hF (wantK_ok h1)).bind fun c u hu _=>?_
    split
    ·exact (i2 u N y1.1 m y1.2 F t1 hN (hF.on hu) h2).imp fun G w hw hG=>hG.less (stmtsK_ext L _ _ _ _ _ hN h2)
    ·exact (i2 u N y2.1 y1.2 y2.2 F e1 hN (hF.on hu) h3).imp fun G w hw hG=>hG.less (stmtsK_ext L _ _ _ _ _ hN h3)
   | loop a v t1 =>
    simp only [stmtK] at hk
    obtain ⟨_,h1,hk⟩:=bindK_ok2 hk
    obtain ⟨y1,h2,hk⟩:=bindK_ok2 hk
    cases hk
    exact i3 t N y1.1 m y1.2 F v t1 hN hF (wantK_ok h1) h2
   | ret a v =>
    simp only [stmtK] at hk
    obtain ⟨_,h1,hk⟩:=bindK_ok2 hk
    cases hk
    exact (ex t N F v _ hF (wantK_ok h1)).bind fun y u hu _=>Ty.err _ (Nat.le_refl _)
   | print a v =>
    simp only [stmtK] at hk
    obtain ⟨_,h1,hk⟩:=bindK_ok2 hk
    cases hk
    refine (ex t N F v _ hF (wantK_ok h1)).bind fun y u hu _=>?_
    split
    ·exact Ty.err _ (Nat.le_refl _)
    ·exact Ty.ok (Nat.le_refl _) (hF.on hu)
   | call a v =>
    simp only [stmtK] at hk
    obtain ⟨_,h1,hk⟩:=bindK_ok2 hk
    cases hk
    exact (ex t N F v _ hF (wantK_ok h1)).bind fun y u hu _=>Ty.ok (Nat.le_refl _) (hF.on hu)
  ·cases l with
   | nil =>
    simp only [stmtsK] at hk
    cases hk
    simp only [blockR]
    exact Ty.ok (Nat.le_refl _) hF
   | cons x r =>
    simp only [stmtsK] at hk
    obtain ⟨y,h1,h2⟩:=bindK_ok2 hk
    simp only [blockR]
    exact (i1 s N y.1 m y.2 F x hN hF h1).bind fun G u hu hG=>i2 u y.1 N' y.2 m' G r (stmtK_ext L x N y.1 m y.2 hN h1).ok hG h2
  ·simp only [whileR]
   refine (ex s N F v 1 hF hk).bind fun c u hu _=>?_
   split
   ·refine (i2 u N N' m m' F l hN (hF.on hu) hl).bind fun G w hw hG=>?_
    refine (Ty.of_goes (stepR_goes arrs_way w)).bind fun _ z hz _=>?_
    exact i3 z N N' m m' G v l hN ((hG.less (stmtsK_ext L _ _ _ _ _ hN hl)).on hz) hk hl
   ·exact Ty.ok (Nat.le_refl _) (hF.on hu)
theorem params_typed {s:RS} {a:Int}:{ps:List (List UInt8×Int)}→{N N':Nm}→{m m':Nat}→{F:Fr}→{vs:List V}→NmOk N→FTy s N F→(∀ p∈ps,p.2=1∨p.2=2)→paramsK N m a ps=.ok (N',m')→VsTy s vs (ps.map (·.2))→NmOk N'∧FTy s N' (bindParams F ps vs)
 | [],N,N',m,m',F,vs,hN,hF,hp,h,hv=>by
  simp only [paramsK] at h
  cases h
  cases vs with
  | nil=>exact ⟨hN,hF⟩
  | cons v vs=>exact hv.elim
 | p::ps,N,N',m,m',F,vs,hN,hF,hp,h,hv=>by
  simp only [paramsK] at h
  obtain ⟨y,h1,h2⟩:=bindK_ok2 h
  cases vs with
  | nil=>exact hv.elim
  | cons v vs =>
   simp only [List.map_cons,VsTy] at hv
   simp only [bindParams]
   obtain ⟨pn,pt⟩:=p
   have e1:=addN_ext hN (hp (pn,pt) (by simp)) h1
   exact params_typed e1.ok (hF.add hN hv.1 h1) (fun q hq=>hp q (by simp [hq])) h2 hv.2
theorem FTy.nil (s:RS):FTy s [] []:=fun x hx=>absurd rfl hx
end Go.Proofs.YtdgedlhefjmcpaaGreatDoor.TreeP
namespace Go.Proofs.YtdgedlhefjmcpaaGreatDoor.TreeP
open Go.RowKit Go.Proofs.YtdgedlhefjmcpaaGreatDoor.Wo Go.Maps
set_option linter.unusedVariables false
set_option linter.unusedSimpArgs false
def heldR (v:Value):Option (DataW Value×List MemPlace):=some (.held v,[])
def getL (z:Value):List (List UInt8×Value)→List UInt8→Value
 | [],_=>z
 | p::r,s=>if p.1==s then p.2 else getL z r s
def putL:List (List UInt8×Value)→List UInt8→Value→List (List UInt8×Value)
 | [],s,v=>[(s,v)]
 | p::r,s,v=>if p.1==s then (s,v)::r else p::putL r s v
theorem getL_put (z:Value):(F:List (List UInt8×Value))→(s:List UInt8)→(v:Value)→(x:List UInt8)→getL z (putL F s v) x=if x=s then v else getL z F x
 | [],s,v,x=>by
  simp only [putL,getL,beq_iff_eq]
  by_cases h:x=s
  ·subst h;simp
  ·rw [if_neg h,if_neg (fun e=>h e.symm)]
 | p::r,s,v,x=>by
  simp only [putL]
  by_cases hp:p.1=s
  ·rw [if_pos (by simpa using hp)]
   simp only [getL,beq_iff_eq]
   by_cases h:x=s
   ·subst h;simp
   ·rw [if_neg h,if_neg (fun e=>h e.symm),if_neg (fun e=>h (e.symm.trans hp))]
  ·rw [if_neg (by simpa using hp)]
   simp only [getL,beq_iff_eq]
   by_cases h:p.1=x
   ·rw [if_pos h,if_pos h,if_neg]
    rintro rfl
    exact hp h
   ·rw [if_neg h,if_neg h,getL_put z r s v x]
def NameMap (W:World) (bm n:Nat) (z:Value) (F:List (List UInt8×Value)):Prop :=
 ∃ D:DataW Value,W.ownsMap Tryz.prog 9 heldR bm n D∧∀ s:List UInt8,D.atKey (.string s) (.held z)=.held (getL z F s)
theorem NameMap.mods {S:Nat→Prop} {W W':World} {bm n:Nat} {z:Value} {F:List (List UInt8×Value)} (h:NameMap W bm n z F) (hm:Mods S W W') (hn:¬ S bm):NameMap W' bm n z F:=by
 obtain ⟨D,⟨es,cl,h1,h2⟩,h3⟩:=h
 exact ⟨D,⟨es,cl,hm.blockOf h1 hn,h2⟩,h3⟩
theorem NameMap.lt {W:World} {bm n:Nat} {z:Value} {F:List (List UInt8×Value)} (h:NameMap W bm n z F):bm<W.heap.size:=by
 obtain ⟨D,h1,_⟩:=h
 exact h1.lt
theorem NameMap.new (W:World) (z:Value):NameMap (W.alloc (.map #[] 0)) W.heap.size 0 z [] :=
 ⟨_,World.ownsMap_made _ _ _ _,fun s=>rfl⟩
theorem NameMap.look {W:World} {bm n:Nat} {z:Value} {F:List (List UInt8×Value)} (h:NameMap W bm n z F) {t e:TypeId} (ht:Tryz.prog.underlying t=some (.map 9 e)) (hz:(zeroValue e).run Tryz.prog W=.ok z W) (s:List UInt8) (hs:s.length≤10000000) :
  (Instr.lookup t (.map (some bm)) (str s) false).run Tryz.prog W=.ok (getL z F s) W:=by
 obtain ⟨D,h1,h2⟩:=h
 obtain ⟨v,ps,hr,hv⟩:=h1.lookup strKeys ht hz (zd:=.held z) (zp:=[]) rfl (keyStr hs)
 rw [h2 s] at hv
 simp only [heldR,Option.some.injEq,Prod.mk.injEq,DataW.held.injEq] at hv
 rw [hr,hv.1]
theorem NameMap.put {W:World} {bm n:Nat} {z:Value} {F:List (List UInt8×Value)} (h:NameMap W bm n z F) {t e:TypeId} (ht:Tryz.prog.underlying t=some (.map 9 e)) (s:List UInt8) (hs:s.length≤10000000) (v:Value) (hn:n<maxLen) :
  ∃ w',(Instr.mapUpdate t (.map (some bm)) (str s) v).run Tryz.prog W=.ok () w'∧NameMap w' bm (n+1) z (putL F s v)∧Mods (·=bm) W w':=by
 obtain ⟨D,h1,h2⟩:=h
 obtain ⟨w',hr,ho,hg⟩:=h1.update strKeys ht hn (keyStr hs) (d:=.held v) (ps:=[]) rfl
 refine ⟨w',hr,⟨_,ho,fun x=>?_⟩,Mods.of_grownBy hg (fun k hk _=>by cases hk;rfl)⟩
 rw [getL_put]
 by_cases hx:x=s
 ·subst hx
  rw [if_pos rfl,atKey_put_same (k:=.string x) h1.isMap (by trivial)]
 ·rw [if_neg hx,atKey_put_other (by simpa using hx),h2 x]
end Go.Proofs.YtdgedlhefjmcpaaGreatDoor.TreeP

/- Calls and whole programs: their steps tell what they tell. No program in sight. No conditions. What the checker finds nothing of has names that are seen, places of their types; how many steps lower makes. No program in sight. No conditions. -/
import Derived.Test.YtnicpmoanjddbaaGreatDoorMs34
import Derived.Test.YtnicpmoanjddbaaGreatDoorMs32
namespace Go.Proofs.YtnicpmoanjddbaaGreatDoor.MidP.Sm
open Go.RowKit Go.Proofs.YtnicpmoanjddbaaGreatDoor.TreeP Go.Proofs.YtnicpmoanjddbaaGreatDoor.MidP
set_option linter.unusedVariables false
set_option linter.unusedSimpArgs false
theorem pars_rel:(l:List (List UInt8×Int))→(w:Lw)→(l.map (·.1)).Nodup→(∀ x,x ∉ l.map (·.1)→getN (parsL l w).names x=getN w.names x)∧(∀ (i:Nat) (p:List UInt8×Int),l[i]?=some p→getN (parsL l w).names p.1=((w.types.length+i:Nat):Int))∧(parsL l w).types=w.types++l.map (·.2)∧(parsL l w).steps=w.steps∧(parsL l w).labels=w.labels
 | [],w,_=>⟨fun x _=>rfl,fun i p h=>by simp at h,by simp [parsL],rfl,rfl⟩
 | a::l,w,h=>by
   simp only [List.map_cons,List.nodup_cons] at h
   obtain ⟨h1,h2,h3,h4,h5⟩:=pars_rel l { w with types:=w.types++[a.2],names:=putN w.names a.1 (w.types.length:Int) } h.2
   simp only [parsL]
   refine ⟨fun x hx=>?_,fun i p hp=>?_,by rw [h3];simp,h4,h5⟩
   · simp only [List.map_cons,List.mem_cons,not_or] at hx
     rw [h1 x hx.2,getN_put,if_neg hx.1]
   · cases i with
     | zero =>
       obtain rfl:a=p:=by simpa using hp
       rw [h1 a.1 h.1,getN_put,if_pos rfl]
       rfl
     | succ i =>
       rw [h2 i p (by simpa using hp)]
       simp only [List.length_append,List.length_singleton]
       omega
theorem bind_rel:(l:List (List UInt8×Int))→(vs:List V)→(F:Fr)→(l.map (·.1)).Nodup→vs.length=l.length→(∀ x,x ∉ l.map (·.1)→(bindParams F l vs).get x=F.get x)∧(∀ (i:Nat) (p:List UInt8×Int),l[i]?=some p→(bindParams F l vs).get p.1=vs.getD i ⟨0,none⟩)
 | [],vs,F,_,hl=>⟨fun x _=>by simp [bindParams],fun i p h=>by simp at h⟩
 | a::l,[],F,_,hl=>by simp at hl
 | a::l,b::vs,F,h,hl=>by
   simp only [List.map_cons,List.nodup_cons] at h
   obtain ⟨h1,h2⟩:=bind_rel l vs (F.put a.1 b) h.2 (by simpa using hl)
   simp only [bindParams]
   refine ⟨fun x hx=>?_,fun i p hp=>?_⟩
   · simp only [List.map_cons,List.mem_cons,not_or] at hx
     rw [h1 x hx.2,fr_get_put,if_neg hx.1]
   · cases i with
     | zero =>
       obtain rfl:a=p:=by simpa using hp
       rw [h1 a.1 h.1,fr_get_put,if_pos rfl]
       rfl
     | succ i =>
       rw [h2 i p (by simpa using hp)]
       simp
structure SeenF (Lt:List TreeP.Fn) (C:Nat) (fn:TreeP.Fn):Prop where
 once:(fn.params.map (·.1)).Nodup
 body:SeenSs Lt (fn.params.map (·.1)) fn.body
 cost:8*stsN fn.body+8≤C
theorem head_eq (fn:TreeP.Fn):headL fn={ (toL 1 { stp0 with code:=1 } (parsL fn.params w00)).2 with none:=((parsL fn.params w00).types.length:Int) }:=rfl
theorem head_labs (fn:TreeP.Fn) (h:(fn.params.map (·.1)).Nodup):labs (headL fn).steps=[]:=by
 obtain ⟨-,-,-,h4,-⟩:=pars_rel fn.params w00 h
 rw [head_eq]
 simp only [toL,h4]
 rfl
theorem low_labU (fn:TreeP.Fn) (h:(fn.params.map (·.1)).Nodup):LabU (lowL fn).steps:=by
 refine labU_of _ ?_
 obtain ⟨d,h1,h2,h3,h4⟩:=block_new fn.body (headL fn)
 simp only [lowL,addL]
 rw [h1,labs_append,labs_append,head_labs fn h,labs_one,if_neg (by simp)]
 simpa using h4
theorem fm_get {Lt:List TreeP.Fn} {g:List UInt8} {fn:TreeP.Fn} (h:fnOf Lt g=some fn):fmGet (lowP Lt) g=lowF fn:=by
 have key:∀ l:List TreeP.Fn,(lowP l).find? (fun f=>f.name==g)=(l.find? (fun f=>f.name==g)).map lowF:=by
  intro l
  induction l with
  | nil=>rfl
  | cons a r ih =>
    show ((lowF a)::lowP r).find? _=_
    simp only [List.find?_cons]
    show (match a.name==g with|true=>_|false=>_)=_
    cases a.name==g with
    | true=>rfl
    | false=>exact ih
 have:=key Lt
 unfold fmGet fmOf
 rw [this]
 unfold fnOf at h
 rw [h]
 rfl
theorem fill_get {vs:List V} {n:Nat} (h:vs.length≤n) (i:Nat) (hi:i<vs.length):(fillP vs n).get (i:Int)=vs.getD i ⟨0,none⟩:=by
 simp only [fillP,Pl.get,Int.toNat_natCast,List.take_of_length_le h,List.getD_eq_getElem?_getD,List.getElem?_append_left hi]
theorem fill_zero {vs:List V} {n:Nat} (h:vs.length≤n) (i:Nat) (hi:vs.length≤i):(fillP vs n).get (i:Int)=⟨0,none⟩:=by
 simp only [fillP,Pl.get,Int.toNat_natCast,List.take_of_length_le h,List.getD_eq_getElem?_getD,List.getElem?_append_right hi,List.getElem?_replicate]
 split <;> rfl
theorem fill_len {vs:List V} {n:Nat} (h:vs.length≤n):(fillP vs n).length=n:=by
 simp only [fillP,List.take_of_length_le h,List.length_append,List.length_replicate];omega
theorem head_rel {Lt:List TreeP.Fn} {C:Nat} {fn:TreeP.Fn} (h:SeenF Lt C fn) {vs:List V} (hv:vs.length=fn.params.length) {n:Nat} (hn:vs.length<n):Rel (headL fn) (fn.params.map (·.1)) (bindParams [] fn.params vs) (fillP vs n)∧(headL fn).steps=[{ stp0 with code:=1,dst:=(fn.params.length:Int) }]∧(headL fn).types.length=fn.params.length+1:=by
 obtain ⟨h1,h2,h3,h4,h5⟩:=pars_rel fn.params w00 h.once
 obtain ⟨b1,b2⟩:=bind_rel fn.params vs [] h.once hv
 have hl:(parsL fn.params w00).types.length=fn.params.length:=by rw [h3];simp [w00]
 have hna:(headL fn).names=(parsL fn.params w00).names:=rfl
 have hno:(headL fn).none=(fn.params.length:Int):=by rw [head_eq];simp only [hl]
 have hat:∀ x∈fn.params.map (·.1),∃ (i:Nat) (p:List UInt8×Int),fn.params[i]?=some p∧p.1=x∧i<fn.params.length:=by
  intro x hx
  obtain ⟨p,hp,rfl⟩:=List.mem_map.1 hx
  obtain ⟨i,hi,he⟩:=List.getElem_of_mem hp
  exact ⟨i,p,by rw [List.getElem?_eq_getElem hi,he],rfl,hi⟩
 have htl:(headL fn).types.length=fn.params.length+1:=by rw [head_eq];simp [toL,hl]
 refine ⟨⟨fun x hx=>?_,?_,fun x hx y hy he=>?_,fun x hx he=>?_⟩,?_,htl⟩
 · obtain ⟨i,p,hp,rfl,hi⟩:=hat x hx
   refine ⟨i,by rw [hna,h2 i p hp];simp [w00],by rw [htl];omega,?_⟩
   rw [fill_get (by omega) i (by omega),b2 i p hp]
 · exact ⟨fn.params.length,hno,by rw [htl];omega,fill_zero (by omega) _ (by omega)⟩
 · obtain ⟨i,p,hp,rfl,hi⟩:=hat x hx
   obtain ⟨j,q,hq,rfl,hj⟩:=hat y hy
   rw [hna,h2 i p hp,h2 j q hq] at he
   have:i=j:=by omega
   subst this
   rw [hp] at hq
   cases hq
   rfl
 · obtain ⟨i,p,hp,rfl,hi⟩:=hat x hx
   rw [hna,h2 i p hp,hno] at he
   simp only [w00,List.length_nil] at he
   omega
 · rw [head_eq]
   simp only [toL,hl,h4]
   rfl
theorem call_sim {Lt:List TreeP.Fn} {C:Nat} (hS:∀ fn∈Lt,SeenF Lt C fn):(f:Nat)→CallH Lt C f:=by
 intro f
 induction f using Nat.strongRecOn with
 | _ f ih =>
   intro g vs s r k ⟨fn,hg,hv⟩ hr hk
   cases f with
   | zero=>simp only [callR] at hr;cases hr
   | succ f =>
     simp only [callR] at hr
     have hF:=hS fn (List.mem_of_find?_eq_some hg)
     have hgf:fnGet Lt g=fn:=by unfold fnGet;rw [hg];rfl
     have hm:=fm_get hg
     rw [hgf] at hr
     by_cases h40:s.calls=40
     · rw [if_pos h40] at hr
       simp only [stopR,Option.some.injEq] at hr
       subst hr
       exact Or.inr ⟨⟨5,rfl⟩,k,call_full (s:=wf s k) h40⟩
     rw [if_neg h40] at hr
     have h40':(wf s k).calls≠40:=h40
     obtain ⟨F,hFe⟩:∃ F,lowF fn=F:=⟨_,rfl⟩
     have hst:F.steps=(lowL fn).steps:=by rw [← hFe];rfl
     have hty:F.types=(lowL fn).types:=by rw [← hFe];rfl
     have hU:LabU F.steps:=by rw [hst];exact low_labU fn hF.once
     have htp:(headL fn).types.length≤F.types.length:=by rw [hty];exact block_tp fn.body (headL fn)
     have hhl:(headL fn).types.length=fn.params.length+1:=(head_rel hF hv (n:=fn.params.length+1) (by omega)).2.2
     obtain ⟨hrel,hhs,-⟩:=head_rel hF hv (n:=F.types.length) (by omega)
     have hlen:(fillP vs F.types.length).length=F.types.length:=fill_len (by omega)
     have hin:In (addL { stp0 with code:=8,a:=(blockL fn.body (headL fn)).none } (blockL fn.body (headL fn))) F (fillP vs F.types.length):=⟨by rw [hst];exact List.prefix_refl _,by rw [hlen,hty];exact Nat.le_refl _⟩
     have hib:In (blockL fn.body (headL fn)) F (fillP vs F.types.length):=hin.addl
     have hih:=hib.less (block_new fn.body (headL fn)).pre (block_tp fn.body (headL fn))
     have hat0:F.steps[0]?=some { stp0 with code:=1,dst:=(fn.params.length:Int) }:=by
       obtain ⟨d,hd⟩:=hih.steps
       rw [← hd,hhs]
       rfl
     have hat1:=add_at hin
     obtain ⟨k1,rfl⟩:∃ k1,k=k1+1:=⟨k-1,by omega⟩
     have hput:(fillP vs F.types.length).put (fn.params.length:Int) (numV 0)=fillP vs F.types.length:=by
       refine List.ext_getElem? (fun i=>?_)
       simp only [Pl.put,Int.toNat_natCast,List.getElem?_set]
       split
       · rename_i hi
         subst hi
         split
         · have hz:=fill_zero (vs:=vs) (n:=F.types.length) (by omega) fn.params.length (by omega)
           simp only [Pl.get,Int.toNat_natCast,List.getD_eq_getElem?_getD] at hz
           rename_i hl
           rw [List.getElem?_eq_getElem hl] at hz ⊢
           simp only [Option.getD_some] at hz
           rw [hz]
           rfl
         · rename_i hl
           rw [List.getElem?_eq_none (by omega)]
       · rfl
     have a0:Reach (lowP Lt) F 0 (fillP vs F.types.length) (wf { s with calls:=s.calls+1 } (k1+1)) 1 (fillP vs F.types.length) (wf { s with calls:=s.calls+1 } k1) :=
       reach_step (L:=lowP Lt) (F:=F) (v:=fillP vs F.types.length) (s:=wf { s with calls:=s.calls+1 } (k1+1)) hat0 (by simp) (by simp [wf]) (by simp only [stepM,less_wf];simp only [if_true,okR];rw [show stp0.n=0 from rfl,hput])
     have hb:=simb_any (Lt:=Lt) (C:=C) (F:=F) fn.body f (fun j hj x hx=>sims_any hU j (fun i hi=>ih i (by omega)) x (by
       have key:∀ (l:List St) (y:St),y∈l→stN y≤stsN l:=by
        intro l
        induction l with
        | nil=>intro y hy;cases hy
        | cons b r ihl =>
          intro y hy
          simp only [stsN]
          rcases List.mem_cons.1 hy with rfl|hy
          · omega
          · have:=ihl y hy;omega
       have:=key fn.body x hx
       have:=hF.cost
       omega))
     cases hy:blockR Lt f { s with calls:=s.calls+1 } (bindParams [] fn.params vs) fn.body with
     | none=>rw [hy] at hr;cases hr
     | some z =>
       rw [hy] at hr
       have h1:=hb (fn.params.map (·.1)) (headL fn) (bindParams [] fn.params vs) (fillP vs F.types.length) { s with calls:=s.calls+1 } z k1 hy hF.body hib hrel (by show C*s.fuel≤k1;omega)
       have hl1:(headL fn).steps.length=1:=by rw [hhs];rfl
       have hgo:∀ (x:Except Sig Int) (t:RS),Ends (lowP Lt) F 1 (fillP vs F.types.length) (wf { s with calls:=s.calls+1 } k1) (x,t)→Ends (lowP Lt) (fmGet (lowP Lt) g) 0 (fillP vs (fmGet (lowP Lt) g).types.length) { wf s (k1+1) with calls:=(wf s (k1+1)).calls+1 } (x,t):=by
        intro x t hx
        rw [hm,hFe]
        exact a0.ends hx
       obtain ⟨z,t⟩:=z
       cases z with
       | ok G =>
         simp only [okR,Option.some.injEq] at hr
         subst hr
         obtain ⟨v1,k2,g1,g2,g3,g4⟩:=h1
         rw [hl1] at g1
         simp only at g2
         obtain ⟨k3,rfl⟩:∃ k3,k2=k3+1:=⟨k2-1,by omega⟩
         have a2:=ends_ret (L:=lowP Lt) (F:=F) (v:=v1) (s:=wf t (k3+1)) hat1 rfl (by simp [wf])
         obtain ⟨p,m1,m2,m3⟩:=g3.none
         simp only [m1,m3] at a2
         exact ⟨k3,call_ok (s:=wf s (k1+1)) h40' (hgo _ _ (g1.ends a2)),by show k1+1+C*t.fuel≤k3+C*s.fuel+3;omega⟩
       | error e =>
         cases e with
         | ret n =>
           simp only [okR,Option.some.injEq] at hr
           subst hr
           obtain ⟨k2,g1,g2⟩:=h1
           rw [hl1] at g1
           simp only at g2
           exact ⟨k2,call_ok (s:=wf s (k1+1)) h40' (hgo _ _ g1),by show k1+1+C*t.fuel≤k2+C*s.fuel+3;omega⟩
         | stop wy =>
           simp only [stopR,Option.some.injEq] at hr
           subst hr
           rcases h1 with h1|⟨k2,h1⟩
           · exact Or.inl (by rw [h1])
           · rw [hl1] at h1
             exact Or.inr ⟨⟨wy,rfl⟩,k2,call_stop (s:=wf s (k1+1)) h40' (hgo _ _ h1)⟩
theorem run_sim {Lt:List TreeP.Fn} {C:Nat} (hS:∀ fn∈Lt,SeenF Lt C fn) {fn:TreeP.Fn} (hm:fnOf Lt [109,97,105,110]=some fn) (hp:fn.params=[]) {f fuel big:Nat} {given:List Int} {r:Int×Int×List Int} (hbig:C*fuel+3≤big) (h:runR Lt f given fuel=some r) (h6:r.1≠6):Soon (fun n=>runM (lowP Lt) n given big) r:=by
 have hc:=call_sim hS f [109,97,105,110] [] ⟨given,fuel,0,[],[]⟩
 unfold runR at h
 cases hy:callR Lt f ⟨given,fuel,0,[],[]⟩ [109,97,105,110] [] with
 | none=>rw [hy] at h;cases h
 | some z =>
   rw [hy] at h
   have h1:=hc z big ⟨fn,hm,by rw [hp];rfl⟩ hy hbig
   obtain ⟨z,t⟩:=z
   cases z with
   | ok n =>
     simp only [Option.some.injEq] at h
     subst h
     obtain ⟨k',⟨n0,g1⟩,g2⟩:=h1
     refine ⟨n0,fun m hm=>?_⟩
     have:=g1 m hm
     simp only [wf] at this
     simp only [runM,this]
   | error e =>
     rcases h1 with h1|⟨⟨wy,h1⟩,k',⟨n0,g1⟩⟩
     · subst h1
       simp only [Option.some.injEq] at h
       subst h
       exact (h6 rfl).elim
     · subst h1
       simp only [Option.some.injEq] at h
       subst h
       refine ⟨n0,fun m hm=>?_⟩
       have:=g1 m hm
       simp only [wf] at this
       simp only [runM,this]
theorem bk {α β:Type} {x:CK α} {f:α→CK β} {y:β} (h:bindK x f=.ok y):∃ a,x=.ok a∧f a=.ok y:=by
 cases x with
 | ok a=>exact ⟨a,rfl,h⟩
 | error e=>simp [bindK] at h
theorem want_ok {e:Ex} {k t:Int} {u:Unit} (h:wantT e k t=.ok u):t=k:=by
 unfold wantT at h
 split at h
 · assumption
 · cases h
theorem wantK_ok {L:List TreeP.Fn} {N:Nm} {e:Ex} {k:Int} {u:Unit} (h:wantK L N e k=.ok u):exprK L N e=.ok k:=by
 unfold wantK at h
 obtain ⟨t,h1,h2⟩:=bk h
 rw [h1,want_ok h2]
/-! How much there is. -/
theorem cnts_cons (e:Ex) (r:List Ex):cnt e+cnts r≤cnts (e::r):=by
 cases r with
 | nil=>simp [cnts]
 | cons a r=>simp only [cnts];omega
mutual
theorem exN_cnt:(e:Ex)→exN e≤cnt e
 | .num _ _=>Nat.le_refl _
 | .var _ _=>Nat.le_refl _
 | .un _ _ x=>by have:=exN_cnt x;simp only [exN,cnt];omega
 | .bin _ _ l r=>by have:=exN_cnt l;have:=exN_cnt r;simp only [exN,cnt];omega
 | .call _ _ l=>by have:=exsN_cnt l;simp only [exN,cnt];omega
 | .new _ x=>by have:=exN_cnt x;simp only [exN,cnt];omega
 | .len _ x=>by have:=exN_cnt x;simp only [exN,cnt];omega
 | .item _ x i=>by have:=exN_cnt x;have:=exN_cnt i;simp only [exN,cnt];omega
 | .input _=>by simp [exN,cnt]
theorem exsN_cnt:(l:List Ex)→exsN l≤cnts l
 | []=>Nat.le_refl _
 | e::r=>by
   have:=exN_cnt e
   have:=exsN_cnt r
   have:=cnts_cons e r
   simp only [exsN]
   omega
end
mutual
theorem stN_cnt:(s:St)→stN s≤cntS s
 | .var _ _ v=>by have:=exN_cnt v;simp only [stN,cntS];omega
 | .set _ _ v=>by have:=exN_cnt v;simp only [stN,cntS];omega
 | .put _ _ i v=>by have:=exN_cnt i;have:=exN_cnt v;simp only [stN,cntS];omega
 | .cond _ v t e=>by
   have:=exN_cnt v
   have:=stsN_cnt t
   have:=stsN_cnt e
   simp only [stN,cntS]
   split
   · rename_i h
     cases e with
     | nil=>simp only [stsN];omega
     | cons a r=>simp at h
   · omega
 | .loop _ v t=>by have:=exN_cnt v;have:=stsN_cnt t;simp only [stN,cntS];omega
 | .ret _ v=>by have:=exN_cnt v;simp only [stN,cntS];omega
 | .print _ v=>by have:=exN_cnt v;simp only [stN,cntS];omega
 | .call _ v=>by have:=exN_cnt v;simp only [stN,cntS];omega
theorem stsN_cnt:(l:List St)→stsN l≤cntSs l
 | []=>Nat.le_refl _
 | s::r=>by have:=stN_cnt s;have:=stsN_cnt r;simp only [stsN,cntSs];omega
end
theorem short_many (op:List UInt8) (a:Int) (w:Lw):(shortA op a w).2.2.steps.length≤w.steps.length+2∧(shortA op a w).2.2.types.length≤w.types.length+2:=by
 unfold shortA
 split <;> simp [zeroL,toL] <;> omega
mutual
theorem expr_many:(e:Ex)→(w:Lw)→(exprL e w).2.steps.length+2≤w.steps.length+3*exN e∧(exprL e w).2.types.length+1≤w.types.length+2*exN e
 | .num _ _,w=>by simp [exprL,toL,exN]
 | .var _ _,w=>by simp [exprL,exN]
 | .un _ op x,w=>by
   have h:=expr_many x w
   simp only [exprL,exN]
   split
   · simp only [zeroL,toL,List.length_append,List.length_singleton];omega
   · simp only [toL,List.length_append,List.length_singleton];omega
 | .bin _ op l r,w=>by
   simp only [exprL,exN]
   split
   · generalize hw0:(labelL w).2=w0
     have e0:w0.steps.length=w.steps.length∧w0.types.length=w.types.length:=by rw [← hw0];exact ⟨rfl,rfl⟩
     have h1:=expr_many l w0
     have h2:=short_many op (exprL l w0).1 (exprL l w0).2
     generalize shortA op (exprL l w0).1 (exprL l w0).2=s at h2 ⊢
     generalize hw1:addL { stp0 with code:=5,a:=s.2.1,label:=((labelL w).1:Int) } s.2.2=w1
     have e1:w1.steps.length=s.2.2.steps.length+1∧w1.types.length=s.2.2.types.length:=by rw [← hw1];simp [addL]
     have h3:=expr_many r w1
     simp only [addL,List.length_append,List.length_singleton]
     omega
   · have h1:=expr_many l w
     have h2:=expr_many r (exprL l w).2
     simp only [toL,List.length_append,List.length_singleton];omega
 | .call _ _ l,w=>by
   have h:=args_many l w
   simp only [exprL,exN,toL,List.length_append,List.length_singleton];omega
 | .new _ x,w=>by have h:=expr_many x w;simp only [exprL,exN,toL,List.length_append,List.length_singleton];omega
 | .len _ x,w=>by have h:=expr_many x w;simp only [exprL,exN,toL,List.length_append,List.length_singleton];omega
 | .item _ x i,w=>by
   have h:=expr_many x w
   have h2:=expr_many i (exprL x w).2
   simp only [exprL,exN,toL,List.length_append,List.length_singleton];omega
 | .input _,w=>by simp [exprL,toL,exN]
theorem args_many:(l:List Ex)→(w:Lw)→(argsL l w).2.steps.length≤w.steps.length+3*exsN l∧(argsL l w).2.types.length≤w.types.length+2*exsN l
 | [],w=>by simp [argsL,exsN]
 | e::r,w=>by
   have h:=expr_many e w
   have h2:=args_many r (exprL e w).2
   simp only [argsL,exsN];omega
end
mutual
theorem stmt_many:(s:St)→(w:Lw)→(stmtL s w).steps.length≤w.steps.length+3*stN s∧(stmtL s w).types.length≤w.types.length+2*stN s
 | .var _ x v,w=>by have h:=expr_many v w;simp only [stmtL,stN,addL,nameL,List.length_append,List.length_singleton];omega
 | .set _ x v,w=>by have h:=expr_many v w;simp only [stmtL,stN,addL,List.length_append,List.length_singleton];omega
 | .put _ x i v,w=>by
   have h:=expr_many i w
   have h2:=expr_many v (exprL i w).2
   simp only [stmtL,stN,addL,List.length_append,List.length_singleton];omega
 | .cond _ v t e,w=>by
   simp only [stmtL,stN]
   generalize hw0:(labelL (labelL w).2).2=w0
   have e0:w0.steps.length=w.steps.length∧w0.types.length=w.types.length:=by rw [← hw0];exact ⟨rfl,rfl⟩
   have h1:=expr_many v w0
   generalize hw1:addL { stp0 with code:=5,a:=(exprL v w0).1,label:=((labelL w).1:Int) } (exprL v w0).2=w1
   have e1:w1.steps.length=(exprL v w0).2.steps.length+1∧w1.types.length=(exprL v w0).2.types.length:=by rw [← hw1];simp [addL]
   have h2:=block_many t w1
   generalize hw2:addL { stp0 with code:=6,label:=((labelL w).1:Int) } (addL { stp0 with code:=4,label:=((labelL (labelL w).2).1:Int) } (blockL t w1))=w2
   have e2:w2.steps.length=(blockL t w1).steps.length+2∧w2.types.length=(blockL t w1).types.length:=by rw [← hw2];simp [addL]
   have h3:=block_many e w2
   simp only [addL,List.length_append,List.length_singleton]
   omega
 | .loop _ v t,w=>by
   simp only [stmtL,stN]
   generalize hw0:addL { stp0 with code:=6,label:=((labelL w).1:Int) } (labelL (labelL w).2).2=w0
   have e0:w0.steps.length=w.steps.length+1∧w0.types.length=w.types.length:=by rw [← hw0];simp [addL,labelL]
   have h1:=expr_many v w0
   generalize hw1:addL { stp0 with code:=5,a:=(exprL v w0).1,label:=((labelL (labelL w).2).1:Int) } (exprL v w0).2=w1
   have e1:w1.steps.length=(exprL v w0).2.steps.length+1∧w1.types.length=(exprL v w0).2.types.length:=by rw [← hw1];simp [addL]
   have h2:=block_many t w1
   simp only [addL,List.length_append,List.length_singleton]
   omega
 | .ret _ v,w=>by have h:=expr_many v w;simp only [stmtL,stN,addL,List.length_append,List.length_singleton];omega
 | .print _ v,w=>by have h:=expr_many v w;simp only [stmtL,stN,addL,List.length_append,List.length_singleton];omega
 | .call _ v,w=>by have h:=expr_many v w;simp only [stmtL,stN];omega
theorem block_many:(l:List St)→(w:Lw)→(blockL l w).steps.length≤w.steps.length+3*stsN l∧(blockL l w).types.length≤w.types.length+2*stsN l
 | [],w=>by simp [blockL,stsN]
 | s::r,w=>by
   have h:=stmt_many s w
   have h2:=block_many r (stmtL s w)
   simp only [blockL,stsN];omega
end
/-! Names and their types. -/
def TyN (N:Nm):Prop:=∀ p∈N,p.2=1∨p.2=2
theorem findN_one {N:Nm} (h:TyN N) (x:List UInt8):findN N x=0∨findN N x=1∨findN N x=2:=by
 unfold findN
 cases hf:N.find? (fun p=>p.1==x) with
 | none=>exact Or.inl rfl
 | some p=>exact Or.inr (h p (List.mem_of_find?_eq_some hf))
theorem findN_snoc {N:Nm} (h:TyN N) (s:List UInt8) (t:Int) (x:List UInt8):findN (N++[(s,t)]) x=if findN N x≠0 then findN N x else if x=s then t else 0:=by
 unfold findN
 rw [List.find?_append]
 cases hf:N.find? (fun p=>p.1==x) with
 | none =>
   simp only [Option.none_or,List.find?_cons,List.find?_nil]
   by_cases hx:x=s
   · subst hx;simp
   · have:(s==x)=false:=by simpa using fun e=>hx e.symm
     simp [this,hx]
 | some p =>
   have:=h p (List.mem_of_find?_eq_some hf)
   simp only [Option.some_or]
   rw [if_pos (by omega)]
def ExtN (N N':Nm):Prop:=∀ x,findN N x≠0→findN N' x=findN N x
theorem ExtN.refl (N:Nm):ExtN N N:=fun _ _=>rfl
theorem ExtN.trans {N M K:Nm} (h:ExtN N M) (k:ExtN M K):ExtN N K:=fun x hx=>by
 have h1:=h x hx
 rw [k x (by rw [h1];exact hx),h1]
theorem addN_is {N N':Nm} {m m':Nat} {p:List UInt8×Int} {a:Int} (h:addN N m p a=.ok (N',m')):findN N p.1=0∧N'=N++[p]:=by
 unfold addN at h
 split at h
 · cases h
 · rename_i h1
   split at h
   · cases h
   · simp only [Except.ok.injEq,Prod.mk.injEq] at h
     exact ⟨by omega,h.1.symm⟩
mutual
theorem exprK_ty {L:List TreeP.Fn} {N:Nm} (hN:TyN N):(e:Ex)→{t:Int}→exprK L N e=.ok t→t=1∨t=2
 | .num _ _,t,h=>by simp only [exprK,Except.ok.injEq] at h;omega
 | .var _ x,t,h=>by
   simp only [exprK] at h
   split at h
   · cases h
   · have:=findN_one hN x
     simp only [Except.ok.injEq] at h
     omega
 | .bin _ _ l r,t,h=>by
   simp only [exprK] at h
   obtain ⟨_,_,h⟩:=bk h
   obtain ⟨_,_,h⟩:=bk h
   obtain ⟨_,_,h⟩:=bk h
   obtain ⟨_,_,h⟩:=bk h
   simp only [Except.ok.injEq] at h;omega
 | .un _ _ x,t,h=>by
   simp only [exprK] at h
   obtain ⟨_,_,h⟩:=bk h
   obtain ⟨_,_,h⟩:=bk h
   simp only [Except.ok.injEq] at h;omega
 | .call _ g l,t,h=>by
   simp only [exprK] at h
   split at h
   · cases h
   · split at h
     · obtain ⟨_,_,h⟩:=bk h
       simp only [Except.ok.injEq] at h;omega
     · cases h
 | .new _ x,t,h=>by
   simp only [exprK] at h
   obtain ⟨_,_,h⟩:=bk h
   obtain ⟨_,_,h⟩:=bk h
   simp only [Except.ok.injEq] at h;omega
 | .len _ x,t,h=>by
   simp only [exprK] at h
   obtain ⟨_,_,h⟩:=bk h
   obtain ⟨_,_,h⟩:=bk h
   simp only [Except.ok.injEq] at h;omega
 | .item _ x i,t,h=>by
   simp only [exprK] at h
   obtain ⟨_,_,h⟩:=bk h
   obtain ⟨_,_,h⟩:=bk h
   obtain ⟨_,_,h⟩:=bk h
   obtain ⟨_,_,h⟩:=bk h
   simp only [Except.ok.injEq] at h;omega
 | .input _,t,h=>by simp only [exprK,Except.ok.injEq] at h;omega
end
theorem op_in {op:List UInt8} (h:∃ k,k<6∧op∈levelList.getD k []):op∈opList∨op=[38,38]∨op=[124,124]:=by
 have key:∀ k,k<6→∀ o∈levelList.getD k [],o∈opList∨o=[38,38]∨o=[124,124]:=by decide
 obtain ⟨k,hk,h⟩:=h
 exact key k hk op h
theorem fit_or {c:Prop} [Decidable c] {e:Ex} {d:Nat} (h:if c then d≤12∧Fit e (d+1) else Fit e d):∃ d',Fit e d':=by
 split at h
 · exact ⟨_,h.2⟩
 · exact ⟨_,h⟩
mutual
theorem seen_of {L:List TreeP.Fn} {N:Nm} {Vis:List (List UInt8)} (hV:∀ x,findN N x≠0→x∈Vis):(e:Ex)→(d:Nat)→{t:Int}→Fit e d→exprK L N e=.ok t→SeenE L Vis e
 | .num _ _,d,t,hf,h=>by simp only [SeenE]
 | .var _ x,d,t,hf,h=>by
   simp only [exprK] at h
   simp only [SeenE]
   split at h
   · cases h
   · exact hV x (by assumption)
 | .bin _ op l r,d,t,hf,h=>by
   simp only [exprK] at h
   simp only [Fit] at hf
   obtain ⟨_,h1,h⟩:=bk h
   obtain ⟨_,_,h⟩:=bk h
   obtain ⟨_,h2,h⟩:=bk h
   obtain ⟨d1,f1⟩:=fit_or hf.2.1
   obtain ⟨d2,f2⟩:=fit_or hf.2.2
   simp only [SeenE]
   exact ⟨op_in hf.1,seen_of hV l d1 f1 h1,seen_of hV r d2 f2 h2⟩
 | .un _ op x,d,t,hf,h=>by
   simp only [exprK] at h
   simp only [Fit] at hf
   obtain ⟨_,h1,h⟩:=bk h
   obtain ⟨d1,f1⟩:∃ d',Fit x d':=by
    have:=hf.2.2
    split at this
    · exact ⟨_,this.2⟩
    · exact ⟨_,this⟩
   simp only [SeenE]
   exact ⟨hf.2.1.symm,seen_of hV x d1 f1 h1⟩
 | .call _ g l,d,t,hf,h=>by
   simp only [exprK] at h
   simp only [Fit] at hf
   simp only [SeenE]
   split at h
   · cases h
   · rename_i fn hfn
     split at h
     · rename_i hl
       obtain ⟨_,h1,h⟩:=bk h
       exact ⟨⟨fn,hfn,hl⟩,seens_of hV l _ (by rw [List.length_map];exact hl) hf.2.2 h1⟩
     · cases h
 | .new _ x,d,t,hf,h=>by
   simp only [exprK] at h
   simp only [Fit] at hf
   obtain ⟨_,h1,h⟩:=bk h
   simp only [SeenE]
   exact seen_of hV x _ hf.2 h1
 | .len _ x,d,t,hf,h=>by
   simp only [exprK] at h
   simp only [Fit] at hf
   obtain ⟨_,h1,h⟩:=bk h
   simp only [SeenE]
   exact seen_of hV x _ hf.2 h1
 | .item _ x i,d,t,hf,h=>by
   simp only [exprK] at h
   simp only [Fit] at hf
   obtain ⟨_,h1,h⟩:=bk h
   obtain ⟨_,_,h⟩:=bk h
   obtain ⟨_,h2,h⟩:=bk h
   obtain ⟨d1,f1⟩:∃ d',Fit x d':=by
    have:=hf.2.1
    split at this
    · exact ⟨_,this⟩
    · exact fit_or this
   simp only [SeenE]
   exact ⟨seen_of hV x d1 f1 h1,seen_of hV i _ hf.2.2 h2⟩
 | .input _,d,t,hf,h=>by simp only [SeenE]
theorem seens_of {L:List TreeP.Fn} {N:Nm} {Vis:List (List UInt8)} (hV:∀ x,findN N x≠0→x∈Vis):(l:List Ex)→(ks:List Int)→{d:Nat}→{u:Unit}→l.length=ks.length→Fits l d→argsK L N l ks=.ok u→SeenEs L Vis l
 | [],ks,d,u,hl,hf,h=>by simp only [SeenEs]
 | e::r,[],d,u,hl,hf,h=>by simp at hl
 | e::r,k::ks,d,u,hl,hf,h=>by
   simp only [argsK] at h
   simp only [Fits] at hf
   obtain ⟨_,h1,h⟩:=bk h
   obtain ⟨_,h2,h⟩:=bk h
   simp only [SeenEs]
   exact ⟨seen_of hV e d hf.1 h1,seens_of hV r ks (by simpa using hl) hf.2 h⟩
end
mutual
theorem seenS_of {L:List TreeP.Fn}:(x:St)→(d:Nat)→{N N':Nm}→{m m':Nat}→{Vis:List (List UInt8)}→FitS x d→stmtK L N m x=.ok (N',m')→TyN N→(∀ y,y∈Vis↔findN N y≠0)→SeenS L Vis x∧TyN N'∧(∀ y,y∈visS Vis x↔findN N' y≠0)∧ExtN N N'
 | .var _ s v,d,N,N',m,m',Vis,hf,h,hN,hV=>by
   simp only [stmtK] at h
   simp only [FitS] at hf
   obtain ⟨t,h1,h⟩:=bk h
   obtain ⟨h2,rfl⟩:=addN_is h
   have ht:=exprK_ty hN v h1
   simp only [SeenS,visS]
   refine ⟨⟨fun hs=>(hV s).1 hs h2,seen_of (fun x hx=>(hV x).2 hx) v 0 hf.2 h1⟩,fun p hp=>?_,fun y=>?_,fun x hx=>?_⟩
   · rw [List.mem_append,List.mem_singleton] at hp
     rcases hp with hp|rfl
     · exact hN p hp
     · exact ht
   · rw [findN_snoc hN,List.mem_cons,hV y]
     by_cases hy:findN N y≠0
     · rw [if_pos hy];simp [hy]
     · rw [if_neg hy]
       by_cases hys:y=s
       · rw [if_pos hys];simp only [hys,true_or,true_iff];omega
       · rw [if_neg hys];simp [hys];omega
   · rw [findN_snoc hN,if_pos hx]
 | .set _ s v,d,N,N',m,m',Vis,hf,h,hN,hV=>by
   simp only [stmtK] at h
   simp only [FitS] at hf
   split at h
   · cases h
   · rename_i h0
     obtain ⟨_,h1,h⟩:=bk h
     simp only [Except.ok.injEq,Prod.mk.injEq] at h
     obtain ⟨rfl,rfl⟩:=h
     simp only [SeenS,visS]
     exact ⟨⟨(hV s).2 h0,seen_of (fun x hx=>(hV x).2 hx) v 0 hf.2 (wantK_ok h1)⟩,hN,hV,ExtN.refl _⟩
 | .put _ s i v,d,N,N',m,m',Vis,hf,h,hN,hV=>by
   simp only [stmtK] at h
   simp only [FitS] at hf
   split at h
   · cases h
   · rename_i h0
     split at h
     · cases h
     · obtain ⟨_,h1,h⟩:=bk h
       obtain ⟨_,h2,h⟩:=bk h
       simp only [Except.ok.injEq,Prod.mk.injEq] at h
       obtain ⟨rfl,rfl⟩:=h
       simp only [SeenS,visS]
       exact ⟨⟨(hV s).2 h0,seen_of (fun x hx=>(hV x).2 hx) i 1 hf.2.1 (wantK_ok h1),seen_of (fun x hx=>(hV x).2 hx) v 0 hf.2.2 (wantK_ok h2)⟩,hN,hV,ExtN.refl _⟩
 | .cond _ v t e,d,N,N',m,m',Vis,hf,h,hN,hV=>by
   simp only [stmtK] at h
   simp only [FitS] at hf
   obtain ⟨_,h1,h⟩:=bk h
   obtain ⟨x,h2,h⟩:=bk h
   obtain ⟨y,h3,h⟩:=bk h
   simp only [Except.ok.injEq,Prod.mk.injEq] at h
   obtain ⟨rfl,rfl⟩:=h
   simp only [SeenS,visS]
   exact ⟨⟨seen_of (fun x hx=>(hV x).2 hx) v 1 hf.1 (wantK_ok h1),(seenSs_of t _ hf.2.2.1 h2 hN hV).1,(seenSs_of e _ hf.2.2.2 h3 hN hV).1⟩,hN,hV,ExtN.refl _⟩
 | .loop _ v t,d,N,N',m,m',Vis,hf,h,hN,hV=>by
   simp only [stmtK] at h
   simp only [FitS] at hf
   obtain ⟨_,h1,h⟩:=bk h
   obtain ⟨x,h2,h⟩:=bk h
   simp only [Except.ok.injEq,Prod.mk.injEq] at h
   obtain ⟨rfl,rfl⟩:=h
   simp only [SeenS,visS]
   exact ⟨⟨seen_of (fun x hx=>(hV x).2 hx) v 1 hf.1 (wantK_ok h1),(seenSs_of t _ hf.2.2 h2 hN hV).1⟩,hN,hV,ExtN.refl _⟩
 | .ret _ v,d,N,N',m,m',Vis,hf,h,hN,hV=>by
   simp only [stmtK] at h
   simp only [FitS] at hf
   obtain ⟨_,h1,h⟩:=bk h
   simp only [Except.ok.injEq,Prod.mk.injEq] at h
   obtain ⟨rfl,rfl⟩:=h
   simp only [SeenS,visS]
   exact ⟨seen_of (fun x hx=>(hV x).2 hx) v 0 hf (wantK_ok h1),hN,hV,ExtN.refl _⟩
 | .print _ v,d,N,N',m,m',Vis,hf,h,hN,hV=>by
   simp only [stmtK] at h
   simp only [FitS] at hf
   obtain ⟨_,h1,h⟩:=bk h
   simp only [Except.ok.injEq,Prod.mk.injEq] at h
   obtain ⟨rfl,rfl⟩:=h
   simp only [SeenS,visS]
   exact ⟨seen_of (fun x hx=>(hV x).2 hx) v 0 hf (wantK_ok h1),hN,hV,ExtN.refl _⟩
 | .call _ v,d,N,N',m,m',Vis,hf,h,hN,hV=>by
   simp only [stmtK] at h
   simp only [FitS] at hf
   obtain ⟨_,h1,h⟩:=bk h
   simp only [Except.ok.injEq,Prod.mk.injEq] at h
   obtain ⟨rfl,rfl⟩:=h
   simp only [SeenS,visS]
   exact ⟨seen_of (fun x hx=>(hV x).2 hx) v 0 hf.2 (wantK_ok h1),hN,hV,ExtN.refl _⟩
theorem seenSs_of {L:List TreeP.Fn}:(l:List St)→(d:Nat)→{N:Nm}→{y:Nm×Nat}→{m:Nat}→{Vis:List (List UInt8)}→FitSs l d→stmtsK L N m l=.ok y→TyN N→(∀ z,z∈Vis↔findN N z≠0)→SeenSs L Vis l∧TyN y.1∧ExtN N y.1
 | [],d,N,y,m,Vis,hf,h,hN,hV=>by
   simp only [stmtsK,Except.ok.injEq] at h
   subst h
   exact ⟨by simp only [SeenSs],hN,ExtN.refl _⟩
 | x::r,d,N,y,m,Vis,hf,h,hN,hV=>by
   simp only [stmtsK] at h
   simp only [FitSs] at hf
   obtain ⟨⟨N1,m1⟩,h1,h⟩:=bk h
   obtain ⟨a1,a2,a3,a4⟩:=seenS_of x d hf.1 h1 hN hV
   obtain ⟨b1,b2,b3⟩:=seenSs_of r d hf.2 h a2 a3
   refine ⟨?_,b2,a4.trans b3⟩
   simp only [SeenSs]
   refine ⟨a1,?_⟩
   cases x <;> exact b1
end
theorem params_is {a:Int}:(l:List (List UInt8×Int))→(N:Nm)→(m:Nat)→{N':Nm}→{m':Nat}→(∀ p∈l,p.2=1∨p.2=2)→TyN N→paramsK N m a l=.ok (N',m')→N'=N++l∧(l.map (·.1)).Nodup∧(∀ p∈l,findN N p.1=0)
 | [],N,m,N',m',hl,hN,h=>by
   simp only [paramsK,Except.ok.injEq,Prod.mk.injEq] at h
   exact ⟨by simp [h.1],by simp,fun p hp=>by cases hp⟩
 | p::r,N,m,N',m',hl,hN,h=>by
   simp only [paramsK] at h
   obtain ⟨⟨N1,m1⟩,h1,h⟩:=bk h
   obtain ⟨h2,rfl⟩:=addN_is h1
   have hN1:TyN (N++[p]):=fun q hq=>by
    rw [List.mem_append,List.mem_singleton] at hq
    rcases hq with hq|rfl
    · exact hN q hq
    · exact hl q List.mem_cons_self
   obtain ⟨a1,a2,a3⟩:=params_is r _ _ (fun q hq=>hl q (List.mem_cons_of_mem _ hq)) hN1 h
   have hp0:=hl p List.mem_cons_self
   refine ⟨by rw [a1];simp,?_,fun q hq=>?_⟩
   · rw [List.map_cons,List.nodup_cons]
     refine ⟨fun hm=>?_,a2⟩
     obtain ⟨q,hq,he⟩:=List.mem_map.1 hm
     have:=a3 q hq
     obtain ⟨ps,pt⟩:=p
     rw [findN_snoc hN,he,if_neg (by simpa using h2),if_pos rfl] at this
     simp only at hp0
     omega
   · rcases List.mem_cons.1 hq with rfl|hq
     · exact h2
     · have:=a3 q hq
       obtain ⟨ps,pt⟩:=p
       rw [findN_snoc hN] at this
       by_cases h0:findN N q.1=0
       · exact h0
       · rw [if_pos h0] at this;exact absurd this h0
theorem tyN_nil:TyN []:=fun p hp=>by cases hp
theorem seenF_of {L:List TreeP.Fn} {C:Nat} {fn:TreeP.Fn} (hf:FitF fn) (hk:fnK L fn=.ok ()) (hC:8*cntSs fn.body+8≤C):SeenF L C fn:=by
 unfold fnK at hk
 obtain ⟨⟨N1,m1⟩,h1,hk⟩:=bk hk
 obtain ⟨y,h2,-⟩:=bk hk
 obtain ⟨a1,a2,a3⟩:=params_is fn.params [] 0 (fun p hp=>(hf.2.1 p hp).2) tyN_nil h1
 simp only [List.nil_append] at a1
 subst a1
 have hty:TyN fn.params:=fun p hp=>(hf.2.1 p hp).2
 refine ⟨a2,(seenSs_of fn.body 0 hf.2.2 h2 hty (fun z=>?_)).1,?_⟩
 · constructor
   · intro hz
     obtain ⟨p,hp,rfl⟩:=List.mem_map.1 hz
     unfold findN
     cases hq:fn.params.find? (fun q=>q.1==p.1) with
     | none=>exact absurd (List.find?_eq_none.1 hq p hp) (by simp)
     | some q =>
       have:=hty q (List.mem_of_find?_eq_some hq)
       simp only
       omega
   · intro hz
     unfold findN at hz
     cases hq:fn.params.find? (fun q=>q.1==z) with
     | none=>rw [hq] at hz;exact absurd rfl hz
     | some q =>
       refine List.mem_map.2 ⟨q,List.mem_of_find?_eq_some hq,?_⟩
       have:=List.find?_some hq
       simpa using this
 · have:=stsN_cnt fn.body
   omega
end Go.Proofs.YtnicpmoanjddbaaGreatDoor.MidP.Sm

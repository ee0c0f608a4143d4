/- What the runner makes of any expression; plainly: fuel only goes. Conditions: what it has lies. -/
import Derived.Test.YtdgedlhefjmcpaaGreatDoorEn31
namespace Go.Proofs.YtdgedlhefjmcpaaGreatDoor.TreeP
open Go.RowKit Go.Proofs.YtdgedlhefjmcpaaGreatDoor.Wo
set_option linter.unusedVariables false
set_option linter.unusedSimpArgs false
theorem ran_more {α:Type} {W w:World} {b mb:Nat} {L:List Fn} {P T T' M:Nat→Prop} {A:List (Nat×Nat)} {ok:α→(Nat→Prop)→List (Nat×Nat)→Ending→World→Prop} {r:Except Sig α×RS} {e:Ending} (h:Ran W b mb L P T M A ok r e w) (hT:∀ k,k<W.heap.size→T k→T' k):Ran W b mb L P T' M A ok r e w:=by
 obtain ⟨_|x,s⟩:=r
 · obtain ⟨h0,M',A',h1,h2,h3⟩:=h
   exact ⟨h0,M',A',h1,h2.more hT,h3⟩
 · obtain ⟨M',A',h0,h1,h2,h3⟩:=h
   exact ⟨M',A',h0,h1,h2.more hT,h3⟩
theorem expr_zero (L:List Fn):EvC L 0:=by
 intro e b mb P T M A s F fm n W v r h hF hg he hr
 cases e <;> simp [evE] at hr
theorem expr_any {L:List Fn} {f:Nat} (ih:∀ k,k≤f→EvC L k) (ihc:CallC L f):EvC L (f+1):=by
 intro e b mb P T M A s F fm n W v r h hF hg he hr
 suffices key:Calls Tryz.prog 139 #[.pointer (some ⟨b,0,none⟩),.map (some fm),v] W (Ran W b mb L P None M A retV r) from key.mono (fun e w hx=>ran_more hx (fun _ _ f=>f.elim))
 have ihf:=ih f (Nat.le_refl f)
 cases e with
 | num a k =>
   simp only [evE] at hr
   obtain rfl:=(Option.some.inj hr).symm
   exact ev_num (f:=f) a k b mb P M A s fm W v h he
 | var a x=>exact ev_var ihf a x b mb P M A s F fm n W v r h hF hg he hr
 | bin a op x y=>exact ev_bin ihf a op x y b mb P M A s F fm n W v r h hF hg he hr
 | un a op x=>exact ev_un ihf a op x b mb P M A s F fm n W v r h hF hg he hr
 | call a g l=>exact ev_call ih ihc a g l b mb P M A s F fm n W v r h hF hg he hr
 | new a x=>exact ev_new ihf a x b mb P M A s F fm n W v r h hF hg he hr
 | len a x=>exact ev_len ihf a x b mb P M A s F fm n W v r h hF hg he hr
 | item a x y=>exact ev_item ihf a x y b mb P M A s F fm n W v r h hF hg he hr
 | input a=>exact ev_input ihf a b mb P M A s F fm n W v r h hF hg he hr
def Less {α:Type} (s:RS) (x:RM α):Prop:=∀ y,x=some y→y.2.fuel≤s.fuel
theorem Less.ok {α:Type} {s s':RS} (a:α) (h:s'.fuel≤s.fuel):Less s (okR a s'):=by
 intro y hy
 obtain rfl:=(Option.some.inj hy).symm
 exact h
theorem Less.err {α:Type} {s s':RS} (g:Sig) (h:s'.fuel≤s.fuel):Less s (some ((Except.error g:Except Sig α),s')):=by
 intro y hy
 obtain rfl:=(Option.some.inj hy).symm
 exact h
theorem Less.bind {α β:Type} {s:RS} {x:RM α} {f:α→RS→RM β} (h:Less s x) (hf:∀ a t,t.fuel≤s.fuel→Less s (f a t)):Less s (bindR x f):=by
 rcases x with _|⟨_|a,t⟩
 · intro y hy;cases hy
 · exact Less.err _ (h _ rfl)
 · exact hf a t (h _ rfl)
theorem Less.to {α:Type} {s t:RS} {x:RM α} (h:Less t x) (hs:t.fuel≤s.fuel):Less s x:=fun y hy=>Nat.le_trans (h y hy) hs
theorem Less.none_ {α:Type} (s:RS):Less s (none:RM α):=by intro y hy;cases hy
theorem stepR_less (s:RS):Less s (stepR s):=by
 unfold stepR
 split
 · exact Less.err _ (Nat.le_refl _)
 · exact Less.ok _ (Nat.sub_le _ _)
theorem placeR_less (s:RS) (v:V) (i:Int):Less s (placeR s v i):=by
 unfold placeR
 split
 · exact Less.err _ (Nat.le_refl _)
 · exact Less.ok _ (Nat.le_refl _)
theorem putArr_fuel (s:RS) (v:V) (i x:Int):(putArr s v i x).fuel=s.fuel:=by
 unfold putArr
 split <;> rfl
theorem less_all (L:List Fn):∀ f,(∀ s F e,Less s (evE L f s F e))∧(∀ s F l vs,Less s (evA L f s F l vs))∧(∀ s g vs,Less s (callR L f s g vs))∧(∀ s F l,Less s (blockR L f s F l))∧(∀ s F x,Less s (stmtR L f s F x))∧(∀ s F v t,Less s (whileR L f s F v t)):=by
 intro f
 induction f with
 | zero=>refine ⟨fun s F e=>?_,fun s F l vs=>?_,fun s g vs=>?_,fun s F l=>?_,fun s F x=>?_,fun s F v t=>?_⟩ <;> simp only [evE,evA,callR,blockR,stmtR,whileR] <;> exact Less.none_ _
 | succ f ih =>
   obtain ⟨i1,i2,i3,i4,i5,i6⟩:=ih
   refine ⟨fun s F e=>?_,fun s F l vs=>?_,fun s g vs=>?_,fun s F l=>?_,fun s F x=>?_,fun s F v t=>?_⟩
   · cases e with
     | num a k=>simp only [evE];exact Less.ok _ (Nat.le_refl _)
     | var a x=>simp only [evE];exact Less.ok _ (Nat.le_refl _)
     | un a op x=>simp only [evE];exact (i1 s F x).bind fun v t ht=>Less.ok _ ht
     | bin a op x y =>
       simp only [evE]
       refine (i1 s F x).bind fun v t ht=>?_
       split
       · split
         · exact Less.ok _ ht
         · exact ((i1 t F y).to ht).bind fun v2 t2 ht2=>Less.ok _ ht2
       · refine ((i1 t F y).to ht).bind fun v2 t2 ht2=>?_
         split
         · exact Less.ok _ ht2
         · exact Less.err _ ht2
     | call a g l=>simp only [evE];exact (i2 s F l []).bind fun vs t ht=>((i3 t g vs).to ht).bind fun n t2 ht2=>Less.ok _ ht2
     | new a x =>
       simp only [evE]
       refine (i1 s F x).bind fun v t ht=>?_
       split
       · exact Less.err _ ht
       · exact Less.ok _ ht
     | len a x=>simp only [evE];exact (i1 s F x).bind fun v t ht=>Less.ok _ ht
     | item a x y=>simp only [evE];exact (i1 s F x).bind fun v t ht=>((i1 t F y).to ht).bind fun k t2 ht2=>((placeR_less t2 v k.n).to ht2).bind fun n t3 ht3=>Less.ok _ ht3
     | input a =>
       simp only [evE]
       split
       · exact Less.ok _ (Nat.le_refl _)
       · exact Less.ok _ (Nat.le_refl _)
   · cases l with
     | nil=>simp only [evA];exact Less.ok _ (Nat.le_refl _)
     | cons e r=>simp only [evA];exact (i1 s F e).bind fun v t ht=>(i2 t F r _).to ht
   · simp only [callR]
     split
     · exact Less.err _ (Nat.le_refl _)
     · have hb:=i4 { s with calls:=s.calls+1 } (bindParams [] (fnGet L g).params vs) (fnGet L g).body
       split
       all_goals first|exact Less.none_ _|exact Less.ok _ (hb _ ‹_›)|exact Less.err _ (hb _ ‹_›)
   · cases l with
     | nil=>simp only [blockR];exact Less.ok _ (Nat.le_refl _)
     | cons x r=>simp only [blockR];exact (i5 s F x).bind fun F t ht=>(i4 t F r).to ht
   · simp only [stmtR]
     refine (stepR_less s).bind fun _ t ht=>?_
     cases x with
     | var a n v=>exact ((i1 t F v).to ht).bind fun y t2 ht2=>Less.ok _ ht2
     | set a n v=>exact ((i1 t F v).to ht).bind fun y t2 ht2=>Less.ok _ ht2
     | put a n i v=>exact ((i1 t F i).to ht).bind fun k t2 ht2=>((i1 t2 F v).to ht2).bind fun y t3 ht3=>((placeR_less t3 _ _).to ht3).bind fun _ t4 ht4=>Less.ok _ (by rw [putArr_fuel];exact ht4)
     | cond a v t1 e1 =>
       refine ((i1 t F v).to ht).bind fun c t2 ht2=>?_
       split
       · exact (i4 t2 F t1).to ht2
       · exact (i4 t2 F e1).to ht2
     | loop a v t1=>exact (i6 t F v t1).to ht
     | ret a v=>exact ((i1 t F v).to ht).bind fun y t2 ht2=>Less.err _ ht2
     | print a v =>
       refine ((i1 t F v).to ht).bind fun y t2 ht2=>?_
       split
       · exact Less.err _ ht2
       · exact Less.ok _ ht2
     | call a v=>exact ((i1 t F v).to ht).bind fun _ t2 ht2=>Less.ok _ ht2
   · simp only [whileR]
     refine (i1 s F v).bind fun c t1 ht=>?_
     split
     · exact ((i4 t1 F t).to ht).bind fun F2 t2 ht2=>((stepR_less t2).to ht2).bind fun _ t3 ht3=>(i6 t3 F2 v t).to ht3
     · exact Less.ok _ ht
end Go.Proofs.YtdgedlhefjmcpaaGreatDoor.TreeP

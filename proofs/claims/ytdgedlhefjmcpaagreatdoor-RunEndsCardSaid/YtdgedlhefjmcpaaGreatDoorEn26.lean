/- Plainly: a run makes few arrays: no more than its fuel pays for. No program in sight. No conditions. How a walk through the runner goes on behind a call of one of its parts. Conditions: what it has lies. The document's runner: expressions that call no part of it. Conditions: what it has lies. -/
import Derived.Test.YtdgedlhefjmcpaaGreatDoorEn19
import Derived.Test.YtdgedlhefjmcpaaGreatDoorEn24
import Derived.Deep.Cut
import Derived.Test.YtdgedlhefjmcpaaGreatDoorEn25
import Derived.Test.YtdgedlhefjmcpaaGreatDoorEn18
import Derived.Test.YtdgedlhefjmcpaaGreatDoorEn03
import Derived.StillTailTactics
import Derived.Deep.RegionWith
namespace Go.Proofs.YtdgedlhefjmcpaaGreatDoor.TreeP
open Go.RowKit
set_option linter.unusedVariables false
set_option linter.unusedSimpArgs false
mutual
def newsE:Ex→Nat
 | .num _ _=>0
 | .var _ _=>0
 | .bin _ _ l r=>newsE l+newsE r
 | .un _ _ x=>newsE x
 | .call _ _ args=>newsEs args
 | .new _ x=>newsE x+1
 | .len _ x=>newsE x
 | .item _ x i=>newsE x+newsE i
 | .input _=>0
def newsEs:List Ex→Nat
 | []=>0
 | e::r=>newsE e+newsEs r
end
mutual
def FewS (K:Nat):St→Prop
 | .var _ _ v=>newsE v≤K
 | .set _ _ v=>newsE v≤K
 | .put _ _ i v=>newsE i+newsE v≤K
 | .cond _ v t e=>newsE v≤K∧FewSs K t∧FewSs K e
 | .loop _ v t=>newsE v≤K∧FewSs K t
 | .ret _ v=>newsE v≤K
 | .print _ v=>newsE v≤K
 | .call _ v=>newsE v≤K
def FewSs (K:Nat):List St→Prop
 | []=>True
 | s::r=>FewS K s∧FewSs K r
end
def Paid {α:Type} (K c:Nat) (s:RS) (x:RM α):Prop:=∀ y,x=some y→y.2.arrs.length+K*y.2.fuel≤s.arrs.length+K*s.fuel+c
theorem Paid.ok {α:Type} {K c:Nat} {s t:RS} {a:α} (h:t.arrs.length+K*t.fuel≤s.arrs.length+K*s.fuel+c):Paid K c s (okR a t):=by
 intro y hy
 obtain rfl:=(Option.some.inj hy).symm
 exact h
theorem Paid.stop {α:Type} {K c:Nat} {s:RS} (w:Int):Paid K c s (stopR w s:RM α):=by
 intro y hy
 obtain rfl:=(Option.some.inj hy).symm
 exact Nat.le_add_right _ _
theorem Paid.none {α:Type} {K c:Nat} {s:RS}:Paid K c s (Option.none:RM α):=fun y hy=>by cases hy
theorem Paid.bind {α β:Type} {K c d:Nat} {s:RS} {x:RM α} {k:α→RS→RM β} (h:Paid K c s x) (hk:∀ a t,Paid K d t (k a t)):Paid K (c+d) s (bindR x k):=by
 cases x with
 | none=>exact Paid.none
 | some y =>
   obtain ⟨y,t⟩:=y
   have h1:=h _ rfl
   cases y with
   | ok a =>
     intro z hz
     have h2:=hk a t z hz
     simp only at h1
     omega
   | error e =>
     intro z hz
     obtain rfl:=(Option.some.inj hz).symm
     simp only at h1 ⊢
     omega
theorem Paid.bind0 {α β:Type} {K c:Nat} {s:RS} {x:RM α} {k:α→RS→RM β} (h:Paid K c s x) (hk:∀ a t,Paid K 0 t (k a t)):Paid K c s (bindR x k):=h.bind hk
theorem place_paid {K:Nat} {s:RS} (v:V) (i:Int):Paid K 0 s (placeR s v i):=by
 unfold placeR
 split
 · exact Paid.stop _
 · exact Paid.ok (Nat.le_refl _)
theorem put_arrs (s:RS) (v:V) (i x:Int):(putArr s v i x).arrs.length=s.arrs.length∧(putArr s v i x).fuel=s.fuel:=by
 unfold putArr
 split <;> simp
theorem step_paid {α:Type} {K c:Nat} {s:RS} {k:Unit→RS→RM α} (hc:c≤K) (hk:∀ t,Paid K c t (k () t)):Paid K 0 s (bindR (stepR s) k):=by
 unfold stepR
 split
 · intro z hz
   obtain rfl:=(Option.some.inj hz).symm
   exact Nat.le_refl _
 · rename_i h0
   intro z hz
   have h:=hk _ z hz
   simp only at h
   have hm:K*s.fuel=K*(s.fuel-1)+K:=by
    obtain ⟨n,hn⟩:∃ n,s.fuel=n+1:=⟨s.fuel-1,by omega⟩
    rw [hn,Nat.add_sub_cancel,Nat.mul_add,Nat.mul_one]
   omega
def EvPd (L:List Fn) (K f:Nat):Prop:=∀ s F e,Paid K (newsE e) s (evE L f s F e)
def ArPd (L:List Fn) (K f:Nat):Prop:=∀ s F l vs,Paid K (newsEs l) s (evA L f s F l vs)
def ClPd (L:List Fn) (K f:Nat):Prop:=∀ s g vs,Paid K 0 s (callR L f s g vs)
def BkPd (L:List Fn) (K f:Nat):Prop:=∀ s F l,FewSs K l→Paid K 0 s (blockR L f s F l)
def SmPd (L:List Fn) (K f:Nat):Prop:=∀ s F x,FewS K x→Paid K 0 s (stmtR L f s F x)
def WlPd (L:List Fn) (K f:Nat):Prop:=∀ s F v l,newsE v≤K→FewSs K l→Paid K (newsE v) s (whileR L f s F v l)
theorem fnGet_few {L:List Fn} {K:Nat} (hL:∀ x∈L,FewSs K x.body) (g:List UInt8):FewSs K (fnGet L g).body:=by
 unfold fnGet
 cases hf:fnOf L g with
 | none=>simp [FewSs]
 | some x=>exact hL x (List.mem_of_find?_eq_some hf)
set_option maxHeartbeats 2000000 in
theorem paid_all {L:List Fn} {K:Nat} (hL:∀ x∈L,FewSs K x.body):(f:Nat)→EvPd L K f∧ArPd L K f∧ClPd L K f∧BkPd L K f∧SmPd L K f∧WlPd L K f
 | 0=>⟨fun s F e=>by simp only [evE];exact Paid.none,fun s F l vs=>by simp only [evA];exact Paid.none,fun s g vs=>by simp only [callR];exact Paid.none,fun s F l _=>by simp only [blockR];exact Paid.none,fun s F x _=>by simp only [stmtR];exact Paid.none,fun s F v l _ _=>by simp only [whileR];exact Paid.none⟩
 | f+1=>by
   obtain ⟨he,ha,hc,hb,hs,hw⟩:=paid_all hL f
   refine ⟨?_,?_,?_,?_,?_,?_⟩
   · intro s F e
     cases e with
     | num a n=>simp only [evE,newsE];exact Paid.ok (Nat.le_refl _)
     | var a x=>simp only [evE,newsE];exact Paid.ok (Nat.le_refl _)
     | un a op x=>simp only [evE,newsE];exact (he s F x).bind0 fun v t=>Paid.ok (Nat.le_refl _)
     | bin a op l r =>
       simp only [evE,newsE]
       refine (he s F l).bind fun v t=>?_
       split
       · split
         · exact Paid.ok (Nat.le_add_right _ _)
         · exact (he t F r).bind0 fun u t2=>Paid.ok (Nat.le_refl _)
       · refine (he t F r).bind0 fun u t2=>?_
         split
         · exact Paid.ok (Nat.le_refl _)
         · exact Paid.stop _
     | call a g args =>
       simp only [evE,newsE]
       exact (ha s F args []).bind0 fun vs t=>(hc t g vs).bind0 fun n t2=>Paid.ok (Nat.le_refl _)
     | new a x =>
       simp only [evE,newsE]
       refine (he s F x).bind fun v t=>?_
       split
       · exact Paid.stop _
       · exact Paid.ok (by simp only [List.length_append,List.length_singleton];omega)
     | len a x=>simp only [evE,newsE];exact (he s F x).bind0 fun v t=>Paid.ok (Nat.le_refl _)
     | item a x i =>
       simp only [evE,newsE]
       exact (he s F x).bind fun v t=>(he t F i).bind0 fun k t2=>(place_paid v k.n).bind0 fun n t3=>Paid.ok (Nat.le_refl _)
     | input a =>
       simp only [evE,newsE]
       split
       · exact Paid.ok (Nat.le_refl _)
       · exact Paid.ok (Nat.le_refl _)
   · intro s F l vs
     cases l with
     | nil=>simp only [evA,newsEs];exact Paid.ok (Nat.le_refl _)
     | cons e r=>simp only [evA,newsEs];exact (he s F e).bind fun v t=>ha t F r _
   · intro s g vs
     simp only [callR]
     split
     · exact Paid.stop _
     · have hk:=hb { s with calls:=s.calls+1 } (bindParams [] (fnGet L g).params vs) (fnGet L g).body (fnGet_few hL g)
       intro y hy
       split at hy
       · rename_i a t hx
         obtain rfl:=(Option.some.inj hy).symm
         exact hk _ hx
       · rename_i n t hx
         obtain rfl:=(Option.some.inj hy).symm
         exact hk _ hx
       · rename_i w t hx
         obtain rfl:=(Option.some.inj hy).symm
         exact hk _ hx
       · cases hy
   · intro s F l hl
     cases l with
     | nil=>simp only [blockR];exact Paid.ok (Nat.le_refl _)
     | cons x r =>
       simp only [blockR,FewSs] at hl ⊢
       exact (hs s F x hl.1).bind0 fun G t=>hb t G r hl.2
   · intro s F x hx
     simp only [stmtR]
     cases x with
     | var a n v=>simp only [FewS] at hx;exact step_paid hx fun t=>(he t F v).bind0 fun y u=>Paid.ok (Nat.le_refl _)
     | set a n v=>simp only [FewS] at hx;exact step_paid hx fun t=>(he t F v).bind0 fun y u=>Paid.ok (Nat.le_refl _)
     | put a n i v =>
       simp only [FewS] at hx
       refine step_paid hx fun t=>(he t F i).bind fun k u=>(he u F v).bind0 fun y u2=>(place_paid _ _).bind0 fun z u3=>Paid.ok ?_
       have:=put_arrs u3 (F.get n) k.n y.n
       rw [this.1,this.2]
       exact Nat.le_refl _
     | cond a v t e =>
       simp only [FewS] at hx
       refine step_paid hx.1 fun t'=>(he t' F v).bind0 fun c u=>?_
       split
       · exact hb u F t hx.2.1
       · exact hb u F e hx.2.2
     | loop a v t=>simp only [FewS] at hx;exact step_paid hx.1 fun t'=>hw t' F v t hx.1 hx.2
     | ret a v =>
       simp only [FewS] at hx
       refine step_paid hx fun t=>(he t F v).bind0 fun y u=>?_
       intro z hz
       obtain rfl:=(Option.some.inj hz).symm
       exact Nat.le_refl _
     | print a v =>
       simp only [FewS] at hx
       refine step_paid hx fun t=>(he t F v).bind0 fun y u=>?_
       split
       · exact Paid.stop _
       · exact Paid.ok (Nat.le_refl _)
     | call a v=>simp only [FewS] at hx;exact step_paid hx fun t=>(he t F v).bind0 fun y u=>Paid.ok (Nat.le_refl _)
   · intro s F v l hv hl
     simp only [whileR]
     refine (he s F v).bind0 fun c u=>?_
     split
     · exact (hb u F l hl).bind0 fun G t=>step_paid hv fun t2=>hw t2 G v l hv hl
     · exact Paid.ok (Nat.le_refl _)
end Go.Proofs.YtdgedlhefjmcpaaGreatDoor.TreeP
namespace Go.Proofs.YtdgedlhefjmcpaaGreatDoor.TreeP
open Go.RowKit Go.Proofs.YtdgedlhefjmcpaaGreatDoor.Wo
set_option linter.unusedVariables false
set_option linter.unusedSimpArgs false
def FrAt (W:World) (P M:Nat→Prop) (A:List (Nat×Nat)) (fm n:Nat) (F:Fr):Prop :=
 ∃ F',NameMap W fm n zeroVal F'∧¬ M fm∧¬ P fm∧∀ s,VAt A (Fr.get F s) (getL zeroVal F' s)
theorem FrAt.ext {W W':World} {P M M':Nat→Prop} {A A':List (Nat×Nat)} {fm n:Nat} {F:Fr} (h:FrAt W P M A fm n F) (hE:Ext None M M' W W') (hA:A <+: A'):FrAt W' P M' A' fm n F:=by
 obtain ⟨F',h1,h2,h4,h3⟩:=h
 exact ⟨F',h1.mods hE.mods (fun k=>k.elim (fun f=>f.elim) h2),fun hm=>h2 (hE.back fm h1.lt hm),h4,fun s=>(h3 s).more hA⟩
theorem ExAt.ext {W W':World} {P T M M':Nat→Prop} {e:Ex} {v:Value} (h:ExAt W (fun k=>¬ P k) e v) (hE:Ext T M M' W W') (hT:∀ k,T k∨M k→¬ P k):ExAt W' (fun k=>¬ P k) e v:=ExAt.modsTo (hE.mods.mono fun k _ hk=>hT k hk) (fun _ _ k=>k) e v h
theorem keep_blk {W w:World} {T M M':Nat→Prop} {g:Nat} {cs:List Value} {t:TypeId} (h:Blk W g cs t) (hE:Ext T M M' W w) (hn:¬ M g) (hT:¬ T g):Blk w g cs t∧¬ M' g:=⟨h.mods hE.mods (fun k=>k.elim hT hn),fun hm=>hn (hE.back g h.lt hm)⟩
mutual
def GoodE (L:List Fn):Ex→Prop
 | .num _ _=>True
 | .var _ s=>s.length≤10000000
 | .bin _ _ l r=>GoodE L l∧GoodE L r
 | .un _ _ x=>GoodE L x
 | .call _ f args=>f.length≤10000000∧args.length≤1000000∧(∃ g,fnOf L f=some g∧args.length=g.params.length)∧GoodEs L args
 | .new _ x=>GoodE L x
 | .len _ x=>GoodE L x
 | .item _ x i=>GoodE L x∧GoodE L i
 | .input _=>True
def GoodEs (L:List Fn):List Ex→Prop
 | []=>True
 | e::r=>GoodE L e∧GoodEs L r
end
theorem rbind_of {α β:Type} {W0 W:World} {b mb:Nat} {L:List Fn} {P T M0 M:Nat→Prop} {A0 A:List (Nat×Nat)} {x:RM α} {f:α→RS→RM β} {r:Except Sig β×RS} {F:FuncId} {args:Array Value} {ok:α→(Nat→Prop)→List (Nat×Nat)→Ending→World→Prop} {Q:Ending→World→Prop}
 (hE:Hid (Ext T M0 M W0 W)) (hA:Hid (A0 <+: A)) (hx:Hid (bindR x f=some r)) (hc:∀ y,x=some y→Calls Tryz.prog F args W (Ran W b mb L P T M A ok y))
 (herr:∀ g s',r=(.error g,s')→∀ (older:Old) w,Hid (∃ M' A',RAt w b mb L P M' A' s'∧Ext T M0 M' W0 w∧A0 <+: A')→Q (.panicked ({ v:=sigV g,recovered:=false }::older.1)) w)
 (hok:∀ a s',Hid (x=some (.ok a,s'))→Hid (f a s'=some r)→∀ e w M' A',ok a M' A' e w→Hid (RAt w b mb L P M' A' s')→Hid (Ext T M M' W w)→Hid (Ext T M0 M' W0 w)→Hid (A <+: A')→Hid (A0 <+: A')→Q e w) :
 Calls Tryz.prog F args W Q:=by
 have hx:=hx.out
 cases hp:x with
 | none=>rw [hp] at hx;cases hx
 | some y =>
   refine (hc y hp).mono ?_
   intro e w h
   rw [hp] at hx
   obtain ⟨y,s'⟩:=y
   cases y with
   | error g =>
     obtain ⟨⟨older,rfl⟩,M',A',h1,h2,h3⟩:=h
     exact herr g s' (Option.some.inj hx).symm older w (hiD ⟨M',A',h1,hE.out.trans h2,hA.out.trans h3⟩)
   | ok a =>
     obtain ⟨M',A',h0,h1,h2,h3⟩:=h
     exact hok a s' (hiD hp) (hiD hx) e w M' A' h0 (hiD h1) (hiD h2) (hiD (hE.out.trans h2)) (hiD h3) (hiD (hA.out.trans h3))
def EvC (L:List Fn) (f:Nat):Prop:=∀ (e:Ex) (b mb:Nat) (P T M:Nat→Prop) (A:List (Nat×Nat)) (s:RS) (F:Fr) (fm n:Nat) (W:World) (v:Value) (r:Except Sig V×RS),RAt W b mb L P M A s→FrAt W P M A fm n F→GoodE L e→ExAt W (fun k=>¬ P k) e v→evE L f s F e=some r →
 Calls Tryz.prog 139 #[.pointer (some ⟨b,0,none⟩),.map (some fm),v] W (Ran W b mb L P T M A retV r)
def evN (L:List Fn) (f:Nat) (s:RS) (F:Fr) (e:Ex):RM Int:=bindR (evE L f s F e) fun v s=>okR v.n s
theorem bindN {β:Type} (L:List Fn) (f:Nat) (s:RS) (F:Fr) (e:Ex) (k:Int→RS→RM β):bindR (evN L f s F e) k=bindR (evE L f s F e) fun v s=>k v.n s:=by
 unfold evN
 cases evE L f s F e with
 | none=>rfl
 | some y =>
   obtain ⟨y,t⟩:=y
   cases y <;> rfl
theorem VAt.num {A:List (Nat×Nat)} {x:V} {v:Value} (h:VAt A x v):∃ av,v=.agg #[.int .i64 x.n,av]:=by
 rcases h with ⟨_,rfl⟩|⟨i,g,n,_,_,rfl⟩
 · exact ⟨_,rfl⟩
 · exact ⟨_,rfl⟩
theorem fld_n (k:Int) (av:Value) (w:World):Sem.run Tryz.prog (Instr.field 158 (.agg #[.int .i64 k,av]) 0) w=Result.ok (.int .i64 k) w:=by kernel_rfl
set_option maxRecDepth 100000 in
set_option maxHeartbeats 400000 in
theorem num_any {L:List Fn} {f:Nat} (ih:EvC L f) (e:Ex) (b mb q3 q4:Nat) (P T M:Nat→Prop) (A:List (Nat×Nat)) (s:RS) (F:Fr) (fm n:Nat) (W:World) (v:Value) (r:Except Sig Int×RS) (h:RAt W b mb L P M A s) (hF:FrAt W P M A fm n F) (hg:GoodE L e) (he:ExAt W (fun k=>¬ P k) e v) (hr:evN L f s F e=some r)
 (h3:W.cell? ⟨q3,0,none⟩=some (.pointer (some ⟨b,0,none⟩))) (h4:W.cell? ⟨q4,0,none⟩=some (.map (some fm))) :
 Calls Tryz.prog 157 #[v,.pointer (some ⟨q3,0,none⟩),.pointer (some ⟨q4,0,none⟩)] W (Ran W b mb L P T M A retN r):=by
 have HX:Hid (bindR (evE L f s F e) (fun v s=>okR v.n s)=some r):=hiD hr
 have HC:=hiD (fun y hy=>ih e b mb P T M A s F fm n W v y h hF hg he hy)
 have HE:=hiD (Ext.refl T M W)
 have HA:=hiD (List.prefix_refl A)
 obtain ⟨g,rfl⟩:=he.ptr
 clear h hF hg he hr ih
 go_enter Tryz.func157,Tryz.ntmps157
 go_wp2_with fail
 go_at_call 139
 refine rbind_of HE HA HX HC.out ?_ ?_
 · rintro g s' rfl older w H
   obtain ⟨M',A',k1,k2,k3⟩:=H.out
   go_wp2
   exact ⟨rfl,⟨older,rfl⟩,M',A',k1,k2,k3⟩
 · rintro a s'-HX2 e w M' A' ⟨v,rfl,hv⟩ HR-HE2-HA2
   obtain rfl:=(Option.some.inj HX2.out).symm
   clear HX HX2 HC
   obtain ⟨av,rfl⟩:=hv.num
   have hfl:=fld_n a.n av
   go_wp2
   go_ret
   exact ⟨M',A',rfl,HR.out,HE2.out,HA2.out⟩
end Go.Proofs.YtdgedlhefjmcpaaGreatDoor.TreeP
namespace Go.Proofs.YtdgedlhefjmcpaaGreatDoor.TreeP.R
open Go.RowKit Go.Proofs.YtdgedlhefjmcpaaGreatDoor.Wo Go.Proofs.YtdgedlhefjmcpaaGreatDoor.TreeP Go.Proofs.YtdgedlhefjmcpaaGreatDoor.AluP
set_option linter.unusedVariables false
set_option linter.unusedSimpArgs false
def rep (v:V):Int:=match v.arr with
 | none=>v.n
 | some i=>(i:Int)+1
def NsAt (W:World) (P M:Nat→Prop) (nb n:Nat) (F:Fr) (told:Bool) (out:Int):Prop :=
 ∃ mb F',Blk W nb [.map (some mb),.bool told,.int .i64 out] 171∧NameMap W mb n (.int .i64 0) F'∧(∀ s,getL (.int .i64 0) F' s=.int .i64 (rep (F.get s)))∧¬ M nb∧¬ P nb∧¬ M mb∧¬ P mb∧nb≠mb
theorem NsAt.ext {W W':World} {P M M':Nat→Prop} {nb n:Nat} {F:Fr} {told:Bool} {out:Int} (h:NsAt W P M nb n F told out) (hE:Ext None M M' W W'):NsAt W' P M' nb n F told out:=by
 obtain ⟨mb,F',h1,h2,h3,h4,h5,h6,h7,h8⟩:=h
 exact ⟨mb,F',h1.mods hE.mods (fun k=>k.elim (fun f=>f.elim) h4),h2.mods hE.mods (fun k=>k.elim (fun f=>f.elim) h6),h3,fun hm=>h4 (hE.back nb h1.lt hm),h5,fun hm=>h6 (hE.back mb h2.lt hm),h7,h8⟩
def ResE (W:World) (b:Nat) (P M:Nat→Prop) (A:List (Nat×Nat)) (t:Int):Except Sig V×RS→Ending→World→Prop
 | (.ok v,s)=>fun e w=>e=.returned (.int .i64 (rep v))∧∃ M' A',WAt w b P M' A' s∧Ext None M M' W w∧A <+: A'
 | (.error (.stop k),s)=>fun e w=>∃ n M',e=.returned (.int .i64 n)∧I64 n∧(t=2→n=0)∧WEnd w b P M' k s.out∧Ext None M M' W w
 | (.error (.ret _),_)=>fun _ _=>False
structure Bz (W0 w:World) (P M:Nat→Prop) (b:Nat) (lv:Value) (nb:Nat) (v:Value) (q:Nat):Prop where
 c4:Blk w q [.pointer (some ⟨b,0,none⟩)] 126
 c5:Blk w (q+1) [lv] 23
 c6:Blk w (q+1+1) [.pointer (some ⟨nb,0,none⟩)] 168
 c7:Blk w (q+1+1+1) [v] 141
 nm:∀ k,q≤k→k≤q+1+1+1→¬ M k∧¬ P k
 at_:W0.heap.size≤q
theorem Bz.step {W0 w w':World} {P M M':Nat→Prop} {b nb q:Nat} {lv v:Value} (h:Bz W0 w P M b lv nb v q) (hE:Ext None M M' w w'):Bz W0 w' P M' b lv nb v q:=by
 have hl:=h.c7.lt
 exact ⟨(keep_blk h.c4 hE (h.nm q (by omega) (by omega)).1 (fun f=>f)).1,(keep_blk h.c5 hE (h.nm (q+1) (by omega) (by omega)).1 (fun f=>f)).1,(keep_blk h.c6 hE (h.nm (q+1+1) (by omega) (by omega)).1 (fun f=>f)).1,(keep_blk h.c7 hE (h.nm (q+1+1+1) (by omega) (by omega)).1 (fun f=>f)).1,fun k h1 h2=>⟨fun hm=>(h.nm k h1 h2).1 (hE.back k (by omega) hm),(h.nm k h1 h2).2⟩,h.at_⟩
def boxed (W:World) (b:Nat) (lv:Value) (nb:Nat) (v:Value):World :=
 (((W.alloc (.cells #[.pointer (some ⟨b,0,none⟩)] 126)).alloc (.cells #[lv] 23)).alloc (.cells #[.pointer (some ⟨nb,0,none⟩)] 168)).alloc (.cells #[v] 141)
theorem boxed_mods (W:World) (b:Nat) (lv:Value) (nb:Nat) (v:Value):Mods None W (boxed W b lv nb v):=((((Mods.refl _ _).alloc _).alloc _).alloc _).alloc _
theorem Bz.new {W:World} {b:Nat} {P M:Nat→Prop} (lv:Value) (nb:Nat) (v:Value) (hM:∀ k,M k→k<W.heap.size) (hP:∀ k,P k→k<W.heap.size):Bz W (boxed W b lv nb v) P M b lv nb v W.heap.size:=by
 have e1:(W.alloc (.cells #[.pointer (some ⟨b,0,none⟩)] 126)).heap.size=W.heap.size+1:=by simp
 have e2:((W.alloc (.cells #[.pointer (some ⟨b,0,none⟩)] 126)).alloc (.cells #[lv] 23)).heap.size=W.heap.size+1+1:=by simp
 have e3:(((W.alloc (.cells #[.pointer (some ⟨b,0,none⟩)] 126)).alloc (.cells #[lv] 23)).alloc (.cells #[.pointer (some ⟨nb,0,none⟩)] 168)).heap.size=W.heap.size+1+1+1:=by simp
 refine ⟨(((Blk.new W _ _).alloc _).alloc _).alloc _,?_,?_,?_,fun k h1 _=>⟨fun hm=>absurd (hM k hm) (by omega),fun hp=>absurd (hP k hp) (by omega)⟩,Nat.le_refl _⟩
 · have:=((Blk.new (W.alloc (.cells #[.pointer (some ⟨b,0,none⟩)] 126)) #[lv] 23).alloc (.cells #[.pointer (some ⟨nb,0,none⟩)] 168)).alloc (.cells #[v] 141)
   rw [e1] at this
   exact this
 · have:=(Blk.new ((W.alloc (.cells #[.pointer (some ⟨b,0,none⟩)] 126)).alloc (.cells #[lv] 23)) #[.pointer (some ⟨nb,0,none⟩)] 168).alloc (.cells #[v] 141)
   rw [e2] at this
   exact this
 · have:=Blk.new (((W.alloc (.cells #[.pointer (some ⟨b,0,none⟩)] 126)).alloc (.cells #[lv] 23)).alloc (.cells #[.pointer (some ⟨nb,0,none⟩)] 168)) #[v] 141
   rw [e3] at this
   exact this
set_option maxRecDepth 100000 in
theorem ex_ended (la:Option Addr) (ln lc b nb p:Nat) (P M:Nat→Prop) (k:Int) (out:List Int) (W:World) (h:WEnd W b P M k out) :
 Calls Tryz.prog 146 #[.pointer (some ⟨b,0,none⟩),.slice la ln lc,.pointer (some ⟨nb,0,none⟩),.pointer (some ⟨p,0,none⟩)] W fun e w=>e=.returned (.int .i64 0)∧Mods None W w:=by
 obtain ⟨av,iv,k0,c,ov,m,r,hb,-⟩:=h.blk
 obtain ⟨W3,hW3⟩:∃ W3,W3=boxed W b (.slice la ln lc) nb (.pointer (some ⟨p,0,none⟩)):=⟨_,rfl⟩
 have HM:Hid (Mods None W W3):=hiD (by rw [hW3];exact boxed_mods _ _ _ _ _)
 have HB:Hid (Bz W W3 P M b (.slice la ln lc) nb (.pointer (some ⟨p,0,none⟩)) W.heap.size):=hiD (by rw [hW3];exact Bz.new _ _ _ h.old h.given)
 have c4:W3.cell? ⟨b,4,none⟩=some (.int .i64 k):=HM.out.cellOf (hb.cell rfl) (fun f=>f)
 have q4:=HB.out.c4.cell (i:=0) rfl
 have hk:(k==0)=false:=by have:=h.way;simp;omega
 clear hb h
 unfold boxed at hW3
 go_enter Tryz.func146,Tryz.ntmps146
 go_upto_region 1 with (fail)
 rw [← hW3]
 clear hW3
 go_wp2_with fail
 go_ret
 exact ⟨rfl,HM.out⟩
set_option maxRecDepth 100000 in
theorem left_of {R:Ending→World→Prop} {W0 W:World} {P M:Nat→Prop} {b nb p px q:Nat} {la:Option Addr} {ln lc:Nat} (hB:Bz W0 W P M b (.slice la ln lc) nb (.pointer (some ⟨p,0,none⟩)) q) (h5:W.cell? ⟨p,5,none⟩=some (.pointer (some ⟨px,0,none⟩)))
 (hc:Calls Tryz.prog 146 #[.pointer (some ⟨b,0,none⟩),.slice la ln lc,.pointer (some ⟨nb,0,none⟩),.pointer (some ⟨px,0,none⟩)] W.drew fun e w=>∃ n,e=.returned (.int .i64 n)∧R (.returned (.int .i64 n)) w) :
 Calls Tryz.prog 164 #[.pointer (some ⟨q,0,none⟩),.pointer (some ⟨q+1,0,none⟩),.pointer (some ⟨q+1+1,0,none⟩),.pointer (some ⟨q+1+1+1,0,none⟩)] W fun e w=>∃ n,e=.returned (.int .i64 n)∧R (.returned (.int .i64 n)) w:=by
 have q4:=hB.c4.cell (i:=0) rfl
 have q5:=hB.c5.cell (i:=0) rfl
 have q6:=hB.c6.cell (i:=0) rfl
 have q7:=hB.c7.cell (i:=0) rfl
 have HC:=hiD hc
 obtain ⟨W4,hW4⟩:∃ W4,W4=W.drew:=⟨_,rfl⟩
 rw [← hW4] at HC
 clear hB hc
 go_enter Tryz.func164,Tryz.ntmps164
 go_wp2_with fail
 go_still_tail 7,(by kernel_rfl)
 change wpList _ _ _ _ _ W.drew
 rw [← hW4]
 clear hW4 q4 q5 q6 q7 h5
 go_wp2_with fail
 go_at_call 146
 refine HC.out.mono ?_
 rintro e w ⟨n,rfl,hr⟩
 have HR:=hiD hr
 clear hr HC
 go_wp2_with fail
 go_ret
 exact ⟨_,rfl,HR.out⟩
structure Pre (L:List Fn) (W:World) (b:Nat) (P M:Nat→Prop) (A:List (Nat×Nat)) (s:RS) (N:Nm) (F:Fr) (nb n:Nat) (lv:Value):Prop where
 wd:WAt W b P M A s
 ns:NsAt W P M nb n F false 0
 fs:FsAt W (fun k=>¬ P k) lv L
 ty:FTy s N F
 rs:RsOk s
 fr:FrOk F
theorem Pre.quiet {L:List Fn} {W W':World} {b:Nat} {P M:Nat→Prop} {A:List (Nat×Nat)} {s:RS} {N:Nm} {F:Fr} {nb n:Nat} {lv:Value} (h:Pre L W b P M A s N F nb n lv) (hm:Mods None W W'):Pre L W' b P M A s N F nb n lv :=
 ⟨h.wd.quiet hm,h.ns.ext (Ext.quiet hm),h.fs.mods (hm.mono fun _ _ f=>f.elim) (fun _ _ k=>k),h.ty,h.rs,h.fr⟩
theorem Pre.ext {L:List Fn} {W W':World} {b:Nat} {P M M':Nat→Prop} {A A':List (Nat×Nat)} {s s':RS} {N:Nm} {F:Fr} {nb n:Nat} {lv:Value} (h:Pre L W b P M A s N F nb n lv) (hE:Ext None M M' W W') (hw:WAt W' b P M' A' s') (ho:ArrsOn s s') (hr:RsOk s'):Pre L W' b P M' A' s' N F nb n lv :=
 ⟨hw,h.ns.ext hE,h.fs.mods (hE.mods.mono fun k _ hk=>hk.elim (fun f=>f.elim) (h.wd.off k)) (fun _ _ k=>k),h.ty.on ho,hr,h.fr⟩
def EwAt (L:List Fn) (K f:Nat) (e:Ex):Prop:=∀ (b:Nat) (P M:Nat→Prop) (A:List (Nat×Nat)) (s:RS) (N:Nm) (F:Fr) (nb n:Nat) (la:Option Addr) (ln lc:Nat) (W:World) (v:Value) (t:Int) (r:Except Sig V×RS),
 Pre L W b P M A s N F nb n (.slice la ln lc)→(∃ d,Fit e d)→exprK L N e=.ok t→s.arrs.length+K*s.fuel+newsE e≤1000000000000→ExAt W (fun k=>¬ P k) e v→evE L f s F e=some r →
 Calls Tryz.prog 146 #[.pointer (some ⟨b,0,none⟩),.slice la ln lc,.pointer (some ⟨nb,0,none⟩),v] W (ResE W b P M A t r)
def EwC (L:List Fn) (K f:Nat):Prop:=∀ e,EwAt L K f e
theorem ResE.int {W:World} {b:Nat} {P M:Nat→Prop} {A:List (Nat×Nat)} {t:Int} {r:Except Sig V×RS} {e:Ending} {w:World} (h:ResE W b P M A t r e w):∃ n,e=.returned (.int .i64 n)∧ResE W b P M A t r (.returned (.int .i64 n)) w:=by
 obtain ⟨x,s⟩:=r
 cases x with
 | ok v=>exact ⟨_,h.1,by rw [← h.1];exact h⟩
 | error g =>
   cases g with
   | ret n=>exact h.elim
   | stop k =>
     obtain ⟨n,M',h1,h2⟩:=h
     exact ⟨n,h1,n,M',rfl,h2⟩
theorem blk_far {W w:World} {P M M':Nat→Prop} {g:Nat} {cs:List Value} {t:TypeId} (h:Blk W g cs t) (hg:P g) (hE:Ext None M M' W w) (hoff:∀ k,M k→¬ P k):Blk w g cs t:=h.mods hE.mods (fun k=>k.elim (fun f=>f.elim) (fun hm=>hoff g hm hg))
end Go.Proofs.YtdgedlhefjmcpaaGreatDoor.TreeP.R

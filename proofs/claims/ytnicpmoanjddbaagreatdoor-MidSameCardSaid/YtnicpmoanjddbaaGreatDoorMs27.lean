/- What the runner makes of a call's parts, one by one. Conditions: what it has lies. What the runner makes of a call. Conditions: what it has lies. What the runner makes of two numbers. Conditions: what it has lies. What the runner makes of any expression; plainly: fuel only goes. Conditions: what it has lies. -/
import Derived.Test.YtnicpmoanjddbaaGreatDoorMs26
import Derived.Test.YtnicpmoanjddbaaGreatDoorMs02
namespace Go.Proofs.YtnicpmoanjddbaaGreatDoor.TreeP
open Go.RowKit Go.Proofs.YtnicpmoanjddbaaGreatDoor.Wo
set_option linter.unusedVariables false
set_option linter.unusedSimpArgs false
def Vals (W:World) (base:Nat) (P M:Nat→Prop) (A:List (Nat×Nat)) (lv:Value) (vs:List V):Prop :=
 ∃ cs,W.ownsRow base 164 2 lv vs.length cs∧(∀ k,lv.ownBlock=some k→¬ M k∧¬ P k)∧∀ j x,vs[j]?=some x→∃ u v,cs[j*2]?=some u∧cs[j*2+1]?=some v∧VAt A x (.agg #[u,v])
theorem Vals.none_ (W:World) (base:Nat) (P M:Nat→Prop) (A:List (Nat×Nat)):Vals W base P M A (.slice none 0 0) [] :=
 ⟨[],World.ownsRow_nil _ _ _ _,fun k hk=>(by cases hk),fun j x hx=>(by simp at hx)⟩
theorem Vals.ext {W w:World} {base:Nat} {P M M':Nat→Prop} {A A':List (Nat×Nat)} {lv:Value} {vs:List V} (h:Vals W base P M A lv vs) (hE:Ext None M M' W w) (hA:A <+: A'):Vals w base P M' A' lv vs:=by
 obtain ⟨cs,h1,h2,h3⟩:=h
 refine ⟨cs,hE.mods.ownsRow h1 (fun k hk hs=>hs.elim (fun f=>f.elim) (h2 k hk).1),fun k hk=>⟨fun hm=>(h2 k hk).1 (hE.back k (h1.lt k hk).2 hm),(h2 k hk).2⟩,fun j x hx=>?_⟩
 obtain ⟨u,v,e1,e2,e3⟩:=h3 j x hx
 exact ⟨u,v,e1,e2,e3.more hA⟩
theorem Bx.aside {W0 w w':World} {P M S:Nat→Prop} {b fm q:Nat} (h:Bx W0 w P M b fm q) (hm:Mods S w w') (hS:∀ k,S k→q+3≤k):Bx W0 w' P M b fm q :=
 ⟨h.c3.mods hm (fun f=>by have:=hS _ f;omega),h.c4.mods hm (fun f=>by have:=hS _ f;omega),h.c6.mods hm (fun f=>by have:=hS _ f;omega),h.nm,h.at_⟩
theorem FrAt.aside {W W':World} {P M S:Nat→Prop} {A:List (Nat×Nat)} {fm n:Nat} {F:Fr} (h:FrAt W P M A fm n F) (hm:Mods S W W') (hS:¬ S fm):FrAt W' P M A fm n F:=by
 obtain ⟨F',h1,h2,h4,h3⟩:=h
 exact ⟨F',h1.mods hm hS,h2,h4,h3⟩
structure ArgSt (W:World) (P M:Nat→Prop) (A:List (Nat×Nat)) (b mb fm n:Nat) (L:List Fn) (F:Fr) (k i:Nat) (args:List Ex) (av:Value) (es:List Value) (K:List V→RS→RM V) (r:Except Sig V×RS) (lv:Value) (vs:List V) (M':Nat→Prop) (A':List (Nat×Nat)) (s':RS) (wr:World):Prop where
 run:bindR (evA L k s' F (args.drop i) vs) K=some r
 bx:Bx W wr P M' b fm W.heap.size
 rat:RAt wr b mb L P M' A' s'
 fr:FrAt wr P M' A' fm n F
 ext:Ext None M M' W wr
 pre:A <+: A'
 vals:Vals wr (W.heap.size+3) P M' A' lv vs
 row:RowAt wr (fun k=>¬ P k) 141 1 av args.length es
 exs:ExsAt wr (fun k=>¬ P k) args es
theorem ArgSt.step {W wr w:World} {P M:Nat→Prop} {A:List (Nat×Nat)} {b mb fm n:Nat} {L:List Fn} {F:Fr} {k i:Nat} {args:List Ex} {av:Value} {es:List Value} {K:List V→RS→RM V} {r:Except Sig V×RS} {lv:Value} {vs:List V} {M' M2:Nat→Prop} {A' A2:List (Nat×Nat)} {s' s2:RS}
 (h:ArgSt W P M A b mb fm n L F k i args av es K r lv vs M' A' s' wr) (hR:RAt w b mb L P M2 A2 s2) (hE:Ext None M' M2 wr w) (hE0:Ext None M M2 W w) (hA:A' <+: A2) (hA0:A <+: A2):Bx W w P M2 b fm W.heap.size∧FrAt w P M2 A2 fm n F∧Vals w (W.heap.size+3) P M2 A2 lv vs∧RowAt w (fun k=>¬ P k) 141 1 av args.length es∧ExsAt w (fun k=>¬ P k) args es:=by
 have hm:Mods (fun k=>¬ P k) wr w:=hE.mods.mono fun k _ hk=>hk.elim (fun f=>f.elim) (h.rat.off k)
 exact ⟨h.bx.step hE,h.fr.ext hE hA,h.vals.ext hE hA,h.row.mods hm (fun _ _ k=>k),ExsAt.modsTo hm (fun _ _ k=>k) _ _ h.exs⟩
theorem Vals.grow {w4 w5:World} {base:Nat} {P M:Nat→Prop} {A:List (Nat×Nat)} {lv v':Value} {vs:List V} {cs:List Value} {x:V} {u v:Value} (h1:w4.ownsRow base 164 2 lv vs.length cs) (h2:∀ k,lv.ownBlock=some k→¬ M k∧¬ P k) (h3:∀ j x,vs[j]?=some x→∃ u v,cs[j*2]?=some u∧cs[j*2+1]?=some v∧VAt A x (.agg #[u,v]))
 (hown:w5.ownsRow base 164 2 v' (vs.length+1) (cs++[u,v])) (hloc:v'.ownBlock=lv.ownBlock∨v'.ownBlock=some w4.heap.size) (hM:∀ k,M k→k<w4.heap.size) (hP:∀ k,P k→k<w4.heap.size) (hv:VAt A x (.agg #[u,v])):Vals w5 base P M A v' (vs++[x]):=by
 refine ⟨cs++[u,v],by simpa using hown,fun k hk=>?_,fun j y hy=>?_⟩
 · rcases hloc with hl|hl
   · exact h2 k (by rw [← hl];exact hk)
   · rw [hl] at hk
     obtain rfl:=Option.some.inj hk
     exact ⟨fun hm=>absurd (hM _ hm) (Nat.lt_irrefl _),fun hp=>absurd (hP _ hp) (Nat.lt_irrefl _)⟩
 · have hlen:=h1.1
   rcases Nat.lt_or_ge j vs.length with hj|hj
   · rw [List.getElem?_append_left hj] at hy
     obtain ⟨u',v',e1,e2,e3⟩:=h3 j y hy
     exact ⟨u',v',by rw [List.getElem?_append_left (by omega)];exact e1,by rw [List.getElem?_append_left (by omega)];exact e2,e3⟩
   · rw [List.getElem?_append_right hj] at hy
     obtain ⟨hj2,hy⟩:=List.getElem?_eq_some_iff.1 hy
     simp only [List.length_singleton] at hj2
     obtain rfl:j=vs.length:=by omega
     simp only [Nat.sub_self,List.getElem_cons_zero] at hy
     subst hy
     refine ⟨u,v,?_,?_,hv⟩
     · rw [List.getElem?_append_right (by omega),hlen,Nat.sub_self];rfl
     · rw [List.getElem?_append_right (by omega),hlen,show vs.length*2+1-vs.length*2=1 by omega];rfl
def CallC (L:List Fn) (f:Nat):Prop:=∀ (g:List UInt8) (vs:List V) (b mb base:Nat) (P M:Nat→Prop) (A:List (Nat×Nat)) (s:RS) (W:World) (lv:Value) (r:Except Sig Int×RS),RAt W b mb L P M A s→Vals W base P M A lv vs→g.length≤10000000→(∃ h,fnOf L g=some h∧vs.length=h.params.length)→callR L f s g vs=some r →
 Calls Tryz.prog 45 #[.pointer (some ⟨b,0,none⟩),str g,lv] W (Ran W b mb L P None M A retN r)
theorem val_info:(Tryz.prog.info? 164).map (fun i=>(i.zero,i.size,i.bytes))=some (some zeroVal,2,32):=by kernel_rfl
theorem row_ptr {w:World} {S:Nat→Prop} {args:List Ex} {es:List Value} {aa:Option Addr} {an ac:Nat} (hr:RowAt w S 141 1 (.slice aa an ac) args.length es) (he:ExsAt w S args es) {i:Nat} {e:Ex} (hi:args[i]?=some e):∃ g y,aa=some ⟨g,0,none⟩∧w.cell? ⟨g,i,none⟩=some (.pointer (some ⟨y,0,none⟩))∧ExAt w S e (.pointer (some ⟨y,0,none⟩))∧an=args.length∧an≤ac∧ac≤maxLen:=by
 obtain ⟨v,h1,h2⟩:=he.at_ i e hi
 obtain ⟨y,rfl⟩:=h2.ptr
 have hlt:i<args.length:=(List.getElem?_eq_some_iff.1 hi).1
 rcases hr.1.2 with ⟨hv,h0⟩|⟨g,cap,cur,hv,_,h3,h4,h5,h6,h7⟩
 · omega
 · simp only [Value.slice.injEq] at hv
   obtain ⟨rfl,rfl,rfl⟩:=hv
   refine ⟨g,y,rfl,?_,h2,rfl,h4,h5⟩
   have:=hr.1.cells (g:=g) rfl i _ h1
   cases i with
   | zero=>exact this
   | succ i=>simpa [Addr.add] using this
theorem bindR_assoc {α β γ:Type} (x:RM α) (f:α→RS→RM β) (g:β→RS→RM γ):bindR (bindR x f) g=bindR x (fun a s=>bindR (f a s) g):=by
 rcases x with _|⟨_|a,s⟩ <;> rfl
theorem goodEs_at {L:List Fn}:{l:List Ex}→GoodEs L l→(i:Nat)→(e:Ex)→l[i]?=some e→GoodE L e
 | [],_,i,e,h=>by simp at h
 | a::r,hg,0,e,h=>by
   simp only [GoodEs] at hg
   simp only [List.getElem?_cons_zero,Option.some.injEq] at h
   exact h ▸ hg.1
 | a::r,hg,i+1,e,h=>by
   simp only [GoodEs] at hg
   exact goodEs_at hg.2 i e (by simpa using h)
theorem pair_one (a:Int) (o:Option Addr) (n c:Nat):∀ u∈[Value.int .i64 a,.slice o n c],u.oneCell'=true:=by
 intro u hu
 simp only [List.mem_cons,List.not_mem_nil,or_false] at hu
 rcases hu with rfl|rfl <;> rfl
set_option maxRecDepth 100000 in
set_option maxHeartbeats 1600000 in
theorem ev_call {L:List Fn} {f:Nat} (ih:∀ k,k≤f→EvC L k) (ihc:CallC L f) (a:Int) (x:List UInt8) (args:List Ex) (b mb:Nat) (P M:Nat→Prop) (A:List (Nat×Nat)) (s:RS) (F:Fr) (fm n:Nat) (W:World) (v:Value) (r:Except Sig V×RS) (h:RAt W b mb L P M A s) (hF:FrAt W P M A fm n F) (hg:GoodE L (.call a x args)) (he:ExAt W (fun k=>¬ P k) (.call a x args) v) (hr:evE L (f+1) s F (.call a x args)=some r) :
 Calls Tryz.prog 120 #[.pointer (some ⟨b,0,none⟩),.map (some fm),v] W (Ran W b mb L P None M A retV r):=by
 have hmf:∀ (fn:Go.Fn) (first cap:Array Value) (w:World),(Instr.makeFunc fn first cap).run Tryz.prog w=.ok (.func fn first cap) w:=fun _ _ _ _=>rfl
 obtain ⟨W3,hW3⟩:∃ W3,W3=((W.alloc (.cells #[.pointer (some ⟨b,0,none⟩)] 108)).alloc (.cells #[.map (some fm)] 162)).alloc (.cells #[.int .i64 0,.slice none 0 0] 164):=⟨_,rfl⟩
 have HM:Hid (Mods None W W3):=hiD (by rw [hW3];exact (((Mods.refl _ _).alloc _).alloc _).alloc _)
 have HB:Hid (Bx W W3 P M b fm W.heap.size):=hiD (by rw [hW3];exact Bx.new fm h)
 have HR:=hiD (h.quiet HM.out)
 have HF:=hiD (hF.ext (Ext.quiet HM.out) (List.prefix_refl A))
 have HE:Hid (Ext None M M W W3):=hiD (Ext.quiet HM.out)
 simp only [ExAt] at he
 obtain ⟨av,es,⟨g,rfl,hpg,hv⟩,hrow,hex⟩:=he
 have hpg:P g:=Classical.not_not.1 hpg
 simp only [GoodE] at hg
 obtain ⟨hx1,hal,hfn,hge⟩:=hg
 obtain ⟨K,hK⟩:∃ K:List V→RS→RM V,K=fun vs s=>bindR (callR L f s x vs) fun n s=>okR (numV n) s:=⟨_,rfl⟩
 have hX:bindR (evA L f s F args []) K=some r:=by rw [← hr,hK];simp only [evE]
 have hm3:Mods (fun k=>¬ P k) W W3:=HM.out.mono fun _ _ f=>f.elim
 have HST:Hid (ArgSt W P M A b mb fm n L F f 0 args av es K r (.slice none 0 0) [] M A s W3):=hiD ⟨hX,HB.out,HR.out,HF.out,HE.out,List.prefix_refl A,Vals.none_ _ _ _ _ _,hrow.mods hm3 (fun _ _ k=>k),ExsAt.modsTo hm3 (fun _ _ k=>k) _ _ hex⟩
 obtain ⟨aa,ac,rfl⟩:=lex_form hrow.1
 obtain ⟨i0,hi,hz0,hz1,hz2⟩:=info_parts val_info
 have HI:=hiD (And.intro hi (And.intro hz0 (And.intro hz1 hz2)))
 have HV:Hid (Blk W3 g (cells8 5 a 0 x [] nilP nilP (.slice aa args.length ac)) 223):=hiD (hv.mods HM.out (fun f=>f))
 have d0:W3.cell? ⟨g,0,none⟩=some (.int .i64 5):=HV.out.cell rfl
 have d7:W3.cell? ⟨g,7,none⟩=some (.slice aa args.length ac):=HV.out.cell rfl
 have HPG:=hiD hpg
 have HGE:=hiD hge
 have HFN:=hiD hfn
 have HX1:=hiD hx1
 have HAL:=hiD hal
 have HIH:=hiD ih
 have HIC:=hiD ihc
 have hl:=hv.lt
 have HR0:=hiD h
 have HV0:=hiD hv
 have HFML:Hid (fm<W.heap.size):=hiD (by obtain ⟨F',k1,_⟩:=hF;exact k1.lt)
 obtain ⟨al,hal2⟩:∃ al,al=args.length:=⟨_,rfl⟩
 rw [← hal2] at d7
 have HALE:=hiD hal2
 clear h hv hpg hF hr ih ihc hge hfn hx1 hal hrow hex hX hm3 HB HR HF HE hi hz0 hz1 hz2 hal2
 go_enter Tryz.func120,Tryz.ntmps120
 go_upto_region 2 with (fail)
 rw [← hW3]
 clear hW3
 go_wp2_with fail
 go_loopw [9,11,120] (fun lv _ iv wr=>∃ k i vs M' A' s',k≤f∧i≤al∧iv=.int .i64 i∧vs.length=i∧Hid (ArgSt W P M A b mb fm n L F k i args (.slice aa args.length ac) es K r lv vs M' A' s' wr)) (fun _ _ iv _=>(al-intOf iv).toNat)
 case atStart=>exact ⟨f,0,[],M,A,s,Nat.le_refl _,Nat.zero_le _,rfl,rfl,HST⟩
 case round =>
  obtain ⟨k,i,vs,M',A',s',hk,hi,rfl,hvl,HS⟩:=hrel
  clear HST
  obtain ⟨cs,hcs1,hcs2,hcs3⟩:=HS.out.vals
  obtain ⟨oa,oc,rfl⟩:=lex_form hcs1
  have HCS:=hiD (And.intro hcs1 (And.intro hcs2 hcs3))
  clear hcs1 hcs2 hcs3
  by_cases hlt:i<al
  · obtain ⟨e,he⟩:∃ e,args[i]?=some e:=⟨args[i]'(by rw [← HALE.out];exact hlt),List.getElem?_eq_getElem _⟩
    have hdrop:args.drop i=e::args.drop (i+1):=by
        obtain ⟨h1,h2⟩:=List.getElem?_eq_some_iff.1 he
        rw [← h2]
        exact List.drop_eq_getElem_cons h1
    have hrun:=HS.out.run
    rw [hdrop] at hrun
    cases k with
    | zero=>simp only [evA,bindR] at hrun;cases hrun
    | succ k =>
      simp only [evA,bindR_assoc] at hrun
      have HX:=hiD hrun
      obtain ⟨qa,qy,rfl,hcell,hex,h3,h4,h5⟩:=row_ptr HS.out.row HS.out.exs he
      have HCX:=hiD (fun y hy=>HIH.out k (by omega) e b mb P None M' A' s' F fm n wr _ y HS.out.rat HS.out.fr (goodEs_at HGE.out i e he) hex hy)
      have HE:=hiD HS.out.ext
      have HA:=hiD HS.out.pre
      have b3:=HS.out.bx.c3.cell (i:=0) rfl
      have b4:=HS.out.bx.c4.cell (i:=0) rfl
      have hil:(i:Int)<(al:Int):=by omega
      have hac:(al:Int)≤(ac:Int):=by have:=HALE.out;omega
      unfold maxLen at h5
      clear he hdrop hrun hex h3 h4
      go_wp2_with fail
      go_at_call 120
      refine rbind_of HE HA HX HCX.out ?_ ?_
      · rintro g s' rfl older w H
        obtain ⟨M',A',k1,k2,k3⟩:=H.out
        go_wp2
        exact ⟨rfl,⟨older,rfl⟩,M',A',k1,k2,k3⟩
      · rintro y s2-HX2 e2 w M2 A2 ⟨yv,rfl,hyv⟩ HR2 HE2 HE3 HA2 HA3
        obtain ⟨k3,ya,yn,rfl,-,-⟩:=hyv.len HR2.out
        have HYV:=hiD hyv
        obtain ⟨t1,t2,⟨cs2,v1,v2,v3⟩,t4,t5⟩:=HS.out.step HR2.out HE2.out HE3.out HA2.out HA3.out
        have hmA:Mods None w (w.alloc (.cells #[.int .i64 k3,.slice ya yn yn] 164)):=(Mods.refl _ _).alloc _
        have hbase:W.heap.size+3≤(w.alloc (.cells #[.int .i64 k3,.slice ya yn yn] 164)).heap.size:=by have h1:=t1.c6.lt;have h2:=hmA.size;omega
        have HO4:=hiD (hmA.ownsRow v1 (fun k hk f=>f))
        have HT:=hiD (And.intro t1 (And.intro t2 (And.intro t4 t5)))
        have HV2:=hiD (And.intro v2 v3)
        have HMA:=hiD hmA
        have HBS:=hiD hbase
        have HVL:=hiD hvl
        have HLT:=hiD hlt
        have HKL:=hiD hk
        clear t1 t2 t4 t5 v1 v2 v3 hmA hbase hyv HX HCX HCS HE HA b3 b4 hil hac h5 hcell hvl hlt hi hk
        go_wp2_with (at_builtin;refine wpList_append_own_at _ rfl _ _ 160 rfl (W.heap.size+3) 164 i0 _ 2 32 Tryz.underlying160 HI.out.1 HI.out.2.1 HI.out.2.2.1 HI.out.2.2.2 rfl (by decide) (.slice oa vs.length oc) vs.length cs2 rfl HO4.out ⟨w.heap.size,0,none⟩ 1 1 [.int .i64 k3,.slice ya yn yn] rfl rfl (two_new _ _ _ _) (pair_one _ _ _ _) (by have h1:=HAL.out;have h2:=HALE.out;have h3:=HVL.out;have h4:=HLT.out;unfold maxLen;omega) (by have h1:=HAL.out;have h2:=HALE.out;have h3:=HVL.out;have h4:=HLT.out;omega) HBS.out ?_;intro v' w5 hown hgrow hnil hloc;have HOW:=hiD hown;have HGR:=hiD (grew_of hgrow hloc);clear hown hgrow hnil hloc;refine Hid.out ?_)
        refine hiD ?_
        obtain ⟨qa,qc,rfl⟩:=lex_form HOW.out
        have hi7:i<1000000:=by have h1:=HAL.out;have h2:=HALE.out;have h4:=HLT.out;omega
        go_wp2_with fail
        have hlt:=HLT.out
        have hvl:=HVL.out
        refine ⟨⟨k,i+1,vs++[y],M2,A2,s2,by have:=HKL.out;omega,by omega,by go_num,by simp [hvl],hiD ?_⟩,by simp [intOf];omega⟩
        have hS:∀ j,(Value.slice oa vs.length oc).ownBlock=some j→W.heap.size+3≤j:=fun j hj=>(HO4.out.lt j hj).1
        have hgm:=HGR.out.mods
        obtain ⟨t1,t2,t4,t5⟩:=HT.out
        have hfm:fm<W.heap.size+3:=by have:=HFML.out;omega
        have hmP:Mods (fun k=>¬ P k) w w5:=(HMA.out.mono fun _ _ f=>f.elim).trans (hgm.mono fun j _ hj=>(HV2.out.1 j hj).2)
        exact ⟨HX2.out,(t1.step (Ext.quiet HMA.out)).aside hgm hS,(HR2.out.quiet HMA.out).aside hgm HV2.out.1,(t2.ext (Ext.quiet HMA.out) (List.prefix_refl _)).aside hgm (fun hj=>by have:=hS _ hj;omega),(HE3.out.trans (Ext.quiet HMA.out)).new hgm (fun j h1 h2=>by have:=hS j h2;omega),HA3.out,
         Vals.grow HO4.out HV2.out.1 HV2.out.2 HOW.out HGR.out.loc (fun j hj=>Nat.lt_of_lt_of_le (HR2.out.old j hj) HMA.out.size) (fun j hj=>Nat.lt_of_lt_of_le (HR2.out.given j hj) HMA.out.size) HYV.out,t4.mods hmP (fun _ _ k=>k),ExsAt.modsTo hmP (fun _ _ k=>k) _ _ t5⟩
  · obtain rfl:i=al:=by omega
    have hrun:=HS.out.run
    have hd:args.drop i=[]:=by rw [HALE.out];exact List.drop_length
    rw [hd] at hrun
    cases k with
    | zero=>simp only [evA,bindR] at hrun;cases hrun
    | succ k =>
      simp only [evA,okR,bindR,hK] at hrun
      have hrun:bindR (callR L f s' x vs) (fun n s=>okR (numV n) s)=some r:=hrun
      have HX:=hiD hrun
      have hil:¬ (i:Int)<(i:Int):=by omega
      have HE:=hiD (HS.out.ext.trans (Ext.quiet (Mods.refl None wr).drew))
      have HA:=hiD HS.out.pre
      have HB:=hiD (HS.out.bx.step (Ext.quiet (Mods.refl None wr).drew))
      have HCX:=hiD (fun y hy=>HIC.out x vs b mb (W.heap.size+3) P M' A' s' wr.drew _ y (HS.out.rat.quiet (Mods.refl None wr).drew) (HS.out.vals.ext (Ext.quiet (Mods.refl None wr).drew) (List.prefix_refl _)) HX1.out (by
       obtain ⟨fn,h1,h2⟩:=HFN.out
       exact ⟨fn,h1,by rw [hvl,HALE.out,h2]⟩) hy)
      have d3:wr.cell? ⟨g,3,none⟩=some (str x):=(blk_on HV0.out HPG.out HR0.out HS.out.ext).cell rfl
      have b3:=HS.out.bx.c3.cell (i:=0) rfl
      clear hrun hd HCS hK hi hk hvl hlt
      unfold str at *
      go_wp2_with fail
      go_still_tail 6,(by kernel_rfl)
      change wpList _ _ _ _ _ wr.drew
      obtain ⟨w4,hw4⟩:∃ w4,w4=wr.drew:=⟨_,rfl⟩
      rw [← hw4] at HE HB HCX ⊢
      clear hw4 d3 b3
      go_wp2_with fail
      go_at_call 45
      refine rbind_of HE HA HX HCX.out ?_ ?_
      · rintro g s' rfl older w H
        obtain ⟨M',A',k1,k2,k3⟩:=H.out
        go_wp2
        exact ⟨rfl,⟨older,rfl⟩,M',A',k1,k2,k3⟩
      · rintro k5 s2-HX2 e w M2 A2 HEQ HR2 HE2 HE3 HA2 HA3
        obtain rfl:=HEQ
        have HX3:=hiD (Option.some.inj HX2.out).symm
        have HB2:=hiD (HB.out.step HE2.out)
        have r0:=HB2.out.c6.cell (i:=0) rfl
        have r1:=HB2.out.c6.cell (i:=1) rfl
        have z0:=HB2.out.c6.free 0
        have z1:=HB2.out.c6.free 1
        clear HX HX2 HCX HS
        go_wp2_with fail
        rw [HX3.out]
        exact HB2.out.ret HR2.out HE3.out HA3.out (Or.inl ⟨rfl,rfl⟩) rfl rfl rfl rfl
set_option maxRecDepth 100000 in
set_option maxHeartbeats 1000000 in
theorem ev_bin {L:List Fn} {f:Nat} (ih:EvC L f) (a:Int) (op:List UInt8) (x y:Ex) (b mb:Nat) (P M:Nat→Prop) (A:List (Nat×Nat)) (s:RS) (F:Fr) (fm n:Nat) (W:World) (v:Value) (r:Except Sig V×RS) (h:RAt W b mb L P M A s) (hF:FrAt W P M A fm n F) (hg:GoodE L (.bin a op x y)) (he:ExAt W (fun k=>¬ P k) (.bin a op x y) v) (hr:evE L (f+1) s F (.bin a op x y)=some r) :
 Calls Tryz.prog 120 #[.pointer (some ⟨b,0,none⟩),.map (some fm),v] W (Ran W b mb L P None M A retV r):=by
 have hmf:∀ (fn:Go.Fn) (first cap:Array Value) (w:World),(Instr.makeFunc fn first cap).run Tryz.prog w=.ok (.func fn first cap) w:=fun _ _ _ _=>rfl
 obtain ⟨W3,hW3⟩:∃ W3,W3=((W.alloc (.cells #[.pointer (some ⟨b,0,none⟩)] 108)).alloc (.cells #[.map (some fm)] 162)).alloc (.cells #[.int .i64 0,.slice none 0 0] 164):=⟨_,rfl⟩
 have HM:Hid (Mods None W W3):=hiD (by rw [hW3];exact (((Mods.refl _ _).alloc _).alloc _).alloc _)
 have HB:Hid (Bx W W3 P M b fm W.heap.size):=hiD (by rw [hW3];exact Bx.new fm h)
 have HR:=hiD (h.quiet HM.out)
 have HF:=hiD (hF.ext (Ext.quiet HM.out) (List.prefix_refl A))
 have HE:Hid (Ext None M M W W3):=hiD (Ext.quiet HM.out)
 have HA:=hiD (List.prefix_refl A)
 simp only [ExAt] at he
 obtain ⟨xv,yv,⟨g,rfl,hpg,hv⟩,hxv,hyv⟩:=he
 simp only [GoodE] at hg
 have hxv:=ex_on hxv h HE.out
 have hyv:=ex_on hyv h HE.out
 have HN:=hiD (numC_of ih hg.1 P b mb fm W.heap.size F xv M A s n W W3 HB.out HR.out HF.out hxv)
 have HN2:=hiD (numC_of ih hg.2 P b mb fm W.heap.size F yv)
 have hpg:P g:=Classical.not_not.1 hpg
 have HY:=hiD (And.intro hyv hpg)
 have HV:Hid (Blk W3 g (cells8 3 a 0 [] op xv yv nilS) 223):=hiD (hv.mods HM.out (fun f=>f))
 have d0:W3.cell? ⟨g,0,none⟩=some (.int .i64 3):=HV.out.cell rfl
 have d5:W3.cell? ⟨g,5,none⟩=some xv:=HV.out.cell rfl
 obtain ⟨xg,rfl⟩:=hxv.ptr
 obtain ⟨yg,rfl⟩:=hyv.ptr
 have hl:=hv.lt
 clear h hv hpg hF hg hxv hyv ih
 by_cases hop:op=[38,38]∨op=[124,124]
 · have HX:Hid (bindR (evN L f s F x) (fun k s=>if (k != 0)=(op==[124,124]) then okR (numV (oneB (k != 0))) s else bindR (evE L f s F y) fun b s=>okR (numV (oneB (b.n != 0))) s)=some r):=hiD (by rw [bindN,← hr];simp only [evE,if_pos hop,bindN])
   have hop2:Hid (op=[38,38]∨op=[124,124]):=hiD hop
   clear hr hop
   go_enter Tryz.func120,Tryz.ntmps120
   go_upto_region 2 with (fail)
   rw [← hW3]
   clear hW3
   go_wp2_with fail
   go_at_call 130
   refine rbind_of HE HA HX HN.out ?_ ?_
   · rintro g s' rfl older w H
     obtain ⟨M',A',k1,k2,k3⟩:=H.out
     go_wp2
     exact ⟨rfl,⟨older,rfl⟩,M',A',k1,k2,k3⟩
   · rintro k s'-HX2 e w M' A' HEQ HR2 HE2 HE3 HA2 HA3
     obtain rfl:=HEQ
     have HB2:=hiD (HB.out.step HE2.out)
     have HF2:=hiD (HF.out.ext HE2.out HA2.out)
     have HV2:=hiD (blk_on HV.out HY.out.2 HR.out HE2.out)
     have e4:w.cell? ⟨g,4,none⟩=some (.string ⟨op.toArray⟩):=HV2.out.cell rfl
     have e6:w.cell? ⟨g,6,none⟩=some (.pointer (some ⟨yg,0,none⟩)):=HV2.out.cell rfl
     have hyv2:=ex_on HY.out.1 HR.out HE2.out
     have HX3:=hiD HX2.out
     obtain ⟨c,hc⟩:∃ c,c=(k != 0):=⟨_,rfl⟩
     have HX4:Hid ((if c=(op==[124,124]) then okR (numV (oneB c)) s' else bindR (evN L f s' F y) fun b s=>okR (numV (oneB (b != 0))) s)=some r):=hiD (by rw [bindN,hc];exact HX2.out)
     have hc1:(k != 0)=c:=hc.symm
     have HN3:=hiD (HN2.out M' A' s' n W w HB2.out HR2.out HF2.out hyv2)
     clear hc HX HX2 HX3 HN HN2 d0 d5 hyv2 HF HV
     rcases hop2.out with rfl|rfl
     all_goals
        clear hop2
        cases c
        all_goals
         first
         | (have HX5:=hiD ((Option.some.inj HX4.out).symm:r=(.ok (numV (oneB _)),s'))
            clear HX4 HN3
            have r0:=(HB2.out).c6.cell (i:=0) rfl
            have r1:=(HB2.out).c6.cell (i:=1) rfl
            have z0:=(HB2.out).c6.free 0
            have z1:=(HB2.out).c6.free 1
            go_wp2_with fail
            go_at_call 131
            refine (one_any _ _).mono ?_
            rintro e w1 ⟨rfl,rfl⟩
            go_wp2_with fail
            rw [HX5.out]
            exact HB2.out.ret HR2.out HE3.out HA3.out (Or.inl ⟨rfl,rfl⟩) rfl rfl rfl rfl)
         | (have HX5:Hid (bindR (evN L f s' F y) (fun b s=>okR (numV (oneB (b != 0))) s)=some r):=hiD HX4.out
            clear HX4
            go_wp2_with fail
            go_at_call 130
            refine rbind_of HE3 HA3 HX5 HN3.out ?_ ?_
            · rintro g s' rfl older w H
              obtain ⟨M',A',k1,k2,k3⟩:=H.out
              go_wp2
              exact ⟨rfl,⟨older,rfl⟩,M',A',k1,k2,k3⟩
            · rintro k2 s''-HX6 e w5 M5 A5 HEQ HR5 HE5 HE6 HA5 HA6
              obtain rfl:=HEQ
              have HB5:=hiD (HB2.out.step HE5.out)
              have r0:=(HB5.out).c6.cell (i:=0) rfl
              have r1:=(HB5.out).c6.cell (i:=1) rfl
              have z0:=(HB5.out).c6.free 0
              have z1:=(HB5.out).c6.free 1
              have HX7:=hiD (Option.some.inj HX6.out).symm
              obtain ⟨c2,hc2⟩:∃ c,c=(k2 != 0):=⟨_,rfl⟩
              rw [← hc2] at HX7
              have hc3:(k2 != 0)=c2:=hc2.symm
              clear hc2 HX5 HX6 HN3
              cases c2
              all_goals
               go_wp2_with fail
               go_at_call 131
               refine (one_any _ _).mono ?_
               rintro e w1 ⟨rfl,rfl⟩
               go_wp2_with fail
               rw [HX7.out]
               exact HB5.out.ret HR5.out HE6.out HA6.out (Or.inl ⟨rfl,rfl⟩) rfl rfl rfl rfl)
 · have HX:Hid (bindR (evN L f s F x) (fun k s=>bindR (evN L f s F y) fun b s=>match twoP op k b with
        | some n=>okR (numV n) s
        | none=>stopR 2 s)=some r):=hiD (by
    simp only [bindN]
    rw [← hr]
    simp only [evE,if_neg hop]
    congr 1)
   have hop1:(op==[38,38])=false:=by simpa using fun h=>hop (Or.inl h)
   have hop2:(op==[124,124])=false:=by simpa using fun h=>hop (Or.inr h)
   clear hr hop
   go_enter Tryz.func120,Tryz.ntmps120
   go_upto_region 2 with (fail)
   rw [← hW3]
   clear hW3
   go_wp2_with fail
   go_at_call 130
   refine rbind_of HE HA HX HN.out ?_ ?_
   · rintro g s' rfl older w H
     obtain ⟨M',A',k1,k2,k3⟩:=H.out
     go_wp2
     exact ⟨rfl,⟨older,rfl⟩,M',A',k1,k2,k3⟩
   · rintro k s'-HX2 e w M' A' HEQ HR2 HE2 HE3 HA2 HA3
     obtain rfl:=HEQ
     have HB2:=hiD (HB.out.step HE2.out)
     have HF2:=hiD (HF.out.ext HE2.out HA2.out)
     have HV2:=hiD (blk_on HV.out HY.out.2 HR.out HE2.out)
     have e4:w.cell? ⟨g,4,none⟩=some (.string ⟨op.toArray⟩):=HV2.out.cell rfl
     have e6:w.cell? ⟨g,6,none⟩=some (.pointer (some ⟨yg,0,none⟩)):=HV2.out.cell rfl
     have hyv2:=ex_on HY.out.1 HR.out HE2.out
     clear HX HN d0 d5 HF HV
     have HMD:Mods None w w.drew:=(Mods.refl _ _).drew
     have HE4:Hid (Ext None M M' W w.drew):=hiD (HE3.out.trans (Ext.quiet HMD))
     have HB4:=hiD (HB2.out.step (Ext.quiet HMD))
     have HR4:=hiD (HR2.out.quiet HMD)
     have HV4:=hiD (HV2.out.mods HMD (fun f=>f))
     have HN3:=hiD (HN2.out M' A' s' n W w.drew HB4.out HR4.out (HF2.out.ext (Ext.quiet HMD) (List.prefix_refl _)) (ex_on hyv2 HR2.out (Ext.quiet HMD)))
     have HPG:=hiD HY.out.2
     clear HN2 hyv2 HMD HF2 HY HB2 HR2 HV2 HE2 HE3
     obtain ⟨z,hz⟩:∃ z,z=evN L f s' F y:=⟨_,rfl⟩
     have HX4:Hid (bindR z (fun b s=>match twoP op k b with
        | some n=>okR (numV n) s
        | none=>stopR 2 s)=some r):=hiD (by rw [hz];exact HX2.out)
     clear HX2
     rcases z with _|⟨g'|k2,s''⟩
     · cases HX4.out
     · obtain rfl:=(Option.some.inj HX4.out).symm
       have HN4:=hiD (HN3.out _ hz.symm)
       clear hz HN3 HX4
       unfold Ran at HN4 ⊢
       go_wp2_with fail
       go_region_with (first|(go_at_call 130;refine HN4.out.mono ?_;rintro e w5 ⟨⟨older,rfl⟩,M5,A5,k1,k2,k3⟩;refine no_way Tryz.prog w5 ⟨rfl,⟨older,rfl⟩,M5,A5,k1,HE4.out.trans k2,HA3.out.trans k3⟩ ?_))
       all_goals trivial
     · have HN4:=hiD (HN3.out _ hz.symm)
       clear hz HN3
       cases ht:twoP op k k2 with
       | none =>
         obtain rfl:r=(.error (.stop 2),s''):=by have:=HX4.out;simp only [bindR,ht] at this;exact (Option.some.inj this).symm
         have HT:=hiD (two_any op k k2)
         rw [ht] at HT
         clear ht HX4
         unfold Ran at HN4 ⊢
         go_wp2_with fail
         go_region_with (first|(go_at_call 130;refine HN4.out.mono ?_;rintro e w5 ⟨M5,A5,rfl,k1,k2,k3⟩;have e5:w5.cell? ⟨g,4,none⟩=some (.string ⟨op.toArray⟩):=(blk_on HV4.out HPG.out HR4.out k2).cell rfl;have HK:=hiD (And.intro k1 (And.intro k2 k3));clear k1 k2 k3)|(go_at_call 132;refine (HT.out _).mono ?_;rintro e w6 ⟨⟨older,rfl⟩,rfl⟩;refine no_way Tryz.prog w5 ⟨rfl,⟨older,rfl⟩,M5,A5,HK.out.1,HE4.out.trans HK.out.2.1,HA3.out.trans HK.out.2.2⟩ ?_))
         all_goals trivial
       | some k3 =>
         obtain rfl:r=(.ok (numV k3),s''):=by have:=HX4.out;simp only [bindR,ht] at this;exact (Option.some.inj this).symm
         have HT:=hiD (two_any op k k2)
         rw [ht] at HT
         clear ht HX4
         unfold Ran at HN4
         go_wp2_with fail
         go_region_with (first|(go_at_call 130;refine HN4.out.mono ?_;rintro e w5 ⟨M5,A5,rfl,k1,k2,k3⟩;have e5:w5.cell? ⟨g,4,none⟩=some (.string ⟨op.toArray⟩):=(blk_on HV4.out HPG.out HR4.out k2).cell rfl;have HB5:=hiD (HB4.out.step k2);have r0:=HB5.out.c6.cell (i:=0) rfl;have r1:=HB5.out.c6.cell (i:=1) rfl;have z0:=HB5.out.c6.free 0;have z1:=HB5.out.c6.free 1;have HK:=hiD (And.intro k1 (And.intro k2 k3));clear k1 k2 k3)|(go_at_call 132;refine (HT.out _).mono ?_;rintro e w6 ⟨rfl,rfl⟩))
         all_goals
          go_wp2_with fail
          exact HB5.out.ret HK.out.1 (HE4.out.trans HK.out.2.1) (HA3.out.trans HK.out.2.2) (Or.inl ⟨rfl,rfl⟩) rfl rfl rfl rfl
theorem ran_more {α:Type} {W w:World} {b mb:Nat} {L:List Fn} {P T T' M:Nat→Prop} {A:List (Nat×Nat)} {ok:α→(Nat→Prop)→List (Nat×Nat)→Ending→World→Prop} {r:Except Sig α×RS} {e:Ending} (h:Ran W b mb L P T M A ok r e w) (hT:∀ k,k<W.heap.size→T k→T' k):Ran W b mb L P T' M A ok r e w:=by
 obtain ⟨_|x,s⟩:=r
 · obtain ⟨h0,M',A',h1,h2,h3⟩:=h
   exact ⟨h0,M',A',h1,h2.more hT,h3⟩
 · obtain ⟨M',A',h0,h1,h2,h3⟩:=h
   exact ⟨M',A',h0,h1,h2.more hT,h3⟩
theorem expr_zero (L:List Fn):EvC L 0:=by
 intro e b mb P T M A s F fm n W v r h hF hg he hr
 cases e <;> simp [evE] at hr
theorem expr_any {L:List Fn} {f:Nat} (ih:∀ k,k≤f→EvC L k) (ihc:CallC L f):EvC L (f+1):=by
 intro e b mb P T M A s F fm n W v r h hF hg he hr
 suffices key:Calls Tryz.prog 120 #[.pointer (some ⟨b,0,none⟩),.map (some fm),v] W (Ran W b mb L P None M A retV r) from key.mono (fun e w hx=>ran_more hx (fun _ _ f=>f.elim))
 have ihf:=ih f (Nat.le_refl f)
 cases e with
 | num a k =>
   simp only [evE] at hr
   obtain rfl:=(Option.some.inj hr).symm
   exact ev_num (f:=f) a k b mb P M A s fm W v h he
 | var a x=>exact ev_var ihf a x b mb P M A s F fm n W v r h hF hg he hr
 | bin a op x y=>exact ev_bin ihf a op x y b mb P M A s F fm n W v r h hF hg he hr
 | un a op x=>exact ev_un ihf a op x b mb P M A s F fm n W v r h hF hg he hr
 | call a g l=>exact ev_call ih ihc a g l b mb P M A s F fm n W v r h hF hg he hr
 | new a x=>exact ev_new ihf a x b mb P M A s F fm n W v r h hF hg he hr
 | len a x=>exact ev_len ihf a x b mb P M A s F fm n W v r h hF hg he hr
 | item a x y=>exact ev_item ihf a x y b mb P M A s F fm n W v r h hF hg he hr
 | input a=>exact ev_input ihf a b mb P M A s F fm n W v r h hF hg he hr
def Less {α:Type} (s:RS) (x:RM α):Prop:=∀ y,x=some y→y.2.fuel≤s.fuel
theorem Less.ok {α:Type} {s s':RS} (a:α) (h:s'.fuel≤s.fuel):Less s (okR a s'):=by
 intro y hy
 obtain rfl:=(Option.some.inj hy).symm
 exact h
theorem Less.err {α:Type} {s s':RS} (g:Sig) (h:s'.fuel≤s.fuel):Less s (some ((Except.error g:Except Sig α),s')):=by
 intro y hy
 obtain rfl:=(Option.some.inj hy).symm
 exact h
theorem Less.bind {α β:Type} {s:RS} {x:RM α} {f:α→RS→RM β} (h:Less s x) (hf:∀ a t,t.fuel≤s.fuel→Less s (f a t)):Less s (bindR x f):=by
 rcases x with _|⟨_|a,t⟩
 · intro y hy;cases hy
 · exact Less.err _ (h _ rfl)
 · exact hf a t (h _ rfl)
theorem Less.to {α:Type} {s t:RS} {x:RM α} (h:Less t x) (hs:t.fuel≤s.fuel):Less s x:=fun y hy=>Nat.le_trans (h y hy) hs
theorem Less.none_ {α:Type} (s:RS):Less s (none:RM α):=by intro y hy;cases hy
theorem stepR_less (s:RS):Less s (stepR s):=by
 unfold stepR
 split
 · exact Less.err _ (Nat.le_refl _)
 · exact Less.ok _ (Nat.sub_le _ _)
theorem placeR_less (s:RS) (v:V) (i:Int):Less s (placeR s v i):=by
 unfold placeR
 split
 · exact Less.err _ (Nat.le_refl _)
 · exact Less.ok _ (Nat.le_refl _)
theorem putArr_fuel (s:RS) (v:V) (i x:Int):(putArr s v i x).fuel=s.fuel:=by
 unfold putArr
 split <;> rfl
theorem less_all (L:List Fn):∀ f,(∀ s F e,Less s (evE L f s F e))∧(∀ s F l vs,Less s (evA L f s F l vs))∧(∀ s g vs,Less s (callR L f s g vs))∧(∀ s F l,Less s (blockR L f s F l))∧(∀ s F x,Less s (stmtR L f s F x))∧(∀ s F v t,Less s (whileR L f s F v t)):=by
 intro f
 induction f with
 | zero=>refine ⟨fun s F e=>?_,fun s F l vs=>?_,fun s g vs=>?_,fun s F l=>?_,fun s F x=>?_,fun s F v t=>?_⟩ <;> simp only [evE,evA,callR,blockR,stmtR,whileR] <;> exact Less.none_ _
 | succ f ih =>
   obtain ⟨i1,i2,i3,i4,i5,i6⟩:=ih
   refine ⟨fun s F e=>?_,fun s F l vs=>?_,fun s g vs=>?_,fun s F l=>?_,fun s F x=>?_,fun s F v t=>?_⟩
   · cases e with
     | num a k=>simp only [evE];exact Less.ok _ (Nat.le_refl _)
     | var a x=>simp only [evE];exact Less.ok _ (Nat.le_refl _)
     | un a op x=>simp only [evE];exact (i1 s F x).bind fun v t ht=>Less.ok _ ht
     | bin a op x y =>
       simp only [evE]
       refine (i1 s F x).bind fun v t ht=>?_
       split
       · split
         · exact Less.ok _ ht
         · exact ((i1 t F y).to ht).bind fun v2 t2 ht2=>Less.ok _ ht2
       · refine ((i1 t F y).to ht).bind fun v2 t2 ht2=>?_
         split
         · exact Less.ok _ ht2
         · exact Less.err _ ht2
     | call a g l=>simp only [evE];exact (i2 s F l []).bind fun vs t ht=>((i3 t g vs).to ht).bind fun n t2 ht2=>Less.ok _ ht2
     | new a x =>
       simp only [evE]
       refine (i1 s F x).bind fun v t ht=>?_
       split
       · exact Less.err _ ht
       · exact Less.ok _ ht
     | len a x=>simp only [evE];exact (i1 s F x).bind fun v t ht=>Less.ok _ ht
     | item a x y=>simp only [evE];exact (i1 s F x).bind fun v t ht=>((i1 t F y).to ht).bind fun k t2 ht2=>((placeR_less t2 v k.n).to ht2).bind fun n t3 ht3=>Less.ok _ ht3
     | input a =>
       simp only [evE]
       split
       · exact Less.ok _ (Nat.le_refl _)
       · exact Less.ok _ (Nat.le_refl _)
   · cases l with
     | nil=>simp only [evA];exact Less.ok _ (Nat.le_refl _)
     | cons e r=>simp only [evA];exact (i1 s F e).bind fun v t ht=>(i2 t F r _).to ht
   · simp only [callR]
     split
     · exact Less.err _ (Nat.le_refl _)
     · have hb:=i4 { s with calls:=s.calls+1 } (bindParams [] (fnGet L g).params vs) (fnGet L g).body
       split
       all_goals first|exact Less.none_ _|exact Less.ok _ (hb _ ‹_›)|exact Less.err _ (hb _ ‹_›)
   · cases l with
     | nil=>simp only [blockR];exact Less.ok _ (Nat.le_refl _)
     | cons x r=>simp only [blockR];exact (i5 s F x).bind fun F t ht=>(i4 t F r).to ht
   · simp only [stmtR]
     refine (stepR_less s).bind fun _ t ht=>?_
     cases x with
     | var a n v=>exact ((i1 t F v).to ht).bind fun y t2 ht2=>Less.ok _ ht2
     | set a n v=>exact ((i1 t F v).to ht).bind fun y t2 ht2=>Less.ok _ ht2
     | put a n i v=>exact ((i1 t F i).to ht).bind fun k t2 ht2=>((i1 t2 F v).to ht2).bind fun y t3 ht3=>((placeR_less t3 _ _).to ht3).bind fun _ t4 ht4=>Less.ok _ (by rw [putArr_fuel];exact ht4)
     | cond a v t1 e1 =>
       refine ((i1 t F v).to ht).bind fun c t2 ht2=>?_
       split
       · exact (i4 t2 F t1).to ht2
       · exact (i4 t2 F e1).to ht2
     | loop a v t1=>exact (i6 t F v t1).to ht
     | ret a v=>exact ((i1 t F v).to ht).bind fun y t2 ht2=>Less.err _ ht2
     | print a v =>
       refine ((i1 t F v).to ht).bind fun y t2 ht2=>?_
       split
       · exact Less.err _ ht2
       · exact Less.ok _ ht2
     | call a v=>exact ((i1 t F v).to ht).bind fun _ t2 ht2=>Less.ok _ ht2
   · simp only [whileR]
     refine (i1 s F v).bind fun c t1 ht=>?_
     split
     · exact ((i4 t1 F t).to ht).bind fun F2 t2 ht2=>((stepR_less t2).to ht2).bind fun _ t3 ht3=>(i6 t3 F2 v t).to ht3
     · exact Less.ok _ ht
end Go.Proofs.YtnicpmoanjddbaaGreatDoor.TreeP

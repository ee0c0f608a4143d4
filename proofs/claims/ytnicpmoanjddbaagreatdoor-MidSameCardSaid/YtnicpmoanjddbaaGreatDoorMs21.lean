/- A step that goes on with the next one: constants. Conditions: what it has lies; the step is right. Steps: copy, len. Printed by mkmst.py. Conditions: what it has lies; the step is right. Steps: two, print, input. Printed by mkmst.py. Conditions: what it has lies; the step is right. Steps: new, load, store, input. Printed by mkmst.py. Conditions: what it has lies; the step is right. Steps: load, store. Printed by mkmst.py. Conditions: what it has lies; the step is right. A step that goes on with the next one: each code. Printed by mkmst.py. Conditions: what it has lies; the step is right. -/
import Derived.Test.YtnicpmoanjddbaaGreatDoorMs13
import Derived.Test.YtnicpmoanjddbaaGreatDoorMs20
import Derived.Test.YtnicpmoanjddbaaGreatDoorMs03
namespace Go.Proofs.YtnicpmoanjddbaaGreatDoor.MidP
open Go.RowKit Go.Proofs.YtnicpmoanjddbaaGreatDoor.Wo Go.Maps Go.Proofs.YtnicpmoanjddbaaGreatDoor.TreeP
set_option linter.unusedVariables false
set_option linter.unusedSimpArgs false
theorem place_of_kind {f:Fm} {p:Int} (h:kindP f p > 0):∃ n:Nat,p=n∧n<f.types.length:=by
 unfold kindP at h
 split at h
 · omega
 · rename_i h2
   exact ⟨p.toNat,by omega,by omega⟩
theorem fit_place {f:Fm} {t p:Int} (ht:t > 0) (h:fitB f t p=true):∃ n:Nat,p=n∧n<f.types.length:=by
 apply place_of_kind
 unfold fitB at h
 simp only [ht,decide_true,Bool.true_and,Bool.not_eq_true',bne_eq_false_iff_eq] at h
 rw [h]
 exact ht
def retP (g:Nat) (P:Nat→Prop):Pl→(Nat→Prop)→List (Nat×Nat)→Ending→World→Prop:=fun v M A e w=>e=.returned (.tuple #[])∧PlAt w P M A g v
def StepC (L:List Fm) (F:Fm) (x:Stp):Prop:=∀ (v:Pl) (b mb g c:Nat) (P M:Nat→Prop) (A:List (Nat×Nat)) (s:RS) (W:World) (xv:Value) (r:Except Sig Pl×RS),RAt W b mb L P M A s→PlAt W P M A g v→v.length=F.types.length→v.length≤c→c≤1000000→StpV W (fun k=>¬ P k) x xv→rightB L F x=true→stepM v x s=some r →
 Calls Tryz.prog 52 #[.pointer (some ⟨b,0,none⟩),.slice (some ⟨g,0,none⟩) v.length c,xv] W (Ran W b mb L P (·=g) M A (retP g P) r)
structure Sx (W0 w:World) (P M:Nat→Prop) (g q:Nat) (cs:List Value):Prop where
 blk:Blk w q cs 57
 nm:¬ M q∧¬ P q
 far:q≠g
 at_:W0.heap.size≤q
theorem Sx.step {W0 w w':World} {P T M M':Nat→Prop} {g q:Nat} {cs:List Value} (h:Sx W0 w P M g q cs) (hE:Ext T M M' w w') (hT:¬ T q):Sx W0 w' P M' g q cs :=
 ⟨(keep_blk h.blk hE h.nm.1 hT).1,⟨(keep_blk h.blk hE h.nm.1 hT).2,h.nm.2⟩,h.far,h.at_⟩
theorem Sx.new {W:World} {b mb g:Nat} {L:List Fm} {P M:Nat→Prop} {A:List (Nat×Nat)} {s:RS} {v:Pl} (h:RAt W b mb L P M A s) (hv:PlAt W P M A g v) (cs:List Value):Sx W (W.alloc (.cells cs.toArray 57)) P M g W.heap.size cs:=by
 refine ⟨?_,⟨fun hm=>absurd (h.old _ hm) (Nat.lt_irrefl _),fun hp=>absurd (h.given _ hp) (Nat.lt_irrefl _)⟩,?_,Nat.le_refl _⟩
 · have:=Blk.new W cs.toArray 57
   simpa using this
 · obtain ⟨cs2,k1,_⟩:=hv
   have:=k1.lt
   omega
set_option maxRecDepth 100000 in
set_option maxHeartbeats 1000000 in
theorem st_const {L:List Fm} {F:Fm} {x:Stp} (hc:x.code=1):StepC L F x:=by
 intro v b mb g c P M A s W xv r h hv hvl hvc hc1 hx hok hr
 obtain ⟨aa,ac,rfl,hargs⟩:=hx
 have hf:fitB F 1 x.dst=true:=by
  unfold rightB at hok
  simp only [hc,formsP] at hok
  simp at hok
  exact hok.1.1.1
 obtain ⟨p,hp,hpl⟩:=fit_place (by omega) hf
 unfold stepM at hr
 rw [if_pos hc] at hr
 obtain rfl:=(Option.some.inj hr).symm
 obtain ⟨xc,xd,xa,xb,xe,xn,xo,xl,xm,xs⟩:=x
 simp only at hc hp
 subst hc hp
 simp only
 obtain ⟨W1,hW1⟩:∃ W1,W1=W.alloc (.cells (stpL ⟨1,(p:Int),xa,xb,xe,xn,xo,xl,xm,xs⟩ (.slice aa xs.length ac)).toArray 57):=⟨_,rfl⟩
 have HM:Mods None W W1:=by rw [hW1];exact (Mods.refl _ _).alloc _
 have HS:Hid (Sx W W1 P M g W.heap.size (stpL ⟨1,(p:Int),xa,xb,xe,xn,xo,xl,xm,xs⟩ (.slice aa xs.length ac))):=hiD (by rw [hW1];exact Sx.new h hv _)
 have HR:=hiD (h.quiet HM)
 have HV:=hiD (hv.ext (Ext.quiet (T:=None) HM) (fun f=>f) (List.prefix_refl A))
 have c0:W1.cell? ⟨W.heap.size,0,none⟩=some (.int .i64 1):=HS.out.blk.cell (i:=0) rfl
 have c1:W1.cell? ⟨W.heap.size,1,none⟩=some (.int .i64 (p:Int)):=HS.out.blk.cell (i:=1) rfl
 have c5:W1.cell? ⟨W.heap.size,5,none⟩=some (.int .i64 xn):=HS.out.blk.cell (i:=5) rfl
 obtain ⟨u,w,d0,d1,-⟩:=HV.out.get (p:=p) (by omega)
 have z0:W1.frozen? ⟨g,p*2,none⟩=false:=by obtain ⟨cs,h1,_⟩:=HV.out;exact h1.free _
 have z1:W1.frozen? ⟨g,p*2+1,none⟩=false:=by obtain ⟨cs,h1,_⟩:=HV.out;exact h1.free _
 have hpv:(p:Int)<(v.length:Int):=by omega
 obtain ⟨n,hn⟩:∃ n,n=v.length:=⟨_,rfl⟩
 have HN:=hiD hn
 have HE:Hid (Ext (·=g) M M W W1):=hiD (Ext.quiet HM)
 have HPL:=hiD (show p<v.length by omega)
 rw [← hn] at hpv hvc ⊢
 clear h hv hr hok hf HM hvl hpl hargs hn
 unfold stpL str at *
 unfold Ran retP
 go_enter Tryz.func52,Tryz.ntmps52
 go_upto_region 1 with (fail)
 rw [← hW1]
 clear hW1
 go_wp2_with fail
 go_end0
 have hput:=HV.out.put (p:=p) HPL.out (x:=numV xn) (u:=.int .i64 xn) (w:=.slice none 0 0) (Or.inl ⟨rfl,rfl⟩)
 exact ⟨M,A,⟨rfl,hput.1⟩,HR.out.aside hput.2 (fun k hk=>by obtain ⟨cs,_,_,_,k4,k5⟩:=HV.out;rw [hk];exact ⟨k4,k5⟩),HE.out.trans (Ext.aside hput.2 (fun _ _ f=>f)),List.prefix_refl _⟩
theorem put_done {W w w2:World} {b mb g p:Nat} {L:List Fm} {P M M':Nat→Prop} {A A':List (Nat×Nat)} {s:RS} {v:Pl} {x:V} {u y:Value} (HR:RAt w b mb L P M' A' s) (HV:PlAt w P M' A' g v) (HE:Ext (·=g) M M' W w) (hA:A <+: A') (hp:p<v.length) (hx:VAt A' x (.agg #[u,y])) (hm:Mods None ((w.setCell ⟨g,p*2,none⟩ u).setCell ⟨g,p*2+1,none⟩ y) w2) :
 Ran W b mb L P (·=g) M A (retP g P) (.ok (v.put (p:Int) x),s) (.returned (.tuple #[])) w2:=by
 have hput:=HV.put hp (x:=x) (u:=u) (w:=y) hx
 have hfar:¬ M' g∧¬ P g:=by obtain ⟨cs,_,_,_,k4,k5⟩:=HV;exact ⟨k4,k5⟩
 exact ⟨M',A',⟨rfl,hput.1.ext (Ext.quiet (T:=None) hm) (fun f=>f) (List.prefix_refl _)⟩,(HR.aside hput.2 (fun k hk=>by rw [hk];exact hfar)).quiet hm,HE.trans ((Ext.aside hput.2 (fun _ _ f=>f)).trans (Ext.quiet hm)),hA⟩
theorem rest_done {W w:World} {b mb g:Nat} {L:List Fm} {P M M':Nat→Prop} {A A':List (Nat×Nat)} {s:RS} {v:Pl} (HR:RAt w b mb L P M' A' s) (HV:PlAt w P M' A' g v) (HE:Ext (·=g) M M' W w) (hA:A <+: A') :
 Ran W b mb L P (·=g) M A (retP g P) (.ok v,s) (.returned (.tuple #[])) w:=⟨M',A',⟨rfl,HV⟩,HR,HE,hA⟩
theorem row_form {W:World} {B:Nat} {e:TypeId} {size n:Nat} {v:Value} {vs:List Value} (h:W.ownsRow B e size v n vs):∃ oa oc,v=.slice oa n oc:=by
 rcases h.2 with ⟨hv,h0⟩|⟨g,cap,cur,hv,_⟩
 · exact ⟨_,_,by rw [hv,h0]⟩
 · exact ⟨_,_,hv⟩
set_option maxRecDepth 100000 in
set_option maxHeartbeats 2000000 in
theorem st_copy {L:List Fm} {F:Fm} {x:Stp} (hc:x.code=2):StepC L F x:=by
 intro v b mb g c P M A s W xv r h hv hvl hvc hc1 hx hok hr
 obtain ⟨aa,ac,rfl,hargs⟩:=hx
 unfold rightB at hok
 rw [if_pos hc] at hok
 simp only [Bool.and_eq_true,decide_eq_true_eq,beq_iff_eq] at hok
 obtain ⟨pd,hpd,hpdl⟩:=place_of_kind hok.1
 obtain ⟨pa,hpa,hpal⟩:=place_of_kind (by rw [← hok.2];exact hok.1)
 unfold stepM at hr
 rw [if_neg (by omega),if_pos hc] at hr
 obtain rfl:=(Option.some.inj hr).symm
 obtain ⟨xc,xd,xa,xb,xe,xn,xo,xl,xm,xs⟩:=x
 simp only at hc hpd hpa hr
 subst hc hpd hpa
 simp only at hr ⊢
 obtain ⟨W1,hW1⟩:∃ W1,W1=W.alloc (.cells (stpL ⟨2,(pd:Int),(pa:Int),xb,xe,xn,xo,xl,xm,xs⟩ (.slice aa xs.length ac)).toArray 57):=⟨_,rfl⟩
 have HM:Mods None W W1:=by rw [hW1];exact (Mods.refl _ _).alloc _
 have HS:Hid (Sx W W1 P M g W.heap.size (stpL ⟨2,(pd:Int),(pa:Int),xb,xe,xn,xo,xl,xm,xs⟩ (.slice aa xs.length ac))):=hiD (by rw [hW1];exact Sx.new h hv _)
 have HR:=hiD (h.quiet HM)
 have HV:=hiD (hv.ext (Ext.quiet (T:=None) HM) (fun f=>f) (List.prefix_refl A))
 have HE:Hid (Ext (·=g) M M W W1):=hiD (Ext.quiet HM)
 have c0:W1.cell? ⟨W.heap.size,0,none⟩=some (.int .i64 2):=HS.out.blk.cell (i:=0) rfl
 have kd:W1.cell? ⟨W.heap.size,1,none⟩=some (.int .i64 (pd:Int)):=HS.out.blk.cell (i:=1) rfl
 obtain ⟨ud,wd,dd0,dd1,Vd⟩:=HV.out.get (p:=pd) (by omega)
 have qd:(pd:Int)<(v.length:Int):=by omega
 have PLd:=hiD (show pd<v.length by omega)
 clear hpdl
 have ka:W1.cell? ⟨W.heap.size,2,none⟩=some (.int .i64 (pa:Int)):=HS.out.blk.cell (i:=2) rfl
 obtain ⟨ua,wa,da0,da1,Va⟩:=HV.out.get (p:=pa) (by omega)
 have qa:(pa:Int)<(v.length:Int):=by omega
 have PLa:=hiD (show pa<v.length by omega)
 clear hpal
 have z0:W1.frozen? ⟨g,pd*2,none⟩=false:=by obtain ⟨cs,h1,_⟩:=HV.out;exact h1.free _
 have z1:W1.frozen? ⟨g,pd*2+1,none⟩=false:=by obtain ⟨cs,h1,_⟩:=HV.out;exact h1.free _
 have HVA:=hiD Va
 obtain ⟨k,ya,yn,hy,hyl,hy4⟩:=Va.len HR.out
 simp only [Value.agg.injEq,Array.mk.injEq,List.cons.injEq,and_true] at hy
 obtain ⟨rfl,rfl⟩:=hy
 clear hyl Va
 obtain ⟨n,hn⟩:∃ n,n=v.length:=⟨_,rfl⟩
 have HN:=hiD hn
 rw [← hn] at qd qa hvc ⊢
 clear h hv hok HM hvl hargs hn
 unfold stpL str at *
 unfold Ran retP
 go_enter Tryz.func52,Tryz.ntmps52
 go_upto_region 1 with (fail)
 rw [← hW1]
 clear hW1
 go_wp2_with fail
 go_region
 go_end0
 exact put_done HR.out HV.out HE.out (List.prefix_refl A) PLd.out (x:=v.get (pa:Int)) (u:=.int .i64 k) (y:=.slice ya yn yn) HVA.out (by first|exact Mods.refl _ _|exact (Mods.refl _ _).drew|exact (Mods.refl _ _).drew.drew|exact (Mods.refl _ _).drewN _)
set_option maxRecDepth 100000 in
set_option maxHeartbeats 2000000 in
theorem st_len {L:List Fm} {F:Fm} {x:Stp} (hc:x.code=10):StepC L F x:=by
 intro v b mb g c P M A s W xv r h hv hvl hvc hc1 hx hok hr
 obtain ⟨aa,ac,rfl,hargs⟩:=hx
 have hf:fitB F ((formsP x.code).getD 0 0) x.dst=true∧fitB F ((formsP x.code).getD 1 0) x.a=true∧fitB F ((formsP x.code).getD 2 0) x.b=true∧fitB F ((formsP x.code).getD 3 0) x.c=true:=by
  unfold rightB at hok
  rw [if_neg (by omega),if_neg (by omega),if_neg (by omega)] at hok
  simp only [Bool.and_eq_true] at hok
  exact ⟨hok.1.1.1.1.1,hok.1.1.1.1.2,hok.1.1.1.2,hok.1.1.2⟩
 rw [hc] at hf
 obtain ⟨pd,hpd,hpdl⟩:=fit_place (t:=1) (by omega) (by simpa [formsP] using hf.1)
 obtain ⟨pa,hpa,hpal⟩:=fit_place (t:=2) (by omega) (by simpa [formsP] using hf.2.1)
 clear hf
 unfold stepM at hr
 rw [if_neg (by omega),if_neg (by omega),if_neg (by omega),if_neg (by omega),if_pos hc] at hr
 obtain rfl:=(Option.some.inj hr).symm
 obtain ⟨xc,xd,xa,xb,xe,xn,xo,xl,xm,xs⟩:=x
 simp only at hc hpd hpa hr
 subst hc hpd hpa
 simp only at hr ⊢
 obtain ⟨W1,hW1⟩:∃ W1,W1=W.alloc (.cells (stpL ⟨10,(pd:Int),(pa:Int),xb,xe,xn,xo,xl,xm,xs⟩ (.slice aa xs.length ac)).toArray 57):=⟨_,rfl⟩
 have HM:Mods None W W1:=by rw [hW1];exact (Mods.refl _ _).alloc _
 have HS:Hid (Sx W W1 P M g W.heap.size (stpL ⟨10,(pd:Int),(pa:Int),xb,xe,xn,xo,xl,xm,xs⟩ (.slice aa xs.length ac))):=hiD (by rw [hW1];exact Sx.new h hv _)
 have HR:=hiD (h.quiet HM)
 have HV:=hiD (hv.ext (Ext.quiet (T:=None) HM) (fun f=>f) (List.prefix_refl A))
 have HE:Hid (Ext (·=g) M M W W1):=hiD (Ext.quiet HM)
 have c0:W1.cell? ⟨W.heap.size,0,none⟩=some (.int .i64 10):=HS.out.blk.cell (i:=0) rfl
 have kd:W1.cell? ⟨W.heap.size,1,none⟩=some (.int .i64 (pd:Int)):=HS.out.blk.cell (i:=1) rfl
 obtain ⟨ud,wd,dd0,dd1,Vd⟩:=HV.out.get (p:=pd) (by omega)
 have qd:(pd:Int)<(v.length:Int):=by omega
 have PLd:=hiD (show pd<v.length by omega)
 clear hpdl
 have ka:W1.cell? ⟨W.heap.size,2,none⟩=some (.int .i64 (pa:Int)):=HS.out.blk.cell (i:=2) rfl
 obtain ⟨ua,wa,da0,da1,Va⟩:=HV.out.get (p:=pa) (by omega)
 have qa:(pa:Int)<(v.length:Int):=by omega
 have PLa:=hiD (show pa<v.length by omega)
 clear hpal
 have z0:W1.frozen? ⟨g,pd*2,none⟩=false:=by obtain ⟨cs,h1,_⟩:=HV.out;exact h1.free _
 have z1:W1.frozen? ⟨g,pd*2+1,none⟩=false:=by obtain ⟨cs,h1,_⟩:=HV.out;exact h1.free _
 obtain ⟨k,ya,yn,hy,hyl,hy4⟩:=Va.len HR.out
 simp only [Value.agg.injEq,Array.mk.injEq,List.cons.injEq,and_true] at hy
 obtain ⟨rfl,rfl⟩:=hy
 rw [hyl]
 obtain ⟨n,hn⟩:∃ n,n=v.length:=⟨_,rfl⟩
 have HN:=hiD hn
 rw [← hn] at qd qa hvc ⊢
 clear h hv hok HM hvl hargs hn
 unfold stpL str at *
 unfold Ran retP
 go_enter Tryz.func52,Tryz.ntmps52
 go_upto_region 1 with (fail)
 rw [← hW1]
 clear hW1
 go_wp2_with fail
 go_region
 go_end0
 exact put_done HR.out HV.out HE.out (List.prefix_refl A) PLd.out (x:=numV (yn:Int)) (u:=.int .i64 (yn:Int)) (y:=.slice none 0 0) (Or.inl ⟨rfl,rfl⟩) (by first|exact Mods.refl _ _|exact (Mods.refl _ _).drew|exact (Mods.refl _ _).drew.drew|exact (Mods.refl _ _).drewN _)
set_option maxRecDepth 100000 in
set_option maxHeartbeats 2000000 in
theorem st_two {L:List Fm} {F:Fm} {x:Stp} (hc:x.code=3):StepC L F x:=by
 intro v b mb g c P M A s W xv r h hv hvl hvc hc1 hx hok hr
 obtain ⟨aa,ac,rfl,hargs⟩:=hx
 have hf:fitB F ((formsP x.code).getD 0 0) x.dst=true∧fitB F ((formsP x.code).getD 1 0) x.a=true∧fitB F ((formsP x.code).getD 2 0) x.b=true∧fitB F ((formsP x.code).getD 3 0) x.c=true:=by
  unfold rightB at hok
  rw [if_neg (by omega),if_neg (by omega),if_neg (by omega)] at hok
  simp only [Bool.and_eq_true] at hok
  exact ⟨hok.1.1.1.1.1,hok.1.1.1.1.2,hok.1.1.1.2,hok.1.1.2⟩
 rw [hc] at hf
 obtain ⟨pd,hpd,hpdl⟩:=fit_place (t:=1) (by omega) (by simpa [formsP] using hf.1)
 obtain ⟨pa,hpa,hpal⟩:=fit_place (t:=1) (by omega) (by simpa [formsP] using hf.2.1)
 obtain ⟨pb,hpb,hpbl⟩:=fit_place (t:=1) (by omega) (by simpa [formsP] using hf.2.2.1)
 clear hf
 unfold stepM at hr
 rw [if_neg (by omega),if_neg (by omega),if_pos hc] at hr
 obtain ⟨xc,xd,xa,xb,xe,xn,xo,xl,xm,xs⟩:=x
 simp only at hc hpd hpa hpb hr
 subst hc hpd hpa hpb
 simp only at hr ⊢
 obtain ⟨W1,hW1⟩:∃ W1,W1=W.alloc (.cells (stpL ⟨3,(pd:Int),(pa:Int),(pb:Int),xe,xn,xo,xl,xm,xs⟩ (.slice aa xs.length ac)).toArray 57):=⟨_,rfl⟩
 have HM:Mods None W W1:=by rw [hW1];exact (Mods.refl _ _).alloc _
 have HS:Hid (Sx W W1 P M g W.heap.size (stpL ⟨3,(pd:Int),(pa:Int),(pb:Int),xe,xn,xo,xl,xm,xs⟩ (.slice aa xs.length ac))):=hiD (by rw [hW1];exact Sx.new h hv _)
 have HR:=hiD (h.quiet HM)
 have HV:=hiD (hv.ext (Ext.quiet (T:=None) HM) (fun f=>f) (List.prefix_refl A))
 have HE:Hid (Ext (·=g) M M W W1):=hiD (Ext.quiet HM)
 have c0:W1.cell? ⟨W.heap.size,0,none⟩=some (.int .i64 3):=HS.out.blk.cell (i:=0) rfl
 have kd:W1.cell? ⟨W.heap.size,1,none⟩=some (.int .i64 (pd:Int)):=HS.out.blk.cell (i:=1) rfl
 obtain ⟨ud,wd,dd0,dd1,Vd⟩:=HV.out.get (p:=pd) (by omega)
 have qd:(pd:Int)<(v.length:Int):=by omega
 have PLd:=hiD (show pd<v.length by omega)
 clear hpdl
 have ka:W1.cell? ⟨W.heap.size,2,none⟩=some (.int .i64 (pa:Int)):=HS.out.blk.cell (i:=2) rfl
 obtain ⟨ua,wa,da0,da1,Va⟩:=HV.out.get (p:=pa) (by omega)
 have qa:(pa:Int)<(v.length:Int):=by omega
 have PLa:=hiD (show pa<v.length by omega)
 clear hpal
 have kb:W1.cell? ⟨W.heap.size,3,none⟩=some (.int .i64 (pb:Int)):=HS.out.blk.cell (i:=3) rfl
 obtain ⟨ub,wb,db0,db1,Vb⟩:=HV.out.get (p:=pb) (by omega)
 have qb:(pb:Int)<(v.length:Int):=by omega
 have PLb:=hiD (show pb<v.length by omega)
 clear hpbl
 have z0:W1.frozen? ⟨g,pd*2,none⟩=false:=by obtain ⟨cs,h1,_⟩:=HV.out;exact h1.free _
 have z1:W1.frozen? ⟨g,pd*2+1,none⟩=false:=by obtain ⟨cs,h1,_⟩:=HV.out;exact h1.free _
 obtain ⟨ya,hya⟩:=Va.num
 simp only [Value.agg.injEq,Array.mk.injEq,List.cons.injEq,and_true] at hya
 obtain ⟨rfl,rfl⟩:=hya
 obtain ⟨yb,hyb⟩:=Vb.num
 simp only [Value.agg.injEq,Array.mk.injEq,List.cons.injEq,and_true] at hyb
 obtain ⟨rfl,rfl⟩:=hyb
 obtain ⟨na,hna⟩:∃ na,na=(v.get (pa:Int)).n:=⟨_,rfl⟩
 rw [← hna] at da0 Va hr
 clear hna
 obtain ⟨nb,hnb⟩:∃ nb,nb=(v.get (pb:Int)).n:=⟨_,rfl⟩
 rw [← hnb] at db0 Vb hr
 clear hnb
 have c6:W1.cell? ⟨W.heap.size,6,none⟩=some (str xo):=HS.out.blk.cell (i:=6) rfl
 obtain ⟨k,w,hkw⟩:∃ k w,bothP xo na nb=(k,w):=⟨_,_,rfl⟩
 have HBC:=hiD (fun (n:Nat)=>(mboth_any xo na nb (W1.drewN n)).mono fun (e:Ending) (w:World) ⟨h1,h2⟩=>(⟨h1,n,h2.symm⟩:e=Ending.returned (pairV (bothP xo na nb))∧∃ m,w=W1.drewN m))
 rw [hkw] at hr HBC
 unfold pairV str at HBC
 simp only at hr
 have HX:=hiD hr
 clear hr hkw Va Vb
 obtain ⟨n,hn⟩:∃ n,n=v.length:=⟨_,rfl⟩
 have HN:=hiD hn
 rw [← hn] at qd qa qb hvc ⊢
 clear h hv hok HM hvl hargs hn
 unfold stpL str at *
 unfold Ran retP
 go_enter Tryz.func52,Tryz.ntmps52
 go_upto_region 1 with (fail)
 rw [← hW1]
 clear hW1
 go_wp2_with fail
 go_quiet ((go_at_call 83;exact HBC.out _))
 by_cases hw:w=0
 · have hX:=HX.out
   rw [if_neg (by omega)] at hX
   obtain rfl:=(Option.some.inj hX).symm
   have hw0:(w != 0)=false:=by simp [hw]
   clear hX HX hw
   go_wp2_with fail
   go_end0
   exact put_done HR.out HV.out HE.out (List.prefix_refl A) PLd.out (x:=numV k) (u:=.int .i64 k) (y:=.slice none 0 0) (Or.inl ⟨rfl,rfl⟩) (by first|exact Mods.refl _ _|exact (Mods.refl _ _).drew|exact (Mods.refl _ _).drew.drew|exact (Mods.refl _ _).drewN _)
 · have hX:=HX.out
   rw [if_pos hw] at hX
   obtain rfl:=(Option.some.inj hX).symm
   have hw0:(w != 0)=true:=by simp [hw]
   clear hX HX hw
   go_wp2_with fail
   go_at_call 50
   refine (stop_any w _).mono ?_
   rintro e w6 ⟨⟨older,rfl⟩,rfl⟩
   go_wp2
   exact ⟨rfl,⟨older,rfl⟩,M,A,HR.out.quiet ((Mods.refl _ _).drewN _),HE.out.trans (Ext.quiet ((Mods.refl _ _).drewN _)),List.prefix_refl _⟩
set_option maxRecDepth 100000 in
set_option maxHeartbeats 2000000 in
theorem st_print {L:List Fm} {F:Fm} {x:Stp} (hc:x.code=13):StepC L F x:=by
 intro v b mb g c P M A s W xv r h hv hvl hvc hc1 hx hok hr
 obtain ⟨aa,ac,rfl,hargs⟩:=hx
 have hf:fitB F ((formsP x.code).getD 0 0) x.dst=true∧fitB F ((formsP x.code).getD 1 0) x.a=true∧fitB F ((formsP x.code).getD 2 0) x.b=true∧fitB F ((formsP x.code).getD 3 0) x.c=true:=by
  unfold rightB at hok
  rw [if_neg (by omega),if_neg (by omega),if_neg (by omega)] at hok
  simp only [Bool.and_eq_true] at hok
  exact ⟨hok.1.1.1.1.1,hok.1.1.1.1.2,hok.1.1.1.2,hok.1.1.2⟩
 rw [hc] at hf
 obtain ⟨pa,hpa,hpal⟩:=fit_place (t:=1) (by omega) (by simpa [formsP] using hf.2.1)
 clear hf
 unfold stepM at hr
 rw [if_neg (by omega),if_neg (by omega),if_neg (by omega),if_neg (by omega),if_neg (by omega),if_neg (by omega),if_neg (by omega),if_pos hc] at hr
 obtain ⟨xc,xd,xa,xb,xe,xn,xo,xl,xm,xs⟩:=x
 simp only at hc hpa hr
 subst hc hpa
 simp only at hr ⊢
 obtain ⟨W1,hW1⟩:∃ W1,W1=W.alloc (.cells (stpL ⟨13,xd,(pa:Int),xb,xe,xn,xo,xl,xm,xs⟩ (.slice aa xs.length ac)).toArray 57):=⟨_,rfl⟩
 have HM:Mods None W W1:=by rw [hW1];exact (Mods.refl _ _).alloc _
 have HS:Hid (Sx W W1 P M g W.heap.size (stpL ⟨13,xd,(pa:Int),xb,xe,xn,xo,xl,xm,xs⟩ (.slice aa xs.length ac))):=hiD (by rw [hW1];exact Sx.new h hv _)
 have HR:=hiD (h.quiet HM)
 have HV:=hiD (hv.ext (Ext.quiet (T:=None) HM) (fun f=>f) (List.prefix_refl A))
 have HE:Hid (Ext (·=g) M M W W1):=hiD (Ext.quiet HM)
 have c0:W1.cell? ⟨W.heap.size,0,none⟩=some (.int .i64 13):=HS.out.blk.cell (i:=0) rfl
 have ka:W1.cell? ⟨W.heap.size,2,none⟩=some (.int .i64 (pa:Int)):=HS.out.blk.cell (i:=2) rfl
 obtain ⟨ua,wa,da0,da1,Va⟩:=HV.out.get (p:=pa) (by omega)
 have qa:(pa:Int)<(v.length:Int):=by omega
 have PLa:=hiD (show pa<v.length by omega)
 clear hpal
 obtain ⟨ya,hya⟩:=Va.num
 simp only [Value.agg.injEq,Array.mk.injEq,List.cons.injEq,and_true] at hya
 obtain ⟨rfl,rfl⟩:=hya
 obtain ⟨na,hna⟩:∃ na,na=(v.get (pa:Int)).n:=⟨_,rfl⟩
 rw [← hna] at da0 Va hr
 clear hna
 obtain ⟨iv,ov,hb,-,hown,-⟩:=HR.out.blk
 obtain ⟨oa,oc,rfl⟩:=row_form hown
 obtain ⟨i0,hi,hz0,hz1,hz2⟩:=info_parts infoInt
 have HI:=hiD (And.intro hi (And.intro hz0 (And.intro hz1 hz2)))
 have b4:W1.cell? ⟨b,4,none⟩=some (.slice oa s.out.length oc):=hb.cell rfl
 have bz:=hb.free 4
 have hbl:=HR.out.old b HR.out.has
 obtain ⟨on,hon⟩:∃ on,on=s.out.length:=⟨_,rfl⟩
 have HON:=hiD hon
 rw [← hon] at b4 hown hr
 have HOWN:=hiD hown
 have HX:=hiD hr
 clear hi hz0 hz1 hz2 hb hown hon hr Va
 obtain ⟨n,hn⟩:∃ n,n=v.length:=⟨_,rfl⟩
 have HN:=hiD hn
 rw [← hn] at qa hvc ⊢
 clear h hv hok HM hvl hargs hn
 unfold stpL str at *
 unfold Ran retP
 go_enter Tryz.func52,Tryz.ntmps52
 go_upto_region 1 with (fail)
 rw [← hW1]
 clear hW1
 by_cases hz:on≥200
 · have hX3:=HX.out
   rw [if_pos hz] at hX3
   obtain rfl:=(Option.some.inj hX3).symm
   have hz1:(200:Int)≤(on:Int):=by omega
   clear hX3 HX hz
   go_wp2_with fail
   go_at_call 50
   refine (stop_any 7 _).mono ?_
   rintro e w6 ⟨⟨older,rfl⟩,rfl⟩
   go_wp2
   exact ⟨rfl,⟨older,rfl⟩,M,A,HR.out,HE.out,List.prefix_refl _⟩
 · have hX3:=HX.out
   rw [if_neg hz] at hX3
   obtain rfl:=(Option.some.inj hX3).symm
   have hz1:¬ (200:Int)≤(on:Int):=by omega
   have hz2:(on:Int)<200:=by omega
   have HZ:=hiD hz
   have HMA:Hid (Mods None W1 (W1.alloc (.cells #[.int .i64 na] 2)).drew):=hiD ((Mods.refl _ _).alloc _).drew
   have HOA:=hiD (HMA.out.ownsRow HOWN.out (fun k hk f=>f))
   have hbn:b≠W1.heap.size:=by omega
   have hcA:(W1.alloc (.cells #[.int .i64 na] 2)).drew.cell? ⟨b,4,none⟩=some (.slice oa on oc):=HMA.out.cellOf b4 (fun f=>f)
   have HCA:=hiD hcA
   have C4:=hiD b4
   clear hX3 HX hz hcA
   clear bz hbn b4
   have c4:W1.cell? ⟨b,4,none⟩=some (.slice oa on oc):=C4.out
   go_wp2_with fail
   go_region_law (refine step_append_at rfl (.tmp 158) (.tmp 165) 23 rfl 0 2 i0 _ 1 8 Tryz.underlying23 HI.out.1 HI.out.2.1 HI.out.2.2.1 HI.out.2.2.2 rfl (by decide) (.slice oa on oc) on (s.out.map (Value.int .i64)) (by simp [Act.eval,Act.put]) HOA.out ⟨W1.heap.size,0,none⟩ 1 1 [.int .i64 na] (by simp [Act.eval,Act.put]) rfl (one_new _ _ _) (ints_oneCell .i64 [na]) (by have:=HZ.out;unfold maxLen;omega) (by have:=HZ.out;omega) (Nat.zero_le _) ?_;intro v' w7 hown hgrow hloc;have HOW:=hiD hown;have HGR:=hiD (grew_of hgrow hloc);obtain ⟨c74,z74⟩:=(HR.out.quiet HMA.out).outAt HCA.out HGR.out;clear hown hgrow hloc;obtain ⟨qa,qc,rfl⟩:=row_form HOW.out)
   all_goals
    have hsz:s.out.length<200:=by have h1:=HZ.out;have h2:=HON.out;omega
    obtain ⟨hR8,hE8⟩:=(HR.out.quiet HMA.out).told HCA.out na hsz (by rw [← HON.out];exact HOW.out) HGR.out
    have HR8:=hiD hR8
    have HE8:=hiD ((Ext.quiet (T:=None) HMA.out).trans hE8)
    go_wp2_with fail
    go_end0
    exact rest_done HR8.out (HV.out.ext HE8.out (fun f=>f) (List.prefix_refl _)) (HE.out.trans (HE8.out.more fun _ _ f=>f.elim)) (List.prefix_refl _)
set_option maxRecDepth 100000 in
set_option maxHeartbeats 2000000 in
theorem st_new {L:List Fm} {F:Fm} {x:Stp} (hc:x.code=9):StepC L F x:=by
 intro v b mb g c P M A s W xv r h hv hvl hvc hc1 hx hok hr
 obtain ⟨aa,ac,rfl,hargs⟩:=hx
 have hf:fitB F ((formsP x.code).getD 0 0) x.dst=true∧fitB F ((formsP x.code).getD 1 0) x.a=true∧fitB F ((formsP x.code).getD 2 0) x.b=true∧fitB F ((formsP x.code).getD 3 0) x.c=true:=by
  unfold rightB at hok
  rw [if_neg (by omega),if_neg (by omega),if_neg (by omega)] at hok
  simp only [Bool.and_eq_true] at hok
  exact ⟨hok.1.1.1.1.1,hok.1.1.1.1.2,hok.1.1.1.2,hok.1.1.2⟩
 rw [hc] at hf
 obtain ⟨pd,hpd,hpdl⟩:=fit_place (t:=2) (by omega) (by simpa [formsP] using hf.1)
 obtain ⟨pa,hpa,hpal⟩:=fit_place (t:=1) (by omega) (by simpa [formsP] using hf.2.1)
 clear hf
 unfold stepM at hr
 rw [if_neg (by omega),if_neg (by omega),if_neg (by omega),if_pos hc] at hr
 obtain ⟨xc,xd,xa,xb,xe,xn,xo,xl,xm,xs⟩:=x
 simp only at hc hpd hpa hr
 subst hc hpd hpa
 simp only at hr ⊢
 obtain ⟨W1,hW1⟩:∃ W1,W1=W.alloc (.cells (stpL ⟨9,(pd:Int),(pa:Int),xb,xe,xn,xo,xl,xm,xs⟩ (.slice aa xs.length ac)).toArray 57):=⟨_,rfl⟩
 have HM:Mods None W W1:=by rw [hW1];exact (Mods.refl _ _).alloc _
 have HS:Hid (Sx W W1 P M g W.heap.size (stpL ⟨9,(pd:Int),(pa:Int),xb,xe,xn,xo,xl,xm,xs⟩ (.slice aa xs.length ac))):=hiD (by rw [hW1];exact Sx.new h hv _)
 have HR:=hiD (h.quiet HM)
 have HV:=hiD (hv.ext (Ext.quiet (T:=None) HM) (fun f=>f) (List.prefix_refl A))
 have HE:Hid (Ext (·=g) M M W W1):=hiD (Ext.quiet HM)
 have c0:W1.cell? ⟨W.heap.size,0,none⟩=some (.int .i64 9):=HS.out.blk.cell (i:=0) rfl
 have kd:W1.cell? ⟨W.heap.size,1,none⟩=some (.int .i64 (pd:Int)):=HS.out.blk.cell (i:=1) rfl
 obtain ⟨ud,wd,dd0,dd1,Vd⟩:=HV.out.get (p:=pd) (by omega)
 have qd:(pd:Int)<(v.length:Int):=by omega
 have PLd:=hiD (show pd<v.length by omega)
 clear hpdl
 have ka:W1.cell? ⟨W.heap.size,2,none⟩=some (.int .i64 (pa:Int)):=HS.out.blk.cell (i:=2) rfl
 obtain ⟨ua,wa,da0,da1,Va⟩:=HV.out.get (p:=pa) (by omega)
 have qa:(pa:Int)<(v.length:Int):=by omega
 have PLa:=hiD (show pa<v.length by omega)
 clear hpal
 have z0:W1.frozen? ⟨g,pd*2,none⟩=false:=by obtain ⟨cs,h1,_⟩:=HV.out;exact h1.free _
 have z1:W1.frozen? ⟨g,pd*2+1,none⟩=false:=by obtain ⟨cs,h1,_⟩:=HV.out;exact h1.free _
 obtain ⟨ya,hya⟩:=Va.num
 simp only [Value.agg.injEq,Array.mk.injEq,List.cons.injEq,and_true] at hya
 obtain ⟨rfl,rfl⟩:=hya
 obtain ⟨na,hna⟩:∃ na,na=(v.get (pa:Int)).n:=⟨_,rfl⟩
 rw [← hna] at da0 Va hr
 clear hna
 have HX:=hiD hr
 obtain ⟨i0,hi,hz0,hz1,hz2⟩:=info_parts infoInt
 have HI:=hiD (And.intro hi (And.intro hz0 (And.intro hz1 hz2)))
 clear hr Va hi hz0 hz1 hz2
 obtain ⟨n,hn⟩:∃ n,n=v.length:=⟨_,rfl⟩
 have HN:=hiD hn
 rw [← hn] at qd qa hvc ⊢
 clear h hv hok HM hvl hargs hn
 unfold stpL str at *
 unfold Ran retP
 go_enter Tryz.func52,Tryz.ntmps52
 go_upto_region 1 with (fail)
 rw [← hW1]
 clear hW1
 by_cases hk0:na<0
 · have hX3:=HX.out
   rw [if_pos (Or.inl hk0:na<0∨na > 40)] at hX3
   obtain rfl:=(Option.some.inj hX3).symm
   clear hX3 HX
   go_wp2_with fail
   go_at_call 50
   refine (stop_any 4 _).mono ?_
   rintro e w6 ⟨⟨older,rfl⟩,rfl⟩
   go_wp2
   exact ⟨rfl,⟨older,rfl⟩,M,A,HR.out,HE.out,List.prefix_refl _⟩
 · by_cases hk1:na > 40
   · have hX3:=HX.out
     rw [if_pos (Or.inr hk1:na<0∨na > 40)] at hX3
     obtain rfl:=(Option.some.inj hX3).symm
     clear hX3 HX
     go_wp2_with fail
     go_at_call 50
     refine (stop_any 4 _).mono ?_
     rintro e w6 ⟨⟨older,rfl⟩,rfl⟩
     go_wp2
     exact ⟨rfl,⟨older,rfl⟩,M,A,HR.out,HE.out,List.prefix_refl _⟩
   · have hX3:=HX.out
     rw [if_neg (by omega)] at hX3
     obtain ⟨kn,rfl⟩:=Int.eq_ofNat_of_zero_le (by omega:0≤na)
     have hx:(Int.toNat (kn:Int))=kn:=by simp
     rw [hx] at hX3
     obtain rfl:=(Option.some.inj hX3).symm
     clear hX3 HX hx
     have hmk:∀ w,(Instr.makeSlice 23 (.int .i64 (kn:Int)) (.int .i64 (kn:Int))).run Tryz.prog w=.ok (.slice (some ⟨w.heap.size,0,none⟩) kn kn) (w.alloc (.cells ((List.replicate kn (0:Int)).map (Value.int .i64)).toArray 2)):=by
        intro w
        have h:=run_make_row1 (P:=Tryz.prog) 23 2 i0 (.int .i64 0) Tryz.underlying23 HI.out.1 HI.out.2.1 .i64 .i64 kn (by rw [HI.out.2.2.2];omega) (by omega) w
        rw [h,HI.out.2.2.1,made_row]
     obtain ⟨hR3,hE4⟩:=HR.out.newArr kn (by omega)
     have HR3:=hiD hR3
     have HE4:=hiD hE4
     have HV3:=hiD (HV.out.ext hE4 (fun f=>f) (List.prefix_append A [(W1.heap.size,kn)]))
     have HVV:Hid (VAt (A++[(W1.heap.size,kn)]) ⟨0,some s.arrs.length⟩ (.agg #[.int .i64 0,.slice (some ⟨W1.heap.size,0,none⟩) kn kn])):=hiD (Or.inr ⟨_,W1.heap.size,kn,rfl,by rw [← HR.out.arrs];simp,rfl⟩)
     have hgl:g<W1.heap.size:=by obtain ⟨cs,k1,_⟩:=HV.out;exact k1.lt
     have hWl:W.heap.size<W1.heap.size:=HS.out.blk.lt
     clear hR3 hE4
     go_wp2_with fail
     go_region
     go_end0
     refine put_done (HR3.out) (HV3.out) (HE.out.trans (HE4.out.more fun _ _ f=>f.elim)) (List.prefix_append A [(W1.heap.size,kn)]) PLd.out HVV.out ?_
     rw [World.setCell_alloc_past _ _ _ _ hgl,World.setCell_alloc_past _ _ _ _ (by simpa [World.setCell] using hgl),List.map_replicate,List.toArray_replicate]
     exact (Mods.refl _ _).drew
set_option maxRecDepth 100000 in
set_option maxHeartbeats 2000000 in
theorem st_input {L:List Fm} {F:Fm} {x:Stp} (hc:x.code=14):StepC L F x:=by
 intro v b mb g c P M A s W xv r h hv hvl hvc hc1 hx hok hr
 obtain ⟨aa,ac,rfl,hargs⟩:=hx
 have hf:fitB F ((formsP x.code).getD 0 0) x.dst=true∧fitB F ((formsP x.code).getD 1 0) x.a=true∧fitB F ((formsP x.code).getD 2 0) x.b=true∧fitB F ((formsP x.code).getD 3 0) x.c=true:=by
  unfold rightB at hok
  rw [if_neg (by omega),if_neg (by omega),if_neg (by omega)] at hok
  simp only [Bool.and_eq_true] at hok
  exact ⟨hok.1.1.1.1.1,hok.1.1.1.1.2,hok.1.1.1.2,hok.1.1.2⟩
 rw [hc] at hf
 obtain ⟨pd,hpd,hpdl⟩:=fit_place (t:=1) (by omega) (by simpa [formsP] using hf.1)
 clear hf
 unfold stepM at hr
 rw [if_neg (by omega),if_neg (by omega),if_neg (by omega),if_neg (by omega),if_neg (by omega),if_neg (by omega),if_neg (by omega),if_neg (by omega),if_pos hc] at hr
 obtain ⟨xc,xd,xa,xb,xe,xn,xo,xl,xm,xs⟩:=x
 simp only at hc hpd hr
 subst hc hpd
 simp only at hr ⊢
 obtain ⟨W1,hW1⟩:∃ W1,W1=W.alloc (.cells (stpL ⟨14,(pd:Int),xa,xb,xe,xn,xo,xl,xm,xs⟩ (.slice aa xs.length ac)).toArray 57):=⟨_,rfl⟩
 have HM:Mods None W W1:=by rw [hW1];exact (Mods.refl _ _).alloc _
 have HS:Hid (Sx W W1 P M g W.heap.size (stpL ⟨14,(pd:Int),xa,xb,xe,xn,xo,xl,xm,xs⟩ (.slice aa xs.length ac))):=hiD (by rw [hW1];exact Sx.new h hv _)
 have HR:=hiD (h.quiet HM)
 have HV:=hiD (hv.ext (Ext.quiet (T:=None) HM) (fun f=>f) (List.prefix_refl A))
 have HE:Hid (Ext (·=g) M M W W1):=hiD (Ext.quiet HM)
 have c0:W1.cell? ⟨W.heap.size,0,none⟩=some (.int .i64 14):=HS.out.blk.cell (i:=0) rfl
 have kd:W1.cell? ⟨W.heap.size,1,none⟩=some (.int .i64 (pd:Int)):=HS.out.blk.cell (i:=1) rfl
 obtain ⟨ud,wd,dd0,dd1,Vd⟩:=HV.out.get (p:=pd) (by omega)
 have qd:(pd:Int)<(v.length:Int):=by omega
 have PLd:=hiD (show pd<v.length by omega)
 clear hpdl
 have z0:W1.frozen? ⟨g,pd*2,none⟩=false:=by obtain ⟨cs,h1,_⟩:=HV.out;exact h1.free _
 have z1:W1.frozen? ⟨g,pd*2+1,none⟩=false:=by obtain ⟨cs,h1,_⟩:=HV.out;exact h1.free _
 obtain ⟨iv,ov,hb,⟨ia,il,ic,rfl,hn0,hc0,hmax,hcell⟩,-⟩:=HR.out.blk
 have b1:W1.cell? ⟨b,1,none⟩=some (.slice ia il ic):=hb.cell rfl
 have bz:=hb.free 1
 have hbl:=HR.out.old b HR.out.has
 have HOFF:=hiD (HR.out.off b HR.out.has)
 have hbW:b≠W.heap.size:=fun e=>by have:=h.old b h.has;omega
 have hbg:b≠g:=fun e=>by obtain ⟨cs,_,_,_,k4,k5⟩:=hv;exact k4 (e ▸ h.has)
 clear hb
 cases hin:s.inp with
 | nil =>
   rw [hin] at hr hn0
   simp only [List.length_nil] at hn0
   subst hn0
   obtain rfl:=(Option.some.inj hr).symm
   clear hr hcell hin hc0 hmax
   obtain ⟨n,hn⟩:∃ n,n=v.length:=⟨_,rfl⟩
   have HN:=hiD hn
   rw [← hn] at qd hvc ⊢
   clear h hv hok HM hvl hargs hn
   unfold stpL str at *
   unfold Ran retP
   go_enter Tryz.func52,Tryz.ntmps52
   go_upto_region 1 with (fail)
   rw [← hW1]
   clear hW1
   go_wp2_with fail
   go_end0
   exact put_done HR.out HV.out HE.out (List.prefix_refl A) PLd.out (x:=numV 0) (u:=.int .i64 0) (y:=.slice none 0 0) (Or.inl ⟨rfl,rfl⟩) (by first|exact Mods.refl _ _|exact (Mods.refl _ _).drew|exact (Mods.refl _ _).drew.drew|exact (Mods.refl _ _).drewN _)
 | cons k t =>
   rw [hin] at hr hn0 hcell
   obtain rfl:=(Option.some.inj hr).symm
   obtain ⟨gi,oi,rfl,hgi,hci⟩:=hcell 0 k rfl
   have hgi:P gi:=Classical.not_not.1 hgi
   simp only [List.length_cons] at hn0
   obtain ⟨m,hm⟩:∃ m,m=t.length:=⟨_,rfl⟩
   have hgb:gi≠b:=fun e=>h.off b h.has (e ▸ hgi)
   have hgg:gi≠g:=fun e=>by obtain ⟨cs,_,_,_,k4,k5⟩:=hv;exact k5 (e ▸ hgi)
   rw [← hm] at hn0
   subst hn0
   have HI:Hid (InAt W1 (fun k=>¬ P k) (.slice (some ⟨gi,oi+1,none⟩) m (ic-1)) t):=hiD ⟨_,_,_,rfl,hm,by omega,by omega,fun i x hx=>by
    obtain ⟨g2,o2,e1,e2,e3⟩:=hcell (i+1) x hx
    simp only [Option.some.injEq,Addr.mk.injEq,and_true] at e1
    obtain ⟨rfl,rfl⟩:=e1
    exact ⟨_,_,rfl,e2,by have:oi+1+i=oi+(i+1):=by omega
                         rw [this];exact e3⟩⟩
   have hs1:(0:Int)<(m:Int)+1:=by omega
   have hs2:(((m+1:Nat):Int)==0)=false:=by simp;omega
   have hs3:((m:Int)+1==0)=false:=by simp;omega
   simp only [Nat.add_zero] at hci
   have HT:=hiD hm
   have HC:=hiD (And.intro hc0 hmax)
   have HE3:=hiD (fun (iv:Value)=>HR.out.ext None 1 iv)
   have HFI:Hid (∀ iv,InAt W1 (fun k=>¬ P k) iv t→RAt (W1.setCell ⟨b,1,none⟩ iv) b mb L P M A { s with inp:=t }):=hiD fun iv hi=>HR.out.taken t iv hi
   clear hr hcell hin hm
   obtain ⟨n,hn⟩:∃ n,n=v.length:=⟨_,rfl⟩
   have HN:=hiD hn
   rw [← hn] at qd hvc ⊢
   clear h hv hok HM hvl hargs hn
   unfold stpL str at *
   unfold Ran retP
   go_enter Tryz.func52,Tryz.ntmps52
   go_upto_region 1 with (fail)
   rw [← hW1]
   clear hW1
   go_wp2_with fail
   all_goals
    try go_region
   all_goals
    try go_wp2_with fail
   all_goals
    go_end0
    first
    | exact put_done (HFI.out _ HI.out) (HV.out.ext (HE3.out _) (fun f=>f) (List.prefix_refl _)) (HE.out.trans ((HE3.out _).more fun _ _ f=>f.elim)) (List.prefix_refl A) PLd.out (x:=numV k) (u:=.int .i64 k) (y:=.slice none 0 0) (Or.inl ⟨rfl,rfl⟩) (by first|exact Mods.refl _ _|exact (Mods.refl _ _).drew|exact (Mods.refl _ _).drew.drew|exact (Mods.refl _ _).drewN _)
    | (have HI2:InAt W1 (fun k=>¬ P k) (.slice (some ⟨gi,oi,none⟩) m 0) t:=by
          have h1:=HC.out.1
          have h2:=HT.out
          obtain rfl:m=0:=by omega
          obtain rfl:t=[]:=List.eq_nil_of_length_eq_zero h2.symm
          exact ⟨_,_,_,rfl,rfl,Nat.le_refl _,Nat.zero_le _,fun i x hx=>by simp at hx⟩
       exact put_done (HFI.out _ HI2) (HV.out.ext (HE3.out _) (fun f=>f) (List.prefix_refl _)) (HE.out.trans ((HE3.out _).more fun _ _ f=>f.elim)) (List.prefix_refl A) PLd.out (x:=numV k) (u:=.int .i64 k) (y:=.slice none 0 0) (Or.inl ⟨rfl,rfl⟩) (by first|exact Mods.refl _ _|exact (Mods.refl _ _).drew|exact (Mods.refl _ _).drew.drew|exact (Mods.refl _ _).drewN _))
set_option maxRecDepth 100000 in
set_option maxHeartbeats 2000000 in
theorem st_load {L:List Fm} {F:Fm} {x:Stp} (hc:x.code=11):StepC L F x:=by
 intro v b mb g c P M A s W xv r h hv hvl hvc hc1 hx hok hr
 obtain ⟨aa,ac,rfl,hargs⟩:=hx
 have hf:fitB F ((formsP x.code).getD 0 0) x.dst=true∧fitB F ((formsP x.code).getD 1 0) x.a=true∧fitB F ((formsP x.code).getD 2 0) x.b=true∧fitB F ((formsP x.code).getD 3 0) x.c=true:=by
  unfold rightB at hok
  rw [if_neg (by omega),if_neg (by omega),if_neg (by omega)] at hok
  simp only [Bool.and_eq_true] at hok
  exact ⟨hok.1.1.1.1.1,hok.1.1.1.1.2,hok.1.1.1.2,hok.1.1.2⟩
 rw [hc] at hf
 obtain ⟨pd,hpd,hpdl⟩:=fit_place (t:=1) (by omega) (by simpa [formsP] using hf.1)
 obtain ⟨pa,hpa,hpal⟩:=fit_place (t:=2) (by omega) (by simpa [formsP] using hf.2.1)
 obtain ⟨pb,hpb,hpbl⟩:=fit_place (t:=1) (by omega) (by simpa [formsP] using hf.2.2.1)
 clear hf
 unfold stepM at hr
 rw [if_neg (by omega),if_neg (by omega),if_neg (by omega),if_neg (by omega),if_neg (by omega),if_pos hc] at hr
 obtain ⟨xc,xd,xa,xb,xe,xn,xo,xl,xm,xs⟩:=x
 simp only at hc hpd hpa hpb hr
 subst hc hpd hpa hpb
 simp only at hr ⊢
 obtain ⟨W1,hW1⟩:∃ W1,W1=W.alloc (.cells (stpL ⟨11,(pd:Int),(pa:Int),(pb:Int),xe,xn,xo,xl,xm,xs⟩ (.slice aa xs.length ac)).toArray 57):=⟨_,rfl⟩
 have HM:Mods None W W1:=by rw [hW1];exact (Mods.refl _ _).alloc _
 have HS:Hid (Sx W W1 P M g W.heap.size (stpL ⟨11,(pd:Int),(pa:Int),(pb:Int),xe,xn,xo,xl,xm,xs⟩ (.slice aa xs.length ac))):=hiD (by rw [hW1];exact Sx.new h hv _)
 have HR:=hiD (h.quiet HM)
 have HV:=hiD (hv.ext (Ext.quiet (T:=None) HM) (fun f=>f) (List.prefix_refl A))
 have HE:Hid (Ext (·=g) M M W W1):=hiD (Ext.quiet HM)
 have c0:W1.cell? ⟨W.heap.size,0,none⟩=some (.int .i64 11):=HS.out.blk.cell (i:=0) rfl
 have kd:W1.cell? ⟨W.heap.size,1,none⟩=some (.int .i64 (pd:Int)):=HS.out.blk.cell (i:=1) rfl
 obtain ⟨ud,wd,dd0,dd1,Vd⟩:=HV.out.get (p:=pd) (by omega)
 have qd:(pd:Int)<(v.length:Int):=by omega
 have PLd:=hiD (show pd<v.length by omega)
 clear hpdl
 have ka:W1.cell? ⟨W.heap.size,2,none⟩=some (.int .i64 (pa:Int)):=HS.out.blk.cell (i:=2) rfl
 obtain ⟨ua,wa,da0,da1,Va⟩:=HV.out.get (p:=pa) (by omega)
 have qa:(pa:Int)<(v.length:Int):=by omega
 have PLa:=hiD (show pa<v.length by omega)
 clear hpal
 have kb:W1.cell? ⟨W.heap.size,3,none⟩=some (.int .i64 (pb:Int)):=HS.out.blk.cell (i:=3) rfl
 obtain ⟨ub,wb,db0,db1,Vb⟩:=HV.out.get (p:=pb) (by omega)
 have qb:(pb:Int)<(v.length:Int):=by omega
 have PLb:=hiD (show pb<v.length by omega)
 clear hpbl
 have z0:W1.frozen? ⟨g,pd*2,none⟩=false:=by obtain ⟨cs,h1,_⟩:=HV.out;exact h1.free _
 have z1:W1.frozen? ⟨g,pd*2+1,none⟩=false:=by obtain ⟨cs,h1,_⟩:=HV.out;exact h1.free _
 obtain ⟨yb,hyb⟩:=Vb.num
 simp only [Value.agg.injEq,Array.mk.injEq,List.cons.injEq,and_true] at hyb
 obtain ⟨rfl,rfl⟩:=hyb
 obtain ⟨nb,hnb⟩:∃ nb,nb=(v.get (pb:Int)).n:=⟨_,rfl⟩
 rw [← hnb] at db0 Vb hr
 clear hnb
 obtain ⟨m,hm⟩:∃ m,m=v.get (pa:Int):=⟨_,rfl⟩
 rw [← hm] at Va hr
 clear hm
 have HR1:=hiD hr
 clear hr
 have hr:=True.intro
 rcases Va with ⟨hv1,hy⟩|⟨i,q,an,hv1,hv2,hy⟩
 · simp only [Value.agg.injEq,Array.mk.injEq,List.cons.injEq,and_true] at hy
   obtain ⟨rfl,rfl⟩:=hy
   have hX:=HR1.out
   rw [show placeR s m nb=stopR 3 s by unfold placeR;rw [if_pos];simp only [arrOf,hv1,List.length_nil];omega] at hX
   obtain rfl:=(Option.some.inj hX).symm
   clear hX HR1 hv1
   obtain ⟨n,hn⟩:∃ n,n=v.length:=⟨_,rfl⟩
   have HN:=hiD hn
   rw [← hn] at qd qa qb hvc ⊢
   clear h hv hok HM hvl hargs hn
   unfold stpL str at *
   unfold Ran retP
   go_enter Tryz.func52,Tryz.ntmps52
   go_upto_region 1 with (fail)
   rw [← hW1]
   clear hW1
   by_cases hk0:nb<0
   · go_wp2_with fail
     go_region
     go_wp2_with fail
     go_at_call 50
     refine (stop_any 3 _).mono ?_
     rintro e w6 ⟨⟨older,rfl⟩,rfl⟩
     go_wp2
     exact ⟨rfl,⟨older,rfl⟩,M,A,HR.out.quiet (Mods.refl _ _).drew,HE.out.trans (Ext.quiet (Mods.refl _ _).drew),List.prefix_refl _⟩
   · have hk1:(0:Int)≤nb:=by omega
     go_wp2_with fail
     go_region
     go_wp2_with fail
     go_at_call 50
     refine (stop_any 3 _).mono ?_
     rintro e w6 ⟨⟨older,rfl⟩,rfl⟩
     go_wp2
     exact ⟨rfl,⟨older,rfl⟩,M,A,HR.out.quiet (Mods.refl _ _).drew,HE.out.trans (Ext.quiet (Mods.refl _ _).drew),List.prefix_refl _⟩
 · simp only [Value.agg.injEq,Array.mk.injEq,List.cons.injEq,and_true] at hy
   obtain ⟨rfl,rfl⟩:=hy
   obtain ⟨l,hl1,rfl,hl2,hl3⟩:=HR.out.row hv2
   have hal:arrOf s m=l:=by simp [arrOf,hv1,hl1,List.getD_eq_getElem?_getD]
   obtain ⟨al,hal2⟩:∃ al,al=l.length:=⟨_,rfl⟩
   have HAL:=hiD hal2
   have HL:=hiD (And.intro hv1 (And.intro hv2 (And.intro hl1 (And.intro hl2 hal))))
   rw [← hal2] at hl3 da1
   have hal3:(al:Int)≤40:=by omega
   have hal4:(0:Int)≤(al:Int):=by omega
   clear hal hal2 hv1 hv2 hl1 hl2 hl3
   by_cases hk0:nb<0
   · have hX:=HR1.out
     rw [show placeR s m nb=stopR 3 s by unfold placeR;rw [if_pos (Or.inl hk0)]] at hX
     obtain rfl:=(Option.some.inj hX).symm
     clear hX HR1
     obtain ⟨n,hn⟩:∃ n,n=v.length:=⟨_,rfl⟩
     have HN:=hiD hn
     rw [← hn] at qd qa qb hvc ⊢
     clear h hv hok HM hvl hargs hn
     unfold stpL str at *
     unfold Ran retP
     go_enter Tryz.func52,Tryz.ntmps52
     go_upto_region 1 with (fail)
     rw [← hW1]
     clear hW1
     go_wp2_with fail
     go_region
     go_wp2_with fail
     go_at_call 50
     refine (stop_any 3 _).mono ?_
     rintro e w6 ⟨⟨older,rfl⟩,rfl⟩
     go_wp2
     exact ⟨rfl,⟨older,rfl⟩,M,A,HR.out.quiet (Mods.refl _ _).drew,HE.out.trans (Ext.quiet (Mods.refl _ _).drew),List.prefix_refl _⟩
   · by_cases hk1:(al:Int)≤nb
     · have hX:=HR1.out
       rw [show placeR s m nb=stopR 3 s by unfold placeR;rw [if_pos];rw [HL.out.2.2.2.2,← HAL.out];omega] at hX
       obtain rfl:=(Option.some.inj hX).symm
       clear hX HR1
       obtain ⟨n,hn⟩:∃ n,n=v.length:=⟨_,rfl⟩
       have HN:=hiD hn
       rw [← hn] at qd qa qb hvc ⊢
       clear h hv hok HM hvl hargs hn
       unfold stpL str at *
       unfold Ran retP
       go_enter Tryz.func52,Tryz.ntmps52
       go_upto_region 1 with (fail)
       rw [← hW1]
       clear hW1
       go_wp2_with fail
       go_region
       go_wp2_with fail
       go_at_call 50
       refine (stop_any 3 _).mono ?_
       rintro e w6 ⟨⟨older,rfl⟩,rfl⟩
       go_wp2
       exact ⟨rfl,⟨older,rfl⟩,M,A,HR.out.quiet (Mods.refl _ _).drew,HE.out.trans (Ext.quiet (Mods.refl _ _).drew),List.prefix_refl _⟩
     · obtain ⟨j,rfl⟩:=Int.eq_ofNat_of_zero_le (by omega:0≤nb)
       have hjl:j<l.length:=by rw [← HAL.out];omega
       have hX:=HR1.out
       rw [show placeR s m (j:Int)=okR (l.getD j 0) s by unfold placeR;rw [HL.out.2.2.2.2,if_neg (by rw [← HAL.out];omega)];simp] at hX
       have hcell:W1.cell? ⟨q,j,none⟩=some (.int .i64 (l[j]'hjl)):=HL.out.2.2.2.1.cell (by simp [List.getElem?_eq_getElem hjl])
       obtain ⟨lj,hlj⟩:∃ lj,lj=l[j]'hjl:=⟨_,rfl⟩
       have hgd:l.getD j 0=lj:=by rw [hlj,List.getD_eq_getElem?_getD,List.getElem?_eq_getElem hjl];rfl
       rw [← hlj] at hcell
       rw [hgd] at hX
       have hk2:(j:Int)<(al:Int):=by omega
       have hk3:¬ (j:Int)<0:=by omega
       obtain rfl:=(Option.some.inj hX).symm
       clear hX HR1 hlj hgd hjl hk0 hk1
       obtain ⟨n,hn⟩:∃ n,n=v.length:=⟨_,rfl⟩
       have HN:=hiD hn
       rw [← hn] at qd qa qb hvc ⊢
       clear h hv hok HM hvl hargs hn
       unfold stpL str at *
       unfold Ran retP
       go_enter Tryz.func52,Tryz.ntmps52
       go_upto_region 1 with (fail)
       rw [← hW1]
       clear hW1
       go_wp2_with fail
       go_region
       go_wp2_with fail
       go_region
       go_end0
       exact put_done HR.out HV.out HE.out (List.prefix_refl A) PLd.out (x:=numV lj) (u:=.int .i64 lj) (y:=.slice none 0 0) (Or.inl ⟨rfl,rfl⟩) (by first|exact Mods.refl _ _|exact (Mods.refl _ _).drew|exact (Mods.refl _ _).drew.drew|exact (Mods.refl _ _).drewN _)
set_option maxRecDepth 100000 in
set_option maxHeartbeats 2000000 in
theorem st_store {L:List Fm} {F:Fm} {x:Stp} (hc:x.code=12):StepC L F x:=by
 intro v b mb g c P M A s W xv r h hv hvl hvc hc1 hx hok hr
 obtain ⟨aa,ac,rfl,hargs⟩:=hx
 have hf:fitB F ((formsP x.code).getD 0 0) x.dst=true∧fitB F ((formsP x.code).getD 1 0) x.a=true∧fitB F ((formsP x.code).getD 2 0) x.b=true∧fitB F ((formsP x.code).getD 3 0) x.c=true:=by
  unfold rightB at hok
  rw [if_neg (by omega),if_neg (by omega),if_neg (by omega)] at hok
  simp only [Bool.and_eq_true] at hok
  exact ⟨hok.1.1.1.1.1,hok.1.1.1.1.2,hok.1.1.1.2,hok.1.1.2⟩
 rw [hc] at hf
 obtain ⟨pa,hpa,hpal⟩:=fit_place (t:=2) (by omega) (by simpa [formsP] using hf.2.1)
 obtain ⟨pb,hpb,hpbl⟩:=fit_place (t:=1) (by omega) (by simpa [formsP] using hf.2.2.1)
 obtain ⟨pc,hpc,hpcl⟩:=fit_place (t:=1) (by omega) (by simpa [formsP] using hf.2.2.2)
 clear hf
 unfold stepM at hr
 rw [if_neg (by omega),if_neg (by omega),if_neg (by omega),if_neg (by omega),if_neg (by omega),if_neg (by omega),if_pos hc] at hr
 obtain ⟨xc,xd,xa,xb,xe,xn,xo,xl,xm,xs⟩:=x
 simp only at hc hpa hpb hpc hr
 subst hc hpa hpb hpc
 simp only at hr ⊢
 obtain ⟨W1,hW1⟩:∃ W1,W1=W.alloc (.cells (stpL ⟨12,xd,(pa:Int),(pb:Int),(pc:Int),xn,xo,xl,xm,xs⟩ (.slice aa xs.length ac)).toArray 57):=⟨_,rfl⟩
 have HM:Mods None W W1:=by rw [hW1];exact (Mods.refl _ _).alloc _
 have HS:Hid (Sx W W1 P M g W.heap.size (stpL ⟨12,xd,(pa:Int),(pb:Int),(pc:Int),xn,xo,xl,xm,xs⟩ (.slice aa xs.length ac))):=hiD (by rw [hW1];exact Sx.new h hv _)
 have HR:=hiD (h.quiet HM)
 have HV:=hiD (hv.ext (Ext.quiet (T:=None) HM) (fun f=>f) (List.prefix_refl A))
 have HE:Hid (Ext (·=g) M M W W1):=hiD (Ext.quiet HM)
 have c0:W1.cell? ⟨W.heap.size,0,none⟩=some (.int .i64 12):=HS.out.blk.cell (i:=0) rfl
 have ka:W1.cell? ⟨W.heap.size,2,none⟩=some (.int .i64 (pa:Int)):=HS.out.blk.cell (i:=2) rfl
 obtain ⟨ua,wa,da0,da1,Va⟩:=HV.out.get (p:=pa) (by omega)
 have qa:(pa:Int)<(v.length:Int):=by omega
 have PLa:=hiD (show pa<v.length by omega)
 clear hpal
 have kb:W1.cell? ⟨W.heap.size,3,none⟩=some (.int .i64 (pb:Int)):=HS.out.blk.cell (i:=3) rfl
 obtain ⟨ub,wb,db0,db1,Vb⟩:=HV.out.get (p:=pb) (by omega)
 have qb:(pb:Int)<(v.length:Int):=by omega
 have PLb:=hiD (show pb<v.length by omega)
 clear hpbl
 have kc:W1.cell? ⟨W.heap.size,4,none⟩=some (.int .i64 (pc:Int)):=HS.out.blk.cell (i:=4) rfl
 obtain ⟨uc,wc,dc0,dc1,Vc⟩:=HV.out.get (p:=pc) (by omega)
 have qc:(pc:Int)<(v.length:Int):=by omega
 have PLc:=hiD (show pc<v.length by omega)
 clear hpcl
 obtain ⟨yb,hyb⟩:=Vb.num
 simp only [Value.agg.injEq,Array.mk.injEq,List.cons.injEq,and_true] at hyb
 obtain ⟨rfl,rfl⟩:=hyb
 obtain ⟨nb,hnb⟩:∃ nb,nb=(v.get (pb:Int)).n:=⟨_,rfl⟩
 rw [← hnb] at db0 Vb hr
 clear hnb
 obtain ⟨yc,hyc⟩:=Vc.num
 simp only [Value.agg.injEq,Array.mk.injEq,List.cons.injEq,and_true] at hyc
 obtain ⟨rfl,rfl⟩:=hyc
 obtain ⟨nc,hnc⟩:∃ nc,nc=(v.get (pc:Int)).n:=⟨_,rfl⟩
 rw [← hnc] at dc0 Vc hr
 clear hnc
 obtain ⟨m,hm⟩:∃ m,m=v.get (pa:Int):=⟨_,rfl⟩
 rw [← hm] at Va hr
 clear hm
 have HR1:=hiD hr
 clear hr
 have hr:=True.intro
 rcases Va with ⟨hv1,hy⟩|⟨i,q,an,hv1,hv2,hy⟩
 · simp only [Value.agg.injEq,Array.mk.injEq,List.cons.injEq,and_true] at hy
   obtain ⟨rfl,rfl⟩:=hy
   have hX:=HR1.out
   rw [show placeR s m nb=stopR 3 s by unfold placeR;rw [if_pos];simp only [arrOf,hv1,List.length_nil];omega] at hX
   obtain rfl:=(Option.some.inj hX).symm
   clear hX HR1 hv1
   obtain ⟨n,hn⟩:∃ n,n=v.length:=⟨_,rfl⟩
   have HN:=hiD hn
   rw [← hn] at qa qb qc hvc ⊢
   clear h hv hok HM hvl hargs hn
   unfold stpL str at *
   unfold Ran retP
   go_enter Tryz.func52,Tryz.ntmps52
   go_upto_region 1 with (fail)
   rw [← hW1]
   clear hW1
   by_cases hk0:nb<0
   · go_wp2_with fail
     go_region
     go_wp2_with fail
     go_at_call 50
     refine (stop_any 3 _).mono ?_
     rintro e w6 ⟨⟨older,rfl⟩,rfl⟩
     go_wp2
     exact ⟨rfl,⟨older,rfl⟩,M,A,HR.out.quiet (Mods.refl _ _).drew,HE.out.trans (Ext.quiet (Mods.refl _ _).drew),List.prefix_refl _⟩
   · have hk1:(0:Int)≤nb:=by omega
     go_wp2_with fail
     go_region
     go_wp2_with fail
     go_at_call 50
     refine (stop_any 3 _).mono ?_
     rintro e w6 ⟨⟨older,rfl⟩,rfl⟩
     go_wp2
     exact ⟨rfl,⟨older,rfl⟩,M,A,HR.out.quiet (Mods.refl _ _).drew,HE.out.trans (Ext.quiet (Mods.refl _ _).drew),List.prefix_refl _⟩
 · simp only [Value.agg.injEq,Array.mk.injEq,List.cons.injEq,and_true] at hy
   obtain ⟨rfl,rfl⟩:=hy
   obtain ⟨l,hl1,rfl,hl2,hl3⟩:=HR.out.row hv2
   have hal:arrOf s m=l:=by simp [arrOf,hv1,hl1,List.getD_eq_getElem?_getD]
   obtain ⟨al,hal2⟩:∃ al,al=l.length:=⟨_,rfl⟩
   have HAL:=hiD hal2
   have HL:=hiD (And.intro hv1 (And.intro hv2 (And.intro hl1 (And.intro hl2 hal))))
   rw [← hal2] at hl3 da1
   have hal3:(al:Int)≤40:=by omega
   have hal4:(0:Int)≤(al:Int):=by omega
   clear hal hal2 hv1 hv2 hl1 hl2 hl3
   by_cases hk0:nb<0
   · have hX:=HR1.out
     rw [show placeR s m nb=stopR 3 s by unfold placeR;rw [if_pos (Or.inl hk0)]] at hX
     obtain rfl:=(Option.some.inj hX).symm
     clear hX HR1
     obtain ⟨n,hn⟩:∃ n,n=v.length:=⟨_,rfl⟩
     have HN:=hiD hn
     rw [← hn] at qa qb qc hvc ⊢
     clear h hv hok HM hvl hargs hn
     unfold stpL str at *
     unfold Ran retP
     go_enter Tryz.func52,Tryz.ntmps52
     go_upto_region 1 with (fail)
     rw [← hW1]
     clear hW1
     go_wp2_with fail
     go_region
     go_wp2_with fail
     go_at_call 50
     refine (stop_any 3 _).mono ?_
     rintro e w6 ⟨⟨older,rfl⟩,rfl⟩
     go_wp2
     exact ⟨rfl,⟨older,rfl⟩,M,A,HR.out.quiet (Mods.refl _ _).drew,HE.out.trans (Ext.quiet (Mods.refl _ _).drew),List.prefix_refl _⟩
   · by_cases hk1:(al:Int)≤nb
     · have hX:=HR1.out
       rw [show placeR s m nb=stopR 3 s by unfold placeR;rw [if_pos];rw [HL.out.2.2.2.2,← HAL.out];omega] at hX
       obtain rfl:=(Option.some.inj hX).symm
       clear hX HR1
       obtain ⟨n,hn⟩:∃ n,n=v.length:=⟨_,rfl⟩
       have HN:=hiD hn
       rw [← hn] at qa qb qc hvc ⊢
       clear h hv hok HM hvl hargs hn
       unfold stpL str at *
       unfold Ran retP
       go_enter Tryz.func52,Tryz.ntmps52
       go_upto_region 1 with (fail)
       rw [← hW1]
       clear hW1
       go_wp2_with fail
       go_region
       go_wp2_with fail
       go_at_call 50
       refine (stop_any 3 _).mono ?_
       rintro e w6 ⟨⟨older,rfl⟩,rfl⟩
       go_wp2
       exact ⟨rfl,⟨older,rfl⟩,M,A,HR.out.quiet (Mods.refl _ _).drew,HE.out.trans (Ext.quiet (Mods.refl _ _).drew),List.prefix_refl _⟩
     · obtain ⟨j,rfl⟩:=Int.eq_ofNat_of_zero_le (by omega:0≤nb)
       have hjl:j<l.length:=by rw [← HAL.out];omega
       have hX:=HR1.out
       rw [show placeR s m (j:Int)=okR (l.getD j 0) s by unfold placeR;rw [HL.out.2.2.2.2,if_neg (by rw [← HAL.out];omega)];simp] at hX
       have hcell:W1.cell? ⟨q,j,none⟩=some (.int .i64 (l[j]'hjl)):=HL.out.2.2.2.1.cell (by simp [List.getElem?_eq_getElem hjl])
       obtain ⟨lj,hlj⟩:∃ lj,lj=l[j]'hjl:=⟨_,rfl⟩
       have hgd:l.getD j 0=lj:=by rw [hlj,List.getD_eq_getElem?_getD,List.getElem?_eq_getElem hjl];rfl
       rw [← hlj] at hcell
       rw [hgd] at hX
       have hk2:(j:Int)<(al:Int):=by omega
       have hk3:¬ (j:Int)<0:=by omega
       have hpa:putArr s m (j:Int) nc={ s with arrs:=s.arrs.set i (l.set j nc) }:=by simp [putArr,HL.out.1,HL.out.2.2.1,List.getD_eq_getElem?_getD]
       have hr2:r=(.ok v,{ s with arrs:=s.arrs.set i (l.set j nc) }):=by
        have:=(Option.some.inj hX).symm
        rw [hpa] at this
        exact this
       subst hr2
       have hfz:=HL.out.2.2.2.1.free j
       obtain ⟨hR9,hE9⟩:=HR.out.setArr (by have h:=HL.out.2.1;exact h) HL.out.2.2.1 j nc
       have HR9:=hiD hR9
       have HE9:=hiD hE9
       clear hX HR1 hlj hgd hjl hk0 hk1 hpa hR9 hE9
       obtain ⟨n,hn⟩:∃ n,n=v.length:=⟨_,rfl⟩
       have HN:=hiD hn
       rw [← hn] at qa qb qc hvc ⊢
       clear h hv hok HM hvl hargs hn
       unfold stpL str at *
       unfold Ran retP
       go_enter Tryz.func52,Tryz.ntmps52
       go_upto_region 1 with (fail)
       rw [← hW1]
       clear hW1
       go_wp2_with fail
       go_region
       go_wp2_with fail
       go_end0
       exact rest_done (HR9.out.quiet (Mods.refl _ _).drew) ((HV.out.ext HE9.out (fun f=>f) (List.prefix_refl _)).ext (Ext.quiet (T:=None) (Mods.refl _ _).drew) (fun f=>f) (List.prefix_refl _)) ((HE.out.trans (HE9.out.more fun _ _ f=>f.elim)).trans (Ext.quiet (Mods.refl _ _).drew)) (List.prefix_refl _)
set_option maxRecDepth 100000 in
set_option maxHeartbeats 2000000 in
theorem st_label {L:List Fm} {F:Fm} {x:Stp} (hc:x.code=6):StepC L F x:=by
 intro v b mb g c P M A s W xv r h hv hvl hvc hc1 hx hok hr
 obtain ⟨aa,ac,rfl,hargs⟩:=hx
 have hf:fitB F ((formsP x.code).getD 0 0) x.dst=true∧fitB F ((formsP x.code).getD 1 0) x.a=true∧fitB F ((formsP x.code).getD 2 0) x.b=true∧fitB F ((formsP x.code).getD 3 0) x.c=true:=by
  unfold rightB at hok
  rw [if_neg (by omega),if_neg (by omega),if_neg (by omega)] at hok
  simp only [Bool.and_eq_true] at hok
  exact ⟨hok.1.1.1.1.1,hok.1.1.1.1.2,hok.1.1.1.2,hok.1.1.2⟩
 rw [hc] at hf
 clear hf
 unfold stepM at hr
 rw [if_neg (by omega),if_neg (by omega),if_neg (by omega),if_neg (by omega),if_neg (by omega),if_neg (by omega),if_neg (by omega),if_neg (by omega),if_neg (by omega)] at hr
 obtain rfl:=(Option.some.inj hr).symm
 obtain ⟨xc,xd,xa,xb,xe,xn,xo,xl,xm,xs⟩:=x
 simp only at hc
 subst hc
 simp only
 obtain ⟨W1,hW1⟩:∃ W1,W1=W.alloc (.cells (stpL ⟨6,xd,xa,xb,xe,xn,xo,xl,xm,xs⟩ (.slice aa xs.length ac)).toArray 57):=⟨_,rfl⟩
 have HM:Mods None W W1:=by rw [hW1];exact (Mods.refl _ _).alloc _
 have HS:Hid (Sx W W1 P M g W.heap.size (stpL ⟨6,xd,xa,xb,xe,xn,xo,xl,xm,xs⟩ (.slice aa xs.length ac))):=hiD (by rw [hW1];exact Sx.new h hv _)
 have HR:=hiD (h.quiet HM)
 have HV:=hiD (hv.ext (Ext.quiet (T:=None) HM) (fun f=>f) (List.prefix_refl A))
 have HE:Hid (Ext (·=g) M M W W1):=hiD (Ext.quiet HM)
 have c0:W1.cell? ⟨W.heap.size,0,none⟩=some (.int .i64 6):=HS.out.blk.cell (i:=0) rfl
 obtain ⟨n,hn⟩:∃ n,n=v.length:=⟨_,rfl⟩
 have HN:=hiD hn
 rw [← hn] at hvc ⊢
 clear h hv hok HM hvl hargs hn
 unfold stpL str at *
 unfold Ran retP
 go_enter Tryz.func52,Tryz.ntmps52
 go_upto_region 1 with (fail)
 rw [← hW1]
 clear hW1
 go_wp2_with fail
 go_end0
 exact rest_done HR.out HV.out HE.out (List.prefix_refl A)
theorem st_any {L:List Fm} {F:Fm} {x:Stp} (hok:rightB L F x=true) (h4:x.code≠4) (h5:x.code≠5) (h7:x.code≠7) (h8:x.code≠8):StepC L F x:=by
 by_cases h2:x.code=2
 · exact st_copy h2
 have hc:1≤x.code∧x.code≤14:=by
  unfold rightB at hok
  rw [if_neg h2,if_neg h7] at hok
  split at hok
  · cases hok
  · omega
 have:x.code=1∨x.code=3∨x.code=6∨x.code=9∨x.code=10∨x.code=11∨x.code=12∨x.code=13∨x.code=14:=by omega
 rcases this with h|h|h|h|h|h|h|h|h
 · exact st_const h
 · exact st_two h
 · exact st_label h
 · exact st_new h
 · exact st_len h
 · exact st_load h
 · exact st_store h
 · exact st_print h
 · exact st_input h
end Go.Proofs.YtnicpmoanjddbaaGreatDoor.MidP

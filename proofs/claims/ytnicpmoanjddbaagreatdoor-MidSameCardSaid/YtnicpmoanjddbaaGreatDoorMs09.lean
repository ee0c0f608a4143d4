/- Which steps may be a program: the walk. Conditions: what it reads lies. Which steps may be a program: all but copies and calls. Conditions: the tables lie as the program lays them. -/
import Derived.Test.YtnicpmoanjddbaaGreatDoorMs08
import Derived.Deep.QuietTactic
import Derived.BigQuiet
import Derived.Deep.DeepCutAuto
import Derived.Deep.RegionWith
namespace Go.Proofs.YtnicpmoanjddbaaGreatDoor.MidP
open Go.RowKit Go.Proofs.YtnicpmoanjddbaaGreatDoor.Wo Go.Maps Go.Proofs.YtnicpmoanjddbaaGreatDoor.TreeP
set_option linter.unusedVariables false
set_option linter.unusedSimpArgs false
theorem kind_any (f:Fm) (p:Int) (q tc:Nat) (ta:Option Addr) (S:Nat→Prop) (W:World) (hq:W.cell? ⟨q,2,none⟩=some (.slice ta f.types.length tc)) (hT:IntsAt W S (.slice ta f.types.length tc) f.types) :
 Calls Tryz.prog 86 #[.int .i64 p,.pointer (some ⟨q,0,none⟩)] W fun e w=>e=.returned (.int .i64 (kindP f p))∧W=w:=by
 obtain ⟨_,_,hf,hl,hm,-⟩:=hT.form
 obtain ⟨-,-,rfl⟩:=Value.slice.inj hf
 by_cases h0:p<0
 · have hk:kindP f p=-1:=by unfold kindP;rw [if_pos (Or.inl h0)]
   rw [hk]
   clear hk hT hf hl hm
   go_enter Tryz.func86,Tryz.ntmps86
   go_wp2
   go_ret
   exact ⟨rfl,rfl⟩
 · obtain ⟨k,rfl⟩:∃ k:Nat,p=k:=⟨p.toNat,by omega⟩
   by_cases h1:k<f.types.length
   · have hk:kindP f k=f.types[k]:=by
        unfold kindP
        rw [if_neg (by omega),Int.toNat_natCast,List.getD_eq_getElem?_getD,List.getElem?_eq_getElem h1]
        rfl
     obtain ⟨g,o,rfl,hc⟩:=hT.get h1
     rw [hk]
     have h2:(k:Int)<f.types.length:=by omega
     clear hk hT hf h0
     generalize f.types[k]=t at hc ⊢
     clear h1
     generalize f.types.length=n at *
     go_enter Tryz.func86,Tryz.ntmps86
     go_wp2
     go_ret
     exact ⟨rfl,rfl⟩
   · have hk:kindP f k=-1:=by unfold kindP;rw [if_pos (Or.inr (by omega))]
     rw [hk]
     have h2:(f.types.length:Int)≤k:=by omega
     clear hk hT hf hl hm
     generalize f.types.length=n at *
     go_enter Tryz.func86,Tryz.ntmps86
     go_wp2
     go_ret
     exact ⟨rfl,rfl⟩
theorem kind_quiet (f:Fm) (p:Int) (q tc:Nat) (ta:Option Addr) (S:Nat→Prop) (W:World) (hq:W.cell? ⟨q,2,none⟩=some (.slice ta f.types.length tc)) (hT:IntsAt W S (.slice ta f.types.length tc) f.types) (n:Nat) :
 Calls Tryz.prog 86 #[.int .i64 p,.pointer (some ⟨q,0,none⟩)] (W.drewN n) fun e w=>e=.returned (.int .i64 (kindP f p))∧∃ m,w=W.drewN m :=
 (kind_any f p q tc ta S (W.drewN n) hq (hT.mods ((Mods.refl S W).drewN n) (fun _ _ k=>k))).mono fun e w ⟨h1,h2⟩=>⟨h1,n,h2.symm⟩
structure Ask (W W3:World) (f:Fm) (s:Stp) (q:Nat) (ta sa aa:Option Addr) (tc sc ac:Nat):Prop where
 mods:Mods None W W3
 fn:Blk W3 q [str f.name,.int .i64 f.params,.slice ta f.types.length tc,.slice sa f.steps.length sc] 55
 st:Blk W3 (q+1) (stpL s (.slice aa s.args.length ac)) 57
theorem Ask.new (W:World) (f:Fm) (s:Stp) (ta sa aa:Option Addr) (tc sc ac:Nat) :
 Ask W ((W.alloc (.cells #[str f.name,.int .i64 f.params,.slice ta f.types.length tc,.slice sa f.steps.length sc] 55)).alloc (.cells (stpL s (.slice aa s.args.length ac)).toArray 57)) f s W.heap.size ta sa aa tc sc ac:=by
 refine ⟨((Mods.refl _ _).alloc _).alloc _,(Blk.new W _ _).alloc _,?_⟩
 have:=Blk.new (W.alloc (.cells #[str f.name,.int .i64 f.params,.slice ta f.types.length tc,.slice sa f.steps.length sc] 55)) (stpL s (.slice aa s.args.length ac)).toArray 57
 rw [show (W.alloc (.cells #[str f.name,.int .i64 f.params,.slice ta f.types.length tc,.slice sa f.steps.length sc] 55)).heap.size=W.heap.size+1 by simp] at this
 simpa using this
set_option maxRecDepth 100000 in
set_option maxHeartbeats 1000000 in
theorem right_copy (L:List Fm) (f:Fm) (s:Stp) (cb bm:Nat) (ta sa aa:Option Addr) (tc sc ac:Nat) (W:World) (hc:s.code=2)
 (hT:IntsAt W None (.slice ta f.types.length tc) f.types) :
 Calls Tryz.prog 58 #[.pointer (some ⟨cb,0,none⟩),.agg #[str f.name,.int .i64 f.params,.slice ta f.types.length tc,.slice sa f.steps.length sc],.agg (stpL s (.slice aa s.args.length ac)).toArray,.map (some bm)] W fun e w=>e=.returned (.bool (rightB L f s))∧Mods None W w:=by
 have hr:rightB L f s=(decide (kindP f s.dst > 0) && kindP f s.dst==kindP f s.a):=by
  unfold rightB
  rw [if_pos hc]
 rw [hr]
 obtain ⟨W3,hW3⟩:∃ W3,W3=((W.alloc (.cells #[str f.name,.int .i64 f.params,.slice ta f.types.length tc,.slice sa f.steps.length sc] 55)).alloc (.cells (stpL s (.slice aa s.args.length ac)).toArray 57)):=⟨_,rfl⟩
 have hmf:∀ (fn:Go.Fn) (first cap:Array Value) (w:World),(Instr.makeFunc fn first cap).run Tryz.prog w=.ok (.func fn first cap) w:=fun _ _ _ _=>rfl
 have HA:Ask W W3 f s W.heap.size ta sa aa tc sc ac:=by rw [hW3];exact Ask.new W f s ta sa aa tc sc ac
 have hT3:=hT.mods HA.mods (fun _ _ k=>k)
 have HK:=hiD (fun (p:Int) (n:Nat)=>kind_quiet f p W.heap.size tc ta None W3 (HA.fn.cell rfl) hT3 n)
 have s0:=HA.st.cell (i:=0) rfl
 have s1:=HA.st.cell (i:=1) rfl
 have s2:=HA.st.cell (i:=2) rfl
 rw [hc] at s0
 have HM:=hiD HA.mods
 clear HA hT hT3 hr hc
 unfold stpL str at *
 go_enter Tryz.func58,Tryz.ntmps58
 go_upto_region 1 with (fail)
 rw [← hW3]
 clear hW3
 by_cases hk:0<kindP f s.dst
 rotate_left
 · have hk2:decide (0<kindP f s.dst)=false:=by simpa using hk
   go_wp2_with fail
   go_quiet ((go_at_call 86;exact HK.out _ _))
   go_wp2_with fail
   go_ret
   exact ⟨by simp [hk2],HM.out.drewN _⟩
 · go_wp2_with fail
   go_quiet ((go_at_call 86;exact HK.out _ _))
   go_wp2_with fail
   go_ret
   exact ⟨by simp [hk],HM.out.drewN _⟩
set_option maxRecDepth 100000 in
theorem eq_call (g:Fm) (nm:List UInt8) (q:Nat) (w:World) (fv:Value) (hq:w.cell? ⟨q,8,none⟩=some (str nm)) (hv:FmV w None g fv) :
 Calls Tryz.prog 87 #[fv,.pointer (some ⟨q,0,none⟩)] w fun e w'=>e=.returned (.bool (g.name==nm))∧Mods None w w':=by
 obtain ⟨ta,tc,sa,sc,rfl,-,-⟩:=hv
 have hlt:q<w.heap.size:=World.block_lt_of_cell? w _ hq
 have hne:q≠w.heap.size:=by omega
 unfold str at *
 go_enter Tryz.func87,Tryz.ntmps87
 go_wp2
 go_ret
 exact ⟨by simp,(Mods.refl _ _).alloc _⟩
def Heads (L:List Fm):Prop:=∀ g∈L,0≤g.params∧g.params≤g.types.length
theorem find_idx {α:Type} (l:List α) (p:α→Bool):l.find? p=(l.findIdx? p).bind fun i=>l[i]?:=by
 induction l with
 | nil=>rfl
 | cons a r ih =>
   rw [List.find?_cons,List.findIdx?_cons]
   split
   · rename_i h;rw [h];rfl
   · rename_i h
     rw [h,ih]
     cases r.findIdx? p with
     | none=>rfl
     | some i=>simp
theorem map_take {f:Int→Int} {l t:List Int} {n:Nat} (hn:l.length=n) (ht:n≤t.length):(l.map f==t.take n)=true↔∀ i,i<n→∀ x,l[i]?=some x→f x=t.getD i 0:=by
 rw [beq_iff_eq]
 constructor
 · intro h i hi x hx
   have h1:(l.map f)[i]?=some (f x):=by rw [List.getElem?_map,hx];rfl
   rw [h,List.getElem?_take_of_lt hi] at h1
   rw [List.getD_eq_getElem?_getD,h1]
   rfl
 · intro h
   apply List.ext_getElem?
   intro i
   by_cases hi:i<n
   · rw [List.getElem?_map,List.getElem?_take_of_lt hi]
     have hl:i<l.length:=by omega
     rw [List.getElem?_eq_getElem hl,List.getElem?_eq_getElem (by omega:i<t.length)]
     have:=h i hi _ (List.getElem?_eq_getElem hl)
     rw [Option.map_some,this,List.getD_eq_getElem?_getD,List.getElem?_eq_getElem (by omega:i<t.length)]
     rfl
   · rw [List.getElem?_eq_none (by rw [List.length_map];omega),List.getElem?_eq_none (by rw [List.length_take];omega)]
theorem rightB_none {L:List Fm} {f:Fm} {s:Stp} (hc:s.code=7) (h:L.findIdx? (fun g=>g.name==s.name)=none):rightB L f s=false:=by
 unfold rightB
 rw [if_neg (by omega),if_pos hc,find_idx,h]
 rfl
theorem rightB_some {L:List Fm} {f:Fm} {s:Stp} (hc:s.code=7) {k:Nat} {G:Fm} (hk:L[k]?=some G) (h:L.findIdx? (fun g=>g.name==s.name)=some k):rightB L f s=(decide ((s.args.length:Int)=G.params) && kindP f s.dst==1 && (s.args.map (kindP f))==G.types.take s.args.length):=by
 unfold rightB
 rw [if_neg (by omega),if_pos hc,find_idx,h,Option.bind_some,hk]
set_option maxRecDepth 100000 in
set_option maxHeartbeats 1000000 in
theorem right_call_no (L:List Fm) (f:Fm) (s:Stp) (cb bm:Nat) (lv:Value) (ta sa aa:Option Addr) (tc sc ac:Nat) (W:World) (hc:s.code=7)
 (hcb:W.cell? ⟨cb,0,none⟩=some lv) (hL:FmsAt W None lv L) (hH:Heads L)
 (hT:IntsAt W None (.slice ta f.types.length tc) f.types) (hA:IntsAt W None (.slice aa s.args.length ac) s.args) (hno:∀ k G,L[k]?=some G→L.findIdx? (fun g=>g.name==s.name)=some k→¬ kindP f s.dst=1) :
 Calls Tryz.prog 58 #[.pointer (some ⟨cb,0,none⟩),.agg #[str f.name,.int .i64 f.params,.slice ta f.types.length tc,.slice sa f.steps.length sc],.agg (stpL s (.slice aa s.args.length ac)).toArray,.map (some bm)] W fun e w=>e=.returned (.bool (rightB L f s))∧Mods None W w:=by
 obtain ⟨xa,xc,rfl,hxc,hxm,hx0⟩:=hL.form
 obtain ⟨W3,hW3⟩:∃ W3,W3=((W.alloc (.cells #[str f.name,.int .i64 f.params,.slice ta f.types.length tc,.slice sa f.steps.length sc] 55)).alloc (.cells (stpL s (.slice aa s.args.length ac)).toArray 57)):=⟨_,rfl⟩
 have hmf:∀ (fn:Go.Fn) (first cap:Array Value) (w:World),(Instr.makeFunc fn first cap).run Tryz.prog w=.ok (.func fn first cap) w:=fun _ _ _ _=>rfl
 have HA:Ask W W3 f s W.heap.size ta sa aa tc sc ac:=by rw [hW3];exact Ask.new W f s ta sa aa tc sc ac
 have hT3:=hT.mods HA.mods (fun _ _ k=>k)
 have hA3:=hA.mods HA.mods (fun _ _ k=>k)
 obtain ⟨_,_,haf,hn1,hn2,-⟩:=hA.form
 obtain ⟨-,-,rfl⟩:=Value.slice.inj haf
 have hL3:=hL.mods HA.mods (fun _ _ k=>k)
 have hcb3:W3.cell? ⟨cb,0,none⟩=some (.slice xa L.length xc):=HA.mods.cellOf hcb (fun k=>k)
 have s0:=HA.st.cell (i:=0) rfl
 have s1:=HA.st.cell (i:=1) rfl
 have s8:=HA.st.cell (i:=8) rfl
 have s9:=HA.st.cell (i:=9) rfl
 rw [hc] at s0
 have HI:=hiD (index_call L (.slice xa L.length xc) (W.heap.size+1) (fun g=>g.name==s.name) W3 hL3 (fun i hi w fv hm hv=>eq_call L[i] s.name _ w fv (hm.cellOf s8 (fun k=>k)) hv))
 have HK:=hiD (fun (w:World) (hm:Mods None W3 w) (p:Int) (n:Nat)=>kind_quiet f p W.heap.size tc ta None w (hm.cellOf (HA.fn.cell rfl) (fun k=>k)) (hT3.mods hm (fun _ _ k=>k)) n)
 have HM:=hiD HA.mods
 have HLL:=hiD (And.intro hL3 hA3)
 have HS:=hiD (And.intro hcb3 (And.intro s1 s9))
 have hr0:Hid (L.findIdx? (fun g=>g.name==s.name)=none→rightB L f s=false):=hiD (rightB_none hc)
 have hrS:Hid (∀ k G,L[k]?=some G→L.findIdx? (fun g=>g.name==s.name)=some k→rightB L f s=(decide ((s.args.length:Int)=G.params) && kindP f s.dst==1 && (s.args.map (kindP f))==G.types.take s.args.length)):=hiD (fun k G h=>rightB_some hc h)
 have HX:Hid (∀ k,L.findIdx? (fun g=>g.name==s.name)=some k→k<L.length):=hiD (fun k hk=>(List.findIdx?_eq_some_iff_getElem.1 hk).1)
 have HH:=hiD hH
 have HNO:=hiD hno
 clear hno HA hT hT3 hc hL hA hA3 hL3 hH hcb s8
 generalize L.findIdx? (fun g=>g.name==s.name)=ok at *
 generalize hnn:s.args.length=n at *
 have HNN:=hiD hnn
 clear hnn
 generalize hLn:L.length=ln at *
 have HLN:=hiD hLn
 clear hLn
 unfold stpL str at *
 go_enter Tryz.func58,Tryz.ntmps58
 go_upto_region 1 with (fail)
 rw [← hW3]
 clear hW3
 go_wp2_with fail
 go_at_call 53
 refine HI.out.mono ?_
 rintro e w1 ⟨rfl,hm1⟩
 have HM1:=hiD hm1
 have hcb1:=hm1.cellOf hcb3 (fun k=>k)
 have hs1:=hm1.cellOf s1 (fun k=>k)
 have hs9:=hm1.cellOf s9 (fun k=>k)
 have HKK:=hiD (HK.out w1 hm1)
 clear hm1 hcb3 s0 s1 s9 HI
 cases ok with
 | none =>
   simp only [optI]
   go_wp2_with fail
   go_quiet (fail)
   go_wp2_with fail
   go_ret
   rw [hr0.out trivial]
   exact ⟨rfl,(HM.out.trans HM1.out).drewN _⟩
 | some k =>
   have hkn:=HX.out k rfl
   have hkl:k<L.length:=by rw [HLN.out];exact hkn
   simp only [optI]
   obtain ⟨hL1,hA1⟩:=HLL.out
   obtain ⟨g,o,ga,gc,ha,hcc,rfl,c0,c1,c2,c3,hgT,hgS⟩:=(hL1.mods HM1.out (fun _ _ k=>k)).get (by rw [HLN.out];exact hkn)
   have hpar:=HH.out L[k] (List.getElem_mem hkl)
   have hnod:=HNO.out k _ (List.getElem?_eq_getElem hkl) rfl
   have HR:=hiD (hrS.out k _ (List.getElem?_eq_getElem hkl) rfl)
   have hmt0:=fun (h:s.args.length=n) (h2:n≤L[k].types.length)=>map_take (f:=kindP f) h h2
   generalize L[k]=G at *
   obtain ⟨hp0,hp1⟩:=hpar
   have hk0:decide ((k:Int)<0)=false:=by simp
   have hki:(k:Int)<(ln:Int):=by omega
   clear hrS hr0 HX HLL HH HLN
   by_cases hpn:(n:Int)=G.params
   · have hb:((n:Int) != G.params)=false:=by simpa using hpn
     have hnt:n≤G.types.length:=by omega
     have hmt:=hiD (hmt0 HNN.out hnt)
     rw [← hpn] at c1
     have hb2:((n:Int) != n)=false:=by simp
     have HG:Hid (rightB L f s=(kindP f s.dst==1 && (s.args.map (kindP f)==G.types.take n))):=hiD (by rw [HR.out,hpn];simp)
     clear hpn hb HR hmt0
     have hd1:¬ kindP f s.dst=1:=hnod
     clear hnod
     have hd:(kindP f s.dst != 1)=true:=by simpa using hd1
     go_wp2_with fail
     go_quiet ((go_at_call 86;exact HKK.out _ _))
     go_wp2_with fail
     go_ret
     rw [HG.out]
     exact ⟨by simp [hd1],(HM.out.trans HM1.out).drewN _⟩
   · have hb:((n:Int) != G.params)=true:=by simpa using hpn
     go_wp2_with fail
     go_quiet (fail)
     go_wp2_with fail
     go_ret
     rw [HR.out]
     exact ⟨by simp [hpn],(HM.out.trans HM1.out).drewN _⟩
set_option maxRecDepth 100000 in
set_option maxHeartbeats 1000000 in
theorem right_call_yes (L:List Fm) (f:Fm) (s:Stp) (cb bm:Nat) (lv:Value) (ta sa aa:Option Addr) (tc sc ac:Nat) (W:World) (hc:s.code=7)
 (hcb:W.cell? ⟨cb,0,none⟩=some lv) (hL:FmsAt W None lv L) (hH:Heads L)
 (hT:IntsAt W None (.slice ta f.types.length tc) f.types) (hA:IntsAt W None (.slice aa s.args.length ac) s.args) (k:Nat) (hke:L.findIdx? (fun g=>g.name==s.name)=some k) (hd1:kindP f s.dst=1) :
 Calls Tryz.prog 58 #[.pointer (some ⟨cb,0,none⟩),.agg #[str f.name,.int .i64 f.params,.slice ta f.types.length tc,.slice sa f.steps.length sc],.agg (stpL s (.slice aa s.args.length ac)).toArray,.map (some bm)] W fun e w=>e=.returned (.bool (rightB L f s))∧Mods None W w:=by
 obtain ⟨xa,xc,rfl,hxc,hxm,hx0⟩:=hL.form
 obtain ⟨W3,hW3⟩:∃ W3,W3=((W.alloc (.cells #[str f.name,.int .i64 f.params,.slice ta f.types.length tc,.slice sa f.steps.length sc] 55)).alloc (.cells (stpL s (.slice aa s.args.length ac)).toArray 57)):=⟨_,rfl⟩
 have hmf:∀ (fn:Go.Fn) (first cap:Array Value) (w:World),(Instr.makeFunc fn first cap).run Tryz.prog w=.ok (.func fn first cap) w:=fun _ _ _ _=>rfl
 have HA:Ask W W3 f s W.heap.size ta sa aa tc sc ac:=by rw [hW3];exact Ask.new W f s ta sa aa tc sc ac
 have hT3:=hT.mods HA.mods (fun _ _ k=>k)
 have hA3:=hA.mods HA.mods (fun _ _ k=>k)
 obtain ⟨_,_,haf,hn1,hn2,-⟩:=hA.form
 obtain ⟨-,-,rfl⟩:=Value.slice.inj haf
 have hL3:=hL.mods HA.mods (fun _ _ k=>k)
 have hcb3:W3.cell? ⟨cb,0,none⟩=some (.slice xa L.length xc):=HA.mods.cellOf hcb (fun k=>k)
 have s0:=HA.st.cell (i:=0) rfl
 have s1:=HA.st.cell (i:=1) rfl
 have s8:=HA.st.cell (i:=8) rfl
 have s9:=HA.st.cell (i:=9) rfl
 rw [hc] at s0
 have HI:=hiD (index_call L (.slice xa L.length xc) (W.heap.size+1) (fun g=>g.name==s.name) W3 hL3 (fun i hi w fv hm hv=>eq_call L[i] s.name _ w fv (hm.cellOf s8 (fun k=>k)) hv))
 have HK:=hiD (fun (w:World) (hm:Mods None W3 w) (p:Int) (n:Nat)=>kind_quiet f p W.heap.size tc ta None w (hm.cellOf (HA.fn.cell rfl) (fun k=>k)) (hT3.mods hm (fun _ _ k=>k)) n)
 have HM:=hiD HA.mods
 have HLL:=hiD (And.intro hL3 hA3)
 have HS:=hiD (And.intro hcb3 (And.intro s1 s9))
 have hr0:Hid (L.findIdx? (fun g=>g.name==s.name)=none→rightB L f s=false):=hiD (rightB_none hc)
 have hrS:Hid (∀ k G,L[k]?=some G→L.findIdx? (fun g=>g.name==s.name)=some k→rightB L f s=(decide ((s.args.length:Int)=G.params) && kindP f s.dst==1 && (s.args.map (kindP f))==G.types.take s.args.length)):=hiD (fun k G h=>rightB_some hc h)
 have HX:Hid (∀ k,L.findIdx? (fun g=>g.name==s.name)=some k→k<L.length):=hiD (fun k hk=>(List.findIdx?_eq_some_iff_getElem.1 hk).1)
 have HH:=hiD hH
 clear HA hT hT3 hc hL hA hA3 hL3 hH hcb s8
 rw [hke] at HI hr0 hrS HX
 clear hke
 generalize hnn:s.args.length=n at *
 have HNN:=hiD hnn
 clear hnn
 generalize hLn:L.length=ln at *
 have HLN:=hiD hLn
 clear hLn
 unfold stpL str at *
 go_enter Tryz.func58,Tryz.ntmps58
 go_upto_region 1 with (fail)
 rw [← hW3]
 clear hW3
 go_wp2_with fail
 go_at_call 53
 refine HI.out.mono ?_
 rintro e w1 ⟨rfl,hm1⟩
 have HM1:=hiD hm1
 have hcb1:=hm1.cellOf hcb3 (fun k=>k)
 have hs1:=hm1.cellOf s1 (fun k=>k)
 have hs9:=hm1.cellOf s9 (fun k=>k)
 have HKK:=hiD (HK.out w1 hm1)
 clear hm1 hcb3 s0 s1 s9 HI
 have hkn:=HX.out k rfl
 have hkl:k<L.length:=by rw [HLN.out];exact hkn
 simp only [optI]
 obtain ⟨hL1,hA1⟩:=HLL.out
 obtain ⟨g,o,ga,gc,ha,hcc,rfl,c0,c1,c2,c3,hgT,hgS⟩:=(hL1.mods HM1.out (fun _ _ k=>k)).get (by rw [HLN.out];exact hkn)
 have hpar:=HH.out L[k] (List.getElem_mem hkl)
 have HR:=hiD (hrS.out k _ (List.getElem?_eq_getElem hkl) rfl)
 have hmt0:=fun (h:s.args.length=n) (h2:n≤L[k].types.length)=>map_take (f:=kindP f) h h2
 generalize L[k]=G at *
 obtain ⟨hp0,hp1⟩:=hpar
 have hk0:decide ((k:Int)<0)=false:=by simp
 have hki:(k:Int)<(ln:Int):=by omega
 clear hrS hr0 HX HLL HH HLN
 by_cases hpn:(n:Int)=G.params
 · have hb:((n:Int) != G.params)=false:=by simpa using hpn
   have hnt:n≤G.types.length:=by omega
   have hmt:=hiD (hmt0 HNN.out hnt)
   rw [← hpn] at c1
   have hb2:((n:Int) != n)=false:=by simp
   have HG:Hid (rightB L f s=(kindP f s.dst==1 && (s.args.map (kindP f)==G.types.take n))):=hiD (by rw [HR.out,hpn];simp)
   clear hpn hb HR hmt0
   have hd:(kindP f s.dst != 1)=false:=by simpa using hd1
   have HG2:Hid (rightB L f s=(s.args.map (kindP f)==G.types.take n)):=hiD (by rw [HG.out,hd1];rfl)
   clear hd1 HG
   go_wp2_with fail
   go_quiet ((go_at_call 86;exact HKK.out _ _))
   go_wp2_with fail
   have HA1:=hiD (hA1.mods HM1.out (fun _ _ k=>k))
   have HGT:=hiD hgT
   have HC:=hiD (And.intro hcb1 (And.intro hs9 c2))
   clear hgT hgS hA1 hL1 HS c0 c1 c3 hs1
   have HMW:Hid (Mods None w1 (w1.drewN nq)):=hiD ((Mods.refl _ _).drewN _)
   generalize w1.drewN nq=w2 at *
   go_loopw [11,12,72] (fun _ _ iv wr=>∃ i:Nat,i≤n∧iv=.int .i64 i∧Hid (∀ j,j<i→∀ x,s.args[j]?=some x→kindP f x=G.types.getD j 0)∧Hid (Mods None w1 wr)) (fun _ _ iv _=>(n-intOf iv).toNat)
   case atStart=>exact ⟨0,Nat.zero_le _,rfl,hiD (fun j hj=>absurd hj (by omega)),HMW⟩
   case round =>
    obtain ⟨i,hi,rfl,HJ,HW⟩:=hrel
    by_cases hlt:i<n
    · have hil:i<s.args.length:=by rw [HNN.out];exact hlt
      have hit:i<G.types.length:=by omega
      obtain ⟨ag,ao,rfl,hac⟩:=(HA1.out.mods HW.out (fun _ _ k=>k)).get hil
      obtain ⟨tg,tt,rfl,htc⟩:=(HGT.out.mods HW.out (fun _ _ k=>k)).get hit
      have hii:(i:Int)<(n:Int):=by omega
      have hti:(i:Int)<(G.types.length:Int):=by omega
      have HGI:Hid (s.args[i]?=some s.args[i]∧G.types.getD i 0=G.types[i]):=hiD ⟨List.getElem?_eq_getElem hil,by rw [List.getD_eq_getElem?_getD,List.getElem?_eq_getElem hit];rfl⟩
      have HK2:=hiD (HK.out wr (HM1.out.trans HW.out))
      generalize s.args[i]=x at *
      generalize G.types[i]=y at *
      obtain ⟨h1,h2,h3⟩:=HC.out
      have h1:=HW.out.cellOf h1 (fun k=>k)
      have h3:=HW.out.cellOf h3 (fun k=>k)
      by_cases hx:kindP f x=y
      · have hxb:(kindP f x != y)=false:=by simpa using hx
        have HJ2:Hid (∀ j,j<i+1→∀ x,s.args[j]?=some x→kindP f x=G.types.getD j 0):=hiD (fun j hj z hz=>by
          by_cases hji:j=i
          · subst hji
            have e:=HGI.out.1.symm.trans hz
            simp only [Option.some.injEq] at e
            rw [← e,hx,HGI.out.2]
          · exact HJ.out j (by omega) z hz)
        clear hx
        go_wp2_with fail
        go_quiet ((go_at_call 86;exact HK2.out _ _))
        go_wp2_with fail
        exact ⟨⟨i+1,by omega,by go_num,HJ2,hiD (HW.out.drewN _)⟩,by simp [intOf];omega⟩
      · have hxb:(kindP f x != y)=true:=by simpa using hx
        have HG3:Hid (rightB L f s=false):=hiD (by
          rw [HG2.out,Bool.eq_false_iff]
          intro h
          exact hx ((hmt.out.1 h i hlt x HGI.out.1).trans HGI.out.2))
        clear hx
        go_wp2_with fail
        go_quiet ((go_at_call 86;exact HK2.out _ _))
        go_wp2_with fail
        go_ret
        rw [HG3.out]
        exact ⟨rfl,(HM.out.trans (HM1.out.trans HW.out)).drewN _⟩
    · obtain rfl:i=n:=by omega
      have HG3:Hid (rightB L f s=true):=hiD (by
       rw [HG2.out]
       exact hmt.out.2 HJ.out)
      go_wp2_with fail
      go_ret
      rw [HG3.out]
      exact ⟨rfl,HM.out.trans (HM1.out.trans HW.out)⟩
 · have hb:((n:Int) != G.params)=true:=by simpa using hpn
   go_wp2_with fail
   go_quiet (fail)
   go_wp2_with fail
   go_ret
   rw [HR.out]
   exact ⟨by simp [hpn],(HM.out.trans HM1.out).drewN _⟩
theorem right_call (L:List Fm) (f:Fm) (s:Stp) (cb bm:Nat) (lv:Value) (ta sa aa:Option Addr) (tc sc ac:Nat) (W:World) (hc:s.code=7)
 (hcb:W.cell? ⟨cb,0,none⟩=some lv) (hL:FmsAt W None lv L) (hH:Heads L)
 (hT:IntsAt W None (.slice ta f.types.length tc) f.types) (hA:IntsAt W None (.slice aa s.args.length ac) s.args) :
 Calls Tryz.prog 58 #[.pointer (some ⟨cb,0,none⟩),.agg #[str f.name,.int .i64 f.params,.slice ta f.types.length tc,.slice sa f.steps.length sc],.agg (stpL s (.slice aa s.args.length ac)).toArray,.map (some bm)] W fun e w=>e=.returned (.bool (rightB L f s))∧Mods None W w:=by
 cases hk:L.findIdx? (fun g=>g.name==s.name) with
 | none=>exact right_call_no L f s cb bm lv ta sa aa tc sc ac W hc hcb hL hH hT hA (fun k G _ h=>by rw [hk] at h;cases h)
 | some k =>
   by_cases hd:kindP f s.dst=1
   · exact right_call_yes L f s cb bm lv ta sa aa tc sc ac W hc hcb hL hH hT hA k hk hd
   · exact right_call_no L f s cb bm lv ta sa aa tc sc ac W hc hcb hL hH hT hA (fun _ _ _ _=>hd)
def FormsAt (W:World):Prop:=∀ (c i:Nat),c≤14→i<4→W.cell? ⟨1,c*4+i,none⟩=some (.int .i64 ((formsP c).getD i 0))
theorem FormsAt.mods {W W':World} (h:FormsAt W) (hm:Mods None W W'):FormsAt W':=fun c i hc hi=>hm.cellOf (h c i hc hi) (fun f=>f)
def OpsAt (W:World):Prop:=∀ (i:Nat) (x:List UInt8),opList[i]?=some x→W.cell? ⟨2,i,none⟩=some (str x)
theorem OpsAt.mods {W W':World} (h:OpsAt W) (hm:Mods None W W'):OpsAt W':=fun i x hx=>hm.cellOf (h i x hx) (fun f=>f)
theorem str_beq (a b:List UInt8):((⟨a.toArray⟩:ByteArray)==⟨b.toArray⟩)=(a==b):=by
 show (a.toArray==b.toArray)=(a==b)
 by_cases h:a=b
 · subst h;simp
 · rw [show (a==b)=false by simpa using h]
   simpa using h
set_option maxRecDepth 100000 in
set_option maxHeartbeats 1000000 in
theorem ops_index (x:List UInt8) (W:World) (hO:OpsAt W) :
 Calls Tryz.prog 111 #[.slice (some ⟨2,0,none⟩) 11 11,str x] W fun e w=>e=.returned (.int .i64 (optI (opList.findIdx? (fun y=>x==y))))∧W=w:=by
 have HO:=hiD hO
 clear hO
 unfold str at *
 go_enter Tryz.func111,Tryz.ntmps111
 go_wp2_with fail
 go_loopw [5,8] (fun _ iv wr=>∃ i:Nat,i≤11∧iv=.int .i64 i∧Hid ((opList.take i).findIdx? (fun y=>x==y)=none)∧W=wr) (fun _ iv _=>(11-intOf iv).toNat)
 case atStart=>exact ⟨0,Nat.zero_le _,rfl,hiD (by simp),rfl⟩
 case round =>
  obtain ⟨i,hi,rfl,HI,rfl⟩:=hrel
  by_cases hlt:i<11
  · have hil:i<opList.length:=hlt
    obtain ⟨z,hz⟩:∃ z,opList[i]?=some z:=⟨opList[i]'hil,List.getElem?_eq_getElem _⟩
    have c0:=HO.out i z hz
    unfold str at c0
    have hpi:(i:Int)<11:=by omega
    have HT:=hiD (findIdx_take HI.out hz)
    clear hz hil
    by_cases hxz:x=z
    · subst hxz
      have HT2:Hid (opList.findIdx? (fun y=>x==y)=some i):=hiD (findIdx_more (i:=i+1) (by rw [HT.out];simp))
      go_wp2_with fail
      go_ret
      rw [HT2.out]
      exact ⟨rfl,rfl⟩
    · have hb1:(x==z)=false:=by simpa using hxz
      have hbz:((⟨x.toArray⟩:ByteArray)==⟨z.toArray⟩)=false:=by rw [str_beq,hb1]
      have HT2:Hid ((opList.take (i+1)).findIdx? (fun y=>x==y)=none):=hiD (by rw [HT.out,hb1];rfl)
      go_wp2_with fail
      exact ⟨⟨i+1,by omega,by go_num,HT2,trivial⟩,by simp [intOf];omega⟩
  · obtain rfl:i=11:=by omega
    have HF:Hid (opList.findIdx? (fun y=>x==y)=none):=hiD HI.out
    go_wp2_with fail
    go_ret
    rw [HF.out]
    exact ⟨rfl,rfl⟩
set_option maxRecDepth 100000 in
theorem ops_has (x:List UInt8) (W:World) (hO:OpsAt W) :
 Calls Tryz.prog 88 #[.slice (some ⟨2,0,none⟩) 11 11,str x] W fun e w=>e=.returned (.bool (opList.contains x))∧W=w:=by
 have H:=hiD (ops_index x W hO)
 have hc:opList.contains x=opList.any (fun y=>x==y):=by
  rw [Bool.eq_iff_iff]
  simp
 rw [hc,← optI_some]
 clear hO hc
 generalize optI (opList.findIdx? (fun y=>x==y))=k at *
 unfold str at *
 go_enter Tryz.func88,Tryz.ntmps88
 go_wp2_with fail
 go_at_call 111
 refine H.out.mono ?_
 rintro e w1 ⟨rfl,rfl⟩
 go_wp2_with fail
 go_ret
 exact ⟨rfl,rfl⟩
def placeS (s:Stp):Nat→Int
 | 0=>s.dst
 | 1=>s.a
 | 2=>s.b
 | _=>s.c
theorem rightB_else {L:List Fm} {f:Fm} {s:Stp} (h2:s.code≠2) (h7:s.code≠7):rightB L f s=if s.code<1∨s.code > 14 then false else fitB f ((formsP s.code).getD 0 0) s.dst && fitB f ((formsP s.code).getD 1 0) s.a && fitB f ((formsP s.code).getD 2 0) s.b && fitB f ((formsP s.code).getD 3 0) s.c
 && (!(s.code==4 || s.code==5) || hasLabel f s.label) && (!(s.code==3) || opList.contains s.op):=by
 unfold rightB
 rw [if_neg h2,if_neg h7]
theorem rightB_not {L:List Fm} {f:Fm} {s:Stp} (h2:s.code≠2) (h7:s.code≠7) (i:Nat) (hi:i<4) (h:fitB f ((formsP s.code).getD i 0) (placeS s i)=false):rightB L f s=false:=by
 rw [rightB_else h2 h7]
 split
 · rfl
 · rcases i with _|_|_|_|i
   · have h:fitB f ((formsP s.code).getD 0 0) s.dst=false:=h
     rw [h]
     simp
   · have h:fitB f ((formsP s.code).getD 1 0) s.a=false:=h
     rw [h]
     simp
   · have h:fitB f ((formsP s.code).getD 2 0) s.b=false:=h
     rw [h]
     simp
   · have h:fitB f ((formsP s.code).getD 3 0) s.c=false:=h
     rw [h]
     simp
   · omega
theorem fit_more {p:Nat→Prop} {i:Nat} (h:∀ j,j<i→p j) (hi:p i):∀ j,j<i+1→p j:=fun j hj=>by
 rcases Nat.lt_or_ge j i with h2|h2
 · exact h j h2
 · obtain rfl:j=i:=by omega
   exact hi
theorem idx_at (a b c d:Int) (w:World):(Instr.index 184 (.agg #[.int .i64 a,.int .i64 b,.int .i64 c,.int .i64 d]) (.int .i64 0)).run Tryz.prog w=.ok (.int .i64 a) w∧(Instr.index 184 (.agg #[.int .i64 a,.int .i64 b,.int .i64 c,.int .i64 d]) (.int .i64 1)).run Tryz.prog w=.ok (.int .i64 b) w∧(Instr.index 184 (.agg #[.int .i64 a,.int .i64 b,.int .i64 c,.int .i64 d]) (.int .i64 2)).run Tryz.prog w=.ok (.int .i64 c) w∧(Instr.index 184 (.agg #[.int .i64 a,.int .i64 b,.int .i64 c,.int .i64 d]) (.int .i64 3)).run Tryz.prog w=.ok (.int .i64 d) w:=⟨by kernel_rfl,by kernel_rfl,by kernel_rfl,by kernel_rfl⟩
theorem bool_look (w:World):(zeroValue 4).run Tryz.prog w=.ok (.bool false) w:=by kernel_rfl
set_option maxRecDepth 100000 in
set_option maxHeartbeats 4000000 in
theorem right_else (L:List Fm) (f:Fm) (s:Stp) (cb bm mn:Nat) (ta sa aa:Option Addr) (tc sc ac:Nat) (W:World) (h2:s.code≠2) (h7:s.code≠7)
 (hT:IntsAt W None (.slice ta f.types.length tc) f.types) (hFo:FormsAt W) (hOp:OpsAt W) (hlab:I64 s.label) (hmap:IntMap W bm mn (.bool false) (fun l=>.bool (hasLabel f l))) :
 Calls Tryz.prog 58 #[.pointer (some ⟨cb,0,none⟩),.agg #[str f.name,.int .i64 f.params,.slice ta f.types.length tc,.slice sa f.steps.length sc],.agg (stpL s (.slice aa s.args.length ac)).toArray,.map (some bm)] W fun e w=>e=.returned (.bool (rightB L f s))∧Mods None W w:=by
 obtain ⟨R,hR⟩:∃ R,R=rightB L f s:=⟨_,rfl⟩
 have HNF:=hiD (fun i hi h=>(hR.trans (rightB_not (L:=L) (f:=f) (s:=s) h2 h7 i hi h)))
 have HRR:Hid (R=if s.code<1∨s.code > 14 then false else fitB f ((formsP s.code).getD 0 0) s.dst && fitB f ((formsP s.code).getD 1 0) s.a && fitB f ((formsP s.code).getD 2 0) s.b && fitB f ((formsP s.code).getD 3 0) s.c && (!(s.code==4 || s.code==5) || hasLabel f s.label) && (!(s.code==3) || opList.contains s.op)):=hiD (by rw [hR,rightB_else h2 h7])
 rw [← hR]
 obtain ⟨W3,hW3⟩:∃ W3,W3=((W.alloc (.cells #[str f.name,.int .i64 f.params,.slice ta f.types.length tc,.slice sa f.steps.length sc] 55)).alloc (.cells (stpL s (.slice aa s.args.length ac)).toArray 57)):=⟨_,rfl⟩
 have hmf:∀ (fn:Go.Fn) (first cap:Array Value) (w:World),(Instr.makeFunc fn first cap).run Tryz.prog w=.ok (.func fn first cap) w:=fun _ _ _ _=>rfl
 have HA:Ask W W3 f s W.heap.size ta sa aa tc sc ac:=by rw [hW3];exact Ask.new W f s ta sa aa tc sc ac
 have hT3:=hT.mods HA.mods (fun _ _ k=>k)
 have HK:=hiD (fun (p:Int)=>kind_any f p W.heap.size tc ta None W3 (HA.fn.cell rfl) hT3)
 have HF3:=hiD (hFo.mods HA.mods)
 have HO3:=hiD (hOp.mods HA.mods)
 have HMP:=hiD (hmap.mods HA.mods (fun f=>f))
 have HLB:=hiD hlab
 have s0:=HA.st.cell (i:=0) rfl
 have s1:=HA.st.cell (i:=1) rfl
 have s2:=HA.st.cell (i:=2) rfl
 have s3:=HA.st.cell (i:=3) rfl
 have s4:=HA.st.cell (i:=4) rfl
 have s6:=HA.st.cell (i:=6) rfl
 have s7:=HA.st.cell (i:=7) rfl
 have HM:=hiD HA.mods
 have hn2:(s.code==2)=false:=by simpa using h2
 have hn7:(s.code==7)=false:=by simpa using h7
 have H27:=hiD (And.intro h2 h7)
 clear HA hT hT3 hR h2 h7 hFo hOp hmap hlab
 unfold stpL str at *
 go_enter Tryz.func58,Tryz.ntmps58
 go_upto_region 1 with (fail)
 rw [← hW3]
 clear hW3
 by_cases hlo:s.code<1
 · have HB:Hid (R=false):=hiD (by rw [HRR.out,if_pos (Or.inl hlo)])
   go_wp2_with fail
   go_ret
   rw [HB.out]
   exact ⟨rfl,HM.out⟩
 by_cases hhi:s.code > 14
 · have HB:Hid (R=false):=hiD (by rw [HRR.out,if_pos (Or.inr hhi)])
   have hlo2:¬ s.code<1:=hlo
   go_wp2_with fail
   go_ret
   rw [HB.out]
   exact ⟨rfl,HM.out⟩
 obtain ⟨k,hk⟩:∃ k:Nat,s.code=k:=⟨s.code.toNat,by omega⟩
 have HKK:=hiD (show 1≤k∧k≤14 by omega)
 have HCK:=hiD hk
 have hk1:¬ (k:Int)<1:=by omega
 have hk14:¬ (14:Int)<(k:Int):=by omega
 rw [hk] at s0 hn2 hn7
 clear hlo hhi hk
 go_wp2_with fail
 go_loopw [13,14,15,110] (fun _ _ _ iv wr=>∃ i:Nat,i≤4∧iv=.int .i64 i∧Hid (∀ j,j<i→fitB f ((formsP s.code).getD j 0) (placeS s j)=true)∧W3=wr) (fun _ _ _ iv _=>(4-intOf iv).toNat)
 case atStart=>exact ⟨0,by decide,rfl,hiD (fun j hj=>absurd hj (by omega)),rfl⟩
 case round =>
  obtain ⟨i,hi,rfl,HI,rfl⟩:=hrel
  obtain ⟨x0,x1,x2,x3⟩:=idx_at s.dst s.a s.b s.c W3
  rcases (show i=0∨i=1∨i=2∨i=3∨i=4 by omega) with rfl|rfl|rfl|rfl|rfl
  · obtain ⟨t,ht⟩:∃ t,t=(formsP (k:Int)).getD 0 0:=⟨_,rfl⟩
    have t0:=HF3.out k 0 HKK.out.2 (by decide)
    rw [← ht] at t0
    try rw [Nat.add_zero] at t0
    have hk15:(k:Int)<15:=by have:=HKK.out;omega
    have HTT:=hiD ht
    clear ht
    by_cases hpos:0<t
    · by_cases heq:kindP f s.dst=t
      · have HOK:Hid (fitB f ((formsP s.code).getD 0 0) (placeS s 0)=true):=hiD (by rw [HCK.out,← HTT.out];show fitB f t s.dst=true;unfold fitB;simp [heq])
        have hne:(kindP f s.dst != t)=false:=by simp [heq]
        have HQ:=hiD heq
        clear heq
        go_wp2_with fail
        go_at_call 86
        refine (HK.out s.dst).mono ?_
        rintro e w1 ⟨rfl,rfl⟩
        go_wp2_with fail
        exact ⟨⟨1,by decide,rfl,hiD (fit_more HI.out HOK.out),trivial⟩,by simp [intOf]⟩
      · have HB:Hid (R=false):=hiD (HNF.out 0 (by decide) (by rw [HCK.out,← HTT.out];show fitB f t s.dst=false;unfold fitB;simp [heq,hpos]))
        have hne:(kindP f s.dst != t)=true:=by simpa using heq
        have HQ:=hiD heq
        clear heq
        go_wp2_with fail
        go_at_call 86
        refine (HK.out s.dst).mono ?_
        rintro e w1 ⟨rfl,rfl⟩
        go_wp2_with fail
        go_ret
        rw [HB.out]
        exact ⟨rfl,HM.out⟩
    · have HOK:Hid (fitB f ((formsP s.code).getD 0 0) (placeS s 0)=true):=hiD (by rw [HCK.out,← HTT.out];show fitB f t s.dst=true;unfold fitB;simp [hpos])
      go_wp2_with fail
      exact ⟨⟨1,by decide,rfl,hiD (fit_more HI.out HOK.out),trivial⟩,by simp [intOf]⟩
  · obtain ⟨t,ht⟩:∃ t,t=(formsP (k:Int)).getD 1 0:=⟨_,rfl⟩
    have t0:=HF3.out k 1 HKK.out.2 (by decide)
    rw [← ht] at t0
    try rw [Nat.add_zero] at t0
    have hk15:(k:Int)<15:=by have:=HKK.out;omega
    have HTT:=hiD ht
    clear ht
    by_cases hpos:0<t
    · by_cases heq:kindP f s.a=t
      · have HOK:Hid (fitB f ((formsP s.code).getD 1 0) (placeS s 1)=true):=hiD (by rw [HCK.out,← HTT.out];show fitB f t s.a=true;unfold fitB;simp [heq])
        have hne:(kindP f s.a != t)=false:=by simp [heq]
        have HQ:=hiD heq
        clear heq
        go_wp2_with fail
        go_at_call 86
        refine (HK.out s.a).mono ?_
        rintro e w1 ⟨rfl,rfl⟩
        go_wp2_with fail
        exact ⟨⟨2,by decide,rfl,hiD (fit_more HI.out HOK.out),trivial⟩,by simp [intOf]⟩
      · have HB:Hid (R=false):=hiD (HNF.out 1 (by decide) (by rw [HCK.out,← HTT.out];show fitB f t s.a=false;unfold fitB;simp [heq,hpos]))
        have hne:(kindP f s.a != t)=true:=by simpa using heq
        have HQ:=hiD heq
        clear heq
        go_wp2_with fail
        go_at_call 86
        refine (HK.out s.a).mono ?_
        rintro e w1 ⟨rfl,rfl⟩
        go_wp2_with fail
        go_ret
        rw [HB.out]
        exact ⟨rfl,HM.out⟩
    · have HOK:Hid (fitB f ((formsP s.code).getD 1 0) (placeS s 1)=true):=hiD (by rw [HCK.out,← HTT.out];show fitB f t s.a=true;unfold fitB;simp [hpos])
      go_wp2_with fail
      exact ⟨⟨2,by decide,rfl,hiD (fit_more HI.out HOK.out),trivial⟩,by simp [intOf]⟩
  · obtain ⟨t,ht⟩:∃ t,t=(formsP (k:Int)).getD 2 0:=⟨_,rfl⟩
    have t0:=HF3.out k 2 HKK.out.2 (by decide)
    rw [← ht] at t0
    try rw [Nat.add_zero] at t0
    have hk15:(k:Int)<15:=by have:=HKK.out;omega
    have HTT:=hiD ht
    clear ht
    by_cases hpos:0<t
    · by_cases heq:kindP f s.b=t
      · have HOK:Hid (fitB f ((formsP s.code).getD 2 0) (placeS s 2)=true):=hiD (by rw [HCK.out,← HTT.out];show fitB f t s.b=true;unfold fitB;simp [heq])
        have hne:(kindP f s.b != t)=false:=by simp [heq]
        have HQ:=hiD heq
        clear heq
        go_wp2_with fail
        go_at_call 86
        refine (HK.out s.b).mono ?_
        rintro e w1 ⟨rfl,rfl⟩
        go_wp2_with fail
        exact ⟨⟨3,by decide,rfl,hiD (fit_more HI.out HOK.out),trivial⟩,by simp [intOf]⟩
      · have HB:Hid (R=false):=hiD (HNF.out 2 (by decide) (by rw [HCK.out,← HTT.out];show fitB f t s.b=false;unfold fitB;simp [heq,hpos]))
        have hne:(kindP f s.b != t)=true:=by simpa using heq
        have HQ:=hiD heq
        clear heq
        go_wp2_with fail
        go_at_call 86
        refine (HK.out s.b).mono ?_
        rintro e w1 ⟨rfl,rfl⟩
        go_wp2_with fail
        go_ret
        rw [HB.out]
        exact ⟨rfl,HM.out⟩
    · have HOK:Hid (fitB f ((formsP s.code).getD 2 0) (placeS s 2)=true):=hiD (by rw [HCK.out,← HTT.out];show fitB f t s.b=true;unfold fitB;simp [hpos])
      go_wp2_with fail
      exact ⟨⟨3,by decide,rfl,hiD (fit_more HI.out HOK.out),trivial⟩,by simp [intOf]⟩
  · obtain ⟨t,ht⟩:∃ t,t=(formsP (k:Int)).getD 3 0:=⟨_,rfl⟩
    have t0:=HF3.out k 3 HKK.out.2 (by decide)
    rw [← ht] at t0
    try rw [Nat.add_zero] at t0
    have hk15:(k:Int)<15:=by have:=HKK.out;omega
    have HTT:=hiD ht
    clear ht
    by_cases hpos:0<t
    · by_cases heq:kindP f s.c=t
      · have HOK:Hid (fitB f ((formsP s.code).getD 3 0) (placeS s 3)=true):=hiD (by rw [HCK.out,← HTT.out];show fitB f t s.c=true;unfold fitB;simp [heq])
        have hne:(kindP f s.c != t)=false:=by simp [heq]
        have HQ:=hiD heq
        clear heq
        go_wp2_with fail
        go_at_call 86
        refine (HK.out s.c).mono ?_
        rintro e w1 ⟨rfl,rfl⟩
        go_wp2_with fail
        exact ⟨⟨4,by decide,rfl,hiD (fit_more HI.out HOK.out),trivial⟩,by simp [intOf]⟩
      · have HB:Hid (R=false):=hiD (HNF.out 3 (by decide) (by rw [HCK.out,← HTT.out];show fitB f t s.c=false;unfold fitB;simp [heq,hpos]))
        have hne:(kindP f s.c != t)=true:=by simpa using heq
        have HQ:=hiD heq
        clear heq
        go_wp2_with fail
        go_at_call 86
        refine (HK.out s.c).mono ?_
        rintro e w1 ⟨rfl,rfl⟩
        go_wp2_with fail
        go_ret
        rw [HB.out]
        exact ⟨rfl,HM.out⟩
    · have HOK:Hid (fitB f ((formsP s.code).getD 3 0) (placeS s 3)=true):=hiD (by rw [HCK.out,← HTT.out];show fitB f t s.c=true;unfold fitB;simp [hpos])
      go_wp2_with fail
      exact ⟨⟨4,by decide,rfl,hiD (fit_more HI.out HOK.out),trivial⟩,by simp [intOf]⟩
  · have HIN:=hiD (fun (j:Nat) (hj:j<4)=>HI.out j hj)
    have HRE:Hid (R=((!((k:Int)==4 || (k:Int)==5) || hasLabel f s.label) && (!((k:Int)==3) || opList.contains s.op))):=hiD (by
        have e0:fitB f ((formsP s.code).getD 0 0) s.dst=true:=HIN.out 0 (by decide)
        have e1:fitB f ((formsP s.code).getD 1 0) s.a=true:=HIN.out 1 (by decide)
        have e2:fitB f ((formsP s.code).getD 2 0) s.b=true:=HIN.out 2 (by decide)
        have e3:fitB f ((formsP s.code).getD 3 0) s.c=true:=HIN.out 3 (by decide)
        rw [HRR.out,if_neg (by have h1:=HCK.out;have h2:=HKK.out;omega),e0,e1,e2,e3,HCK.out]
        simp)
    have HC:=hiD (fun (n:Nat)=>(ops_has s.op (W3.drewN n) (HO3.out.mods ((Mods.refl _ _).drewN n))).mono fun (e:Ending) (w:World) ⟨h1,h2⟩=>(⟨h1,n,h2.symm⟩:e=Ending.returned (.bool (opList.contains s.op))∧∃ m,w=W3.drewN m))
    have hlk:∀ n,(Instr.lookup 128 (.map (some bm)) (.int .i64 s.label) false).run Tryz.prog (W3.drewN n)=.ok (.bool (hasLabel f s.label)) (W3.drewN n):=fun n=>(HMP.out.mods ((Mods.refl None W3).drewN n) (fun f=>f)).look Tryz.underlying128 (bool_look _) HLB.out
    have hlk0:=hlk 0
    have hlk1:=hlk 1
    obtain ⟨c,hc⟩:∃ c,c=opList.contains s.op:=⟨_,rfl⟩
    obtain ⟨l,hl⟩:∃ l,l=hasLabel f s.label:=⟨_,rfl⟩
    rw [← hc] at HC HRE
    rw [← hl] at HRE hlk hlk0 hlk1
    clear hc hl x0 x1 x2 x3 HI
    unfold str at HC
    by_cases hk3:k=3
    · subst hk3
      have HX:Hid (R=c):=hiD (by rw [HRE.out];simp)
      go_wp2_with fail
      go_quiet ((go_at_call 88;exact HC.out _))
      go_wp2_with fail
      go_ret
      rw [HX.out]
      exact ⟨rfl,HM.out.drewN _⟩
    · by_cases hk4:k=4∨k=5
      · have HX:Hid (R=l):=hiD (by rw [HRE.out];rcases hk4 with rfl|rfl <;> simp)
        cases l
        all_goals
         rcases hk4 with rfl|rfl
         all_goals
          go_wp2_with fail
          go_quiet ((go_at_call 88;exact HC.out _))
          go_wp2_with fail
          go_ret
          rw [HX.out]
          exact ⟨rfl,HM.out.drewN _⟩
      · have h3:((k:Int)==3)=false:=by simp;omega
        have h4:((k:Int)==4)=false:=by simp;omega
        have h5:((k:Int)==5)=false:=by simp;omega
        have h6:((k:Int) != 3)=true:=by simp;omega
        have HX:Hid (R=true):=hiD (by rw [HRE.out,h3,h4,h5];rfl)
        go_wp2_with fail
        go_quiet ((go_at_call 88;exact HC.out _))
        go_wp2_with fail
        go_ret
        rw [HX.out]
        exact ⟨rfl,HM.out.drewN _⟩
end Go.Proofs.YtnicpmoanjddbaaGreatDoor.MidP

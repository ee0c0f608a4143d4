/- The checker's look at expressions. Conditions: its functions, names, and the expression lie. The checker's look at any expression. Conditions: its functions, names, and the expression lie. -/
import Derived.Test.YtnicpmoanjddbaaGreatDoorMs16
import Derived.Deep.RegionWith
namespace Go.Proofs.YtnicpmoanjddbaaGreatDoor.TreeP
open Go.RowKit Go.Proofs.YtnicpmoanjddbaaGreatDoor.Wo
set_option linter.unusedVariables false
set_option linter.unusedSimpArgs false
theorem no_way {G:Prop} (P:Program) (w:World) (h:G) (_k:wpAny P .any #[] (fun _ _ _=>True) 0 #[] { tmps:=#[],defers:=[] } w):G:=h
def KGot {α:Type} (W:World) (ret:α→Value):CK α→Ending→World→Prop
 | .error (n,a)=>fun e w=>Thrown W n a e w∧Mods None W w
 | .ok x=>fun e w=>e=.returned (ret x)∧Mods None W w
theorem bindK_assoc {α β γ:Type} (x:CK α) (f:α→CK β) (g:β→CK γ):bindK (bindK x f) g=bindK x (fun a=>bindK (f a) g):=by cases x <;> rfl
theorem kbind_of {α β:Type} {W0 W:World} {x:CK α} {f:α→CK β} {r:CK β} {F:FuncId} {args:Array Value} {ret:α→Value} {Q:Ending→World→Prop}
 (hM:Hid (Mods None W0 W)) (hx:Hid (bindK x f=r)) (hc:Calls Tryz.prog F args W (KGot W ret x))
 (herr:∀ n a,r=.error (n,a)→∀ g w,Hid (Blk w g [.int .i64 n,.int .i64 a] 136)→Hid (Mods None W0 w)→Q (.panicked [{ v:=wrongC g,recovered:=false }]) w)
 (hok:∀ y,Hid (x=.ok y)→Hid (f y=r)→∀ w,Hid (Mods None W w)→Hid (Mods None W0 w)→Q (.returned (ret y)) w) :
 Calls Tryz.prog F args W Q:=by
 have hx:=hx.out
 refine hc.mono ?_
 intro e w h
 cases x with
 | error q =>
   obtain ⟨n,a⟩:=q
   obtain ⟨⟨g,rfl,hb⟩,hm⟩:=h
   exact herr n a hx.symm g w (hiD hb) (hiD (hM.out.trans hm))
 | ok y =>
   obtain ⟨rfl,hm⟩:=h
   exact hok y (hiD rfl) (hiD hx) w (hiD hm) (hiD (hM.out.trans hm))
def ExK (L:List Fn) (N:Nm) (e:Ex):Prop:=∀ (b m:Nat) (v:Value) (W:World) (r:CK Int),Chk W b L N m→ExAt W (·=b) e v→exprK L N e=r →
 Calls Tryz.prog 100 #[.pointer (some ⟨b,0,none⟩),v] W (KGot W (fun t=>.int .i64 t) r)
theorem ExAt.at_cell {W:World} {S:Nat→Prop} {e:Ex} {v:Value} (h:ExAt W S e v):∃ g,v=.pointer (some ⟨g,0,none⟩)∧¬ S g∧W.cell? ⟨g,1,none⟩=some (.int .i64 (atE e)):=by
 cases e <;> simp only [ExAt] at h
 case num=>obtain ⟨g,h1,h2,h3⟩:=h;exact ⟨g,h1,h2,h3.cell rfl⟩
 case var=>obtain ⟨g,h1,h2,h3⟩:=h;exact ⟨g,h1,h2,h3.cell rfl⟩
 case bin=>obtain ⟨x,y,⟨g,h1,h2,h3⟩,_⟩:=h;exact ⟨g,h1,h2,h3.cell rfl⟩
 case un=>obtain ⟨x,⟨g,h1,h2,h3⟩,_⟩:=h;exact ⟨g,h1,h2,h3.cell rfl⟩
 case call=>obtain ⟨x,y,⟨g,h1,h2,h3⟩,_⟩:=h;exact ⟨g,h1,h2,h3.cell rfl⟩
 case new=>obtain ⟨x,⟨g,h1,h2,h3⟩,_⟩:=h;exact ⟨g,h1,h2,h3.cell rfl⟩
 case len=>obtain ⟨x,⟨g,h1,h2,h3⟩,_⟩:=h;exact ⟨g,h1,h2,h3.cell rfl⟩
 case item=>obtain ⟨x,y,⟨g,h1,h2,h3⟩,_⟩:=h;exact ⟨g,h1,h2,h3.cell rfl⟩
 case input=>obtain ⟨g,h1,h2,h3⟩:=h;exact ⟨g,h1,h2,h3.cell rfl⟩
set_option maxRecDepth 100000 in
set_option maxHeartbeats 400000 in
theorem want_of {L:List Fn} {N:Nm} {e:Ex} (he:ExK L N e) (b m:Nat) (v:Value) (k:Int) (W:World) (hC:Chk W b L N m) (hv:ExAt W (·=b) e v) :
 Calls Tryz.prog 101 #[.pointer (some ⟨b,0,none⟩),v,.int .i64 k] W (KGot W (fun (_:Unit)=>.tuple #[]) (wantK L N e k)):=by
 obtain ⟨r,hr⟩:∃ r,r=wantK L N e k:=⟨_,rfl⟩
 rw [← hr]
 have HX:Hid (bindK (exprK L N e) (wantT e k)=r):=hiD (by rw [hr];rfl)
 have HE:=hiD (he b m v W _ hC hv rfl)
 have HM:=hiD (Mods.refl None W)
 obtain ⟨g,rfl,_,hg⟩:=hv.at_cell
 have HG:=hiD hg
 clear hr hg hC hv he
 go_enter Tryz.func101,Tryz.ntmps101
 go_wp2_with fail
 go_at_call 100
 refine kbind_of HM HX HE.out ?_ ?_
 · rintro n a rfl g w HB HM1
   go_wp2
   exact ⟨rfl,⟨g,rfl,HB.out⟩,HM1.out⟩
 · intro t _ HX2 w HMw HM1
   have hx2:=HX2.out
   unfold wantT at hx2
   by_cases ht:t=k
   · rw [if_pos ht] at hx2
     subst hx2 ht
     go_wp2_with fail
     go_end0
     exact ⟨rfl,HM1.out⟩
   · rw [if_neg ht] at hx2
     subst hx2
     have hne:(t != k)=true:=by simpa using ht
     have hg2:w.cell? ⟨g,1,none⟩=some (.int .i64 (atE e)):=HMw.out.cellOf HG.out (fun f=>f)
     clear HX HE HX2
     go_wp2_with fail
     go_at_call 39
     refine (cfail_any 1 (atE e) w).mono ?_
     rintro e w3 ⟨⟨g,rfl,hb3⟩,hm3⟩
     go_wp2
     exact ⟨rfl,⟨g,rfl,hb3⟩,HM1.out.trans hm3⟩
def idxF:List Fn→List UInt8→Option Nat
 | [],_=>none
 | p::r,s=>if p.name==s then some 0 else (idxF r s).map (·+1)
theorem idxF_take {N:List Fn} {s:List UInt8} {i:Nat} (h:idxF (N.take i) s=none) {p:Fn} (hp:N[i]?=some p):idxF (N.take (i+1)) s=if p.name==s then some i else none:=by
 induction N generalizing i with
 | nil=>simp at hp
 | cons a r ih =>
   cases i with
   | zero =>
     simp only [List.getElem?_cons_zero,Option.some.injEq] at hp
     subst hp
     simp [idxF]
   | succ i =>
     simp only [List.take_succ_cons,idxF] at h ⊢
     split at h
     · cases h
     · rename_i hn
       rw [if_neg hn]
       simp only [Option.map_eq_none_iff] at h
       rw [ih h (by simpa using hp)]
       split <;> rfl
theorem idxF_more {N:List Fn} {s:List UInt8} {i j:Nat} (h:idxF (N.take i) s=some j):idxF N s=some j:=by
 induction N generalizing i j with
 | nil=>simp [idxF] at h
 | cons a r ih =>
   cases i with
   | zero=>simp [idxF] at h
   | succ i =>
     simp only [List.take_succ_cons,idxF] at h ⊢
     split at h
     · rename_i hy
       rw [if_pos hy]
       exact h
     · rename_i hn
       rw [if_neg hn]
       obtain ⟨k,hk,rfl⟩:=Option.map_eq_some_iff.1 h
       rw [ih hk]
       rfl
theorem fnOf_none {N:List Fn} {s:List UInt8} (h:idxF N s=none):fnOf N s=none:=by
 unfold fnOf
 induction N with
 | nil=>rfl
 | cons a r ih =>
   simp only [idxF] at h
   split at h
   · cases h
   · rename_i hn
     rw [Bool.not_eq_true] at hn
     rw [List.find?_cons,hn]
     exact ih (by simpa using h)
theorem fnOf_some {N:List Fn} {s:List UInt8} {i:Nat} (h:idxF N s=some i):∃ p,N[i]?=some p∧fnOf N s=some p:=by
 unfold fnOf
 induction N generalizing i with
 | nil=>simp [idxF] at h
 | cons a r ih =>
   simp only [idxF] at h
   split at h
   · rename_i hy
     obtain rfl:=Option.some.inj h
     exact ⟨a,rfl,by rw [List.find?_cons,hy]⟩
   · rename_i hn
     obtain ⟨k,hk,rfl⟩:=Option.map_eq_some_iff.1 h
     obtain ⟨p,h1,h2⟩:=ih hk
     refine ⟨p,by simpa using h1,?_⟩
     rw [Bool.not_eq_true] at hn
     rw [List.find?_cons,hn]
     exact h2
set_option maxRecDepth 100000 in
theorem eq_func (s:List UInt8) (a:List UInt8) (t:Int) (oa ob:Option Addr) (on oc om od:Nat) (q g:Nat) (W:World) (hq:W.cell? ⟨q,0,none⟩=some (.pointer (some ⟨g,0,none⟩))) (hg:W.cell? ⟨g,3,none⟩=some (str s)) :
 Calls Tryz.prog 129 #[.agg #[str a,.int .i64 t,.slice oa on oc,.slice ob om od],.pointer (some ⟨q,0,none⟩)] W fun e w=>e=.returned (.bool (a==s))∧Mods None W w:=by
 have hlt:q<W.heap.size:=World.block_lt_of_cell? W _ hq
 have hne:q≠W.heap.size:=by omega
 have hlg:g<W.heap.size:=World.block_lt_of_cell? W _ hg
 have hng:g≠W.heap.size:=by omega
 unfold str at *
 go_enter Tryz.func129,Tryz.ntmps129
 go_wp2
 go_region
 go_wp2
 go_ret
 refine ⟨?_,((Mods.refl _ _).alloc _).drew⟩
 simp
theorem ownsRow_slice {W:World} {B:Nat} {e:TypeId} {size n:Nat} {v:Value} {vs:List Value} (h:W.ownsRow B e size v n vs):∃ oa oc,v=.slice oa n oc∧n≤oc∧oc≤maxLen∧(∀ j u,vs[j]?=some u→∃ g,oa=some ⟨g,0,none⟩∧v.ownBlock=some g∧W.cell? ⟨g,j,none⟩=some u):=by
 rcases h.2 with ⟨rfl,rfl⟩|⟨g,cap,cur,rfl,_,hg,h3,h4,_⟩
 · have:vs=[]:=List.eq_nil_of_length_eq_zero (by simpa using h.1)
   subst this
   exact ⟨none,0,rfl,Nat.le_refl _,by decide,fun j u hj=>by simp at hj⟩
 · refine ⟨_,_,rfl,h3,h4,fun j u hj=>⟨g,rfl,rfl,?_⟩⟩
   have:=h.cells (g:=g) rfl j u hj
   simpa [Addr.add_lit] using this
set_option maxRecDepth 100000 in
set_option maxHeartbeats 1000000 in
theorem index_func (s:List UInt8) (L:List Fn) (S:Nat→Prop) (v:Value) (q g:Nat) (W:World) (hq:W.cell? ⟨q,0,none⟩=some (.pointer (some ⟨g,0,none⟩))) (hg:W.cell? ⟨g,3,none⟩=some (str s)) (hL:FsAt W S v L) :
 Calls Tryz.prog 65 #[v,.func (.func 129) #[] #[.pointer (some ⟨q,0,none⟩)]] W fun e w=>e=.returned (.int .i64 (optI (idxF L s)))∧Mods None W w:=by
 obtain ⟨a,n,c,rfl,hn,hnc,hcm,h0,hcell⟩:=hL
 have HN:=hiD hn
 have HC:=hiD (fun (w:World) (hm:Mods None W w) (i:Nat) (hi:i<n)=>(by
  have hi2:i<L.length:=by omega
  obtain ⟨g,o,p,q,vq,e1,e2,e3,e4,e5,e6,e7,e8,e9⟩:=hcell i L[i] (List.getElem?_eq_getElem hi2)
  obtain ⟨pa,pn,pc,rfl⟩:=e7.form
  obtain ⟨qa,qn,qc,rfl⟩:=e8.form
  exact ⟨L[i],g,o,pa,pn,pc,qa,qn,qc,e1,List.getElem?_eq_getElem hi2,hm.cellOf e3 (fun f=>f),hm.cellOf e4 (fun f=>f),hm.cellOf e5 (fun f=>f),hm.cellOf e6 (fun f=>f)⟩:∃ x g o pa pn pc qa qn qc,a=some ⟨g,o,none⟩∧L[i]?=some x∧w.cell? ⟨g,o+i*4,none⟩=some (str x.name)∧w.cell? ⟨g,o+i*4+1,none⟩=some (.int .i64 x.at_)∧w.cell? ⟨g,o+i*4+2,none⟩=some (.slice pa pn pc)∧w.cell? ⟨g,o+i*4+3,none⟩=some (.slice qa qn qc)))
 have HQ:=hiD (fun (w:World) (hm:Mods None W w)=>(⟨hm.cellOf hq (fun f=>f),hm.cellOf hg (fun f=>f)⟩:w.cell? ⟨q,0,none⟩=some (.pointer (some ⟨g,0,none⟩))∧w.cell? ⟨g,3,none⟩=some (str s)))
 unfold maxLen at hcm
 clear hn hcell hq hg
 unfold str at *
 go_enter Tryz.func65,Tryz.ntmps65
 go_wp2_with fail
 go_loopw [5,8] (fun _ iv wr=>∃ i:Nat,i≤n∧iv=.int .i64 i∧Hid (idxF (L.take i) s=none)∧Hid (Mods None W wr)) (fun _ iv _=>(n-intOf iv).toNat)
 case atStart=>exact ⟨0,Nat.zero_le _,rfl,hiD (by simp [idxF]),hiD (Mods.refl _ _)⟩
 case round =>
  obtain ⟨i,hi,rfl,HI,HM⟩:=hrel
  by_cases hlt:i<n
  · obtain ⟨x,gg,o,pa,pn,pc,qa,qn,qc,rfl,hx,c1,c2,c3,c4⟩:=HC.out wr HM.out i hlt
    have hpi:(i:Int)<(n:Int):=by omega
    have HT:=hiD (idxF_take HI.out hx)
    have HE:=hiD (eq_func s x.name x.at_ pa qa pn pc qn qc q g wr (HQ.out wr HM.out).1 (HQ.out wr HM.out).2)
    clear hx
    unfold str at *
    go_wp2_with fail
    go_at_call 129
    refine HE.out.mono ?_
    rintro e w1 ⟨rfl,hm1⟩
    have HM1:=hiD (HM.out.trans hm1)
    clear hm1
    rcases hb:(x.name==s) with _|_
    · have HT2:Hid (idxF (L.take (i+1)) s=none):=hiD (by rw [HT.out];simp only [hb];rfl)
      clear hb
      go_wp2_with fail
      exact ⟨⟨i+1,by omega,by go_num,HT2,HM1⟩,by simp [intOf];omega⟩
    · have HT2:Hid (idxF L s=some i):=hiD (idxF_more (i:=i+1) (by rw [HT.out];simp only [hb];rfl))
      clear hb
      go_wp2_with fail
      go_ret
      refine ⟨?_,HM1.out⟩
      rw [HT2.out]
      rfl
  · obtain rfl:i=n:=by omega
    have hpi:¬ (i:Int)<(i:Int):=by omega
    have HT2:Hid (idxF L s=none):=hiD (by
        have:=HI.out
        rw [HN.out,List.take_length] at this
        exact this)
    go_wp2_with fail
    go_ret
    refine ⟨?_,HM.out⟩
    rw [HT2.out]
    rfl
theorem ExsAt.get {W:World} {S:Nat→Prop}:{l:List Ex}→{vs:List Value}→ExsAt W S l vs→(i:Nat)→(e:Ex)→l[i]?=some e→∃ v,vs[i]?=some v∧ExAt W S e v
 | [],vs,h,i,e,he=>by simp at he
 | a::r,vs,h,i,e,he=>by
   simp only [ExsAt] at h
   obtain ⟨x,r2,rfl,h1,h2⟩:=h
   cases i with
   | zero=>simp only [List.getElem?_cons_zero,Option.some.injEq] at he;subst he;exact ⟨x,rfl,h1⟩
   | succ i=>exact ExsAt.get h2 i e (by simpa using he)
def callK (L:List Fn) (N:Nm) (a:Int) (f:List UInt8) (args:List Ex):CK Unit:=match fnOf L f with
 | none=>.error (7,a)
 | some g=>if args.length=g.params.length then argsK L N args (g.params.map (·.2)) else .error (2,a)
set_option maxRecDepth 100000 in
set_option maxHeartbeats 2000000 in
theorem call_of {L:List Fn} {N:Nm} (a:Int) (f:List UInt8) {args:List Ex} (hA:∀ e∈args,ExK L N e) (b m:Nat) (v:Value) (W:World) (hC:Chk W b L N m) (hv:ExAt W (·=b) (.call a f args) v) :
 Calls Tryz.prog 118 #[.pointer (some ⟨b,0,none⟩),v] W (KGot W (fun (_:Unit)=>.tuple #[]) (callK L N a f args)):=by
 have hv0:=hv
 simp only [ExAt] at hv
 obtain ⟨av,vs,⟨g,rfl,hgb,hg⟩,hrow,hex⟩:=hv
 have HC:=hiD hC
 have HV:=hiD hv0
 obtain ⟨few,hlen,fv,nv,hb,hF,hN⟩:=hC
 have HF:=hiD hF
 obtain ⟨fa,fn,fc,rfl,hfn,hfc,hfm,hf0,hfcell⟩:=hF
 have hbl:=hb.lt
 have hbne:b≠W.heap.size:=by omega
 have hgl:=hg.lt
 have hgne:g≠W.heap.size:=by omega
 have cb0:W.cell? ⟨b,0,none⟩=some (.slice fa fn fc):=hb.cell rfl
 have cg1:W.cell? ⟨g,1,none⟩=some (.int .i64 a):=hg.cell rfl
 have cg3:W.cell? ⟨g,3,none⟩=some (str f):=hg.cell rfl
 have cg7:W.cell? ⟨g,7,none⟩=some av:=hg.cell rfl
 obtain ⟨W1,hW1⟩:∃ W1,W1=W.alloc (.cells #[.pointer (some ⟨g,0,none⟩)] 141):=⟨_,rfl⟩
 have hm1:Mods None W W1:=by rw [hW1];exact (Mods.refl _ _).alloc _
 have hq1:W1.cell? ⟨W.heap.size,0,none⟩=some (.pointer (some ⟨g,0,none⟩)):=by rw [hW1];simp
 have HI:=hiD (index_func f L (·=b) (.slice fa fn fc) W.heap.size g W1 hq1 (hm1.cellOf cg3 (fun f=>f)) (HF.out.mods (T:=(·=b)) (hm1.mono fun _ _ f=>f.elim) (fun _ _ f=>f)))
 have HM1:=hiD hm1
 have HCELLS:=hiD (⟨cb0,cg1,cg7,hq1⟩:_∧_∧_∧_)
 cases hx:idxF L f with
 | none =>
   have hr:callK L N a f args=.error (7,a):=by unfold callK;rw [fnOf_none hx]
   rw [hr]
   rw [hx] at HI
   simp only [optI] at HI
   clear hr hx hq1 cg3 cg7 hm1 hrow hex hg hb hN hfcell hlen few hf0 hfn
   unfold KGot
   go_enter Tryz.func118,Tryz.ntmps118
   go_wp2_with fail
   rw [← hW1]
   clear hW1 cb0 cg1
   go_at_call 65
   refine HI.out.mono ?_
   rintro e w2 ⟨rfl,hm2⟩
   have HM2:=hiD (HM1.out.trans hm2)
   have cq:w2.cell? ⟨W.heap.size,0,none⟩=some (.pointer (some ⟨g,0,none⟩)):=hm2.cellOf HCELLS.out.2.2.2 (fun f=>f)
   have cg1:w2.cell? ⟨g,1,none⟩=some (.int .i64 a):=HM2.out.cellOf HCELLS.out.2.1 (fun f=>f)
   clear hm2
   go_wp2_with fail
   go_at_call 39
   refine (cfail_any 7 a w2).mono ?_
   rintro e w3 ⟨⟨g,rfl,hb3⟩,hm3⟩
   go_wp2
   exact ⟨rfl,⟨g,rfl,hb3⟩,HM2.out.trans hm3⟩
 | some k =>
   obtain ⟨p,hp,hfo⟩:=fnOf_some hx
   have hkl:k<L.length:=(List.getElem?_eq_some_iff.1 hp).1
   have hkf:(k:Int)<(fn:Int):=by omega
   obtain ⟨gg,o,pv,qv,vq,rfl,hggb,_,_,cpv,_,hprow,_,_⟩:=hfcell k p hp
   have hprow1:=hprow.1
   obtain ⟨pa,pc,rfl,hpc,hpm,hpcell⟩:=ownsRow_slice hprow1
   have hrow1:=hrow.1
   obtain ⟨aa,ac,rfl,hac,ham,hacell⟩:=ownsRow_slice hrow1
   rw [hx] at HI
   simp only [optI] at HI
   have HCP:=hiD cpv
   by_cases hn:args.length=p.params.length
   · have hr:callK L N a f args=argsK L N args (p.params.map (·.2)):=by unfold callK;rw [hfo];simp only;rw [if_pos hn]
     obtain ⟨r,hr2⟩:∃ r,r=callK L N a f args:=⟨_,rfl⟩
     rw [← hr2]
     have HX:Hid (argsK L N (args.drop 0) ((p.params.map (·.2)).drop 0)=r):=hiD (by rw [hr2,hr];rfl)
     have HR:=hiD (fun (w:World) (hm:Mods None W w) (i:Nat) (hi:i<p.params.length)=>(by
        have hi2:i<args.length:=by omega
        have e1:args[i]?=some args[i]:=List.getElem?_eq_getElem hi2
        have e2:p.params[i]?=some p.params[i]:=List.getElem?_eq_getElem hi
        obtain ⟨y,hy,hye⟩:=hex.get i args[i] e1
        obtain ⟨eg,rfl⟩:=hye.ptr
        obtain ⟨q1,q2⟩:=ncells_at p.params i p.params[i] e2
        obtain ⟨pg,hpg,_,d1⟩:=hpcell _ _ q1
        obtain ⟨pg',hpg',_,d2⟩:=hpcell _ _ q2
        obtain rfl:pg=pg':=by rw [hpg] at hpg';simpa using hpg'
        obtain ⟨ag,hag,_,d3⟩:=hacell _ _ hy
        refine ⟨pg,ag,p.params[i].1,p.params[i].2,args[i],eg,hpg,hag,hm.cellOf d1 (fun f=>f),hm.cellOf d2 (fun f=>f),hm.cellOf d3 (fun f=>f),?_,fun w' hm'=>want_of (hA _ (List.getElem_mem hi2)) b m _ _ w' (HC.out.mods (hm.trans hm')) (hye.mods ((hm.trans hm').mono fun _ _ f=>f.elim))⟩
        rw [List.drop_eq_getElem_cons hi2,List.drop_eq_getElem_cons (show i<(p.params.map (·.2)).length by simpa using hi)]
        simp only [argsK,wantK,bindK_assoc,List.getElem_map] :
        ∃ pg ag nm ty e eg,pa=some ⟨pg,0,none⟩∧aa=some ⟨ag,0,none⟩∧w.cell? ⟨pg,i*2,none⟩=some (str nm)∧w.cell? ⟨pg,i*2+1,none⟩=some (.int .i64 ty)∧w.cell? ⟨ag,i,none⟩=some (.pointer (some ⟨eg,0,none⟩)) ∧
          argsK L N (args.drop i) ((p.params.map (·.2)).drop i)=bindK (wantK L N e ty) (fun _=>argsK L N (args.drop (i+1)) ((p.params.map (·.2)).drop (i+1))) ∧
          ∀ w',Mods None w w'→Calls Tryz.prog 101 #[.pointer (some ⟨b,0,none⟩),.pointer (some ⟨eg,0,none⟩),.int .i64 ty] w' (KGot w' (fun (_:Unit)=>.tuple #[]) (wantK L N e ty))))
     have hend:Hid (argsK L N (args.drop p.params.length) ((p.params.map (·.2)).drop p.params.length)=.ok ()):=hiD (by
        rw [List.drop_eq_nil_of_le (by omega)]
        simp only [argsK])
     obtain ⟨ks,hks⟩:∃ ks,ks=p.params.map (·.2):=⟨_,rfl⟩
     rw [← hks] at HX HR hend
     have hne:((args.length:Int) != (p.params.length:Int))=false:=by simp;omega
     obtain ⟨an,han⟩:∃ n,n=args.length:=⟨_,rfl⟩
     obtain ⟨pn,hpn⟩:∃ n,n=p.params.length:=⟨_,rfl⟩
     rw [← han] at hne HCELLS hac cg7
     rw [← hpn] at hne HCP HR hend hpc
     have HAP:Hid (an=pn):=hiD (by omega)
     clear hr hr2 hx hq1 cg3 cg7 hm1 hrow hex hg hb hN hfcell hlen few hf0 hprow hprow1 hrow1 hn hpcell hacell hfo hp hfn han hpn cpv hks
     unfold str at *
     go_enter Tryz.func118,Tryz.ntmps118
     go_wp2_with fail
     rw [← hW1]
     clear hW1 cb0 cg1
     go_at_call 65
     refine HI.out.mono ?_
     rintro e w2 ⟨rfl,hm2⟩
     have HM2:=hiD (HM1.out.trans hm2)
     have cq:w2.cell? ⟨W.heap.size,0,none⟩=some (.pointer (some ⟨g,0,none⟩)):=hm2.cellOf HCELLS.out.2.2.2 (fun f=>f)
     have cb0:w2.cell? ⟨b,0,none⟩=some (.slice (some ⟨gg,o,none⟩) fn fc):=HM2.out.cellOf HCELLS.out.1 (fun f=>f)
     have cg7:w2.cell? ⟨g,7,none⟩=some (.slice aa an ac):=HM2.out.cellOf HCELLS.out.2.2.1 (fun f=>f)
     have cp2:w2.cell? ⟨gg,o+k*4+2,none⟩=some (.slice pa pn pc):=HM2.out.cellOf HCP.out (fun f=>f)
     have HQ:Hid (w2.cell? ⟨W.heap.size,0,none⟩=some (.pointer (some ⟨g,0,none⟩))∧w2.cell? ⟨g,7,none⟩=some (.slice aa an ac)):=hiD ⟨cq,cg7⟩
     clear hm2
     unfold maxLen at hfm hpm ham
     go_wp2_with fail
     go_region
     go_wp2_with fail
     clear cq cb0 cg7 cp2
     go_loopw [5,6,51] (fun _ _ iv wr=>∃ i:Nat,i≤pn∧iv=.int .i64 i∧Hid (argsK L N (args.drop i) (ks.drop i)=r)∧Hid (Mods None w2 wr)) (fun _ _ iv _=>(pn-intOf iv).toNat)
     case atStart=>exact ⟨0,Nat.zero_le _,rfl,HX,hiD (Mods.refl None w2).drew⟩
     case round =>
        clear HX
        obtain ⟨i,hi,rfl,HX,HM⟩:=hrel
        by_cases hlt:i<pn
        · obtain ⟨pg,ag,nm,ty,e,eg,rfl,rfl,c1,c2,c3,hstep,hcall⟩:=HR.out wr (HM2.out.trans HM.out) i hlt
          have hpi:(i:Int)<(pn:Int):=by omega
          have hai:(i:Int)<(an:Int):=by have:=HAP.out;omega
          have cq:wr.cell? ⟨W.heap.size,0,none⟩=some (.pointer (some ⟨g,0,none⟩)):=HM.out.cellOf HQ.out.1 (fun f=>f)
          have cg7:wr.cell? ⟨g,7,none⟩=some (.slice (some ⟨ag,0,none⟩) an ac):=HM.out.cellOf HQ.out.2 (fun f=>f)
          have l1:W.heap.size<wr.heap.size:=World.block_lt_of_cell? wr _ cq
          have l2:g<wr.heap.size:=World.block_lt_of_cell? wr _ cg7
          have l3:ag<wr.heap.size:=World.block_lt_of_cell? wr _ c3
          have l4:pg<wr.heap.size:=World.block_lt_of_cell? wr _ c1
          have n1:W.heap.size≠wr.heap.size:=by omega
          have n2:g≠wr.heap.size:=by omega
          have n3:ag≠wr.heap.size:=by omega
          have n4:pg≠wr.heap.size:=by omega
          have HCALL:=hiD hcall
          have HX2:Hid (bindK (wantK L N e ty) (fun _=>argsK L N (args.drop (i+1)) (ks.drop (i+1)))=r):=hiD (by rw [← hstep];exact HX.out)
          clear hstep hcall HX
          have HMA:Hid (Mods None wr (wr.alloc (.cells #[.string ⟨nm.toArray⟩,.int .i64 ty] 91)).drew):=hiD ((Mods.refl _ _).alloc _).drew
          cases hwk:wantK L N e ty with
          | error q =>
            obtain ⟨qn,qa⟩:=q
            rw [hwk] at HX2 HCALL
            obtain rfl:r=.error (qn,qa):=HX2.out.symm
            have HCL:=hiD (HCALL.out _ HMA.out)
            clear HX2 HCALL hwk
            go_wp2_with fail
            go_region_with (first|(go_at_call 101;refine HCL.out.mono ?_;rintro e w3 ⟨⟨g3,rfl,hb3⟩,hm3⟩;refine no_way Tryz.prog w3 ⟨rfl,⟨g3,rfl,hb3⟩,HM2.out.trans (HM.out.trans (HMA.out.trans hm3))⟩ ?_))
            all_goals trivial
          | ok q =>
            rw [hwk] at HX2 HCALL
            have HX3:Hid (argsK L N (args.drop (i+1)) (ks.drop (i+1))=r):=hiD HX2.out
            have HCL:=hiD (HCALL.out _ HMA.out)
            clear HX2 HCALL hwk
            go_wp2_with fail
            go_region_with (first|(go_at_call 101;refine HCL.out.mono ?_;rintro e w3 ⟨rfl,hm3⟩))
            all_goals
             have HM3:=hiD (HM.out.trans (HMA.out.trans hm3))
             clear hm3
             go_wp2_with fail
             exact ⟨⟨i+1,by omega,by go_num,HX3,HM3⟩,by simp [intOf];omega⟩
        · obtain rfl:i=pn:=by omega
          have hpi:¬ (i:Int)<(i:Int):=by omega
          obtain rfl:r=.ok ():=by rw [← HX.out];exact hend.out
          go_wp2_with fail
          go_end0
          exact ⟨rfl,HM2.out.trans HM.out⟩
   · have hr:callK L N a f args=.error (2,a):=by unfold callK;rw [hfo];simp only;rw [if_neg hn]
     rw [hr]
     have hne:((args.length:Int) != (p.params.length:Int))=true:=by simp;omega
     obtain ⟨an,han⟩:∃ n,n=args.length:=⟨_,rfl⟩
     obtain ⟨pn,hpn⟩:∃ n,n=p.params.length:=⟨_,rfl⟩
     rw [← han] at hne HCELLS
     rw [← hpn] at hne HCP
     rw [← han] at hac cg7
     rw [← hpn] at hpc
     clear hr hx hq1 cg3 cg7 hm1 hrow hex hg hb hN hfcell hlen few hf0 hprow hprow1 hrow1 hn hpcell hacell hfo hp hfn han hpn cpv
     unfold KGot
     go_enter Tryz.func118,Tryz.ntmps118
     go_wp2_with fail
     rw [← hW1]
     clear hW1 cb0 cg1
     go_at_call 65
     refine HI.out.mono ?_
     rintro e w2 ⟨rfl,hm2⟩
     have HM2:=hiD (HM1.out.trans hm2)
     have cq:w2.cell? ⟨W.heap.size,0,none⟩=some (.pointer (some ⟨g,0,none⟩)):=hm2.cellOf HCELLS.out.2.2.2 (fun f=>f)
     have cb0:w2.cell? ⟨b,0,none⟩=some (.slice (some ⟨gg,o,none⟩) fn fc):=HM2.out.cellOf HCELLS.out.1 (fun f=>f)
     have cg1:w2.cell? ⟨g,1,none⟩=some (.int .i64 a):=HM2.out.cellOf HCELLS.out.2.1 (fun f=>f)
     have cg7:w2.cell? ⟨g,7,none⟩=some (.slice aa an ac):=HM2.out.cellOf HCELLS.out.2.2.1 (fun f=>f)
     have cp2:w2.cell? ⟨gg,o+k*4+2,none⟩=some (.slice pa pn pc):=HM2.out.cellOf HCP.out (fun f=>f)
     clear hm2
     unfold maxLen at hfm hpm ham
     go_wp2_with fail
     go_region
     go_wp2_with fail
     go_at_call 39
     refine (cfail_any 2 a _).mono ?_
     rintro e w3 ⟨⟨g,rfl,hb3⟩,hm3⟩
     go_wp2
     exact ⟨rfl,⟨g,rfl,hb3⟩,HM2.out.drew.trans hm3⟩
theorem chk_sub {L:List Fn} {N:Nm} {e:Ex} (he:ExK L N e) {b m:Nat} {v:Value} {W:World} (hC:Chk W b L N m) (hv:ExAt W (·=b) e v) (k:Int) (w:World) (hm:Mods None W w) :
 Calls Tryz.prog 101 #[.pointer (some ⟨b,0,none⟩),v,.int .i64 k] w (KGot w (fun (_:Unit)=>.tuple #[]) (wantK L N e k)) :=
 want_of he b m v k w (hC.mods hm) (hv.mods (hm.mono fun _ _ f=>f.elim))
set_option maxRecDepth 100000 in
set_option maxHeartbeats 1000000 in
theorem exprk_num (L:List Fn) (N:Nm) (a n:Int):ExK L N (.num a n):=by
 intro b m v W r hC hv hr
 simp only [exprK] at hr
 subst hr
 simp only [ExAt] at hv
 obtain ⟨g,rfl,_,hg⟩:=hv
 have c0:W.cell? ⟨g,0,none⟩=some (.int .i64 1):=hg.cell rfl
 clear hC hg
 unfold KGot
 go_enter Tryz.func100,Tryz.ntmps100
 go_wp2_with fail
 go_ret
 exact ⟨rfl,Mods.refl _ _⟩
set_option maxRecDepth 100000 in
set_option maxHeartbeats 1000000 in
theorem exprk_input (L:List Fn) (N:Nm) (a:Int):ExK L N (.input a):=by
 intro b m v W r hC hv hr
 simp only [exprK] at hr
 subst hr
 simp only [ExAt] at hv
 obtain ⟨g,rfl,_,hg⟩:=hv
 have c0:W.cell? ⟨g,0,none⟩=some (.int .i64 9):=hg.cell rfl
 clear hC hg
 unfold KGot
 go_enter Tryz.func100,Tryz.ntmps100
 go_wp2_with fail
 go_ret
 exact ⟨rfl,Mods.refl _ _⟩
set_option maxRecDepth 100000 in
set_option maxHeartbeats 1000000 in
theorem exprk_un {L:List Fn} {N:Nm} (a:Int) (op:List UInt8) {x:Ex} (hx:ExK L N x):ExK L N (.un a op x):=by
 intro b m v W r hC hv hr
 have HX:Hid (bindK (wantK L N x 1) (fun _=>.ok 1)=r):=hiD (by rw [← hr];simp only [exprK,wantK,bindK_assoc])
 simp only [ExAt] at hv
 obtain ⟨xv,⟨g,rfl,_,hg⟩,hxv⟩:=hv
 have HW:=hiD (chk_sub hx hC hxv 1 W (Mods.refl _ _))
 have HM:=hiD (Mods.refl None W)
 have c0:W.cell? ⟨g,0,none⟩=some (.int .i64 4):=hg.cell rfl
 have c5:W.cell? ⟨g,5,none⟩=some xv:=hg.cell rfl
 obtain ⟨xg,rfl⟩:=hxv.ptr
 clear hC hg hr hxv hx
 go_enter Tryz.func100,Tryz.ntmps100
 go_wp2_with fail
 go_at_call 101
 refine kbind_of HM HX HW.out ?_ ?_
 · rintro n a rfl g w HB HM1
   go_wp2
   exact ⟨rfl,⟨g,rfl,HB.out⟩,HM1.out⟩
 · intro t _ HX2 w HMw HM1
   obtain rfl:r=.ok 1:=HX2.out.symm
   clear HX HX2 HW c0 c5
   go_wp2_with fail
   go_ret
   exact ⟨rfl,HM1.out⟩
set_option maxRecDepth 100000 in
set_option maxHeartbeats 1000000 in
theorem exprk_new {L:List Fn} {N:Nm} (a:Int) {x:Ex} (hx:ExK L N x):ExK L N (.new a x):=by
 intro b m v W r hC hv hr
 have HX:Hid (bindK (wantK L N x 1) (fun _=>.ok 2)=r):=hiD (by rw [← hr];simp only [exprK,wantK,bindK_assoc])
 simp only [ExAt] at hv
 obtain ⟨xv,⟨g,rfl,_,hg⟩,hxv⟩:=hv
 have HW:=hiD (chk_sub hx hC hxv 1 W (Mods.refl _ _))
 have HM:=hiD (Mods.refl None W)
 have c0:W.cell? ⟨g,0,none⟩=some (.int .i64 6):=hg.cell rfl
 have c5:W.cell? ⟨g,5,none⟩=some xv:=hg.cell rfl
 obtain ⟨xg,rfl⟩:=hxv.ptr
 clear hC hg hr hxv hx
 go_enter Tryz.func100,Tryz.ntmps100
 go_wp2_with fail
 go_at_call 101
 refine kbind_of HM HX HW.out ?_ ?_
 · rintro n a rfl g w HB HM1
   go_wp2
   exact ⟨rfl,⟨g,rfl,HB.out⟩,HM1.out⟩
 · intro t _ HX2 w HMw HM1
   obtain rfl:r=.ok 2:=HX2.out.symm
   clear HX HX2 HW c0 c5
   go_wp2_with fail
   go_ret
   exact ⟨rfl,HM1.out⟩
set_option maxRecDepth 100000 in
set_option maxHeartbeats 1000000 in
theorem exprk_len {L:List Fn} {N:Nm} (a:Int) {x:Ex} (hx:ExK L N x):ExK L N (.len a x):=by
 intro b m v W r hC hv hr
 have HX:Hid (bindK (wantK L N x 2) (fun _=>.ok 1)=r):=hiD (by rw [← hr];simp only [exprK,wantK,bindK_assoc])
 simp only [ExAt] at hv
 obtain ⟨xv,⟨g,rfl,_,hg⟩,hxv⟩:=hv
 have HW:=hiD (chk_sub hx hC hxv 2 W (Mods.refl _ _))
 have HM:=hiD (Mods.refl None W)
 have c0:W.cell? ⟨g,0,none⟩=some (.int .i64 7):=hg.cell rfl
 have c5:W.cell? ⟨g,5,none⟩=some xv:=hg.cell rfl
 obtain ⟨xg,rfl⟩:=hxv.ptr
 clear hC hg hr hxv hx
 go_enter Tryz.func100,Tryz.ntmps100
 go_wp2_with fail
 go_at_call 101
 refine kbind_of HM HX HW.out ?_ ?_
 · rintro n a rfl g w HB HM1
   go_wp2
   exact ⟨rfl,⟨g,rfl,HB.out⟩,HM1.out⟩
 · intro t _ HX2 w HMw HM1
   obtain rfl:r=.ok 1:=HX2.out.symm
   clear HX HX2 HW c0 c5
   go_wp2_with fail
   go_ret
   exact ⟨rfl,HM1.out⟩
set_option maxRecDepth 100000 in
set_option maxHeartbeats 1000000 in
theorem exprk_bin {L:List Fn} {N:Nm} (a:Int) (op:List UInt8) {x y:Ex} (hx:ExK L N x) (hy:ExK L N y):ExK L N (.bin a op x y):=by
 intro b m v W r hC hv hr
 have HX:Hid (bindK (wantK L N x 1) (fun _=>bindK (wantK L N y 1) (fun _=>.ok 1))=r):=hiD (by rw [← hr];simp only [exprK,wantK,bindK_assoc])
 simp only [ExAt] at hv
 obtain ⟨xv,yv,⟨g,rfl,_,hg⟩,hxv,hyv⟩:=hv
 have HW:=hiD (chk_sub hx hC hxv 1 W (Mods.refl _ _))
 have HW2:=hiD (chk_sub hy hC hyv 1)
 have HM:=hiD (Mods.refl None W)
 have c0:W.cell? ⟨g,0,none⟩=some (.int .i64 3):=hg.cell rfl
 have c5:W.cell? ⟨g,5,none⟩=some xv:=hg.cell rfl
 have c6:W.cell? ⟨g,6,none⟩=some yv:=hg.cell rfl
 obtain ⟨xg,rfl⟩:=hxv.ptr
 obtain ⟨yg,rfl⟩:=hyv.ptr
 clear hC hg hr hxv hx hyv hy
 go_enter Tryz.func100,Tryz.ntmps100
 go_wp2_with fail
 go_at_call 101
 refine kbind_of HM HX HW.out ?_ ?_
 · rintro n a rfl g w HB HM1
   go_wp2
   exact ⟨rfl,⟨g,rfl,HB.out⟩,HM1.out⟩
 · intro t _ HX2 w HMw HM1
   have HWW:=hiD (HW2.out w HM1.out)
   have c6w:w.cell? ⟨g,6,none⟩=some (.pointer (some ⟨yg,0,none⟩)):=HM1.out.cellOf c6 (fun f=>f)
   clear HX HW c0 c5 c6 HW2
   go_wp2_with fail
   go_at_call 101
   refine kbind_of HM1 HX2 HWW.out ?_ ?_
   · rintro n a rfl g w HB HM1
     go_wp2
     exact ⟨rfl,⟨g,rfl,HB.out⟩,HM1.out⟩
   · intro t _ HX3 w2 HMw2 HM2
     obtain rfl:r=.ok 1:=HX3.out.symm
     clear HX2 HX3 HWW c6w
     go_wp2_with fail
     go_ret
     exact ⟨rfl,HM2.out⟩
set_option maxRecDepth 100000 in
set_option maxHeartbeats 1000000 in
theorem exprk_item {L:List Fn} {N:Nm} (a:Int) {x y:Ex} (hx:ExK L N x) (hy:ExK L N y):ExK L N (.item a x y):=by
 intro b m v W r hC hv hr
 have HX:Hid (bindK (wantK L N x 2) (fun _=>bindK (wantK L N y 1) (fun _=>.ok 1))=r):=hiD (by rw [← hr];simp only [exprK,wantK,bindK_assoc])
 simp only [ExAt] at hv
 obtain ⟨xv,yv,⟨g,rfl,_,hg⟩,hxv,hyv⟩:=hv
 have HW:=hiD (chk_sub hx hC hxv 2 W (Mods.refl _ _))
 have HW2:=hiD (chk_sub hy hC hyv 1)
 have HM:=hiD (Mods.refl None W)
 have c0:W.cell? ⟨g,0,none⟩=some (.int .i64 8):=hg.cell rfl
 have c5:W.cell? ⟨g,5,none⟩=some xv:=hg.cell rfl
 have c6:W.cell? ⟨g,6,none⟩=some yv:=hg.cell rfl
 obtain ⟨xg,rfl⟩:=hxv.ptr
 obtain ⟨yg,rfl⟩:=hyv.ptr
 clear hC hg hr hxv hx hyv hy
 go_enter Tryz.func100,Tryz.ntmps100
 go_wp2_with fail
 go_at_call 101
 refine kbind_of HM HX HW.out ?_ ?_
 · rintro n a rfl g w HB HM1
   go_wp2
   exact ⟨rfl,⟨g,rfl,HB.out⟩,HM1.out⟩
 · intro t _ HX2 w HMw HM1
   have HWW:=hiD (HW2.out w HM1.out)
   have c6w:w.cell? ⟨g,6,none⟩=some (.pointer (some ⟨yg,0,none⟩)):=HM1.out.cellOf c6 (fun f=>f)
   clear HX HW c0 c5 c6 HW2
   go_wp2_with fail
   go_at_call 101
   refine kbind_of HM1 HX2 HWW.out ?_ ?_
   · rintro n a rfl g w HB HM1
     go_wp2
     exact ⟨rfl,⟨g,rfl,HB.out⟩,HM1.out⟩
   · intro t _ HX3 w2 HMw2 HM2
     obtain rfl:r=.ok 1:=HX3.out.symm
     clear HX2 HX3 HWW c6w
     go_wp2_with fail
     go_ret
     exact ⟨rfl,HM2.out⟩
set_option maxRecDepth 100000 in
set_option maxHeartbeats 1000000 in
theorem exprk_var (L:List Fn) (N:Nm) (a:Int) (s:List UInt8):ExK L N (.var a s):=by
 intro b m v W r hC hv hr
 simp only [exprK] at hr
 simp only [ExAt] at hv
 obtain ⟨g,rfl,_,hg⟩:=hv
 have HF:=hiD (find_any b L N m s W hC)
 have c0:W.cell? ⟨g,0,none⟩=some (.int .i64 2):=hg.cell rfl
 have c1:W.cell? ⟨g,1,none⟩=some (.int .i64 a):=hg.cell rfl
 have c3:W.cell? ⟨g,3,none⟩=some (str s):=hg.cell rfl
 obtain ⟨q,hq⟩:∃ q,q=findN N s:=⟨_,rfl⟩
 rw [← hq] at hr HF
 clear hC hg hq
 by_cases h0:q=0
 · rw [if_pos h0] at hr
   subst hr h0
   unfold KGot str at *
   go_enter Tryz.func100,Tryz.ntmps100
   go_wp2_with fail
   go_at_call 66
   refine HF.out.mono ?_
   rintro e w2 ⟨rfl,hm2⟩
   have c1w:=hm2.cellOf c1 (fun f=>f)
   go_wp2_with fail
   go_at_call 39
   refine (cfail_any 7 a w2).mono ?_
   rintro e w3 ⟨⟨g,rfl,hb3⟩,hm3⟩
   go_wp2
   exact ⟨rfl,⟨g,rfl,hb3⟩,hm2.trans hm3⟩
 · rw [if_neg h0] at hr
   subst hr
   have hq0:(q==0)=false:=by simpa using h0
   unfold KGot str at *
   go_enter Tryz.func100,Tryz.ntmps100
   go_wp2_with fail
   go_at_call 66
   refine HF.out.mono ?_
   rintro e w2 ⟨rfl,hm2⟩
   go_wp2_with fail
   go_ret
   exact ⟨rfl,hm2⟩
set_option maxRecDepth 100000 in
set_option maxHeartbeats 1000000 in
theorem exprk_call {L:List Fn} {N:Nm} (a:Int) (f:List UInt8) {args:List Ex} (hA:∀ e∈args,ExK L N e):ExK L N (.call a f args):=by
 intro b m v W r hC hv hr
 have HX:Hid (bindK (callK L N a f args) (fun _=>.ok 1)=r):=hiD (by
  rw [← hr]
  simp only [exprK]
  unfold callK
  cases fnOf L f with
  | none=>rfl
  | some g =>
    simp only
    split <;> rfl)
 have HW:=hiD (call_of a f hA b m v W hC hv)
 have HM:=hiD (Mods.refl None W)
 simp only [ExAt] at hv
 obtain ⟨xv,vs,⟨g,rfl,_,hg⟩,_⟩:=hv
 have c0:W.cell? ⟨g,0,none⟩=some (.int .i64 5):=hg.cell rfl
 clear hC hg hr hA
 go_enter Tryz.func100,Tryz.ntmps100
 go_wp2_with fail
 go_at_call 118
 refine kbind_of HM HX HW.out ?_ ?_
 · rintro n a rfl g w HB HM1
   go_wp2
   exact ⟨rfl,⟨g,rfl,HB.out⟩,HM1.out⟩
 · intro t _ HX2 w HMw HM1
   obtain rfl:r=.ok 1:=HX2.out.symm
   clear HX HX2 HW c0
   go_wp2_with fail
   go_ret
   exact ⟨rfl,HM1.out⟩
mutual
theorem exprk_all (L:List Fn) (N:Nm):(e:Ex)→ExK L N e
 | .num a n=>exprk_num L N a n
 | .var a s=>exprk_var L N a s
 | .bin a op l r=>exprk_bin a op (exprk_all L N l) (exprk_all L N r)
 | .un a op x=>exprk_un a op (exprk_all L N x)
 | .call a f args=>exprk_call a f (exprsk_all L N args)
 | .new a x=>exprk_new a (exprk_all L N x)
 | .len a x=>exprk_len a (exprk_all L N x)
 | .item a x i=>exprk_item a (exprk_all L N x) (exprk_all L N i)
 | .input a=>exprk_input L N a
theorem exprsk_all (L:List Fn) (N:Nm):(l:List Ex)→∀ e∈l,ExK L N e
 | []=>fun e h=>nomatch h
 | a::r=>fun e h=>(List.mem_cons.1 h).elim (fun h1=>h1 ▸ exprk_all L N a) (exprsk_all L N r e)
end
theorem want_any (L:List Fn) (N:Nm) (e:Ex) {b m:Nat} {v:Value} {W:World} (hC:Chk W b L N m) (hv:ExAt W (·=b) e v) (k:Int) (w:World) (hm:Mods None W w) :
 Calls Tryz.prog 101 #[.pointer (some ⟨b,0,none⟩),v,.int .i64 k] w (KGot w (fun (_:Unit)=>.tuple #[]) (wantK L N e k)):=chk_sub (exprk_all L N e) hC hv k w hm
end Go.Proofs.YtnicpmoanjddbaaGreatDoor.TreeP

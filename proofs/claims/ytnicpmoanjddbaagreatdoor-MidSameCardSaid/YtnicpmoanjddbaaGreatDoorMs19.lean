/- The checker's look at statements. Conditions: its functions, names, and the statements lie. The checker's look at a new name. Conditions: its functions, names, and the statement lie. The checker's look at any statements. Conditions: its functions, names, and the statements lie. Whether there is a function of a name, and main. Conditions: the functions lie. -/
import Derived.Test.YtnicpmoanjddbaaGreatDoorMs18
namespace Go.Proofs.YtnicpmoanjddbaaGreatDoor.TreeP
open Go.RowKit Go.Proofs.YtnicpmoanjddbaaGreatDoor.Wo
set_option linter.unusedVariables false
set_option linter.unusedSimpArgs false
def blockK (L:List Fn) (N:Nm) (m:Nat) (l:List St):CK (Nm×Nat):=bindK (stmtsK L N m l) fun x=>.ok (N,x.2)
theorem addN_mono {N N':Nm} {m m':Nat} {p:List UInt8×Int} {a:Int} (h:addN N m p a=.ok (N',m')):m≤m':=by
 unfold addN at h
 split at h
 · cases h
 · split at h
   · cases h
   · cases h;omega
theorem bindK_ok {α β:Type} {x:CK α} {f:α→CK β} {y:β} (h:bindK x f=.ok y):∃ a,x=.ok a∧f a=.ok y:=by
 cases x with
 | error e=>cases h
 | ok a=>exact ⟨a,rfl,h⟩
mutual
theorem stmtK_mono (L:List Fn):(s:St)→(N N':Nm)→(m m':Nat)→stmtK L N m s=.ok (N',m')→m≤m'
 | .var a s v,N,N',m,m',h=>by
   simp only [stmtK] at h
   obtain ⟨t,_,h2⟩:=bindK_ok h
   exact addN_mono h2
 | .set a s v,N,N',m,m',h=>by
   simp only [stmtK] at h
   split at h
   · cases h
   · obtain ⟨t,_,h2⟩:=bindK_ok h
     cases h2;omega
 | .put a s i v,N,N',m,m',h=>by
   simp only [stmtK] at h
   split at h
   · cases h
   · split at h
     · cases h
     · obtain ⟨t,_,h2⟩:=bindK_ok h
       obtain ⟨t,_,h2⟩:=bindK_ok h2
       cases h2;omega
 | .cond a v t e,N,N',m,m',h=>by
   simp only [stmtK] at h
   obtain ⟨_,_,h2⟩:=bindK_ok h
   obtain ⟨x,h3,h4⟩:=bindK_ok h2
   obtain ⟨y,h5,h6⟩:=bindK_ok h4
   cases h6
   have:=stmtsK_mono L t N x.1 m x.2 h3
   have:=stmtsK_mono L e N y.1 x.2 y.2 h5
   omega
 | .loop a v t,N,N',m,m',h=>by
   simp only [stmtK] at h
   obtain ⟨_,_,h2⟩:=bindK_ok h
   obtain ⟨x,h3,h4⟩:=bindK_ok h2
   cases h4
   exact stmtsK_mono L t N x.1 m x.2 h3
 | .ret a v,N,N',m,m',h=>by
   simp only [stmtK] at h
   obtain ⟨_,_,h2⟩:=bindK_ok h
   cases h2;omega
 | .print a v,N,N',m,m',h=>by
   simp only [stmtK] at h
   obtain ⟨_,_,h2⟩:=bindK_ok h
   cases h2;omega
 | .call a v,N,N',m,m',h=>by
   simp only [stmtK] at h
   obtain ⟨_,_,h2⟩:=bindK_ok h
   cases h2;omega
theorem stmtsK_mono (L:List Fn):(l:List St)→(N N':Nm)→(m m':Nat)→stmtsK L N m l=.ok (N',m')→m≤m'
 | [],N,N',m,m',h=>by
   simp only [stmtsK] at h
   cases h;omega
 | s::r,N,N',m,m',h=>by
   simp only [stmtsK] at h
   obtain ⟨x,h1,h2⟩:=bindK_ok h
   have:=stmtK_mono L s N x.1 m x.2 h1
   have:=stmtsK_mono L r x.1 N' x.2 m' h2
   omega
end
theorem kbindb_of {α β:Type} {b:Nat} {W0 W:World} {x:CK α} {f:α→CK β} {r:CK β} {F:FuncId} {args:Array Value} {ret:α→Value} {Q:Ending→World→Prop}
 (hM:Hid (Mods (·=b) W0 W)) (hx:Hid (bindK x f=r)) (hc:Calls Tryz.prog F args W (KGot W ret x))
 (herr:∀ n a,r=.error (n,a)→∀ g w,Hid (Blk w g [.int .i64 n,.int .i64 a] 136)→Hid (Mods (·=b) W0 w)→Q (.panicked [{ v:=wrongC g,recovered:=false }]) w)
 (hok:∀ y,Hid (x=.ok y)→Hid (f y=r)→∀ w,Hid (Mods None W w)→Hid (Mods (·=b) W0 w)→Q (.returned (ret y)) w) :
 Calls Tryz.prog F args W Q:=by
 have hx:=hx.out
 refine hc.mono ?_
 intro e w h
 cases x with
 | error q =>
   obtain ⟨n,a⟩:=q
   obtain ⟨⟨g,rfl,hb⟩,hm⟩:=h
   exact herr n a hx.symm g w (hiD hb) (hiD (hM.out.trans (hm.mono fun _ _ f=>f.elim)))
 | ok y =>
   obtain ⟨rfl,hm⟩:=h
   exact hok y (hiD rfl) (hiD hx) w (hiD hm) (hiD (hM.out.trans (hm.mono fun _ _ f=>f.elim)))
theorem abind_of {β:Type} {b:Nat} {L:List Fn} {W0 W:World} {x:CK (Nm×Nat)} {f:Nm×Nat→CK β} {r:CK β} {F:FuncId} {args:Array Value} {Q:Ending→World→Prop}
 (hM:Hid (Mods (·=b) W0 W)) (hx:Hid (bindK x f=r)) (hc:Calls Tryz.prog F args W (AddTo W b L x))
 (herr:∀ n a,r=.error (n,a)→∀ g w,Hid (Blk w g [.int .i64 n,.int .i64 a] 136)→Hid (Mods (·=b) W0 w)→Q (.panicked [{ v:=wrongC g,recovered:=false }]) w)
 (hok:∀ y,Hid (x=.ok y)→Hid (f y=r)→∀ w,Hid (Chk w b L y.1 y.2)→Hid (Mods (·=b) W w)→Hid (Mods (·=b) W0 w)→Q (.returned (.tuple #[])) w) :
 Calls Tryz.prog F args W Q:=by
 have hx:=hx.out
 refine hc.mono ?_
 intro e w h
 cases x with
 | error q =>
   obtain ⟨n,a⟩:=q
   obtain ⟨⟨g,rfl,hb⟩,hm⟩:=h
   exact herr n a hx.symm g w (hiD hb) (hiD (hM.out.trans hm))
 | ok y =>
   obtain ⟨rfl,hk,hm⟩:=h
   exact hok y (hiD rfl) (hiD hx) w (hiD hk) (hiD hm) (hiD (hM.out.trans hm))
def StK (L:List Fn) (s:St):Prop:=∀ (b:Nat) (N:Nm) (m:Nat) (cs:List Value) (W:World) (r:CK (Nm×Nat)),Chk W b L N m→StAt W (·=b) s cs→stmtK L N m s=r →
 Calls Tryz.prog 68 #[.pointer (some ⟨b,0,none⟩),.agg cs.toArray] W (AddTo W b L r)
def BlK (L:List Fn) (l:List St):Prop:=∀ (b:Nat) (N:Nm) (m:Nat) (v:Value) (vs:List Value) (W:World) (r:CK (Nm×Nat)),Chk W b L N m→RowAt W (·=b) 143 7 v l.length vs→StsAt W (·=b) l vs→blockK L N m l=r →
 Calls Tryz.prog 41 #[.pointer (some ⟨b,0,none⟩),v] W (AddTo W b L r)
theorem StAt.len7 {W:World} {S:Nat→Prop} {s:St} {cs:List Value} (h:StAt W S s cs):cs.length=7:=by
 obtain ⟨_,_,_,_,_,_,_,_,_,_,_,rfl⟩:=h.shape
 rfl
theorem StsAt.get {W:World} {S:Nat→Prop}:{l:List St}→{vs:List Value}→StsAt W S l vs→(i:Nat)→(s:St)→l[i]?=some s→∃ cs,StAt W S s cs∧∀ j,j<7→vs[i*7+j]?=cs[j]?
 | [],vs,h,i,s,hs=>by simp at hs
 | a::r,vs,h,i,s,hs=>by
   simp only [StsAt] at h
   obtain ⟨cs,r2,rfl,h1,h2⟩:=h
   have h7:=h1.len7
   cases i with
   | zero =>
     simp only [List.getElem?_cons_zero,Option.some.injEq] at hs
     subst hs
     refine ⟨cs,h1,fun j hj=>?_⟩
     rw [List.getElem?_append_left (by omega)]
     congr 1
     omega
   | succ i =>
     obtain ⟨ds,h3,h4⟩:=StsAt.get h2 i s (by simpa using hs)
     refine ⟨ds,h3,fun j hj=>?_⟩
     rw [List.getElem?_append_right (by omega),h7,← h4 j hj]
     congr 1
     omega
set_option maxRecDepth 100000 in
set_option maxHeartbeats 2000000 in
theorem block_k {L:List Fn} {l:List St} (hS:∀ s∈l,StK L s):BlK L l:=by
 intro b N m v vs W r hC hrow hst hr
 obtain ⟨r0,hr0⟩:∃ r0,r0=stmtsK L N m l:=⟨_,rfl⟩
 have HR:Hid (bindK r0 (fun x=>.ok (N,x.2))=r):=hiD (by rw [hr0];exact hr)
 have HX:Hid (stmtsK L N m (l.drop 0)=r0):=hiD hr0.symm
 have HST:=hiD (fun (w:World) (hm:Mods (·=b) W w)=>(StsAt.modsTo hm (fun _ _ k=>k) _ _ hst:StsAt w (·=b) l vs))
 obtain ⟨sa,sc,rfl,hsc,hsm,hscell⟩:=ownsRow_slice hrow.1
 have HCL:=hiD (fun (w:World) (hm:Mods (·=b) W w) (i:Nat) (hi:i<l.length)=>(by
  obtain ⟨cs,h1,h2⟩:=(HST.out w hm).get i l[i] (List.getElem?_eq_getElem hi)
  obtain ⟨code,a,name,p,q,oa,on,oc,ob,om,od,rfl⟩:=h1.shape
  have cell:∀ j u,j<7→([.int .i64 code,.int .i64 a,.string name,.pointer p,.pointer q,.slice oa on oc,.slice ob om od]:List Value)[j]?=some u→∃ g,sa=some ⟨g,0,none⟩∧w.cell? ⟨g,i*7+j,none⟩=some u:=by
   intro j u hj hu
   obtain ⟨g,e1,e2,e3⟩:=hscell (i*7+j) u (by rw [h2 j hj];exact hu)
   exact ⟨g,e1,hm.cellOf e3 (hrow.2 g e2)⟩
  obtain ⟨g,e0,k0⟩:=cell 0 _ (by omega) rfl
  have cell2:∀ j u,j<7→([.int .i64 code,.int .i64 a,.string name,.pointer p,.pointer q,.slice oa on oc,.slice ob om od]:List Value)[j]?=some u→w.cell? ⟨g,i*7+j,none⟩=some u:=by
   intro j u hj hu
   obtain ⟨g',e1,e2⟩:=cell j u hj hu
   rw [e0] at e1
   obtain rfl:g=g':=by simpa using e1
   exact e2
  exact ⟨g,code,a,name,p,q,oa,on,oc,ob,om,od,e0,k0,cell2 1 _ (by omega) rfl,cell2 2 _ (by omega) rfl,cell2 3 _ (by omega) rfl,cell2 4 _ (by omega) rfl,cell2 5 _ (by omega) rfl,cell2 6 _ (by omega) rfl,h1⟩ :
  ∃ g code a name p q oa on oc ob om od,sa=some ⟨g,0,none⟩∧w.cell? ⟨g,i*7,none⟩=some (.int .i64 code)∧w.cell? ⟨g,i*7+1,none⟩=some (.int .i64 a)∧w.cell? ⟨g,i*7+2,none⟩=some (.string name)∧w.cell? ⟨g,i*7+3,none⟩=some (.pointer p)∧w.cell? ⟨g,i*7+4,none⟩=some (.pointer q)∧w.cell? ⟨g,i*7+5,none⟩=some (.slice oa on oc)∧w.cell? ⟨g,i*7+6,none⟩=some (.slice ob om od) ∧
    StAt w (·=b) l[i] [.int .i64 code,.int .i64 a,.string name,.pointer p,.pointer q,.slice oa on oc,.slice ob om od]))
 obtain ⟨few,hlen,fv,nv,hb,hF,hN⟩:=hC
 have HC:Hid (Chk W b L N m):=hiD ⟨few,hlen,fv,nv,hb,hF,hN⟩
 have HN:=hiD hN
 have HLEN:=hiD hlen
 obtain ⟨na,nn,nc,rfl,-⟩:=hN
 have cb1:W.cell? ⟨b,1,none⟩=some (.slice na nn nc):=hb.cell rfl
 have HM:=hiD (Mods.refl (·=b) W)
 obtain ⟨n,hn⟩:∃ n,n=l.length:=⟨_,rfl⟩
 have HN1:=hiD hn
 have HSK:=hiD (fun (i:Nat) (hi:i<l.length)=>hS l[i] (List.getElem_mem hi))
 rw [← hn] at hsc
 unfold maxLen at hsm
 rw [← hn]
 clear hr0 hr hrow hst hscell few hlen hF hb hn hS
 go_enter Tryz.func41,Tryz.ntmps41
 go_wp2_with fail
 go_loopw [6,13] (fun _ iv wr=>∃ (i:Nat) (N':Nm) (m':Nat),i≤n∧iv=.int .i64 i∧Hid (Chk wr b L N' m'∧m≤m')∧Hid (stmtsK L N' m' (l.drop i)=r0)∧Hid (Mods (·=b) W wr)) (fun _ iv _=>(n-intOf iv).toNat)
 case atStart=>exact ⟨0,N,m,Nat.zero_le _,rfl,hiD ⟨HC.out,Nat.le_refl _⟩,HX,HM⟩
 case round =>
  clear HX HM HC
  obtain ⟨i,N',m',hi,rfl,HC,HX,HM⟩:=hrel
  by_cases hlt:i<n
  · have hil:i<l.length:=by have:=HN1.out;omega
    obtain ⟨g,code,a,name,p,q,oa,on,oc,ob,om,od,rfl,k0,k1,k2,k3,k4,k5,k6,hs⟩:=HCL.out wr HM.out i hil
    have hpi:(i:Int)<(n:Int):=by omega
    have HS:=hiD hs
    obtain ⟨W1,hW1⟩:∃ W1,W1=wr.alloc (.cells #[.int .i64 code,.int .i64 a,.string name,.pointer p,.pointer q,.slice oa on oc,.slice ob om od] 143):=⟨_,rfl⟩
    have HMA:Hid (Mods None wr W1):=hiD (by rw [hW1];exact (Mods.refl _ _).alloc _)
    have HX2:Hid (bindK (stmtK L N' m' l[i]) (fun x=>stmtsK L x.1 x.2 (l.drop (i+1)))=r0):=hiD (by
        rw [← HX.out,List.drop_eq_getElem_cons hil]
        simp only [stmtsK])
    have HCALL:=hiD (HSK.out i hil b N' m' _ W1 _ (HC.out.1.mods HMA.out) (StAt.modsTo (HMA.out.mono fun _ _ f=>f.elim) (fun _ _ k=>k) _ _ HS.out) rfl)
    have HMX:Hid (Mods (·=b) W W1):=hiD (HM.out.trans (HMA.out.mono fun _ _ f=>f.elim))
    clear hs HX
    go_wp2_with fail
    rw [← hW1]
    clear hW1 k0 k1 k2 k3 k4 k5 k6
    go_at_call 68
    refine abind_of (b:=b) HMX HX2 HCALL.out ?_ ?_
    · rintro q1 q2 hr0 g w HB HM1
      obtain rfl:r=.error (q1,q2):=by rw [← HR.out,hr0];rfl
      clear HX2 HCALL HSK HR
      go_wp2
      exact ⟨rfl,⟨g,rfl,HB.out⟩,HM1.out⟩
    · intro y hy hxy w HK HMw HM1
      have hmm:=stmtK_mono L _ _ y.1 _ y.2 hy.out
      have HMM:=hiD (Nat.le_trans HC.out.2 hmm)
      clear hmm HX2 HCALL hy
      go_wp2_with fail
      exact ⟨⟨i+1,y.1,y.2,by omega,by go_num,hiD ⟨HK.out,HMM.out⟩,hxy,HM1⟩,by simp [intOf];omega⟩
  · obtain rfl:i=n:=by omega
    have hpi:¬ (i:Int)<(i:Int):=by omega
    have hx:=HX.out
    rw [HN1.out,List.drop_length] at hx
    simp only [stmtsK] at hx
    obtain rfl:r=.ok (N,m'):=by rw [← HR.out,← hx];rfl
    obtain ⟨few,hlen,fv2,nv2,hb2,hF2,hN2⟩:=HC.out.1
    have c1:wr.cell? ⟨b,1,none⟩=some nv2:=hb2.cell rfl
    have f1:wr.frozen? ⟨b,1,none⟩=false:=hb2.free 1
    have HB2:=hiD hb2
    have HF2:=hiD hF2
    have HMN:=hiD HC.out.2
    have HFEW:=hiD few
    clear hx HX HR HC hb2 hF2 hN2 hlen few HSK HCL
    unfold AddTo
    go_wp2_with fail
    go_end0
    have hMs:Mods (·=b) wr (wr.setCell ⟨b,1,none⟩ (.slice na nn nc)):=Mods.setCell (S:=(·=b)) (p:=⟨b,1,none⟩) (Mods.refl _ _) (fun _=>rfl) _
    exact ⟨rfl,⟨HFEW.out,Nat.le_trans HLEN.out HMN.out,fv2,_,HB2.out.set 1 _,HF2.out.mods hMs (fun _ _ f=>f),HN.out.mods (HM.out.trans hMs) (fun _ _ f=>f)⟩,HM.out.trans hMs⟩
theorem row_nil (W:World) (S:Nat→Prop) (e:TypeId) (k:Nat):RowAt W S e k nilS 0 []:=⟨World.ownsRow_nil _ _ _ _,fun _ h=>nomatch h⟩
def restK (L:List Fn) (N:Nm) (m:Nat) (v:Ex) (t e:List St):CK (Nm×Nat):=bindK (wantK L N v 1) fun _=>bindK (blockK L N m t) fun x=>blockK L x.1 x.2 e
set_option maxRecDepth 100000 in
set_option maxHeartbeats 1000000 in
theorem stmtk_rest {L:List Fn} (code a:Int) (hcode:code=4∨code=5∨code=6∨code=7∨code=8) {v:Ex} {t e:List St} (ht:BlK L t) (he:BlK L e) (b:Nat) (N:Nm) (m:Nat) (xv pv qv:Value) (vp vq:List Value) (W:World) (r:CK (Nm×Nat)) (hC:Chk W b L N m)
 (hv:ExAt W (·=b) v xv) (hp:RowAt W (·=b) 143 7 pv t.length vp) (hpt:StsAt W (·=b) t vp) (hq:RowAt W (·=b) 143 7 qv e.length vq) (hqe:StsAt W (·=b) e vq) (hr:restK L N m v t e=r) :
 Calls Tryz.prog 68 #[.pointer (some ⟨b,0,none⟩),.agg (cells7 code a [] nilP xv pv qv).toArray] W (AddTo W b L r):=by
 obtain ⟨xg,rfl⟩:=hv.ptr
 obtain ⟨pa,pn,pc,rfl⟩:=hp.form
 obtain ⟨qa,qn,qc,rfl⟩:=hq.form
 have HX:Hid (bindK (wantK L N v 1) (fun _=>bindK (blockK L N m t) fun x=>blockK L x.1 x.2 e)=r):=hiD hr
 obtain ⟨W1,hW1⟩:∃ W1,W1=W.alloc (.cells (cells7 code a [] nilP (.pointer (some ⟨xg,0,none⟩)) (.slice pa pn pc) (.slice qa qn qc)).toArray 143):=⟨_,rfl⟩
 have HMA:Hid (Mods None W W1):=hiD (by rw [hW1];exact (Mods.refl _ _).alloc _)
 have HB1:Hid (Blk W1 W.heap.size (cells7 code a [] nilP (.pointer (some ⟨xg,0,none⟩)) (.slice pa pn pc) (.slice qa qn qc)) 143):=hiD (by rw [hW1];exact Blk.new W _ _)
 have HBN:Hid (¬ W.heap.size=b):=hiD (by obtain ⟨_,_,_,_,hb,_⟩:=hC;have:=hb.lt;omega)
 have HMB:Hid (Mods (·=b) W W1):=hiD (HMA.out.mono fun _ _ f=>f.elim)
 have HC:=hiD (hC.mods HMA.out)
 have HW:=hiD (want_any L N v hC hv 1 W1 HMA.out)
 have HT:=hiD (fun (w:World) (N':Nm) (m':Nat) (hm:Mods (·=b) W w) (hk:Chk w b L N' m')=>(ht b N' m' _ vp w _ hk (hp.mods hm (fun _ _ k=>k)) (StsAt.modsTo hm (fun _ _ k=>k) _ _ hpt) rfl:Calls Tryz.prog 41 #[.pointer (some ⟨b,0,none⟩),.slice pa pn pc] w (AddTo w b L (blockK L N' m' t))))
 have HE:=hiD (fun (w:World) (N':Nm) (m':Nat) (hm:Mods (·=b) W w) (hk:Chk w b L N' m')=>(he b N' m' _ vq w _ hk (hq.mods hm (fun _ _ k=>k)) (StsAt.modsTo hm (fun _ _ k=>k) _ _ hqe) rfl:Calls Tryz.prog 41 #[.pointer (some ⟨b,0,none⟩),.slice qa qn qc] w (AddTo w b L (blockK L N' m' e))))
 clear hC hv hp hpt hq hqe hr ht he
 unfold cells7 nilP str at *
 rcases hcode with rfl|rfl|rfl|rfl|rfl
 all_goals
  go_enter Tryz.func68,Tryz.ntmps68
  go_wp2_with fail
  rw [← hW1]
  clear hW1
  go_at_call 101
  refine kbindb_of (b:=b) HMB HX HW.out ?_ ?_
  · rintro n a rfl g w HB HM1
    go_wp2
    exact ⟨rfl,⟨g,rfl,HB.out⟩,HM1.out⟩
  · intro _ _ HX2 w HMw HM1
    have HB2:=hiD (HB1.out.mods HMw.out (fun f=>f))
    have HC2:=hiD (HC.out.mods HMw.out)
    have c5:w.cell? ⟨W.heap.size,5,none⟩=some (.slice pa pn pc):=HB2.out.cell rfl
    clear HX HW HB1 HC
    go_wp2_with fail
    go_at_call 41
    refine abind_of (b:=b) HM1 HX2 (HT.out w N m HM1.out HC2.out) ?_ ?_
    · rintro n a rfl g w HB HM1
      go_wp2
      exact ⟨rfl,⟨g,rfl,HB.out⟩,HM1.out⟩
    · intro y _ HX3 w3 HK HMw3 HM3
      have HB3:=hiD (HB2.out.mods HMw3.out HBN.out)
      have c6:w3.cell? ⟨W.heap.size,6,none⟩=some (.slice qa qn qc):=HB3.out.cell rfl
      have HCL:=hiD (HE.out w3 y.1 y.2 HM3.out HK.out)
      clear HX2 HT HE HB2 HC2 c5
      go_wp2_with fail
      go_at_call 41
      have HX5:Hid (bindK (blockK L y.1 y.2 e) (fun y=>.ok y)=r):=hiD (by rw [← HX3.out];cases blockK L y.1 y.2 e <;> rfl)
      refine abind_of (b:=b) HM3 HX5 HCL.out ?_ ?_
      · rintro n a rfl g w HB HM1
        go_wp2
        exact ⟨rfl,⟨g,rfl,HB.out⟩,HM1.out⟩
      · intro z _ HX4 w4 HK4 HMw4 HM4
        obtain rfl:r=.ok z:=HX4.out.symm
        clear HX3 HX4 HX5 HCL c6
        go_wp2_with fail
        go_end0
        exact ⟨rfl,HK4.out,HM4.out⟩
set_option maxRecDepth 100000 in
set_option maxHeartbeats 1000000 in
theorem stmtk_set {L:List Fn} (a:Int) (s:List UInt8) (v:Ex) (b:Nat) (N:Nm) (m:Nat) (xv:Value) (W:World) (r:CK (Nm×Nat)) (hC:Chk W b L N m) (hv:ExAt W (·=b) v xv) (hr:stmtK L N m (.set a s v)=r) :
 Calls Tryz.prog 68 #[.pointer (some ⟨b,0,none⟩),.agg (cells7 2 a s nilP xv nilS nilS).toArray] W (AddTo W b L r):=by
 obtain ⟨xg,rfl⟩:=hv.ptr
 obtain ⟨W1,hW1⟩:∃ W1,W1=W.alloc (.cells (cells7 2 a s nilP (.pointer (some ⟨xg,0,none⟩)) nilS nilS).toArray 143):=⟨_,rfl⟩
 have HMA:Hid (Mods None W W1):=hiD (by rw [hW1];exact (Mods.refl _ _).alloc _)
 have HB1:Hid (Blk W1 W.heap.size (cells7 2 a s nilP (.pointer (some ⟨xg,0,none⟩)) nilS nilS) 143):=hiD (by rw [hW1];exact Blk.new W _ _)
 have HMB:Hid (Mods (·=b) W W1):=hiD (HMA.out.mono fun _ _ f=>f.elim)
 have HC:=hiD (hC.mods HMA.out)
 have HF:=hiD (find_any b L N m s W1 HC.out)
 have HW:=hiD (fun (k:Int) (w:World) (hm:Mods None W w)=>want_any L N v hC hv k w hm)
 simp only [stmtK] at hr
 obtain ⟨q,hq⟩:∃ q,q=findN N s:=⟨_,rfl⟩
 rw [← hq] at hr HF
 clear hC hv hq
 by_cases h0:q=0
 · rw [if_pos h0] at hr
   subst hr h0
   unfold cells7 nilP nilS str AddTo at *
   go_enter Tryz.func68,Tryz.ntmps68
   go_wp2_with fail
   rw [← hW1]
   clear hW1
   go_at_call 66
   refine HF.out.mono ?_
   rintro e w2 ⟨rfl,hm2⟩
   have c1:w2.cell? ⟨W.heap.size,1,none⟩=some (.int .i64 a):=hm2.cellOf (HB1.out.cell rfl) (fun f=>f)
   go_wp2_with fail
   go_at_call 39
   refine (cfail_any 7 a w2).mono ?_
   rintro e w3 ⟨⟨g,rfl,hb3⟩,hm3⟩
   go_wp2
   exact ⟨rfl,⟨g,rfl,hb3⟩,(HMA.out.trans (hm2.trans hm3)).mono fun _ _ f=>f.elim⟩
 · rw [if_neg h0] at hr
   have hq0:(q==0)=false:=by simpa using h0
   have HX:Hid (bindK (wantK L N v q) (fun _=>.ok (N,m))=r):=hiD hr
   clear hr
   unfold cells7 nilP nilS str at *
   go_enter Tryz.func68,Tryz.ntmps68
   go_wp2_with fail
   rw [← hW1]
   clear hW1
   go_at_call 66
   refine HF.out.mono ?_
   rintro e w2 ⟨rfl,hm2⟩
   have HM2:=hiD (HMA.out.trans hm2)
   have HM2B:Hid (Mods (·=b) W w2):=hiD (HM2.out.mono fun _ _ f=>f.elim)
   have HWW:=hiD (HW.out q w2 HM2.out)
   have HC2:=hiD (HC.out.mods hm2)
   have c0:w2.cell? ⟨W.heap.size,0,none⟩=some (.int .i64 2):=hm2.cellOf (HB1.out.cell rfl) (fun f=>f)
   have c4:w2.cell? ⟨W.heap.size,4,none⟩=some (.pointer (some ⟨xg,0,none⟩)):=hm2.cellOf (HB1.out.cell rfl) (fun f=>f)
   clear hm2 HF HW HC
   go_wp2_with fail
   go_at_call 101
   refine kbindb_of (b:=b) HM2B HX HWW.out ?_ ?_
   · rintro n a rfl g w HB HM1
     go_wp2
     exact ⟨rfl,⟨g,rfl,HB.out⟩,HM1.out⟩
   · intro _ _ HX2 w HMw HM1
     obtain rfl:r=.ok (N,m):=HX2.out.symm
     have HC3:=hiD (HC2.out.mods HMw.out)
     clear HX HX2 HWW HC2 c0 c4
     go_wp2_with fail
     go_end0
     exact ⟨rfl,HC3.out,HM1.out⟩
set_option maxRecDepth 100000 in
set_option maxHeartbeats 1000000 in
theorem stmtk_put {L:List Fn} (a:Int) (s:List UInt8) (i v:Ex) (b:Nat) (N:Nm) (m:Nat) (iv xv:Value) (W:World) (r:CK (Nm×Nat)) (hC:Chk W b L N m) (hi:ExAt W (·=b) i iv) (hv:ExAt W (·=b) v xv) (hr:stmtK L N m (.put a s i v)=r) :
 Calls Tryz.prog 68 #[.pointer (some ⟨b,0,none⟩),.agg (cells7 3 a s iv xv nilS nilS).toArray] W (AddTo W b L r):=by
 obtain ⟨xg,rfl⟩:=hv.ptr
 obtain ⟨ig,rfl⟩:=hi.ptr
 obtain ⟨W1,hW1⟩:∃ W1,W1=W.alloc (.cells (cells7 3 a s (.pointer (some ⟨ig,0,none⟩)) (.pointer (some ⟨xg,0,none⟩)) nilS nilS).toArray 143):=⟨_,rfl⟩
 have HMA:Hid (Mods None W W1):=hiD (by rw [hW1];exact (Mods.refl _ _).alloc _)
 have HB1:Hid (Blk W1 W.heap.size (cells7 3 a s (.pointer (some ⟨ig,0,none⟩)) (.pointer (some ⟨xg,0,none⟩)) nilS nilS) 143):=hiD (by rw [hW1];exact Blk.new W _ _)
 have HMB:Hid (Mods (·=b) W W1):=hiD (HMA.out.mono fun _ _ f=>f.elim)
 have HC:=hiD (hC.mods HMA.out)
 have HF:=hiD (find_any b L N m s W1 HC.out)
 have HW:=hiD (fun (k:Int) (w:World) (hm:Mods None W w)=>want_any L N v hC hv k w hm)
 have HI:=hiD (fun (k:Int) (w:World) (hm:Mods None W w)=>want_any L N i hC hi k w hm)
 simp only [stmtK] at hr
 obtain ⟨q,hq⟩:∃ q,q=findN N s:=⟨_,rfl⟩
 rw [← hq] at hr HF
 clear hC hv hq hi
 by_cases h0:q=0
 · rw [if_pos h0] at hr
   subst hr h0
   unfold cells7 nilS str AddTo at *
   go_enter Tryz.func68,Tryz.ntmps68
   go_wp2_with fail
   rw [← hW1]
   clear hW1
   go_at_call 66
   refine HF.out.mono ?_
   rintro e w2 ⟨rfl,hm2⟩
   have c1:w2.cell? ⟨W.heap.size,1,none⟩=some (.int .i64 a):=hm2.cellOf (HB1.out.cell rfl) (fun f=>f)
   go_wp2_with fail
   go_at_call 39
   refine (cfail_any 7 a w2).mono ?_
   rintro e w3 ⟨⟨g,rfl,hb3⟩,hm3⟩
   go_wp2
   exact ⟨rfl,⟨g,rfl,hb3⟩,(HMA.out.trans (hm2.trans hm3)).mono fun _ _ f=>f.elim⟩
 · rw [if_neg h0] at hr
   have hq0:(q==0)=false:=by simpa using h0
   by_cases h2:q=2
   · rw [if_neg (by simpa using h2)] at hr
     subst h2
     have HX:Hid (bindK (wantK L N i 1) (fun _=>bindK (wantK L N v 1) fun _=>.ok (N,m))=r):=hiD hr
     clear hr h0 hq0
     unfold cells7 nilS str at *
     go_enter Tryz.func68,Tryz.ntmps68
     go_wp2_with fail
     rw [← hW1]
     clear hW1
     go_at_call 66
     refine HF.out.mono ?_
     rintro e w2 ⟨rfl,hm2⟩
     have HM2:=hiD (HMA.out.trans hm2)
     have HM2B:Hid (Mods (·=b) W w2):=hiD (HM2.out.mono fun _ _ f=>f.elim)
     have HWI:=hiD (HI.out 1 w2 HM2.out)
     have HC2:=hiD (HC.out.mods hm2)
     have HB2:=hiD (HB1.out.mods hm2 (fun f=>f))
     have c0:w2.cell? ⟨W.heap.size,0,none⟩=some (.int .i64 3):=HB2.out.cell rfl
     have c3:w2.cell? ⟨W.heap.size,3,none⟩=some (.pointer (some ⟨ig,0,none⟩)):=HB2.out.cell rfl
     clear hm2 HF HI HC
     go_wp2_with fail
     go_at_call 101
     refine kbindb_of (b:=b) HM2B HX HWI.out ?_ ?_
     · rintro n a rfl g w HB HM1
       go_wp2
       exact ⟨rfl,⟨g,rfl,HB.out⟩,HM1.out⟩
     · intro _ _ HX2 w HMw HM1
       have HC3:=hiD (HC2.out.mods HMw.out)
       have HWV:=hiD (HW.out 1 w (HM2.out.trans HMw.out))
       have c4:w.cell? ⟨W.heap.size,4,none⟩=some (.pointer (some ⟨xg,0,none⟩)):=HMw.out.cellOf (HB2.out.cell rfl) (fun f=>f)
       clear HX HWI HC2 c0 c3 HB2 HB1 HW
       go_wp2_with fail
       go_at_call 101
       refine kbindb_of (b:=b) HM1 HX2 HWV.out ?_ ?_
       · rintro n a rfl g w HB HM1
         go_wp2
         exact ⟨rfl,⟨g,rfl,HB.out⟩,HM1.out⟩
       · intro _ _ HX3 w3 HMw3 HM3
         obtain rfl:r=.ok (N,m):=HX3.out.symm
         have HC4:=hiD (HC3.out.mods HMw3.out)
         clear HX2 HX3 HWV HC3 c4
         go_wp2_with fail
         go_end0
         exact ⟨rfl,HC4.out,HM3.out⟩
   · rw [if_pos (by simpa using h2)] at hr
     subst hr
     have hq2:(q != 2)=true:=by simpa using h2
     unfold cells7 nilS str AddTo at *
     go_enter Tryz.func68,Tryz.ntmps68
     go_wp2_with fail
     rw [← hW1]
     clear hW1
     go_at_call 66
     refine HF.out.mono ?_
     rintro e w2 ⟨rfl,hm2⟩
     have c0:w2.cell? ⟨W.heap.size,0,none⟩=some (.int .i64 3):=hm2.cellOf (HB1.out.cell rfl) (fun f=>f)
     have c1:w2.cell? ⟨W.heap.size,1,none⟩=some (.int .i64 a):=hm2.cellOf (HB1.out.cell rfl) (fun f=>f)
     go_wp2_with fail
     go_at_call 39
     refine (cfail_any 1 a w2).mono ?_
     rintro e w3 ⟨⟨g,rfl,hb3⟩,hm3⟩
     go_wp2
     exact ⟨rfl,⟨g,rfl,hb3⟩,(HMA.out.trans (hm2.trans hm3)).mono fun _ _ f=>f.elim⟩
set_option maxRecDepth 100000 in
set_option maxHeartbeats 8000000 in
theorem stmtk_var {L:List Fn} (a:Int) (s:List UInt8) (v:Ex) (b:Nat) (N:Nm) (m:Nat) (xv:Value) (W:World) (r:CK (Nm×Nat)) (hC:Chk W b L N m) (hv:ExAt W (·=b) v xv) (hr:stmtK L N m (.var a s v)=r) :
 Calls Tryz.prog 68 #[.pointer (some ⟨b,0,none⟩),.agg (cells7 1 a s nilP xv nilS nilS).toArray] W (AddTo W b L r):=by
 obtain ⟨xg,rfl⟩:=hv.ptr
 obtain ⟨W1,hW1⟩:∃ W1,W1=W.alloc (.cells (cells7 1 a s nilP (.pointer (some ⟨xg,0,none⟩)) nilS nilS).toArray 143):=⟨_,rfl⟩
 have HMA:Hid (Mods None W W1):=hiD (by rw [hW1];exact (Mods.refl _ _).alloc _)
 have HB1:Hid (Blk W1 W.heap.size (cells7 1 a s nilP (.pointer (some ⟨xg,0,none⟩)) nilS nilS) 143):=hiD (by rw [hW1];exact Blk.new W _ _)
 have HMB:Hid (Mods (·=b) W W1):=hiD (HMA.out.mono fun _ _ f=>f.elim)
 have HC:=hiD (hC.mods HMA.out)
 have HX:Hid (bindK (exprK L N v) (fun t=>addN N m (s,t) a)=r):=hiD (by rw [← hr];simp only [stmtK])
 have HE:=hiD (fun (w:World) (hm:Mods None W w)=>exprk_all L N v b m _ w _ (hC.mods hm) (hv.mods (hm.mono fun _ _ f=>f.elim)) rfl)
 have hbl:b<W1.heap.size:=by obtain ⟨_,_,_,_,hb,_⟩:=HC.out;exact hb.lt
 clear hC hv hr
 have HD:Hid (Mods None W W1.drew):=hiD HMA.out.drew
 have HB1D:Hid (∀ w,Mods None W1.drew w→Blk w W.heap.size (cells7 1 a s nilP (.pointer (some ⟨xg,0,none⟩)) nilS nilS) 143):=hiD (fun w hm=>HB1.out.mods (((Mods.refl None W1).drew).trans hm) (fun f=>f))
 have HE2:=hiD (HE.out W1.drew HD.out)
 cases hx:exprK L N v with
 | error q =>
   obtain ⟨qn,qa⟩:=q
   rw [hx] at HX HE2
   obtain rfl:r=.error (qn,qa):=HX.out.symm
   have d2:W1.cell? ⟨W.heap.size,2,none⟩=some (str s):=HB1.out.cell rfl
   have d4:W1.cell? ⟨W.heap.size,4,none⟩=some (.pointer (some ⟨xg,0,none⟩)):=HB1.out.cell rfl
   have d1:W1.cell? ⟨W.heap.size,1,none⟩=some (.int .i64 a):=HB1.out.cell rfl
   clear hx HX HE
   unfold cells7 nilP nilS str AddTo at *
   go_enter Tryz.func68,Tryz.ntmps68
   go_wp2_with fail
   rw [← hW1]
   clear hW1
   go_region_with (first|(go_at_call 100;refine HE2.out.mono ?_;rintro e w3 ⟨⟨g3,rfl,hb3⟩,hm3⟩;refine no_way Tryz.prog w3 ⟨rfl,⟨g3,rfl,hb3⟩,(HD.out.trans hm3).mono fun _ _ f=>f.elim⟩ ?_))
   all_goals trivial
 | ok t =>
   rw [hx] at HX HE2
   have d2:W1.cell? ⟨W.heap.size,2,none⟩=some (str s):=HB1.out.cell rfl
   have d4:W1.cell? ⟨W.heap.size,4,none⟩=some (.pointer (some ⟨xg,0,none⟩)):=HB1.out.cell rfl
   have d1:W1.cell? ⟨W.heap.size,1,none⟩=some (.int .i64 a):=HB1.out.cell rfl
   have HXA:Hid (addN N m (s,t) a=r):=hiD HX.out
   have HADD:=hiD (fun (w:World) (hm:Mods None W1.drew w)=>(by
    have:=add_any b L N m (s,t) a w (HC.out.mods (((Mods.refl None W1).drew).trans hm))
    rw [HXA.out] at this
    exact this:Calls Tryz.prog 40 #[.pointer (some ⟨b,0,none⟩),.agg #[str s,.int .i64 t],.int .i64 a] w (AddTo w b L r)))
   clear hx HX HE HXA
   cases r with
   | error q =>
     obtain ⟨qn,qa⟩:=q
     unfold cells7 nilP nilS str AddTo at *
     go_enter Tryz.func68,Tryz.ntmps68
     go_wp2_with fail
     rw [← hW1]
     clear hW1
     go_region_with (first|(go_at_call 100;refine HE2.out.mono ?_;rintro e w3 ⟨rfl,hm3⟩;have e2:=(HB1D.out w3 hm3).cell (i:=2) rfl;have e4:=(HB1D.out w3 hm3).cell (i:=4) rfl;have e1:=(HB1D.out w3 hm3).cell (i:=1) rfl;have HM3:=hiD hm3)|(go_at_call 40;refine (HADD.out _ HM3.out).mono ?_;rintro e w4 ⟨⟨g3,rfl,hb3⟩,hm4⟩;refine no_way Tryz.prog w4 ⟨rfl,⟨g3,rfl,hb3⟩,((HD.out.trans HM3.out).mono fun _ _ f=>f.elim).trans hm4⟩ ?_))
     all_goals trivial
   | ok y =>
     unfold cells7 nilP nilS str AddTo at *
     go_enter Tryz.func68,Tryz.ntmps68
     go_wp2_with fail
     rw [← hW1]
     clear hW1
     go_region_with (first|(go_at_call 100;refine HE2.out.mono ?_;rintro e w3 ⟨rfl,hm3⟩;have e2:=(HB1D.out w3 hm3).cell (i:=2) rfl;have e4:=(HB1D.out w3 hm3).cell (i:=4) rfl;have e1:=(HB1D.out w3 hm3).cell (i:=1) rfl;have HM3:=hiD hm3)|(go_at_call 40;refine (HADD.out _ HM3.out).mono ?_;rintro e w4 ⟨rfl,hk4,hm4⟩))
     all_goals
        have HK4:=hiD hk4
        have HM4:=hiD (((HD.out.trans HM3.out).mono fun _ _ f=>f.elim).trans hm4)
        clear hk4 hm4
        go_wp2_with fail
        go_end0
        exact ⟨rfl,HK4.out,HM4.out⟩
theorem blockK_nil (L:List Fn) (N:Nm) (m:Nat):blockK L N m []=.ok (N,m):=by simp only [blockK,stmtsK,bindK]
theorem blk_nil (L:List Fn):BlK L []:=block_k (fun s h=>nomatch h)
theorem rest_nil {L:List Fn} {N:Nm} {m:Nat} {v:Ex} {r:CK (Nm×Nat)} (h:bindK (wantK L N v 1) (fun _=>.ok (N,m))=r):restK L N m v [] []=r:=by
 rw [← h]
 unfold restK
 simp only [blockK_nil]
 rfl
theorem sts_nil (W:World) (S:Nat→Prop):StsAt W S [] []:=by simp only [StsAt]
mutual
theorem stmtk_all (L:List Fn):(s:St)→StK L s
 | .var a s v=>fun b N m cs W r hC hs hr=>by
   simp only [StAt] at hs
   obtain ⟨x,rfl,hx⟩:=hs
   exact stmtk_var a s v b N m x W r hC hx hr
 | .set a s v=>fun b N m cs W r hC hs hr=>by
   simp only [StAt] at hs
   obtain ⟨x,rfl,hx⟩:=hs
   exact stmtk_set a s v b N m x W r hC hx hr
 | .put a s i v=>fun b N m cs W r hC hs hr=>by
   simp only [StAt] at hs
   obtain ⟨x,y,rfl,hx,hy⟩:=hs
   exact stmtk_put a s i v b N m x y W r hC hx hy hr
 | .cond a v t e=>fun b N m cs W r hC hs hr=>by
   simp only [StAt] at hs
   obtain ⟨x,p,vp,q,vq,rfl,hx,h1,h2,h3,h4⟩:=hs
   refine stmtk_rest 4 a (by simp) (block_k (stmtsk_all L t)) (block_k (stmtsk_all L e)) b N m x p q vp vq W r hC hx h1 h2 h3 h4 ?_
   rw [← hr]
   simp only [stmtK,restK,blockK,bindK_assoc]
   rfl
 | .loop a v t=>fun b N m cs W r hC hs hr=>by
   simp only [StAt] at hs
   obtain ⟨x,p,vp,rfl,hx,h1,h2⟩:=hs
   refine stmtk_rest 5 a (by simp) (block_k (stmtsk_all L t)) (blk_nil L) b N m x p nilS vp [] W r hC hx h1 h2 (row_nil _ _ _ _) (sts_nil _ _) ?_
   rw [← hr]
   simp only [stmtK,restK,blockK_nil]
   simp only [blockK,bindK_assoc]
   rfl
 | .ret a v=>fun b N m cs W r hC hs hr=>by
   simp only [StAt] at hs
   obtain ⟨x,rfl,hx⟩:=hs
   exact stmtk_rest 6 a (by simp) (blk_nil L) (blk_nil L) b N m x nilS nilS [] [] W r hC hx (row_nil _ _ _ _) (sts_nil _ _) (row_nil _ _ _ _) (sts_nil _ _) (rest_nil (by rw [← hr];simp only [stmtK]))
 | .print a v=>fun b N m cs W r hC hs hr=>by
   simp only [StAt] at hs
   obtain ⟨x,rfl,hx⟩:=hs
   exact stmtk_rest 7 a (by simp) (blk_nil L) (blk_nil L) b N m x nilS nilS [] [] W r hC hx (row_nil _ _ _ _) (sts_nil _ _) (row_nil _ _ _ _) (sts_nil _ _) (rest_nil (by rw [← hr];simp only [stmtK]))
 | .call a v=>fun b N m cs W r hC hs hr=>by
   simp only [StAt] at hs
   obtain ⟨x,rfl,hx⟩:=hs
   exact stmtk_rest 8 a (by simp) (blk_nil L) (blk_nil L) b N m x nilS nilS [] [] W r hC hx (row_nil _ _ _ _) (sts_nil _ _) (row_nil _ _ _ _) (sts_nil _ _) (rest_nil (by rw [← hr];simp only [stmtK]))
theorem stmtsk_all (L:List Fn):(l:List St)→∀ s∈l,StK L s
 | []=>fun s h=>nomatch h
 | a::r=>fun s h=>(List.mem_cons.1 h).elim (fun h1=>h1 ▸ stmtk_all L a) (stmtsk_all L r s)
end
theorem block_any (L:List Fn) (l:List St):BlK L l:=block_k (stmtsk_all L l)
set_option maxRecDepth 100000 in
theorem eq_twin (s:List UInt8) (a:List UInt8) (t:Int) (oa ob:Option Addr) (on oc om od:Nat) (q:Nat) (W:World) (hq:W.cell? ⟨q,0,none⟩=some (str s)) :
 Calls Tryz.prog 38 #[.agg #[str a,.int .i64 t,.slice oa on oc,.slice ob om od],.pointer (some ⟨q,0,none⟩)] W fun e w=>e=.returned (.bool (a==s))∧Mods None W w:=by
 have hlt:q<W.heap.size:=World.block_lt_of_cell? W _ hq
 have hne:q≠W.heap.size:=by omega
 unfold str at *
 go_enter Tryz.func38,Tryz.ntmps38
 go_wp2
 go_ret
 refine ⟨?_,(Mods.refl _ _).alloc _⟩
 simp
def isMain (a:List UInt8) (n:Nat):Bool:=a==[109,97,105,110] && n==0
set_option maxRecDepth 100000 in
theorem eq_main (a:List UInt8) (t:Int) (oa ob:Option Addr) (on oc om od:Nat) (W:World) :
 Calls Tryz.prog 42 #[.agg #[str a,.int .i64 t,.slice oa on oc,.slice ob om od]] W fun e w=>e=.returned (.bool (isMain a on))∧Mods None W w:=by
 unfold str isMain
 rcases hb:(a==[109,97,105,110]) with _|_
 · go_enter Tryz.func42,Tryz.ntmps42
   go_wp2
   go_ret
   exact ⟨rfl,(Mods.refl _ _).alloc _⟩
 · rcases hn:(on==0) with _|_
   · have hn0:((on:Int)==0)=false:=by simp at hn ⊢;omega
     go_enter Tryz.func42,Tryz.ntmps42
     go_wp2
     go_ret
     exact ⟨rfl,(Mods.refl _ _).alloc _⟩
   · obtain rfl:on=0:=by simpa using hn
     go_enter Tryz.func42,Tryz.ntmps42
     go_wp2
     go_ret
     exact ⟨rfl,(Mods.refl _ _).alloc _⟩
def idxM:List Fn→Option Nat
 | []=>none
 | p::r=>if mainB p then some 0 else (idxM r).map (·+1)
theorem idxM_take {N:List Fn} {i:Nat} (h:idxM (N.take i)=none) {p:Fn} (hp:N[i]?=some p):idxM (N.take (i+1))=if mainB p then some i else none:=by
 induction N generalizing i with
 | nil=>simp at hp
 | cons a r ih =>
   cases i with
   | zero =>
     simp only [List.getElem?_cons_zero,Option.some.injEq] at hp
     subst hp
     simp [idxM]
   | succ i =>
     simp only [List.take_succ_cons,idxM] at h ⊢
     split at h
     · cases h
     · rename_i hn
       rw [if_neg hn]
       simp only [Option.map_eq_none_iff] at h
       rw [ih h (by simpa using hp)]
       split <;> rfl
theorem idxM_more {N:List Fn} {i j:Nat} (h:idxM (N.take i)=some j):idxM N=some j:=by
 induction N generalizing i j with
 | nil=>simp [idxM] at h
 | cons a r ih =>
   cases i with
   | zero=>simp [idxM] at h
   | succ i =>
     simp only [List.take_succ_cons,idxM] at h ⊢
     split at h
     · rename_i hy
       rw [if_pos hy]
       exact h
     · rename_i hn
       rw [if_neg hn]
       obtain ⟨k,hk,rfl⟩:=Option.map_eq_some_iff.1 h
       rw [ih hk]
       rfl
theorem idxM_any (L:List Fn):(idxM L).isSome=L.any mainB:=by
 induction L with
 | nil=>rfl
 | cons a r ih =>
   simp only [idxM,List.any_cons]
   split
   · rename_i h;rw [h];rfl
   · rename_i h
     rw [Bool.not_eq_true] at h
     rw [h,Option.isSome_map,ih]
     rfl
theorem idxF_any (L:List Fn) (s:List UInt8):(idxF L s).isSome=L.any (fun g=>g.name==s):=by
 induction L with
 | nil=>rfl
 | cons a r ih =>
   simp only [idxF,List.any_cons]
   split
   · rename_i h;rw [h];rfl
   · rename_i h
     rw [Bool.not_eq_true] at h
     rw [h,Option.isSome_map,ih]
     rfl
theorem FsAt.take {W:World} {S:Nat→Prop} {a:Option Addr} {n c i:Nat} {L:List Fn} (h:FsAt W S (.slice a n c) L) (hi:i≤n) (ha:a≠none):FsAt W S (.slice a i c) (L.take i):=by
 obtain ⟨a',n',c',e,h2,h3,h4,h5,h6⟩:=h
 obtain ⟨rfl,rfl,rfl⟩:=Value.slice.inj e
 refine ⟨a,i,c,rfl,by rw [List.length_take];omega,by omega,h4,fun h=>absurd h ha,fun j f hj=>?_⟩
 rw [List.getElem?_take] at hj
 split at hj
 · exact h6 j f hj
 · cases hj
set_option maxRecDepth 100000 in
set_option maxHeartbeats 1000000 in
theorem index_twin (s:List UInt8) (L:List Fn) (S:Nat→Prop) (v:Value) (q:Nat) (W:World) (hq:W.cell? ⟨q,0,none⟩=some (str s)) (hL:FsAt W S v L) :
 Calls Tryz.prog 65 #[v,.func (.func 38) #[] #[.pointer (some ⟨q,0,none⟩)]] W fun e w=>e=.returned (.int .i64 (optI (idxF L s)))∧Mods None W w:=by
 obtain ⟨a,n,c,rfl,hn,hnc,hcm,h0,hcell⟩:=hL
 have HN:=hiD hn
 have HC:=hiD (fun (w:World) (hm:Mods None W w) (i:Nat) (hi:i<n)=>(by
  have hi2:i<L.length:=by omega
  obtain ⟨g,o,p,q,vq,e1,e2,e3,e4,e5,e6,e7,e8,e9⟩:=hcell i L[i] (List.getElem?_eq_getElem hi2)
  obtain ⟨pa,pn,pc,rfl⟩:=e7.form
  obtain ⟨qa,qn,qc,rfl⟩:=e8.form
  exact ⟨L[i],g,o,pa,pn,pc,qa,qn,qc,e1,List.getElem?_eq_getElem hi2,hm.cellOf e3 (fun f=>f),hm.cellOf e4 (fun f=>f),hm.cellOf e5 (fun f=>f),hm.cellOf e6 (fun f=>f)⟩:∃ x g o pa pn pc qa qn qc,a=some ⟨g,o,none⟩∧L[i]?=some x∧w.cell? ⟨g,o+i*4,none⟩=some (str x.name)∧w.cell? ⟨g,o+i*4+1,none⟩=some (.int .i64 x.at_)∧w.cell? ⟨g,o+i*4+2,none⟩=some (.slice pa pn pc)∧w.cell? ⟨g,o+i*4+3,none⟩=some (.slice qa qn qc)))
 have HQ:=hiD (fun (w:World) (hm:Mods None W w)=>(hm.cellOf hq (fun f=>f):w.cell? ⟨q,0,none⟩=some (str s)))
 unfold maxLen at hcm
 clear hn hcell hq
 unfold str at *
 go_enter Tryz.func65,Tryz.ntmps65
 go_wp2_with fail
 go_loopw [5,8] (fun _ iv wr=>∃ i:Nat,i≤n∧iv=.int .i64 i∧Hid (idxF (L.take i) s=none)∧Hid (Mods None W wr)) (fun _ iv _=>(n-intOf iv).toNat)
 case atStart=>exact ⟨0,Nat.zero_le _,rfl,hiD (by simp [idxF]),hiD (Mods.refl _ _)⟩
 case round =>
  obtain ⟨i,hi,rfl,HI,HM⟩:=hrel
  by_cases hlt:i<n
  · obtain ⟨x,gg,o,pa,pn,pc,qa,qn,qc,rfl,hx,c1,c2,c3,c4⟩:=HC.out wr HM.out i hlt
    have hpi:(i:Int)<(n:Int):=by omega
    have HT:=hiD (idxF_take HI.out hx)
    have HE:=hiD (eq_twin s x.name x.at_ pa qa pn pc qn qc q wr (HQ.out wr HM.out))
    clear hx
    unfold str at *
    go_wp2_with fail
    go_at_call 38
    refine HE.out.mono ?_
    rintro e w1 ⟨rfl,hm1⟩
    have HM1:=hiD (HM.out.trans hm1)
    clear hm1
    rcases hb:(x.name==s) with _|_
    · have HT2:Hid (idxF (L.take (i+1)) s=none):=hiD (by rw [HT.out];simp only [hb];rfl)
      clear hb
      go_wp2_with fail
      exact ⟨⟨i+1,by omega,by go_num,HT2,HM1⟩,by simp [intOf];omega⟩
    · have HT2:Hid (idxF L s=some i):=hiD (idxF_more (i:=i+1) (by rw [HT.out];simp only [hb];rfl))
      clear hb
      go_wp2_with fail
      go_ret
      refine ⟨?_,HM1.out⟩
      rw [HT2.out]
      rfl
  · obtain rfl:i=n:=by omega
    have hpi:¬ (i:Int)<(i:Int):=by omega
    have HT2:Hid (idxF L s=none):=hiD (by
        have:=HI.out
        rw [HN.out,List.take_length] at this
        exact this)
    go_wp2_with fail
    go_ret
    refine ⟨?_,HM.out⟩
    rw [HT2.out]
    rfl
set_option maxRecDepth 100000 in
set_option maxHeartbeats 1000000 in
theorem index_main (L:List Fn) (S:Nat→Prop) (v:Value) (W:World) (hL:FsAt W S v L) :
 Calls Tryz.prog 65 #[v,.func (.func 42) #[] #[]] W fun e w=>e=.returned (.int .i64 (optI (idxM L)))∧Mods None W w:=by
 obtain ⟨a,n,c,rfl,hn,hnc,hcm,h0,hcell⟩:=hL
 have HN:=hiD hn
 have HC:=hiD (fun (w:World) (hm:Mods None W w) (i:Nat) (hi:i<n)=>(by
  have hi2:i<L.length:=by omega
  obtain ⟨g,o,p,q,vq,e1,e2,e3,e4,e5,e6,e7,e8,e9⟩:=hcell i L[i] (List.getElem?_eq_getElem hi2)
  obtain ⟨pa,pc,rfl,_⟩:=ownsRow_slice e7.1
  obtain ⟨qa,qn,qc,rfl⟩:=e8.form
  exact ⟨L[i],g,o,pa,L[i].params.length,pc,qa,qn,qc,rfl,e1,List.getElem?_eq_getElem hi2,hm.cellOf e3 (fun f=>f),hm.cellOf e4 (fun f=>f),hm.cellOf e5 (fun f=>f),hm.cellOf e6 (fun f=>f)⟩:∃ x g o pa pn pc qa qn qc,isMain x.name pn=mainB x∧a=some ⟨g,o,none⟩∧L[i]?=some x∧w.cell? ⟨g,o+i*4,none⟩=some (str x.name)∧w.cell? ⟨g,o+i*4+1,none⟩=some (.int .i64 x.at_)∧w.cell? ⟨g,o+i*4+2,none⟩=some (.slice pa pn pc)∧w.cell? ⟨g,o+i*4+3,none⟩=some (.slice qa qn qc)))
 unfold maxLen at hcm
 clear hn hcell
 unfold str at *
 go_enter Tryz.func65,Tryz.ntmps65
 go_wp2_with fail
 go_loopw [5,8] (fun _ iv wr=>∃ i:Nat,i≤n∧iv=.int .i64 i∧Hid (idxM (L.take i)=none)∧Hid (Mods None W wr)) (fun _ iv _=>(n-intOf iv).toNat)
 case atStart=>exact ⟨0,Nat.zero_le _,rfl,hiD (by simp [idxM]),hiD (Mods.refl _ _)⟩
 case round =>
  obtain ⟨i,hi,rfl,HI,HM⟩:=hrel
  by_cases hlt:i<n
  · obtain ⟨x,gg,o,pa,pn,pc,qa,qn,qc,hmb,rfl,hx,c1,c2,c3,c4⟩:=HC.out wr HM.out i hlt
    have hpi:(i:Int)<(n:Int):=by omega
    have HT:=hiD (idxM_take HI.out hx)
    have he:=eq_main x.name x.at_ pa qa pn pc qn qc wr
    rw [hmb] at he
    have HE:=hiD he
    clear he
    clear hx hmb
    unfold str at *
    go_wp2_with fail
    go_at_call 42
    refine HE.out.mono ?_
    rintro e w1 ⟨rfl,hm1⟩
    have HM1:=hiD (HM.out.trans hm1)
    clear hm1
    rcases hb:mainB x with _|_
    · have HT2:Hid (idxM (L.take (i+1))=none):=hiD (by rw [HT.out];simp only [hb];rfl)
      clear hb
      go_wp2_with fail
      exact ⟨⟨i+1,by omega,by go_num,HT2,HM1⟩,by simp [intOf];omega⟩
    · have HT2:Hid (idxM L=some i):=hiD (idxM_more (i:=i+1) (by rw [HT.out];simp only [hb];rfl))
      clear hb
      go_wp2_with fail
      go_ret
      refine ⟨?_,HM1.out⟩
      rw [HT2.out]
      rfl
  · obtain rfl:i=n:=by omega
    have hpi:¬ (i:Int)<(i:Int):=by omega
    have HT2:Hid (idxM L=none):=hiD (by
        have:=HI.out
        rw [HN.out,List.take_length] at this
        exact this)
    go_wp2_with fail
    go_ret
    refine ⟨?_,HM.out⟩
    rw [HT2.out]
    rfl
set_option maxRecDepth 100000 in
theorem has_twin (s:List UInt8) (L:List Fn) (S:Nat→Prop) (v:Value) (q:Nat) (W:World) (hq:W.cell? ⟨q,0,none⟩=some (str s)) (hL:FsAt W S v L) :
 Calls Tryz.prog 37 #[v,.func (.func 38) #[] #[.pointer (some ⟨q,0,none⟩)]] W fun e w=>e=.returned (.bool (L.any (fun g=>g.name==s)))∧Mods None W w:=by
 have HI:=hiD (index_twin s L S v q W hq hL)
 rw [← idxF_any L s]
 clear hL hq
 generalize idxF L s=o at HI ⊢
 go_enter Tryz.func37,Tryz.ntmps37
 go_wp2_with fail
 go_at_call 65
 refine HI.out.mono ?_
 rintro e w2 ⟨rfl,hm2⟩
 cases o with
 | none =>
   simp only [optI,Option.isSome_none]
   go_wp2_with fail
   go_ret
   exact ⟨rfl,hm2⟩
 | some i =>
   simp only [optI,Option.isSome_some]
   have hi:(decide ((0:Int)≤(i:Int)))=true:=by simp
   go_wp2_with fail
   go_ret
   refine ⟨?_,hm2⟩
   first|rfl|(simp)
set_option maxRecDepth 100000 in
theorem has_main  (L:List Fn) (S:Nat→Prop) (v:Value) (W:World) (hL:FsAt W S v L) :
 Calls Tryz.prog 37 #[v,.func (.func 42) #[] #[]] W fun e w=>e=.returned (.bool (L.any mainB))∧Mods None W w:=by
 have HI:=hiD (index_main L S v W hL)
 rw [← idxM_any L]
 clear hL
 generalize idxM L=o at HI ⊢
 go_enter Tryz.func37,Tryz.ntmps37
 go_wp2_with fail
 go_at_call 65
 refine HI.out.mono ?_
 rintro e w2 ⟨rfl,hm2⟩
 cases o with
 | none =>
   simp only [optI,Option.isSome_none]
   go_wp2_with fail
   go_ret
   exact ⟨rfl,hm2⟩
 | some i =>
   simp only [optI,Option.isSome_some]
   have hi:(decide ((0:Int)≤(i:Int)))=true:=by simp
   go_wp2_with fail
   go_ret
   refine ⟨?_,hm2⟩
   first|rfl|(simp)
theorem FnAt.len4 {W:World} {S:Nat→Prop} {x:Fn} {cs:List Value} (h:FnAt W S x cs):cs.length=4:=by
 obtain ⟨p,q,vq,rfl,_⟩:=h
 rfl
theorem FnsAt.get {W:World} {S:Nat→Prop}:{l:List Fn}→{vs:List Value}→FnsAt W S l vs→(i:Nat)→(x:Fn)→l[i]?=some x→∃ cs,FnAt W S x cs∧∀ j,j<4→vs[i*4+j]?=cs[j]?
 | [],vs,h,i,x,hx=>by simp at hx
 | a::l,vs,h,i,x,hx=>by
   obtain ⟨cs,r,rfl,h1,h2⟩:=h
   have h4:=h1.len4
   cases i with
   | zero =>
     simp only [List.getElem?_cons_zero,Option.some.injEq] at hx
     subst hx
     refine ⟨cs,h1,fun j hj=>?_⟩
     rw [List.getElem?_append_left (by omega)]
     congr 1
     omega
   | succ i =>
     obtain ⟨ds,h3,h5⟩:=FnsAt.get h2 i x (by simpa using hx)
     refine ⟨ds,h3,fun j hj=>?_⟩
     rw [List.getElem?_append_right (by omega),h4,← h5 j hj]
     congr 1
     omega
theorem fs_of_row {W:World} {S:Nat→Prop} {B:Nat} {v:Value} {l:List Fn} {vs:List Value} (h:W.ownsRow B 84 4 v l.length vs) (hf:FnsAt W S l vs) (hS:∀ k,v.ownBlock=some k→¬ S k):FsAt W S v l:=by
 rcases h.2 with ⟨rfl,h0⟩|⟨g,cap,cur,rfl,_,hg,h3,h4,_⟩
 · have hl:l=[]:=List.eq_nil_of_length_eq_zero h0
   subst hl
   exact ⟨none,0,0,rfl,rfl,Nat.le_refl _,by decide,fun _=>rfl,fun i p hp=>by simp at hp⟩
 · have hc:=h.cells (g:=g) rfl
   refine ⟨some ⟨g,0,none⟩,l.length,cap,rfl,rfl,h3,h4,(fun h=>by cases h),fun i x hx=>?_⟩
   obtain ⟨cs,h5,h6⟩:=hf.get i x hx
   obtain ⟨p,q,vq,rfl,h7,h8,h9⟩:=h5
   have e0:=hc _ _ (h6 0 (by omega))
   have e1:=hc _ _ (h6 1 (by omega))
   have e2:=hc _ _ (h6 2 (by omega))
   have e3:=hc _ _ (h6 3 (by omega))
   refine ⟨g,0,p,q,vq,rfl,hS g rfl,?_,?_,?_,?_,h7,h8,h9⟩
   · simpa [Addr.add_lit] using e0
   · simpa [Addr.add_lit] using e1
   · simpa [Addr.add_lit] using e2
   · simpa [Addr.add_lit] using e3
end Go.Proofs.YtnicpmoanjddbaaGreatDoor.TreeP

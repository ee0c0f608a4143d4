/- The document's checker: blocks. Printed by mkrckb.py. Conditions: that Fine lies; that no two functions have one name. The document's Check. Conditions: the functions, and Fine, lie; names are short; parameters are numbers or arrays. -/
import Derived.Test.YtdgedlhefjmcpaaGreatDoorEn21
import Derived.Test.YtdgedlhefjmcpaaGreatDoorEn20
import Derived.Test.YtdgedlhefjmcpaaGreatDoorEn22
import Derived.Test.YtdgedlhefjmcpaaGreatDoorEn18
namespace Go.Proofs.YtdgedlhefjmcpaaGreatDoor.TreeP.R
open Go.RowKit Go.Proofs.YtdgedlhefjmcpaaGreatDoor.Wo Go.Proofs.YtdgedlhefjmcpaaGreatDoor.TreeP
set_option linter.unusedVariables false
set_option linter.unusedSimpArgs false
theorem ck_neq (w:World):(Go.binOp .neq 40 (.agg #[.int .i64 0,.int .i64 (-1)]) (.agg #[.int .i64 0,.int .i64 (-1)])).run Tryz.prog w=.ok (.bool false) w:=by kernel_rfl
def Bq (W:World) (b:Nat) (L:List Fn) (lo:Nat):CK (Nm×Nat)→Prop
 | .ok (N,m)=>Ck W b L N m 0 (-1)∧lo≤m∧m≤12∧NmOk N
 | .error (n,a)=>∃ N m,Ck W b L N m n a∧badN n∧lo≤m∧m≤1000000
theorem Bq.lt {W:World} {b lo:Nat} {L:List Fn} {z:CK (Nm×Nat)} (h:Bq W b L lo z):b<W.heap.size:=by
 cases z with
 | ok y=>exact h.1.lt
 | error e=>obtain ⟨N,m,h1,h2⟩:=h;exact h1.lt
theorem bq_mz {W:World} {b lo m:Nat} {L:List Fn} {N:Nm} {z:CK Unit} (h:Mz W b L N m z) (hl:lo≤m) (hm:m≤12) (hN:NmOk N):Bq W b L lo (bindK z fun _=>.ok (N,m)):=by
 cases z with
 | ok y=>exact ⟨h,hl,hm,hN⟩
 | error e=>exact ⟨N,m,h.1,h.2,hl,by omega⟩
theorem bq_add {W:World} {b lo m:Nat} {L:List Fn} {N:Nm} {r:CK Int} {t:Int} {s:List UInt8} {a:Int} (h:Mz W b L (N++[(s,t)]) (m+1) (bindK (bindK r fun _=>(.ok ():CK Unit)) fun _=>addU N m s a)) (ht:∀ t',r=.ok t'→t=t') (h12:∀ t',r=.ok t'→t'=1∨t'=2) (hl:lo≤m) (hm:m≤12) (hN:NmOk N):Bq W b L lo (bindK r fun t=>addN N m (s,t) a):=by
 cases r with
 | error e=>exact ⟨_,_,h.1,h.2,by omega,by omega⟩
 | ok t' =>
  obtain rfl:=ht t' rfl
  simp only [bindK] at h ⊢
  rw [addN_U hm]
  have hu:∀ u,addU N m s a=.ok u→m+1≤12:=by
   intro u hu
   unfold addU at hu
   split at hu
   ·cases hu
   ·split at hu
    ·cases hu
    ·omega
  cases hz:addU N m s a with
  | error e=>rw [hz] at h;exact ⟨_,_,h.1,h.2,by omega,by omega⟩
  | ok u=>rw [hz] at h;exact ⟨h,by omega,hu u hz,hN.add (h12 t rfl)⟩
def BkC (L:List Fn) (l:List St):Prop:=∀ (b lo:Nat) (z:CK (Nm×Nat)) (v:Value) (vs:List Value) (W:World),Bq W b L lo z→RowAt W (·=b) 143 7 v l.length vs→StsAt W (·=b) l vs →
 Calls Tryz.prog 58 #[.pointer (some ⟨b,0,none⟩),v] W fun e w=>e=.returned (.tuple #[])∧Bq w b L lo (bindK z fun y=>blockK L y.1 y.2 l)∧Mods (·=b) W w
theorem bq_back {W wr:World} {b lo m0:Nat} {L:List Fn} {z0:CK (Nm×Nat)} {fv0 nv0:Value} {N0 N:Nm} {m:Nat} {n a n0 a0:Int} (hnv:NmAt W (·=b) nv0 N0) (hnil:∀ k c,nv0=.slice none k c→c=0) (hl0:N0.length≤m0) (hc:Ck wr b L N m n a) (hm:m0≤m) (hM:Mods (·=b) W wr) :
  Ck (wr.setCell ⟨b,1,none⟩ nv0) b L N0 m n a:=by
 obtain ⟨⟨fv,nv,h1,h2,h3,h4⟩,h5,h6,h7⟩:=hc
 have hMs:Mods (·=b) wr (wr.setCell ⟨b,1,none⟩ nv0):=mods_put wr b 1 _
 exact ⟨⟨fv,nv0,blk_put h1 1 nv0 rfl,h2.mods hMs (fun _ _ k=>k),hnv.mods (hM.trans hMs) (fun _ _ k=>k),hnil⟩,by omega,h6,h7.far hMs (fun k hk=>Nat.le_of_eq hk.symm)⟩
theorem Bq.at_ {W:World} {b lo:Nat} {L:List Fn} {z:CK (Nm×Nat)} (h:Bq W b L lo z):∃ N m n a,Ck W b L N m n a∧lo≤m∧Bq W b L m z∧(∀ y,z=.ok y→y=(N,m)∧NmOk N∧n=0∧a=-1)∧(∀ e,z=.error e→badN n∧e=(n,a))∧m≤1000000:=by
 cases z with
 | ok y=>obtain ⟨N,m⟩:=y;obtain ⟨h1,h2,h3,h4⟩:=h;exact ⟨N,m,0,-1,h1,h2,⟨h1,Nat.le_refl _,h3,h4⟩,(fun y hy=>by cases hy;exact ⟨rfl,h4,rfl,rfl⟩),(fun e he=>by cases he),by omega⟩
 | error e=>obtain ⟨n,a⟩:=e;obtain ⟨N,m,h1,h2,h3,h4⟩:=h;exact ⟨N,m,n,a,h1,h3,⟨N,m,h1,h2,Nat.le_refl _,h4⟩,(fun y hy=>by cases hy),(fun e he=>by cases he;exact ⟨h2,rfl⟩),h4⟩
theorem blockK_end {L:List Fn} {l:List St} (z:CK (Nm×Nat)):(∀ e,(bindK z fun y=>stmtsK L y.1 y.2 l)=.error e→(bindK z fun y=>blockK L y.1 y.2 l)=.error e)∧∀ x,(bindK z fun y=>stmtsK L y.1 y.2 l)=.ok x→∃ y,z=.ok y∧(bindK z fun y=>blockK L y.1 y.2 l)=.ok (y.1,x.2):=by
 cases z with
 | error e=>exact ⟨fun e' h=>h,fun x h=>by cases h⟩
 | ok y =>
  simp only [bindK,blockK]
  refine ⟨fun e h=>by rw [h],fun x h=>⟨y,rfl,by rw [h]⟩⟩
def RestV (L:List Fn) (w:World) (S:Nat→Prop) (s:St) (cs:List Value):Prop:=∃ (code a:Int) (v:Ex) (t e:List St) (x p q:Value) (vp vq:List Value),(code=4∨code=5∨code=6∨code=7∨code=8)∧cs=cells7 code a [] nilP x p q∧ExAt w S v x∧RowAt w S 143 7 p t.length vp∧StsAt w S t vp∧RowAt w S 143 7 q e.length vq∧StsAt w S e vq∧BkC L t∧BkC L e∧∀ N m,stmtK L N m s=restK L N m v t e
def InB (L:List Fn):St→Prop
 | .cond _ _ t e=>BkC L t∧BkC L e
 | .loop _ _ t=>BkC L t
 | _=>True
theorem blockK_nil' (L:List Fn) (N:Nm) (m:Nat):blockK L N m []=.ok (N,m):=by simp only [blockK,stmtsK,bindK]
theorem rest_nil' {L:List Fn} {N:Nm} {m:Nat} {v:Ex} {r:CK (Nm×Nat)} (h:r=bindK (wantK L N v 1) (fun _=>.ok (N,m))):r=restK L N m v [] []:=by
 rw [h]
 unfold restK
 simp only [blockK_nil']
 rfl
theorem sts_nil' (W:World) (S:Nat→Prop):StsAt W S [] []:=by simp only [StsAt]
theorem st_view {L:List Fn} (hnil:BkC L []) {w:World} {S:Nat→Prop} {s:St} {cs:List Value} (hI:InB L s) (h:StAt w S s cs) :
  (∃ a nm v x,s=.var a nm v∧cs=cells7 1 a nm nilP x nilS nilS∧ExAt w S v x)∨(∃ a nm v x,s=.set a nm v∧cs=cells7 2 a nm nilP x nilS nilS∧ExAt w S v x)∨(∃ a nm i v y x,s=.put a nm i v∧cs=cells7 3 a nm y x nilS nilS∧ExAt w S i y∧ExAt w S v x)∨RestV L w S s cs:=by
 cases s <;> simp only [StAt] at h
 case var a nm v=>obtain ⟨x,rfl,hx⟩:=h;exact Or.inl ⟨a,nm,v,x,rfl,rfl,hx⟩
 case set a nm v=>obtain ⟨x,rfl,hx⟩:=h;exact Or.inr (Or.inl ⟨a,nm,v,x,rfl,rfl,hx⟩)
 case put a nm i v=>obtain ⟨y,x,rfl,hy,hx⟩:=h;exact Or.inr (Or.inr (Or.inl ⟨a,nm,i,v,y,x,rfl,rfl,hy,hx⟩))
 case cond a v t e =>
  obtain ⟨x,p,vp,q,vq,rfl,hx,h1,h2,h3,h4⟩:=h
  exact Or.inr (Or.inr (Or.inr ⟨4,a,v,t,e,x,p,q,vp,vq,by simp,rfl,hx,h1,h2,h3,h4,hI.1,hI.2,fun N m=>by simp only [stmtK,restK,blockK,bindK_assoc];rfl⟩))
 case loop a v t =>
  obtain ⟨x,p,vp,rfl,hx,h1,h2⟩:=h
  exact Or.inr (Or.inr (Or.inr ⟨5,a,v,t,[],x,p,nilS,vp,[],by simp,rfl,hx,h1,h2,row_nil _ _ _ _,sts_nil' _ _,hI,hnil,fun N m=>by simp only [stmtK,restK,blockK_nil'];simp only [blockK,bindK_assoc];rfl⟩))
 case ret a v =>
  obtain ⟨x,rfl,hx⟩:=h
  exact Or.inr (Or.inr (Or.inr ⟨6,a,v,[],[],x,nilS,nilS,[],[],by simp,rfl,hx,row_nil _ _ _ _,sts_nil' _ _,row_nil _ _ _ _,sts_nil' _ _,hnil,hnil,fun N m=>rest_nil' (by simp only [stmtK])⟩))
 case print a v =>
  obtain ⟨x,rfl,hx⟩:=h
  exact Or.inr (Or.inr (Or.inr ⟨7,a,v,[],[],x,nilS,nilS,[],[],by simp,rfl,hx,row_nil _ _ _ _,sts_nil' _ _,row_nil _ _ _ _,sts_nil' _ _,hnil,hnil,fun N m=>rest_nil' (by simp only [stmtK])⟩))
 case call a v =>
  obtain ⟨x,rfl,hx⟩:=h
  exact Or.inr (Or.inr (Or.inr ⟨8,a,v,[],[],x,nilS,nilS,[],[],by simp,rfl,hx,row_nil _ _ _ _,sts_nil' _ _,row_nil _ _ _ _,sts_nil' _ _,hnil,hnil,fun N m=>rest_nil' (by simp only [stmtK])⟩))
set_option maxRecDepth 100000 in
set_option maxHeartbeats 1000000 in
theorem bk_nil (L:List Fn):BkC L []:=by
 intro b lo z v vs W hz hrow hst
 obtain ⟨sa,sc,rfl,hsc,hsm,hscell⟩:=ownsRow_slice hrow.1
 obtain ⟨N0,m0,n0,a0,hck,hlo,hz0,hok,herr,-⟩:=hz.at_
 have HZ:=hiD hz
 have HCK:=hiD hck
 obtain ⟨⟨fv,nv,hb,hF,hN,hnl⟩,hlen,hsmall,hfine⟩:=hck
 have HNV:=hiD (And.intro hN hnl)
 obtain ⟨na,nn,nc,rfl,-⟩:=hN
 have c1:W.cell? ⟨b,1,none⟩=some (.slice na nn nc):=hb.cell rfl
 have f1:W.frozen? ⟨b,1,none⟩=false:=hb.free 1
 have HL:=hiD hlen
 have HE:=hiD (And.intro hok herr)
 have HLO:=hiD (And.intro hlo hz0)
 unfold maxLen at hsm
 clear hz hb hF hlen hsmall hfine hrow hst hscell hok herr hlo hz0 hnl
 simp only [List.length_nil] at hsc
 go_enter Tryz.func58,Tryz.ntmps58
 go_wp2_with fail
 go_loopw [16] (fun iv wr=>iv=.int .i64 0∧Hid (W=wr)) (fun _ _=>0)
 case atStart=>exact ⟨rfl,hiD rfl⟩
 case round =>
  obtain ⟨rfl,hw⟩:=hrel
  obtain rfl:=hw.out
  clear hw
  go_wp2_with fail
  go_end0
  have hMs:Mods (·=b) W (W.setCell ⟨b,1,none⟩ (.slice na nn nc)):=mods_put W b 1 _
  have hback:=bq_back (lo:=0) (z0:=z) (fv0:=.nilIface) (n0:=0) (a0:=0) HNV.out.1 HNV.out.2 HL.out HCK.out (Nat.le_refl _) (Mods.refl _ W)
  refine ⟨rfl,?_,hMs⟩
  have hzb:(bindK z fun y=>blockK L y.1 y.2 [])=z:=by
   cases z with
   | ok y=>simp only [bindK,blockK_nil']
   | error e=>rfl
  rw [hzb]
  cases z with
  | ok y =>
   obtain ⟨e1,h4,rfl,rfl⟩:=HE.out.1 y rfl
   subst e1
   have:=HZ.out
   exact ⟨hback,this.2.1,this.2.2.1,h4⟩
  | error e =>
   obtain ⟨h1,rfl⟩:=HE.out.2 e rfl
   obtain ⟨N',m',k1,k2,k3,k4⟩:=HLO.out.2
   exact ⟨_,_,hback,h1,HLO.out.1,by omega⟩
set_option maxRecDepth 100000 in
set_option maxHeartbeats 16000000 in
theorem block_r {L:List Fn} (hU:Apart L) (l:List St) (hI:∀ s∈l,InB L s):BkC L l:=by
 intro b lo z v vs W hz hrow hst
 obtain ⟨rF,hrF⟩:∃ r,r=(bindK z fun y=>blockK L y.1 y.2 l):=⟨_,rfl⟩
 obtain ⟨r0,hr0⟩:∃ r,r=(bindK z fun y=>stmtsK L y.1 y.2 l):=⟨_,rfl⟩
 have hend:=blockK_end (L:=L) (l:=l) z
 rw [← hrF,← hr0] at hend
 rw [← hrF]
 have HEND:=hiD hend
 have HX:Hid ((bindK z fun y=>stmtsK L y.1 y.2 (l.drop 0))=r0):=hiD hr0.symm
 have HST:=hiD (fun (w:World) (hm:Mods (·=b) W w)=>(StsAt.modsTo hm (fun _ _ k=>k) _ _ hst:StsAt w (·=b) l vs))
 obtain ⟨sa,sc,rfl,hsc,hsm,hscell⟩:=ownsRow_slice hrow.1
 have HCL:=hiD (fun (w:World) (hm:Mods (·=b) W w) (i:Nat) (hi:i<l.length)=>(by
  obtain ⟨cs,h1,h2⟩:=(HST.out w hm).get i l[i] (List.getElem?_eq_getElem hi)
  have h7:=h1.len7
  have cell:∀ j u,j<7→cs[j]?=some u→∃ g,sa=some ⟨g,0,none⟩∧w.cell? ⟨g,i*7+j,none⟩=some u:=by
   intro j u hj hu
   obtain ⟨g,e1,e2,e3⟩:=hscell (i*7+j) u (by rw [h2 j hj];exact hu)
   exact ⟨g,e1,hm.cellOf e3 (hrow.2 g e2)⟩
  obtain ⟨g,e0,k0⟩:=cell 0 cs[0] (by omega) (List.getElem?_eq_getElem _)
  refine ⟨g,cs,e0,?_,h1⟩
  intro j u hj hu
  obtain ⟨g',e1,e2⟩:=cell j u hj hu
  rw [e0] at e1
  obtain rfl:g=g':=by simpa using e1
  exact e2 :
  ∃ g cs,sa=some ⟨g,0,none⟩∧(∀ j u,j<7→cs[j]?=some u→w.cell? ⟨g,i*7+j,none⟩=some u)∧StAt w (·=b) l[i] cs))
 obtain ⟨N0,m0,n0,a0,hck,hlo,hz0,hok,herr,-⟩:=hz.at_
 obtain ⟨⟨fv,nv,hb,hF,hN,hnl⟩,hlen,hsmall,hfine⟩:=hck
 have HNV:=hiD (And.intro hN hnl)
 obtain ⟨na,nn,nc,rfl,-⟩:=hN
 have c1:W.cell? ⟨b,1,none⟩=some (.slice na nn nc):=hb.cell rfl
 have HL:=hiD hlen
 have HLO:=hiD hlo
 have HOK:=hiD hok
 have HZ:Hid (Bq W b L m0 z):=hiD hz0
 have HM:=hiD (Mods.refl (·=b) W)
 obtain ⟨n,hn⟩:∃ n,n=l.length:=⟨_,rfl⟩
 have HN1:=hiD hn
 have HIN:=hiD (fun (i:Nat) (hi:i<l.length)=>hI l[i] (List.getElem_mem hi))
 have HUA:=hiD hU
 rw [← hn] at hsc
 unfold maxLen at hsm
 rw [← hn]
 clear hz hb hF hlen hsmall hfine hrow hst hscell hok herr hlo hz0 hnl hrF hr0 hend hI hU hn
 go_enter Tryz.func58,Tryz.ntmps58
 go_wp2_with fail
 go_loopw [16] (fun iv wr=>∃ (i:Nat) (z':CK (Nm×Nat)),i≤n∧iv=.int .i64 i∧Hid (Bq wr b L m0 z')∧Hid ((bindK z' fun y=>stmtsK L y.1 y.2 (l.drop i))=r0)∧Hid (Mods (·=b) W wr)) (fun iv _=>(n-intOf iv).toNat)
 case atStart=>exact ⟨0,z,Nat.zero_le _,rfl,HZ,HX,HM⟩
 case round =>
  clear HX HM HZ c1
  obtain ⟨i,z',hi,rfl,HZ,HX,HM⟩:=hrel
  by_cases hlt:i<n
  ·have hil:i<l.length:=by have:=HN1.out;omega
   obtain ⟨g,cs,rfl,hcells,hs⟩:=HCL.out wr HM.out i hil
   have hpi:(i:Int)<(n:Int):=by omega
   have hblr:=HZ.out.lt
   have hgl:∀ v,wr.cell? ⟨g,i*7,none⟩=some v→g≠wr.heap.size:=fun v hv=>by have:=World.block_lt_of_cell? wr _ hv;simp only at this;omega
   cases z' with
   | error q =>
    obtain ⟨qn,qa⟩:=q
    obtain ⟨N',m',hck,hbn,hlm,h13⟩:=HZ.out
    obtain ⟨code,ca,name,p,q,oa,on,oc,ob,om,od,rfl⟩:=hs.shape
    have k0:wr.cell? ⟨g,i*7,none⟩=some _:=hcells 0 _ (by omega) rfl
    have k1:=hcells 1 _ (by omega) rfl
    have k2:=hcells 2 _ (by omega) rfl
    have k3:=hcells 3 _ (by omega) rfl
    have k4:=hcells 4 _ (by omega) rfl
    have k5:=hcells 5 _ (by omega) rfl
    have k6:=hcells 6 _ (by omega) rfl
    obtain ⟨W1,hW1⟩:∃ W1,W1=wr.alloc (.cells #[.int .i64 code,.int .i64 ca,.string name,.pointer p,.pointer q,.slice oa on oc,.slice ob om od] 143):=⟨_,rfl⟩
    have HMA:Hid (Mods None wr W1):=hiD (by rw [hW1];exact (Mods.refl _ _).alloc _)
    have HC1:=hiD (hck.mods HMA.out)
    obtain rfl:r0=.error (qn,qa):=HX.out.symm
    obtain rfl:rF=.error (qn,qa):=HEND.out.1 _ rfl
    have HB13:=hiD (And.intro hbn (And.intro hlm h13))
    have hne:=neq_bad hbn qa
    clear hs hcells hck hbn hlm h13 HX HEND hgl
    go_wp2_with fail
    rw [← hW1]
    clear hW1 k0 k1 k2 k3 k4 k5 k6
    obtain ⟨g1,g2,d1,d2⟩:=ck_old HC1.out
    go_quiet (fail)
    go_wp2_with fail
    refine bodyPost_ret (results_none rfl _ _ _) rfl ?_
    exact ⟨rfl,⟨N',m',HC1.out.mods ((Mods.refl _ _).drewN _),HB13.out.1,by have:=HLO.out;have:=HB13.out.2.1;omega,HB13.out.2.2⟩,(HM.out.trans (HMA.out.mono fun _ _ f=>f.elim)).drewN _⟩
   | ok y =>
    obtain ⟨N',m'⟩:=y
    obtain ⟨hck,hlm,h12,hNok⟩:=HZ.out
    have HX2:Hid (bindK (stmtK L N' m' l[i]) (fun x=>stmtsK L x.1 x.2 (l.drop (i+1)))=r0):=hiD (by
     rw [← HX.out,List.drop_eq_getElem_cons hil]
     simp only [bindK,stmtsK])
    have HNK:=hiD (And.intro hNok (And.intro hlm h12))
    have HCK:=hiD hck
    have hv:=st_view (bk_nil L) (HIN.out i hil) hs
    clear hs HX HZ hck hNok hlm h12
    have heq:=ck_neq
    rcases hv with ⟨ca,nm,v,x,hsv,rfl,hx⟩|⟨ca,nm,v,x,hsv,rfl,hx⟩|⟨ca,nm,iy,v,y,x,hsv,rfl,hy,hx⟩|⟨code,ca,v,t,e,x,p,q,vp,vq,hcode,rfl,hx,hp1,hp2,hq1,hq2,hbt,hbe,hsv⟩
    ·obtain ⟨xg,rfl⟩:=hx.ptr
     have hz:=hcells
     unfold cells7 str at hz
     try unfold nilP at hz
     try unfold nilS at hz
     have k0:wr.cell? ⟨g,i*7,none⟩=some _:=hz 0 _ (by omega) rfl
     have k1:=hz 1 _ (by omega) rfl
     have k2:=hz 2 _ (by omega) rfl
     have k3:=hz 3 _ (by omega) rfl
     have k4:=hz 4 _ (by omega) rfl
     have k5:=hz 5 _ (by omega) rfl
     have k6:=hz 6 _ (by omega) rfl
     obtain ⟨W1,hW1⟩:∃ W1,W1=wr.alloc (.cells #[.int .i64 1,.int .i64 ca,.string ⟨nm.toArray⟩,.pointer none,.pointer (some ⟨xg,0,none⟩),.slice none 0 0,.slice none 0 0] 143):=⟨_,rfl⟩
     have HMA:Hid (Mods None wr W1):=hiD (by rw [hW1];exact (Mods.refl _ _).alloc _)
     have HB1:Hid (Blk W1 wr.heap.size [.int .i64 1,.int .i64 ca,.string ⟨nm.toArray⟩,.pointer none,.pointer (some ⟨xg,0,none⟩),.slice none 0 0,.slice none 0 0] 143):=hiD (by rw [hW1];exact Blk.new wr _ _)
     have HC1:=hiD (HCK.out.mods HMA.out)
     clear hz hcells hgl
     go_wp2_with fail
     rw [← hW1]
     clear hW1 k0 k1 k2 k3 k4 k5 k6
     obtain ⟨g1,g2,d1,d2⟩:=ck_old HC1.out
     have e0:W1.cell? ⟨wr.heap.size,0,none⟩=some (.int .i64 1):=HB1.out.cell rfl
     go_quiet (fail)
     obtain ⟨w2,hw2⟩:∃ w2,w2=W1.drewN nq:=⟨_,rfl⟩
     have HM2:Hid (Mods None wr w2):=hiD (by rw [hw2];exact HMA.out.drewN _)
     have HC2:Hid (Ck w2 b L N' m' 0 (-1)):=hiD (HCK.out.mods HM2.out)
     have HB2:Hid (Blk w2 wr.heap.size [.int .i64 1,.int .i64 ca,.string ⟨nm.toArray⟩,.pointer none,.pointer (some ⟨xg,0,none⟩),.slice none 0 0,.slice none 0 0] 143):=hiD (HB1.out.mods (S:=None) (by rw [hw2];exact (Mods.refl _ _).drewN _) (fun f=>f))
     rw [← hw2]
     clear hw2 g1 g2 d1 d2 e0 HB1 HC1 HMA heq
     have HK:=hiD (kx_all HUA.out N' v b m' _ w2 HC2.out (ExAt.modsTo (HM2.out.mono fun _ _ f=>f.elim) (fun _ _ k=>k) _ _ hx))
     have HX3:Hid (bindK (bindK (exprK L N' v) fun t=>addN N' m' (nm,t) ca) (fun x=>stmtsK L x.1 x.2 (l.drop (i+1)))=r0):=hiD (by rw [← HX2.out,hsv];simp only [stmtK])
     have b4:w2.cell? ⟨wr.heap.size,4,none⟩=some (.pointer (some ⟨xg,0,none⟩)):=HB2.out.cell rfl
     have b0:w2.cell? ⟨wr.heap.size,0,none⟩=some (.int .i64 1):=HB2.out.cell rfl
     clear hx hsv HX2
     go_wp2_with fail
     go_at_call 90
     refine HK.out.mono ?_
     rintro e w3 ⟨⟨t,rfl,ht⟩,hz3,hm3⟩
     have HT:=hiD ht
     have HB3:=hiD (HB2.out.mods hm3 (by omega))
     have HM3:Hid (Mods (·=b) wr w3):=hiD ((HM2.out.mono fun _ _ f=>f.elim).trans hm3)
     have HZ3:Hid (Mz w3 b L N' m' (bindK (exprK L N' v) fun _=>(.ok ():CK Unit))):=hiD (by
      cases hr:exprK L N' v with
      | ok t'=>rw [hr] at hz3;exact hz3
      | error q=>rw [hr] at hz3;exact hz3)
     have hf0:0≤findN N' nm:=by have:=HNK.out.1.find nm;omega
     have HADD:=hiD (radd_any b L N' m' nm t ca w3 _ HZ3.out (by have:=HNK.out.2.2;omega) hf0)
     have e1:w3.cell? ⟨wr.heap.size,1,none⟩=some (.int .i64 ca):=HB3.out.cell rfl
     have e2:w3.cell? ⟨wr.heap.size,2,none⟩=some (.string ⟨nm.toArray⟩):=HB3.out.cell rfl
     unfold str at HADD
     clear ht hz3 hm3 hf0 HK b0 b4 HB2
     go_wp2_with fail
     go_at_call 57
     refine HADD.out.mono ?_
     rintro e w4 ⟨rfl,hz4,hm4⟩
     have HBQ:Hid (Bq w4 b L m0 (bindK (exprK L N' v) fun t=>addN N' m' (nm,t) ca)):=hiD (bq_add hz4 HT.out (fun t' h=>exprK_12 HNK.out.1 h) HNK.out.2.1 HNK.out.2.2 HNK.out.1)
     have HMZ:Hid (Mods (·=b) W w4):=hiD (HM.out.trans (HM3.out.trans hm4))
     clear hz4 hm4 HADD e1 e2 HB3 HZ3
     go_wp2_with fail
     exact ⟨⟨i+1,_,by omega,by go_num,HBQ,HX3,HMZ⟩,by simp [intOf];omega⟩
    ·obtain ⟨xg,rfl⟩:=hx.ptr
     have hz:=hcells
     unfold cells7 str at hz
     try unfold nilP at hz
     try unfold nilS at hz
     have k0:wr.cell? ⟨g,i*7,none⟩=some _:=hz 0 _ (by omega) rfl
     have k1:=hz 1 _ (by omega) rfl
     have k2:=hz 2 _ (by omega) rfl
     have k3:=hz 3 _ (by omega) rfl
     have k4:=hz 4 _ (by omega) rfl
     have k5:=hz 5 _ (by omega) rfl
     have k6:=hz 6 _ (by omega) rfl
     obtain ⟨W1,hW1⟩:∃ W1,W1=wr.alloc (.cells #[.int .i64 2,.int .i64 ca,.string ⟨nm.toArray⟩,.pointer none,.pointer (some ⟨xg,0,none⟩),.slice none 0 0,.slice none 0 0] 143):=⟨_,rfl⟩
     have HMA:Hid (Mods None wr W1):=hiD (by rw [hW1];exact (Mods.refl _ _).alloc _)
     have HB1:Hid (Blk W1 wr.heap.size [.int .i64 2,.int .i64 ca,.string ⟨nm.toArray⟩,.pointer none,.pointer (some ⟨xg,0,none⟩),.slice none 0 0,.slice none 0 0] 143):=hiD (by rw [hW1];exact Blk.new wr _ _)
     have HC1:=hiD (HCK.out.mods HMA.out)
     clear hz hcells hgl
     go_wp2_with fail
     rw [← hW1]
     clear hW1 k0 k1 k2 k3 k4 k5 k6
     obtain ⟨g1,g2,d1,d2⟩:=ck_old HC1.out
     have e0:W1.cell? ⟨wr.heap.size,0,none⟩=some (.int .i64 2):=HB1.out.cell rfl
     go_quiet (fail)
     obtain ⟨w2,hw2⟩:∃ w2,w2=W1.drewN nq:=⟨_,rfl⟩
     have HM2:Hid (Mods None wr w2):=hiD (by rw [hw2];exact HMA.out.drewN _)
     have HC2:Hid (Ck w2 b L N' m' 0 (-1)):=hiD (HCK.out.mods HM2.out)
     have HB2:Hid (Blk w2 wr.heap.size [.int .i64 2,.int .i64 ca,.string ⟨nm.toArray⟩,.pointer none,.pointer (some ⟨xg,0,none⟩),.slice none 0 0,.slice none 0 0] 143):=hiD (HB1.out.mods (S:=None) (by rw [hw2];exact (Mods.refl _ _).drewN _) (fun f=>f))
     rw [← hw2]
     clear hw2 g1 g2 d1 d2 e0 HB1 HC1 HMA heq
     have HK:=hiD (fun (z:CK Unit) (k:Int) (w:World) (hm:Mods (·=b) wr w) (hz:Mz w b L N' m' z)=>kmust_z (kx_all HUA.out N' v) b m' _ k w z hz (ExAt.modsTo hm (fun _ _ k=>k) _ _ hx))
     have HF:=hiD (cfind_any b L N' m' 0 (-1) nm w2 HC2.out)
     obtain ⟨qf,hqf⟩:∃ q,q=findN N' nm:=⟨_,rfl⟩
     have HX3:Hid (bindK (if qf=0 then .error (7,ca) else bindK (wantK L N' v qf) fun _=>.ok (N',m')) (fun x=>stmtsK L x.1 x.2 (l.drop (i+1)))=r0):=hiD (by rw [← HX2.out,hsv,hqf];simp only [stmtK])
     rw [← hqf] at HF
     unfold str at HF
     have b0:w2.cell? ⟨wr.heap.size,0,none⟩=some (.int .i64 2):=HB2.out.cell rfl
     have b2:w2.cell? ⟨wr.heap.size,2,none⟩=some (.string ⟨nm.toArray⟩):=HB2.out.cell rfl
     clear hx hsv HX2 hqf
     go_wp2_with fail
     go_at_call 88
     refine HF.out.mono ?_
     rintro e w3 ⟨rfl,hm3⟩
     have HB3:=hiD (HB2.out.mods hm3 (fun f=>f))
     have HM3:Hid (Mods (·=b) wr w3):=hiD ((HM2.out.trans hm3).mono fun _ _ f=>f.elim)
     have HC3:=hiD (HC2.out.mods hm3)
     have e1:w3.cell? ⟨wr.heap.size,1,none⟩=some (.int .i64 ca):=HB3.out.cell rfl
     have e4:w3.cell? ⟨wr.heap.size,4,none⟩=some (.pointer (some ⟨xg,0,none⟩)):=HB3.out.cell rfl
     clear hm3 HF b0 b2 HB2 HC2
     by_cases hq:qf=0
     ·subst hq
      go_wp2_with fail
      go_at_call 89
      refine (cfails_z (β:=Unit) b L N' m' 7 ca (by unfold badN;omega) w3 (.ok ():CK Unit) HC3.out).mono ?_
      rintro e w4 ⟨rfl,hz4,hm4⟩
      have HM4:=hiD (HM3.out.trans hm4)
      have e4':w4.cell? ⟨wr.heap.size,4,none⟩=some (.pointer (some ⟨xg,0,none⟩)):=hm4.cellOf e4 (show ¬ (wr.heap.size=b) by omega)
      have HCL:=hiD (HK.out (.error (7,ca)) 0 w4 HM4.out hz4)
      clear hz4 hm4 e1 e4
      go_wp2_with fail
      go_at_call 91
      refine HCL.out.mono ?_
      rintro e w5 ⟨rfl,hz5,hm5⟩
      have HBQ:Hid (Bq w5 b L m0 (if (0:Int)=0 then .error (7,ca) else bindK (wantK L N' v 0) fun _=>.ok (N',m'))):=hiD (by
       rw [if_pos rfl]
       exact bq_mz hz5 HNK.out.2.1 HNK.out.2.2 HNK.out.1)
      have HMZ:Hid (Mods (·=b) W w5):=hiD (HM.out.trans (HM4.out.trans hm5))
      clear hz5 hm5 HCL e4'
      go_wp2_with fail
      exact ⟨⟨i+1,_,by omega,by go_num,HBQ,HX3,HMZ⟩,by simp [intOf];omega⟩
     ·have hq0:(qf==0)=false:=by simpa using hq
      have HCL:=hiD (HK.out (.ok ()) qf w3 HM3.out HC3.out)
      have HQ:=hiD hq
      clear hq
      go_wp2_with fail
      go_at_call 91
      refine HCL.out.mono ?_
      rintro e w5 ⟨rfl,hz5,hm5⟩
      have HBQ:Hid (Bq w5 b L m0 (if qf=0 then .error (7,ca) else bindK (wantK L N' v qf) fun _=>.ok (N',m'))):=hiD (by
       rw [if_neg HQ.out]
       exact bq_mz hz5 HNK.out.2.1 HNK.out.2.2 HNK.out.1)
      have HMZ:Hid (Mods (·=b) W w5):=hiD (HM.out.trans (HM3.out.trans hm5))
      clear hz5 hm5 HCL e1 e4
      go_wp2_with fail
      exact ⟨⟨i+1,_,by omega,by go_num,HBQ,HX3,HMZ⟩,by simp [intOf];omega⟩
    ·obtain ⟨xg,rfl⟩:=hx.ptr
     obtain ⟨yg,rfl⟩:=hy.ptr
     have hz:=hcells
     unfold cells7 str at hz
     try unfold nilP at hz
     try unfold nilS at hz
     have k0:wr.cell? ⟨g,i*7,none⟩=some _:=hz 0 _ (by omega) rfl
     have k1:=hz 1 _ (by omega) rfl
     have k2:=hz 2 _ (by omega) rfl
     have k3:=hz 3 _ (by omega) rfl
     have k4:=hz 4 _ (by omega) rfl
     have k5:=hz 5 _ (by omega) rfl
     have k6:=hz 6 _ (by omega) rfl
     obtain ⟨W1,hW1⟩:∃ W1,W1=wr.alloc (.cells #[.int .i64 3,.int .i64 ca,.string ⟨nm.toArray⟩,.pointer (some ⟨yg,0,none⟩),.pointer (some ⟨xg,0,none⟩),.slice none 0 0,.slice none 0 0] 143):=⟨_,rfl⟩
     have HMA:Hid (Mods None wr W1):=hiD (by rw [hW1];exact (Mods.refl _ _).alloc _)
     have HB1:Hid (Blk W1 wr.heap.size [.int .i64 3,.int .i64 ca,.string ⟨nm.toArray⟩,.pointer (some ⟨yg,0,none⟩),.pointer (some ⟨xg,0,none⟩),.slice none 0 0,.slice none 0 0] 143):=hiD (by rw [hW1];exact Blk.new wr _ _)
     have HC1:=hiD (HCK.out.mods HMA.out)
     clear hz hcells hgl
     go_wp2_with fail
     rw [← hW1]
     clear hW1 k0 k1 k2 k3 k4 k5 k6
     obtain ⟨g1,g2,d1,d2⟩:=ck_old HC1.out
     have e0:W1.cell? ⟨wr.heap.size,0,none⟩=some (.int .i64 3):=HB1.out.cell rfl
     go_quiet (fail)
     obtain ⟨w2,hw2⟩:∃ w2,w2=W1.drewN nq:=⟨_,rfl⟩
     have HM2:Hid (Mods None wr w2):=hiD (by rw [hw2];exact HMA.out.drewN _)
     have HC2:Hid (Ck w2 b L N' m' 0 (-1)):=hiD (HCK.out.mods HM2.out)
     have HB2:Hid (Blk w2 wr.heap.size [.int .i64 3,.int .i64 ca,.string ⟨nm.toArray⟩,.pointer (some ⟨yg,0,none⟩),.pointer (some ⟨xg,0,none⟩),.slice none 0 0,.slice none 0 0] 143):=hiD (HB1.out.mods (S:=None) (by rw [hw2];exact (Mods.refl _ _).drewN _) (fun f=>f))
     rw [← hw2]
     clear hw2 g1 g2 d1 d2 e0 HB1 HC1 HMA heq
     have HK:=hiD (fun (z:CK Unit) (k:Int) (w:World) (hm:Mods (·=b) wr w) (hz:Mz w b L N' m' z)=>kmust_z (kx_all HUA.out N' v) b m' _ k w z hz (ExAt.modsTo hm (fun _ _ k=>k) _ _ hx))
     have HY:=hiD (fun (z:CK Unit) (k:Int) (w:World) (hm:Mods (·=b) wr w) (hz:Mz w b L N' m' z)=>kmust_z (kx_all HUA.out N' iy) b m' _ k w z hz (ExAt.modsTo hm (fun _ _ k=>k) _ _ hy))
     have HF:=hiD (cfind_any b L N' m' 0 (-1) nm w2 HC2.out)
     obtain ⟨qf,hqf⟩:∃ q,q=findN N' nm:=⟨_,rfl⟩
     have HX3:Hid (bindK (if qf=0 then .error (7,ca) else if qf≠2 then .error (1,ca) else bindK (wantK L N' iy 1) fun _=>bindK (wantK L N' v 1) fun _=>.ok (N',m')) (fun x=>stmtsK L x.1 x.2 (l.drop (i+1)))=r0):=hiD (by rw [← HX2.out,hsv,hqf];simp only [stmtK])
     rw [← hqf] at HF
     unfold str at HF
     have b0:w2.cell? ⟨wr.heap.size,0,none⟩=some (.int .i64 3):=HB2.out.cell rfl
     have b2:w2.cell? ⟨wr.heap.size,2,none⟩=some (.string ⟨nm.toArray⟩):=HB2.out.cell rfl
     clear hx hy hsv HX2 hqf
     go_wp2_with fail
     go_at_call 88
     refine HF.out.mono ?_
     rintro e w3 ⟨rfl,hm3⟩
     have HB3:=hiD (HB2.out.mods hm3 (fun f=>f))
     have HM3:Hid (Mods (·=b) wr w3):=hiD ((HM2.out.trans hm3).mono fun _ _ f=>f.elim)
     have HC3:=hiD (HC2.out.mods hm3)
     have e1:w3.cell? ⟨wr.heap.size,1,none⟩=some (.int .i64 ca):=HB3.out.cell rfl
     clear hm3 HF b0 b2 HB2 HC2
     by_cases hq:qf=0
     ·subst hq
      go_wp2_with fail
      go_at_call 89
      refine (cfails_z (β:=Unit) b L N' m' 7 ca (by unfold badN;omega) w3 (.ok ():CK Unit) HC3.out).mono ?_
      rintro e w4 ⟨rfl,hz4,hm4⟩
      have HM4:=hiD (HM3.out.trans hm4)
      have HBX:=hiD (HB3.out.mods hm4 (by omega))
      have HZ4:Hid (Mz w4 b L N' m' (.error (7,ca):CK Unit)):=hiD hz4
      clear hz4 hm4 e1 HB3
      have HCY:=hiD (HY.out (.error (7,ca)) 1 w4 HM4.out HZ4.out)
      have e3:w4.cell? ⟨wr.heap.size,3,none⟩=some (.pointer (some ⟨yg,0,none⟩)):=HBX.out.cell rfl
      go_wp2_with fail
      go_at_call 91
      refine HCY.out.mono ?_
      rintro e w5 ⟨rfl,hz5,hm5⟩
      have HM5:=hiD (HM4.out.trans hm5)
      have HB5:=hiD (HBX.out.mods hm5 (by omega))
      have HCX:=hiD (HK.out _ 1 w5 HM5.out hz5)
      have e4:w5.cell? ⟨wr.heap.size,4,none⟩=some (.pointer (some ⟨xg,0,none⟩)):=HB5.out.cell rfl
      clear hz5 hm5 HCY e3
      go_wp2_with fail
      go_at_call 91
      refine HCX.out.mono ?_
      rintro e w6 ⟨rfl,hz6,hm6⟩
      have HMZ:Hid (Mods (·=b) W w6):=hiD (HM.out.trans (HM5.out.trans hm6))
      have HBQ:Hid (Bq w6 b L m0 (if (0:Int)=0 then .error (7,ca) else if (0:Int)≠2 then .error (1,ca) else bindK (wantK L N' iy 1) fun _=>bindK (wantK L N' v 1) fun _=>.ok (N',m'))):=hiD (by
       have:=bq_mz hz6 HNK.out.2.1 HNK.out.2.2 HNK.out.1
       rw [if_pos rfl];exact this)
      clear hz6 hm6 HCX e4 HBX HB5
      go_wp2_with fail
      exact ⟨⟨i+1,_,by omega,by go_num,HBQ,HX3,HMZ⟩,by simp [intOf];omega⟩
     ·have hq0:(qf==0)=false:=by simpa using hq
      by_cases hq2:qf=2
      ·subst hq2
       have HBX:=HB3
       clear e1 hq
       have HCY:=hiD (HY.out (.ok ()) 1 w3 HM3.out HC3.out)
       have e3:w3.cell? ⟨wr.heap.size,3,none⟩=some (.pointer (some ⟨yg,0,none⟩)):=HBX.out.cell rfl
       go_wp2_with fail
       go_at_call 91
       refine HCY.out.mono ?_
       rintro e w5 ⟨rfl,hz5,hm5⟩
       have HM5:=hiD (HM3.out.trans hm5)
       have HB5:=hiD (HBX.out.mods hm5 (by omega))
       have HCX:=hiD (HK.out _ 1 w5 HM5.out hz5)
       have e4:w5.cell? ⟨wr.heap.size,4,none⟩=some (.pointer (some ⟨xg,0,none⟩)):=HB5.out.cell rfl
       clear hz5 hm5 HCY e3
       go_wp2_with fail
       go_at_call 91
       refine HCX.out.mono ?_
       rintro e w6 ⟨rfl,hz6,hm6⟩
       have HMZ:Hid (Mods (·=b) W w6):=hiD (HM.out.trans (HM5.out.trans hm6))
       have HBQ:Hid (Bq w6 b L m0 (if (2:Int)=0 then .error (7,ca) else if (2:Int)≠2 then .error (1,ca) else bindK (wantK L N' iy 1) fun _=>bindK (wantK L N' v 1) fun _=>.ok (N',m'))):=hiD (by
        have:=bq_mz hz6 HNK.out.2.1 HNK.out.2.2 HNK.out.1
        rw [if_neg (by decide),if_neg (by decide)];simp only [bindK_assoc2] at this;exact this)
       clear hz6 hm6 HCX e4 HBX HB5
       go_wp2_with fail
       exact ⟨⟨i+1,_,by omega,by go_num,HBQ,HX3,HMZ⟩,by simp [intOf];omega⟩
      ·have hq2n:(qf != 2)=true:=by simpa using hq2
       have HQ:=hiD (And.intro hq hq2)
       clear hq hq2
       go_wp2_with fail
       go_at_call 89
       refine (cfails_z (β:=Unit) b L N' m' 1 ca (by unfold badN;omega) w3 (.ok ():CK Unit) HC3.out).mono ?_
       rintro e w4 ⟨rfl,hz4,hm4⟩
       have HM4:=hiD (HM3.out.trans hm4)
       have HBX:=hiD (HB3.out.mods hm4 (by omega))
       have HZ4:Hid (Mz w4 b L N' m' (.error (1,ca):CK Unit)):=hiD hz4
       clear hz4 hm4 e1 HB3
       have HCY:=hiD (HY.out (.error (1,ca)) 1 w4 HM4.out HZ4.out)
       have e3:w4.cell? ⟨wr.heap.size,3,none⟩=some (.pointer (some ⟨yg,0,none⟩)):=HBX.out.cell rfl
       go_wp2_with fail
       go_at_call 91
       refine HCY.out.mono ?_
       rintro e w5 ⟨rfl,hz5,hm5⟩
       have HM5:=hiD (HM4.out.trans hm5)
       have HB5:=hiD (HBX.out.mods hm5 (by omega))
       have HCX:=hiD (HK.out _ 1 w5 HM5.out hz5)
       have e4:w5.cell? ⟨wr.heap.size,4,none⟩=some (.pointer (some ⟨xg,0,none⟩)):=HB5.out.cell rfl
       clear hz5 hm5 HCY e3
       go_wp2_with fail
       go_at_call 91
       refine HCX.out.mono ?_
       rintro e w6 ⟨rfl,hz6,hm6⟩
       have HMZ:Hid (Mods (·=b) W w6):=hiD (HM.out.trans (HM5.out.trans hm6))
       have HBQ:Hid (Bq w6 b L m0 (if qf=0 then .error (7,ca) else if qf≠2 then .error (1,ca) else bindK (wantK L N' iy 1) fun _=>bindK (wantK L N' v 1) fun _=>.ok (N',m'))):=hiD (by
        have:=bq_mz hz6 HNK.out.2.1 HNK.out.2.2 HNK.out.1
        rw [if_neg HQ.out.1,if_pos HQ.out.2];exact this)
       clear hz6 hm6 HCX e4 HBX HB5
       go_wp2_with fail
       exact ⟨⟨i+1,_,by omega,by go_num,HBQ,HX3,HMZ⟩,by simp [intOf];omega⟩
    ·obtain ⟨xg,rfl⟩:=hx.ptr
     have HP1:=hiD (And.intro hp1 hp2)
     have HQ1:=hiD (And.intro hq1 hq2)
     obtain ⟨pa,pn,pc,rfl⟩:=hp1.form
     obtain ⟨qa,qn,qc,rfl⟩:=hq1.form
     have HBT:=hiD hbt
     have HBE:=hiD hbe
     have HCD:=hiD hcode
     clear hp1 hp2 hq1 hq2 hbt hbe hcode
     have hz:=hcells
     unfold cells7 str at hz
     try unfold nilP at hz
     try unfold nilS at hz
     have k0:wr.cell? ⟨g,i*7,none⟩=some _:=hz 0 _ (by omega) rfl
     have k1:=hz 1 _ (by omega) rfl
     have k2:=hz 2 _ (by omega) rfl
     have k3:=hz 3 _ (by omega) rfl
     have k4:=hz 4 _ (by omega) rfl
     have k5:=hz 5 _ (by omega) rfl
     have k6:=hz 6 _ (by omega) rfl
     obtain ⟨W1,hW1⟩:∃ W1,W1=wr.alloc (.cells #[.int .i64 code,.int .i64 ca,.string ⟨[].toArray⟩,.pointer none,.pointer (some ⟨xg,0,none⟩),.slice pa pn pc,.slice qa qn qc] 143):=⟨_,rfl⟩
     have HMA:Hid (Mods None wr W1):=hiD (by rw [hW1];exact (Mods.refl _ _).alloc _)
     have HB1:Hid (Blk W1 wr.heap.size [.int .i64 code,.int .i64 ca,.string ⟨[].toArray⟩,.pointer none,.pointer (some ⟨xg,0,none⟩),.slice pa pn pc,.slice qa qn qc] 143):=hiD (by rw [hW1];exact Blk.new wr _ _)
     have HC1:=hiD (HCK.out.mods HMA.out)
     clear hz hcells hgl
     go_wp2_with fail
     rw [← hW1]
     clear hW1 k0 k1 k2 k3 k4 k5 k6
     obtain ⟨g1,g2,d1,d2⟩:=ck_old HC1.out
     have e0:W1.cell? ⟨wr.heap.size,0,none⟩=some (.int .i64 code):=HB1.out.cell rfl
     go_quiet (fail)
     obtain ⟨w2,hw2⟩:∃ w2,w2=W1.drewN nq:=⟨_,rfl⟩
     have HM2:Hid (Mods None wr w2):=hiD (by rw [hw2];exact HMA.out.drewN _)
     have HC2:Hid (Ck w2 b L N' m' 0 (-1)):=hiD (HCK.out.mods HM2.out)
     have HB2:Hid (Blk w2 wr.heap.size [.int .i64 code,.int .i64 ca,.string ⟨[].toArray⟩,.pointer none,.pointer (some ⟨xg,0,none⟩),.slice pa pn pc,.slice qa qn qc] 143):=hiD (HB1.out.mods (S:=None) (by rw [hw2];exact (Mods.refl _ _).drewN _) (fun f=>f))
     rw [← hw2]
     clear hw2 g1 g2 d1 d2 e0 HB1 HC1 HMA heq
     have HK:=hiD (kmust_z (kx_all HUA.out N' v) b m' _ 1 w2 (.ok ():CK Unit) HC2.out (ExAt.modsTo (HM2.out.mono fun _ _ f=>f.elim) (fun _ _ k=>k) _ _ hx))
     have HX3:Hid (bindK (bindK (bindK (bindK (wantK L N' v 1) fun _=>.ok (N',m')) fun y=>blockK L y.1 y.2 t) fun y=>blockK L y.1 y.2 e) (fun x=>stmtsK L x.1 x.2 (l.drop (i+1)))=r0):=hiD (by rw [← HX2.out,hsv];simp only [restK,bindK_assoc2];rfl)
     have b4:w2.cell? ⟨wr.heap.size,4,none⟩=some (.pointer (some ⟨xg,0,none⟩)):=HB2.out.cell rfl
     have b0:w2.cell? ⟨wr.heap.size,0,none⟩=some (.int .i64 code):=HB2.out.cell rfl
     have n1:(code==1)=false:=by have:=HCD.out;simp;omega
     have n2:(code==2)=false:=by have:=HCD.out;simp;omega
     have n3:(code==3)=false:=by have:=HCD.out;simp;omega
     clear hx hsv HX2
     go_wp2_with fail
     go_at_call 91
     refine HK.out.mono ?_
     rintro e5 w5 ⟨rfl,hz5,hm5⟩
     have HM5:Hid (Mods (·=b) wr w5):=hiD ((HM2.out.mono fun _ _ f=>f.elim).trans hm5)
     have HB5:=hiD (HB2.out.mods hm5 (by omega))
     have HQ5:Hid (Bq w5 b L m0 (bindK (wantK L N' v 1) fun _=>.ok (N',m'))):=hiD (bq_mz hz5 HNK.out.2.1 HNK.out.2.2 HNK.out.1)
     have HCT:=hiD (HBT.out b m0 _ _ _ w5 HQ5.out (HP1.out.1.mods HM5.out (fun _ _ k=>k)) (StsAt.modsTo HM5.out (fun _ _ k=>k) _ _ HP1.out.2))
     have e5:w5.cell? ⟨wr.heap.size,5,none⟩=some (.slice pa pn pc):=HB5.out.cell rfl
     clear hz5 hm5 HK b0 b4 n1 n2 n3 HQ5
     go_wp2_with fail
     go_at_call 58
     refine HCT.out.mono ?_
     rintro e6 w6 ⟨rfl,hz6,hm6⟩
     have HM6:=hiD (HM5.out.trans hm6)
     have HB6:=hiD (HB5.out.mods hm6 (by omega))
     have HCE:=hiD (HBE.out b m0 _ _ _ w6 hz6 (HQ1.out.1.mods HM6.out (fun _ _ k=>k)) (StsAt.modsTo HM6.out (fun _ _ k=>k) _ _ HQ1.out.2))
     have e6:w6.cell? ⟨wr.heap.size,6,none⟩=some (.slice qa qn qc):=HB6.out.cell rfl
     clear hz6 hm6 HCT e5
     go_wp2_with fail
     go_at_call 58
     refine HCE.out.mono ?_
     rintro e7 w7 ⟨rfl,hz7,hm7⟩
     have HBQ:=hiD hz7
     have HMZ:Hid (Mods (·=b) W w7):=hiD (HM.out.trans (HM6.out.trans hm7))
     clear hz7 hm7 HCE e6
     go_wp2_with fail
     exact ⟨⟨i+1,_,by omega,by go_num,HBQ,HX3,HMZ⟩,by simp [intOf];omega⟩
  ·obtain rfl:i=n:=by omega
   have hpi:¬ (i:Int)<(i:Int):=by omega
   have hx:=HX.out
   rw [HN1.out,List.drop_length] at hx
   obtain ⟨N2,m2,n2,a2,hck2,hlo2,-,hok2,herr2,h13b⟩:=HZ.out.at_
   have HCK2:=hiD hck2
   obtain ⟨⟨fv2,nv2,hb2,-⟩,-⟩:=hck2
   have d1:wr.cell? ⟨b,1,none⟩=some nv2:=hb2.cell rfl
   have f1:wr.frozen? ⟨b,1,none⟩=false:=hb2.free 1
   have HOK2:=hiD (And.intro hok2 herr2)
   have HLO2:=hiD hlo2
   have H13:=hiD h13b
   clear h13b
   have HX3:=hiD hx
   clear hx HX hb2 hok2 herr2 hlo2 HCL HIN
   go_wp2_with fail
   go_end0
   have hMs:Mods (·=b) wr (wr.setCell ⟨b,1,none⟩ (.slice na nn nc)):=mods_put wr b 1 _
   have hback:=bq_back (lo:=0) (z0:=z) (fv0:=.nilIface) (n0:=0) (a0:=0) HNV.out.1 HNV.out.2 HL.out HCK2.out HLO2.out HM.out
   refine ⟨rfl,?_,HM.out.trans hMs⟩
   have hx3:=HX3.out
   have hlo:=HLO.out
   have hlo2:=HLO2.out
   cases z' with
   | error q =>
    obtain ⟨qn,qa⟩:=q
    obtain ⟨h1,h2⟩:=HOK2.out.2 _ rfl
    cases h2
    rw [HEND.out.1 _ hx3.symm]
    exact ⟨_,_,hback,h1,by omega,H13.out⟩
   | ok y =>
    obtain ⟨h1,h2,rfl,rfl⟩:=HOK2.out.1 _ rfl
    subst h1
    simp only [bindK,stmtsK] at hx3
    obtain ⟨y0,hy0,hF0⟩:=HEND.out.2 _ hx3.symm
    rw [hF0]
    obtain ⟨e1,h4,-,-⟩:=HOK.out y0 hy0
    subst e1
    exact ⟨hback,by omega,HZ.out.2.2.1,h4⟩
mutual
theorem inb_all {L:List Fn} (hU:Apart L):(s:St)→InB L s
 | .cond a v t e=>⟨block_r hU t (inbs_all hU t),block_r hU e (inbs_all hU e)⟩
 | .loop a v t=>block_r hU t (inbs_all hU t)
 | .var a s v=>trivial
 | .set a s v=>trivial
 | .put a s i v=>trivial
 | .ret a v=>trivial
 | .print a v=>trivial
 | .call a v=>trivial
theorem inbs_all {L:List Fn} (hU:Apart L):(l:List St)→∀ s∈l,InB L s
 | []=>fun s h=>nomatch h
 | a::r=>fun s h=>(List.mem_cons.1 h).elim (fun h1=>h1 ▸ inb_all hU a) (inbs_all hU r s)
end
theorem bk_all {L:List Fn} (hU:Apart L) (l:List St):BkC L l:=block_r hU l (inbs_all hU l)
def finC:CK Bool→Int×Int
 | .error e=>e
 | .ok true=>(0,-1)
 | .ok false=>(8,-1)
def Small (L:List Fn):Prop:=∀ f∈L,f.name.length≤10000000∧f.params.length≤900000∧∀ p∈f.params,p.2=1∨p.2=2
def Pq (W:World) (b:Nat) (L:List Fn) (k:Nat):CK (Nm×Nat)→Prop
 | .ok (N,m)=>Ck W b L N m 0 (-1)∧m≤12∧NmOk N
 | .error (n,a)=>∃ N m,Ck W b L N m n a∧badN n∧m≤13+k∧NmOk N
theorem Pq.mods {W W':World} {b k:Nat} {L:List Fn} {z:CK (Nm×Nat)} (h:Pq W b L k z) (hm:Mods None W W'):Pq W' b L k z:=by
 cases z with
 | ok y=>exact ⟨h.1.mods hm,h.2⟩
 | error e=>obtain ⟨N,m,h1,h2⟩:=h;exact ⟨N,m,h1.mods hm,h2⟩
theorem Pq.bq {W:World} {b k:Nat} {L:List Fn} {z:CK (Nm×Nat)} (h:Pq W b L k z) (hk:k≤900000):Bq W b L 0 z:=by
 cases z with
 | ok y=>exact ⟨h.1,Nat.zero_le _,h.2⟩
 | error e=>obtain ⟨N,m,h1,h2,h3,h4⟩:=h;exact ⟨N,m,h1,h2,Nat.zero_le _,by omega⟩
theorem padd {W:World} {b k:Nat} {L:List Fn} {z:CK (Nm×Nat)} (h:Pq W b L k z) (hk:k≤900000) (s:List UInt8) (t a:Int) (ht:t=1∨t=2) :
  Calls Tryz.prog 57 #[.pointer (some ⟨b,0,none⟩),.agg #[str s,.int .i64 t],.int .i64 a] W fun e w=>e=.returned (.tuple #[])∧Pq w b L (k+1) (bindK z fun y=>addN y.1 y.2 (s,t) a)∧Mods (·=b) W w:=by
 cases z with
 | ok y =>
  obtain ⟨N,m⟩:=y
  obtain ⟨h1,h2,h3⟩:=h
  refine (radd_any b L N m s t a W (.ok ()) h1 (by omega) (by have:=h3.find s;omega)).mono ?_
  rintro e w ⟨rfl,hz,hm⟩
  refine ⟨rfl,?_,hm⟩
  simp only [bindK] at hz ⊢
  rw [addN_U h2]
  have hu:∀ u,addU N m s a=.ok u→m+1≤12:=by
   intro u hu
   unfold addU at hu
   split at hu
   ·cases hu
   ·split at hu
    ·cases hu
    ·omega
  cases hx:addU N m s a with
  | error e=>rw [hx] at hz;exact ⟨_,_,hz.1,hz.2,by omega,h3.add ht⟩
  | ok u=>rw [hx] at hz;exact ⟨hz,hu u hx,h3.add ht⟩
 | error e =>
  obtain ⟨n',a'⟩:=e
  obtain ⟨N,m,h1,h2,h3,h4⟩:=h
  refine (radd_any b L N m s t a W (.error (n',a')) ⟨h1,h2⟩ (by omega) (by have:=h4.find s;omega)).mono ?_
  rintro e w ⟨rfl,hz,hm⟩
  exact ⟨rfl,⟨_,_,hz.1,hz.2,by omega,h4.add ht⟩,hm⟩
theorem any_take {L:List Fn} {i:Nat} {x:Fn} (hx:L[i]?=some x) (p:Fn→Bool):(L.take (i+1)).any p=((L.take i).any p || p x):=by
 rw [List.take_add_one,hx,List.any_append]
 simp
def Met (W:World) (bm n:Nat) (L:List Fn):Prop:=∃ F,NameMap W bm n (.int .i64 0) F∧∀ s,getL (.int .i64 0) F s=.int .i64 (if L.any (fun g=>g.name==s) then 1 else 0)
theorem Met.mods {S:Nat→Prop} {W W':World} {bm n:Nat} {L:List Fn} (h:Met W bm n L) (hm:Mods S W W') (hn:¬ S bm):Met W' bm n L:=by
 obtain ⟨F,h1,h2⟩:=h
 exact ⟨F,h1.mods hm hn,h2⟩
theorem Met.step {W:World} {bm n:Nat} {L:List Fn} (h:Met W bm n L) (s:List UInt8) (hs:s.length≤10000000) (hn:n<maxLen) (v:Int) :
  (Instr.lookup 120 (.map (some bm)) (str s) false).run Tryz.prog W=.ok (.int .i64 (if L.any (fun g=>g.name==s) then 1 else 0)) W ∧
  ∃ w',(Instr.mapUpdate 120 (.map (some bm)) (str s) (.int .i64 v)).run Tryz.prog W=.ok () w'∧(Instr.lookup 120 (.map (some bm)) (str s) false).run Tryz.prog w'=.ok (.int .i64 v) w'∧Mods (·=bm) W w'∧(∀ M:List Fn,v=1→(∀ t,M.any (fun g=>g.name==t)=(L.any (fun g=>g.name==t) || s==t))→Met w' bm (n+1) M):=by
 obtain ⟨F,h1,h2⟩:=h
 refine ⟨by rw [← h2 s];exact h1.look Tryz.underlying120 (zeroInt _) s hs,?_⟩
 obtain ⟨w',hr,hM,hm⟩:=h1.put Tryz.underlying120 s hs (.int .i64 v) hn
 refine ⟨w',hr,?_,hm,fun M hv hMM=>⟨_,hM,fun t=>?_⟩⟩
 ·have:=hM.look Tryz.underlying120 (zeroInt _) s hs
  rw [getL_put,if_pos rfl] at this
  exact this
 ·rw [getL_put,hMM t,hv]
  by_cases ht:t=s
  ·subst ht
   rw [if_pos rfl]
   simp
  ·rw [if_neg ht,h2 t]
   have:(s==t)=false:=by simp;exact fun e=>ht e.symm
   rw [this,Bool.or_false]
theorem chk_ret {W w:World} {tmps:Array Value} {n a:Int} {r:CK Bool} (h2:tmps.getD 2 undef=.pointer (some ⟨W.heap.size,0,none⟩)) (hB:Blk w W.heap.size [.int .i64 n,.int .i64 a] 40) (hM:Mods None W w) (hr:finC r=(n,a)) :
  bodyPost Tryz.prog Tryz.f25 (fun e w=>e=.returned (.agg #[.int .i64 (finC r).1,.int .i64 (finC r).2])∧Mods None W w) .ret { tmps:=tmps,defers:=[] } w:=by
 rw [hr]
 exact bodyPost_ret (results_cell_row Tryz.results25 tmps _ _ _ #[.int .i64 n,.int .i64 a] _ _ h2 hB Tryz.underlying40 rfl (by kernel_rfl)) rfl ⟨rfl,hM⟩
set_option maxRecDepth 100000 in
set_option maxHeartbeats 16000000 in
theorem rcheck_any (L:List Fn) (v:Value) (W:World) (hL:FsAt W None v L) (hF:FineAt W W.heap.size) (hS:Small L) (hlen:L.length≤1000000) :
  Calls Tryz.prog 25 #[v] W fun e w=>e=.returned (.agg #[.int .i64 (finC (checkR L)).1,.int .i64 (finC (checkR L)).2])∧Mods None W w:=by
 obtain ⟨r,hr⟩:∃ r,r=checkR L:=⟨_,rfl⟩
 rw [← hr]
 obtain ⟨r1,hr1⟩:∃ r1,r1=twiceK [] L:=⟨_,rfl⟩
 have HR:Hid (bindK r1 (fun _=>bindK (fnsK L L) fun _=>.ok (L.any mainB))=r):=hiD (by rw [hr,hr1];rfl)
 have HR1:=hiD hr1
 have HX1:Hid (twiceK (L.take 0) (L.drop 0)=r1):=hiD (by rw [hr1];rfl)
 have HFS:=hiD hL
 have hL0:=hL
 obtain ⟨fa,fn,fc,rfl,-⟩:=hL
 obtain ⟨hfn,hfc,hfm,-⟩:=fs_at hL0
 have HFN:=hiD (And.intro hfn hlen)
 have HSM:=hiD hS
 have HFI:=hiD hF
 have HAT:=hiD (fun (w:World) (hm:Mods None W w)=>(fs_at (hL0.mods hm (fun _ _ k=>k))).2.2.2)
 obtain ⟨W1,hW1⟩:∃ W1,W1=W.alloc (.cells #[.int .i64 0,.int .i64 0] 40):=⟨_,rfl⟩
 have hs1:W1.heap.size=W.heap.size+1:=by rw [hW1];simp
 obtain ⟨W2,hW2⟩:∃ W2,W2=W1.alloc (.map #[] 0):=⟨_,rfl⟩
 have HM2:Hid (Mods None W W2):=hiD (by rw [hW2,hW1];exact ((Mods.refl _ _).alloc _).alloc _)
 have HB2:Hid (Blk W2 W.heap.size [.int .i64 0,.int .i64 0] 40):=hiD (by rw [hW2,hW1];exact (Blk.new W _ _).alloc _)
 have HME2:Hid (Met W2 (W.heap.size+1) 0 []):=hiD (by
  rw [hW2,← hs1]
  exact ⟨[],NameMap.new W1 _,fun s=>rfl⟩)
 have hmm:=@run_makeMap Tryz.prog
 have HS1:=hiD hs1
 unfold maxLen at hfm
 clear hr hr1 hL0 hfn hlen hS hF
 go_enter Tryz.func25,Tryz.ntmps25
 go_wp2_with fail
 rw [← hW1]
 rw [← hW2]
 clear hW1 hW2 hmm
 go_loopw [15] (fun iv wr=>∃ (i n:Nat),i≤fn∧iv=.int .i64 i∧Hid (Met wr (W.heap.size+1) n (L.take i)∧n≤i)∧Hid (twiceK (L.take i) (L.drop i)=r1)∧Hid (Blk wr W.heap.size [.int .i64 0,.int .i64 0] 40)∧Hid (Mods None W wr∧W.heap.size+2≤wr.heap.size)) (fun iv _=>(fn-intOf iv).toNat)
 case atStart=>exact ⟨0,0,Nat.zero_le _,rfl,hiD ⟨HME2.out,Nat.le_refl _⟩,HX1,HB2,hiD ⟨HM2.out,by have h1:=HB2.out.lt;obtain ⟨F,h2,_⟩:=HME2.out;have:=h2.lt;omega⟩⟩
 case round =>
  clear HX1 HB2 HME2 HM2
  obtain ⟨i,k,hi,rfl,HME,HX1,HRB,HM⟩:=hrel
  by_cases hlt:i<fn
  ·obtain ⟨x,gg,o,pa,pc,qa,qn,qc,rfl,hx,c1,c2,c3,c4,hpc,hpm,-⟩:=HAT.out wr HM.out.1 i hlt
   have hpi:(i:Int)<(fn:Int):=by omega
   have hsm:=HSM.out x (List.mem_of_getElem? hx)
   have hstep:=twiceK_step hx
   obtain ⟨pn,hpn⟩:∃ n,n=x.params.length:=⟨_,rfl⟩
   rw [← hpn] at c3 hpc
   obtain ⟨W3,hW3⟩:∃ W3,W3=wr.alloc (.cells #[.string ⟨x.name.toArray⟩,.int .i64 x.at_,.slice pa pn pc,.slice qa qn qc] 33):=⟨_,rfl⟩
   have HM3:Hid (Mods None wr W3):=hiD (by rw [hW3];exact (Mods.refl _ _).alloc _)
   have HB3:Hid (Blk W3 wr.heap.size [.string ⟨x.name.toArray⟩,.int .i64 x.at_,.slice pa pn pc,.slice qa qn qc] 33):=hiD (by rw [hW3];exact Blk.new wr _ _)
   have hkl:k<maxLen:=by have:=HME.out.2;have:=HFN.out;unfold maxLen;omega
   have hbw:Hid (W.heap.size+2≤wr.heap.size):=hiD HM.out.2
   have hany:=any_take hx (fun g=>g.name==x.name)
   cases hd:(L.take i).any (fun g=>g.name==x.name) with
   | true =>
    rw [hd] at hstep
    obtain rfl:r1=.error (9,x.at_):=by rw [← HX1.out,hstep];rfl
    obtain rfl:r=.error (9,x.at_):=HR.out.symm
    obtain ⟨hlk,w4,hup,hlk2,hm4,-⟩:=(HME.out.1.mods HM3.out (fun f=>f)).step x.name hsm.1 hkl 2
    rw [hd] at hlk
    simp only [if_true] at hlk
    unfold str at c1 hlk hup hlk2
    have HM4:=hiD hm4
    have b0:w4.cell? ⟨wr.heap.size,0,none⟩=some (.string ⟨x.name.toArray⟩):=hm4.cellOf (HB3.out.cell rfl) (show ¬ (wr.heap.size=W.heap.size+1) by have:=hbw.out;omega)
    have b1:w4.cell? ⟨wr.heap.size,1,none⟩=some (.int .i64 x.at_):=hm4.cellOf (HB3.out.cell rfl) (show ¬ (wr.heap.size=W.heap.size+1) by have:=hbw.out;omega)
    have HRB4:Hid (Blk w4 W.heap.size [.int .i64 0,.int .i64 0] 40):=hiD ((HRB.out.mods HM3.out (fun f=>f)).mods hm4 (by omega))
    have r0:=HRB4.out.cell (i:=0) rfl
    have r1:=HRB4.out.cell (i:=1) rfl
    have z0:=HRB4.out.free 0
    have z1:=HRB4.out.free 1
    rw [hW3] at hlk hup
    clear hx hpn hsm hstep hany hd HX1 HME HR hkl hm4
    go_wp2_with fail
    refine chk_ret rfl (blk_put (blk_put HRB4.out 0 (.int .i64 9) rfl) 1 (.int .i64 x.at_) rfl) ?_ rfl
    exact (HM.out.1.trans HM3.out).trans' ((HM4.out.mono (T:=fun k=>k=W.heap.size+1∨k=W.heap.size) (fun _ _ h=>Or.inl h)).trans (((mods_put _ W.heap.size 0 _).trans (mods_put _ W.heap.size 1 _)).mono fun _ _ h=>Or.inr h)) (fun k hk hw=>by omega)
   | false =>
    rw [hd] at hstep hany
    have HX2:Hid (twiceK (L.take (i+1)) (L.drop (i+1))=r1):=hiD (by rw [← HX1.out,hstep];rfl)
    obtain ⟨hlk,w4,hup,hlk2,hm4,hmet⟩:=(HME.out.1.mods HM3.out (fun f=>f)).step x.name hsm.1 hkl 1
    rw [hd] at hlk
    simp only [Bool.false_eq_true,if_false] at hlk
    have HMET:Hid (Met w4 (W.heap.size+1) (k+1) (L.take (i+1))):=hiD (hmet _ rfl (fun t=>any_take hx (fun g=>g.name==t)))
    unfold str at c1 hlk hup hlk2
    have HM4:=hiD hm4
    have b0:w4.cell? ⟨wr.heap.size,0,none⟩=some (.string ⟨x.name.toArray⟩):=hm4.cellOf (HB3.out.cell rfl) (show ¬ (wr.heap.size=W.heap.size+1) by have:=hbw.out;omega)
    have HRB4:Hid (Blk w4 W.heap.size [.int .i64 0,.int .i64 0] 40):=hiD ((HRB.out.mods HM3.out (fun f=>f)).mods hm4 (by omega))
    have HMW:Hid (Mods None W w4∧W.heap.size+2≤w4.heap.size):=hiD ⟨(HM.out.1.trans HM3.out).trans' hm4 (fun k hk hw=>by omega),by have:=HM.out.2;have:=HM3.out.size;have:=hm4.size;omega⟩
    have HKK:=hiD HME.out.2
    rw [hW3] at hlk hup
    clear hx hpn hsm hstep hany hd HX1 HME hkl hm4 hmet
    go_wp2_with fail
    exact ⟨⟨i+1,k+1,by omega,by go_num,hiD ⟨HMET.out,by have:=HKK.out;omega⟩,HX2,HRB4,HMW⟩,by simp [intOf];omega⟩
  ·obtain rfl:fn=i:=by omega
   have hpi:¬ (fn:Int)<(fn:Int):=by omega
   have hx1:=HX1.out
   rw [HFN.out.1,List.drop_length] at hx1
   simp only [twiceK] at hx1
   have HU:Hid (Apart L):=hiD (((twiceK_iff [] L).1 (by rw [← HR1.out,← hx1])).2)
   have HX2:Hid (bindK (fnsK L (L.drop 0)) (fun _=>.ok (L.any mainB))=r):=hiD (by rw [← HR.out,← hx1];rfl)
   have HRB0:=HRB
   have HM0:Hid (Mods None W wr):=hiD HM.out.1
   clear HR HX1 hx1 HR1 HME HM HRB hi
   go_wp2_with fail
   go_loopw [6,35] (fun mv iv w1=>∃ i:Nat,i≤fn∧iv=.int .i64 i∧mv=.bool ((L.take i).any mainB)∧Hid (bindK (fnsK L (L.drop i)) (fun _=>.ok (L.any mainB))=r)∧Hid (Blk w1 W.heap.size [.int .i64 0,.int .i64 0] 40)∧Hid (Mods None W w1)) (fun _ iv _=>(fn-intOf iv).toNat)
   case atStart=>exact ⟨0,Nat.zero_le _,rfl,rfl,HX2,HRB0,HM0⟩
   case round =>
    clear HX2 HRB0 HM0 hpi
    obtain ⟨i,hi,rfl,rfl,HX,HRB,HM⟩:=hrel
    obtain ⟨w1,rfl⟩:∃ w1,w1=wr:=⟨_,rfl⟩
    by_cases hlt:i<fn
    ·obtain ⟨x,gg,o,pa,pc,qa,qn,qc,rfl,hx,c1,c2,c3,c4,hpc,hpm,hpt⟩:=HAT.out _ HM.out i hlt
     have hpi:(i:Int)<(fn:Int):=by omega
     have hsm:=HSM.out x (List.mem_of_getElem? hx)
     have HROW:Hid (∃ vq,RowAt w1 None 143 7 (.slice qa qn qc) x.body.length vq∧StsAt w1 None x.body vq):=hiD (by
      obtain ⟨a',n',c',e,_,_,_,_,hc⟩:=HFS.out.mods HM.out (fun _ _ k=>k)
      obtain ⟨rfl,rfl,rfl⟩:=Value.slice.inj e
      obtain ⟨g',o',p',q',vq,e1,_,d1,d2,d3,d4,d5,d6,d7⟩:=hc i x hx
      cases e1
      rw [c4] at d4
      cases d4
      exact ⟨vq,d6,d7⟩)
     obtain ⟨r3,hr3⟩:∃ r3,r3=paramsK [] 0 x.at_ (x.params.drop 0):=⟨_,rfl⟩
     have HX3:Hid (bindK r3 (fun y=>bindK (blockK L y.1 y.2 x.body) fun _=>bindK (fnsK L (L.drop (i+1))) (fun _=>.ok (L.any mainB)))=r):=hiD (by
      rw [hr3,← HX.out,fnsK_step L hx,fnK_block]
      simp only [bindK_assoc,List.drop_zero]
      rfl)
     have HR3:Hid (bindK (.ok ([],0)) (fun y=>paramsK y.1 y.2 x.at_ (x.params.drop 0))=r3):=hiD (by rw [hr3];rfl)
     have HANY:=hiD (any_take hx mainB)
     obtain ⟨pn,hpn⟩:∃ n,n=x.params.length:=⟨_,rfl⟩
     have HPN:=hiD hpn
     have HPS:=hiD hsm
     rw [← hpn] at c3 hpc
     obtain ⟨W3,hW3⟩:∃ W3,W3=w1.alloc (.cells #[.string ⟨x.name.toArray⟩,.int .i64 x.at_,.slice pa pn pc,.slice qa qn qc] 33):=⟨_,rfl⟩
     have HM3:Hid (Mods None w1 W3):=hiD (by rw [hW3];exact (Mods.refl _ _).alloc _)
     have hs3:W3.heap.size=w1.heap.size+1:=by rw [hW3];simp
     obtain ⟨W4,hW4⟩:∃ W4,W4=W3.alloc (.cells #[.slice (some ⟨gg,o,none⟩) fn fc,.slice none 0 0,.int .i64 0,.int .i64 0,.int .i64 (-1)] 123):=⟨_,rfl⟩
     have HM4:Hid (Mods None w1 W4):=hiD (by rw [hW4];exact HM3.out.alloc _)
     have HMW4:Hid (Mods None W W4):=hiD (HM.out.trans HM4.out)
     have HB4:Hid (Blk W4 w1.heap.size [.string ⟨x.name.toArray⟩,.int .i64 x.at_,.slice pa pn pc,.slice qa qn qc] 33):=hiD (by rw [hW4,hW3];exact (Blk.new w1 _ _).alloc _)
     have HRB4:=hiD (HRB.out.mods HM4.out (fun f=>f))
     have hbl:=HRB.out.lt
     have HBL:=hiD hbl
     have noB:∀ k,k<W.heap.size→k=w1.heap.size+1→None k:=fun k h1 h2=>by omega
     have noC:∀ k,k<w1.heap.size→k=w1.heap.size+1→None k:=fun k h1 h2=>by omega
     have HK:Hid (Pq W4 (w1.heap.size+1) L 0 (.ok ([],0))):=hiD (by
      refine ⟨⟨⟨.slice (some ⟨gg,o,none⟩) fn fc,.slice none 0 0,?_,HFS.out.mods HMW4.out noB,⟨none,0,0,rfl,rfl,Nat.le_refl _,by decide,fun _=>rfl,fun i p hp=>by simp at hp⟩,fun k c h=>by cases h;rfl⟩,Nat.le_refl _,by omega,?_⟩,by omega,fun p hp=>by cases hp⟩
      ·rw [hW4,← hs3]
       exact Blk.new W3 _ _
      ·have hf:=HFI.out.far HMW4.out (fun _ f=>f.elim)
       exact ⟨by have:=hf.1;omega,hf.2⟩)
     have HROW4:Hid (∃ vq,RowAt W4 (·=w1.heap.size+1) 143 7 (.slice qa qn qc) x.body.length vq∧StsAt W4 (·=w1.heap.size+1) x.body vq):=hiD (by
      obtain ⟨vq,h1,h2⟩:=HROW.out
      exact ⟨vq,h1.mods HM4.out noC,StsAt.modsTo HM4.out noC _ _ h2⟩)
     have HPT:Hid (∀ (w:World),Mods (·=w1.heap.size+1) W4 w→∀ j u,(pcells x.params)[j]?=some u→∃ pg,pa=some ⟨pg,0,none⟩∧w.cell? ⟨pg,j,none⟩=some u):=hiD (fun w hm j u hj=>by
      obtain ⟨pg,h1,h2⟩:=hpt j u hj
      have hlt2:=World.block_lt_of_cell? _ _ h2
      simp only at hlt2
      exact ⟨pg,h1,hm.cellOf (HM4.out.cellOf h2 (fun f=>f)) (show ¬ (pg=w1.heap.size+1) by omega)⟩)
     have HMP:Hid (Mods (·=w1.heap.size+1) W4 W4):=hiD (Mods.refl _ _)
     obtain ⟨-,hg0,hg1⟩:=HFI.out.far (HM.out.trans HM3.out) (fun _ f=>f.elim)
     rw [hW3] at hg0 hg1
     obtain ⟨mv,hmv⟩:∃ mv,mv=(L.take i).any mainB:=⟨_,rfl⟩
     have HMV:=hiD hmv
     rw [← hmv]
     unfold str at c1
     unfold maxLen at hpm
     have d2:W4.cell? ⟨w1.heap.size,2,none⟩=some (.slice pa pn pc):=HB4.out.cell rfl
     clear hx hpt hsm hr3 hpn HX hbl noB noC HROW HM3 hmv
     go_wp2_with fail
     rw [← hW3]
     rw [← hW4]
     clear hW3 hW4 c1 c2 c3 c4 hg0 hg1
     go_loopw [46] (fun jv w3=>∃ (j:Nat) (z:CK (Nm×Nat)),j≤pn∧jv=.int .i64 j∧Hid (bindK z (fun y=>paramsK y.1 y.2 x.at_ (x.params.drop j))=r3)∧Hid (Pq w3 (w1.heap.size+1) L j z)∧Hid (Mods (·=w1.heap.size+1) W4 w3)) (fun jv _=>(pn-intOf jv).toNat)
     case atStart=>exact ⟨0,.ok ([],0),Nat.zero_le _,rfl,HR3,HK,HMP⟩
     case round =>
      clear HR3 HK HMP d2
      obtain ⟨j,z,hj,rfl,HR3,HK,HMP⟩:=hrel
      obtain ⟨w3,rfl⟩:∃ w3,w3=wr:=⟨_,rfl⟩
      have HB5:=hiD (HB4.out.mods HMP.out (by omega))
      have HRB5:=hiD (HRB4.out.mods HMP.out (by have:=HBL.out;omega))
      have HMW5:Hid (Mods None W w3):=hiD (HMW4.out.trans' HMP.out (by have:=HBL.out;rintro k rfl hk;omega))
      have hl1:=HB5.out.lt
      have hl2:=HRB5.out.lt
      by_cases hlj:j<pn
      ·have hjx:j<x.params.length:=by have:=HPN.out;omega
       obtain ⟨q1,q2⟩:=ncells_at x.params j x.params[j] (List.getElem?_eq_getElem hjx)
       obtain ⟨pg,rfl,p0⟩:=HPT.out w3 HMP.out _ _ q1
       obtain ⟨pg',hpg',p1⟩:=HPT.out w3 HMP.out _ _ q2
       obtain rfl:pg=pg':=by simpa using hpg'
       obtain ⟨nm,ty,hnt⟩:∃ nm ty,x.params[j]=(nm,ty):=⟨_,_,rfl⟩
       have hty:=HPS.out.2.2 x.params[j] (List.getElem_mem hjx)
       rw [hnt] at p0 p1 hty
       simp only at p0 p1 hty
       have hpj:(j:Int)<(pn:Int):=by omega
       have HX4:Hid (bindK (bindK z fun y=>addN y.1 y.2 (nm,ty) x.at_) (fun y=>paramsK y.1 y.2 x.at_ (x.params.drop (j+1)))=r3):=hiD (by
        rw [← HR3.out,bindK_assoc2]
        congr 1
        funext y
        rw [paramsK_step y.1 y.2 x.at_ (List.getElem?_eq_getElem hjx),hnt])
       obtain ⟨W5,hW5⟩:∃ W5,W5=w3.alloc (.cells #[.string ⟨nm.toArray⟩,.int .i64 ty] 85):=⟨_,rfl⟩
       have HM5:Hid (Mods None w3 W5):=hiD (by rw [hW5];exact (Mods.refl _ _).alloc _)
       have hc1:(w3.alloc (.cells #[.string ⟨nm.toArray⟩,.int .i64 ty] 85)).cell? ⟨w1.heap.size,1,none⟩=some (.int .i64 x.at_):=by rw [← hW5];exact HM5.out.cellOf (HB5.out.cell rfl) (fun f=>f)
       have HADD:=hiD (padd (HK.out.mods HM5.out) (by have:=HPS.out.2.1;have:=HPN.out;omega) nm ty x.at_ hty)
       unfold str at p0 HADD
       rw [hW5] at HADD
       clear q1 q2 hpg' hnt hty HR3 hjx
       go_wp2_with fail
       go_at_call 57
       refine HADD.out.mono ?_
       rintro e w6 ⟨rfl,hz6,hm6⟩
       have HZ6:=hiD hz6
       have HM6:Hid (Mods (·=w1.heap.size+1) W4 w6):=hiD ((HMP.out.trans (by rw [← hW5];exact HM5.out.mono fun _ _ f=>f.elim)).trans hm6)
       clear hz6 hm6 HADD hW5 hc1 HM5 p0 p1
       go_wp2_with fail
       exact ⟨⟨j+1,_,by omega,by go_num,HX4,HZ6,HM6⟩,by simp [intOf];omega⟩
      ·obtain rfl:pn=j:=by omega
       have hpj:¬ (pn:Int)<(pn:Int):=by omega
       have hr3:=HR3.out
       rw [HPN.out,List.drop_length] at hr3
       simp only [paramsK] at hr3
       have hzr:z=r3:=by
        rw [← hr3]
        cases z <;> rfl
       subst hzr
       have HBQ:=hiD (HK.out.bq (by have:=HPS.out.2.1;have:=HPN.out;omega))
       have HBLK:=hiD (by
        obtain ⟨vq,h1,h2⟩:=HROW4.out
        exact (bk_all HU.out x.body (w1.heap.size+1) 0 z _ vq w3 HBQ.out (h1.mods HMP.out (fun _ _ k=>k)) (StsAt.modsTo HMP.out (fun _ _ k=>k) _ _ h2)))
       have d3:w3.cell? ⟨w1.heap.size,3,none⟩=some (.slice qa qn qc):=HB5.out.cell rfl
       clear hr3 HR3 HK HBQ
       go_wp2_with fail
       go_at_call 58
       refine HBLK.out.mono ?_
       rintro e w6 ⟨rfl,hz6,hm6⟩
       have HM6:=hiD (HMP.out.trans hm6)
       have HB6:=hiD (HB4.out.mods HM6.out (by omega))
       have HRB6:=hiD (HRB4.out.mods HM6.out (by have:=HBL.out;omega))
       have HMW6:Hid (Mods None W w6):=hiD (HMW4.out.trans' HM6.out (by have:=HBL.out;rintro k rfl hk;omega))
       obtain ⟨zb,hzb⟩:∃ zb,zb=bindK z fun y=>blockK L y.1 y.2 x.body:=⟨_,rfl⟩
       rw [← hzb] at hz6
       have HX4:Hid (bindK zb (fun _=>bindK (fnsK L (L.drop (i+1))) fun _=>.ok (L.any mainB))=r):=hiD (by rw [hzb,bindK_assoc2];exact HX3.out)
       have HZ6:=hiD hz6
       clear hzb hz6 hm6 HBLK HX3 d3
       have b0:w6.cell? ⟨w1.heap.size,0,none⟩=some (.string ⟨x.name.toArray⟩):=HB6.out.cell rfl
       have b2:w6.cell? ⟨w1.heap.size,2,none⟩=some (.slice pa pn pc):=HB6.out.cell rfl
       cases zb with
       | error q =>
        obtain ⟨qn',qa'⟩:=q
        obtain rfl:r=.error (qn',qa'):=HX4.out.symm
        obtain ⟨N',m',hck,hbn,-,-⟩:=HZ6.out
        have HCK:=hiD hck
        obtain ⟨g1,g2,d1,d2⟩:=ck_old hck
        have hne:=neq_bad hbn qa'
        clear hck HX4
        go_wp2_with fail
        go_quiet (fail)
        obtain ⟨w7,hw7⟩:∃ w7,w7=w6.drewN nq:=⟨_,rfl⟩
        have HM7:Hid (Mods None w6 w7):=hiD (by rw [hw7];exact (Mods.refl _ _).drewN _)
        rw [← hw7]
        clear hw7 g1 g2 d1 d2
        obtain ⟨-,-,d1,d2⟩:=ck_old (HCK.out.mods HM7.out)
        have HRB7:=hiD (HRB6.out.mods HM7.out (fun f=>f))
        have r0:=HRB7.out.cell (i:=0) rfl
        have r1:=HRB7.out.cell (i:=1) rfl
        have z0:=HRB7.out.free 0
        have z1:=HRB7.out.free 1
        go_wp2_with fail
        refine chk_ret rfl (blk_put (blk_put HRB7.out 0 (.int .i64 qn') rfl) 1 (.int .i64 qa') rfl) ?_ rfl
        exact (HMW6.out.trans HM7.out).trans' ((mods_put _ W.heap.size 0 _).trans (mods_put _ W.heap.size 1 _)) (fun k hk hw=>by omega)
       | ok y =>
        obtain ⟨N',m'⟩:=y
        have HX5:Hid (bindK (fnsK L (L.drop (i+1))) (fun _=>.ok (L.any mainB))=r):=hiD HX4.out
        obtain ⟨g1,g2,d1,d2⟩:=ck_old HZ6.out.1
        have hne:=ck_neq
        clear HX4
        go_wp2_with fail
        go_quiet (fail)
        obtain ⟨w7,hw7⟩:∃ w7,w7=w6.drewN nq:=⟨_,rfl⟩
        have HM7:Hid (Mods None w6 w7):=hiD (by rw [hw7];exact (Mods.refl _ _).drewN _)
        rw [← hw7]
        have HRB7:=hiD (HRB6.out.mods HM7.out (fun f=>f))
        have HMW7:=hiD (HMW6.out.trans HM7.out)
        have b0:w7.cell? ⟨w1.heap.size,0,none⟩=some (.string ⟨x.name.toArray⟩):=HM7.out.cellOf b0 (fun f=>f)
        have b2:w7.cell? ⟨w1.heap.size,2,none⟩=some (.slice pa pn pc):=HM7.out.cellOf b2 (fun f=>f)
        clear hw7 g1 g2 d1 d2 hne
        have HMB:Hid (mainB x=(x.name==[109,97,105,110] && pn==0)):=hiD (by unfold mainB;rw [← HPN.out])
        cases hmv:mv with
        | true =>
         have HV:Hid (Value.bool true=.bool ((L.take (i+1)).any mainB)):=hiD (by rw [HANY.out,← HMV.out,hmv];rfl)
         subst hmv
         go_wp2_with fail
         exact ⟨⟨i+1,by omega,by go_num,HV.out,HX5,HRB7,HMW7⟩,by simp [intOf];omega⟩
        | false =>
         rcases hb:(x.name==[109,97,105,110]) with _|_
         ·have HV:Hid (Value.bool false=.bool ((L.take (i+1)).any mainB)):=hiD (by rw [HANY.out,← HMV.out,hmv,HMB.out,hb];rfl)
          subst hmv
          go_wp2_with fail
          exact ⟨⟨i+1,by omega,by go_num,HV.out,HX5,HRB7,HMW7⟩,by simp [intOf];omega⟩
         ·rcases hp0:(pn==0) with _|_
          ·have HV:Hid (Value.bool false=.bool ((L.take (i+1)).any mainB)):=hiD (by rw [HANY.out,← HMV.out,hmv,HMB.out,hb,hp0];rfl)
           have hn0:((pn:Int)==0)=false:=by simp at hp0 ⊢;omega
           subst hmv
           clear hp0
           go_wp2_with fail
           exact ⟨⟨i+1,by omega,by go_num,HV.out,HX5,HRB7,HMW7⟩,by simp [intOf];omega⟩
          ·have HV:Hid (Value.bool true=.bool ((L.take (i+1)).any mainB)):=hiD (by rw [HANY.out,← HMV.out,hmv,HMB.out,hb,hp0];rfl)
           have hn0:((pn:Int)==0)=true:=by simp at hp0 ⊢;omega
           subst hmv
           clear hp0
           go_wp2_with fail
           exact ⟨⟨i+1,by omega,by go_num,HV.out,HX5,HRB7,HMW7⟩,by simp [intOf];omega⟩
    ·have hpi:¬ (i:Int)<(fn:Int):=by omega
     obtain rfl:fn=i:=by omega
     have hx:=HX.out
     rw [HFN.out.1,List.drop_length] at hx
     simp only [fnsK,bindK] at hx
     have HT:Hid (L.take fn=L):=hiD (by rw [HFN.out.1,List.take_length])
     rw [HT.out]
     have r0:=HRB.out.cell (i:=0) rfl
     have r1:=HRB.out.cell (i:=1) rfl
     have z0:=HRB.out.free 0
     have z1:=HRB.out.free 1
     obtain ⟨-,g0,g1⟩:=HFI.out.far HM.out (fun _ f=>f.elim)
     cases hb:L.any mainB with
     | true =>
      rw [hb] at hx
      subst hx
      clear HX hb HT HAT
      go_wp2_with fail
      refine chk_ret rfl (blk_put (blk_put HRB.out 0 (.int .i64 0) rfl) 1 (.int .i64 (-1)) rfl) ?_ rfl
      exact HM.out.trans' ((mods_put _ W.heap.size 0 _).trans (mods_put _ W.heap.size 1 _)) (fun k hk hw=>by omega)
     | false =>
      rw [hb] at hx
      subst hx
      clear HX hb HT HAT g0 g1
      go_wp2_with fail
      go_at_call 59
      refine (ErrP.fault_bare 8 _).mono ?_
      rintro e w5 ⟨rfl,hm5⟩
      have HRB5:=hiD (HRB.out.mods hm5 (fun f=>f))
      have HM5:=hiD (HM.out.trans hm5)
      have r0:=HRB5.out.cell (i:=0) rfl
      have r1:=HRB5.out.cell (i:=1) rfl
      have z0:=HRB5.out.free 0
      have z1:=HRB5.out.free 1
      clear hm5
      go_wp2_with fail
      refine chk_ret rfl (blk_put (blk_put HRB5.out 0 (.int .i64 8) rfl) 1 (.int .i64 (-1)) rfl) ?_ rfl
      exact HM5.out.trans' ((mods_put _ W.heap.size 0 _).trans (mods_put _ W.heap.size 1 _)) (fun k hk hw=>by omega)
end Go.Proofs.YtdgedlhefjmcpaaGreatDoor.TreeP.R

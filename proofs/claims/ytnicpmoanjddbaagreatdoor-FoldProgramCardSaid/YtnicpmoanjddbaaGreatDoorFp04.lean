/- A part of what stands behind. -/
import Derived.Defers
import Derived.Recover
import Derived.Test.YtnicpmoanjddbaaGreatDoorFp03
import Derived.Deep.QuietTactic
import Derived.BigQuiet
set_option maxRecDepth 100000
set_option maxHeartbeats 4000000
set_option linter.all false
namespace Go.Proofs.YtnicpmoanjddbaaGreatDoor
namespace aB
open Go.RowKit bB Go.Proofs.Tryz
variable {W w:World} {v u:Value} {tmps:Array Value} {b:Nat}
theorem R4 (p q:Addr) (w:World) :
 CallsD prog 28 #[.pointer (some p),.pointer (some q)] .returning w fun e u' w'=>e=.returned (.tuple #[])/\u'=.returning/\w'=w:=by
 refine callsD_of_wpS func28 rfl fun my cs hu=>?_
 apply wpS_seq;apply wpS_region;simp[wpOpsS,go_sem,recoverD,hu,ntmps28,Exit.thenS];refine wpS_of_wp ?_;change Code.wp _ _ _ { tmps:=#[.pointer (some p),.pointer (some q),.nilIface,undef,undef,.nilIface,undef,undef,undef,undef,undef,undef,undef,undef,undef,undef,undef,undef],defers:=[] } w;go_wp2;cases my
 simp_all [bodyPostS,results,results28]
theorem ae2 (v:Value) (w:World):Sem.run prog (Instr.typeAssert (.iface 70 v) 20 70 true) w=.ok (.tuple #[v,.bool true]) w:=by
 simp[Instr.typeAssert,run_underlying underlying70]
theorem aaD (p q g:Nat) (aml:p≠q) (jM dQ:Value) (aV:List PanicEntry) (w:World) (hp:w.cell? ⟨p,0,none⟩=some jM) (hq:w.cell? ⟨q,0,none⟩=some dQ) (qU:w.frozen? ⟨p,0,none⟩=false) (acr:w.frozen? ⟨q,0,none⟩=false) :
 CallsD prog 28 #[.pointer (some ⟨p,0,none⟩),.pointer (some ⟨q,0,none⟩)] (.panicking ({ v:=wL g,recovered:=false }::aV)) w fun e u' w' =>
  e=.returned (.tuple #[])/\u'=.panicking ({ v:=wL g,recovered:=true }::aV)/\w'=(((w.setCell ⟨p,0,none⟩ (.slice none 0 0)).setCell ⟨q,0,none⟩ (.iface 134 (.pointer (some ⟨g,0,none⟩)))).alloc (.cells #[.iface 134 (.pointer (some ⟨g,0,none⟩))] 70)).drew:=by
 refine callsD_of_wpS func28 rfl fun my cs hu=>?_
 apply wpS_seq;apply wpS_region;unfold wL at hu;simp[wpOpsS,go_sem,recoverD,hu,ntmps28,Exit.thenS];refine wpS_of_wp ?_;change Code.wp _ _ _ { tmps:=#[.pointer (some ⟨p,0,none⟩),.pointer (some ⟨q,0,none⟩),.iface 70 (.agg #[.iface 134 (.pointer (some ⟨g,0,none⟩))]),undef,undef,.iface 70 (.agg #[.iface 134 (.pointer (some ⟨g,0,none⟩))]),undef,undef,undef,undef,undef,undef,undef,undef,undef,undef,undef,undef],defers:=[] } w;have iw:=ae2 (.agg #[.iface 134 (.pointer (some ⟨g,0,none⟩))]) w;have NC:p<w.heap.size:=World.block_lt_of_cell? w _ hp;have ad2:q<w.heap.size:=World.block_lt_of_cell? w _ hq;go_wp2_with fail;go_region;clear iw NC ad2 hp hq qU acr;change bodyPostS prog Tryz.f28 my cs _ _ _ _ _;cases my
 simp_all [bodyPostS,results,results28,wL]
structure Laid (W:World):Prop where
 marks:Marks W
 qi:vp W W.heap.size
 wI:Bh W W.heap.size
theorem Laid.next {W':World} (h:Laid W) (hm:ag ai W W'):Laid W':=by
 refine⟨fun i m hi=>hm.cellOf (h.marks i m hi) id,?_,?_⟩
 ·refine⟨anE h.qi.1 hm.size,fun i l hl=>?_⟩
  obtain⟨p,o,c,h1,h2,h3,h4,h5⟩:=h.qi.2 i l hl;exact⟨p,o,c,hm.cellOf h1 id,h2,h3,anE h4 hm.size,fun j m hj=>hm.cellOf (h5 j m hj) id⟩
 ·obtain⟨h1,t,p,h2⟩:=h.wI
  exact⟨anE h1 hm.size,t,p,hm.cellOf h2 id⟩
def CY (W:World):Except (Int×Int) (List Fn)->Ending->World->Prop
 | .error (n,a)=>fun e w=>∃g,e=.returned (.tuple #[.slice none 0 0,.iface 134 (.pointer (some ⟨g,0,none⟩))])/\aw w g [n,a] 136/\ag ai W w
 | .ok l=>fun e w=>∃v vs,e=.returned (.tuple #[v,.nilIface])/\fL w ai 84 4 v l.length vs/\mg w ai l vs/\ag ai W w
theorem Ik {g:Nat} {n a:Int} (h2:tmps[2]?.getD undef=.pointer (some ⟨W.heap.size,0,none⟩)) (h3:tmps[3]?.getD undef=.pointer (some ⟨W.heap.size+1,0,none⟩))
 (hA:aw w W.heap.size [v] 36) (hB:aw w (W.heap.size+1) [u] 38) (bT:aw w g [n,a] 136) (hM:ag ai W w) :
 Leaves prog Tryz.f13 tmps (CY W (.error (n,a))) [{ target:=Target.fn (Go.Fn.func 28) #[.pointer (some ⟨W.heap.size,0,none⟩),.pointer (some ⟨W.heap.size+1,0,none⟩)],args:=#[] }] (.panicking [{ v:=wL g,recovered:=false }]) w:=by
 refine leaves_cons (f:=28) (args:=#[.pointer (some ⟨W.heap.size,0,none⟩),.pointer (some ⟨W.heap.size+1,0,none⟩)]) (by simp) (by simp[go_sem]) ?_;refine (aaD W.heap.size (W.heap.size+1) g (by omega) v u [] w (hA.ah 0) (hB.ah 0) (hA.free 0) (hB.free 0)).mono ?_;rintro e u' w'' ⟨rfl,rfl,rfl⟩;have vH:=((iC (ds:=[.slice none 0 0]) hA 0 (.slice none 0 0) rfl).other (a:=⟨W.heap.size+1,0,none⟩) (by simp) (.iface 134 (.pointer (some ⟨g,0,none⟩)))).alloc (.cells #[.iface 134 (.pointer (some ⟨g,0,none⟩))] 70);have BC:=(iC (ds:=[.iface 134 (.pointer (some ⟨g,0,none⟩))]) (hB.other (a:=⟨W.heap.size,0,none⟩) (by simp) (.slice none 0 0)) 0 (.iface 134 (.pointer (some ⟨g,0,none⟩))) rfl).alloc (.cells #[.iface 134 (.pointer (some ⟨g,0,none⟩))] 70);have aR:=(((cm w W.heap.size 0 (.slice none 0 0)).mono (T:=vz W.heap.size (W.heap.size+1)) (fun k _ hk=>Or.inl hk)).trans ((cm _ (W.heap.size+1) 0 (.iface 134 (.pointer (some ⟨g,0,none⟩)))).mono (T:=vz W.heap.size (W.heap.size+1)) (fun k _ hk=>Or.inr hk))).alloc (.cells #[.iface 134 (.pointer (some ⟨g,0,none⟩))] 70);have vI:=bT.mods aR (by
  rintro (h|h)
  ·rw[h]at bT;unfold aw at bT hA;rw[hA]at bT;simp at bT
  ·rw[h]at bT;unfold aw at bT hB;rw[hB]at bT;simp at bT)
 have vK:=hM.trans' aR (by rintro k (rfl|rfl) hk <;> omega);obtain⟨wf,wg⟩:=aq (((w.setCell ⟨W.heap.size,0,none⟩ (.slice none 0 0)).setCell ⟨W.heap.size+1,0,none⟩ (.iface 134 (.pointer (some ⟨g,0,none⟩)))).alloc (.cells #[.iface 134 (.pointer (some ⟨g,0,none⟩))] 70));rw[<-wg]at vH BC vI vK ⊢;have ra:wf.drew.cell? ⟨W.heap.size,0,none⟩=some (.slice none 0 0):=vH.ah 0;have rb:wf.drew.cell? ⟨W.heap.size+1,0,none⟩=some (.iface 134 (.pointer (some ⟨g,0,none⟩))):=BC.ah 0;have bb:=af (show CY W (.error (n,a)) (.returned (.tuple #[.slice none 0 0,.iface 134 (.pointer (some ⟨g,0,none⟩))])) wf.drew from ⟨g,rfl,vI.drew,vK.drew⟩);clear vH BC vI vK aR wg hA hB bT;obtain⟨wd,hwd⟩:=aq (wf.drew);rw[<-hwd]at ra rb bb ⊢;simp[Leaves,settle,results,results13,go_sem,h2,h3,ra,rb];exact bb
theorem aa2 {R:Ending->World->Prop} (h2:tmps[2]?.getD undef=.pointer (some ⟨W.heap.size,0,none⟩)) (h3:tmps[3]?.getD undef=.pointer (some ⟨W.heap.size+1,0,none⟩))
 (hA:w.cell? ⟨W.heap.size,0,none⟩=some v) (hB:w.cell? ⟨W.heap.size+1,0,none⟩=some u) (h:R (.returned (.tuple #[v,u])) w) :
 Leaves prog Tryz.f13 tmps R [{ target:=Target.fn (Go.Fn.func 28) #[.pointer (some ⟨W.heap.size,0,none⟩),.pointer (some ⟨W.heap.size+1,0,none⟩)],args:=#[] }] .returning w:=by
 refine leaves_cons (f:=28) (args:=#[.pointer (some ⟨W.heap.size,0,none⟩),.pointer (some ⟨W.heap.size+1,0,none⟩)]) (by simp) (by simp[go_sem]) ?_;refine (R4 ⟨W.heap.size,0,none⟩ ⟨W.heap.size+1,0,none⟩ _).mono ?_;rintro e u' w'' ⟨rfl,rfl,rfl⟩;have H:=af h;clear h;simp[Leaves,settle,results,results13,go_sem,h2,h3,hA,hB];exact H
theorem aht (s:List UInt8) (f:Nat) (n a:Int) (W:World) (hL:Laid W) (hlen:s.length<=10000000) (hx:kS f s 0 0=some (.error (n,a))) :
 Calls prog 13 #[str s] W (CY W (.error (n,a))):=by
 have k_:∀ (fn:Go.Fn) (first cap:Array Value) (w:World),(Instr.makeFunc fn first cap).run prog w=.ok (.func fn first cap) w:=fun _ _ _ _=>rfl
 have az:=af (((ag.refl ai W).alloc (.cells #[.slice none 0 0] 36)).alloc (.cells #[.nilIface] 38));have aU:=af (fun (w:World) (hm:ag ai W w)=>Xt s f _ w (hL.next hm).marks hlen hx);have xR:=af ((aw.new W #[.slice none 0 0] 36).alloc (.cells #[.nilIface] 38));have BB:=aw.new (W.alloc (.cells #[.slice none 0 0] 36)) #[.nilIface] 38;rw[show (W.alloc (.cells #[.slice none 0 0] 36)).heap.size=W.heap.size+1 by simp]at BB;have je:=af BB;clear hL hx BB;unfold str at *
 go_enter_defers func13,ntmps13
 go_wp2_with fail;refine (aU _ az).mono ?_;rintro e w1 ⟨g,rfl,hb,hm⟩;have jd:=af (xR.mods hm id);have bD:=af (je.mods hm id);have aD:=af (az.trans hm);have gb:=af hb;have ca:=jd.ah 0;have cb:=bD.ah 0;have fa:=jd.free 0;have fb:=bD.free 0;have NB:=jd.lt;have gy:=bD.lt;clear hm hb;go_wp2_with fail;go_region;go_wp2;refine leaves_cons (f:=28) (args:=#[.pointer (some ⟨W.heap.size,0,none⟩),.pointer (some ⟨W.heap.size+1,0,none⟩)]) (by simp) (by simp[go_sem]) ?_;refine (R4 ⟨W.heap.size,0,none⟩ ⟨W.heap.size+1,0,none⟩ _).mono ?_;rintro e u' w'' ⟨rfl,rfl,rfl⟩;have aR:=((cm w1 (W.heap.size+1) 0 (.iface 134 (.pointer (some ⟨g,0,none⟩)))).mono (T:=vz W.heap.size (W.heap.size+1)) (fun k _ hk=>Or.inr hk)).trans (((cm _ W.heap.size 0 (.slice none 0 0)).mono (T:=vz W.heap.size (W.heap.size+1)) (fun k _ hk=>Or.inl hk)).trans ((cm _ (W.heap.size+1) 0 (.iface 134 (.pointer (some ⟨g,0,none⟩)))).mono (T:=vz W.heap.size (W.heap.size+1)) (fun k _ hk=>Or.inr hk)));have vH:=(iC (ds:=[.slice none 0 0]) (jd.other (a:=⟨W.heap.size+1,0,none⟩) (by simp) (.iface 134 (.pointer (some ⟨g,0,none⟩)))) 0 (.slice none 0 0) rfl).other (a:=⟨W.heap.size+1,0,none⟩) (by simp) (.iface 134 (.pointer (some ⟨g,0,none⟩)));have BC:=iC (ds:=[.iface 134 (.pointer (some ⟨g,0,none⟩))]) ((iC (ds:=_) bD 0 (.iface 134 (.pointer (some ⟨g,0,none⟩))) rfl).other (a:=⟨W.heap.size,0,none⟩) (by simp) (.slice none 0 0)) 0 (.iface 134 (.pointer (some ⟨g,0,none⟩))) rfl;have vI:=gb.mods aR (by
  have:=gb.lt;rintro (h|h)
  ·rw[h]at gb;have:=jd.out;have h2:=gb.out;unfold aw at this h2;rw[this]at h2;simp at h2
  ·rw[h]at gb;have:=bD.out;have h2:=gb.out;unfold aw at this h2;rw[this]at h2;simp at h2)
 have vK:=aD.trans' aR (by rintro k (rfl|rfl) hk <;> omega);obtain⟨wf,wg⟩:=aq (((w1.setCell ⟨W.heap.size+1,0,none⟩ (.iface 134 (.pointer (some ⟨g,0,none⟩)))).setCell ⟨W.heap.size,0,none⟩ (.slice none 0 0)).setCell ⟨W.heap.size+1,0,none⟩ (.iface 134 (.pointer (some ⟨g,0,none⟩))));rw[<-wg]at vH BC vI vK ⊢;have ra:wf.drew.cell? ⟨W.heap.size,0,none⟩=some (.slice none 0 0):=vH.ah 0;have rb:wf.drew.cell? ⟨W.heap.size+1,0,none⟩=some (.iface 134 (.pointer (some ⟨g,0,none⟩))):=BC.ah 0;have bb:=af (show CY W (.error (n,a)) (.returned (.tuple #[.slice none 0 0,.iface 134 (.pointer (some ⟨g,0,none⟩))])) wf.drew from ⟨g,rfl,vI.drew,vK.drew⟩);clear vH BC vI vK aR wg ca cb;obtain⟨wd,hwd⟩:=aq (wf.drew);rw[<-hwd]at ra rb bb ⊢;simp[Leaves,settle,results,results13,go_sem,ra,rb];exact bb
def s4 (n b:Nat):Nat->Prop:=fun k=>k=b\/k=n\/k=n+1
theorem abL (s:ByteArray) (a:Int) (aG:Option Addr) (on aF:Nat) (ob:Option Addr) (eX eW:Nat):∀u∈[Value.string s,a,.slice aG on aF,.slice ob eX eW],u.oneCell'=true:=by
 intro u hu;simp only[anW,an1,or_false]at hu;rcases hu with rfl|rfl|rfl|rfl <;> rfl
theorem acn (W:World) (z0 cS z2 z3:Value) (e:TypeId):∀j u,[z0,cS,z2,z3][j]?=some u->(W.alloc (.cells #[z0,cS,z2,z3] e)).cell? ((⟨W.heap.size,0,none⟩:Addr).add j)=some u:=by
 intro j u hj;have h:=(aw.new W #[z0,cS,z2,z3] e).cell (i:=j) (v:=u) hj;cases j with
 | zero=>exact h
 | succ j=>simpa [Addr.add] using h
structure Rs (W wr:World) (b:Nat) (l:List Fn) (r:List Tok) (v:Value):Prop where
 ca:aw wr W.heap.size [v] 36
 cb:aw wr (W.heap.size+1) [.nilIface] 38
 row:∃vs,ig wr (b+1) (s4 W.heap.size b) 84 4 v l.length vs/\mg wr (Own (s4 W.heap.size b) v) l vs
 rd:Rd wr b (s4 W.heap.size b) r
 mods:ag ai W wr
 lt:W.heap.size+1<b
def ZC (f:Nat) (W:World) (b:Nat) (x:Except (Int×Int) (List Fn×List Tok)) (wr:World):Prop :=
 ∃ff l r aG aF,ff<=f/\uN ff l r=some x/\l.length<=12/\Rs W wr b l r (.slice aG l.length aF)
theorem afx (h:Laid W) (hm:ag ai W w) (hb:W.heap.size<=b):vp w b/\Bh w b:=by
 refine⟨⟨anE h.qi.1 hb,fun i l hl=>?_⟩,?_⟩
 ·obtain⟨p,o,c2,h3,h4,h5,h6,h7⟩:=h.qi.2 i l hl
  exact⟨p,o,c2,hm.cellOf h3 id,h4,h5,anE h6 hb,fun j m hj=>hm.cellOf (h7 j m hj) id⟩
 ·obtain⟨h1,t,p,h2⟩:=h.wI
  exact⟨anE h1 hb,t,p,hm.cellOf h2 id⟩
theorem ahp {q:Nat} {ts:List Tok} {aG:Option Addr} {n c:Nat} {T:TypeId} (h:iV w b ts) (hq:aw w q [.slice aG n c] T) (hne:q≠b) (v:Value):iV (w.setCell ⟨q,0,none⟩ v) b ts:=by
 obtain⟨g,o,c2,hp⟩:=h;have hg:¬g=q:=by
  intro he;obtain⟨t,r,hr⟩:=s8 hp.ends;rw[hr]at hp;have h1:=hp.Da;rw[he]at h1;unfold aw at hq;simp only[World.cell?,hq]at h1;cases o with
  | zero=>simp at h1
  | succ o=>simp at h1
 exact⟨g,o,c2,hp.mods (cm w q 0 v) (fun h=>hne h.symm) hg⟩
theorem SS:∀f,P3 f
 | 0=>fun _ _ _ _ _ _ h=>by simp[uu]at h
 | f+1=>acy f
theorem ahv (s:List UInt8) (f qU:Nat) (ts:List Tok) (x:Except (Int×Int) (List Fn×List Tok)) (W:World) (hL:Laid W) (hlen:s.length<=10000000) (hx:kS f s 0 0=some (.ok ts)) (hp:uN qU [] ts=some x) :
 Calls prog 13 #[str s] W (CY W (Sq x)):=by
 have k_:∀ (fn:Go.Fn) (first cap:Array Value) (w:World),(Instr.makeFunc fn first cap).run prog w=.ok (.func fn first cap) w:=fun _ _ _ _=>rfl
 have az:=af (((ag.refl ai W).alloc (.cells #[.slice none 0 0] 36)).alloc (.cells #[.nilIface] 38));have aU:=af (fun (w:World) (hm:ag ai W w)=>Xt s f _ w (hL.next hm).marks hlen hx);have cu:=af (fun (w:World) (hm:ag ai W w)=>hL.next hm);have bP:=af hp;have xR:=af ((aw.new W #[.slice none 0 0] 36).alloc (.cells #[.nilIface] 38));have BB:=aw.new (W.alloc (.cells #[.slice none 0 0] 36)) #[.nilIface] 38;rw[show (W.alloc (.cells #[.slice none 0 0] 36)).heap.size=W.heap.size+1 by simp]at BB;have je:=af BB;obtain⟨i0,hi,hz0,hz1,hz2⟩:=info_parts acv;have aI:=af (⟨hi,hz0,hz1,hz2⟩:_/\_/\_/\_);clear hL hx BB hp hi hz0 hz1 hz2;unfold str at *
 go_enter_defers func13,ntmps13
 go_wp2_with fail;refine (aU _ az).mono ?_;rintro e w1 ⟨g,c,rfl,iD,lJ,hl2,gS,DL,xp,yC,hm⟩;have jd:=af (xR.mods hm id);have bD:=af (je.mods hm id);have aD:=af (az.trans hm);have xZ:=af (⟨iD,lJ,hl2,gS,DL,xp,yC⟩:_/\_/\_/\_/\_/\_/\_);have ca:=jd.ah 0;have cb:=bD.ah 0;have fa:=jd.free 0;have fb:=bD.free 0;have NB:=jd.lt;have gy:=bD.lt;clear hm iD lJ hl2 gS DL xp yC az aU xR je;go_wp2_with fail;have hS1:ag ai W (w1.setCell ⟨W.heap.size+1,0,none⟩ .nilIface):=aD.trans' (cm w1 (W.heap.size+1) 0 .nilIface) (by rintro k rfl hk;omega);have hsz:(w1.setCell ⟨W.heap.size+1,0,none⟩ .nilIface).heap.size=w1.heap.size:=by simp[World.setCell]
 have IB:=(jd.other (a:=⟨W.heap.size+1,0,none⟩) (by simp) .nilIface).alloc (.cells #[.slice (some ⟨g,0,none⟩) ts.length c] 77);have mB:=(iC (ds:=[.nilIface]) bD 0 .nilIface rfl).alloc (.cells #[.slice (some ⟨g,0,none⟩) ts.length c] 77);have FK:=aw.new (w1.setCell ⟨W.heap.size+1,0,none⟩ .nilIface) #[.slice (some ⟨g,0,none⟩) ts.length c] 77;rw[hsz]at FK;have aN:ag ai W ((w1.setCell ⟨W.heap.size+1,0,none⟩ .nilIface).alloc (.cells #[.slice (some ⟨g,0,none⟩) ts.length c] 77)):=hS1.alloc _;have sg:¬g=W.heap.size+1:=by
  intro h;obtain⟨iD,lJ,hl2,gS,DL,xp,yC⟩:=xZ.out;obtain⟨t,r,rfl⟩:=s8 xp;have h1:=(DL 0 t rfl).1;rw[h]at h1;have h2:=bD.ah 0;simp only[Nat.zero_mul,aou]at h1;rw[h1]at h2;cases h2
 have Tk:Rd ((w1.setCell ⟨W.heap.size+1,0,none⟩ .nilIface).alloc (.cells #[.slice (some ⟨g,0,none⟩) ts.length c] 77)) w1.heap.size (s4 W.heap.size w1.heap.size) ts:=by
  obtain⟨iD,lJ,hl2,gS,DL,xp,yC⟩:=xZ.out;have hl0:=(cu _ (ag.refl ai W));refine⟨⟨g,0,c,FK,iD,lJ,by omega,gS,?_,xp,fun t ht=>(yC t ht).1,fun t ht=>(yC t ht).2⟩,?_,?_,Or.inl rfl,?_⟩
  ·exact DL.mods (((cm w1 (W.heap.size+1) 0 .nilIface)).alloc _) sg
  ·obtain⟨h1,h2⟩:=(cu _ aN).qi
   refine⟨by have:=hl0.qi.1;omega,fun i l hl=>?_⟩;obtain⟨p,o,c2,h3,h4,h5,h6,h7⟩:=hl0.qi.2 i l hl;exact⟨p,o,c2,aN.cellOf h3 id,h4,h5,by omega,fun j m hj=>aN.cellOf (h7 j m hj) id⟩
  ·obtain⟨h1,t,p,h2⟩:=hl0.wI
   exact⟨by omega,t,p,aN.cellOf h2 id⟩
  ·have:=FK.lt
   rintro k (rfl|rfl|rfl) <;> omega
 have HS:=af (⟨IB,mB,⟨[],⟨⟨World.ownsRow_nil _ _ _ _,by have:=FK.lt;omega,by rintro k (rfl|rfl|rfl) <;> omega⟩,rfl⟩⟩,Tk,aN,by omega⟩:Rs W ((w1.setCell ⟨W.heap.size+1,0,none⟩ .nilIface).alloc (.cells #[.slice (some ⟨g,0,none⟩) ts.length c] 77)) w1.heap.size [] ts (.slice none 0 0));clear IB mB FK Tk aN hS1 sg;obtain⟨w2,hw2⟩:=aq ((w1.setCell ⟨W.heap.size+1,0,none⟩ .nilIface).alloc (.cells #[.slice (some ⟨g,0,none⟩) ts.length c] 77));obtain⟨b,hb⟩:=aq (w1.heap.size);rw[<-hw2,<-hb]at HS;rw[<-hw2];rw[<-hb];clear hw2 hsz xZ jd bD aD ca cb fa fb NB gy hb
 go_loopw [] (fun wr=>ZC qU W b x wr) (fun wr=>lenOf wr b)
 case atStart=>exact⟨qU,[],ts,_,_,anD _,bP,by simp,HS⟩
 case round =>
  clear HS bP;obtain⟨ff,l,r,aG,aF,FX,tz,al1,hs⟩:=hrel;have HS:=af hs;obtain⟨⟨g2,o,c2,hp⟩,_,_,_,_⟩:=hs.rd;obtain⟨t,mL,hr⟩:=s8 hp.ends;rw[hr]at hp;have hl:=hp.cl;have hk:=hp.Da;have iD:=hp.cap;have lJ:=hp.max;simp only[anK]at iD;have ca:=hs.ca.ah 0;have cb:=hs.cb.ah 0;have fa:=hs.ca.free 0;have fb:=hs.cb.free 0;have NB:=hs.ca.lt;have gy:=hs.cb.lt;have Uc:headKind r=t.kind:=by rw[hr];rfl
  obtain⟨tk,tt,ta⟩:=t;simp only at hk Uc;have aP:=af hr;clear hp hs hr;cases ff with
  | zero=>simp[uN]at tz
  | succ f1 =>
    simp only[uN]at tz;rw[Uc]at tz;by_cases h4:tk=4
    ·rw[if_pos h4]at tz
     obtain rfl:=(anz tz).symm;subst h4;clear tz;go_wp2;have aR:=((cm wr W.heap.size 0 (.slice aG l.length aF)).mono (T:=s4 W.heap.size b) (fun k _ hk=>Or.inr (Or.inl hk))).trans ((cm _ (W.heap.size+1) 0 .nilIface).mono (T:=s4 W.heap.size b) (fun k _ hk=>Or.inr (Or.inr hk)));have hA:=(iC (ds:=[.slice aG l.length aF]) HS.ca 0 (.slice aG l.length aF) rfl).other (a:=⟨W.heap.size+1,0,none⟩) (by simp) .nilIface;have hB:=iC (ds:=[.nilIface]) (HS.cb.other (a:=⟨W.heap.size,0,none⟩) (by simp) (.slice aG l.length aF)) 0 .nilIface rfl;refine aa2 rfl rfl (hA.ah 0) (hB.ah 0) ?_;obtain⟨vs,h1,h2⟩:=HS.row;refine⟨_,vs,rfl,h1.rowAt.mods aR (fun _ _ f=>f.elim),mg.b8 (aR.mono fun k _ hk=>Or.inl hk) (fun _ _ f=>f.elim) _ _ h2,HS.mods.trans' aR ?_⟩;have:=HS.lt;rintro k (rfl|rfl|rfl) hk <;> omega
    ·rw[if_neg h4]at tz
     by_cases fM:l.length=12
     ·rw[if_pos fM]at tz
      obtain rfl:=(anz tz).symm;have My:(l.length:Int)=12:=(by omega);clear tz fM;go_wp2_with fail;refine (Iq b 4 r wr HS.rd.par).mono ?_;rintro e w3 ⟨g3,rfl,hb3,aR⟩;have gB:=af hb3;have cv:=af aR;clear hb3 aR;go_wp2;exact Ik rfl rfl (HS.ca.mods cv id) (HS.cb.mods cv id) gB (HS.mods.trans cv)
     ·rw[if_neg fM]at tz
      have My:¬(l.length:Int)=12:=(by omega);have aj:=af tz;have aT:=af (show l.length+1<=12 by omega);obtain⟨vs,hg,hf⟩:=HS.row;have HG:=af hg;have bQ:=af hf;have nH:=af ((HG.rd HS.rd).quiet (ag.refl ai wr).drew);clear tz fM hg hf;go_wp2_with fail;rcases C6 aj with⟨n,a,hy,rfl⟩|⟨z,r3,hy,bh⟩
      ·have aU:=af ((SS f1) b (Own (s4 W.heap.size b) (.slice aG l.length aF)) r _ _ nH hy)
       clear hy aj;refine wp_region_any (by kernel_rfl) ?_;change wpAny _ _ _ _ _ _ _ (World.drew _);refine wpAny_ready (rs:=[0,1]) (by kernel_rfl) (by simp) ?_;refine AllReady.cons rfl (fun K hK=>?_) ?_
       ·skip
        go_simp;refine hK _ _ ?_;clear hK K;refine wpAny_ready (rs:=[1]) (by kernel_rfl) (by simp) ?_;refine AllReady.cons rfl (fun K hK=>?_) AllReady.nil;go_simp;refine hK _ _ ?_;clear hK K;refine wpAny_ready (rs:=[2]) (by kernel_rfl) (by simp) ?_;refine AllReady.cons rfl (fun K hK=>?_) AllReady.nil;go_simp;go_at_call 31;refine aU.mono ?_;rintro e w3 ⟨g3,rfl,hb3,aR⟩;exact Ik rfl rfl (HS.ca.drew.mods aR (by have:=HS.lt;omega)) (HS.cb.drew.mods aR (by have:=HS.lt;omega)) hb3 (HS.mods.drew.trans' aR (by have:=HS.lt;rintro k rfl hk;omega))
       ·refine AllReady.cons rfl (fun K hK=>?_) AllReady.nil
        go_simp;refine hK _ _ ?_;clear hK K;refine wpAny_ready (rs:=[0,2]) (by kernel_rfl) (by simp) ?_;refine AllReady.cons rfl (fun K hK=>?_) ?_
        ·skip
         go_simp;refine hK _ _ ?_;clear hK K;refine wpAny_ready (rs:=[2]) (by kernel_rfl) (by simp) ?_;refine AllReady.cons rfl (fun K hK=>?_) AllReady.nil;go_simp;go_at_call 31;refine aU.mono ?_;rintro e w3 ⟨g3,rfl,hb3,aR⟩;exact Ik rfl rfl (HS.ca.drew.mods aR (by have:=HS.lt;omega)) (HS.cb.drew.mods aR (by have:=HS.lt;omega)) hb3 (HS.mods.drew.trans' aR (by have:=HS.lt;rintro k rfl hk;omega))
        ·refine AllReady.cons rfl (fun K hK=>?_) AllReady.nil
         go_simp;go_at_call 31;refine aU.mono ?_;rintro e w3 ⟨g3,rfl,hb3,aR⟩;exact Ik rfl rfl (HS.ca.drew.mods aR (by have:=HS.lt;omega)) (HS.cb.drew.mods aR (by have:=HS.lt;omega)) hb3 (HS.mods.drew.trans' aR (by have:=HS.lt;rintro k rfl hk;omega))
      ·have aU:=af ((SS f1) b (Own (s4 W.heap.size b) (.slice aG l.length aF)) r _ _ nH hy)
       have cY:=af (SU hy);clear hy aj;refine wp_region_noPanic ?_
       go_region_law (first|(refine G4 rfl (.tmp 31) (.tmp 34) 36 rfl (b+1) 84 i0 _ 4 72 underlying36 aI.1 aI.2.1 aI.2.2.1 aI.2.2.2 rfl (by decide) (.slice aG l.length aF) l.length vs (by simp[Act.eval,Act.put]) gC.row ⟨w3.heap.size,0,none⟩ 1 1 [.string ⟨z.name.toArray⟩,z.at_,.slice pa bz ck,.slice bg qn br] (by simp[Act.eval,Act.put]) rfl (acn _ _ _ _ _ _) (abL _ _ _ _ _ _ _ _) (by have:=aT.out;unfold maxLen;omega) (by have:=aT.out;omega) gC.base ?_;intro v' aJ hown cr hloc;have bZ:Hid (kr (w3.alloc (.cells #[.string ⟨z.name.toArray⟩,z.at_,.slice pa bz ck,.slice bg qn br] 84)) aJ (.slice aG l.length aF) v'):=af (py cr hloc);have b6:=af (gC.zN bZ hown);clear hown cr hloc;obtain⟨ra,rc,rfl⟩:=nQ b6.row;have jP:=af (EE.mods bZ.mods (fun hk=>by have:=(gC.row.lt _ hk).1;have:=HS.lt;omega));have c5:=jP.ah 0;have f5:=jP.free 0;have Ud:=jP.lt)|(go_simp;go_at_call 31;refine aU.mono ?_;rintro e w3 ⟨bq,rfl,⟨cs,rfl,hf3⟩,pA,aR⟩;obtain⟨pa,bz,ck,bg,qn,br,rfl⟩:=hf3.shape;have zo:=af hf3;have u_:=af pA;have cv:=af aR;have eK:=af (HS.ca.drew.mods aR (by have:=HS.lt;omega));have EE:=af (eK.alloc (.cells #[.string ⟨z.name.toArray⟩,z.at_,.slice pa bz ck,.slice bg qn br] 84));have gC:=af ((ig.next (W:=wr.drew) ⟨HG.row,HG.base,HG.below⟩ HS.rd.has aR).alloc (.cells #[.string ⟨z.name.toArray⟩,z.at_,.slice pa bz ck,.slice bg qn br] 84));have c3:=eK.ah 0;have f3:=eK.free 0;have kL:=eK.lt;clear hf3 pA aR))
       all_goals
         refine NoPanic.normal ?_;go_wp2_with fail;have mC:∀ (T:Nat->Prop) (o:Obj),ag T w3 (w3.alloc o):=fun T o=>ay.alloc _
         have dZ:=cm aJ W.heap.size 0 (.slice ra (l.length+1) rc);have hlt:=HS.lt;have ac7:Rd (w3.alloc (.cells #[.string ⟨z.name.toArray⟩,z.at_,.slice pa bz ck,.slice bg qn br] 84)) b (s4 W.heap.size b) r3:=(HS.rd.quiet (ag.refl ai wr).drew |>.next u_ cv).quiet (mC _ _);have Th:=gC.Cv bZ ac7;have j_:=((HS.cb.drew.mods cv (by omega)).alloc (.cells #[.string ⟨z.name.toArray⟩,z.at_,.slice pa bz ck,.slice bg qn br] 84)).mods bZ.mods (fun hk=>by have:=(gC.row.lt _ hk).1;omega);have ac2:ag ai W aJ:=((HS.mods.drew.trans' cv (by rintro k rfl hk;omega)).alloc (.cells #[.string ⟨z.name.toArray⟩,z.at_,.slice pa bz ck,.slice bg qn br] 84)).trans' bZ.mods (fun k hk hw=>by have:=(gC.row.lt k hk).1;omega);have Tm:=bZ.own (S:=s4 W.heap.size b);have acW:=iC (ds:=[.slice ra (l.length+1) rc]) jP 0 (.slice ra (l.length+1) rc) rfl;have zP:=j_.other (a:=⟨W.heap.size,0,none⟩) (by simp) (.slice ra (l.length+1) rc);have Tc:ag ai W (aJ.setCell ⟨W.heap.size,0,none⟩ (.slice ra (l.length+1) rc)):=ac2.trans' dZ (by rintro k rfl hk;omega);have Tb:=afx (cu _ (ag.refl ai W)) Tc (b:=b) (by omega);have Tf:iV (aJ.setCell ⟨W.heap.size,0,none⟩ (.slice ra (l.length+1) rc)) b r3:=ahp Th.par jP (by omega) _;have ac5:∀k,k=W.heap.size->Own (s4 W.heap.size b) (.slice ra (l.length+1) rc) k:=fun k hk=>Or.inl (Or.inr (Or.inl hk))
         have hW3:ag (Own (s4 W.heap.size b) (.slice aG l.length aF)) wr (w3.alloc (.cells #[.string ⟨z.name.toArray⟩,z.at_,.slice pa bz ck,.slice bg qn br] 84)):=((ag.refl _ wr).drew.trans (cv.mono fun k _ hk=>Or.inl (Or.inl hk))).trans (mC _ _);have adb:=mg.b8 Tm bZ.to _ _ (mg.b8 hW3 (fun _ _ h=>h) _ _ bQ);have acY:=(rM.b8 (show rM w3 (Own (s4 W.heap.size b) (.slice aG l.length aF)) z _ from zo.out) (mC _ _) (fun _ _ h=>h)).b8 Tm bZ.to;have ade:=mg.b8 (dZ.mono fun k _ hk=>ac5 k hk) (fun _ _ h=>h) _ _ (mg.append adb acY);have ac1:=b6.keep dZ (by intro k hk he;have:=(b6.row.lt k hk).1;omega);have ac4:=Tf.len;refine⟨⟨f1,l++[z],r3,ra,rc,by omega,bh,by have:=aT.out;simpa using this,?_⟩,?_⟩
         ·exact⟨by simpa using acW,zP,⟨_,by simpa using ac1,by simpa using ade⟩,⟨Tf,Tb.1,Tb.2,Or.inl rfl,fun k hk=>anE (Th.old k hk) dZ.size⟩,Tc,hlt⟩
         ·rw[ac4,HS.rd.par.len]
          exact cY
end aB
namespace aB
open Go.Proofs.Tryz
abbrev Nm:=List (List UInt8×Int)
def e9 (N:Nm) (s:List UInt8):Int:=match N.find? (fun p=>p.1==s) with
 | some p=>p.2
 | none=>0
def Ib:aL->Int
 | .num a _=>a
 | .var a _=>a
 | .bin a _ _ _=>a
 | .un a _ _=>a
 | .call a _ _=>a
 | .new a _=>a
 | .len a _=>a
 | .item a _ _=>a
 | .input a=>a
abbrev e6 (α:Type):=Except (Int×Int) α
def cn {α β:Type} (x:e6 α) (f:α->e6 β):e6 β:=match x with
 | .ok a=>f a
 | .error e=>.error e
def tO (e:aL) (k t:Int):e6 Unit:=if t=k then .ok () else .error (1,Ib e)
def pg (N:Nm) (m:Nat) (p:List UInt8×Int) (a:Int):e6 (Nm×Nat):=if e9 N p.1≠0 then .error (9,a) else if m=12 then .error (12,a) else .ok (N++[p],m+1)
def il (L:List Fn) (s:List UInt8):Option Fn:=L.find? (fun f=>f.name==s)
mutual
def dI (L:List Fn) (N:Nm):aL->e6 Int
 | .num _ _=>.ok 1
 | .var a s=>if e9 N s=0 then .error (7,a) else .ok (e9 N s)
 | .bin _ _ l r=>cn (dI L N l) fun t=>cn (tO l 1 t) fun _=>cn (dI L N r) fun u=>cn (tO r 1 u) fun _=>.ok 1
 | .un _ _ x=>cn (dI L N x) fun t=>cn (tO x 1 t) fun _=>.ok 1
 | .call a f args=>match il L f with
   | none=>.error (7,a)
   | some g=>if args.length=g.params.length then cn (od L N args (g.params.map (·.2))) fun _=>.ok 1 else .error (2,a)
 | .new _ x=>cn (dI L N x) fun t=>cn (tO x 1 t) fun _=>.ok 2
 | .len _ x=>cn (dI L N x) fun t=>cn (tO x 2 t) fun _=>.ok 1
 | .item _ x i=>cn (dI L N x) fun t=>cn (tO x 2 t) fun _=>cn (dI L N i) fun u=>cn (tO i 1 u) fun _=>.ok 1
 | .input _=>.ok 1
def od (L:List Fn) (N:Nm):List aL->List Int->e6 Unit
 | e::r,k::ks=>cn (dI L N e) fun t=>cn (tO e k t) fun _=>od L N r ks
 | _,_=>.ok ()
end
def ia (L:List Fn) (N:Nm) (e:aL) (k:Int):e6 Unit:=cn (dI L N e) (tO e k)
mutual
def eN (L:List Fn) (N:Nm) (m:Nat):St->e6 (Nm×Nat)
 | .var a s v=>cn (dI L N v) fun t=>pg N m (s,t) a
 | .set a s v=>if e9 N s=0 then .error (7,a) else cn (ia L N v (e9 N s)) fun _=>.ok (N,m)
 | .put a s i v=>if e9 N s=0 then .error (7,a) else if e9 N s≠2 then .error (1,a) else cn (ia L N i 1) fun _=>cn (ia L N v 1) fun _=>.ok (N,m)
 | .cond _ v t e=>cn (ia L N v 1) fun _=>cn (lO L N m t) fun x=>cn (lO L N x.2 e) fun y=>.ok (N,y.2)
 | .loop _ v t=>cn (ia L N v 1) fun _=>cn (lO L N m t) fun x=>.ok (N,x.2)
 | .ret _ v=>cn (ia L N v 1) fun _=>.ok (N,m)
 | .print _ v=>cn (ia L N v 1) fun _=>.ok (N,m)
 | .call _ v=>cn (ia L N v 1) fun _=>.ok (N,m)
def lO (L:List Fn) (N:Nm) (m:Nat):List St->e6 (Nm×Nat)
 | []=>.ok (N,m)
 | s::r=>cn (eN L N m s) fun x=>lO L x.1 x.2 r
end
def sG (N:Nm) (m:Nat) (a:Int):List (List UInt8×Int)->e6 (Nm×Nat)
 | []=>.ok (N,m)
 | p::r=>cn (pg N m p a) fun x=>sG x.1 x.2 a r
def ur (L:List Fn) (f:Fn):e6 Unit:=cn (sG [] 0 f.at_ f.params) fun x=>cn (lO L x.1 x.2 f.body) fun _=>.ok ()
def qa (L:List Fn):List Fn->e6 Unit
 | []=>.ok ()
 | f::r=>cn (ur L f) fun _=>qa L r
def nZ:List Fn->List Fn->e6 Unit
 | _,[]=>.ok ()
 | ahead,f::r=>if ahead.any (fun g=>g.name==f.name) then .error (9,f.at_) else nZ (ahead++[f]) r
def nR (f:Fn):Bool:=f.name==[109,97,105,110] && f.params.length==0
end aB
namespace aB
open Go.RowKit Go.Proofs.Tryz
variable {α β:Type}
structure V where
 n:Int
 arr:Option Nat
 deriving DecidableEq
structure aC where
 inp:List Int
 fuel:Nat
 calls:Nat
 out:List Int
 bS:List (List Int)
abbrev Fr:=List (List UInt8×V)
def Fr.get:Fr->List UInt8->V
 | [],_=>⟨0,none⟩
 | p::r,s=>if p.1==s then p.2 else Fr.get r s
def Fr.put:Fr->List UInt8->V->Fr
 | [],s,v=>[(s,v)]
 | p::r,s,v=>if p.1==s then (s,v)::r else p::Fr.put r s v
inductive cz where
 | stop (way:Int)
 | ret (n:Int)
 deriving DecidableEq
abbrev cF (α:Type):=Option (Except cz α×aC)
def aS {α β:Type} (x:cF α) (f:α->aC->cF β):cF β:=match x with
 | some (.ok a,s)=>f a s
 | some (.error e,s)=>some (.error e,s)
 | none=>none
def a6 {α:Type} (a:α) (s:aC):cF α:=some (.ok a,s)
def eP {α:Type} (w:Int) (s:aC):cF α:=some (.error (.stop w),s)
def bN (n:Int):V:=⟨n,none⟩
def cj (b:Bool):Int:=if b then 1 else 0
def eI (s:aC):cF Unit:=if s.fuel=0 then eP 6 s else a6 () { s with fuel:=s.fuel-1 }
def h_ (op:List UInt8) (a b:Int):Option Int :=
 if op=[43] then some (wrap64 (a+b))
 else if op=[45] then some (wrap64 (a-b))
 else if op=[42] then some (wrap64 (a*b))
 else if op=[47]\/op=[37] then (if b=0 then none else if op=[47] then some (wrap64 (a.tdiv b)) else some (a.tmod b))
 else if op=[61,61] then some (cj (a==b))
 else if op=[33,61] then some (cj (a != b))
 else if op=[60] then some (cj (decide (a<b)))
 else if op=[60,61] then some (cj (decide (a<=b)))
 else if op=[62] then some (cj (decide (a > b)))
 else some (cj (decide (a>=b)))
def fF (s:aC) (v:V):List Int:=match v.arr with
 | some i=>s.bS.getD i []
 | none=>[]
def cX (s:aC) (v:V) (i:Int):cF Int:=if i<0\/i>=(fF s v).length then eP 3 s else a6 ((fF s v).getD i.toNat 0) s
def ko (s:aC) (v:V) (i x:Int):aC:=match v.arr with
 | some k=>{ s with bS:=s.bS.set k ((s.bS.getD k []).set i.toNat x) }
 | none=>s
def pj:Fr->List (List UInt8×Int)->List V->Fr
 | F,p::ps,v::vs=>pj (F.put p.1 v) ps vs
 | F,_,_=>F
def r9 (L:List Fn) (s:List UInt8):Fn:=(il L s).getD ⟨[],0,[],[]⟩
mutual
def bk (L:List Fn):Nat->aC->Fr->aL->cF V
 | 0,_,_,_=>none
 | f+1,s,F,.num _ n=>a6 (bN n) s
 | f+1,s,F,.var _ x=>a6 (F.get x) s
 | f+1,s,F,.un _ op x=>aS (bk L f s F x) fun v s=>a6 (bN (if op=[45] then wrap64 (-v.n) else cj (v.n==0))) s
 | f+1,s,F,.bin _ op l r=>aS (bk L f s F l) fun a s =>
    if op=[38,38]\/op=[124,124] then
     (if (a.n != 0)=(op==[124,124]) then a6 (bN (cj (a.n != 0))) s
     else aS (bk L f s F r) fun b s=>a6 (bN (cj (b.n != 0))) s)
    else aS (bk L f s F r) fun b s=>match h_ op a.n b.n with
     | some n=>a6 (bN n) s
     | none=>eP 2 s
 | f+1,s,F,.call _ g args=>aS (jT L f s F args []) fun vs s=>aS (jE L f s g vs) fun n s=>a6 (bN n) s
 | f+1,s,F,.new _ x=>aS (bk L f s F x) fun v s=>if v.n<0\/v.n > 40 then eP 4 s else a6 ⟨0,some s.bS.length⟩ { s with bS:=s.bS++[List.replicate v.n.toNat 0] }
 | f+1,s,F,.len _ x=>aS (bk L f s F x) fun v s=>a6 (bN (fF s v).length) s
 | f+1,s,F,.item _ x i=>aS (bk L f s F x) fun v s=>aS (bk L f s F i) fun k s=>aS (cX s v k.n) fun n s=>a6 (bN n) s
 | f+1,s,F,.input _=>match s.inp with
   | []=>a6 (bN 0) s
   | n::r=>a6 (bN n) { s with inp:=r }
def jT (L:List Fn):Nat->aC->Fr->List aL->List V->cF (List V)
 | 0,_,_,_,_=>none
 | f+1,s,F,[],vs=>a6 vs s
 | f+1,s,F,e::r,vs=>aS (bk L f s F e) fun v s=>jT L f s F r (vs++[v])
def jE (L:List Fn):Nat->aC->List UInt8->List V->cF Int
 | 0,_,_,_=>none
 | f+1,s,g,vs =>
   if s.calls=40 then eP 5 s
   else match fk L f { s with calls:=s.calls+1 } (pj [] (r9 L g).params vs) (r9 L g).body with
    | some (.ok _,t)=>a6 0 { t with calls:=t.calls-1 }
    | some (.error (.ret n),t)=>a6 n { t with calls:=t.calls-1 }
    | some (.error (.stop w),t)=>eP w t
    | none=>none
def fk (L:List Fn):Nat->aC->Fr->List St->cF Fr
 | 0,_,_,_=>none
 | f+1,s,F,[]=>a6 F s
 | f+1,s,F,x::r=>aS (eO L f s F x) fun F s=>fk L f s F r
def eO (L:List Fn):Nat->aC->Fr->St->cF Fr
 | 0,_,_,_=>none
 | f+1,s,F,x=>aS (eI s) fun _ s=>match x with
   | .var _ n v=>aS (bk L f s F v) fun y s=>a6 (F.put n y) s
   | .set _ n v=>aS (bk L f s F v) fun y s=>a6 (F.put n y) s
   | .put _ n i v=>aS (bk L f s F i) fun k s=>aS (bk L f s F v) fun y s=>aS (cX s (F.get n) k.n) fun _ s=>a6 F (ko s (F.get n) k.n y.n)
   | .cond _ v t e=>aS (bk L f s F v) fun c s=>if c.n≠0 then fk L f s F t else fk L f s F e
   | .loop _ v t=>lp L f s F v t
   | .ret _ v=>aS (bk L f s F v) fun y s=>some (.error (.ret y.n),s)
   | .print _ v=>aS (bk L f s F v) fun y s=>if s.out.length>=200 then eP 7 s else a6 F { s with out:=s.out++[y.n] }
   | .call _ v=>aS (bk L f s F v) fun _ s=>a6 F s
def lp (L:List Fn):Nat->aC->Fr->aL->List St->cF Fr
 | 0,_,_,_,_=>none
 | f+1,s,F,v,t=>aS (bk L f s F v) fun c s=>if c.n≠0 then aS (fk L f s F t) fun F s=>aS (eI s) fun _ s=>lp L f s F v t else a6 F s
end
def y5 (L:List Fn) (f:Nat) (given:List Int) (fuel:Nat):Option (Int×Int×List Int) :=
 match jE L f ⟨given,fuel,0,[],[]⟩ [109,97,105,110] [] with
 | some (.ok n,t)=>some (1,n,t.out)
 | some (.error (.stop w),t)=>some (w,0,t.out)
 | some (.error (.ret n),t)=>some (0,0,t.out)
 | none=>none
def dX {α:Type} (s:aC) (x:cF α):Prop:=∀y,x=some y->(∃w,y.1=.error (.stop w))\/y.2.calls=s.calls
theorem dX.ok {s s':aC} (a:α) (h:s'.calls=s.calls):dX s (a6 a s'):=by
 intro y hy;obtain rfl:=(Option.some.inj hy).symm;exact Or.inr h
theorem dX.err {s s':aC} (g:cz) (h:s'.calls=s.calls):dX s (some ((Except.error g:Except cz α),s')):=by
 intro y hy;obtain rfl:=(Option.some.inj hy).symm;exact Or.inr h
theorem dX.bind {s:aC} {x:cF α} {f:α->aC->cF β} (h:dX s x) (hf:∀a t,t.calls=s.calls->dX s (f a t)):dX s (aS x f):=by
 rcases x with _|⟨g|a,t⟩
 ·intro y hy;cases hy
 ·intro y hy
  obtain rfl:=(Option.some.inj hy).symm;rcases h _ rfl with⟨w,hw⟩|h
  ·simp only[Except.error.injEq]at hw
   exact Or.inl ⟨w,by rw[hw]⟩
  ·exact Or.inr h
 ·rcases h _ rfl with⟨w,hw⟩|h
  ·cases hw
  ·exact hf a t h
theorem dX.to {s t:aC} {x:cF α} (h:dX t x) (hs:t.calls=s.calls):dX s x:=fun y hy=>(h y hy).imp id (fun e=>e.trans hs)
theorem dX.none_ (s:aC):dX s (none:cF α):=by intro y hy;cases hy
theorem W8 (s:aC):dX s (eI s):=by
 unfold eI;split
 ·exact dX.err _ (rfl)
 ·exact dX.ok _ (rfl)
theorem Wk (s:aC) (v:V) (i:Int):dX s (cX s v i):=by
 unfold cX;split
 ·exact dX.err _ (rfl)
 ·exact dX.ok _ (rfl)
theorem Ww (s:aC) (v:V) (i x:Int):(ko s v i x).calls=s.calls:=by
 unfold ko;split <;> rfl
structure x9 (R:aC->aC->Prop):Prop where
 refl:∀s,R s s
 trans:∀s t u,R s t->R t u->R s u
 step:∀s:aC,R s { s with fuel:=s.fuel-1 }
 calls:∀ (s:aC) k,R s { s with calls:=k }
 inp:∀ (s:aC) r,R s { s with inp:=r }
 bS:∀ (s:aC) a,s.bS.length<=a.length->R s { s with bS:=a }
 told:∀ (s:aC) n,R s { s with out:=s.out++[n] }
def Goes {α:Type} (R:aC->aC->Prop) (s:aC) (x:cF α):Prop:=∀y,x=some y->R s y.2
section goes
variable {R:aC->aC->Prop}
theorem Goes.ok {s s':aC} (a:α) (h:R s s'):Goes R s (a6 a s'):=by
 intro y hy;obtain rfl:=(Option.some.inj hy).symm;exact h
theorem Goes.err {s s':aC} (g:cz) (h:R s s'):Goes R s (some ((Except.error g:Except cz α),s')):=by
 intro y hy;obtain rfl:=(Option.some.inj hy).symm;exact h
theorem Goes.bind (hR:x9 R) {s:aC} {x:cF α} {f:α->aC->cF β} (h:Goes R s x) (hf:∀a t,Goes R t (f a t)):Goes R s (aS x f):=by
 rcases x with _|⟨g|a,t⟩
 ·intro y hy;cases hy
 ·intro y hy
  obtain rfl:=(Option.some.inj hy).symm;exact h _ rfl
 ·intro y hy
  exact hR.trans _ _ _ (h _ rfl) (hf a t y hy)
theorem Goes.none_ (s:aC):Goes R s (none:cF α):=by intro y hy;cases hy
theorem PG (hR:x9 R) (s:aC):Goes R s (eI s):=by
 unfold eI;split
 ·exact Goes.err _ (hR.refl s)
 ·exact Goes.ok _ (hR.step s)
theorem Kq (hR:x9 R) (s:aC) (v:V) (i:Int):Goes R s (cX s v i):=by
 unfold cX;split
 ·exact Goes.err _ (hR.refl s)
 ·exact Goes.ok _ (hR.refl s)
theorem Pm (hR:x9 R) (s:aC) (v:V) (i x:Int):R s (ko s v i x):=by
 unfold ko;split
 ·exact hR.bS s _ (by simp)
 ·exact hR.refl s
end goes
def H6 (s t:aC):Prop:=s.out <+: t.out
def PV (s t:aC):Prop:=t.fuel<=s.fuel
theorem CE:x9 H6:=⟨fun _=>List.prefix_refl _,fun _ _ _ h k=>List.IsPrefix.trans h k,fun _=>List.prefix_refl _,fun _ _=>List.prefix_refl _,fun _ _=>List.prefix_refl _,fun _ _ _=>List.prefix_refl _,fun s n=>List.prefix_append _ _⟩
theorem C9:x9 PV:=⟨fun _=>Nat.le_refl _,fun _ _ _ h k=>Nat.le_trans k h,fun s=>Nat.sub_le _ _,fun _ _=>Nat.le_refl _,fun _ _=>Nat.le_refl _,fun _ _ _=>Nat.le_refl _,fun s n=>Nat.le_refl _⟩
def oK {α:Type} (x x':cF α):Prop:=∀y,x=some y->x'=some y
theorem oK.refl {α:Type} (x:cF α):oK x x:=fun _ h=>h
theorem oK.bind {α β:Type} {x x':cF α} {f f':α->aC->cF β} (h:oK x x') (hf:∀a t,oK (f a t) (f' a t)):oK (aS x f) (aS x' f'):=by
 intro y hy;rcases x with _|⟨g|a,t⟩
 ·cases hy
 ·rw[h _ rfl];exact hy
 ·rw[h _ rfl];exact hf a t y hy
structure qK (d:Nat) (p:Prop) (s s':aC):Prop where
 calls:s'.calls=s.calls
 out:s'.out=s.out
 bS:s'.bS=s.bS
 fuel:s'.fuel=s.fuel+d
 inp:p->s'.inp=s.inp
theorem qK.fF {d:Nat} {p:Prop} {s s':aC} (h:qK d p s s') (v:V):fF s' v=fF s v:=by
 unfold aB.fF;rw[h.bS]
def More {α:Type} (d:Nat) (p:Prop) (x x':cF α):Prop:=∀y,x=some y->(0<d/\y.1=.error (.stop 6)/\∀y',x'=some y'->y.2.out <+: y'.2.out)\/∃t',x'=some (y.1,t')/\qK d p y.2 t'
section more
variable {d:Nat} {p:Prop}
theorem More.ok {α:Type} {s s':aC} (a:α) (h:qK d p s s'):More d p (a6 a s) (a6 a s'):=by
 intro y hy;obtain rfl:=(Option.some.inj hy).symm;exact Or.inr ⟨s',rfl,h⟩
theorem More.err {α:Type} {s s':aC} (g:cz) (h:qK d p s s'):More d p (some ((Except.error g:Except cz α),s)) (some (.error g,s')):=by
 intro y hy;obtain rfl:=(Option.some.inj hy).symm;exact Or.inr ⟨s',rfl,h⟩
theorem More.none_ {α:Type} (x':cF α):More d p (none:cF α) x':=by intro y hy;cases hy
theorem More.bind {α β:Type} {x x':cF α} {f f':α->aC->cF β} (h:More d p x x') (hf:∀a t t',qK d p t t'->More d p (f a t) (f' a t')) (hg:∀a t',Goes H6 t' (f' a t')):More d p (aS x f) (aS x' f'):=by
 intro y hy;rcases x with _|⟨g|a,t⟩
 ·cases hy
 ·obtain rfl:=(Option.some.inj hy).symm
  rcases h _ rfl with⟨h1,h2,h3⟩|⟨t',h1,h2⟩
  ·refine Or.inl ⟨h1,by simpa using h2,fun y' Ak=>?_⟩
   rcases x' with _|⟨g'|a',u⟩
   ·cases Ak
   ·obtain rfl:=(Option.some.inj Ak).symm
    exact h3 _ rfl
   ·exact List.IsPrefix.trans (h3 _ rfl) (hg a' u y' Ak)
  ·rw[h1]
   exact Or.inr ⟨t',rfl,h2⟩
 ·rcases h _ rfl with⟨h1,h2,h3⟩|⟨t',h1,h2⟩
  ·cases h2
  ·rw[h1]
   exact hf a t t' h2 y hy
theorem ajx {s s':aC} (h:qK d p s s'):More d p (eI s) (eI s'):=by
 unfold eI;by_cases h0:s.fuel=0
 ·rw[if_pos h0]
  by_cases hd:d=0
  ·rw[if_pos (by rw[h.fuel];omega)]
   exact More.err _ h
  ·intro y hy
   obtain rfl:=(Option.some.inj hy).symm;refine Or.inl ⟨by omega,rfl,fun y' Ak=>?_⟩;rw[if_neg (by rw[h.fuel];omega)]at Ak;obtain rfl:=(Option.some.inj Ak).symm
   show s.out <+: s'.out
   rw[h.out];exact List.prefix_refl _
 ·rw[if_neg h0,if_neg (by rw[h.fuel];omega)]
  exact More.ok _ ⟨h.calls,h.out,h.bS,by have:=h.fuel;simp only;omega,h.inp⟩
theorem Wn {s s':aC} (h:qK d p s s') (v:V) (i:Int):More d p (cX s v i) (cX s' v i):=by
 unfold cX;rw[h.fF];split
 ·exact More.err _ h
 ·exact More.ok _ h
theorem ahF {s s':aC} (h:qK d p s s') (v:V) (i x:Int):qK d p (ko s v i x) (ko s' v i x):=by
 unfold ko;split
 ·exact⟨h.calls,h.out,by simp only[h.bS],h.fuel,h.inp⟩
 ·exact h
theorem Sr {α:Type} (s:aC) (x:Except cz α):Goes H6 s (some (x,s)):=by
 intro y hy;obtain rfl:=(Option.some.inj hy).symm;exact CE.refl s
end more
def dr {α:Type} (x:Nat->cF α):Prop:=∃f y,∀g,f<=g->x g=some y
theorem dr.now {α:Type} (y:Except cz α×aC):dr (fun _=>some y):=⟨0,y,fun _ _=>rfl⟩
theorem dr.next {α:Type} {x x':Nat->cF α} (h:dr x) (hx:∀f,x' (f+1)=x f):dr x':=by
 obtain⟨f,y,hy⟩:=h;refine⟨f+1,y,fun g hg=>?_⟩;obtain⟨k,rfl⟩:∃k,g=k+1:=⟨g-1,by omega⟩;rw[hx];exact hy k (by omega)
theorem dr.bind {α β:Type} {x:Nat->cF α} {h:Nat->α->aC->cF β} (hx:dr x) (hf:∀a t,(∃f,x f=some (.ok a,t))->dr (fun f=>h f a t)):dr (fun f=>aS (x f) (h f)):=by
 obtain⟨f,y,hy⟩:=hx;obtain⟨g|a,t⟩:=y
 ·exact⟨f,_,fun k hk=>by show aS (x k) (h k)=_;rw[hy k hk];rfl⟩
 ·obtain⟨f',z,hz⟩:=hf a t ⟨f,hy f (Nat.le_refl _)⟩
  refine⟨max f f',z,fun k hk=>?_⟩
  show aS (x k) (h k)=_
  rw[hy k (by omega)];exact hz k (by omega)
theorem W_ (s:aC):dr (fun _=>eI s):=by
 unfold eI;by_cases h:s.fuel=0
 ·rw[if_pos h];exact dr.now _
 ·rw[if_neg h];exact dr.now _
theorem Wo (s:aC) (v:V) (i:Int):dr (fun _=>cX s v i):=by
 unfold cX;by_cases h:i<0\/i>=(fF s v).length
 ·rw[if_pos h];exact dr.now _
 ·rw[if_neg h];exact dr.now _
def yh:Except cz Int×aC->Int×Int×List Int
 | (.ok n,t)=>(1,n,t.out)
 | (.error (.stop w),t)=>(w,0,t.out)
 | (.error (.ret n),t)=>(0,0,t.out)
end aB
namespace aB
open Go.RowKit Go.Proofs.Tryz
theorem wx (L:List Fn):∀f,(∀s F e,dX s (bk L f s F e))/\(∀s F l vs,dX s (jT L f s F l vs))/\(∀s g vs,dX s (jE L f s g vs))/\(∀s F l,dX s (fk L f s F l))/\(∀s F x,dX s (eO L f s F x))/\(∀s F v t,dX s (lp L f s F v t)):=by
 intro f;induction f with
 | zero=>refine⟨fun s F e=>?_,fun s F l vs=>?_,fun s g vs=>?_,fun s F l=>?_,fun s F x=>?_,fun s F v t=>?_⟩ <;> simp only[bk,jT,jE,fk,eO,lp] <;> exact dX.none_ _
 | succ f ih =>
   obtain⟨i1,i2,i3,i4,i5,i6⟩:=ih;refine⟨fun s F e=>?_,fun s F l vs=>?_,fun s g vs=>?_,fun s F l=>?_,fun s F x=>?_,fun s F v t=>?_⟩
   ·cases e with
    | num a k=>simp only[bk];exact dX.ok _ (rfl)
    | var a x=>simp only[bk];exact dX.ok _ (rfl)
    | un a op x=>simp only[bk];exact (i1 s F x).bind fun v t ht=>dX.ok _ ht
    | bin a op x y =>
      simp only[bk];refine (i1 s F x).bind fun v t ht=>?_
      split
      ·split
       ·exact dX.ok _ ht
       ·exact ((i1 t F y).to ht).bind fun v2 t2 cP=>dX.ok _ cP
      ·refine ((i1 t F y).to ht).bind fun v2 t2 cP=>?_
       split
       ·exact dX.ok _ cP
       ·exact dX.err _ cP
    | call a g l=>simp only[bk];exact (i2 s F l []).bind fun vs t ht=>((i3 t g vs).to ht).bind fun n t2 cP=>dX.ok _ cP
    | new a x =>
      simp only[bk];refine (i1 s F x).bind fun v t ht=>?_
      split
      ·exact dX.err _ ht
      ·exact dX.ok _ ht
    | len a x=>simp only[bk];exact (i1 s F x).bind fun v t ht=>dX.ok _ ht
    | item a x y=>simp only[bk];exact (i1 s F x).bind fun v t ht=>((i1 t F y).to ht).bind fun k t2 cP=>((Wk t2 v k.n).to cP).bind fun n t3 kN=>dX.ok _ kN
    | input a =>
      simp only[bk];split
      ·exact dX.ok _ (rfl)
      ·exact dX.ok _ (rfl)
   ·cases l with
    | nil=>simp only[jT];exact dX.ok _ (rfl)
    | cons e r=>simp only[jT];exact (i1 s F e).bind fun v t ht=>(i2 t F r _).to ht
   ·simp only[jE]
    split
    ·exact dX.err _ (rfl)
    ·have hb:=i4 { s with calls:=s.calls+1 } (pj [] (r9 L g).params vs) (r9 L g).body
     split
     ·rename_i hh
      rcases hb _ hh with⟨w,hw⟩|h1
      ·cases hw
      ·exact dX.ok _ (by simp only at h1 ⊢;omega)
     ·rename_i hh
      rcases hb _ hh with⟨w,hw⟩|h1
      ·cases hw
      ·exact dX.ok _ (by simp only at h1 ⊢;omega)
     ·intro y hy
      obtain rfl:=(Option.some.inj hy).symm;exact Or.inl ⟨_,rfl⟩
     ·exact dX.none_ _
   ·cases l with
    | nil=>simp only[fk];exact dX.ok _ (rfl)
    | cons x r=>simp only[fk];exact (i5 s F x).bind fun F t ht=>(i4 t F r).to ht
   ·simp only[eO]
    refine (W8 s).bind fun _ t ht=>?_
    cases x with
    | var a n v=>exact ((i1 t F v).to ht).bind fun y t2 cP=>dX.ok _ cP
    | set a n v=>exact ((i1 t F v).to ht).bind fun y t2 cP=>dX.ok _ cP
    | put a n i v=>exact ((i1 t F i).to ht).bind fun k t2 cP=>((i1 t2 F v).to cP).bind fun y t3 kN=>((Wk t3 _ _).to kN).bind fun _ t4 Ob=>dX.ok _ (by rw[Ww];exact Ob)
    | cond a v t1 e1 =>
      refine ((i1 t F v).to ht).bind fun c t2 cP=>?_
      split
      ·exact (i4 t2 F t1).to cP
      ·exact (i4 t2 F e1).to cP
    | loop a v t1=>exact (i6 t F v t1).to ht
    | ret a v=>exact ((i1 t F v).to ht).bind fun y t2 cP=>dX.err _ cP
    | print a v =>
      refine ((i1 t F v).to ht).bind fun y t2 cP=>?_
      split
      ·exact dX.err _ cP
      ·exact dX.ok _ cP
    | call a v=>exact ((i1 t F v).to ht).bind fun _ t2 cP=>dX.ok _ cP
   ·simp only[lp]
    refine (i1 s F v).bind fun c t1 ht=>?_
    split
    ·exact ((i4 t1 F t).to ht).bind fun nA t2 cP=>((W8 t2).to cP).bind fun _ t3 kN=>(i6 t3 nA v t).to kN
    ·exact dX.ok _ ht
section goes
variable {R:aC->aC->Prop}
theorem Iy (hR:x9 R) (L:List Fn):∀f,(∀s F e,Goes R s (bk L f s F e))/\(∀s F l vs,Goes R s (jT L f s F l vs))/\(∀s g vs,Goes R s (jE L f s g vs))/\(∀s F l,Goes R s (fk L f s F l))/\(∀s F x,Goes R s (eO L f s F x))/\(∀s F v t,Goes R s (lp L f s F v t)):=by
 intro f;induction f with
 | zero=>refine⟨fun s F e=>?_,fun s F l vs=>?_,fun s g vs=>?_,fun s F l=>?_,fun s F x=>?_,fun s F v t=>?_⟩ <;> simp only[bk,jT,jE,fk,eO,lp] <;> exact Goes.none_ _
 | succ f ih =>
   obtain⟨i1,i2,i3,i4,i5,i6⟩:=ih;refine⟨fun s F e=>?_,fun s F l vs=>?_,fun s g vs=>?_,fun s F l=>?_,fun s F x=>?_,fun s F v t=>?_⟩
   ·cases e with
    | num a k=>simp only[bk];exact Goes.ok _ (hR.refl s)
    | var a x=>simp only[bk];exact Goes.ok _ (hR.refl s)
    | un a op x=>simp only[bk];exact (i1 s F x).bind hR fun v t=>Goes.ok _ (hR.refl t)
    | bin a op x y =>
      simp only[bk];refine (i1 s F x).bind hR fun v t=>?_
      split
      ·split
       ·exact Goes.ok _ (hR.refl t)
       ·exact (i1 t F y).bind hR fun v2 t2=>Goes.ok _ (hR.refl t2)
      ·refine (i1 t F y).bind hR fun v2 t2=>?_
       split
       ·exact Goes.ok _ (hR.refl t2)
       ·exact Goes.err _ (hR.refl t2)
    | call a g l=>simp only[bk];exact (i2 s F l []).bind hR fun vs t=>(i3 t g vs).bind hR fun n t2=>Goes.ok _ (hR.refl t2)
    | new a x =>
      simp only[bk];refine (i1 s F x).bind hR fun v t=>?_
      split
      ·exact Goes.err _ (hR.refl t)
      ·exact Goes.ok _ (hR.bS t _ (by simp))
    | len a x=>simp only[bk];exact (i1 s F x).bind hR fun v t=>Goes.ok _ (hR.refl t)
    | item a x y=>simp only[bk];exact (i1 s F x).bind hR fun v t=>(i1 t F y).bind hR fun k t2=>(Kq hR t2 v k.n).bind hR fun n t3=>Goes.ok _ (hR.refl t3)
    | input a =>
      simp only[bk];split
      ·exact Goes.ok _ (hR.refl s)
      ·exact Goes.ok _ (hR.inp s _)
   ·cases l with
    | nil=>simp only[jT];exact Goes.ok _ (hR.refl s)
    | cons e r=>simp only[jT];exact (i1 s F e).bind hR fun v t=>i2 t F r _
   ·simp only[jE]
    split
    ·exact Goes.err _ (hR.refl s)
    ·have hb:=i4 { s with calls:=s.calls+1 } (pj [] (r9 L g).params vs) (r9 L g).body
     split
     ·rename_i hh
      exact Goes.ok _ (hR.trans _ _ _ (hR.trans _ _ _ (hR.calls s _) (hb _ hh)) (hR.calls _ _))
     ·rename_i hh
      exact Goes.ok _ (hR.trans _ _ _ (hR.trans _ _ _ (hR.calls s _) (hb _ hh)) (hR.calls _ _))
     ·rename_i hh
      exact Goes.err _ (hR.trans _ _ _ (hR.calls s _) (hb _ hh))
     ·exact Goes.none_ _
   ·cases l with
    | nil=>simp only[fk];exact Goes.ok _ (hR.refl s)
    | cons x r=>simp only[fk];exact (i5 s F x).bind hR fun F t=>i4 t F r
   ·simp only[eO]
    refine (PG hR s).bind hR fun _ t=>?_
    cases x with
    | var a n v=>exact (i1 t F v).bind hR fun y t2=>Goes.ok _ (hR.refl t2)
    | set a n v=>exact (i1 t F v).bind hR fun y t2=>Goes.ok _ (hR.refl t2)
    | put a n i v=>exact (i1 t F i).bind hR fun k t2=>(i1 t2 F v).bind hR fun y t3=>(Kq hR t3 _ _).bind hR fun _ t4=>Goes.ok _ (Pm hR t4 _ _ _)
    | cond a v t1 e1 =>
      refine (i1 t F v).bind hR fun c t2=>?_
      split
      ·exact i4 t2 F t1
      ·exact i4 t2 F e1
    | loop a v t1=>exact i6 t F v t1
    | ret a v=>exact (i1 t F v).bind hR fun y t2=>Goes.err _ (hR.refl t2)
    | print a v =>
      refine (i1 t F v).bind hR fun y t2=>?_
      split
      ·exact Goes.err _ (hR.refl t2)
      ·exact Goes.ok _ (hR.told t2 _)
    | call a v=>exact (i1 t F v).bind hR fun _ t2=>Goes.ok _ (hR.refl t2)
   ·simp only[lp]
    refine (i1 s F v).bind hR fun c t1=>?_
    split
    ·exact (i4 t1 F t).bind hR fun nA t2=>(PG hR t2).bind hR fun _ t3=>i6 t3 nA v t
    ·exact Goes.ok _ (hR.refl t1)
end goes
end aB
namespace aB
open Go.RowKit Go.Proofs.Tryz
section more
variable {d:Nat} {p:Prop}
end more
theorem aar {L:List Fn} {f:Nat} {s:aC} {g:List UInt8} {vs:List V} {y:Except cz Int×aC} (h:jE L f s g vs=some y):(∃n,y.1=.ok n)\/∃w,y.1=.error (.stop w):=by
 cases f with
 | zero=>simp only[jE]at h;cases h
 | succ f =>
   simp only[jE]at h;split at h
   ·obtain rfl:=(Option.some.inj h).symm
    exact Or.inr ⟨_,rfl⟩
   ·split at h
    ·obtain rfl:=(Option.some.inj h).symm
     exact Or.inl ⟨_,rfl⟩
    ·obtain rfl:=(Option.some.inj h).symm
     exact Or.inl ⟨_,rfl⟩
    ·obtain rfl:=(Option.some.inj h).symm
     exact Or.inr ⟨_,rfl⟩
    ·cases h
theorem WN (L:List Fn) (f:Nat) (given:List Int) (fuel:Nat):y5 L f given fuel=(jE L f ⟨given,fuel,0,[],[]⟩ [109,97,105,110] []).map yh:=by
 unfold y5;cases jE L f ⟨given,fuel,0,[],[]⟩ [109,97,105,110] [] with
 | none=>rfl
 | some y =>
   obtain⟨(w|n)|n,t⟩:=y <;> rfl
end aB
namespace aB
open Go.RowKit Go.Proofs.Tryz
variable {n:Nat} {s t:aC} {α:Type}
def AO (L:List Fn) (c:Nat):Prop:=∀s:aC,s.calls+c=40->∀g vs,dr (fun f=>jE L f s g vs)
section soon
variable {L:List Fn} {c:Nat}
theorem yg {a:α} {x:Nat->cF α} (hk:∀f,dX s (x f)) (h:∃f,x f=some (.ok a,t)):t.calls=s.calls:=by
 obtain⟨f,hf⟩:=h;rcases hk f _ hf with⟨w,hw⟩|h1
 ·cases hw
 ·exact h1
theorem Ie {a:α} {x:Nat->cF α} (hk:∀f,Goes PV s (x f)) (h:∃f,x f=some (.ok a,t)):t.fuel<=s.fuel:=by
 obtain⟨f,hf⟩:=h;exact hk f _ hf
mutual
theorem xh (hc:AO L c) (F:Fr):(e:aL)->(s:aC)->s.calls+c=40->dr (fun f=>bk L f s F e)
 | .num a k,s,h=>(dr.now (.ok (bN k),s)).next fun f=>by rw[bk];rfl
 | .var a x,s,h=>(dr.now (.ok (F.get x),s)).next fun f=>by rw[bk];rfl
 | .un a op x,s,h=>((xh hc F x s h).bind (h:=fun _ (v:V) s=>a6 (bN (if op=[45] then wrap64 (-v.n) else cj (v.n==0))) s) fun v t _=>dr.now _).next fun f=>by rw[bk]
 | .bin a op l r,s,h=>by
   refine ((xh hc F l s h).bind (h:=fun f (a:V) s=>if op=[38,38]\/op=[124,124] then (if (a.n != 0)=(op==[124,124]) then a6 (bN (cj (a.n != 0))) s else aS (bk L f s F r) fun b s=>a6 (bN (cj (b.n != 0))) s)
    else aS (bk L f s F r) fun b s=>match h_ op a.n b.n with
        | some n=>a6 (bN n) s
        | none=>eP 2 s) fun v t ht=>?_).next fun f=>by first|(rw[bk];done)|(rw[bk];rfl)
   have hk:=yg (fun f=>(wx L f).1 s F l) ht;have hr:=xh hc F r t (by omega);split
   ·split
    ·exact dr.now _
    ·exact hr.bind (h:=fun _ (b:V) s=>a6 (bN (cj (b.n != 0))) s) fun _ _ _=>dr.now _
   ·refine hr.bind (h:=fun _ (b:V) s=>match h_ op v.n b.n with
        | some n=>a6 (bN n) s
        | none=>eP 2 s) fun b t2 _=>?_
    cases h_ op v.n b.n with
    | none=>exact dr.now _
    | some n=>exact dr.now _
 | .call a g l,s,h=>by
   refine ((Sv hc F l s [] h).bind (h:=fun f vs s=>aS (jE L f s g vs) fun n s=>a6 (bN n) s) fun vs t ht=>?_).next fun f=>by rw[bk]
   have hk:=yg (fun f=>(wx L f).2.1 s F l []) ht;exact (hc t (by omega) g vs).bind (h:=fun _ (n:Int) s=>a6 (bN n) s) fun _ _ _=>dr.now _
 | .new a x,s,h=>by
   refine ((xh hc F x s h).bind (h:=fun _ (v:V) s=>if v.n<0\/v.n > 40 then eP 4 s else a6 ⟨0,some s.bS.length⟩ { s with bS:=s.bS++[List.replicate v.n.toNat 0] }) fun v t _=>?_).next fun f=>by rw[bk]
   by_cases hv:v.n<0\/v.n > 40
   ·simp only[if_pos hv];exact dr.now _
   ·simp only[if_neg hv];exact dr.now _
 | .len a x,s,h=>((xh hc F x s h).bind (h:=fun _ (v:V) s=>a6 (bN (fF s v).length) s) fun v t _=>dr.now _).next fun f=>by rw[bk]
 | .item a x i,s,h=>by
   refine ((xh hc F x s h).bind (h:=fun f (v:V) s=>aS (bk L f s F i) fun k s=>aS (cX s v k.n) fun n s=>a6 (bN n) s) fun v t ht=>?_).next fun f=>by rw[bk]
   have hk:=yg (fun f=>(wx L f).1 s F x) ht;exact (xh hc F i t (by omega)).bind (h:=fun _ (k:V) s=>aS (cX s v k.n) fun n s=>a6 (bN n) s) fun k t2 _=>(Wo t2 v k.n).bind (h:=fun _ (n:Int) s=>a6 (bN n) s) fun _ _ _=>dr.now _
 | .input a,s,h=>by
   cases hi:s.inp with
   | nil=>exact (dr.now (.ok (bN 0),s)).next fun f=>by rw[bk,hi];rfl
   | cons n r=>exact (dr.now (.ok (bN n),{ s with inp:=r })).next fun f=>by rw[bk,hi];rfl
theorem Sv (hc:AO L c) (F:Fr):(l:List aL)->(s:aC)->(vs:List V)->s.calls+c=40->dr (fun f=>jT L f s F l vs)
 | [],s,vs,h=>(dr.now (.ok vs,s)).next fun f=>by rw[jT];rfl
 | e::r,s,vs,h=>by
   refine ((xh hc F e s h).bind (h:=fun f (v:V) s=>jT L f s F r (vs++[v])) fun v t ht=>?_).next fun f=>by rw[jT]
   have hk:=yg (fun f=>(wx L f).1 s F e) ht;exact Sv hc F r t _ (by omega)
end
def Ey (L:List Fn) (c n:Nat):Prop:=∀s:aC,s.calls+c=40->s.fuel<=n->∀F l,dr (fun f=>fk L f s F l)
def Fe (L:List Fn) (c n:Nat):Prop:=∀s:aC,s.calls+c=40->s.fuel<=n->∀F v t,dr (fun f=>lp L f s F v t)
theorem AE (h:s.calls+c=40) (hn:s.fuel<=n) {k:Nat->aC->cF Fr} (hk:∀t:aC,t.calls+c=40->t.fuel<n->dr (fun f=>k f t)):dr (fun f=>aS (eI s) fun _ t=>k f t):=by
 refine (W_ s).bind (h:=fun f (_:Unit) t=>k f t) fun _ t ht=>?_
 obtain⟨_,ht⟩:=ht;unfold eI at ht;split at ht
 ·cases ht
 ·have h3:=Option.some.inj ht
  simp only[Prod.mk.injEq]at h3;obtain⟨-,rfl⟩:=h3;exact hk _ h (by simp only;omega)
theorem ajJ (hc:AO L c) (hb:∀m,m<n->Ey L c m/\Fe L c m) (s:aC) (h:s.calls+c=40) (hn:s.fuel<=n) (F:Fr) (x:St):dr (fun f=>eO L f s F x):=by
 have zX:=fun (t:aC) (h1:t.calls+c=40) e=>xh hc F e t h1
 cases x with
 | var a m v=>exact (AE h hn (k:=fun f s=>aS (bk L f s F v) fun y s=>a6 (F.put m y) s) fun t h1 h2=>(zX t h1 v).bind (h:=fun _ (y:V) s=>a6 (F.put m y) s) fun _ _ _=>dr.now _).next fun f=>by simp only[eO]
 | set a m v=>exact (AE h hn (k:=fun f s=>aS (bk L f s F v) fun y s=>a6 (F.put m y) s) fun t h1 h2=>(zX t h1 v).bind (h:=fun _ (y:V) s=>a6 (F.put m y) s) fun _ _ _=>dr.now _).next fun f=>by simp only[eO]
 | put a m i v =>
   refine (AE h hn (k:=fun f s=>aS (bk L f s F i) fun k s=>aS (bk L f s F v) fun y s=>aS (cX s (F.get m) k.n) fun _ s=>a6 F (ko s (F.get m) k.n y.n)) fun t h1 h2=>?_).next fun f=>by simp only[eO]
   refine (zX t h1 i).bind (h:=fun f (k:V) s=>aS (bk L f s F v) fun y s=>aS (cX s (F.get m) k.n) fun _ s=>a6 F (ko s (F.get m) k.n y.n)) fun k t2 cP=>?_
   have hk:=yg (fun f=>(wx L f).1 t F i) cP;exact (zX t2 (by omega) v).bind (h:=fun _ (y:V) s=>aS (cX s (F.get m) k.n) fun _ s=>a6 F (ko s (F.get m) k.n y.n)) fun y t3 _=>(Wo t3 _ _).bind (h:=fun _ (_:Int) s=>a6 F (ko s (F.get m) k.n y.n)) fun _ _ _=>dr.now _
 | cond a v t1 e1 =>
   refine (AE h hn (k:=fun f s=>aS (bk L f s F v) fun c s=>if c.n≠0 then fk L f s F t1 else fk L f s F e1) fun t h1 h2=>?_).next fun f=>by simp only[eO]
   refine (zX t h1 v).bind (h:=fun f (c:V) s=>if c.n≠0 then fk L f s F t1 else fk L f s F e1) fun k t2 cP=>?_
   have hk:=yg (fun f=>(wx L f).1 t F v) cP;have hf:=Ie (fun f=>(Iy C9 L f).1 t F v) cP;have qb:=(hb t2.fuel (by omega)).1 t2 (by omega) (Nat.le_refl _) F;by_cases hz:k.n≠0
   ·simp only[if_pos hz];exact qb t1
   ·simp only[if_neg hz];exact qb e1
 | loop a v t1=>exact (AE h hn (k:=fun f s=>lp L f s F v t1) fun t h1 h2=>(hb t.fuel h2).2 t h1 (Nat.le_refl _) F v t1).next fun f=>by simp only[eO]
 | ret a v=>exact (AE h hn (k:=fun f s=>aS (bk L f s F v) fun y s=>some (.error (.ret y.n),s)) fun t h1 h2=>(zX t h1 v).bind (h:=fun _ (y:V) s=>some (.error (.ret y.n),s)) fun _ _ _=>dr.now _).next fun f=>by simp only[eO]
 | print a v =>
   refine (AE h hn (k:=fun f s=>aS (bk L f s F v) fun y s=>if s.out.length>=200 then eP 7 s else a6 F { s with out:=s.out++[y.n] }) fun t h1 h2=>?_).next fun f=>by simp only[eO]
   refine (zX t h1 v).bind (h:=fun _ (y:V) s=>if s.out.length>=200 then eP 7 s else a6 F { s with out:=s.out++[y.n] }) fun y t2 _=>?_
   by_cases hz:t2.out.length>=200
   ·simp only[if_pos hz];exact dr.now _
   ·simp only[if_neg hz];exact dr.now _
 | call a v=>exact (AE h hn (k:=fun f s=>aS (bk L f s F v) fun _ s=>a6 F s) fun t h1 h2=>(zX t h1 v).bind (h:=fun _ (_:V) s=>a6 F s) fun _ _ _=>dr.now _).next fun f=>by simp only[eO]
theorem RV (hc:AO L c) (hb:∀m,m<n->Ey L c m/\Fe L c m):Ey L c n:=by
 intro s h hn F l;induction l generalizing s F with
 | nil=>exact (dr.now (.ok F,s)).next fun f=>by rw[fk];rfl
 | cons x r ih =>
   refine ((ajJ hc hb s h hn F x).bind (h:=fun f F s=>fk L f s F r) fun nA t ht=>?_).next fun f=>by rw[fk]
   have hk:=yg (fun f=>(wx L f).2.2.2.2.1 s F x) ht;have hf:=Ie (fun f=>(Iy C9 L f).2.2.2.2.1 s F x) ht;exact ih t (by omega) (by omega) nA
theorem akA (hc:AO L c) (hb:∀m,m<n->Ey L c m/\Fe L c m):Fe L c n:=by
 intro s h hn F v t;refine ((xh hc F v s h).bind (h:=fun f (c:V) s=>if c.n≠0 then aS (fk L f s F t) fun F s=>aS (eI s) fun _ s=>lp L f s F v t else a6 F s) fun k t1 ht=>?_).next fun f=>by rw[lp]
 have hk:=yg (fun f=>(wx L f).1 s F v) ht;have hf:=Ie (fun f=>(Iy C9 L f).1 s F v) ht;by_cases hz:k.n≠0
 ·simp only[if_pos hz]
  refine (RV hc hb t1 (by omega) (by omega) F t).bind (h:=fun f F s=>aS (eI s) fun _ s=>lp L f s F v t) fun nA t2 cP=>?_
  have hk2:=yg (fun f=>(wx L f).2.2.2.1 t1 F t) cP;have hf2:=Ie (fun f=>(Iy C9 L f).2.2.2.1 t1 F t) cP;refine (W_ t2).bind (h:=fun f _ s=>lp L f s nA v t) fun _ t3 kN=>?_
  obtain⟨_,kN⟩:=kN;unfold eI at kN;split at kN
  ·cases kN
  ·have h3:=Option.some.inj kN
   simp only[Prod.mk.injEq]at h3;obtain⟨-,rfl⟩:=h3;exact (hb (t2.fuel-1) (by omega)).2 _ (by simp only;omega) (Nat.le_refl _) nA v t
 ·simp only[if_neg hz];exact dr.now _
theorem ZQ (hc:AO L c) (n:Nat):Ey L c n/\Fe L c n:=by
 induction n using Nat.strongRecOn with
 | ind n ih=>exact⟨RV hc ih,akA hc ih⟩
end soon
theorem R3 (L:List Fn):(c:Nat)->AO L c
 | 0=>fun s h g vs=>(dr.now (.error (.stop 5),s)).next fun f=>by simp only[jE];rw[if_pos (by omega)];rfl
 | c+1=>fun s h g vs=>by
   have hb:=(ZQ (R3 L c) s.fuel).1 { s with calls:=s.calls+1 } (by simp only;omega) (Nat.le_refl _) (pj [] (r9 L g).params vs) (r9 L g).body;obtain⟨f,y,hy⟩:=hb;refine⟨f+1,(match y with
    | (.ok _,t)=>(.ok 0,{ t with calls:=t.calls-1 })
    | (.error (.ret n),t)=>(.ok n,{ t with calls:=t.calls-1 })
    | (.error (.stop w),t)=>(.error (.stop w),t)),fun k hk=>?_⟩
   obtain⟨j,rfl⟩:∃j,k=j+1:=⟨k-1,by omega⟩;have h1:=hy j (by omega);simp only at h1;simp only[jE];rw[if_neg (by omega),h1];obtain⟨(w|n)|G,t⟩:=y <;> rfl
theorem aiy (L:List Fn) (given:List Int) (fuel:Nat):∃f x,∀g,f<=g->y5 L g given fuel=some x:=by
 obtain⟨f,y,hy⟩:=R3 L 40 ⟨given,fuel,0,[],[]⟩ rfl [109,97,105,110] [];exact⟨f,yh y,fun g hg=>by have h1:=hy g hg;simp only at h1;rw[WN,h1];rfl⟩
end aB
namespace aW
open Go.RowKit aB Go.Proofs.Tryz
structure ax where
 code:Int
 dst:Int
 a:Int
 b:Int
 c:Int
 n:Int
 op:List UInt8
 label:Int
 name:List UInt8
 args:List Int
 deriving DecidableEq
structure ar where
 name:List UInt8
 params:Int
 types:List Int
 steps:List ax
 deriving DecidableEq
def ix:List (List UInt8):=[[43],[45],[42],[47],[37],[61,61],[33,61],[60],[60,61],[62],[62,61]]
def dA (op:List UInt8) (a b:Int):Int×Int :=
 if op=[43] then (wrap64 (a+b),0)
 else if op=[45] then (wrap64 (a-b),0)
 else if op=[42] then (wrap64 (a*b),0)
 else if op=[47]\/op=[37] then (if b=0 then (0,2) else if op=[47] then (wrap64 (a.tdiv b),0) else (a.tmod b,0))
 else if op=[61,61] then (cj (a==b),0)
 else if op=[33,61] then (cj (a != b),0)
 else if op=[60] then (cj (decide (a<b)),0)
 else if op=[60,61] then (cj (decide (a<=b)),0)
 else if op=[62] then (cj (decide (a > b)),0)
 else if op=[62,61] then (cj (decide (a>=b)),0)
 else (0,0)
def bO (f:ar) (p:Int):Int:=if p<0\/p>=f.types.length then -1 else f.types.getD p.toNat 0
def cp (code:Int):List Int :=
 if code=1 then [1,0,0,0]
 else if code=3 then [1,1,1,0]
 else if code=5 then [0,1,0,0]
 else if code=8 then [0,1,0,0]
 else if code=9 then [2,1,0,0]
 else if code=10 then [1,2,0,0]
 else if code=11 then [1,2,1,0]
 else if code=12 then [0,2,1,1]
 else if code=13 then [0,1,0,0]
 else if code=14 then [1,0,0,0]
 else [0,0,0,0]
def bu (f:ar) (t p:Int):Bool:=!(decide (t > 0) && bO f p != t)
def kf (f:ar) (l:Int):Bool:=f.steps.any (fun s=>s.code==6 && s.label==l)
def cx (L:List ar) (f:ar) (s:ax):Bool :=
 if s.code=2 then decide (bO f s.dst > 0) && bO f s.dst==bO f s.a
 else if s.code=7 then match L.find? (fun g=>g.name==s.name) with
    | none=>false
    | some g=>decide ((s.args.length:Int)=g.params) && bO f s.dst==1 && (s.args.map (bO f))==g.types.take s.args.length
 else if s.code<1\/s.code > 14 then false
 else bu f ((cp s.code).getD 0 0) s.dst && bu f ((cp s.code).getD 1 0) s.a && bu f ((cp s.code).getD 2 0) s.b && bu f ((cp s.code).getD 3 0) s.c
    && (!(s.code==4 || s.code==5) || kf f s.label) && (!(s.code==3) || ix.contains s.op)
def nU:List Int->List ax->Bool
 | _,[]=>true
 | T,s::r=>if s.code=6 then (if T.contains s.label then false else nU (T++[s.label]) r) else nU T r
def l4 (L:List ar) (f:ar):Bool :=
 decide (f.types.length<=3000) && decide (1<=f.steps.length) && decide (f.steps.length<=6000)
    && (match f.steps.getLast? with|some s=>s.code==8 || s.code==4|none=>false)
    && f.types.all (fun t=>t==1 || t==2) && nU [] f.steps && f.steps.all (cx L f)
def jW:List ar->List ar->Bool
 | _,[]=>true
 | ahead,f::r=>if f.params<0\/f.params > f.types.length\/ahead.any (fun g=>g.name==f.name) then false else jW (ahead++[f]) r
def p9 (L:List ar):Bool:=decide (L.length<=12) && jW [] L && L.all (l4 L) && L.any (fun f=>f.name==[109,97,105,110] && f.params==0)
def oh (L:List ar) (g:List UInt8):Option ar:=L.find? (fun f=>f.name==g)
def kI (L:List ar) (g:List UInt8):ar:=(oh L g).getD ⟨[],0,[],[]⟩
def fq:List ax->Int->Nat->Nat->Nat
 | [],_,_,k=>k
 | s::r,l,i,k=>fq r l (i+1) (if s.code=6/\s.label=l then i else k)
def jD (f:ar) (l:Int):Nat:=fq f.steps l 0 0
abbrev bp:=List V
def bp.get (v:bp) (p:Int):V:=v.getD p.toNat ⟨0,none⟩
def bp.put (v:bp) (p:Int) (x:V):bp:=v.set p.toNat x
def cq (v:bp) (x:ax) (s:aC):cF bp :=
 if x.code=1 then a6 (v.put x.dst (bN x.n)) s
 else if x.code=2 then a6 (v.put x.dst (v.get x.a)) s
 else if x.code=3 then (if (dA x.op (v.get x.a).n (v.get x.b).n).2≠0 then eP (dA x.op (v.get x.a).n (v.get x.b).n).2 s else a6 (v.put x.dst (bN (dA x.op (v.get x.a).n (v.get x.b).n).1)) s)
 else if x.code=9 then (if (v.get x.a).n<0\/(v.get x.a).n > 40 then eP 4 s else a6 (v.put x.dst ⟨0,some s.bS.length⟩) { s with bS:=s.bS++[List.replicate (v.get x.a).n.toNat 0] })
 else if x.code=10 then a6 (v.put x.dst (bN (fF s (v.get x.a)).length)) s
 else if x.code=11 then aS (cX s (v.get x.a) (v.get x.b).n) fun n s=>a6 (v.put x.dst (bN n)) s
 else if x.code=12 then aS (cX s (v.get x.a) (v.get x.b).n) fun _ s=>a6 v (ko s (v.get x.a) (v.get x.b).n (v.get x.c).n)
 else if x.code=13 then (if s.out.length>=200 then eP 7 s else a6 v { s with out:=s.out++[(v.get x.a).n] })
 else if x.code=14 then (match s.inp with
    | []=>a6 (v.put x.dst (bN 0)) s
    | n::r=>a6 (v.put x.dst (bN n)) { s with inp:=r })
 else a6 v s
def gR (args:List V) (n:Nat):bp:=(args.take n)++List.replicate (n-args.length) ⟨0,none⟩
mutual
def dw (L:List ar):Nat->aC->ar->bp->Nat->cF Int
 | 0,_,_,_,_=>none
 | f+1,s,F,v,i=>match F.steps[i]? with
   | none=>a6 0 s
   | some x=>aS (eI s) fun _ s =>
     if x.code=4 then dw L f s F v (jD F x.label+1)
     else if x.code=5 then (if (v.get x.a).n=0 then dw L f s F v (jD F x.label+1) else dw L f s F v (i+1))
     else if x.code=7 then aS (dS L f s x.name (x.args.map v.get)) fun n s=>dw L f s F (v.put x.dst (bN n)) (i+1)
     else if x.code=8 then a6 (v.get x.a).n s
     else aS (cq v x s) fun v s=>dw L f s F v (i+1)
def dS (L:List ar):Nat->aC->List UInt8->List V->cF Int
 | 0,_,_,_=>none
 | f+1,s,g,vs =>
   if s.calls=40 then eP 5 s
   else aS (dw L f { s with calls:=s.calls+1 } (kI L g) (gR vs (kI L g).types.length) 0) fun n t=>a6 n { t with calls:=t.calls-1 }
end
def runM (L:List ar) (f:Nat) (given:List Int) (fuel:Nat):Option (Int×Int×List Int) :=
 match dS L f ⟨given,fuel,0,[],[]⟩ [109,97,105,110] [] with
 | some (.ok n,t)=>some (1,n,t.out)
 | some (.error (.stop w),t)=>some (w,0,t.out)
 | some (.error (.ret n),t)=>some (0,0,t.out)
 | none=>none
end aW
namespace aW
open Go.RowKit bB Go.Maps aB Go.Proofs.Tryz
variable {W W':World} {S T:Nat->Prop} {v z:Value} {n i aQ c:Nat} {a:Int} {F:Int->Value} {l:List Int} {α:Type} {s:ax} {L:List ar} {t e:TypeId}
def str (l:List UInt8):Value:=.string ⟨l.toArray⟩
def dh (W:World) (S:Nat->Prop) (v:Value) (l:List Int):Prop :=
 ∃a c,v=.slice a l.length c/\l.length<=c/\c<=maxLen/\(a=none->l.length=0)/\∀ (i:Nat) (x:Int),l[i]?=some x->∃g o,a=some ⟨g,o,none⟩/\¬S g/\W.cell? ⟨g,o+i,none⟩=some (.int .i64 x)
theorem dh.mods (h:dh W S v l) (hm:ag S W W') (hT:∀k,k<W.heap.size->T k->S k):dh W' T v l:=by
 obtain⟨a,c,h1,h3,h4,h5,h6⟩:=h;refine⟨a,c,h1,h3,h4,h5,fun i x hx=>?_⟩;obtain⟨g,o,e1,e2,e3⟩:=h6 i x hx;exact⟨g,o,e1,fun ht=>e2 (hT g (World.block_lt_of_cell? W _ e3) ht),hm.cellOf e3 e2⟩
def C0 (W:World) (g o:Nat) (s:ax) (av:Value):Prop :=
 W.cell? ⟨g,o,none⟩=some (.int .i64 s.code)/\W.cell? ⟨g,o+1,none⟩=some (.int .i64 s.dst)/\W.cell? ⟨g,o+2,none⟩=some (.int .i64 s.a)/\W.cell? ⟨g,o+3,none⟩=some (.int .i64 s.b)/\W.cell? ⟨g,o+4,none⟩=some (.int .i64 s.c)/\
 W.cell? ⟨g,o+5,none⟩=some (.int .i64 s.n)/\W.cell? ⟨g,o+6,none⟩=some (str s.op)/\W.cell? ⟨g,o+7,none⟩=some (.int .i64 s.label)/\W.cell? ⟨g,o+8,none⟩=some (str s.name)/\W.cell? ⟨g,o+9,none⟩=some av
theorem C0.mods {g o:Nat} {av:Value} (h:C0 W g o s av) (hm:ag S W W') (hn:¬S g):C0 W' g o s av:=by
 obtain⟨h0,h1,h2,h3,h4,h5,h6,h7,h8,dJ⟩:=h;exact⟨hm.cellOf h0 hn,hm.cellOf h1 hn,hm.cellOf h2 hn,hm.cellOf h3 hn,hm.cellOf h4 hn,hm.cellOf h5 hn,hm.cellOf h6 hn,hm.cellOf h7 hn,hm.cellOf h8 hn,hm.cellOf dJ hn⟩
def aY (s:ax) (av:Value):List Value:=[.int .i64 s.code,.int .i64 s.dst,.int .i64 s.a,.int .i64 s.b,.int .i64 s.c,.int .i64 s.n,str s.op,.int .i64 s.label,str s.name,av]
def jS (W:World) (S:Nat->Prop) (v:Value) (l:List ax):Prop :=
 ∃a c,v=.slice a l.length c/\l.length<=c/\c<=maxLen/\(a=none->l.length=0)/\∀ (i:Nat) (s:ax),l[i]?=some s->∃g o av,a=some ⟨g,o,none⟩/\¬S g/\C0 W g (o+i*10) s av/\dh W S av s.args
theorem jS.mods {l:List ax} (h:jS W S v l) (hm:ag S W W') (hT:∀k,k<W.heap.size->T k->S k):jS W' T v l:=by
 obtain⟨a,c,h1,h3,h4,h5,h6⟩:=h;refine⟨a,c,h1,h3,h4,h5,fun i x hx=>?_⟩;obtain⟨g,o,av,e1,e2,e3,e4⟩:=h6 i x hx;exact⟨g,o,av,e1,fun ht=>e2 (hT g (World.block_lt_of_cell? W _ e3.1) ht),e3.mods hm e2,e4.mods hm hT⟩
def iM (W:World) (S:Nat->Prop) (v:Value) (L:List ar):Prop :=
 ∃a c,v=.slice a L.length c/\L.length<=c/\c<=maxLen/\(a=none->L.length=0)/\∀ (i:Nat) (f:ar),L[i]?=some f->∃g o tv sv,a=some ⟨g,o,none⟩/\¬S g /\
  W.cell? ⟨g,o+i*4,none⟩=some (str f.name)/\W.cell? ⟨g,o+i*4+1,none⟩=some (.int .i64 f.params)/\W.cell? ⟨g,o+i*4+2,none⟩=some tv/\W.cell? ⟨g,o+i*4+3,none⟩=some sv/\dh W S tv f.types/\jS W S sv f.steps
theorem iM.mods (h:iM W S v L) (hm:ag S W W') (hT:∀k,k<W.heap.size->T k->S k):iM W' T v L:=by
 obtain⟨a,c,h1,h3,h4,h5,h6⟩:=h;refine⟨a,c,h1,h3,h4,h5,fun i x hx=>?_⟩;obtain⟨g,o,tv,sv,e1,e2,e3,e4,cG,ew,dv,dc⟩:=h6 i x hx;exact⟨g,o,tv,sv,e1,fun ht=>e2 (hT g (World.block_lt_of_cell? W _ e3) ht),hm.cellOf e3 e2,hm.cellOf e4 e2,hm.cellOf cG e2,hm.cellOf ew e2,dv.mods hm hT,dc.mods hm hT⟩
def jc (W:World) (S:Nat->Prop) (f:ar) (v:Value):Prop:=∃ta tc sa sc,v=.agg #[str f.name,f.params,.slice ta f.types.length tc,.slice sa f.steps.length sc]/\dh W S (.slice ta f.types.length tc) f.types/\jS W S (.slice sa f.steps.length sc) f.steps
theorem jc.mods {f:ar} (h:jc W S f v) (hm:ag S W W') (hT:∀k,k<W.heap.size->T k->S k):jc W' T f v:=by
 obtain⟨ta,tc,sa,sc,h1,h2,h3⟩:=h;exact⟨ta,tc,sa,sc,h1,h2.mods hm hT,h3.mods hm hT⟩
def dF (W:World) (S:Nat->Prop) (s:ax) (v:Value):Prop:=∃aa ac,v=.agg (aY s (.slice aa s.args.length ac)).toArray/\dh W S (.slice aa s.args.length ac) s.args
theorem dF.mods (h:dF W S s v) (hm:ag S W W') (hT:∀k,k<W.heap.size->T k->S k):dF W' T s v:=by
 obtain⟨aa,ac,h1,h2⟩:=h;exact⟨aa,ac,h1,h2.mods hm hT⟩
theorem dh.form (h:dh W S v l):∃a c,v=.slice a l.length c/\l.length<=c/\c<=9223372036854775807/\(a=none->l.length=0):=by
 obtain⟨a,c,h1,h3,h4,h5,h6⟩:=h;exact⟨a,c,h1,h3,h4,h5⟩
theorem jS.form {l:List ax} (h:jS W S v l):∃a c,v=.slice a l.length c/\l.length<=c/\c<=9223372036854775807/\(a=none->l.length=0):=by
 obtain⟨a,c,h1,h3,h4,h5,h6⟩:=h;exact⟨a,c,h1,h3,h4,h5⟩
theorem iM.form {l:List ar} (h:iM W S v l):∃a c,v=.slice a l.length c/\l.length<=c/\c<=9223372036854775807/\(a=none->l.length=0):=by
 obtain⟨a,c,h1,h3,h4,h5,h6⟩:=h;exact⟨a,c,h1,h3,h4,h5⟩
theorem dh.get {a:Option Addr} (h:dh W S (.slice a n c) l) (hi:i<l.length):∃g o,a=some ⟨g,o,none⟩/\W.cell? ⟨g,o+i,none⟩=some (.int .i64 l[i]):=by
 obtain⟨a',c',h1,h3,h4,h5,h6⟩:=h;obtain⟨rfl,-,rfl⟩:=Value.slice.inj h1;obtain⟨g,o,e1,e2,e3⟩:=h6 i l[i] (anx hi);exact⟨g,o,e1,e3⟩
theorem jS.get {a:Option Addr} {l:List ax} (h:jS W S (.slice a n c) l) (hi:i<l.length):∃g o aa ac,a=some ⟨g,o,none⟩/\C0 W g (o+i*10) l[i] (.slice aa l[i].args.length ac)/\dh W S (.slice aa l[i].args.length ac) l[i].args:=by
 obtain⟨a',c',h1,h3,h4,h5,h6⟩:=h;obtain⟨rfl,-,rfl⟩:=Value.slice.inj h1;obtain⟨g,o,av,e1,e2,e3,e4⟩:=h6 i l[i] (anx hi);obtain⟨aa,ac,rfl,-⟩:=e4.form;exact⟨g,o,aa,ac,e1,e3,e4⟩
theorem iM.get {a:Option Addr} (h:iM W S (.slice a n c) L) (hi:i<L.length):∃g o ta tc sa sc,a=some ⟨g,o,none⟩/\
 W.cell? ⟨g,o+i*4,none⟩=some (str L[i].name)/\W.cell? ⟨g,o+i*4+1,none⟩=some (.int .i64 L[i].params)/\W.cell? ⟨g,o+i*4+2,none⟩=some (.slice ta L[i].types.length tc)/\W.cell? ⟨g,o+i*4+3,none⟩=some (.slice sa L[i].steps.length sc)/\dh W S (.slice ta L[i].types.length tc) L[i].types/\jS W S (.slice sa L[i].steps.length sc) L[i].steps:=by
 obtain⟨a',c',h1,h3,h4,h5,h6⟩:=h;obtain⟨rfl,-,rfl⟩:=Value.slice.inj h1;obtain⟨g,o,tv,sv,e1,e2,e3,e4,cG,ew,dv,dc⟩:=h6 i L[i] (anx hi);obtain⟨ta,tc,rfl,-⟩:=dv.form;obtain⟨sa,sc,rfl,-⟩:=dc.form;exact⟨g,o,ta,tc,sa,sc,e1,e3,e4,cG,ew,dv,dc⟩
def BO (v:Value):Option (DataW Value×List MemPlace):=some (.held v,[])
theorem yN:Keyed prog 3:=int_keyed underlying3
def b9 (a:Int):Prop:=-9223372036854775808<=a/\a<=9223372036854775807
theorem XG (h:b9 a):(Lit.int .i64 a).wf=true:=by
 unfold b9 at h;simp[Lit.wf,IntKind.min,IntKind.max,IntKind.signed,IntKind.bits];omega
theorem DX (h:b9 a):keyOf prog 3 (.int .i64 a)=some (.int .i64 a):=by
 have hw:=XG h;simp[keyOf,mapKey,underlying3,hw]
def fw (W:World) (aQ n:Nat) (z:Value) (F:Int->Value):Prop :=
 ∃D:DataW Value,W.ownsMap prog 3 BO aQ n D/\∀a:Int,D.atKey (.int .i64 a) (.held z)=.held (F a)
theorem fw.mods (h:fw W aQ n z F) (hm:ag S W W') (hn:¬S aQ):fw W' aQ n z F:=by
 obtain⟨D,⟨es,cl,h1,h2⟩,h3⟩:=h;exact⟨D,⟨es,cl,hm.Bu h1 hn,h2⟩,h3⟩
theorem fw.lt (h:fw W aQ n z F):aQ<W.heap.size:=by
 obtain⟨D,h1,_⟩:=h;exact h1.lt
theorem fw.new (W:World) (z:Value):fw (W.alloc (.map #[] 0)) W.heap.size 0 z (fun _=>z) :=
 ⟨_,World.ownsMap_made _ _ _ _,fun s=>rfl⟩
theorem fw.look (h:fw W aQ n z F) (ht:prog.underlying t=some (.map 3 e)) (hz:(zeroValue e).run prog W=.ok z W) (ha:b9 a) :
 (Instr.lookup t (.map (some aQ)) (.int .i64 a) false).run prog W=.ok (F a) W:=by
 obtain⟨D,h1,h2⟩:=h;obtain⟨v,ps,hr,hv⟩:=h1.lookup yN ht hz (zd:=.held z) (zp:=[]) rfl (DX ha);rw[h2 a]at hv;simp only[BO,anG,an8,DataW.held.injEq]at hv;rw[hr,hv.1]
theorem fw.put (h:fw W aQ n z F) (ht:prog.underlying t=some (.map 3 e)) (ha:b9 a) (v:Value) (hn:n<maxLen) :
 ∃w',(Instr.mapUpdate t (.map (some aQ)) (.int .i64 a) v).run prog W=.ok () w'/\fw w' aQ (n+1) z (fun x=>if x=a then v else F x)/\ag (·=aQ) W w':=by
 obtain⟨D,h1,h2⟩:=h;obtain⟨w',hr,ho,hg⟩:=h1.update yN ht hn (DX ha) (d:=.held v) (ps:=[]) rfl;refine⟨w',hr,⟨_,ho,fun x=>?_⟩,ag.of_grownBy hg (fun k hk _=>by cases hk;rfl)⟩;by_cases hx:x=a
 ·subst hx
  simp only[if_true];rw[atKey_put_same (k:=.int .i64 x) h1.isMap (by trivial)]
 ·simp only[if_neg hx]
  rw[atKey_put_other (by simpa using hx),h2 x]
def jy:Option Nat->Int
 | some i=>i
 | none=>-1
theorem findIdx_take {p:α->Bool} {l:List α} (h:(l.take i).findIdx? p=none) {x:α} (hx:l[i]?=some x):(l.take (i+1)).findIdx? p=if p x then some i else none:=by
 induction l generalizing i with
 | nil=>simp at hx
 | cons a r ih =>
   cases i with
   | zero =>
     simp only[anO,anG]at hx;subst hx;simp[aoQ]
   | succ i =>
     simp only[an4,aoQ]at h ⊢;split at h
     ·cases h
     ·rename_i hn
      simp only[aoF]at h;rw[if_neg hn,ih h (by simpa using hx)];split <;> rfl
theorem By {p:α->Bool} {l:List α} {j:Nat} (h:(l.take i).findIdx? p=some j):l.findIdx? p=some j:=by
 induction l generalizing i j with
 | nil=>simp at h
 | cons a r ih =>
   cases i with
   | zero=>simp at h
   | succ i =>
     simp only[an4,aoQ]at h ⊢;split at h
     ·rename_i hy
      rw[if_pos hy];exact h
     ·rename_i hn
      rw[if_neg hn];obtain⟨k,hk,rfl⟩:=an7.1 h;rw[ih hk];rfl
theorem GM (l:List α) (p:α->Bool):decide (jy (l.findIdx? p)>=0)=l.any p:=by
 rw[<-List.findIdx?_isSome];cases l.findIdx? p with
 | none=>rfl
 | some i=>simp[jy]
theorem U8 (L:List ar) (v:Value) (q:Nat) (p:ar->Bool) (W:World) (hL:iM W ai v L)
 (hK:∀ (i:Nat) (hi:i<L.length) (w:World) (fv:Value),ag ai W w->jc w ai L[i] fv->Calls prog 87 #[fv,.pointer (some ⟨q,0,none⟩)] w fun e w'=>e=.returned (.bool (p L[i]))/\ag ai w w') :
 Calls prog 53 #[v,.func (.func 87) #[] #[.pointer (some ⟨q,0,none⟩)]] W fun e w=>e=.returned (.int .i64 (jy (L.findIdx? p)))/\ag ai W w:=by
 obtain⟨a,c,rfl,iZ,hcm,h0⟩:=hL.form;have cu:=af hL;have HK:=af hK;obtain⟨n,hn⟩:=aq (L.length);rw[<-hn]at iZ h0 ⊢;have aT:=af hn;clear hn hL hK;go_in;go_wp2_with fail
 go_loopw [5,8] (fun _ iv wr=>∃i:Nat,i<=n/\iv=.int .i64 i/\Hid ((L.take i).findIdx? p=none)/\Hid (ag ai W wr)) (fun _ iv _=>(n-intOf iv).toNat)
 case atStart=>exact⟨0,anC _,rfl,af (by simp),af ay⟩
 case round =>
  obtain⟨i,hi,rfl,aI,az⟩:=hrel;by_cases hlt:i<n
  ·have bm:i<L.length:=by have:=aT.out;omega
   have sT:=af bm;obtain⟨g,o,ta,tc,sa,sc,rfl,c0,c1,c2,c3,hT,hS⟩:=(cu.mods az (fun _ _ k=>k)).get bm;have cA:(i:Int)<(n:Int):=(by omega);have bA:=af (findIdx_take aI (anx bm));have a_:=af (HK i bm wr _ az ⟨ta,tc,sa,sc,rfl,hT,hS⟩);clear hT hS;generalize L[i]=x at *;clear bm;obtain⟨b,hb⟩:=aq (p x);rw[<-hb]at a_ bA;clear hb;unfold str at *;go_wp2_with fail;refine a_.mono ?_;rintro e w1 ⟨rfl,aO⟩;have aD:=af (az.trans aO);clear aO;cases b
   ·have cW:Hid ((L.take (i+1)).findIdx? p=none):=af (by rw[bA.out];rfl)
    go_wp2_with fail;exact⟨⟨i+1,by omega,by go_num,cW,aD⟩,by simp[intOf];omega⟩
   ·have cW:Hid (L.findIdx? p=some i):=af (By (i:=i+1) (by rw[bA.out];rfl))
    go_wp2_with fail;go_ret;rw[cW.out];exact⟨rfl,aD⟩
  ·obtain rfl:i=n:=by omega
   have bb:Hid (L.findIdx? p=none):=af (by
        have:=aI.out;rwa [anN (by have:=aT.out;omega)]at this)
   go_wp2_with fail;go_ret;rw[bb.out];exact⟨rfl,az⟩
theorem Ow (L:List ar) (v:Value) (q:Nat) (p:ar->Bool) (W:World) (hL:iM W ai v L)
 (hK:∀ (i:Nat) (hi:i<L.length) (w:World) (fv:Value),ag ai W w->jc w ai L[i] fv->Calls prog 25 #[fv,.pointer (some ⟨q,0,none⟩)] w fun e w'=>e=.returned (.bool (p L[i]))/\ag ai w w') :
 Calls prog 53 #[v,.func (.func 25) #[] #[.pointer (some ⟨q,0,none⟩)]] W fun e w=>e=.returned (.int .i64 (jy (L.findIdx? p)))/\ag ai W w:=by
 obtain⟨a,c,rfl,iZ,hcm,h0⟩:=hL.form;have cu:=af hL;have HK:=af hK;obtain⟨n,hn⟩:=aq (L.length);rw[<-hn]at iZ h0 ⊢;have aT:=af hn;clear hn hL hK;go_in;go_wp2_with fail
 go_loopw [5,8] (fun _ iv wr=>∃i:Nat,i<=n/\iv=.int .i64 i/\Hid ((L.take i).findIdx? p=none)/\Hid (ag ai W wr)) (fun _ iv _=>(n-intOf iv).toNat)
 case atStart=>exact⟨0,anC _,rfl,af (by simp),af ay⟩
 case round =>
  obtain⟨i,hi,rfl,aI,az⟩:=hrel;by_cases hlt:i<n
  ·have bm:i<L.length:=by have:=aT.out;omega
   have sT:=af bm;obtain⟨g,o,ta,tc,sa,sc,rfl,c0,c1,c2,c3,hT,hS⟩:=(cu.mods az (fun _ _ k=>k)).get bm;have cA:(i:Int)<(n:Int):=(by omega);have bA:=af (findIdx_take aI (anx bm));have a_:=af (HK i bm wr _ az ⟨ta,tc,sa,sc,rfl,hT,hS⟩);clear hT hS;generalize L[i]=x at *;clear bm;obtain⟨b,hb⟩:=aq (p x);rw[<-hb]at a_ bA;clear hb;unfold str at *;go_wp2_with fail;refine a_.mono ?_;rintro e w1 ⟨rfl,aO⟩;have aD:=af (az.trans aO);clear aO;cases b
   ·have cW:Hid ((L.take (i+1)).findIdx? p=none):=af (by rw[bA.out];rfl)
    go_wp2_with fail;exact⟨⟨i+1,by omega,by go_num,cW,aD⟩,by simp[intOf];omega⟩
   ·have cW:Hid (L.findIdx? p=some i):=af (By (i:=i+1) (by rw[bA.out];rfl))
    go_wp2_with fail;go_ret;rw[cW.out];exact⟨rfl,aD⟩
  ·obtain rfl:i=n:=by omega
   have bb:Hid (L.findIdx? p=none):=af (by
        have:=aI.out;rwa [anN (by have:=aT.out;omega)]at this)
   go_wp2_with fail;go_ret;rw[bb.out];exact⟨rfl,az⟩
theorem M5 (L:List ar) (v:Value) (q:Nat) (p:ar->Bool) (W:World) (hL:iM W ai v L)
 (hK:∀ (i:Nat) (hi:i<L.length) (w:World) (fv:Value),ag ai W w->jc w ai L[i] fv->Calls prog 25 #[fv,.pointer (some ⟨q,0,none⟩)] w fun e w'=>e=.returned (.bool (p L[i]))/\ag ai w w') :
 Calls prog 24 #[v,.func (.func 25) #[] #[.pointer (some ⟨q,0,none⟩)]] W fun e w=>e=.returned (.bool (L.any p))/\ag ai W w:=by
 have H:=af (Ow L v q p W hL hK);obtain⟨a,c,rfl,iZ,hcm,h0⟩:=hL.form;rw[<-GM];clear hL hK h0 iZ hcm;generalize jy (L.findIdx? p)=k at *;go_in;go_wp2_with fail;refine H.mono ?_;rintro e w1 ⟨rfl,aO⟩;go_wp2_with fail;go_ret;exact⟨rfl,aO⟩
theorem Ov (L:List ar) (v:Value) (p:ar->Bool) (W:World) (hL:iM W ai v L)
 (hK:∀ (i:Nat) (hi:i<L.length) (w:World) (fv:Value),ag ai W w->jc w ai L[i] fv->Calls prog 27 #[fv] w fun e w'=>e=.returned (.bool (p L[i]))/\ag ai w w') :
 Calls prog 53 #[v,.func (.func 27) #[] #[]] W fun e w=>e=.returned (.int .i64 (jy (L.findIdx? p)))/\ag ai W w:=by
 obtain⟨a,c,rfl,iZ,hcm,h0⟩:=hL.form;have cu:=af hL;have HK:=af hK;obtain⟨n,hn⟩:=aq (L.length);rw[<-hn]at iZ h0 ⊢;have aT:=af hn;clear hn hL hK;go_in;go_wp2_with fail
 go_loopw [5,8] (fun _ iv wr=>∃i:Nat,i<=n/\iv=.int .i64 i/\Hid ((L.take i).findIdx? p=none)/\Hid (ag ai W wr)) (fun _ iv _=>(n-intOf iv).toNat)
 case atStart=>exact⟨0,anC _,rfl,af (by simp),af ay⟩
 case round =>
  obtain⟨i,hi,rfl,aI,az⟩:=hrel;by_cases hlt:i<n
  ·have bm:i<L.length:=by have:=aT.out;omega
   have sT:=af bm;obtain⟨g,o,ta,tc,sa,sc,rfl,c0,c1,c2,c3,hT,hS⟩:=(cu.mods az (fun _ _ k=>k)).get bm;have cA:(i:Int)<(n:Int):=(by omega);have bA:=af (findIdx_take aI (anx bm));have a_:=af (HK i bm wr _ az ⟨ta,tc,sa,sc,rfl,hT,hS⟩);clear hT hS;generalize L[i]=x at *;clear bm;obtain⟨b,hb⟩:=aq (p x);rw[<-hb]at a_ bA;clear hb;unfold str at *;go_wp2_with fail;refine a_.mono ?_;rintro e w1 ⟨rfl,aO⟩;have aD:=af (az.trans aO);clear aO;cases b
   ·have cW:Hid ((L.take (i+1)).findIdx? p=none):=af (by rw[bA.out];rfl)
    go_wp2_with fail;exact⟨⟨i+1,by omega,by go_num,cW,aD⟩,by simp[intOf];omega⟩
   ·have cW:Hid (L.findIdx? p=some i):=af (By (i:=i+1) (by rw[bA.out];rfl))
    go_wp2_with fail;go_ret;rw[cW.out];exact⟨rfl,aD⟩
  ·obtain rfl:i=n:=by omega
   have bb:Hid (L.findIdx? p=none):=af (by
        have:=aI.out;rwa [anN (by have:=aT.out;omega)]at this)
   go_wp2_with fail;go_ret;rw[bb.out];exact⟨rfl,az⟩
theorem M4 (L:List ar) (v:Value) (p:ar->Bool) (W:World) (hL:iM W ai v L)
 (hK:∀ (i:Nat) (hi:i<L.length) (w:World) (fv:Value),ag ai W w->jc w ai L[i] fv->Calls prog 27 #[fv] w fun e w'=>e=.returned (.bool (p L[i]))/\ag ai w w') :
 Calls prog 24 #[v,.func (.func 27) #[] #[]] W fun e w=>e=.returned (.bool (L.any p))/\ag ai W w:=by
 have H:=af (Ov L v p W hL hK);obtain⟨a,c,rfl,iZ,hcm,h0⟩:=hL.form;rw[<-GM];clear hL hK h0 iZ hcm;generalize jy (L.findIdx? p)=k at *;go_in;go_wp2_with fail;refine H.mono ?_;rintro e w1 ⟨rfl,aO⟩;go_wp2_with fail;go_ret;exact⟨rfl,aO⟩
theorem aeW (L:List Int) (v:Value) (p:Int->Bool) (W:World) (hL:dh W ai v L)
 (hK:∀ (i:Nat) (hi:i<L.length) (w:World) (fv:Value),ag ai W w->fv=.int .i64 L[i]->Calls prog 55 #[fv] w fun e w'=>e=.returned (.bool (p L[i]))/\ag ai w w') :
 Calls prog 84 #[v,.func (.func 55) #[] #[]] W fun e w=>e=.returned (.int .i64 (jy (L.findIdx? p)))/\ag ai W w:=by
 obtain⟨a,c,rfl,iZ,hcm,h0⟩:=hL.form;have cu:=af hL;have HK:=af hK;obtain⟨n,hn⟩:=aq (L.length);rw[<-hn]at iZ h0 ⊢;have aT:=af hn;clear hn hL hK;go_in;go_wp2_with fail
 go_loopw [5,8] (fun _ iv wr=>∃i:Nat,i<=n/\iv=.int .i64 i/\Hid ((L.take i).findIdx? p=none)/\Hid (ag ai W wr)) (fun _ iv _=>(n-intOf iv).toNat)
 case atStart=>exact⟨0,anC _,rfl,af (by simp),af ay⟩
 case round =>
  obtain⟨i,hi,rfl,aI,az⟩:=hrel;by_cases hlt:i<n
  ·have bm:i<L.length:=by have:=aT.out;omega
   have sT:=af bm;obtain⟨g,o,rfl,c0⟩:=(cu.mods az (fun _ _ k=>k)).get bm;have cA:(i:Int)<(n:Int):=(by omega);have bA:=af (findIdx_take aI (anx bm));have a_:=af (HK i bm wr _ az rfl);generalize L[i]=x at *;clear bm;obtain⟨b,hb⟩:=aq (p x);rw[<-hb]at a_ bA;clear hb;go_wp2_with fail;refine a_.mono ?_;rintro e w1 ⟨rfl,aO⟩;have aD:=af (az.trans aO);clear aO;cases b
   ·have cW:Hid ((L.take (i+1)).findIdx? p=none):=af (by rw[bA.out];rfl)
    go_wp2_with fail;exact⟨⟨i+1,by omega,by go_num,cW,aD⟩,by simp[intOf];omega⟩
   ·have cW:Hid (L.findIdx? p=some i):=af (By (i:=i+1) (by rw[bA.out];rfl))
    go_wp2_with fail;go_ret;rw[cW.out];exact⟨rfl,aD⟩
  ·obtain rfl:i=n:=by omega
   have bb:Hid (L.findIdx? p=none):=af (by
        have:=aI.out;rwa [anN (by have:=aT.out;omega)]at this)
   go_wp2_with fail;go_ret;rw[bb.out];exact⟨rfl,az⟩
theorem adk (L:List Int) (v:Value) (p:Int->Bool) (W:World) (hL:dh W ai v L)
 (hK:∀ (i:Nat) (hi:i<L.length) (w:World) (fv:Value),ag ai W w->fv=.int .i64 L[i]->Calls prog 55 #[fv] w fun e w'=>e=.returned (.bool (p L[i]))/\ag ai w w') :
 Calls prog 54 #[v,.func (.func 55) #[] #[]] W fun e w=>e=.returned (.bool (L.any p))/\ag ai W w:=by
 have H:=af (aeW L v p W hL hK);obtain⟨a,c,rfl,iZ,hcm,h0⟩:=hL.form;rw[<-GM];clear hL hK h0 iZ hcm;generalize jy (L.findIdx? p)=k at *;go_in;go_wp2_with fail;refine H.mono ?_;rintro e w1 ⟨rfl,aO⟩;go_wp2_with fail;go_ret;exact⟨rfl,aO⟩

/- A part of what stands behind. -/
import Derived.Test.YtnicpmoanjddbaaGreatDoorFp08
set_option maxRecDepth 100000
set_option maxHeartbeats 4000000
set_option linter.all false
namespace Go.Proofs.YtnicpmoanjddbaaGreatDoor
namespace aB
open Go.RowKit bB Go.Proofs.Tryz
variable {L:List Fn} {W w W0 w' bw a7:World} {P M T S b_:Nat->Prop} {b f ak fm i n m:Nat} {A jk:List (Nat×Nat)} {s s':aC} {α β:Type} {N:Nm} {v ov v':Value} {x e y:aL} {F:FuncId} {args:Array Value} {Q:Ending->World->Prop} {r:Except cz Fr×aC}
theorem abn (ih:lq L f) (a:Int) (op:List UInt8) (x y:aL) (b ak:Nat) (P M:Nat->Prop) (A:List (Nat×Nat)) (s:aC) (F:Fr) (fm n:Nat) (W:World) (v:Value) (r:Except cz V×aC) (h:bt W b ak L P M A s) (hF:fQ W P M A fm n F) (hg:gX L (.bin a op x y)) (he:aX W (fun k=>¬P k) (.bin a op x y) v) (hr:bk L (f+1) s F (.bin a op x y)=some r) :
 Calls prog 120 #[.pointer (some ⟨b,0,none⟩),.map (some fm),v] W (dP W b ak L P ai M A qp r):=by
 have k_:∀ (fn:Go.Fn) (first cap:Array Value) (w:World),(Instr.makeFunc fn first cap).run prog w=.ok (.func fn first cap) w:=fun _ _ _ _=>rfl
 obtain⟨W3,hW3⟩:=aq (((W.alloc (.cells #[.pointer (some ⟨b,0,none⟩)] 108)).alloc (.cells #[.map (some fm)] 162)).alloc (.cells #[.int .i64 0,.slice none 0 0] 164));have az:Hid (ag ai W W3):=af (by rw[hW3];exact ((ay.alloc _).alloc _).alloc _);have aA:Hid (iL W W3 P M b fm W.heap.size):=af (by rw[hW3];exact iL.new fm h);have aP:=af (h.quiet az);have bb:=af (hF.ext (Ext.quiet az) (anB A));have a_:Hid (Ext ai M M W W3):=af (Ext.quiet az);have bH:=af (anB A);simp only[aX]at he;obtain⟨bq,nz,⟨g,rfl,jh,hv⟩,b5,dm⟩:=he;simp only[gX]at hg;have b5:=vF b5 h a_;have dm:=vF dm h a_;have aT:=af (GG ih hg.1 P b ak fm W.heap.size F bq M A s n W W3 aA aP bb b5);have qG:=af (GG ih hg.2 P b ak fm W.heap.size F nz);have jh:P g:=Classical.not_not.1 jh;have kZ:=af (anw dm jh);have bQ:Hid (aw W3 g (uk 3 a 0 [] op bq nz bV) 223):=af (hv.mods az id);have d0:W3.cell? ⟨g,0,none⟩=some (.int .i64 3):=bQ.cell rfl;have d5:W3.cell? ⟨g,5,none⟩=some bq:=bQ.cell rfl;obtain⟨iA,rfl⟩:=b5.ptr;obtain⟨zb,rfl⟩:=dm.ptr;have hl:=hv.lt;clear h hv jh hF hg b5 dm ih;by_cases hop:op=[38,38]\/op=[124,124]
 ·have aj:Hid (aS (s9 L f s F x) (fun k s=>if (k != 0)=(op==[124,124]) then a6 (bN (cj (k != 0))) s else aS (bk L f s F y) fun b s=>a6 (bN (cj (b.n != 0))) s)=some r):=af (by rw[Br,<-hr];simp only[bk,if_pos hop,Br])
  have NQ:Hid (op=[38,38]\/op=[124,124]):=af hop;clear hr hop;go_in;go_upto_region 2 with (fail)
  rw[<-hW3];clear hW3;go_wp2_with fail;refine uO a_ bH aj aT ?_ ?_
  ·rintro g s' rfl aV w H
   obtain⟨M',aK,k1,k2,k3⟩:=H.out;go_wp2;exact⟨rfl,⟨aV,rfl⟩,M',aK,k1,k2,k3⟩
  ·rintro k s'-bh e w M' aK jB bI cO gg ft eK
   obtain rfl:=jB;have bY:=af (aA.step cO);have pP:=af (bb.ext cO ft);have jC:=af (C7 bQ kZ.2 aP cO);have e4:w.cell? ⟨g,4,none⟩=some (.string ⟨op.toArray⟩):=jC.cell rfl;have ew:w.cell? ⟨g,6,none⟩=some (.pointer (some ⟨zb,0,none⟩)):=jC.cell rfl;have Gt:=vF kZ.1 aP cO;have dW:=af bh;obtain⟨c,hc⟩:=aq ((k != 0));have gi:Hid ((if c=(op==[124,124]) then a6 (bN (cj c)) s' else aS (s9 L f s' F y) fun b s=>a6 (bN (cj (b != 0))) s)=some r):=af (by rw[Br,hc];exact bh);have hc1:(k != 0)=c:=hc.symm;have sU:=af (qG M' aK s' n W w bY bI pP Gt);clear hc aj bh dW aT qG d0 d5 Gt bb bQ;rcases NQ.out with rfl|rfl
   all_goals
        clear NQ;cases c
        all_goals
         first
         | (have oa:=af ((anz gi).symm:r=(.ok (bN (cj _)),s'))
            clear gi sU;have r0:=(bY).c6.ah 0;have r1:=(bY).c6.ah 1;have z0:=(bY).c6.free 0;have cS:=(bY).c6.free 1;go_wp2_with fail;refine (Pa _ _).mono ?_;rintro e w1 ⟨rfl,rfl⟩;go_wp2_with fail;rw[oa.out];exact bY.ret bI gg eK (Or.inl ⟨rfl,rfl⟩) rfl rfl rfl rfl)
         | (have oa:Hid (aS (s9 L f s' F y) (fun b s=>a6 (bN (cj (b != 0))) s)=some r):=af gi
            clear gi;go_wp2_with fail;refine uO gg eK oa sU ?_ ?_
            ·rintro g s' rfl aV w H
             obtain⟨M',aK,k1,k2,k3⟩:=H.out;go_wp2;exact⟨rfl,⟨aV,rfl⟩,M',aK,k1,k2,k3⟩
            ·rintro k2 uQ-pU e aJ eH fZ jB dB ly mi jP mh
             obtain rfl:=jB;have cM:=af (bY.step ly);have r0:=(cM).c6.ah 0;have r1:=(cM).c6.ah 1;have z0:=(cM).c6.free 0;have cS:=(cM).c6.free 1;have A_:=af (anz pU).symm;obtain⟨c2,hc2⟩:=aq ((k2 != 0));rw[<-hc2]at A_;have hc3:(k2 != 0)=c2:=hc2.symm;clear hc2 oa pU sU;cases c2
             all_goals
              go_wp2_with fail;refine (Pa _ _).mono ?_;rintro e w1 ⟨rfl,rfl⟩;go_wp2_with fail;rw[A_.out];exact cM.ret dB mi mh (Or.inl ⟨rfl,rfl⟩) rfl rfl rfl rfl)
 ·have aj:Hid (aS (s9 L f s F x) (fun k s=>aS (s9 L f s F y) fun b s=>match h_ op k b with
        | some n=>a6 (bN n) s
        | none=>eP 2 s)=some r):=af (by
   simp only[Br];rw[<-hr];simp only[bk,if_neg hop]
   congr 1)
  have aea:(op==[38,38])=false:=by simpa using fun h=>hop (Or.inl h)
  have NQ:(op==[124,124])=false:=by simpa using fun h=>hop (Or.inr h)
  clear hr hop;go_in;go_upto_region 2 with (fail)
  rw[<-hW3];clear hW3;go_wp2_with fail;refine uO a_ bH aj aT ?_ ?_
  ·rintro g s' rfl aV w H
   obtain⟨M',aK,k1,k2,k3⟩:=H.out;go_wp2;exact⟨rfl,⟨aV,rfl⟩,M',aK,k1,k2,k3⟩
  ·rintro k s'-bh e w M' aK jB bI cO gg ft eK
   obtain rfl:=jB;have bY:=af (aA.step cO);have pP:=af (bb.ext cO ft);have jC:=af (C7 bQ kZ.2 aP cO);have e4:w.cell? ⟨g,4,none⟩=some (.string ⟨op.toArray⟩):=jC.cell rfl;have ew:w.cell? ⟨g,6,none⟩=some (.pointer (some ⟨zb,0,none⟩)):=jC.cell rfl;have Gt:=vF kZ.1 aP cO;clear aj aT d0 d5 bb bQ;have lA:ag ai w w.drew:=ay.drew;have sQ:Hid (Ext ai M M' W w.drew):=af (gg.trans (Ext.quiet lA));have kV:=af (bY.step (Ext.quiet lA));have fK:=af (bI.quiet lA);have jm:=af (jC.mods lA id);have sU:=af (qG M' aK s' n W w.drew kV fK (pP.ext (Ext.quiet lA) (anB _)) (vF Gt bI (Ext.quiet lA)));have HN:=af kZ.2;clear qG Gt lA pP kZ bY bI jC cO gg;obtain⟨z,hz⟩:=aq (s9 L f s' F y);have gi:Hid (aS z (fun b s=>match h_ op k b with
        | some n=>a6 (bN n) s
        | none=>eP 2 s)=some r):=af (by rw[hz];exact bh)
   clear bh;rcases z with _|⟨g'|k2,uQ⟩
   ·cases gi.out
   ·obtain rfl:=(anz gi).symm
    have n_:=af (sU _ hz.symm);clear hz sU gi;unfold dP at n_ ⊢;go_wp2_with fail
    go_region_with (first|(go_at_call 130;refine n_.mono ?_;rintro e aJ ⟨⟨aV,rfl⟩,eH,fZ,k1,k2,k3⟩;refine yT prog aJ ⟨rfl,⟨aV,rfl⟩,eH,fZ,k1,sQ.trans k2,eK.trans k3⟩ ?_))
    all_goals trivial
   ·have n_:=af (sU _ hz.symm)
    clear hz sU;cases ht:h_ op k k2 with
    | none =>
      obtain rfl:r=(.error (.stop 2),uQ):=(by have:=gi.out;simp only[aS,ht]at this;exact (anz this).symm);have bA:=af (Xv op k k2);rw[ht]at bA;clear ht gi;unfold dP at n_ ⊢;go_wp2_with fail
      go_region_with (first|(go_at_call 130;refine n_.mono ?_;rintro e aJ ⟨eH,fZ,rfl,k1,k2,k3⟩;have cG:aJ.cell? ⟨g,4,none⟩=some (.string ⟨op.toArray⟩):=(C7 jm HN fK k2).cell rfl;have HK:=af (anw k1 (anw k2 k3));clear k1 k2 k3)|(go_at_call 132;refine (bA _).mono ?_;rintro e bw ⟨⟨aV,rfl⟩,rfl⟩;refine yT prog aJ ⟨rfl,⟨aV,rfl⟩,eH,fZ,HK.1,sQ.trans HK.2.1,eK.trans HK.2.2⟩ ?_))
      all_goals trivial
    | some k3 =>
      obtain rfl:r=(.ok (bN k3),uQ):=(by have:=gi.out;simp only[aS,ht]at this;exact (anz this).symm);have bA:=af (Xv op k k2);rw[ht]at bA;clear ht gi;unfold dP at n_;go_wp2_with fail
      go_region_with (first|(go_at_call 130;refine n_.mono ?_;rintro e aJ ⟨eH,fZ,rfl,k1,k2,k3⟩;have cG:aJ.cell? ⟨g,4,none⟩=some (.string ⟨op.toArray⟩):=(C7 jm HN fK k2).cell rfl;have cM:=af (kV.step k2);obtain⟨r0,z0,r1,cS⟩:=cM.c6.gL;have HK:=af (anw k1 (anw k2 k3));clear k1 k2 k3)|(go_at_call 132;refine (bA _).mono ?_;rintro e bw ⟨rfl,rfl⟩))
      all_goals
         go_wp2_with fail;exact cM.ret HK.1 (sQ.trans HK.2.1) (eK.trans HK.2.2) (Or.inl ⟨rfl,rfl⟩) rfl rfl rfl rfl
theorem ahR {T':Nat->Prop} {ok:α->(Nat->Prop)->List (Nat×Nat)->Ending->World->Prop} {r:Except cz α×aC} {e:Ending} (h:dP W b ak L P T M A ok r e w) (hT:∀k,k<W.heap.size->T k->T' k):dP W b ak L P T' M A ok r e w:=by
 obtain⟨_|x,s⟩:=r
 ·obtain⟨h0,M',aK,h1,h2,h3⟩:=h
  exact⟨h0,M',aK,h1,h2.more hT,h3⟩
 ·obtain⟨M',aK,h0,h1,h2,h3⟩:=h
  exact⟨M',aK,h0,h1,h2.more hT,h3⟩
theorem abz (L:List Fn):lq L 0:=by
 intro e b ak P T M A s F fm n W v r h hF hg he hr;cases e <;> simp[bk]at hr
theorem abx (ih:∀k,k<=f->lq L k) (JL:sN L f):lq L (f+1):=by
 intro e b ak P T M A s F fm n W v r h hF hg he hr
 suffices key:Calls prog 120 #[.pointer (some ⟨b,0,none⟩),.map (some fm),v] W (dP W b ak L P ai M A qp r) from key.mono (fun e w hx=>ahR hx (fun _ _ f=>f.elim))
 have Cg:=ih f (anD f);cases e with
 | num a k =>
   simp only[bk]at hr;obtain rfl:=(anz hr).symm;exact abu (f:=f) a k b ak P M A s fm W v h he
 | var a x=>exact abw Cg a x b ak P M A s F fm n W v r h hF hg he hr
 | bin a op x y=>exact abn Cg a op x y b ak P M A s F fm n W v r h hF hg he hr
 | un a op x=>exact abv Cg a op x b ak P M A s F fm n W v r h hF hg he hr
 | call a g l=>exact abo ih JL a g l b ak P M A s F fm n W v r h hF hg he hr
 | new a x=>exact abt Cg a x b ak P M A s F fm n W v r h hF hg he hr
 | len a x=>exact abr Cg a x b ak P M A s F fm n W v r h hF hg he hr
 | item a x y=>exact abq Cg a x y b ak P M A s F fm n W v r h hF hg he hr
 | input a=>exact abp Cg a b ak P M A s F fm n W v r h hF hg he hr
def dY {α:Type} (s:aC) (x:cF α):Prop:=∀y,x=some y->y.2.fuel<=s.fuel
theorem dY.ok (a:α) (h:s'.fuel<=s.fuel):dY s (a6 a s'):=by
 intro y hy;obtain rfl:=(anz hy).symm;exact h
theorem dY.err (g:cz) (h:s'.fuel<=s.fuel):dY s (some ((Except.error g:Except cz α),s')):=by
 intro y hy;obtain rfl:=(anz hy).symm;exact h
theorem dY.bind {x:cF α} {f:α->aC->cF β} (h:dY s x) (hf:∀a t,t.fuel<=s.fuel->dY s (f a t)):dY s (aS x f):=by
 rcases x with _|⟨_|a,t⟩
 ·intro y hy;cases hy
 ·exact dY.err _ (h _ rfl)
 ·exact hf a t (h _ rfl)
theorem dY.to {t:aC} {x:cF α} (h:dY t x) (hs:t.fuel<=s.fuel):dY s x:=fun y hy=>aol (h y hy) hs
theorem dY.none_ (s:aC):dY s (none:cF α):=by intro y hy;cases hy
theorem W9 (s:aC):dY s (eI s):=by
 unfold eI;split
 ·exact dY.err _ (anD _)
 ·exact dY.ok _ (Nat.sub_le _ _)
theorem Wm (s:aC) (v:V) (i:Int):dY s (cX s v i):=by
 unfold cX;split
 ·exact dY.err _ (anD _)
 ·exact dY.ok _ (anD _)
theorem ahE (s:aC) (v:V) (i x:Int):(ko s v i x).fuel=s.fuel:=by
 unfold ko;split <;> rfl
theorem xC (L:List Fn):∀f,(∀s F e,dY s (bk L f s F e))/\(∀s F l vs,dY s (jT L f s F l vs))/\(∀s g vs,dY s (jE L f s g vs))/\(∀s F l,dY s (fk L f s F l))/\(∀s F x,dY s (eO L f s F x))/\(∀s F v t,dY s (lp L f s F v t)):=by
 intro f;induction f with
 | zero=>refine⟨fun s F e=>?_,fun s F l vs=>?_,fun s g vs=>?_,fun s F l=>?_,fun s F x=>?_,fun s F v t=>?_⟩ <;> simp only[bk,jT,jE,fk,eO,lp] <;> exact dY.none_ _
 | succ f ih =>
   obtain⟨i1,i2,i3,i4,i5,i6⟩:=ih;refine⟨fun s F e=>?_,fun s F l vs=>?_,fun s g vs=>?_,fun s F l=>?_,fun s F x=>?_,fun s F v t=>?_⟩
   ·cases e with
    | num a k=>simp only[bk];exact dY.ok _ (anD _)
    | var a x=>simp only[bk];exact dY.ok _ (anD _)
    | un a op x=>simp only[bk];exact (i1 s F x).bind fun v t ht=>dY.ok _ ht
    | bin a op x y =>
      simp only[bk];refine (i1 s F x).bind fun v t ht=>?_
      split
      ·split
       ·exact dY.ok _ ht
       ·exact ((i1 t F y).to ht).bind fun v2 t2 cP=>dY.ok _ cP
      ·refine ((i1 t F y).to ht).bind fun v2 t2 cP=>?_
       split
       ·exact dY.ok _ cP
       ·exact dY.err _ cP
    | call a g l=>simp only[bk];exact (i2 s F l []).bind fun vs t ht=>((i3 t g vs).to ht).bind fun n t2 cP=>dY.ok _ cP
    | new a x =>
      simp only[bk];refine (i1 s F x).bind fun v t ht=>?_
      split
      ·exact dY.err _ ht
      ·exact dY.ok _ ht
    | len a x=>simp only[bk];exact (i1 s F x).bind fun v t ht=>dY.ok _ ht
    | item a x y=>simp only[bk];exact (i1 s F x).bind fun v t ht=>((i1 t F y).to ht).bind fun k t2 cP=>((Wm t2 v k.n).to cP).bind fun n t3 kN=>dY.ok _ kN
    | input a =>
      simp only[bk];split
      ·exact dY.ok _ (anD _)
      ·exact dY.ok _ (anD _)
   ·cases l with
    | nil=>simp only[jT];exact dY.ok _ (anD _)
    | cons e r=>simp only[jT];exact (i1 s F e).bind fun v t ht=>(i2 t F r _).to ht
   ·simp only[jE]
    split
    ·exact dY.err _ (anD _)
    ·have hb:=i4 { s with calls:=s.calls+1 } (pj [] (r9 L g).params vs) (r9 L g).body
     split
     all_goals first|exact dY.none_ _|exact dY.ok _ (hb _ ‹_›)|exact dY.err _ (hb _ ‹_›)
   ·cases l with
    | nil=>simp only[fk];exact dY.ok _ (anD _)
    | cons x r=>simp only[fk];exact (i5 s F x).bind fun F t ht=>(i4 t F r).to ht
   ·simp only[eO]
    refine (W9 s).bind fun _ t ht=>?_
    cases x with
    | var a n v=>exact ((i1 t F v).to ht).bind fun y t2 cP=>dY.ok _ cP
    | set a n v=>exact ((i1 t F v).to ht).bind fun y t2 cP=>dY.ok _ cP
    | put a n i v=>exact ((i1 t F i).to ht).bind fun k t2 cP=>((i1 t2 F v).to cP).bind fun y t3 kN=>((Wm t3 _ _).to kN).bind fun _ t4 Ob=>dY.ok _ (by rw[ahE];exact Ob)
    | cond a v t1 e1 =>
      refine ((i1 t F v).to ht).bind fun c t2 cP=>?_
      split
      ·exact (i4 t2 F t1).to cP
      ·exact (i4 t2 F e1).to cP
    | loop a v t1=>exact (i6 t F v t1).to ht
    | ret a v=>exact ((i1 t F v).to ht).bind fun y t2 cP=>dY.err _ cP
    | print a v =>
      refine ((i1 t F v).to ht).bind fun y t2 cP=>?_
      split
      ·exact dY.err _ cP
      ·exact dY.ok _ cP
    | call a v=>exact ((i1 t F v).to ht).bind fun _ t2 cP=>dY.ok _ cP
   ·simp only[lp]
    refine (i1 s F v).bind fun c t1 ht=>?_
    split
    ·exact ((i4 t1 F t).to ht).bind fun nA t2 cP=>((W9 t2).to cP).bind fun _ t3 kN=>(i6 t3 nA v t).to kN
    ·exact dY.ok _ ht
mutual
def nC (L:List Fn):St->Prop
 | .var _ n v=>n.length<=10000000/\gX L v
 | .set _ n v=>n.length<=10000000/\gX L v
 | .put _ n i v=>n.length<=10000000/\gX L i/\gX L v
 | .cond _ v t e=>gX L v/\wO L t/\wO L e
 | .loop _ v t=>gX L v/\wO L t
 | .ret _ v=>gX L v
 | .print _ v=>gX L v
 | .call _ v=>gX L v
def wO (L:List Fn):List St->Prop
 | []=>True
 | x::r=>nC L x/\wO L r
end
def k7 (W:World) (b ak:Nat) (L:List Fn) (P M:Nat->Prop) (A:List (Nat×Nat)) (fm N:Nat):Except cz Fr×aC->Ending->World->Prop
 | (.error g,s)=>fun e w=>x_ g e/\∃M' aK,bt w b ak L P M' aK s/\Ext (·=fm) M M' W w/\A <+: aK
 | (.ok F,s)=>fun e w=>e=.returned (.tuple #[])/\∃M' aK n,fQ w P M' aK fm n F/\n+s.fuel<=N/\bt w b ak L P M' aK s/\Ext (·=fm) M M' W w/\A <+: aK
def pZ (L:List Fn) (f:Nat):Prop:=∀ (x:St) (cs:List Value) (b ak:Nat) (P M:Nat->Prop) (A:List (Nat×Nat)) (s:aC) (F:Fr) (fm n N:Nat) (W:World) (r:Except cz Fr×aC),bt W b ak L P M A s->fQ W P M A fm n F->n+s.fuel<=N->N<=4100000000000000000->nC L x->cy W (fun k=>¬P k) x cs->eO L f s F x=some r ->
 Calls prog 105 #[.pointer (some ⟨b,0,none⟩),.map (some fm),.agg cs.toArray] W (k7 W b ak L P M A fm N r)
def CI (L:List Fn) (f:Nat):Prop:=∀ (l:List St) (lv:Value) (vs:List Value) (b ak:Nat) (P M:Nat->Prop) (A:List (Nat×Nat)) (s:aC) (F:Fr) (fm n N:Nat) (W:World) (r:Except cz Fr×aC),bt W b ak L P M A s->fQ W P M A fm n F->n+s.fuel<=N->N<=4100000000000000000->wO L l->fL W (fun k=>¬P k) 143 7 lv l.length vs->cE W (fun k=>¬P k) l vs->fk L f s F l=some r ->
 Calls prog 75 #[.pointer (some ⟨b,0,none⟩),.map (some fm),lv] W (k7 W b ak L P M A fm N r)
theorem qo {T0:Nat->Prop} {x:cF α} {f:α->aC->cF β} {r:Except cz β×aC} {ok:α->(Nat->Prop)->List (Nat×Nat)->Ending->World->Prop}
 (hT:∀k,T k->T0 k) (bT:Hid (Ext T0 b_ M W0 W)) (hA:Hid (jk <+: A)) (hx:Hid (aS x f=some r)) (hc:∀y,x=some y->Calls prog F args W (dP W b ak L P T M A ok y))
 (l5:∀g s',r=(.error g,s')->∀ (aV:Old) w,Hid (∃M' aK,bt w b ak L P M' aK s'/\Ext T0 b_ M' W0 w/\jk <+: aK)->Q (.panicked ({ v:=AD g,recovered:=false }::aV.1)) w)
 (aZ:∀a s',Hid (x=some (.ok a,s'))->Hid (f a s'=some r)->∀e w M' aK,ok a M' aK e w->Hid (bt w b ak L P M' aK s')->Hid (Ext T M M' W w)->Hid (Ext T0 b_ M' W0 w)->Hid (A <+: aK)->Hid (jk <+: aK)->Q e w) :
 Calls prog F args W Q:=by
 have hx:=hx.out;cases hp:x with
 | none=>rw[hp]at hx;cases hx
 | some y =>
   refine (hc y hp).mono ?_;intro e w h;rw[hp]at hx;obtain⟨y,s'⟩:=y;cases y with
   | error g =>
     obtain⟨⟨aV,rfl⟩,M',aK,h1,h2,h3⟩:=h;exact l5 g s' (anz hx).symm aV w (af ⟨M',aK,h1,bT.out.trans (h2.more fun k _ hk=>hT k hk),hA.out.trans h3⟩)
   | ok a =>
     obtain⟨M',aK,h0,h1,h2,h3⟩:=h;exact aZ a s' (af hp) (af hx) e w M' aK h0 (af h1) (af h2) (af (bT.out.trans (h2.more fun k _ hk=>hT k hk))) (af h3) (af (hA.out.trans h3))
theorem WA {N:Nat} {x:cF Fr} {f:Fr->aC->cF β} {r:Except cz β×aC}
 (bT:Hid (Ext (·=fm) b_ M W0 W)) (hA:Hid (jk <+: A)) (hx:Hid (aS x f=some r)) (hc:∀y,x=some y->Calls prog F args W (k7 W b ak L P M A fm N y))
 (l5:∀g s',r=(.error g,s')->∀ (aV:Old) w,Hid (∃M' aK,bt w b ak L P M' aK s'/\Ext (·=fm) b_ M' W0 w/\jk <+: aK)->Q (.panicked ({ v:=AD g,recovered:=false }::aV.1)) w)
 (aZ:∀G s',Hid (x=some (.ok G,s'))->Hid (f G s'=some r)->∀w M' aK n',Hid (fQ w P M' aK fm n' G)->Hid (n'+s'.fuel<=N)->Hid (bt w b ak L P M' aK s')->Hid (Ext (·=fm) M M' W w)->Hid (Ext (·=fm) b_ M' W0 w)->Hid (A <+: aK)->Hid (jk <+: aK)->Q (.returned (.tuple #[])) w) :
 Calls prog F args W Q:=by
 have hx:=hx.out;cases hp:x with
 | none=>rw[hp]at hx;cases hx
 | some y =>
   refine (hc y hp).mono ?_;intro e w h;rw[hp]at hx;obtain⟨y,s'⟩:=y;cases y with
   | error g =>
     obtain⟨⟨aV,rfl⟩,M',aK,h1,h2,h3⟩:=h;exact l5 g s' (anz hx).symm aV w (af ⟨M',aK,h1,bT.out.trans h2,hA.out.trans h3⟩)
   | ok G =>
     obtain⟨rfl,M',aK,n',h0,h4,h1,h2,h3⟩:=h;exact aZ G s' (af hp) (af hx) w M' aK n' (af h0) (af h4) (af h1) (af h2) (af (bT.out.trans h2)) (af h3) (af (hA.out.trans h3))
theorem bt.told (h:bt bw b ak L P M A s) (qg:bw.cell? ⟨b,4,none⟩=some ov) (k:Int) (hn:s.out.length<200) (hown:a7.ownsRow 0 2 1 v' (s.out.length+1) (s.out.map (Value.int .i64)++[.int .i64 k])) (hg:kr bw a7 ov v') :
 bt (a7.setCell ⟨b,4,none⟩ v') b ak L P (fun k=>M k\/v'.ownBlock=some k) A { s with out:=s.out++[k] }/\Ext ai M (fun k=>M k\/v'.ownBlock=some k) bw (a7.setCell ⟨b,4,none⟩ v'):=by
 obtain⟨⟨iv,lg,h1,h2,h3,h4⟩,h5,⟨h7,n,F,h6,h8⟩,dJ,h10,h11,fM,nM,j2,pz,r_,nd,td⟩:=h;obtain rfl:lg=ov:=by
  have:=h1.cell (i:=4) (v:=lg) rfl;rw[qg]at this;exact (anz this).symm
 have dK:ag (fun k=>lg.ownBlock=some k) bw a7:=hg.mods;have hP:ag (·=b) a7 (a7.setCell ⟨b,4,none⟩ v'):=cm _ _ _ _;have dT:b<bw.heap.size:=nM b h5;have nh:ag (fun k=>lg.ownBlock=some k\/k=b) bw (a7.setCell ⟨b,4,none⟩ v'):=(dK.mono fun _ _ hk=>Or.inl hk).trans (hP.mono fun _ _ hk=>Or.inr hk);have BF:∀k,(lg.ownBlock=some k\/k=b)->M k:=fun k hk=>hk.elim (fun e=>(h4 k e).1) (fun e=>by rw[e];exact h5)
 have xx:ag (fun k=>¬P k) bw (a7.setCell ⟨b,4,none⟩ v'):=nh.mono fun k _ hk=>j2 k (BF k hk)
 have hloc:∀k,v'.ownBlock=some k->lg.ownBlock=some k\/k=bw.heap.size:=fun k hk=>by
  rcases hg.loc with e|e
  ·exact Or.inl (by rw[<-e];exact hk)
  ·rw[e]at hk
   exact Or.inr (anz hk).symm
 have hne:∀k,v'.ownBlock=some k->k≠b:=fun k hk=>by
  rcases hloc k hk with e|e
  ·exact (h4 k e).2.1
  ·omega
 have MF:∀k,v'.ownBlock=some k->∀g n,(g,n)∈A->g≠k:=fun k hk g m ez=>by
  rcases hloc k hk with e|e
  ·exact (h4 k e).2.2 g m ez
  ·have:=nM g (h11 g m ez).1
   omega
 have mE:aw a7 b [.map (some ak),iv,s.fuel,s.calls,lg] 111:=h1.mods dK (fun e=>(h4 b e).2.1 rfl);refine⟨⟨⟨iv,v',mE.set 4 v',h2.mods xx (fun _ _ k=>k),?_,fun k hk=>⟨Or.inr hk,hne k hk,MF k hk⟩⟩,Or.inl h5,⟨h7,n,F,h6.mods nh (fun e=>j2 ak (BF ak e) h7),fun f x hx=>(h8 f x hx).mods xx (fun _ _ k=>k)⟩,dJ,?_,fun g m ez=>⟨Or.inl (h11 g m ez).1,(h11 g m ez).2⟩,fM,?_,?_,fun k hk=>anE (pz k hk) nh.size,?_,nd,td⟩,?_⟩
 ·have:=hP.ownsRow hown (fun k hk=>hne k hk)
  simpa using this
 ·intro i l hl
  obtain⟨g,e1,e2,e3⟩:=h10 i l hl;refine⟨g,e1,e2.mods nh ?_,e3⟩;rintro (e|e)
  ·exact (h4 g e).2.2 g _ (anF e1) rfl
  ·exact (h11 g _ (anF e1)).2 e
 ·intro k hk
  have hsz:(a7.setCell ⟨b,4,none⟩ v').heap.size=a7.heap.size:=by simp[World.setCell]
  rw[hsz];rcases hk with hk|hk
  ·exact anE (nM k hk) dK.size
  ·exact (hown.lt k hk).2
 ·rintro k (hk|hk) hp
  ·exact j2 k hk hp
  ·rcases hloc k hk with e|e
   ·exact j2 k (h4 k e).1 hp
   ·have:=pz k hp
    omega
 ·simp only[anU,an0]
  omega
 ·refine⟨nh.mono fun k _ hk=>Or.inr (BF k hk),fun k hk hm=>?_⟩
  rcases hm with hm|hm
  ·exact hm
  ·rcases hloc k hm with e|e
   ·exact (h4 k e).1
   ·omega
theorem bt.Pc (h:bt bw b ak L P M A s) (qg:bw.cell? ⟨b,4,none⟩=some ov) (hg:kr bw a7 ov v'):a7.cell? ⟨b,4,none⟩=some ov/\a7.frozen? ⟨b,4,none⟩=false:=by
 obtain⟨iv,lg,h1,h2,h3,h4⟩:=h.blk;obtain rfl:lg=ov:=by
  have:=h1.cell (i:=4) (v:=lg) rfl;rw[qg]at this;exact (anz this).symm
 have mE:aw a7 b [.map (some ak),iv,s.fuel,s.calls,lg] 111:=h1.mods hg.mods (fun e=>(h4 b e).2.1 rfl);exact⟨mE.cell rfl,mE.free 4⟩
theorem bt.Py (h:bt w b ak L P M A s) {g:Nat} {l:List Int} (h2:A[i]?=some (g,l.length)) (hl:s.bS[i]?=some l) (j:Nat) (x:Int) :
 bt (w.setCell ⟨g,j,none⟩ (.int .i64 x)) b ak L P M A { s with bS:=s.bS.set i (l.set j x) }/\Ext ai M M w (w.setCell ⟨g,j,none⟩ (.int .i64 x)):=by
 obtain⟨⟨iv,ov,h1,IA,h3,h4⟩,h5,⟨h7,n,F,h6,h8⟩,dJ,h10,h11,fM,nM,j2,pz,r_,nd,td⟩:=h;have hm:ag (·=g) w (w.setCell ⟨g,j,none⟩ (.int .i64 x)):=cm _ _ _ _;have ez:=anF h2;have BG:=(h11 g _ ez).1;have fT:ag (fun k=>¬P k) w (w.setCell ⟨g,j,none⟩ (.int .i64 x)):=hm.mono fun k _ e=>by rw[e];exact j2 g BG
 refine⟨⟨⟨iv,ov,h1.mods hm (fun e=>(h11 g _ ez).2 e.symm),IA.mods fT (fun _ _ k=>k),hm.ownsRow h3 (fun k hk e=>(h4 k hk).2.2 g _ ez e.symm),h4⟩,h5,⟨h7,n,F,h6.mods hm (fun e=>j2 g BG (e ▸ h7)),fun f y hy=>(h8 f y hy).mods fT (fun _ _ k=>k)⟩,by simpa using dJ,?_,h11,fM,fun k hk=>anE (nM k hk) hm.size,j2,fun k hk=>anE (pz k hk) hm.size,r_,nd,td⟩,⟨hm.mono fun k _ e=>Or.inr (by rw[e];exact BG),fun _ _ k=>k⟩⟩;intro i2 l2 hl2;by_cases hi:i2=i
 ·subst hi
  have hlt:i2<s.bS.length:=(anA.1 hl).1;rw[aok hlt]at hl2;obtain rfl:=anz hl2;obtain⟨g',e1,e2,e3⟩:=h10 i2 l hl;rw[h2]at e1;simp only[anG,an8,and_true]at e1;subst e1;refine⟨g,by simpa using h2,?_,by simpa using e3⟩;have:=e2.set j (.int .i64 x);rw[List.map_set];exact this
 ·rw[aoe (fun e=>hi e.symm)]at hl2
  obtain⟨g',e1,e2,e3⟩:=h10 i2 l2 hl2;refine⟨g',e1,e2.mods hm ?_,e3⟩;intro e;subst e;have ha:=anA.1 e1;have hb:=anA.1 h2;have hp:=aos.1 fM;rcases Nat.lt_or_gt_of_ne hi with hlt|hlt
  ·have:=hp i2 i ha.1 hb.1 hlt
   rw[ha.2,hb.2]at this;exact this rfl
  ·have:=hp i i2 hb.1 ha.1 hlt
   rw[ha.2,hb.2]at this;exact this rfl
theorem acs (F:Fr) (s:List UInt8) (x:V) (y:List UInt8):Fr.get (F.put s x) y=if y=s then x else Fr.get F y:=by
 induction F with
 | nil =>
   simp only[Fr.put,Fr.get,beq_iff_eq];by_cases h:y=s
   ·subst h;simp
   ·rw[if_neg h,if_neg (fun e=>h e.symm)]
 | cons p r ih =>
   simp only[Fr.put];by_cases hp:p.1=s
   ·rw[if_pos (by simpa using hp)]
    simp only[Fr.get,beq_iff_eq];by_cases h:y=s
    ·subst h;simp
    ·rw[if_neg h,if_neg (fun e=>h e.symm),if_neg (fun e=>h (e.symm.trans hp))]
   ·rw[if_neg (by simpa using hp)]
    simp only[Fr.get,beq_iff_eq];by_cases h:p.1=y
    ·rw[if_pos h,if_pos h,if_neg]
     rintro rfl;exact hp h
    ·rw[if_neg h,if_neg h,ih]
theorem fQ.put {F:Fr} {x:V} (h:fQ W P M A fm n F) (s:List UInt8) (hs:s.length<=10000000) (hv:iW A x v) (hn:n<maxLen) :
 ∃w',(Instr.mapUpdate 162 (.map (some fm)) (str s) v).run prog W=.ok () w'/\fQ w' P M A fm (n+1) (F.put s x)/\ag (·=fm) W w':=by
 obtain⟨F',h1,h2,h4,h3⟩:=h;obtain⟨w',k1,k2,k3⟩:=h1.put (t:=162) underlying162 s hs v hn;refine⟨w',k1,⟨_,k2,h2,h4,fun y=>?_⟩,k3⟩;rw[yn,acs];split
 ·exact hv
 ·exact h3 y
theorem ox {u:Unit} (h:eI s=some (.ok u,s')):s'.fuel+1=s.fuel:=by
 unfold eI at h;split at h
 ·cases h
 ·obtain rfl:=(Prod.mk.inj (anz h)).2
  simp only;omega
structure eD (W0 w:World) (P M:Nat->Prop) (fm q:Nat) (cs:List Value):Prop where
 blk:aw w q cs 143
 nm:¬M q/\¬P q
 cQ:q≠fm
 at_:W0.heap.size<=q
theorem eD.step {M':Nat->Prop} {q:Nat} {cs:List Value} (h:eD W0 w P M fm q cs) (bT:Ext T M M' w w') (hT:¬T q):eD W0 w' P M' fm q cs :=
 ⟨(nr h.blk bT h.nm.1 hT).1,⟨(nr h.blk bT h.nm.1 hT).2,h.nm.2⟩,h.cQ,h.at_⟩
theorem eD.new {F:Fr} (h:bt W b ak L P M A s) (hF:fQ W P M A fm n F) (cs:List Value):eD W (W.alloc (.cells cs.toArray 143)) P M fm W.heap.size cs:=by
 refine⟨?_,⟨fun hm=>absurd (h.old _ hm) (an5 _),fun hp=>absurd (h.given _ hp) (an5 _)⟩,?_,anD _⟩
 ·have:=aw.new W cs.toArray 143
  simpa using this
 ·obtain⟨F',k1,_⟩:=hF
  have:=k1.lt;omega
theorem SR (h:bt W b ak L P M A s):(intOf ((W.cell? ⟨b,2,none⟩).getD (.int .i64 0))).toNat=s.fuel:=by
 obtain⟨iv,ov,h1,_⟩:=h.blk;rw[h1.ah 2];simp[intOf]
theorem Wy {jR:Nat->Prop} {ei:List (Nat×Nat)} {N:Nat} {e:Ending} (h:k7 w b ak L P jR ei fm N r e w') (bT:Ext (·=fm) M jR W w) (hA:A <+: ei):k7 W b ak L P M A fm N r e w':=by
 obtain⟨_|G,s⟩:=r
 ·obtain⟨h0,M',aK,h1,h2,h3⟩:=h
  exact⟨h0,M',aK,h1,bT.trans h2,hA.trans h3⟩
 ·obtain⟨h0,M',aK,n',ja,k4,h1,h2,h3⟩:=h
  exact⟨h0,M',aK,n',ja,k4,h1,bT.trans h2,hA.trans h3⟩
theorem Wz {N:Nat} {e:Ending} (h:k7 W b ak L P M A fm N r e w'):(∃aV g,e=.panicked ({ v:=AD g,recovered:=false }::aV))\/e=.returned (.tuple #[]):=by
 obtain⟨_|G,s⟩:=r
 ·obtain⟨⟨aV,rfl⟩,_⟩:=h
  exact Or.inl ⟨_,_,rfl⟩
 ·exact Or.inr h.1
theorem na {W':World} (h:aX W (fun k=>¬P k) e v) (hm:ag S W W') (hS:∀k,S k->¬P k):aX W' (fun k=>¬P k) e v:=aX.b8 (hm.mono fun k _ hk=>hS k hk) (fun _ _ k=>k) e v h
theorem aio (km:lq L f) (a:Int) (x:List UInt8) (v:aL) (cs:List Value) (b ak:Nat) (P M:Nat->Prop) (A:List (Nat×Nat)) (s:aC) (F:Fr) (fm n N:Nat) (W:World) (r:Except cz Fr×aC) (h:bt W b ak L P M A s) (hF:fQ W P M A fm n F) (hn:n+s.fuel<=N) (hN:N<=4100000000000000000) (hg:nC L (.var a x v)) (hs:cy W (fun k=>¬P k) (.var a x v) cs) (hr:eO L (f+1) s F (.var a x v)=some r) :
 Calls prog 105 #[.pointer (some ⟨b,0,none⟩),.map (some fm),.agg cs.toArray] W (k7 W b ak L P M A fm N r):=by
 simp only[cy]at hs;obtain⟨bq,rfl,b5⟩:=hs;simp only[nC]at hg;have aj:Hid (aS (eI s) (fun _ s=>aS (bk L f s F v) fun y s=>a6 (F.put x y) s)=some r):=af (by rw[<-hr];simp only[eO]);obtain⟨W1,hW1⟩:=aq (W.alloc (.cells (dt 1 a x cV bq bV bV).toArray 143));have az:ag ai W W1:=by rw[hW1];exact ay.alloc _
 have HS:Hid (eD W W1 P M fm W.heap.size (dt 1 a x cV bq bV bV)):=af (by rw[hW1];exact eD.new h hF _);have aP:=af (h.quiet az);have bb:=af (hF.ext (Ext.quiet az) (anB A));have n6:Hid (¬P fm):=af (by obtain⟨_,_,_,k,_⟩:=hF;exact k);have a_:Hid (Ext (·=fm) M M W W1):=af (Ext.quiet az);have bH:=af (anB A);have jf:=af (anw hn hN);have aU:=af (fun y hy=>wJ ai b ak L P M A s W1 y aP hy);have bQ:=af (na b5 az (fun _ f=>f.elim));have HG:=af hg;have lz:=af km;obtain⟨iA,rfl⟩:=b5.ptr;clear b5 hg km;clear h hF hn hN hr az;unfold dt str at *
 try unfold cV at *
 try unfold bV at *
 go_in;go_wp2_with fail;rw[<-hW1];clear hW1;go_at_call 119;refine qo (T:=ai) (fun _ f=>f.elim) a_ bH aj aU ?_ ?_
 ·rintro g s' rfl aV w H
  obtain⟨M',aK,k1,k2,k3⟩:=H.out;go_wp2;exact⟨rfl,⟨aV,rfl⟩,M',aK,k1,k2,k3⟩
 ·rintro u s1 HST ek e w jR ei jB bE gb cO jd ft
  obtain rfl:=jB;have eC:=af (HS.step gb id);have lW:=af (bb.ext gb jd);have kY:=af (ox HST);obtain⟨c0,-,c2,-,c4⟩:=eC.blk.gH;have HD:ag ai w w.drew:=ay.drew;have Lv:=af (eC.step (T:=ai) (Ext.quiet HD) id);have u1:=af (lW.ext (Ext.quiet HD) (anB _));have EM:=af (cO.trans (Ext.quiet HD));have E2:=na (na bQ gb.mods (fun k hk=>hk.elim (fun f=>f.elim) (aP.off k))) HD (fun _ f=>f.elim);have jQ:=af (fun y hy=>lz.out v b ak P ai jR ei s1 F fm n w.drew (.pointer (some ⟨iA,0,none⟩)) y (bE.quiet HD) u1 HG.2 E2 hy);have iN:=af ((xC L f).1 s1 F v);have HR:=bE;clear aU aj HST lz bQ E2 HD gb cO eC lW HS bb aP a_ bH bE;obtain⟨z,hz⟩:=aq (bk L f s1 F v);have gi:Hid (aS z (fun y s=>a6 (F.put x y) s)=some r):=af (by rw[hz];exact ek);clear ek;rcases z with _|⟨g'|y,s2⟩
  ·cases gi.out
  ·obtain rfl:=(anz gi).symm
   have n_:=af (jQ _ hz.symm);clear hz jQ gi iN;unfold dP at n_;unfold k7;go_wp2_with fail
   go_region_with (first|(go_at_call 120;refine n_.mono ?_;rintro e aJ ⟨⟨aV,rfl⟩,eH,fZ,k1,k2,k3⟩;refine yT prog aJ ⟨rfl,⟨aV,rfl⟩,eH,fZ,k1,EM.trans (k2.more fun _ _ f=>f.elim),ft.trans k3⟩ ?_))
   all_goals trivial
  ·obtain rfl:=(anz gi).symm
   have n_:=af (jQ _ hz.symm);have mU:=af (iN _ hz.symm);clear hz jQ gi iN;have CR:Hid (n<maxLen):=af (by have h1:=jf.out;unfold maxLen;omega);unfold dP qp at n_;unfold k7;go_wp2_with fail
   go_region_with (first|(go_at_call 120;refine n_.mono ?_;rintro e aJ ⟨eH,fZ,⟨nz,rfl,dm⟩,k1,k2,k3⟩;obtain⟨bw,hu,zY,bG⟩:=(u1.ext k2 k3).put x HG.1 dm CR;have aai:=(Lv.step k2 id).blk.ah 2;have HK:=af (anw k1 (anw k2 (anw k3 (anw zY bG))));clear k1 k2 k3 zY bG dm;unfold str at hu))
   all_goals
        clear hu;go_wp2_with fail;go_end0;obtain⟨k1,k2,k3,k4,gU⟩:=HK.out;have h1:=jf.1;have h2:=kY.out;have h3:s2.fuel<=s1.fuel:=mU.out;have q_:¬P fm:=n6.out;have Ng:¬eH fm:=(by obtain⟨_,_,k,_⟩:=k4;exact k);refine⟨rfl,eH,fZ,n+1,k4,?_,k1.aside gU (fun k hk=>by rw[hk];exact⟨Ng,q_⟩),(EM.trans (k2.more fun _ _ f=>f.elim)).trans (Ext.aside gU (fun _ _ f=>f)),ft.trans k3⟩
        show n+1+s2.fuel<=N
        omega
theorem ain (km:lq L f) (a:Int) (x:List UInt8) (v:aL) (cs:List Value) (b ak:Nat) (P M:Nat->Prop) (A:List (Nat×Nat)) (s:aC) (F:Fr) (fm n N:Nat) (W:World) (r:Except cz Fr×aC) (h:bt W b ak L P M A s) (hF:fQ W P M A fm n F) (hn:n+s.fuel<=N) (hN:N<=4100000000000000000) (hg:nC L (.set a x v)) (hs:cy W (fun k=>¬P k) (.set a x v) cs) (hr:eO L (f+1) s F (.set a x v)=some r) :
 Calls prog 105 #[.pointer (some ⟨b,0,none⟩),.map (some fm),.agg cs.toArray] W (k7 W b ak L P M A fm N r):=by
 simp only[cy]at hs;obtain⟨bq,rfl,b5⟩:=hs;simp only[nC]at hg;have aj:Hid (aS (eI s) (fun _ s=>aS (bk L f s F v) fun y s=>a6 (F.put x y) s)=some r):=af (by rw[<-hr];simp only[eO]);obtain⟨W1,hW1⟩:=aq (W.alloc (.cells (dt 2 a x cV bq bV bV).toArray 143));have az:ag ai W W1:=by rw[hW1];exact ay.alloc _
 have HS:Hid (eD W W1 P M fm W.heap.size (dt 2 a x cV bq bV bV)):=af (by rw[hW1];exact eD.new h hF _);have aP:=af (h.quiet az);have bb:=af (hF.ext (Ext.quiet az) (anB A));have n6:Hid (¬P fm):=af (by obtain⟨_,_,_,k,_⟩:=hF;exact k);have a_:Hid (Ext (·=fm) M M W W1):=af (Ext.quiet az);have bH:=af (anB A);have jf:=af (anw hn hN);have aU:=af (fun y hy=>wJ ai b ak L P M A s W1 y aP hy);have bQ:=af (na b5 az (fun _ f=>f.elim));have HG:=af hg;have lz:=af km;obtain⟨iA,rfl⟩:=b5.ptr;clear b5 hg km;clear h hF hn hN hr az;unfold dt str at *
 try unfold cV at *
 try unfold bV at *
 go_in;go_wp2_with fail;rw[<-hW1];clear hW1;go_at_call 119;refine qo (T:=ai) (fun _ f=>f.elim) a_ bH aj aU ?_ ?_
 ·rintro g s' rfl aV w H
  obtain⟨M',aK,k1,k2,k3⟩:=H.out;go_wp2;exact⟨rfl,⟨aV,rfl⟩,M',aK,k1,k2,k3⟩
 ·rintro u s1 HST ek e w jR ei jB bE gb cO jd ft
  obtain rfl:=jB;have eC:=af (HS.step gb id);have lW:=af (bb.ext gb jd);have kY:=af (ox HST);obtain⟨c0,-,c2,-,c4⟩:=eC.blk.gH;have HD:ag ai w w.drew:=ay.drew;have Lv:=af (eC.step (T:=ai) (Ext.quiet HD) id);have u1:=af (lW.ext (Ext.quiet HD) (anB _));have EM:=af (cO.trans (Ext.quiet HD));have E2:=na (na bQ gb.mods (fun k hk=>hk.elim (fun f=>f.elim) (aP.off k))) HD (fun _ f=>f.elim);have jQ:=af (fun y hy=>lz.out v b ak P ai jR ei s1 F fm n w.drew (.pointer (some ⟨iA,0,none⟩)) y (bE.quiet HD) u1 HG.2 E2 hy);have iN:=af ((xC L f).1 s1 F v);have HR:=bE;clear aU aj HST lz bQ E2 HD gb cO eC lW HS bb aP a_ bH bE;obtain⟨z,hz⟩:=aq (bk L f s1 F v);have gi:Hid (aS z (fun y s=>a6 (F.put x y) s)=some r):=af (by rw[hz];exact ek);clear ek;rcases z with _|⟨g'|y,s2⟩
  ·cases gi.out
  ·obtain rfl:=(anz gi).symm
   have n_:=af (jQ _ hz.symm);clear hz jQ gi iN;unfold dP at n_;unfold k7;go_wp2_with fail
   go_region_with (first|(go_at_call 120;refine n_.mono ?_;rintro e aJ ⟨⟨aV,rfl⟩,eH,fZ,k1,k2,k3⟩;refine yT prog aJ ⟨rfl,⟨aV,rfl⟩,eH,fZ,k1,EM.trans (k2.more fun _ _ f=>f.elim),ft.trans k3⟩ ?_))
   all_goals trivial
  ·obtain rfl:=(anz gi).symm
   have n_:=af (jQ _ hz.symm);have mU:=af (iN _ hz.symm);clear hz jQ gi iN;have CR:Hid (n<maxLen):=af (by have h1:=jf.out;unfold maxLen;omega);unfold dP qp at n_;unfold k7;go_wp2_with fail
   go_region_with (first|(go_at_call 120;refine n_.mono ?_;rintro e aJ ⟨eH,fZ,⟨nz,rfl,dm⟩,k1,k2,k3⟩;obtain⟨bw,hu,zY,bG⟩:=(u1.ext k2 k3).put x HG.1 dm CR;have aai:=(Lv.step k2 id).blk.ah 2;have HK:=af (anw k1 (anw k2 (anw k3 (anw zY bG))));clear k1 k2 k3 zY bG dm;unfold str at hu))
   all_goals
        clear hu;go_wp2_with fail;go_end0;obtain⟨k1,k2,k3,k4,gU⟩:=HK.out;have h1:=jf.1;have h2:=kY.out;have h3:s2.fuel<=s1.fuel:=mU.out;have q_:¬P fm:=n6.out;have Ng:¬eH fm:=(by obtain⟨_,_,k,_⟩:=k4;exact k);refine⟨rfl,eH,fZ,n+1,k4,?_,k1.aside gU (fun k hk=>by rw[hk];exact⟨Ng,q_⟩),(EM.trans (k2.more fun _ _ f=>f.elim)).trans (Ext.aside gU (fun _ _ f=>f)),ft.trans k3⟩
        show n+1+s2.fuel<=N
        omega
theorem aih (km:lq L f) (a:Int) (v:aL) (cs:List Value) (b ak:Nat) (P M:Nat->Prop) (A:List (Nat×Nat)) (s:aC) (F:Fr) (fm n N:Nat) (W:World) (r:Except cz Fr×aC) (h:bt W b ak L P M A s) (hF:fQ W P M A fm n F) (hn:n+s.fuel<=N) (hN:N<=4100000000000000000) (hg:nC L (.call a v)) (hs:cy W (fun k=>¬P k) (.call a v) cs) (hr:eO L (f+1) s F (.call a v)=some r) :
 Calls prog 105 #[.pointer (some ⟨b,0,none⟩),.map (some fm),.agg cs.toArray] W (k7 W b ak L P M A fm N r):=by
 simp only[cy]at hs;obtain⟨bq,rfl,b5⟩:=hs;simp only[nC]at hg;have aj:Hid (aS (eI s) (fun _ s=>aS (bk L f s F v) fun _ s=>a6 F s)=some r):=af (by rw[<-hr];simp only[eO]);obtain⟨W1,hW1⟩:=aq (W.alloc (.cells (dt 8 a [] cV bq bV bV).toArray 143));have az:ag ai W W1:=by rw[hW1];exact ay.alloc _
 have HS:Hid (eD W W1 P M fm W.heap.size (dt 8 a [] cV bq bV bV)):=af (by rw[hW1];exact eD.new h hF _);have aP:=af (h.quiet az);have bb:=af (hF.ext (Ext.quiet az) (anB A));have n6:Hid (¬P fm):=af (by obtain⟨_,_,_,k,_⟩:=hF;exact k);have a_:Hid (Ext (·=fm) M M W W1):=af (Ext.quiet az);have bH:=af (anB A);have jf:=af (anw hn hN);have aU:=af (fun y hy=>wJ ai b ak L P M A s W1 y aP hy);have vn:=af (na b5 az (fun _ f=>f.elim));have HG:=af hg;have lz:=af km;obtain⟨iA,rfl⟩:=b5.ptr;clear b5 hg km;clear h hF hn hN hr az;unfold dt str at *
 try unfold cV at *
 try unfold bV at *
 go_in;go_wp2_with fail;rw[<-hW1];clear hW1;go_at_call 119;refine qo (T:=ai) (fun _ f=>f.elim) a_ bH aj aU ?_ ?_
 ·rintro g s' rfl aV w H
  obtain⟨M',aK,k1,k2,k3⟩:=H.out;go_wp2;exact⟨rfl,⟨aV,rfl⟩,M',aK,k1,k2,k3⟩
 ·rintro u s1 HST ek e w jR ei jB bE gb cO jd ft
  obtain rfl:=jB;have eC:=af (HS.step gb id);have lW:=af (bb.ext gb jd);have kY:=af (ox HST);have c0:=eC.blk.ah 0;have c4:=eC.blk.ah 4;have iO:=na vn gb.mods (fun k hk=>hk.elim (fun f=>f.elim) (aP.off k));have jQ:=af (fun y hy=>lz.out v b ak P ai jR ei s1 F fm n w _ y bE lW HG iO hy);have iN:=af ((xC L f).1 s1 F v);clear aU aj HST iO;go_wp2_with fail;refine qo (T:=ai) (fun _ f=>f.elim) cO ft ek jQ ?_ ?_
  ·rintro g s' rfl aV w H
   obtain⟨M',aK,k1,k2,k3⟩:=H.out;go_wp2;exact⟨rfl,⟨aV,rfl⟩,M',aK,k1,k2,k3⟩
  ·rintro y s2 bF bh e aJ eH fZ ⟨nz,rfl,dm⟩ dB ly mi jP mh
   have mU:=af (iN _ bF);have oI:=af (eC.step ly id);have sR:=af (lW.ext ly jP);have rW:=af dm;obtain⟨k,av,an,rfl,-,-⟩:=dm.len dB;clear dm iN bF ek jQ;obtain rfl:=(anz bh).symm;unfold k7;go_wp2_with fail;go_end0;have h1:=jf.1;have h2:=kY.out;have h3:s2.fuel<=s1.fuel:=mU.out;exact⟨rfl,eH,fZ,n,sR,by show n+s2.fuel<=N;omega,dB,mi,mh⟩
theorem aim (km:lq L f) (a:Int) (v:aL) (cs:List Value) (b ak:Nat) (P M:Nat->Prop) (A:List (Nat×Nat)) (s:aC) (F:Fr) (fm n N:Nat) (W:World) (r:Except cz Fr×aC) (h:bt W b ak L P M A s) (hF:fQ W P M A fm n F) (hn:n+s.fuel<=N) (hN:N<=4100000000000000000) (hg:nC L (.ret a v)) (hs:cy W (fun k=>¬P k) (.ret a v) cs) (hr:eO L (f+1) s F (.ret a v)=some r) :
 Calls prog 105 #[.pointer (some ⟨b,0,none⟩),.map (some fm),.agg cs.toArray] W (k7 W b ak L P M A fm N r):=by
 simp only[cy]at hs;obtain⟨bq,rfl,b5⟩:=hs;simp only[nC]at hg;have aj:Hid (aS (eI s) (fun _ s=>aS (bk L f s F v) fun y s=>some (.error (.ret y.n),s))=some r):=af (by rw[<-hr];simp only[eO]);obtain⟨W1,hW1⟩:=aq (W.alloc (.cells (dt 6 a [] cV bq bV bV).toArray 143));have az:ag ai W W1:=by rw[hW1];exact ay.alloc _
 have HS:Hid (eD W W1 P M fm W.heap.size (dt 6 a [] cV bq bV bV)):=af (by rw[hW1];exact eD.new h hF _);have aP:=af (h.quiet az);have bb:=af (hF.ext (Ext.quiet az) (anB A));have n6:Hid (¬P fm):=af (by obtain⟨_,_,_,k,_⟩:=hF;exact k);have a_:Hid (Ext (·=fm) M M W W1):=af (Ext.quiet az);have bH:=af (anB A);have jf:=af (anw hn hN);have aU:=af (fun y hy=>wJ ai b ak L P M A s W1 y aP hy);have vn:=af (na b5 az (fun _ f=>f.elim));have HG:=af hg;have lz:=af km;obtain⟨iA,rfl⟩:=b5.ptr;clear b5 hg km;clear h hF hn hN hr az;unfold dt str at *
 try unfold cV at *
 try unfold bV at *
 go_in;go_wp2_with fail;rw[<-hW1];clear hW1;go_at_call 119;refine qo (T:=ai) (fun _ f=>f.elim) a_ bH aj aU ?_ ?_
 ·rintro g s' rfl aV w H
  obtain⟨M',aK,k1,k2,k3⟩:=H.out;go_wp2;exact⟨rfl,⟨aV,rfl⟩,M',aK,k1,k2,k3⟩
 ·rintro u s1 HST ek e w jR ei jB bE gb cO jd ft
  obtain rfl:=jB;have eC:=af (HS.step gb id);have lW:=af (bb.ext gb jd);have kY:=af (ox HST);have c0:=eC.blk.ah 0;have c4:=eC.blk.ah 4;have iO:=na vn gb.mods (fun k hk=>hk.elim (fun f=>f.elim) (aP.off k));have jQ:=af (fun y hy=>lz.out v b ak P ai jR ei s1 F fm n w _ y bE lW HG iO hy);have iN:=af ((xC L f).1 s1 F v);clear aU aj HST iO;go_wp2_with fail;refine qo (T:=ai) (fun _ f=>f.elim) cO ft ek jQ ?_ ?_
  ·rintro g s' rfl aV w H
   obtain⟨M',aK,k1,k2,k3⟩:=H.out;go_wp2;exact⟨rfl,⟨aV,rfl⟩,M',aK,k1,k2,k3⟩
  ·rintro y s2 bF bh e aJ eH fZ ⟨nz,rfl,dm⟩ dB ly mi jP mh
   have mU:=af (iN _ bF);have oI:=af (eC.step ly id);have sR:=af (lW.ext ly jP);have rW:=af dm;obtain⟨k,av,an,rfl,-,-⟩:=dm.len dB;clear dm iN bF ek jQ;obtain rfl:=(anz bh).symm;obtain rfl:k=y.n:=by
        rcases rW with⟨-,h⟩|⟨_,_,_,-,-,h⟩ <;> simp at h <;> exact h.1
   have oV:=Bz y.n (.slice av an an);unfold k7;go_wp2;exact⟨rfl,⟨Old.nil,rfl⟩,eH,fZ,dB,mi,mh⟩
theorem aii (km:lq L f) (xA:CI L f) (a:Int) (v:aL) (t el:List St) (cs:List Value) (b ak:Nat) (P M:Nat->Prop) (A:List (Nat×Nat)) (s:aC) (F:Fr) (fm n N:Nat) (W:World) (r:Except cz Fr×aC) (h:bt W b ak L P M A s) (hF:fQ W P M A fm n F) (hn:n+s.fuel<=N) (hN:N<=4100000000000000000) (hg:nC L (.cond a v t el)) (hs:cy W (fun k=>¬P k) (.cond a v t el) cs) (hr:eO L (f+1) s F (.cond a v t el)=some r) :
 Calls prog 105 #[.pointer (some ⟨b,0,none⟩),.map (some fm),.agg cs.toArray] W (k7 W b ak L P M A fm N r):=by
 simp only[cy]at hs;obtain⟨bq,p,jM,q,dQ,rfl,b5,oY,vY,cH,lK⟩:=hs;simp only[nC]at hg;have aj:Hid (aS (eI s) (fun _ s=>aS (bk L f s F v) fun c s=>if c.n≠0 then fk L f s F t else fk L f s F el)=some r):=af (by rw[<-hr];simp only[eO]);obtain⟨W1,hW1⟩:=aq (W.alloc (.cells (dt 4 a [] cV bq p q).toArray 143));have az:ag ai W W1:=by rw[hW1];exact ay.alloc _
 have HS:Hid (eD W W1 P M fm W.heap.size (dt 4 a [] cV bq p q)):=af (by rw[hW1];exact eD.new h hF _);have aP:=af (h.quiet az);have bb:=af (hF.ext (Ext.quiet az) (anB A));have n6:Hid (¬P fm):=af (by obtain⟨_,_,_,k,_⟩:=hF;exact k);have a_:Hid (Ext (·=fm) M M W W1):=af (Ext.quiet az);have bH:=af (anB A);have jf:=af (anw hn hN);have aU:=af (fun y hy=>wJ ai b ak L P M A s W1 y aP hy);have vn:=af (na b5 az (fun _ f=>f.elim));have HG:=af hg;have lz:=af km;have Hy:=af xA;have xS:=af (anw oY (anw vY (anw cH lK)));have pS:=af h;obtain⟨iA,rfl⟩:=b5.ptr;obtain⟨pa,ck,rfl⟩:=nQ oY.1;obtain⟨bg,br,rfl⟩:=nQ cH.1;clear b5 hg km xA oY vY cH lK;clear h hF hn hN hr az;unfold dt str at *
 try unfold cV at *
 try unfold bV at *
 go_in;go_wp2_with fail;rw[<-hW1];clear hW1;go_at_call 119;refine qo (T:=ai) (fun _ f=>f.elim) a_ bH aj aU ?_ ?_
 ·rintro g s' rfl aV w H
  obtain⟨M',aK,k1,k2,k3⟩:=H.out;go_wp2;exact⟨rfl,⟨aV,rfl⟩,M',aK,k1,k2,k3⟩
 ·rintro u s1 HST ek e w jR ei jB bE gb cO jd ft
  obtain rfl:=jB;have eC:=af (HS.step gb id);have lW:=af (bb.ext gb jd);have kY:=af (ox HST);have c0:=eC.blk.ah 0;have c4:=eC.blk.ah 4;have iO:=na vn gb.mods (fun k hk=>hk.elim (fun f=>f.elim) (aP.off k));have jQ:=af (fun y hy=>lz.out v b ak P ai jR ei s1 F fm n w _ y bE lW HG.1 iO hy);have iN:=af ((xC L f).1 s1 F v);clear aU aj HST iO;go_wp2_with fail;refine qo (T:=ai) (fun _ f=>f.elim) cO ft ek jQ ?_ ?_
  ·rintro g s' rfl aV w H
   obtain⟨M',aK,k1,k2,k3⟩:=H.out;go_wp2;exact⟨rfl,⟨aV,rfl⟩,M',aK,k1,k2,k3⟩
  ·rintro y s2 bF bh e aJ eH fZ ⟨nz,rfl,dm⟩ dB ly mi jP mh
   have mU:=af (iN _ bF);have oI:=af (eC.step ly id);have sR:=af (lW.ext ly jP);have rW:=af dm;obtain⟨k,av,an,rfl,-,-⟩:=dm.len dB;clear dm iN bF ek jQ;obtain rfl:k=y.n:=by
        rcases rW with⟨-,h⟩|⟨_,_,_,-,-,h⟩ <;> simp at h <;> exact h.1
   have oV:=Bz y.n (.slice av an an);have h1:=jf.1;have h2:=kY.out;have h3:s2.fuel<=s1.fuel:=mU.out;have fT:ag (fun k=>¬P k) W aJ:=mi.mods.mono fun k _ hk=>hk.elim (fun e=>by rw[e];exact n6) (pS.off k)
   have CR:=af (show n+s2.fuel<=N by omega);have dE:=af fT;have c5:=oI.blk.ah 5;have c6:=oI.blk.ah 6;clear h1 h2 h3 fT;by_cases hz:y.n=0
   ·have hz1:(y.n != 0)=false:=by simp[hz]
    have dW:Hid (fk L f s2 F el=some r):=af (by have:=bh.out;simpa [hz] using this);clear hz bh;go_wp2_with fail;refine (Hy el _ dQ b ak P eH fZ s2 F fm n N aJ r dB sR CR jf.2 HG.2.2 (xS.2.2.1.mods dE (fun _ _ k=>k)) (cE.b8 dE (fun _ _ k=>k) _ _ xS.2.2.2) dW).mono ?_;intro e bw hk;have HK:=af (Wy hk mi mh);clear hk;rcases Wz HK with⟨aV,g,rfl⟩|rfl
    ·go_wp2
     exact⟨rfl,HK⟩
    ·go_wp2_with fail
     go_end0;exact HK
   ·have hz1:(y.n != 0)=true:=by simp[hz]
    have dW:Hid (fk L f s2 F t=some r):=af (by have:=bh.out;simpa [hz] using this);clear hz bh;go_wp2_with fail;refine (Hy t _ jM b ak P eH fZ s2 F fm n N aJ r dB sR CR jf.2 HG.2.1 (xS.1.mods dE (fun _ _ k=>k)) (cE.b8 dE (fun _ _ k=>k) _ _ xS.2.1) dW).mono ?_;intro e bw hk;have HK:=af (Wy hk mi mh);clear hk;rcases Wz HK with⟨aV,g,rfl⟩|rfl
    ·go_wp2
     exact⟨rfl,HK⟩
    ·go_wp2_with fail
     go_end0;exact HK
theorem aik (km:lq L f) (a:Int) (v:aL) (cs:List Value) (b ak:Nat) (P M:Nat->Prop) (A:List (Nat×Nat)) (s:aC) (F:Fr) (fm n N:Nat) (W:World) (r:Except cz Fr×aC) (h:bt W b ak L P M A s) (hF:fQ W P M A fm n F) (hn:n+s.fuel<=N) (hN:N<=4100000000000000000) (hg:nC L (.print a v)) (hs:cy W (fun k=>¬P k) (.print a v) cs) (hr:eO L (f+1) s F (.print a v)=some r) :
 Calls prog 105 #[.pointer (some ⟨b,0,none⟩),.map (some fm),.agg cs.toArray] W (k7 W b ak L P M A fm N r):=by
 simp only[cy]at hs;obtain⟨bq,rfl,b5⟩:=hs;simp only[nC]at hg;have aj:Hid (aS (eI s) (fun _ s=>aS (bk L f s F v) fun y s=>if s.out.length>=200 then eP 7 s else a6 F { s with out:=s.out++[y.n] })=some r):=af (by rw[<-hr];simp only[eO]);obtain⟨W1,hW1⟩:=aq (W.alloc (.cells (dt 7 a [] cV bq bV bV).toArray 143));have az:ag ai W W1:=by rw[hW1];exact ay.alloc _
 have HS:Hid (eD W W1 P M fm W.heap.size (dt 7 a [] cV bq bV bV)):=af (by rw[hW1];exact eD.new h hF _);have aP:=af (h.quiet az);have bb:=af (hF.ext (Ext.quiet az) (anB A));have n6:Hid (¬P fm):=af (by obtain⟨_,_,_,k,_⟩:=hF;exact k);have a_:Hid (Ext (·=fm) M M W W1):=af (Ext.quiet az);have bH:=af (anB A);have jf:=af (anw hn hN);have aU:=af (fun y hy=>wJ ai b ak L P M A s W1 y aP hy);have vn:=af (na b5 az (fun _ f=>f.elim));have HG:=af hg;have lz:=af km;obtain⟨iA,rfl⟩:=b5.ptr;obtain⟨i0,hi,hz0,hz1,hz2⟩:=info_parts DS;have aI:=af (anw hi (anw hz0 (anw hz1 hz2)));clear b5 hg km hi hz0 hz1 hz2;clear h hF hn hN hr az;unfold dt str at *
 try unfold cV at *
 try unfold bV at *
 go_in;go_wp2_with fail;rw[<-hW1];clear hW1;go_at_call 119;refine qo (T:=ai) (fun _ f=>f.elim) a_ bH aj aU ?_ ?_
 ·rintro g s' rfl aV w H
  obtain⟨M',aK,k1,k2,k3⟩:=H.out;go_wp2;exact⟨rfl,⟨aV,rfl⟩,M',aK,k1,k2,k3⟩
 ·rintro u s1 HST ek e w jR ei jB bE gb cO jd ft
  obtain rfl:=jB;have eC:=af (HS.step gb id);have lW:=af (bb.ext gb jd);have kY:=af (ox HST);have c0:=eC.blk.ah 0;have c4:=eC.blk.ah 4;have iO:=na vn gb.mods (fun k hk=>hk.elim (fun f=>f.elim) (aP.off k));have jQ:=af (fun y hy=>lz.out v b ak P ai jR ei s1 F fm n w _ y bE lW HG iO hy);have iN:=af ((xC L f).1 s1 F v);clear aU aj HST iO;go_wp2_with fail;refine qo (T:=ai) (fun _ f=>f.elim) cO ft ek jQ ?_ ?_
  ·rintro g s' rfl aV w H
   obtain⟨M',aK,k1,k2,k3⟩:=H.out;go_wp2;exact⟨rfl,⟨aV,rfl⟩,M',aK,k1,k2,k3⟩
  ·rintro y s2 bF bh e aJ eH fZ ⟨nz,rfl,dm⟩ dB ly mi jP mh
   have mU:=af (iN _ bF);have oI:=af (eC.step ly id);have sR:=af (lW.ext ly jP);have rW:=af dm;obtain⟨k,av,an,rfl,-,-⟩:=dm.len dB;clear dm iN bF ek jQ;obtain rfl:k=y.n:=by
        rcases rW with⟨-,h⟩|⟨_,_,_,-,-,h⟩ <;> simp at h <;> exact h.1
   have oV:=Bz y.n (.slice av an an);obtain⟨iv,ov,hb,-,hown,-⟩:=dB.blk;obtain⟨aG,aF,rfl⟩:=nQ hown;have b4:aJ.cell? ⟨b,4,none⟩=some (.slice aG s2.out.length aF):=hb.cell rfl;have Fp:=hb.free 4;have hbl:=dB.old b dB.has;obtain⟨on,qf⟩:=aq (s2.out.length);have oG:=af qf;rw[<-qf]at b4 hown;have Lo:=af hown;clear hb hown;by_cases hz:on>=200
   ·have jq:=bh.out
    rw[if_pos (by rw[<-qf];exact hz)]at jq;obtain rfl:=(anz jq).symm;have hz1:(200:Int)<=(on:Int):=(by omega);clear jq bh hz qf;unfold k7;go_wp2_with fail;refine (kT 7 _).mono ?_;rintro e bw ⟨⟨aV,rfl⟩,rfl⟩;go_wp2;exact⟨rfl,⟨aV,rfl⟩,eH,fZ,dB,mi,mh⟩
   ·have jq:=bh.out
    rw[if_neg (by rw[<-qf];exact hz)]at jq;obtain rfl:=(anz jq).symm;have hz1:¬(200:Int)<=(on:Int):=(by omega);have hz2:(on:Int)<200:=(by omega);have bF:=af hz;have fR:=af (Lo.alloc (.cells #[y.n] 2));have bR:Hid (ag ai aJ (aJ.alloc (.cells #[y.n] 2))):=af (ay.alloc _);have BI:b≠aJ.heap.size:=(by omega);have FR:(aJ.alloc (.cells #[y.n] 2)).cell? ⟨b,4,none⟩=some (.slice aG on aF):=bR.cellOf b4 id;have EL:=af FR;clear jq bh hz qf FR;unfold k7;go_wp2_with (at_builtin;refine wpList_append_own_at _ rfl _ _ 23 rfl 0 2 i0 _ 1 8 underlying23 aI.1 aI.2.1 aI.2.2.1 aI.2.2.2 rfl (by decide) (.slice aG on aF) on (s2.out.map (Value.int .i64)) rfl fR ⟨aJ.heap.size,0,none⟩ 1 1 [y.n] rfl rfl (cell_one_new _ _ _) (ints_oneCell .i64 [y.n]) (by have:=bF.out;unfold maxLen;omega) (by have:=bF.out;omega) (anC _) ?_;intro v' a7 hown cr hnil hloc;have b6:=af hown;have bZ:=af (py cr hloc);clear hown cr hnil hloc;refine Hid.out ?_);refine af ?_;obtain⟨bg,br,rfl⟩:=nQ b6;have hsz:s2.out.length<200:=(by have h1:=bF.out;have h2:=oG.out;omega);obtain⟨IU,IG⟩:=(dB.quiet bR).told EL y.n hsz (by rw[<-oG.out];exact b6) bZ;have kE:=af IU;have nE:=af ((Ext.quiet (T:=ai) bR).trans IG);obtain⟨aao,akD⟩:=(dB.quiet bR).Pc EL bZ;clear IU IG hsz b4 Fp BI;go_wp2_with fail;go_end0;have h1:=jf.1;have h2:=kY.out;have h3:s2.fuel<=s1.fuel:=mU.out;exact⟨rfl,_,fZ,n,sR.ext nE (anB _),by show n+s2.fuel<=N;omega,kE,mi.trans (nE.more fun _ _ f=>f.elim),mh⟩
theorem ail (km:lq L f) (a:Int) (x:List UInt8) (v v2:aL) (cs:List Value) (b ak:Nat) (P M:Nat->Prop) (A:List (Nat×Nat)) (s:aC) (F:Fr) (fm n N:Nat) (W:World) (r:Except cz Fr×aC) (h:bt W b ak L P M A s) (hF:fQ W P M A fm n F) (hn:n+s.fuel<=N) (hN:N<=4100000000000000000) (hg:nC L (.put a x v v2)) (hs:cy W (fun k=>¬P k) (.put a x v v2) cs) (hr:eO L (f+1) s F (.put a x v v2)=some r) :
 Calls prog 105 #[.pointer (some ⟨b,0,none⟩),.map (some fm),.agg cs.toArray] W (k7 W b ak L P M A fm N r):=by
 simp only[cy]at hs;obtain⟨bq,nz,rfl,b5,dm⟩:=hs;simp only[nC]at hg;have aj:Hid (aS (eI s) (fun _ s=>aS (bk L f s F v) fun k s=>aS (bk L f s F v2) fun y s=>aS (cX s (F.get x) k.n) fun _ s=>a6 F (ko s (F.get x) k.n y.n))=some r):=af (by rw[<-hr];simp only[eO]);obtain⟨W1,hW1⟩:=aq (W.alloc (.cells (dt 3 a x bq nz bV bV).toArray 143));have az:ag ai W W1:=by rw[hW1];exact ay.alloc _
 have HS:Hid (eD W W1 P M fm W.heap.size (dt 3 a x bq nz bV bV)):=af (by rw[hW1];exact eD.new h hF _);have aP:=af (h.quiet az);have bb:=af (hF.ext (Ext.quiet az) (anB A));have n6:Hid (¬P fm):=af (by obtain⟨_,_,_,k,_⟩:=hF;exact k);have a_:Hid (Ext (·=fm) M M W W1):=af (Ext.quiet az);have bH:=af (anB A);have jf:=af (anw hn hN);have aU:=af (fun y hy=>wJ ai b ak L P M A s W1 y aP hy);have vn:=af (na b5 az (fun _ f=>f.elim));have jC:=af (na dm az (fun _ f=>f.elim));have HG:=af hg;have lz:=af km;obtain⟨iA,rfl⟩:=b5.ptr;obtain⟨zb,rfl⟩:=dm.ptr;clear b5 dm hg km;clear h hF hn hN hr az;unfold dt str at *
 try unfold cV at *
 try unfold bV at *
 go_in;go_wp2_with fail;rw[<-hW1];clear hW1;go_at_call 119;refine qo (T:=ai) (fun _ f=>f.elim) a_ bH aj aU ?_ ?_
 ·rintro g s' rfl aV w H
  obtain⟨M',aK,k1,k2,k3⟩:=H.out;go_wp2;exact⟨rfl,⟨aV,rfl⟩,M',aK,k1,k2,k3⟩
 ·rintro u s1 HST ek e w jR ei jB bE gb cO jd ft
  obtain rfl:=jB;have eC:=af (HS.step gb id);have lW:=af (bb.ext gb jd);have kY:=af (ox HST);have c0:=eC.blk.ah 0;have c3:=eC.blk.ah 3;have iO:=na vn gb.mods (fun k hk=>hk.elim (fun f=>f.elim) (aP.off k));have jQ:=af (fun y hy=>lz.out v b ak P ai jR ei s1 F fm n w _ y bE lW HG.2.1 iO hy);have iN:=af ((xC L f).1 s1 F v);clear aU aj HST iO;go_wp2_with fail;refine qo (T:=ai) (fun _ f=>f.elim) cO ft ek jQ ?_ ?_
  ·rintro g s' rfl aV w H
   obtain⟨M',aK,k1,k2,k3⟩:=H.out;go_wp2;exact⟨rfl,⟨aV,rfl⟩,M',aK,k1,k2,k3⟩
  ·rintro y s2 bF bh e aJ eH fZ ⟨nz,rfl,dm⟩ dB ly mi jP mh
   have mU:=af (iN _ bF);have oI:=af (eC.step ly id);have sR:=af (lW.ext ly jP);have rW:=af dm;obtain⟨k,av,an,rfl,-,-⟩:=dm.len dB;clear dm iN bF ek jQ;obtain rfl:k=y.n:=by
        rcases rW with⟨-,h⟩|⟨_,_,_,-,-,h⟩ <;> simp at h <;> exact h.1
   have oV:=Bz y.n (.slice av an an);have ak5:=oI.blk.ah 4;have uf:=na (na jC gb.mods (fun k hk=>hk.elim (fun f=>f.elim) (aP.off k))) ly.mods (fun k hk=>hk.elim (fun f=>f.elim) (bE.off k));have Qa:=af (fun z hz=>lz.out v2 b ak P ai eH fZ s2 F fm n aJ _ z dB sR HG.2.2 uf hz);have QG:=af ((xC L f).1 s2 F v2);clear uf rW;go_wp2_with fail;clear oV;go_at_call 120;refine qo (T:=ai) (fun _ f=>f.elim) mi mh bh Qa ?_ ?_
   ·rintro g s' rfl aV w H
    obtain⟨M',aK,k1,k2,k3⟩:=H.out;go_wp2;exact⟨rfl,⟨aV,rfl⟩,M',aK,k1,k2,k3⟩
   ·rintro z o7 E4 dW e a7 w6 Eu ⟨KR,rfl,DR⟩ j7 zn nE P6 EF
    have Le:=af (QG _ E4);have vh:=af (oI.step zn id);have wR:=af (sR.ext zn P6);have Rg:=af DR;obtain⟨k,Z0,RF,rfl,-,-⟩:=DR.len j7;obtain rfl:k=z.n:=by
     rcases Rg with⟨-,h⟩|⟨_,_,_,-,-,h⟩ <;> simp at h <;> exact h.1
    clear DR QG E4 bh Qa Rg;have oV:=Bz z.n (.slice Z0 RF RF);have c72:=vh.blk.ah 2;obtain⟨F',k1,k2,k3,k4⟩:=wR.out;have tu:=k1.look (t:=162) underlying162 (XO _) x HG.1;have hval:=k4 x;obtain⟨lv,hlv⟩:=aq (jV rL F' x);rw[<-hlv]at hval tu;obtain⟨m,hm⟩:=aq (Fr.get F x);rw[<-hm]at hval dW;clear hlv k1 k2 k3 k4 hm;rcases hval with⟨iR,rfl⟩|⟨i,q,akY,iR,hv2,rfl⟩
    ·have hp:cX o7 m y.n=eP 3 o7:=by unfold cX;rw[if_pos];simp only[fF,iR,anY];omega
     have vP:=dW.out;rw[hp]at vP;obtain rfl:=(anz vP).symm;have adJ:=Iv m.n (.slice none 0 0);clear hp vP dW;unfold str at tu;unfold k7;go_wp2_with fail;refine (Wq y.n _).mono ?_;rintro e bw ⟨⟨aV,rfl⟩,rfl⟩;go_wp2;exact⟨rfl,⟨aV,rfl⟩,w6,Eu,j7,nE,EF⟩
    ·obtain⟨l,fc,rfl,hl2,kL⟩:=j7.row hv2
     have mD:fF o7 m=l:=(by simp[fF,iR,fc,anM]);have adJ:=Iv m.n (.slice (some ⟨q,0,none⟩) l.length l.length);unfold str at tu;by_cases hout:y.n<0\/(l.length:Int)<=y.n
     ·have hp:cX o7 m y.n=eP 3 o7:=by unfold cX;rw[mD,if_pos];omega
      have vP:=dW.out;rw[hp]at vP;obtain rfl:=(anz vP).symm;have bP:=af (Wr q l.length y.n a7 kL hout);clear hp vP dW iR hv2 fc hl2 kL mD hout;unfold k7;go_wp2_with fail;refine bP.mono ?_;rintro e bw ⟨⟨aV,rfl⟩,rfl⟩;go_wp2;exact⟨rfl,⟨aV,rfl⟩,w6,Eu,j7,nE,EF⟩
     ·have hp:cX o7 m y.n=a6 (l.getD y.n.toNat 0) o7:=by unfold cX;rw[mD,if_neg (by omega)]
      have vP:=dW.out;rw[hp]at vP;obtain⟨j,hj⟩:=aq (y.n.toNat);have jt:ko o7 m y.n z.n={ o7 with bS:=o7.bS.set i (l.set j z.n) }:=(by rw[hj];simp[ko,iR,fc,anM]);have hr2:r=(.ok F,{ o7 with bS:=o7.bS.set i (l.set j z.n) }):=by
       have:=(anz vP).symm;rw[jt]at this;exact this
      subst hr2;have bP:=af (Wp q l.length y.n a7 kL (by omega) (by omega));rw[<-hj]at bP;have ep:j<l.length:=(by omega);have hcell:a7.cell? ⟨q,j,none⟩=some (.int .i64 (l[j]'ep)):=hl2.cell (by simp[anx ep]);obtain⟨uJ,ux⟩:=aq (l[j]'ep);rw[<-ux]at hcell;have Ni:=hl2.free j;obtain⟨zT,FE⟩:=j7.Py hv2 fc j z.n;have wX:=af zT;have wQ:=af FE;clear hp vP dW iR hv2 fc hl2 kL mD hout jt zT FE ux;have fC:=af ep;clear ep hj;unfold k7;go_wp2_with fail;refine bP.mono ?_;rintro e bw ⟨rfl,rfl⟩;go_wp2_with fail;go_end0;have h1:=jf.1;have h2:=kY.out;have h3:s2.fuel<=s1.fuel:=mU.out;have h4:o7.fuel<=s2.fuel:=Le.out;exact⟨rfl,w6,Eu,n,wR.ext wQ (anB _),by show n+o7.fuel<=N;omega,wX,nE.trans (wQ.more fun _ _ f=>f.elim),EF⟩
theorem aij (km:∀k,k<=f->lq L k) (xA:∀k,k<=f->CI L k) (a:Int) (v:aL) (t:List St) (cs:List Value) (b ak:Nat) (P M:Nat->Prop) (A:List (Nat×Nat)) (s:aC) (F:Fr) (fm n N:Nat) (W:World) (r:Except cz Fr×aC) (h:bt W b ak L P M A s) (hF:fQ W P M A fm n F) (hn:n+s.fuel<=N) (hN:N<=4100000000000000000) (hg:nC L (.loop a v t)) (hs:cy W (fun k=>¬P k) (.loop a v t) cs) (hr:eO L (f+1) s F (.loop a v t)=some r) :
 Calls prog 105 #[.pointer (some ⟨b,0,none⟩),.map (some fm),.agg cs.toArray] W (k7 W b ak L P M A fm N r):=by
 simp only[cy]at hs;obtain⟨bq,p,jM,rfl,b5,oY,vY⟩:=hs;simp only[nC]at hg;have aj:Hid (aS (eI s) (fun _ s=>lp L f s F v t)=some r):=af (by rw[<-hr];simp only[eO]);obtain⟨W1,hW1⟩:=aq (W.alloc (.cells (dt 5 a [] cV bq p bV).toArray 143));have az:ag ai W W1:=by rw[hW1];exact ay.alloc _
 have HS:Hid (eD W W1 P M fm W.heap.size (dt 5 a [] cV bq p bV)):=af (by rw[hW1];exact eD.new h hF _);have aP:=af (h.quiet az);have bb:=af (hF.ext (Ext.quiet az) (anB A));have n6:Hid (¬P fm):=af (by obtain⟨_,_,_,k,_⟩:=hF;exact k);have a_:Hid (Ext (·=fm) M M W W1):=af (Ext.quiet az);have bH:=af (anB A);have jf:=af (anw hn hN);have aU:=af (fun y hy=>wJ ai b ak L P M A s W1 y aP hy);have vn:=af (na b5 az (fun _ f=>f.elim));have HG:=af hg;have lz:=af km;have Hy:=af xA;have xS:=af (anw oY vY);have pS:=af h;have tX:=af az;obtain⟨iA,rfl⟩:=b5.ptr;obtain⟨pa,ck,rfl⟩:=nQ oY.1;have Zo:=af b5;clear b5 hg km xA oY vY;clear h hF hn hN hr az;unfold dt str at *
 try unfold cV at *
 try unfold bV at *
 go_in;go_wp2_with fail;rw[<-hW1];clear hW1;go_at_call 119;refine qo (T:=ai) (fun _ f=>f.elim) a_ bH aj aU ?_ ?_
 ·rintro g s' rfl aV w H
  obtain⟨M',aK,k1,k2,k3⟩:=H.out;go_wp2;exact⟨rfl,⟨aV,rfl⟩,M',aK,k1,k2,k3⟩
 ·rintro u s1 HST ek e w jR ei jB bE gb cO jd ft
  obtain rfl:=jB;have eC:=af (HS.step gb id);have lW:=af (bb.ext gb jd);have kY:=af (ox HST);have c0:=eC.blk.ah 0;obtain⟨cs,hcs⟩:∃cs,cs=[Value.int .i64 5,.int .i64 a,.string ⟨#[]⟩,.pointer none,.pointer (some ⟨iA,0,none⟩),.slice pa t.length ck,.slice none 0 0]:=⟨_,rfl⟩;have wY:Hid (eD W w P jR fm W.heap.size cs):=af (by rw[hcs];exact eC);have kX:=af hcs;have mn:=af (show n+s1.fuel<=N by have h1:=jf.1;have h2:=kY.out;omega);clear aj aU HST kY vn hcs;go_wp2_with fail;clear c0 eC
  go_loopw [] (fun wr=>∃k s' F' M' aK n',k<=f/\Hid (lp L k s' F' v t=some r)/\Hid (bt wr b ak L P M' aK s')/\Hid (fQ wr P M' aK fm n' F')/\Hid (n'+s'.fuel<=N)/\Hid (Ext (·=fm) M M' W wr)/\Hid (A <+: aK)/\Hid (eD W wr P M' fm W.heap.size cs)) (fun wr=>(intOf ((wr.cell? ⟨b,2,none⟩).getD (.int .i64 0))).toNat)
  case atStart=>exact⟨f,s1,F,jR,ei,n,anD _,ek,bE,lW,mn,cO,ft,wY⟩
  case round =>
   clear ek bE lW mn cO ft wY aP bb a_ bH HS gb jd;obtain⟨k,s2,nA,M2,kp,n2,hk,aj,bI,pP,qG,cO,ft,fu⟩:=hrel;have yy:(intOf ((wr.cell? ⟨b,2,none⟩).getD (.int .i64 0))).toNat=s2.fuel:=SR bI;have kY:=af yy;cases k with
   | zero=>simp only[lp]at aj;cases aj.out
   | succ k =>
     simp only[lp]at aj;have hcs:=kX.out;subst hcs;have c4:=fu.blk.ah 4;have fT:ag (fun k=>¬P k) W wr:=cO.mods.mono fun k _ hk=>hk.elim (fun e=>by rw[e];exact n6) (pS.off k)
     have iO:=na Zo fT (fun _ k=>k);have jQ:=af (fun y hy=>lz.out k (by omega) v b ak P ai M2 kp s2 nA fm n2 wr _ y bI pP HG.1 iO hy);have iN:=af ((xC L k).1 s2 nA v);have Hz:=af hk;clear yy iO fT hk;go_wp2_with fail;refine qo (T:=ai) (fun _ f=>f.elim) cO ft aj jQ ?_ ?_
     ·rintro g s' rfl aV w H
      obtain⟨M',aK,k1,k2,k3⟩:=H.out;go_wp2;exact⟨rfl,⟨aV,rfl⟩,M',aK,k1,k2,k3⟩
     ·rintro y AA bF bh e aJ eH fZ ⟨nz,rfl,dm⟩ dB ly mi jP mh
      have mU:=af (iN _ bF);have oI:=af (fu.step ly id);have sR:=af (pP.ext ly jP);have rW:=af dm;obtain⟨kk,av,an,rfl,-,-⟩:=dm.len dB;obtain rfl:kk=y.n:=by
       rcases rW with⟨-,h⟩|⟨_,_,_,-,-,h⟩ <;> simp at h <;> exact h.1
      have oV:=Bz y.n (.slice av an an);clear dm iN bF aj jQ rW c4;have zt:=af (show n2+AA.fuel<=N by have h1:=qG.out;have h2:AA.fuel<=s2.fuel:=mU.out;omega);by_cases hz:y.n=0
      ·have hz1:(y.n != 0)=false:=by simp[hz]
       have jq:=bh.out;simp only[hz,ne_eq,not_true_eq_false,if_false]at jq;obtain rfl:=(anz jq).symm;clear hz bh jq;go_wp2_with fail;go_end0;exact⟨rfl,eH,fZ,n2,sR,zt,dB,mi,mh⟩
      ·have hz1:(y.n != 0)=true:=by simp[hz]
       have dW:Hid (aS (fk L k AA nA t) (fun F s=>aS (eI s) fun _ s=>lp L k s F v t)=some r):=af (by have:=bh.out;simpa [hz] using this);have Un:ag (fun k=>¬P k) W aJ:=mi.mods.mono fun k _ hk=>hk.elim (fun e=>by rw[e];exact n6) (pS.off k)
       have dE:=af Un;have c5:=oI.blk.ah 5;have Hr:=af (fun y hy=>Hy.out k (by have:=Hz.out;omega) t (.slice pa t.length ck) jM b ak P eH fZ AA nA fm n2 N aJ y dB sR zt jf.2 HG.2 (xS.1.mods dE (fun _ _ k=>k)) (cE.b8 dE (fun _ _ k=>k) _ _ xS.2) hy);have tW:=af ((xC L k).2.2.2.1 AA nA t);clear hz bh Un;go_wp2_with fail;refine WA mi mh dW Hr ?_ ?_
       ·rintro g s' rfl aV w H
        obtain⟨M',aK,k1,k2,k3⟩:=H.out;go_wp2;exact⟨rfl,⟨aV,rfl⟩,M',aK,k1,k2,k3⟩
       ·rintro G Kz Re gi bw CW XP xD K2 YO rS zn nE P6 EF
        have HA:=af (tW _ Re);have qI:=af (oI.step zn oI.cQ);have P_:=af (fun y hy=>wJ ai b ak L P CW XP Kz bw y rS hy);clear dW Hr tW Re c5 oV;go_wp2_with fail;refine qo (T:=ai) (fun _ f=>f.elim) nE EF gi P_ ?_ ?_
        ·rintro g s' rfl aV w H
         obtain⟨M',aK,k1,k2,k3⟩:=H.out;go_wp2;exact⟨rfl,⟨aV,rfl⟩,M',aK,k1,k2,k3⟩
        ·rintro Xy Ps Q2 A_ e a7 w6 Eu Yc j7 wQ Yb XW XV
         obtain rfl:=Yc;have Qn:=af (ox Q2);have vh:=af (qI.step wQ id);have wR:=af (K2.ext wQ XW);have TX:=SR j7;have Yd:=af TX;clear gi P_ Q2 TX;go_wp2_with fail;refine⟨⟨k,Ps,G,w6,Eu,xD,by have:=Hz.out;omega,A_,j7,wR,af ?_,Yb,XV,vh⟩,?_⟩
         ·have h1:=YO.out
          have h2:=Qn.out;omega
         ·rw[Yd.out,kY.out]
          have h1:AA.fuel<=s2.fuel:=mU.out;have h2:Kz.fuel<=AA.fuel:=HA.out;have h3:=Qn.out;omega
def rX {α:Type} (W:World) (ret:α->Value):e6 α->Ending->World->Prop
 | .error (n,a)=>fun e w=>LR W n a e w/\ag ai W w
 | .ok x=>fun e w=>e=.returned (ret x)/\ag ai W w
theorem w8 {zf:Type} (x:e6 α) (f:α->e6 β) (g:β->e6 zf):cn (cn x f) g=cn x (fun a=>cn (f a) g):=by cases x <;> rfl
theorem yP {x:e6 α} {f:α->e6 β} {r:e6 β} {ret:α->Value}
 (hM:Hid (ag ai W0 W)) (hx:Hid (cn x f=r)) (hc:Calls prog F args W (rX W ret x))
 (l5:∀n a,r=.error (n,a)->∀g w,Hid (aw w g [.int .i64 n,.int .i64 a] 136)->Hid (ag ai W0 w)->Q (.panicked [{ v:=za g,recovered:=false }]) w)
 (aZ:∀y,Hid (x=.ok y)->Hid (f y=r)->∀w,Hid (ag ai W w)->Hid (ag ai W0 w)->Q (.returned (ret y)) w) :
 Calls prog F args W Q:=by
 have hx:=hx.out;refine hc.mono ?_;intro e w h;cases x with
 | error q =>
   obtain⟨n,a⟩:=q;obtain⟨⟨g,rfl,hb⟩,hm⟩:=h;exact l5 n a hx.symm g w (af hb) (af (hM.out.trans hm))
 | ok y =>
   obtain⟨rfl,hm⟩:=h;exact aZ y (af rfl) (af hx) w (af hm) (af (hM.out.trans hm))
def mb (L:List Fn) (N:Nm) (e:aL):Prop:=∀ (b m:Nat) (v:Value) (W:World) (r:e6 Int),kU W b L N m->aX W (·=b) e v->dI L N e=r ->
 Calls prog 100 #[.pointer (some ⟨b,0,none⟩),v] W (rX W (fun t=>.int .i64 t) r)
theorem aX.ZZ (h:aX W S e v):∃g,v=.pointer (some ⟨g,0,none⟩)/\¬S g/\W.cell? ⟨g,1,none⟩=some (.int .i64 (Ib e)):=by
 cases e <;> simp only[aX]at h
 case num=>obtain⟨g,h1,h2,h3⟩:=h;exact⟨g,h1,h2,h3.cell rfl⟩
 case var=>obtain⟨g,h1,h2,h3⟩:=h;exact⟨g,h1,h2,h3.cell rfl⟩
 case bin=>obtain⟨x,y,⟨g,h1,h2,h3⟩,_⟩:=h;exact⟨g,h1,h2,h3.cell rfl⟩
 case un=>obtain⟨x,⟨g,h1,h2,h3⟩,_⟩:=h;exact⟨g,h1,h2,h3.cell rfl⟩
 case call=>obtain⟨x,y,⟨g,h1,h2,h3⟩,_⟩:=h;exact⟨g,h1,h2,h3.cell rfl⟩
 case new=>obtain⟨x,⟨g,h1,h2,h3⟩,_⟩:=h;exact⟨g,h1,h2,h3.cell rfl⟩
 case len=>obtain⟨x,⟨g,h1,h2,h3⟩,_⟩:=h;exact⟨g,h1,h2,h3.cell rfl⟩
 case item=>obtain⟨x,y,⟨g,h1,h2,h3⟩,_⟩:=h;exact⟨g,h1,h2,h3.cell rfl⟩
 case input=>obtain⟨g,h1,h2,h3⟩:=h;exact⟨g,h1,h2,h3.cell rfl⟩
theorem XF (he:mb L N e) (b m:Nat) (v:Value) (k:Int) (W:World) (hC:kU W b L N m) (hv:aX W (·=b) e v) :
 Calls prog 101 #[.pointer (some ⟨b,0,none⟩),v,k] W (rX W (fun (_:Unit)=>.tuple #[]) (ia L N e k)):=by
 obtain⟨r,hr⟩:=aq (ia L N e k);rw[<-hr];have aj:Hid (cn (dI L N e) (tO e k)=r):=af (by rw[hr];rfl);have a_:=af (he b m v W _ hC hv rfl);have az:=af (ag.refl ai W);obtain⟨g,rfl,_,hg⟩:=hv.ZZ;have HG:=af hg;clear hr hg hC hv he;go_in;go_wp2_with fail;refine yP az aj a_ ?_ ?_
 ·rintro n a rfl g w aA aD
  go_wp2;exact⟨rfl,⟨g,rfl,aA⟩,aD⟩
 ·intro t _ bh w o_ aD
  have hx2:=bh.out;unfold tO at hx2;by_cases ht:t=k
  ·rw[if_pos ht]at hx2
   subst hx2 ht;go_wp2_with fail;go_end0;exact⟨rfl,aD⟩
  ·rw[if_neg ht]at hx2
   subst hx2;have hne:(t != k)=true:=(by simpa using ht);have hg2:w.cell? ⟨g,1,none⟩=some (.int .i64 (Ib e)):=o_.cellOf HG id;clear aj a_ bh;go_wp2_with fail;refine (xc 1 (Ib e) w).mono ?_;rintro e w3 ⟨⟨g,rfl,hb3⟩,aR⟩;go_wp2;exact⟨rfl,⟨g,rfl,hb3⟩,aD.trans aR⟩
def jJ:List Fn->List UInt8->Option Nat
 | [],_=>none
 | p::r,s=>if p.name==s then some 0 else (jJ r s).map (·+1)
theorem U7 {N:List Fn} {s:List UInt8} (h:jJ (N.take i) s=none) {p:Fn} (hp:N[i]?=some p):jJ (N.take (i+1)) s=if p.name==s then some i else none:=by
 induction N generalizing i with
 | nil=>simp at hp
 | cons a r ih =>
   cases i with
   | zero =>
     simp only[anO,anG]at hp;subst hp;simp[jJ]
   | succ i =>
     simp only[an4,jJ]at h ⊢;split at h
     ·cases h
     ·rename_i hn
      rw[if_neg hn];simp only[aoF]at h;rw[ih h (by simpa using hp)];split <;> rfl
theorem U6 {N:List Fn} {s:List UInt8} {j:Nat} (h:jJ (N.take i) s=some j):jJ N s=some j:=by
 induction N generalizing i j with
 | nil=>simp[jJ]at h
 | cons a r ih =>
   cases i with
   | zero=>simp[jJ]at h
   | succ i =>
     simp only[an4,jJ]at h ⊢;split at h
     ·rename_i hy
      rw[if_pos hy];exact h
     ·rename_i hn
      rw[if_neg hn];obtain⟨k,hk,rfl⟩:=an7.1 h;rw[ih hk];rfl
theorem ab6 {N:List Fn} {s:List UInt8} (h:jJ N s=none):il N s=none:=by
 unfold il;induction N with
 | nil=>rfl
 | cons a r ih =>
   simp only[jJ]at h;split at h
   ·cases h
   ·rename_i hn
    rw[aoB]at hn;rw[aoa,hn];exact ih (by simpa using h)
theorem ab7 {N:List Fn} {s:List UInt8} (h:jJ N s=some i):∃p,N[i]?=some p/\il N s=some p:=by
 unfold il;induction N generalizing i with
 | nil=>simp[jJ]at h
 | cons a r ih =>
   simp only[jJ]at h;split at h
   ·rename_i hy
    obtain rfl:=anz h;exact⟨a,rfl,by rw[aoa,hy]⟩
   ·rename_i hn
    obtain⟨k,hk,rfl⟩:=an7.1 h;obtain⟨p,h1,h2⟩:=ih hk;refine⟨p,by simpa using h1,?_⟩;rw[aoB]at hn;rw[aoa,hn];exact h2
theorem abe (s:List UInt8) (a:List UInt8) (t:Int) (aG ob:Option Addr) (on aF eX eW:Nat) (q g:Nat) (W:World) (hq:W.cell? ⟨q,0,none⟩=some (.pointer (some ⟨g,0,none⟩))) (hg:W.cell? ⟨g,3,none⟩=some (str s)) :
 Calls prog 129 #[.agg #[str a,t,.slice aG on aF,.slice ob eX eW],.pointer (some ⟨q,0,none⟩)] W fun e w=>e=.returned (.bool (a==s))/\ag ai W w:=by
 have hlt:q<W.heap.size:=World.block_lt_of_cell? W _ hq;have hne:q≠W.heap.size:=by omega
 have al5:g<W.heap.size:=World.block_lt_of_cell? W _ hg;have amd:g≠W.heap.size:=by omega
 unfold str at *;go_in;go_wp2;go_region;go_wp2;go_ret;refine⟨?_,(ay.alloc _).drew⟩;simp
theorem o6 {B:Nat} {e:TypeId} {size:Nat} {vs:List Value} (h:W.ownsRow B e size v n vs):∃aG aF,v=.slice aG n aF/\n<=aF/\aF<=maxLen/\(∀j u,vs[j]?=some u->∃g,aG=some ⟨g,0,none⟩/\v.ownBlock=some g/\W.cell? ⟨g,j,none⟩=some u):=by
 rcases h.2 with⟨rfl,rfl⟩|⟨g,cap,cur,rfl,_,hg,h3,h4,_⟩
 ·have:vs=[]:=anJ (by simpa using h.1)
  subst this;exact⟨none,0,rfl,anD _,by decide,fun j u hj=>by simp at hj⟩
 ·refine⟨_,_,rfl,h3,h4,fun j u hj=>⟨g,rfl,rfl,?_⟩⟩
  have:=h.cells (g:=g) rfl j u hj;simpa [Addr.add_lit] using this
theorem aeS (s:List UInt8) (L:List Fn) (S:Nat->Prop) (v:Value) (q g:Nat) (W:World) (hq:W.cell? ⟨q,0,none⟩=some (.pointer (some ⟨g,0,none⟩))) (hg:W.cell? ⟨g,3,none⟩=some (str s)) (hL:lU W S v L) :
 Calls prog 65 #[v,.func (.func 129) #[] #[.pointer (some ⟨q,0,none⟩)]] W fun e w=>e=.returned (.int .i64 (jy (jJ L s)))/\ag ai W w:=by
 obtain⟨a,n,c,rfl,hn,iZ,hcm,h0,hcell⟩:=hL;have aT:=af hn;have aU:=af (fun (w:World) (hm:ag ai W w) (i:Nat) (hi:i<n)=>(by
  have hE:i<L.length:=by omega
  obtain⟨g,o,p,q,dQ,e1,e2,e3,e4,cG,ew,dv,dc,fG⟩:=hcell i L[i] (anx hE);obtain⟨pa,bz,ck,rfl⟩:=dv.form;obtain⟨bg,qn,br,rfl⟩:=dc.form;exact⟨L[i],g,o,pa,bz,ck,bg,qn,br,e1,anx hE,hm.cellOf e3 id,hm.cellOf e4 id,hm.cellOf cG id,hm.cellOf ew id⟩:∃x g o pa bz ck bg qn br,a=some ⟨g,o,none⟩/\L[i]?=some x/\w.cell? ⟨g,o+i*4,none⟩=some (str x.name)/\w.cell? ⟨g,o+i*4+1,none⟩=some (.int .i64 x.at_)/\w.cell? ⟨g,o+i*4+2,none⟩=some (.slice pa bz ck)/\w.cell? ⟨g,o+i*4+3,none⟩=some (.slice bg qn br)))
 have dy:=af (fun (w:World) (hm:ag ai W w)=>(⟨hm.cellOf hq id,hm.cellOf hg id⟩:w.cell? ⟨q,0,none⟩=some (.pointer (some ⟨g,0,none⟩))/\w.cell? ⟨g,3,none⟩=some (str s)));unfold maxLen at hcm;clear hn hcell hq hg;unfold str at *;go_in;go_wp2_with fail
 go_loopw [5,8] (fun _ iv wr=>∃i:Nat,i<=n/\iv=.int .i64 i/\Hid (jJ (L.take i) s=none)/\Hid (ag ai W wr)) (fun _ iv _=>(n-intOf iv).toNat)
 case atStart=>exact⟨0,anC _,rfl,af (by simp[jJ]),af ay⟩
 case round =>
  obtain⟨i,hi,rfl,aI,az⟩:=hrel;by_cases hlt:i<n
  ·obtain⟨x,yo,o,pa,bz,ck,bg,qn,br,rfl,hx,c1,c2,c3,c4⟩:=aU.out wr az i hlt
   have cA:(i:Int)<(n:Int):=(by omega);have bA:=af (U7 aI hx);have a_:=af (abe s x.name x.at_ pa bg bz ck qn br q g wr (dy wr az).1 (dy wr az).2);clear hx;unfold str at *;go_wp2_with fail;refine a_.mono ?_;rintro e w1 ⟨rfl,aO⟩;have aD:=af (az.trans aO);clear aO;rcases hb:(x.name==s) with _|_
   ·have cW:Hid (jJ (L.take (i+1)) s=none):=af (by rw[bA.out];simp only[hb];rfl)
    clear hb;go_wp2_with fail;exact⟨⟨i+1,by omega,by go_num,cW,aD⟩,by simp[intOf];omega⟩
   ·have cW:Hid (jJ L s=some i):=af (U6 (i:=i+1) (by rw[bA.out];simp only[hb];rfl))
    clear hb;go_wp2_with fail;go_ret;refine⟨?_,aD⟩;rw[cW.out];rfl
  ·obtain rfl:i=n:=by omega
   have cA:¬(i:Int)<(i:Int):=(by omega);have cW:Hid (jJ L s=none):=af (by
        have:=aI.out;rw[aT.out,aob]at this;exact this)
   go_wp2_with fail;go_ret;refine⟨?_,az⟩;rw[cW.out];rfl
theorem eB.get:{l:List aL}->{vs:List Value}->eB W S l vs->(i:Nat)->(e:aL)->l[i]?=some e->∃v,vs[i]?=some v/\aX W S e v
 | [],vs,h,i,e,he=>by simp at he
 | a::r,vs,h,i,e,he=>by
   simp only[eB]at h;obtain⟨x,r2,rfl,h1,h2⟩:=h;cases i with
   | zero=>simp only[anO,anG]at he;subst he;exact⟨x,rfl,h1⟩
   | succ i=>exact eB.get h2 i e (by simpa using he)
def xb (L:List Fn) (N:Nm) (a:Int) (f:List UInt8) (args:List aL):e6 Unit:=match il L f with
 | none=>.error (7,a)
 | some g=>if args.length=g.params.length then od L N args (g.params.map (·.2)) else .error (2,a)
theorem aay (a:Int) (f:List UInt8) {args:List aL} (hA:∀e∈args,mb L N e) (b m:Nat) (v:Value) (W:World) (hC:kU W b L N m) (hv:aX W (·=b) (.call a f args) v) :
 Calls prog 118 #[.pointer (some ⟨b,0,none⟩),v] W (rX W (fun (_:Unit)=>.tuple #[]) (xb L N a f args)):=by
 have hv0:=hv;simp only[aX]at hv;obtain⟨av,vs,⟨g,rfl,hgb,hg⟩,hrow,hex⟩:=hv;have aU:=af hC;have bQ:=af hv0;obtain⟨few,hlen,fv,tH,hb,hF,hN⟩:=hC;have bb:=af hF;obtain⟨fa,fn,yi,rfl,hfn,TV,q_,xq,Dw⟩:=hF;have hbl:=hb.lt;have TD:b≠W.heap.size:=by omega
 have gS:=hg.lt;have alR:g≠W.heap.size:=by omega
 have Bv:W.cell? ⟨b,0,none⟩=some (.slice fa fn yi):=hb.cell rfl;have C_:W.cell? ⟨g,1,none⟩=some (.int .i64 a):=hg.cell rfl;have Ig:W.cell? ⟨g,3,none⟩=some (str f):=hg.cell rfl;have um:W.cell? ⟨g,7,none⟩=some av:=hg.cell rfl;obtain⟨W1,hW1⟩:=aq (W.alloc (.cells #[.pointer (some ⟨g,0,none⟩)] 141));have aO:ag ai W W1:=by rw[hW1];exact ay.alloc _
 have cH:W1.cell? ⟨W.heap.size,0,none⟩=some (.pointer (some ⟨g,0,none⟩)):=by rw[hW1];simp
 have aI:=af (aeS f L (·=b) (.slice fa fn yi) W.heap.size g W1 cH (aO.cellOf Ig id) (bb.mods (T:=(·=b)) (aO.mono fun _ _ f=>f.elim) (fun _ _ f=>f)));have aD:=af aO;have uX:=af (⟨Bv,C_,um,cH⟩:_/\_/\_/\_);cases hx:jJ L f with
 | none =>
   have hr:xb L N a f args=.error (7,a):=(by unfold xb;rw[ab6 hx]);rw[hr];rw[hx]at aI;simp only[jy]at aI;clear hr hx cH Ig um aO hrow hex hg hb hN Dw hlen few xq hfn;unfold rX;go_in;go_wp2_with fail;rw[<-hW1];clear hW1 Bv C_;go_at_call 65;refine aI.mono ?_;rintro e w2 ⟨rfl,aN⟩;have bJ:=af (aD.trans aN);have Bw:w2.cell? ⟨W.heap.size,0,none⟩=some (.pointer (some ⟨g,0,none⟩)):=aN.cellOf uX.2.2.2 id;have C_:w2.cell? ⟨g,1,none⟩=some (.int .i64 a):=bJ.cellOf uX.2.1 id;clear aN;go_wp2_with fail;refine (xc 7 a w2).mono ?_;rintro e w3 ⟨⟨g,rfl,hb3⟩,aR⟩;go_wp2;exact⟨rfl,⟨g,rfl,hb3⟩,bJ.trans aR⟩
 | some k =>
   obtain⟨p,hp,I8⟩:=ab7 hx;have ng:k<L.length:=(anA.1 hp).1;have al0:(k:Int)<(fn:Int):=(by omega);obtain⟨yo,o,pv,qv,dQ,rfl,alP,_,_,L8,_,NV,_,_⟩:=Dw k p hp;have NW:=NV.1;obtain⟨pa,ck,rfl,Ad,Js,Jq⟩:=o6 NW;have N2:=hrow.1;obtain⟨aa,ac,rfl,Dp,Tz,M0⟩:=o6 N2;rw[hx]at aI;simp only[jy]at aI;have zl:=af L8;by_cases hn:args.length=p.params.length
   ·have hr:xb L N a f args=od L N args (p.params.map (·.2)):=by unfold xb;rw[I8];simp only;rw[if_pos hn]
    obtain⟨r,hr2⟩:=aq (xb L N a f args);rw[<-hr2];have aj:Hid (od L N (args.drop 0) ((p.params.map (·.2)).drop 0)=r):=af (by rw[hr2,hr];rfl);have aP:=af (fun (w:World) (hm:ag ai W w) (i:Nat) (hi:i<p.params.length)=>(by
        have hE:i<args.length:=(by omega);have e1:args[i]?=some args[i]:=anx hE;have e2:p.params[i]?=some p.params[i]:=anx hi;obtain⟨y,hy,uG⟩:=hex.get i args[i] e1;obtain⟨eg,rfl⟩:=uG.ptr;obtain⟨q1,q2⟩:=D4 p.params i p.params[i] e2;obtain⟨nV,jh,_,d1⟩:=Jq _ _ q1;obtain⟨GV,Ae,_,d2⟩:=Jq _ _ q2;obtain rfl:nV=GV:=(by rw[jh]at Ae;simpa using Ae);obtain⟨ui,FQ,_,d3⟩:=M0 _ _ hy;refine⟨nV,ui,p.params[i].1,p.params[i].2,args[i],eg,jh,FQ,hm.cellOf d1 id,hm.cellOf d2 id,hm.cellOf d3 id,?_,fun w' DC=>XF (hA _ (aof hE)) b m _ _ w' (aU.mods (hm.trans DC)) (uG.mods ((hm.trans DC).mono fun _ _ f=>f.elim))⟩;rw[anL hE,anL (show i<(p.params.map (·.2)).length by simpa using hi)];simp only[od,ia,w8,List.getElem_map] :
        ∃nV ui nm ty e eg,pa=some ⟨nV,0,none⟩/\aa=some ⟨ui,0,none⟩/\w.cell? ⟨nV,i*2,none⟩=some (str nm)/\w.cell? ⟨nV,i*2+1,none⟩=some (.int .i64 ty)/\w.cell? ⟨ui,i,none⟩=some (.pointer (some ⟨eg,0,none⟩))/\
         od L N (args.drop i) ((p.params.map (·.2)).drop i)=cn (ia L N e ty) (fun _=>od L N (args.drop (i+1)) ((p.params.map (·.2)).drop (i+1)))/\
         ∀w',ag ai w w'->Calls prog 101 #[.pointer (some ⟨b,0,none⟩),.pointer (some ⟨eg,0,none⟩),ty] w' (rX w' (fun (_:Unit)=>.tuple #[]) (ia L N e ty))))
    have hend:Hid (od L N (args.drop p.params.length) ((p.params.map (·.2)).drop p.params.length)=.ok ()):=af (by
        rw[List.drop_eq_nil_of_le (by omega)];simp only[od])
    obtain⟨ks,F5⟩:=aq (p.params.map (·.2));rw[<-F5]at aj aP hend;have hne:((args.length:Int) != (p.params.length:Int))=false:=(by simp;omega);obtain⟨an,eT⟩:=aq (args.length);obtain⟨bz,fe⟩:=aq (p.params.length);rw[<-eT]at hne uX Dp um;rw[<-fe]at hne zl aP hend Ad;have XY:Hid (an=bz):=af (by omega);clear hr hr2 hx cH Ig um aO hrow hex hg hb hN Dw hlen few xq NV NW N2 hn Jq M0 I8 hp hfn eT fe L8 F5;unfold str at *;go_in;go_wp2_with fail;rw[<-hW1];clear hW1 Bv C_;go_at_call 65;refine aI.mono ?_;rintro e w2 ⟨rfl,aN⟩;have bJ:=af (aD.trans aN);have Bw:w2.cell? ⟨W.heap.size,0,none⟩=some (.pointer (some ⟨g,0,none⟩)):=aN.cellOf uX.2.2.2 id;have Bv:w2.cell? ⟨b,0,none⟩=some (.slice (some ⟨yo,o,none⟩) fn yi):=bJ.cellOf uX.1 id;have um:w2.cell? ⟨g,7,none⟩=some (.slice aa an ac):=bJ.cellOf uX.2.2.1 id;have Sh:w2.cell? ⟨yo,o+k*4+2,none⟩=some (.slice pa bz ck):=bJ.cellOf zl id;have dy:Hid (w2.cell? ⟨W.heap.size,0,none⟩=some (.pointer (some ⟨g,0,none⟩))/\w2.cell? ⟨g,7,none⟩=some (.slice aa an ac)):=af ⟨Bw,um⟩;clear aN;unfold maxLen at q_ Js Tz;go_wp2_with fail;go_region;go_wp2_with fail;clear Bw Bv um Sh
    go_loopw [5,6,51] (fun _ _ iv wr=>∃i:Nat,i<=bz/\iv=.int .i64 i/\Hid (od L N (args.drop i) (ks.drop i)=r)/\Hid (ag ai w2 wr)) (fun _ _ iv _=>(bz-intOf iv).toNat)
    case atStart=>exact⟨0,anC _,rfl,aj,af (ag.refl ai w2).drew⟩
    case round =>
        clear aj;obtain⟨i,hi,rfl,aj,az⟩:=hrel;by_cases hlt:i<bz
        ·obtain⟨nV,ui,nm,ty,e,eg,rfl,rfl,c1,c2,c3,hstep,oq⟩:=aP.out wr (bJ.trans az) i hlt
         have cA:(i:Int)<(bz:Int):=(by omega);have hai:(i:Int)<(an:Int):=(by have:=XY.out;omega);have Bw:wr.cell? ⟨W.heap.size,0,none⟩=some (.pointer (some ⟨g,0,none⟩)):=az.cellOf dy.1 id;have um:wr.cell? ⟨g,7,none⟩=some (.slice (some ⟨ui,0,none⟩) an ac):=az.cellOf dy.2 id;have l1:W.heap.size<wr.heap.size:=World.block_lt_of_cell? wr _ Bw;have l2:g<wr.heap.size:=World.block_lt_of_cell? wr _ um;have l3:ui<wr.heap.size:=World.block_lt_of_cell? wr _ c3;have Vp:nV<wr.heap.size:=World.block_lt_of_cell? wr _ c1;have n1:W.heap.size≠wr.heap.size:=(by omega);have n2:g≠wr.heap.size:=(by omega);have n3:ui≠wr.heap.size:=(by omega);have Gx:nV≠wr.heap.size:=(by omega);have wP:=af oq;have bh:Hid (cn (ia L N e ty) (fun _=>od L N (args.drop (i+1)) (ks.drop (i+1)))=r):=af (by rw[<-hstep];exact aj);clear hstep oq aj;have bR:Hid (ag ai wr (wr.alloc (.cells #[.string ⟨nm.toArray⟩,ty] 91)).drew):=af (ay.alloc _).drew;cases lM:ia L N e ty with
         | error q =>
           obtain⟨qn,bg⟩:=q;rw[lM]at bh wP;obtain rfl:r=.error (qn,bg):=bh.symm;have lx:=af (wP _ bR);clear bh wP lM;go_wp2_with fail
           go_region_with (first|(go_at_call 101;refine lx.mono ?_;rintro e w3 ⟨⟨g3,rfl,hb3⟩,aR⟩;refine yT prog w3 ⟨rfl,⟨g3,rfl,hb3⟩,bJ.trans (az.trans (bR.trans aR))⟩ ?_))
           all_goals trivial
         | ok q =>
           rw[lM]at bh wP;have dW:Hid (od L N (args.drop (i+1)) (ks.drop (i+1))=r):=af bh;have lx:=af (wP _ bR);clear bh wP lM;go_wp2_with fail
           go_region_with (first|(go_at_call 101;refine lx.mono ?_;rintro e w3 ⟨rfl,aR⟩))
           all_goals
            have cv:=af (az.trans (bR.trans aR));clear aR;go_wp2_with fail;exact⟨⟨i+1,by omega,by go_num,dW,cv⟩,by simp[intOf];omega⟩
        ·obtain rfl:i=bz:=by omega
         have cA:¬(i:Int)<(i:Int):=(by omega);obtain rfl:r=.ok ():=(by rw[<-aj.out];exact hend.out);go_wp2_with fail;go_end0;exact⟨rfl,bJ.trans az⟩
   ·have hr:xb L N a f args=.error (2,a):=by unfold xb;rw[I8];simp only;rw[if_neg hn]
    rw[hr];have hne:((args.length:Int) != (p.params.length:Int))=true:=(by simp;omega);obtain⟨an,eT⟩:=aq (args.length);obtain⟨bz,fe⟩:=aq (p.params.length);rw[<-eT]at hne uX;rw[<-fe]at hne zl;rw[<-eT]at Dp um;rw[<-fe]at Ad;clear hr hx cH Ig um aO hrow hex hg hb hN Dw hlen few xq NV NW N2 hn Jq M0 I8 hp hfn eT fe L8;unfold rX;go_in;go_wp2_with fail;rw[<-hW1];clear hW1 Bv C_;go_at_call 65;refine aI.mono ?_;rintro e w2 ⟨rfl,aN⟩;have bJ:=af (aD.trans aN);have Bw:w2.cell? ⟨W.heap.size,0,none⟩=some (.pointer (some ⟨g,0,none⟩)):=aN.cellOf uX.2.2.2 id;have Bv:w2.cell? ⟨b,0,none⟩=some (.slice (some ⟨yo,o,none⟩) fn yi):=bJ.cellOf uX.1 id;have C_:w2.cell? ⟨g,1,none⟩=some (.int .i64 a):=bJ.cellOf uX.2.1 id;have um:w2.cell? ⟨g,7,none⟩=some (.slice aa an ac):=bJ.cellOf uX.2.2.1 id;have Sh:w2.cell? ⟨yo,o+k*4+2,none⟩=some (.slice pa bz ck):=bJ.cellOf zl id;clear aN;unfold maxLen at q_ Js Tz;go_wp2_with fail;go_region;go_wp2_with fail;refine (xc 2 a _).mono ?_;rintro e w3 ⟨⟨g,rfl,hb3⟩,aR⟩;go_wp2;exact⟨rfl,⟨g,rfl,hb3⟩,bJ.drew.trans aR⟩
theorem zG (he:mb L N e) (hC:kU W b L N m) (hv:aX W (·=b) e v) (k:Int) (w:World) (hm:ag ai W w) :
 Calls prog 101 #[.pointer (some ⟨b,0,none⟩),v,k] w (rX w (fun (_:Unit)=>.tuple #[]) (ia L N e k)) :=
 XF he b m v k w (hC.mods hm) (hv.mods (hm.mono fun _ _ f=>f.elim))
theorem abG (L:List Fn) (N:Nm) (a n:Int):mb L N (.num a n):=by
 intro b m v W r hC hv hr;simp only[dI]at hr;subst hr;simp only[aX]at hv;obtain⟨g,rfl,_,hg⟩:=hv;have c0:W.cell? ⟨g,0,none⟩=some (.int .i64 1):=hg.cell rfl;clear hC hg;unfold rX;go_in;go_wp2_with fail;go_ret;exact⟨rfl,ag.refl _ _⟩
theorem abC (L:List Fn) (N:Nm) (a:Int):mb L N (.input a):=by
 intro b m v W r hC hv hr;simp only[dI]at hr;subst hr;simp only[aX]at hv;obtain⟨g,rfl,_,hg⟩:=hv;have c0:W.cell? ⟨g,0,none⟩=some (.int .i64 9):=hg.cell rfl;clear hC hg;unfold rX;go_in;go_wp2_with fail;go_ret;exact⟨rfl,ag.refl _ _⟩
theorem abH (a:Int) (op:List UInt8) (hx:mb L N x):mb L N (.un a op x):=by
 intro b m v W r hC hv hr;have aj:Hid (cn (ia L N x 1) (fun _=>.ok 1)=r):=af (by rw[<-hr];simp only[dI,ia,w8]);simp only[aX]at hv;obtain⟨bq,⟨g,rfl,_,hg⟩,b5⟩:=hv;have HW:=af (zG hx hC b5 1 W ay);have az:=af (ag.refl ai W);have c0:W.cell? ⟨g,0,none⟩=some (.int .i64 4):=hg.cell rfl;have c5:W.cell? ⟨g,5,none⟩=some bq:=hg.cell rfl;obtain⟨iA,rfl⟩:=b5.ptr;clear hC hg hr b5 hx;go_in;go_wp2_with fail;refine yP az aj HW ?_ ?_
 ·rintro n a rfl g w aA aD
  go_wp2;exact⟨rfl,⟨g,rfl,aA⟩,aD⟩
 ·intro t _ bh w o_ aD
  obtain rfl:r=.ok 1:=bh.symm;clear aj bh HW c0 c5;go_wp2_with fail;go_ret;exact⟨rfl,aD⟩
theorem abF (a:Int) (hx:mb L N x):mb L N (.new a x):=by
 intro b m v W r hC hv hr;have aj:Hid (cn (ia L N x 1) (fun _=>.ok 2)=r):=af (by rw[<-hr];simp only[dI,ia,w8]);simp only[aX]at hv;obtain⟨bq,⟨g,rfl,_,hg⟩,b5⟩:=hv;have HW:=af (zG hx hC b5 1 W ay);have az:=af (ag.refl ai W);have c0:W.cell? ⟨g,0,none⟩=some (.int .i64 6):=hg.cell rfl;have c5:W.cell? ⟨g,5,none⟩=some bq:=hg.cell rfl;obtain⟨iA,rfl⟩:=b5.ptr;clear hC hg hr b5 hx;go_in;go_wp2_with fail;refine yP az aj HW ?_ ?_
 ·rintro n a rfl g w aA aD
  go_wp2;exact⟨rfl,⟨g,rfl,aA⟩,aD⟩
 ·intro t _ bh w o_ aD
  obtain rfl:r=.ok 2:=bh.symm;clear aj bh HW c0 c5;go_wp2_with fail;go_ret;exact⟨rfl,aD⟩
theorem abE (a:Int) (hx:mb L N x):mb L N (.len a x):=by
 intro b m v W r hC hv hr;have aj:Hid (cn (ia L N x 2) (fun _=>.ok 1)=r):=af (by rw[<-hr];simp only[dI,ia,w8]);simp only[aX]at hv;obtain⟨bq,⟨g,rfl,_,hg⟩,b5⟩:=hv;have HW:=af (zG hx hC b5 2 W ay);have az:=af (ag.refl ai W);have c0:W.cell? ⟨g,0,none⟩=some (.int .i64 7):=hg.cell rfl;have c5:W.cell? ⟨g,5,none⟩=some bq:=hg.cell rfl;obtain⟨iA,rfl⟩:=b5.ptr;clear hC hg hr b5 hx;go_in;go_wp2_with fail;refine yP az aj HW ?_ ?_
 ·rintro n a rfl g w aA aD
  go_wp2;exact⟨rfl,⟨g,rfl,aA⟩,aD⟩
 ·intro t _ bh w o_ aD
  obtain rfl:r=.ok 1:=bh.symm;clear aj bh HW c0 c5;go_wp2_with fail;go_ret;exact⟨rfl,aD⟩
theorem abA (a:Int) (op:List UInt8) (hx:mb L N x) (hy:mb L N y):mb L N (.bin a op x y):=by
 intro b m v W r hC hv hr;have aj:Hid (cn (ia L N x 1) (fun _=>cn (ia L N y 1) (fun _=>.ok 1))=r):=af (by rw[<-hr];simp only[dI,ia,w8]);simp only[aX]at hv;obtain⟨bq,nz,⟨g,rfl,_,hg⟩,b5,dm⟩:=hv;have HW:=af (zG hx hC b5 1 W ay);have E3:=af (zG hy hC dm 1);have az:=af (ag.refl ai W);have c0:W.cell? ⟨g,0,none⟩=some (.int .i64 3):=hg.cell rfl;have c5:W.cell? ⟨g,5,none⟩=some bq:=hg.cell rfl;have c6:W.cell? ⟨g,6,none⟩=some nz:=hg.cell rfl;obtain⟨iA,rfl⟩:=b5.ptr;obtain⟨zb,rfl⟩:=dm.ptr;clear hC hg hr b5 hx dm hy;go_in;go_wp2_with fail;refine yP az aj HW ?_ ?_
 ·rintro n a rfl g w aA aD
  go_wp2;exact⟨rfl,⟨g,rfl,aA⟩,aD⟩
 ·intro t _ bh w o_ aD
  have zy:=af (E3 w aD);have L4:w.cell? ⟨g,6,none⟩=some (.pointer (some ⟨zb,0,none⟩)):=aD.cellOf c6 id;clear aj HW c0 c5 c6 E3;go_wp2_with fail;refine yP aD bh zy ?_ ?_
  ·rintro n a rfl g w aA aD
   go_wp2;exact⟨rfl,⟨g,rfl,aA⟩,aD⟩
  ·intro t _ dW w2 YM bJ
   obtain rfl:r=.ok 1:=dW.symm;clear bh dW zy L4;go_wp2_with fail;go_ret;exact⟨rfl,bJ⟩
theorem abD (a:Int) (hx:mb L N x) (hy:mb L N y):mb L N (.item a x y):=by
 intro b m v W r hC hv hr;have aj:Hid (cn (ia L N x 2) (fun _=>cn (ia L N y 1) (fun _=>.ok 1))=r):=af (by rw[<-hr];simp only[dI,ia,w8]);simp only[aX]at hv;obtain⟨bq,nz,⟨g,rfl,_,hg⟩,b5,dm⟩:=hv;have HW:=af (zG hx hC b5 2 W ay);have E3:=af (zG hy hC dm 1);have az:=af (ag.refl ai W);have c0:W.cell? ⟨g,0,none⟩=some (.int .i64 8):=hg.cell rfl;have c5:W.cell? ⟨g,5,none⟩=some bq:=hg.cell rfl;have c6:W.cell? ⟨g,6,none⟩=some nz:=hg.cell rfl;obtain⟨iA,rfl⟩:=b5.ptr;obtain⟨zb,rfl⟩:=dm.ptr;clear hC hg hr b5 hx dm hy;go_in;go_wp2_with fail;refine yP az aj HW ?_ ?_
 ·rintro n a rfl g w aA aD
  go_wp2;exact⟨rfl,⟨g,rfl,aA⟩,aD⟩
 ·intro t _ bh w o_ aD
  have zy:=af (E3 w aD);have L4:w.cell? ⟨g,6,none⟩=some (.pointer (some ⟨zb,0,none⟩)):=aD.cellOf c6 id;clear aj HW c0 c5 c6 E3;go_wp2_with fail;refine yP aD bh zy ?_ ?_
  ·rintro n a rfl g w aA aD
   go_wp2;exact⟨rfl,⟨g,rfl,aA⟩,aD⟩
  ·intro t _ dW w2 YM bJ
   obtain rfl:r=.ok 1:=dW.symm;clear bh dW zy L4;go_wp2_with fail;go_ret;exact⟨rfl,bJ⟩
theorem abI (L:List Fn) (N:Nm) (a:Int) (s:List UInt8):mb L N (.var a s):=by
 intro b m v W r hC hv hr;simp only[dI]at hr;simp only[aX]at hv;obtain⟨g,rfl,_,hg⟩:=hv;have bb:=af (Iu b L N m s W hC);have c0:W.cell? ⟨g,0,none⟩=some (.int .i64 2):=hg.cell rfl;have c1:W.cell? ⟨g,1,none⟩=some (.int .i64 a):=hg.cell rfl;have c3:W.cell? ⟨g,3,none⟩=some (str s):=hg.cell rfl;obtain⟨q,hq⟩:=aq (e9 N s);rw[<-hq]at hr bb;clear hC hg hq;by_cases h0:q=0
 ·rw[if_pos h0]at hr
  subst hr h0;unfold rX str at *;go_in;go_wp2_with fail;refine bb.mono ?_;rintro e w2 ⟨rfl,aN⟩;have ak1:=aN.cellOf c1 id;go_wp2_with fail;refine (xc 7 a w2).mono ?_;rintro e w3 ⟨⟨g,rfl,hb3⟩,aR⟩;go_wp2;exact⟨rfl,⟨g,rfl,hb3⟩,aN.trans aR⟩
 ·rw[if_neg h0]at hr
  subst hr;have DG:(q==0)=false:=by simpa using h0
  unfold rX str at *;go_in;go_wp2_with fail;refine bb.mono ?_;rintro e w2 ⟨rfl,aN⟩;go_wp2_with fail;go_ret;exact⟨rfl,aN⟩
theorem abB (a:Int) (f:List UInt8) {args:List aL} (hA:∀e∈args,mb L N e):mb L N (.call a f args):=by
 intro b m v W r hC hv hr;have aj:Hid (cn (xb L N a f args) (fun _=>.ok 1)=r):=af (by
  rw[<-hr];simp only[dI];unfold xb;cases il L f with
  | none=>rfl
  | some g =>
    simp only;split <;> rfl)
 have HW:=af (aay a f hA b m v W hC hv);have az:=af (ag.refl ai W);simp only[aX]at hv;obtain⟨bq,vs,⟨g,rfl,_,hg⟩,_⟩:=hv;have c0:W.cell? ⟨g,0,none⟩=some (.int .i64 5):=hg.cell rfl;clear hC hg hr hA;go_in;go_wp2_with fail;refine yP az aj HW ?_ ?_
 ·rintro n a rfl g w aA aD
  go_wp2;exact⟨rfl,⟨g,rfl,aA⟩,aD⟩
 ·intro t _ bh w o_ aD
  obtain rfl:r=.ok 1:=bh.symm;clear aj bh HW c0;go_wp2_with fail;go_ret;exact⟨rfl,aD⟩
mutual
theorem xj (L:List Fn) (N:Nm):(e:aL)->mb L N e
 | .num a n=>abG L N a n
 | .var a s=>abI L N a s
 | .bin a op l r=>abA a op (xj L N l) (xj L N r)
 | .un a op x=>abH a op (xj L N x)
 | .call a f args=>abB a f (Sx L N args)
 | .new a x=>abF a (xj L N x)
 | .len a x=>abE a (xj L N x)
 | .item a x i=>abD a (xj L N x) (xj L N i)
 | .input a=>abC L N a
theorem Sx (L:List Fn) (N:Nm):(l:List aL)->∀e∈l,mb L N e
 | []=>fun e h=>nomatch h
 | a::r=>fun e h=>(anW.1 h).elim (fun h1=>h1 ▸ xj L N a) (Sx L N r e)
end
theorem KN (L:List Fn) (N:Nm) (e:aL) (hC:kU W b L N m) (hv:aX W (·=b) e v) (k:Int) (w:World) (hm:ag ai W w) :
 Calls prog 101 #[.pointer (some ⟨b,0,none⟩),v,k] w (rX w (fun (_:Unit)=>.tuple #[]) (ia L N e k)):=zG (xj L N e) hC hv k w hm

/- A part of what stands behind. -/
import Derived.Test.YtnicpmoanjddbaaGreatDoorFp01
import Derived.WalkSpells
import Derived.WalkLawsBesides
import Derived.RegionTactic
import Derived.Deep.RegionHeld3
import Derived.Outline
import Derived.IntWalk
import Derived.Maps.OwnSet
import Derived.StringKeys
import Derived.Lib.SmallJoins
import Derived.Maps.AppendAt
import Derived.OwnWalk
import Derived.Test.YtnicpmoanjddbaaGreatDoorShelf
import Derived.Laws.PanicsMore
import Derived.Deep.MidRow
import Derived.Laws.AppendOwnNone
import Derived.Deep.RegionLaw
set_option maxRecDepth 100000
set_option maxHeartbeats 4000000
set_option linter.all false
namespace Go.Proofs.YtnicpmoanjddbaaGreatDoor
namespace aB
open Go.RowKit bB Go.Proofs.Tryz
variable {ts:List Tok} {W W':World} {b g o c:Nat} {S T:Nat->Prop} {t:Tok} {n a:Int} {e:Ending}
def str (l:List UInt8):Value:=.string ⟨l.toArray⟩
def zE (W:World) (g o:Nat) (ts:List Tok):Prop :=
 ∀ (i:Nat) (t:Tok),ts[i]?=some t->W.cell? ⟨g,o+i*3,none⟩=some (.int .i64 t.kind)/\W.cell? ⟨g,o+i*3+1,none⟩=some (str t.text)/\W.cell? ⟨g,o+i*3+2,none⟩=some (.int .i64 t.at_)
theorem zE.mods (h:zE W g o ts) (hm:ag S W W') (hn:¬S g):zE W' g o ts:=fun i t ht =>
 ⟨hm.cellOf (h i t ht).1 hn,hm.cellOf (h i t ht).2.1 hn,hm.cellOf (h i t ht).2.2 hn⟩
theorem zE.tail (h:zE W g o (t::ts)):zE W g (o+3) ts:=fun i u hu=>by
 have:=h (i+1) u (by simpa using hu);rw[show o+3+i*3=o+(i+1)*3 by omega];exact this
def Ends (ts:List Tok):Prop:=∃a,ts.getLast?=some ⟨4,[],a⟩
theorem Ends.ne (h:Ends ts):ts≠[]:=by rintro rfl;obtain⟨a,h⟩:=h;simp at h
theorem Ends.tail (h:Ends (t::ts)) (hk:t.kind≠4):Ends ts:=by
 obtain⟨a,h⟩:=h;cases ts with
 | nil=>simp at h;rw[h]at hk;exact absurd rfl hk
 | cons u us=>exact⟨a,by simpa using h⟩
structure pc (W:World) (b g o c:Nat) (ts:List Tok):Prop where
 blk:aw W b [.slice (some ⟨g,o,none⟩) ts.length c] 77
 cap:ts.length<=c
 max:c<=9223372036854775807
 len:ts.length<=10000000
 lt:g<b
 G_:zE W g o ts
 ends:Ends ts
 small:∀t∈ts,t.text.length<=10000000
 cL:∀t∈ts,t.kind=2->t.text≠[]/\t.text.all ik=true
def iV (W:World) (b:Nat) (ts:List Tok):Prop:=∃g o c,pc W b g o c ts
theorem pc.mods (h:pc W b g o c ts) (hm:ag S W W') (hb:¬S b) (hg:¬S g):pc W' b g o c ts :=
 ⟨h.blk.mods hm hb,h.cap,h.max,h.len,h.lt,h.G_.mods hm hg,h.ends,h.small,h.cL⟩
theorem iV.mods (h:iV W b ts) (hm:ag ai W W'):iV W' b ts:=by
 obtain⟨g,o,c,h⟩:=h;exact⟨g,o,c,h.mods hm id id⟩
theorem iV.cQ (h:iV W b ts) (hm:ag T W W') (hT:∀k,T k->b<k):iV W' b ts:=by
 obtain⟨g,o,c,h⟩:=h;exact⟨g,o,c,h.mods hm (fun f=>an5 _ (hT _ f)) (fun f=>Nat.lt_asymm h.lt (hT _ f))⟩
theorem iV.ends (h:iV W b ts):Ends ts:=by
 obtain⟨g,o,c,h⟩:=h;exact h.ends
theorem pc.tail (h:pc W b g o c (t::ts)) (hk:t.kind≠4):pc (W.setCell ⟨b,0,none⟩ (.slice (some ⟨g,o+3,none⟩) ts.length (c-1))) b g (o+3) (c-1) ts:=by
 have hm:ag (·=b) W (W.setCell ⟨b,0,none⟩ (.slice (some ⟨g,o+3,none⟩) ts.length (c-1))):=ag.setCell (S:=(·=b)) (p:=⟨b,0,none⟩) ay (fun _=>rfl) _;have hc:=h.cap;simp only[anK]at hc;exact⟨h.blk.set 0 _,by omega,by have:=h.max;omega,by have:=h.len;simp only[anK]at this;omega,h.lt,h.G_.tail.mods hm (Nat.ne_of_lt h.lt),h.ends.tail hk,fun u hu=>h.small u (aoA _ hu),fun u hu=>h.cL u (aoA _ hu)⟩
section
variable {W:World} {b g o c:Nat} {t:Tok} {ts:List Tok}
theorem pc.cl (h:pc W b g o c (t::ts)):W.cell? ⟨b,0,none⟩=some (.slice (some ⟨g,o,none⟩) (ts.length+1) c):=h.blk.cell rfl
theorem pc.Da (h:pc W b g o c (t::ts)):W.cell? ⟨g,o,none⟩=some (.int .i64 t.kind):=(h.G_ 0 t rfl).1
theorem pc.Ii (h:pc W b g o c (t::ts)):W.cell? ⟨g,o+1,none⟩=some (.string ⟨t.text.toArray⟩):=(h.G_ 0 t rfl).2.1
theorem pc.ca (h:pc W b g o c (t::ts)):W.cell? ⟨g,o+2,none⟩=some (.int .i64 t.at_):=(h.G_ 0 t rfl).2.2
end
theorem s8 (h:Ends ts):∃t r,ts=t::r:=by
 cases ts with
 | nil=>exact absurd rfl h.ne
 | cons t r=>exact⟨t,r,rfl⟩
theorem KA (b:Nat) (s:List UInt8) (ts:List Tok) (W:World) (h:iV W b ts) :
 Calls prog 93 #[.pointer (some ⟨b,0,none⟩),str s] W fun e W'=>e=.returned (.bool (cR s ts))/\W=W':=by
 obtain⟨g,o,c,h⟩:=h;obtain⟨t,r,rfl⟩:=s8 h.ends;have hl:=h.cl;have hk:=h.Da;have ht:=h.Ii;have iD:=h.cap;have lJ:=h.max;simp only[anK]at iD;obtain⟨tk,tt,ta⟩:=t;simp only at hk ht;unfold str;have HS:cR s (⟨tk,tt,ta⟩::r)=(tt==s && tk != 4):=rfl;rw[HS];clear h HS;cases hq:(tt==s)
 all_goals
  go_in;go_wp2;go_ret;exact⟨rfl,rfl⟩
theorem Pw {s:List UInt8} (h:cR s ts=true) (he:Ends ts):∃t r,ts=t::r/\t.kind≠4:=by
 obtain⟨t,r,rfl⟩:=s8 he;refine⟨t,r,rfl,?_⟩;simp only[cR,headKind,List.head?_cons,Option.map_some,aoU,anX,bne_iff_ne,ne_eq]at h;exact h.2
theorem Xn (b:Nat) (s:List UInt8) (ts:List Tok) (W:World) (h:iV W b ts) (hs:cR s ts=false) :
 Calls prog 62 #[.pointer (some ⟨b,0,none⟩),str s] W fun e W'=>e=.returned (.bool false)/\W=W':=by
 have HS:=KA b s ts W h;rw[hs]at HS;unfold str at HS ⊢;have H:=af HS;clear h hs HS;go_in;go_wp2_with (go_at_call 93;refine H.mono ?_;rintro e w' ⟨rfl,rfl⟩);go_ret;exact⟨rfl,rfl⟩
def Rp (W:World) (b:Nat) (ts:List Tok) (W':World):Prop:=iV W' b ts.tail/\ag (·=b) W W'
theorem Xo (b:Nat) (s:List UInt8) (ts:List Tok) (W:World) (h:iV W b ts) (hs:cR s ts=true) :
 Calls prog 62 #[.pointer (some ⟨b,0,none⟩),str s] W fun e W'=>e=.returned (.bool true)/\Rp W b ts W':=by
 have HS:=KA b s ts W h;rw[hs]at HS;unfold str at HS ⊢;have H:=af HS;obtain⟨t,r,rfl,hk⟩:=Pw hs h.ends;obtain⟨g,o,c,h⟩:=h;have hl:=h.cl;have iD:=h.cap;have lJ:=h.max;simp only[anK]at iD;have hf:=h.blk.free 0;have hr:1<=r.length:=by
  have:=(h.ends.tail hk).ne;cases r with
  | nil=>exact absurd rfl this
  | cons _ _=>simp
 have bA:=af (h.tail hk);clear h hs HS hk;go_in;go_wp2_with (go_at_call 93;refine H.mono ?_;rintro e w' ⟨rfl,rfl⟩);go_ret;exact⟨rfl,⟨_,_,_,bA⟩,ag.setCell (S:=(·=b)) (p:=⟨b,0,none⟩) ay (fun _=>rfl) _⟩
def wL (g:Nat):Value:=.iface 70 (.agg #[.iface 134 (.pointer (some ⟨g,0,none⟩))])
def Threw (S:Nat->Prop) (W:World) (n a:Int) (e:Ending) (W':World):Prop :=
 ∃g,e=.panicked [{ v:=wL g,recovered:=false }]/\aw W' g [n,a] 136/\ag S W W'
theorem Iq (b:Nat) (n:Int) (ts:List Tok) (W:World) (h:iV W b ts) :
 Calls prog 30 #[.pointer (some ⟨b,0,none⟩),n] W (Threw ai W n (iu ts)):=by
 obtain⟨g,o,c,h⟩:=h;obtain⟨t,r,rfl⟩:=s8 h.ends;have hl:=h.cl;have ha:=h.ca;have iD:=h.cap;have lJ:=h.max;simp only[anK]at iD;clear h;go_in;go_wp2;exact⟨rfl,_,rfl,aw.new W _ _,ay.alloc _⟩
theorem Threw.mono (h:Threw S W n a e W') (hs:∀k,S k->T k):Threw T W n a e W':=by
 obtain⟨g,h1,h2,h3⟩:=h;exact⟨g,h1,h2,h3.mono fun k _ hk=>hs k hk⟩
theorem Threw.after {W1:World} (hm:ag S W W1) (h:Threw S W1 n a e W'):Threw S W n a e W':=by
 obtain⟨g,h1,h2,h3⟩:=h;exact⟨g,h1,h2,hm.trans h3⟩
theorem VS (b:Nat) (s:List UInt8) (ts:List Tok) (W:World) (h:iV W b ts) (hs:cR s ts=true) :
 Calls prog 60 #[.pointer (some ⟨b,0,none⟩),str s] W fun e W'=>e=.returned (.tuple #[])/\Rp W b ts W':=by
 have H:=af (Xo b s ts W h hs);unfold str at H ⊢;clear h hs;go_in;go_wp2_with (go_at_call 62;refine H.mono ?_;rintro e w' ⟨rfl,hp⟩);go_end0;exact⟨rfl,hp⟩
theorem agy (b:Nat) (s:List UInt8) (ts:List Tok) (W:World) (h:iV W b ts) (hs:cR s ts=false) :
 Calls prog 60 #[.pointer (some ⟨b,0,none⟩),str s] W (Threw ai W 3 (iu ts)):=by
 have H:=af (Xn b s ts W h hs);have bb:=af (Iq b 3 ts W h);unfold str at H ⊢;clear h hs;go_in;go_wp2_with (first|(go_at_call 62;refine H.mono ?_;rintro e w' ⟨rfl,rfl⟩)|(go_at_call 30;refine bb.mono ?_;rintro e w' ⟨g,rfl,hb,hm⟩));exact⟨rfl,g,rfl,hb,hm⟩
end aB
namespace aB
open Go.RowKit bB Go.Maps Go.Proofs.Tryz
variable {W:World} {aQ n:Nat} {l:List (List UInt8)}
theorem strKeys:Keyed prog 9:=string_keyed underlying9
theorem akF (w:World):(zeroValue 3).run prog w=.ok (.int .i64 0) w:=by kernel_rfl
theorem Cl {s:List UInt8} (hs:s.length<=10000000):keyOf prog 9 (str s)=some (.string s):=by
 have:=WideMaps.keyOf_string_mk (P:=prog) underlying9 (s:=⟨s.toArray⟩) (by
  show s.toArray.size<=maxLen
  rw[aoz];exact aol hs (by decide))
 exact this
def zD (W:World) (aQ n:Nat) (l:List (List UInt8)):Prop :=
 ∃D:DataW Unit,W.ownsMap prog 9 (plainElem prog 3) aQ n D/\IsMap D/\∀s:List UInt8,has D (.string s)=l.contains s
theorem zD.new (W:World):zD (W.alloc (.map #[] 0)) W.heap.size 0 [] :=
 ⟨_,World.ownsMap_made _ _ _ _,⟨_,rfl⟩,fun s=>rfl⟩
theorem zD.put (h:zD W aQ n l) (a:List UInt8) (ha:a.length<=10000000) (hn:n<maxLen) :
 ∃w',(Instr.mapUpdate 87 (.map (some aQ)) (str a) (.int .i64 1)).run prog W=.ok () w'/\zD w' aQ (n+1) (a::l)/\ag (·=aQ) W w':=by
 obtain⟨D,h1,h0,h2⟩:=h;obtain⟨w',hr,ho,hg⟩:=h1.update strKeys underlying87 hn (Cl ha) (plainElem_int (H:=Unit) (a:=1) underlying3 (by decide));refine⟨w',hr,⟨_,ho,(ho.tidy strKeys).isMap,fun s=>?_⟩,ag.of_grownBy hg (fun k hk _=>by cases hk;rfl)⟩;by_cases hx:s=a
 ·subst hx
  rw[has_put_same h0 (by trivial)];simp
 ·rw[has_put_other (by simpa using hx),h2 s]
  simp[hx]
theorem zD.look (h:zD W aQ n l) (s:List UInt8) (hs:s.length<=10000000) :
 ∃v,(Instr.lookup 87 (.map (some aQ)) (str s) true).run prog W=.ok (.tuple #[v,.bool (l.contains s)]) W:=by
 obtain⟨D,h1,h0,h2⟩:=h;obtain⟨v,ps,hr,hv⟩:=h1.look_ok strKeys underlying87 (akF _) (plainElem_int (H:=Unit) underlying3 (a:=0) (by decide)) (Cl hs);exact⟨v,by rw[<-h2 s];exact hr⟩
theorem afd (s:List UInt8) (W:World) (hs:s.length<=10000000) :
 Calls prog 92 #[str s] W fun e W'=>e=.returned (.bool (DW s))/\ag ai W W':=by
 have kj:=@run_makeMap prog;have iB:=zD.new W;obtain⟨w0,uC,H1,Ul⟩:=iB.put [102,110] (by decide) (by decide);obtain⟨w1,hr1,cg,aO⟩:=H1.put [118,97,114] (by decide) (by decide);obtain⟨w2,hr2,cB,aN⟩:=cg.put [105,102] (by decide) (by decide);obtain⟨w3,hr3,bj,aR⟩:=cB.put [101,108,115,101] (by decide) (by decide);obtain⟨w4,hr4,dR,bX⟩:=bj.put [119,104,105,108,101] (by decide) (by decide);obtain⟨aJ,amp,gA,bM⟩:=dR.put [114,101,116,117,114,110] (by decide) (by decide);obtain⟨bw,amq,er,bG⟩:=gA.put [112,114,105,110,116] (by decide) (by decide);obtain⟨a7,amr,Hm,dK⟩:=er.put [110,101,119] (by decide) (by decide);obtain⟨fg,ams,Hn,hP⟩:=Hm.put [108,101,110] (by decide) (by decide);obtain⟨fW,amt,P4,gT⟩:=Hn.put [105,110,112,117,116] (by decide) (by decide);obtain⟨oy,amn,P5,nO⟩:=P4.put [105,110,116] (by decide) (by decide);obtain⟨ji,amo,dn,Jk⟩:=P5.put [97,114,114] (by decide) (by decide);obtain⟨v,hl⟩:=dn.look s hs;have hk:DW s=List.contains [[97,114,114],[105,110,116],[105,110,112,117,116],[108,101,110],[110,101,119],[112,114,105,110,116],[114,101,116,117,114,110],[119,104,105,108,101],[101,108,115,101],[105,102],[118,97,114],[102,110]] s:=by
  exact (List.contains_reverse (l:=Vg) (x:=s)).symm
 have hM:ag ai W ji:=by
  have h0:ag (·=W.heap.size) (W.alloc (.map #[] 0)) ji:=(((((((((((Ul).trans aO).trans aN).trans aR).trans bX).trans bM).trans bG).trans dK).trans hP).trans gT).trans nO).trans Jk;exact ((ag.refl ai W).alloc _).trans' h0 (fun i e hi=>absurd hi (by rw[e];exact an5 _))
 rw[<-hk]at hl;unfold str at *;clear iB;clear H1;clear cg;clear cB;clear bj;clear dR;clear gA;clear er;clear Hm;clear Hn;clear P4;clear P5;clear dn hk;go_in;go_wp2;go_ret;exact⟨rfl,hM⟩
end aB
namespace aB
open Go.RowKit bB Go.Proofs.Tryz
variable {W W' w W0 w' wf:World} {S T:Nat->Prop} {b n size B g m sb:Nat} {ts r:List Tok} {v v' z0 cS z2 z3:Value} {cs vs ds:List Value} {e:TypeId} {β α zf:Type} {Q:Ending->World->Prop} {s:List UInt8} {x:Fn} {t:Tok} {F:FuncId} {args:Array Value} {c:UInt8}
def Got {α:Type} (S:Nat->Prop) (W:World) (b:Nat) (V:α->Value->World->Prop):gm α->Ending->World->Prop
 | none=>fun _ _=>True
 | some (.error (n,a))=>Threw S W n a
 | some (.ok (v,ts))=>fun e W'=>∃x,e=.returned x/\V v x W'/\iV W' b ts/\ag S W W'
theorem pc.more {o c:Nat} (h:pc W b g o c (t::r)) (hk:t.kind≠4):1<=r.length:=by
 have:=(h.ends.tail hk).ne;cases r with
 | nil=>exact absurd rfl this
 | cons _ _=>simp
theorem O3 (b:Nat) (ts:List Tok) (W:World) (h:iV W b ts) :
 Calls prog 61 #[.pointer (some ⟨b,0,none⟩)] W (Got (·=b) W b (fun s x _=>x=str s) (nu ts)):=by
 have bb:=fun (n:Int) (W1:World) (h1:iV W1 b ts)=>Iq b n ts W1 h1
 obtain⟨g,o,c,h⟩:=h;obtain⟨t,r,rfl⟩:=s8 h.ends;have hl:=h.cl;have hk:=h.Da;have ht:=h.Ii;have ha:=h.ca;have iD:=h.cap;have lJ:=h.max;have hs:=h.small t aox;simp only[anK]at iD;have HK:=fun (W1:World)=>afd t.text W1 hs
 have bP:=af h;obtain⟨tk,tt,ta⟩:=t;simp only at hk ht hs HK;unfold str at *;have aT:nu (⟨tk,tt,ta⟩::r)=if tk != 1 || DW tt then oQ 3 (⟨tk,tt,ta⟩::r) else if 12<tt.length then oQ 4 (⟨tk,tt,ta⟩::r) else fV tt r:=rfl
 rw[aT];clear h aT;have step:∀ (e:Ending) (W2:World) (n:Int) (W1:World),ag ai W W1->Threw ai W1 n (iu (⟨tk,tt,ta⟩::r)) e W2->Threw (·=b) W n (iu (⟨tk,tt,ta⟩::r)) e W2:=fun e W2 n W1 hm ht=>(ht.after hm).mono fun k hk=>hk.elim
 have A3:=fun (W1:World) (hm:ag ai W W1)=>(⟨g,o,c,bP.mods hm id id⟩:iV W1 b (⟨tk,tt,ta⟩::r))
 by_cases h1:tk=1
 ·subst h1
  cases h2:DW tt
  ·by_cases h3:12<tt.length
   ·rw[if_neg (by simp),if_pos h3]
    go_in;go_wp2_with (first|(go_at_call 92;refine (HK _).mono ?_;rintro e w' ⟨rfl,hm⟩;have B:=(aw.new W #[.int .i64 1,.string ⟨tt.toArray⟩,ta] 79).mods hm id;have hM:=((ag.refl ai W).alloc _).trans hm;have c1:=B.ah 1;have hl2:=hM.cellOf hl id;have hf2:=(bP.blk.mods hM id).free 0)|(go_at_call 30;refine (bb _ _ (A3 _ (by first|assumption|exact (ag.refl ai W).alloc _))).mono ?_;rintro e w2 ⟨g2,rfl,hb,aN⟩));exact⟨rfl,step _ _ _ _ hM ⟨g2,rfl,hb,aN⟩⟩
   ·rw[if_neg (by simp),if_neg h3]
    have hr:1<=r.length:=bP.more (by simp);go_in;go_wp2_with (first|(go_at_call 92;refine (HK _).mono ?_;rintro e w' ⟨rfl,hm⟩;have B:=(aw.new W #[.int .i64 1,.string ⟨tt.toArray⟩,ta] 79).mods hm id;have hM:=((ag.refl ai W).alloc _).trans hm;have c1:=B.ah 1;have hl2:=hM.cellOf hl id;have hf2:=(bP.blk.mods hM id).free 0)|(go_at_call 30;refine (bb _ _ (A3 _ (by first|assumption|exact (ag.refl ai W).alloc _))).mono ?_;rintro e w2 ⟨g2,rfl,hb,aN⟩));go_ret;exact⟨_,rfl,rfl,⟨_,_,_,(bP.mods hM id id).tail (by simp)⟩,ag.setCell (S:=(·=b)) (p:=⟨b,0,none⟩) (hM.mono fun _ _ f=>f.elim) (fun _=>rfl) _⟩
  ·rw[if_pos (by simp)]
   go_in;go_wp2_with (first|(go_at_call 92;refine (HK _).mono ?_;rintro e w' ⟨rfl,hm⟩;have B:=(aw.new W #[.int .i64 1,.string ⟨tt.toArray⟩,ta] 79).mods hm id;have hM:=((ag.refl ai W).alloc _).trans hm;have c1:=B.ah 1;have hl2:=hM.cellOf hl id;have hf2:=(bP.blk.mods hM id).free 0)|(go_at_call 30;refine (bb _ _ (A3 _ (by first|assumption|exact (ag.refl ai W).alloc _))).mono ?_;rintro e w2 ⟨g2,rfl,hb,aN⟩));exact⟨rfl,step _ _ _ _ hM ⟨g2,rfl,hb,aN⟩⟩
 ·rw[if_pos (by simp[h1])]
  go_in;go_wp2_with (first|(go_at_call 92;refine (HK _).mono ?_;rintro e w' ⟨rfl,hm⟩;have B:=(aw.new W #[.int .i64 1,.string ⟨tt.toArray⟩,ta] 79).mods hm id;have hM:=((ag.refl ai W).alloc _).trans hm;have c1:=B.ah 1;have hl2:=hM.cellOf hl id;have hf2:=(bP.blk.mods hM id).free 0)|(go_at_call 30;refine (bb _ _ (A3 _ (by first|assumption|exact (ag.refl ai W).alloc _))).mono ?_;rintro e w2 ⟨g2,rfl,hb,aN⟩));exact⟨rfl,step _ _ _ _ ((ag.refl ai W).alloc _) ⟨g2,rfl,hb,aN⟩⟩
def vp (W:World) (b:Nat):Prop :=
 4<b/\∀ (i:Nat) (l:List (List UInt8)),ky[i]?=some l->∃p o c,W.cell? ⟨4,i,none⟩=some (.slice (some ⟨p,o,none⟩) l.length c)/\l.length<=c/\c<=100000/\p<b/\∀ (j:Nat) (m:List UInt8),l[j]?=some m->W.cell? ⟨p,o+j,none⟩=some (str m)
theorem vp.cQ (h:vp W b) (hm:ag T W W') (hT:∀k,T k->b<=k):vp W' b:=by
 refine⟨h.1,fun i l hl=>?_⟩;obtain⟨p,o,c,h1,h2,h3,h4,h5⟩:=h.2 i l hl;exact⟨p,o,c,hm.cellOf h1 (fun f=>an5 _ (anE h.1 (hT _ f))),h2,h3,h4,fun j m hj=>hm.cellOf (h5 j m hj) (fun f=>an5 _ (anE h4 (hT _ f)))⟩
theorem vp.mods (h:vp W b) (hm:ag (·=b) W W'):vp W' b:=h.cQ hm (fun k hk=>Nat.le_of_eq hk.symm)
def Bh (W:World) (b:Nat):Prop:=6<b/\∃t p,W.cell? ⟨6,0,none⟩=some (.iface t p)
theorem Bh.cQ (h:Bh W b) (hm:ag T W W') (hT:∀k,T k->b<=k):Bh W' b:=by
 obtain⟨h1,t,p,h2⟩:=h;exact⟨h1,t,p,hm.cellOf h2 (fun f=>an5 _ (anE h1 (hT _ f)))⟩
theorem ahb (b level:Nat) (ts:List Tok) (W:World) (h:iV W b ts) (hL:vp W b) (hl:level<6) :
 Calls prog 127 #[.pointer (some ⟨b,0,none⟩),level] W fun e W'=>e=.returned (str (lf level ts))/\W=W':=by
 have HS:=fun (m:List UInt8)=>KA b m ts W h
 obtain⟨l,fc⟩:∃l,ky[level]?=some l:=⟨ky[level],anx (by exact hl)⟩;have hop:lf level ts=(l.find? (fun m=>cR m ts)).getD []:=by
  unfold lf;rw[anM,fc];rfl
 rw[hop];obtain⟨p,o,c,h1,h2,h3,_,h5⟩:=hL.2 level l fc;have aU:=af h5;clear h hL hop fc h5;unfold str at *;go_in;go_wp2
 go_loopw [11] (fun v wr=>∃i:Nat,i<=l.length/\v=.int .i64 i/\Hid ((l.drop i).find? (fun m=>cR m ts)=l.find? (fun m=>cR m ts))/\Hid (W=wr)) (fun v _=>(l.length-intOf v).toNat)
 case atStart=>exact⟨0,anC _,rfl,af (by first|trivial|rfl),af (by first|trivial|rfl)⟩
 case round =>
  obtain⟨i,hi,rfl,heq,hq⟩:=hrel;obtain rfl:=hq.out;by_cases hlt:i<l.length
  ·obtain⟨m,hm⟩:=aq (l[i])
   have hd:l.drop i=m::l.drop (i+1):=(by rw[hm];exact anL hlt);have hc:=aU.out i m (by rw[hm];exact anx hlt);have H:=HS m;cases hs:cR m ts
   ·have vW:Hid ((l.drop (i+1)).find? (fun m=>cR m ts)=l.find? (fun m=>cR m ts)):=af (by
     rw[<-heq.out,hd,aoa,hs])
    rw[hs]at H;have KW:=af H;clear hm hd hs H;go_wp2_with (go_at_call 93;refine KW.mono ?_;rintro e w' ⟨rfl,rfl⟩);go_roundw
    case rel=>exact⟨i+1,by omega,by go_num,vW,af (by first|trivial|rfl)⟩
    case measure=>simp[intOf];omega
   ·have vR:Hid ((l.find? (fun m=>cR m ts)).getD []=m):=af (by
     rw[<-heq.out,hd,aoa,hs];rfl)
    rw[hs]at H;have KW:=af H;clear hm hd hs H;go_wp2_with (go_at_call 93;refine KW.mono ?_;rintro e w' ⟨rfl,rfl⟩);go_ret;rw[vR.out];exact⟨rfl,rfl⟩
  ·obtain rfl:i=l.length:=by omega
   have vR:Hid ((l.find? (fun m=>cR m ts)).getD []=[]):=af (by
        rw[<-heq.out,anZ];rfl)
   go_wp2;go_ret;rw[vR.out];exact⟨rfl,rfl⟩
def fL (W:World) (S:Nat->Prop) (e:TypeId) (size:Nat) (x:Value) (n:Nat) (vs:List Value):Prop :=
 W.ownsRow 0 e size x n vs/\∀k,x.ownBlock=some k->¬S k
theorem fL.mods {x:Value} (h:fL W S e size x n vs) (hm:ag S W W') (hT:∀k,k<W.heap.size->T k->S k):fL W' T e size x n vs :=
 ⟨hm.ownsRow h.1 h.2,fun k hk ht=>h.2 k hk (hT k (h.1.lt k hk).2 ht)⟩
def uk (code a n:Int) (name op:List UInt8) (l r args:Value):List Value:=[.int .i64 code,.int .i64 a,.int .i64 n,str name,str op,l,r,args]
def cV:Value:=.pointer none
def bV:Value:=.slice none 0 0
def Node (W:World) (S:Nat->Prop) (v:Value) (cs:List Value):Prop:=∃g,v=.pointer (some ⟨g,0,none⟩)/\¬S g/\aw W g cs 223
theorem Node.mods {x:Value} (h:Node W S x cs) (hm:ag S W W') (hT:∀k,k<W.heap.size->T k->S k):Node W' T x cs:=by
 obtain⟨g,h1,h2,h3⟩:=h;exact⟨g,h1,fun ht=>h2 (hT g h3.lt ht),h3.mods hm h2⟩
mutual
def aX (W:World) (S:Nat->Prop):aL->Value->Prop
 | .num a n,v=>Node W S v (uk 1 a n [] [] cV cV bV)
 | .var a s,v=>Node W S v (uk 2 a 0 s [] cV cV bV)
 | .bin a op l r,v=>∃x y,Node W S v (uk 3 a 0 [] op x y bV)/\aX W S l x/\aX W S r y
 | .un a op l,v=>∃x,Node W S v (uk 4 a 0 [] op x cV bV)/\aX W S l x
 | .call a f l,v=>∃x vs,Node W S v (uk 5 a 0 f [] cV cV x)/\fL W S 141 1 x l.length vs/\eB W S l vs
 | .new a l,v=>∃x,Node W S v (uk 6 a 0 [] [] x cV bV)/\aX W S l x
 | .len a l,v=>∃x,Node W S v (uk 7 a 0 [] [] x cV bV)/\aX W S l x
 | .item a l r,v=>∃x y,Node W S v (uk 8 a 0 [] [] x y bV)/\aX W S l x/\aX W S r y
 | .input a,v=>Node W S v (uk 9 a 0 [] [] cV cV bV)
def eB (W:World) (S:Nat->Prop):List aL->List Value->Prop
 | [],vs=>vs=[]
 | e::l,vs=>∃x r,vs=x::r/\aX W S e x/\eB W S l r
end
mutual
theorem aX.b8 (hm:ag S W W') (hT:∀k,k<W.heap.size->T k->S k):(e:aL)->(v:Value)->aX W S e v->aX W' T e v
 | .num a n,v,h=>Node.mods (by simpa only[aX] using h) hm hT |> (by simp only[aX];exact ·)
 | .var a s,v,h=>Node.mods (by simpa only[aX] using h) hm hT |> (by simp only[aX];exact ·)
 | .bin a op l r,v,h=>by
   simp only[aX]at h ⊢;obtain⟨x,y,h1,h2,h3⟩:=h;exact⟨x,y,h1.mods hm hT,aX.b8 hm hT l x h2,aX.b8 hm hT r y h3⟩
 | .un a op l,v,h=>by
   simp only[aX]at h ⊢;obtain⟨x,h1,h2⟩:=h;exact⟨x,h1.mods hm hT,aX.b8 hm hT l x h2⟩
 | .call a f l,v,h=>by
   simp only[aX]at h ⊢;obtain⟨x,vs,h1,h2,h3⟩:=h;exact⟨x,vs,h1.mods hm hT,h2.mods hm hT,eB.b8 hm hT l vs h3⟩
 | .new a l,v,h=>by
   simp only[aX]at h ⊢;obtain⟨x,h1,h2⟩:=h;exact⟨x,h1.mods hm hT,aX.b8 hm hT l x h2⟩
 | .len a l,v,h=>by
   simp only[aX]at h ⊢;obtain⟨x,h1,h2⟩:=h;exact⟨x,h1.mods hm hT,aX.b8 hm hT l x h2⟩
 | .item a l r,v,h=>by
   simp only[aX]at h ⊢;obtain⟨x,y,h1,h2,h3⟩:=h;exact⟨x,y,h1.mods hm hT,aX.b8 hm hT l x h2,aX.b8 hm hT r y h3⟩
 | .input a,v,h=>Node.mods (by simpa only[aX] using h) hm hT |> (by simp only[aX];exact ·)
theorem eB.b8 (hm:ag S W W') (hT:∀k,k<W.heap.size->T k->S k):(l:List aL)->(vs:List Value)->eB W S l vs->eB W' T l vs
 | [],vs,h=>by simp only[eB]at h ⊢;exact h
 | e::l,vs,h=>by
   simp only[eB]at h ⊢;obtain⟨x,r,h1,h2,h3⟩:=h;exact⟨x,r,h1,aX.b8 hm hT e x h2,eB.b8 hm hT l r h3⟩
end
theorem aX.mods {e:aL} (h:aX W S e v) (hm:ag S W W'):aX W' S e v:=aX.b8 hm (fun _ _ k=>k) e v h
theorem aX.ptr {e:aL} (h:aX W S e v):∃g,v=.pointer (some ⟨g,0,none⟩):=by
 have key:∀cs,Node W S v cs->∃g,v=.pointer (some ⟨g,0,none⟩):=fun cs h=>by
  obtain⟨g,h1,_⟩:=h;exact⟨g,h1⟩
 cases e <;> simp only[aX]at h
 case num=>exact key _ h
 case var=>exact key _ h
 case bin=>obtain⟨x,y,h,_⟩:=h;exact key _ h
 case un=>obtain⟨x,h,_⟩:=h;exact key _ h
 case call=>obtain⟨x,y,h,_⟩:=h;exact key _ h
 case new=>obtain⟨x,h,_⟩:=h;exact key _ h
 case len=>obtain⟨x,h,_⟩:=h;exact key _ h
 case item=>obtain⟨x,y,h,_⟩:=h;exact key _ h
 case input=>exact key _ h
theorem eB.append {e:aL}:{l:List aL}->{vs:List Value}->eB W S l vs->aX W S e v->eB W S (l++[e]) (vs++[v])
 | [],vs,h,he=>by
   simp only[eB]at h;subst h;simp only[aom,eB];exact⟨v,[],rfl,he,rfl⟩
 | a::l,vs,h,he=>by
   simp only[eB]at h;obtain⟨x,r,rfl,h2,h3⟩:=h;simp only[aoq,eB];exact⟨x,r++[v],rfl,h2,eB.append h3 he⟩
theorem Node.new (hS:∀k,S k->k<W.heap.size) (cs:Array Value):Node (W.alloc (.cells cs 223)) S (.pointer (some ⟨W.heap.size,0,none⟩)) cs.toList :=
 ⟨_,rfl,fun h=>absurd (hS _ h) (an5 _),aw.new W cs _⟩
structure Rd (W:World) (b:Nat) (S:Nat->Prop) (ts:List Tok):Prop where
 par:iV W b ts
 qi:vp W b
 wI:Bh W b
 has:S b
 old:∀k,S k->k<W.heap.size
theorem Rd.next (h:Rd W b S ts) (hp:iV W' b r) (hm:ag (·=b) W W'):Rd W' b S r :=
 ⟨hp,h.qi.mods hm,h.wI.cQ hm (fun k hk=>Nat.le_of_eq hk.symm),h.has,fun k hk=>anE (h.old k hk) hm.size⟩
theorem Rd.quiet (h:Rd W b S ts) (hm:ag ai W W'):Rd W' b S ts :=
 h.next (h.par.mods hm) (hm.mono fun _ _ f=>f.elim)
def lenOf (W:World) (b:Nat):Nat:=match W.cell? ⟨b,0,none⟩ with
 | some (.slice _ n _)=>n
 | _=>0
theorem iV.len (h:iV W b ts):lenOf W b=ts.length:=by
 obtain⟨g,o,c,h⟩:=h;have:=h.blk.ah 0;unfold lenOf;rw[this]
def pM (S:Nat->Prop) (e:aL) (v:Value) (W:World):Prop:=aX W S e v
theorem aX.by {e:aL} (h:aX W S e v) (hR:Rd W b S ts) (hm:ag (·=b) W W'):aX W' S e v :=
 h.mods (hm.mono fun k _ hk=>by rw[hk];exact hR.has)
theorem lG {p:gm α} {k:α->List Tok->gm β} {x:Except (Int×Int) (β×List Tok)} {V:α->Value->World->Prop}
 (hM:Hid (ag (·=b) W0 W)) (hR:Hid (Rd W b S ts)) (hx:Hid (andThen p k=some x))
 (hc:∀y,p=some y->Calls prog F args W (Got (·=b) W b V (some y)))
 (l5:∀n a,x=.error (n,a)->∀g w,Hid (aw w g [n,a] 136)->Hid (ag (·=b) W0 w)->Q (.panicked [{ v:=wL g,recovered:=false }]) w)
 (aZ:∀v r,Hid (p=some (.ok (v,r)))->Hid (k v r=some x)->∀bq w,V v bq w->Hid (Rd w b S r)->Hid (ag (·=b) W w)->Hid (ag (·=b) W0 w)->Q (.returned bq) w) :
 Calls prog F args W Q:=by
 have hx:=hx.out;cases hp:p with
 | none=>rw[hp]at hx;cases hx
 | some y =>
   refine (hc y hp).mono ?_;intro e w h;rw[hp]at hx;cases y with
   | error q =>
     obtain⟨n,a⟩:=q;obtain⟨g,rfl,hb,hm⟩:=h;exact l5 n a (anz hx).symm g w (af hb) (af (hM.out.trans hm))
   | ok q =>
     obtain⟨v,r⟩:=q;obtain⟨bq,rfl,hv,B4,hm⟩:=h;exact aZ v r (af hp) (af hx) bq w hv (af (hR.out.next B4 hm)) (af hm) (af (hM.out.trans hm))
theorem Xm {p:gm β} {x:Except (Int×Int) (β×List Tok)} {V:β->Value->World->Prop}
 (hM:Hid (ag (·=b) W0 W)) (hR:Hid (Rd W b S ts)) (hx:Hid (p=some x))
 (hc:∀y,p=some y->Calls prog F args W (Got (·=b) W b V (some y)))
 (l5:∀n a,x=.error (n,a)->∀g w,Hid (aw w g [n,a] 136)->Hid (ag (·=b) W0 w)->Q (.panicked [{ v:=wL g,recovered:=false }]) w)
 (aZ:∀v r,x=.ok (v,r)->∀bq w,V v bq w->Hid (Rd w b S r)->Hid (ag (·=b) W w)->Hid (ag (·=b) W0 w)->Q (.returned bq) w) :
 Calls prog F args W Q:=by
 have hx:=hx.out;refine (hc x hx).mono ?_;intro e w h;cases x with
 | error q =>
   obtain⟨n,a⟩:=q;obtain⟨g,rfl,hb,hm⟩:=h;exact l5 n a rfl g w (af hb) (af (hM.out.trans hm))
 | ok q =>
   obtain⟨v,r⟩:=q;obtain⟨bq,rfl,hv,B4,hm⟩:=h;exact aZ v r rfl bq w hv (af (hR.out.next B4 hm)) (af hm) (af (hM.out.trans hm))
theorem C6 {p:gm α} {k:α->List Tok->gm β} {x:Except (Int×Int) (β×List Tok)} (hx:Hid (andThen p k=some x)) :
 (∃n a,p=some (.error (n,a))/\x=.error (n,a))\/∃v r,p=some (.ok (v,r))/\Hid (k v r=some x):=by
 have hx:=hx.out;cases hp:p with
 | none=>rw[hp]at hx;cases hx
 | some y =>
   rw[hp]at hx;cases y with
   | error q=>exact Or.inl ⟨q.1,q.2,rfl,(anz hx).symm⟩
   | ok q=>exact Or.inr ⟨q.1,q.2,rfl,af hx⟩
theorem agx (b:Nat) (s:List UInt8) (ts:List Tok) (W:World) (h:iV W b ts) :
 Calls prog 60 #[.pointer (some ⟨b,0,none⟩),str s] W (Got (·=b) W b (fun (_:Unit) v _=>v=.tuple #[]) (must s ts)):=by
 unfold must;cases hs:cR s ts
 ·rw[if_neg (by simp)]
  exact (agy b s ts W h hs).mono fun e w k=>k.mono fun _ f=>f.elim
 ·rw[if_pos rfl]
  exact (VS b s ts W h hs).mono fun e w k=>⟨_,k.1,rfl,k.2.1,k.2.2⟩
theorem l9 {k:Unit->List Tok->gm β} {x:Except (Int×Int) (β×List Tok)}
 (hM:Hid (ag (·=b) W0 W)) (hR:Hid (Rd W b S ts)) (hx:Hid (andThen (must s ts) k=some x))
 (l5:∀n a,x=.error (n,a)->∀g w,Hid (aw w g [n,a] 136)->Hid (ag (·=b) W0 w)->Q (.panicked [{ v:=wL g,recovered:=false }]) w)
 (aZ:∀r,Hid (cR s ts=true/\r=ts.tail)->Hid (k () r=some x)->∀w,Hid (Rd w b S r)->Hid (ag (·=b) W w)->Hid (ag (·=b) W0 w)->Q (.returned (.tuple #[])) w) :
 Calls prog 60 #[.pointer (some ⟨b,0,none⟩),str s] W Q:=by
 refine lG hM hR hx (fun y hy=>hy ▸ agx b s ts W hR.out.par) l5 ?_;rintro v r hp hk bq w rfl h1 h2 h3;have:=J9 hp.out;exact aZ r (af ⟨this.2,this.1⟩) hk w h1 h2 h3
theorem D3 {k:List UInt8->List Tok->gm β} {x:Except (Int×Int) (β×List Tok)}
 (hM:Hid (ag (·=b) W0 W)) (hR:Hid (Rd W b S ts)) (hx:Hid (andThen (nu ts) k=some x))
 (l5:∀n a,x=.error (n,a)->∀g w,Hid (aw w g [n,a] 136)->Hid (ag (·=b) W0 w)->Q (.panicked [{ v:=wL g,recovered:=false }]) w)
 (aZ:∀s r,Hid (nu ts=some (.ok (s,r)))->Hid (k s r=some x)->∀w,Hid (Rd w b S r)->Hid (ag (·=b) W w)->Hid (ag (·=b) W0 w)->Q (.returned (.string ⟨s.toArray⟩)) w) :
 Calls prog 61 #[.pointer (some ⟨b,0,none⟩)] W Q:=by
 refine lG hM hR hx (fun y hy=>hy ▸ O3 b ts W hR.out.par) l5 ?_;rintro v r hp hk bq w rfl h1 h2 h3;exact aZ v r hp hk w h1 h2 h3
theorem o8 {A B x:β}
 (hM:Hid (ag (·=b) W0 W)) (hR:Hid (Rd W b S ts)) (hx:Hid ((if cR s ts then A else B)=x))
 (yM:Hid (cR s ts=true)->Hid (A=x)->∀w,Hid (Rd w b S ts.tail)->Hid (ag (·=b) W w)->Hid (ag (·=b) W0 w)->Q (.returned (.bool true)) w)
 (hno:Hid (cR s ts=false)->Hid (B=x)->Q (.returned (.bool false)) W) :
 Calls prog 62 #[.pointer (some ⟨b,0,none⟩),str s] W Q:=by
 have hx:=hx.out;cases hs:cR s ts
 ·rw[hs,if_neg (by simp)]at hx
  refine (Xn b s ts W hR.out.par hs).mono ?_;rintro e w ⟨rfl,rfl⟩;exact hno (af hs) (af hx)
 ·rw[hs,if_pos rfl]at hx
  refine (Xo b s ts W hR.out.par hs).mono ?_;rintro e w ⟨rfl,hp,hm⟩;exact yM (af hs) (af hx) w (af (hR.out.next hp hm)) (af hm) (af (hM.out.trans hm))
theorem Px {A B x:β}
 (hR:Hid (Rd W b S ts)) (hx:Hid ((if cR s ts then A else B)=x))
 (yM:Hid (cR s ts=true)->Hid (A=x)->Q (.returned (.bool true)) W)
 (hno:Hid (cR s ts=false)->Hid (B=x)->Q (.returned (.bool false)) W) :
 Calls prog 93 #[.pointer (some ⟨b,0,none⟩),str s] W Q:=by
 have hx:=hx.out;refine (KA b s ts W hR.out.par).mono ?_;rintro e w ⟨rfl,rfl⟩;cases hs:cR s ts
 ·rw[hs,if_neg (by simp)]at hx
  exact hno (af hs) (af hx)
 ·rw[hs,if_pos rfl]at hx
  exact yM (af hs) (af hx)
theorem Mm {n:Int} {x:Except (Int×Int) (β×List Tok)}
 (hM:Hid (ag (·=b) W0 W)) (hR:Hid (Rd W b S ts)) (hx:Hid ((oQ n ts:gm β)=some x))
 (l5:∀n a,x=.error (n,a)->∀g w,Hid (aw w g [n,a] 136)->Hid (ag (·=b) W0 w)->Q (.panicked [{ v:=wL g,recovered:=false }]) w) :
 Calls prog 30 #[.pointer (some ⟨b,0,none⟩),n] W Q:=by
 refine (Iq b n ts W hR.out.par).mono ?_;rintro e w ⟨g,rfl,hb,hm⟩;exact l5 n (iu ts) (anz hx.out).symm g w (af hb) (af (hM.out.trans (hm.mono fun _ _ f=>f.elim)))
def zg (f:Nat):Prop:=∀ (b:Nat) (S:Nat->Prop) (level deep:Nat) (ts:List Tok) (W:World) (x:Except (Int×Int) (aL×List Tok)),level<=6->deep<=14->Rd W b S ts->jU f level deep ts=some x ->
 Calls prog 114 #[.pointer (some ⟨b,0,none⟩),level,deep] W (Got (·=b) W b (pM S) (some x))
def Fa (f:Nat):Prop:=∀ (b:Nat) (S:Nat->Prop) (deep:Nat) (ts:List Tok) (W:World) (x:Except (Int×Int) (aL×List Tok)),deep<=14->Rd W b S ts->rG f deep ts=some x ->
 Calls prog 126 #[.pointer (some ⟨b,0,none⟩),deep] W (Got (·=b) W b (pM S) (some x))
def KV (f:Nat):Prop:=∀ (b:Nat) (S:Nat->Prop) (deep:Nat) (ts:List Tok) (W:World) (x:Except (Int×Int) (aL×List Tok)),deep<=13->Rd W b S ts->qT f deep ts=some x ->
 Calls prog 133 #[.pointer (some ⟨b,0,none⟩),deep] W (Got (·=b) W b (pM S) (some x))
def Hf (f:Nat):Prop:=∀ (b:Nat) (S:Nat->Prop) (deep:Nat) (ts:List Tok) (W:World) (x:Except (Int×Int) (aL×List Tok)),deep<=13->Rd W b S ts->p5 f deep ts=some x ->
 Calls prog 113 #[.pointer (some ⟨b,0,none⟩),deep] W (Got (·=b) W b (pM S) (some x))
def Hh (f:Nat):Prop:=∀ (b:Nat) (S:Nat->Prop) (deep:Nat) (ts:List Tok) (W:World) (x:Except (Int×Int) (List aL×List Tok)),deep<=13->Rd W b S ts->s5 f deep ts=some x ->
 Calls prog 128 #[.pointer (some ⟨b,0,none⟩),deep] W (Got (·=b) W b (fun l v w=>∃vs,fL w S 141 1 v l.length vs/\eB w S l vs) (some x))
def Own (S:Nat->Prop) (v:Value):Nat->Prop:=fun k=>S k\/v.ownBlock=some k
structure ig (W:World) (B:Nat) (S:Nat->Prop) (e:TypeId) (size:Nat) (v:Value) (n:Nat) (vs:List Value):Prop where
 row:W.ownsRow B e size v n vs
 base:B<=W.heap.size
 below:∀k,S k->k<B
theorem ig.nil (e:TypeId) (size:Nat) (hR:Rd W b S ts) (hm:ag (·=b) W W'):ig W' W.heap.size S e size bV 0 [] :=
 ⟨World.ownsRow_nil _ _ _ _,hm.size,hR.old⟩
theorem ig.apart (h:ig W B S e size v n vs) {k:Nat} (hk:v.ownBlock=some k):¬S k/\k<W.heap.size:=by
 have:=h.row.lt k hk;exact⟨fun hs=>by have:=h.below k hs;omega,this.2⟩
theorem ig.rd (h:ig W B S e size v n vs) (hR:Rd W b S ts):Rd W b (Own S v) ts :=
 ⟨hR.par,hR.qi,hR.wI,Or.inl hR.has,fun k hk=>hk.elim (hR.old k) (fun h2=>(h.apart h2).2)⟩
theorem ig.next (h:ig W B S e size v n vs) (hb:S b) (hm:ag (·=b) W W'):ig W' B S e size v n vs :=
 ⟨hm.ownsRow h.row (fun k hk e=>(h.apart hk).1 (e ▸ hb)),aol h.base hm.size,h.below⟩
theorem ig.alloc (h:ig W B S e size v n vs) (o:Obj):ig (W.alloc o) B S e size v n vs :=
 ⟨h.row.alloc o,aol h.base (by simp),h.below⟩
structure kr (W W':World) (v v':Value):Prop where
 mods:ag (fun k=>v.ownBlock=some k) W W'
 loc:v'.ownBlock=v.ownBlock\/v'.ownBlock=some W.heap.size
theorem py (hg:W.grownBy W' v.ownBlock) (hl:v'.ownBlock=v.ownBlock\/v'.ownBlock=some W.heap.size):kr W W' v v' :=
 ⟨ag.of_grownBy hg (fun k hk _=>hk),hl⟩
theorem kr.own (h:kr W W' v v'):ag (Own S v) W W':=h.mods.mono fun _ _ hk=>Or.inr hk
theorem kr.to (h:kr W W' v v'):∀k,k<W.heap.size->Own S v' k->Own S v k:=by
 rintro k hk (hs|hs)
 ·exact Or.inl hs
 ·rcases h.loc with hl|hl
  ·exact Or.inr (hl ▸ hs)
  ·rw[hl]at hs
   cases hs;omega
theorem ig.zN {ws:List Value} (h:ig W B S e size v n vs) (hg:kr W W' v v') (hr:W'.ownsRow B e size v' m ws):ig W' B S e size v' m ws :=
 ⟨hr,aol h.base hg.mods.size,h.below⟩
theorem ig.cQ (h:ig W B S e size v n vs) (hb:S b):∀k,v.ownBlock=some k->b<k:=fun k hk =>
 anE (h.below b hb) (h.row.lt k hk).1
theorem ig.Cv (h:ig W B S e size v n vs) (hg:kr W W' v v') (hR:Rd W b S ts):Rd W' b S ts :=
 ⟨hR.par.cQ hg.mods (h.cQ hR.has),hR.qi.cQ hg.mods (fun k hk=>aoV (h.cQ hR.has k hk)),hR.wI.cQ hg.mods (fun k hk=>aoV (h.cQ hR.has k hk)),hR.has,fun k hk=>anE (hR.old k hk) hg.mods.size⟩
theorem ig.OZ (h:ig W W0.heap.size S e size v n vs) (hg:kr W W' v v') (hm:ag (·=b) W0 W):ag (·=b) W0 W' :=
 hm.trans' hg.mods (fun i hi h0=>by have:=(h.row.lt i hi).1;omega)
theorem ig.form (h:ig W B S e size v n vs):∃aG on aF,v=.slice aG on aF:=by
 rcases h.row.2 with⟨hv,_⟩|⟨g,cap,cur,hv,_⟩
 ·exact⟨_,_,_,hv⟩
 ·exact⟨_,_,_,hv⟩
theorem ig.rowAt (h:ig W B S e size v n vs):fL W S e size v n vs :=
 ⟨Go.Joins.ownsRow_le h.row (anC _),fun k hk=>(h.apart hk).1⟩
theorem Wc:∀k,k<n->S k->Own S v k:=fun _ _ h=>Or.inl h
theorem Cu (W:World) (v:Value) (e:TypeId):∀j u,[v][j]?=some u->(W.alloc (.cells #[v] e)).cell? ((⟨W.heap.size,0,none⟩:Addr).add j)=some u:=by
 intro j u hj;cases j with
 | zero=>exact (aw.new W #[v] e).cell (i:=0) (v:=u) hj
 | succ j=>simp at hj
theorem Wt (g:Nat):∀u∈[Value.pointer (some ⟨g,0,none⟩)],u.oneCell'=true:=by
 intro u hu;simp only[anS]at hu;subst hu;rfl
theorem fL.form (h:fL W S e size v n vs):∃aG on aF,v=.slice aG on aF:=by
 rcases h.1.2 with⟨hv,_⟩|⟨g,cap,cur,hv,_⟩
 ·exact⟨_,_,_,hv⟩
 ·exact⟨_,_,_,hv⟩
theorem ahA:(prog.info? 141).map (fun i=>(i.zero,i.size,i.bytes))=some (some (.pointer none),1,8):=by kernel_rfl
def dt (code a:Int) (name:List UInt8) (i v t e:Value):List Value:=[.int .i64 code,.int .i64 a,str name,i,v,t,e]
mutual
def cy (W:World) (S:Nat->Prop):St->List Value->Prop
 | .var a s v,cs=>∃x,cs=dt 1 a s cV x bV bV/\aX W S v x
 | .set a s v,cs=>∃x,cs=dt 2 a s cV x bV bV/\aX W S v x
 | .put a s i v,cs=>∃x y,cs=dt 3 a s x y bV bV/\aX W S i x/\aX W S v y
 | .cond a v t e,cs=>∃x p jM q dQ,cs=dt 4 a [] cV x p q/\aX W S v x/\fL W S 143 7 p t.length jM/\cE W S t jM/\fL W S 143 7 q e.length dQ/\cE W S e dQ
 | .loop a v t,cs=>∃x p jM,cs=dt 5 a [] cV x p bV/\aX W S v x/\fL W S 143 7 p t.length jM/\cE W S t jM
 | .ret a v,cs=>∃x,cs=dt 6 a [] cV x bV bV/\aX W S v x
 | .print a v,cs=>∃x,cs=dt 7 a [] cV x bV bV/\aX W S v x
 | .call a v,cs=>∃x,cs=dt 8 a [] cV x bV bV/\aX W S v x
def cE (W:World) (S:Nat->Prop):List St->List Value->Prop
 | [],vs=>vs=[]
 | s::l,vs=>∃cs r,vs=cs++r/\cy W S s cs/\cE W S l r
end
mutual
theorem cy.b8 (hm:ag S W W') (hT:∀k,k<W.heap.size->T k->S k):(s:St)->(cs:List Value)->cy W S s cs->cy W' T s cs
 | .var a n v,cs,h=>by
   simp only[cy]at h ⊢;obtain⟨x,h1,h2⟩:=h;exact⟨x,h1,aX.b8 hm hT _ _ h2⟩
 | .set a n v,cs,h=>by
   simp only[cy]at h ⊢;obtain⟨x,h1,h2⟩:=h;exact⟨x,h1,aX.b8 hm hT _ _ h2⟩
 | .put a n i v,cs,h=>by
   simp only[cy]at h ⊢;obtain⟨x,y,h1,h2,h3⟩:=h;exact⟨x,y,h1,aX.b8 hm hT _ _ h2,aX.b8 hm hT _ _ h3⟩
 | .cond a v t e,cs,h=>by
   simp only[cy]at h ⊢;obtain⟨x,p,jM,q,dQ,h1,h2,h3,h4,h5,h6⟩:=h;exact⟨x,p,jM,q,dQ,h1,aX.b8 hm hT _ _ h2,h3.mods hm hT,cE.b8 hm hT t jM h4,h5.mods hm hT,cE.b8 hm hT e dQ h6⟩
 | .loop a v t,cs,h=>by
   simp only[cy]at h ⊢;obtain⟨x,p,jM,h1,h2,h3,h4⟩:=h;exact⟨x,p,jM,h1,aX.b8 hm hT _ _ h2,h3.mods hm hT,cE.b8 hm hT t jM h4⟩
 | .ret a v,cs,h=>by
   simp only[cy]at h ⊢;obtain⟨x,h1,h2⟩:=h;exact⟨x,h1,aX.b8 hm hT _ _ h2⟩
 | .print a v,cs,h=>by
   simp only[cy]at h ⊢;obtain⟨x,h1,h2⟩:=h;exact⟨x,h1,aX.b8 hm hT _ _ h2⟩
 | .call a v,cs,h=>by
   simp only[cy]at h ⊢;obtain⟨x,h1,h2⟩:=h;exact⟨x,h1,aX.b8 hm hT _ _ h2⟩
theorem cE.b8 (hm:ag S W W') (hT:∀k,k<W.heap.size->T k->S k):(l:List St)->(vs:List Value)->cE W S l vs->cE W' T l vs
 | [],vs,h=>by simp only[cE]at h ⊢;exact h
 | s::l,vs,h=>by
   simp only[cE]at h ⊢;obtain⟨cs,r,h1,h2,h3⟩:=h;exact⟨cs,r,h1,cy.b8 hm hT s cs h2,cE.b8 hm hT l r h3⟩
end
theorem cE.append {s:St}:{l:List St}->{vs:List Value}->cE W S l vs->cy W S s cs->cE W S (l++[s]) (vs++cs)
 | [],vs,h,hs=>by
   simp only[cE]at h;subst h;simp only[aom,cE];exact⟨cs,[],by simp,hs,rfl⟩
 | a::l,vs,h,hs=>by
   simp only[cE]at h;obtain⟨ds,r,rfl,h2,h3⟩:=h;simp only[aoq,cE];exact⟨ds,r++cs,by simp,h2,cE.append h3 hs⟩
theorem cy.shape {s:St} (h:cy W S s cs):∃code a name p q aG on aF ob eX eW,cs=[.int .i64 code,.int .i64 a,.string name,.pointer p,.pointer q,.slice aG on aF,.slice ob eX eW]:=by
 cases s <;> simp only[cy]at h
 case var=>obtain⟨x,rfl,h2⟩:=h;obtain⟨g,rfl⟩:=h2.ptr;exact⟨_,_,_,_,_,_,_,_,_,_,_,rfl⟩
 case set=>obtain⟨x,rfl,h2⟩:=h;obtain⟨g,rfl⟩:=h2.ptr;exact⟨_,_,_,_,_,_,_,_,_,_,_,rfl⟩
 case put=>obtain⟨x,y,rfl,h2,h3⟩:=h;obtain⟨g,rfl⟩:=h2.ptr;obtain⟨g,rfl⟩:=h3.ptr;exact⟨_,_,_,_,_,_,_,_,_,_,_,rfl⟩
 case cond=>obtain⟨x,p,jM,q,dQ,rfl,h2,h3,_,h5,_⟩:=h;obtain⟨g,rfl⟩:=h2.ptr;obtain⟨_,_,_,rfl⟩:=h3.form;obtain⟨_,_,_,rfl⟩:=h5.form;exact⟨_,_,_,_,_,_,_,_,_,_,_,rfl⟩
 case loop=>obtain⟨x,p,jM,rfl,h2,h3,_⟩:=h;obtain⟨g,rfl⟩:=h2.ptr;obtain⟨_,_,_,rfl⟩:=h3.form;exact⟨_,_,_,_,_,_,_,_,_,_,_,rfl⟩
 case ret=>obtain⟨x,rfl,h2⟩:=h;obtain⟨g,rfl⟩:=h2.ptr;exact⟨_,_,_,_,_,_,_,_,_,_,_,rfl⟩
 case print=>obtain⟨x,rfl,h2⟩:=h;obtain⟨g,rfl⟩:=h2.ptr;exact⟨_,_,_,_,_,_,_,_,_,_,_,rfl⟩
 case call=>obtain⟨x,rfl,h2⟩:=h;obtain⟨g,rfl⟩:=h2.ptr;exact⟨_,_,_,_,_,_,_,_,_,_,_,rfl⟩
def ZM (S:Nat->Prop) (l:List St) (v:Value) (w:World):Prop:=∃vs,fL w S 143 7 v l.length vs/\cE w S l vs
def KU (f:Nat):Prop:=∀ (b:Nat) (S:Nat->Prop) (deep:Nat) (ts:List Tok) (W:World) (x:Except (Int×Int) (List St×List Tok)),deep<=13->Rd W b S ts->pk f deep ts=some x ->
 Calls prog 63 #[.pointer (some ⟨b,0,none⟩),deep] W (Got (·=b) W b (ZM S) (some x))
def LQ (f:Nat):Prop:=∀ (b:Nat) (S:Nat->Prop) (deep:Nat) (ts:List Tok) (W:World) (x:Except (Int×Int) (St×List Tok)),deep<=12->Rd W b S ts->uR f deep ts=some x ->
 Calls prog 94 #[.pointer (some ⟨b,0,none⟩),deep] W (Got (·=b) W b (fun s v w=>∃cs,v=.agg cs.toArray/\cy w S s cs) (some x))
def vz (b sb:Nat):Nat->Prop:=fun k=>k=b\/k=sb
def LK (f:Nat):Prop:=∀ (b sb:Nat) (S:Nat->Prop) (ts:List Tok) (W:World) (x:Except (Int×Int) (St×List Tok)),S sb->b<sb->Rd W b S ts->aw W sb (dt 0 (iu ts) [] cV cV bV bV) 143->uL f ts=some x ->
 Calls prog 115 #[.pointer (some ⟨b,0,none⟩),.pointer (some ⟨sb,0,none⟩)] W (Got (vz b sb) W b (fun s v w=>v=.tuple #[]/\∃cs,aw w sb cs 143/\cy w S s cs) (some x))
theorem Rd.cQ (h:Rd W b S ts) (hm:ag T W W') (hT:∀k,T k->b<k):Rd W' b S ts :=
 ⟨h.par.cQ hm hT,h.qi.cQ hm (fun k hk=>aoV (hT k hk)),h.wI.cQ hm (fun k hk=>aoV (hT k hk)),h.has,fun k hk=>anE (h.old k hk) hm.size⟩
theorem iC {t:TypeId} (h:aw W g cs t) (i:Nat) (v:Value) (he:cs.set i v=ds):aw (W.setCell ⟨g,i,none⟩ v) g ds t:=he ▸ h.set i v
theorem cm (W:World) (g i:Nat) (v:Value):ag (·=g) W (W.setCell ⟨g,i,none⟩ v):=ag.setCell (S:=(·=g)) (p:=⟨g,i,none⟩) ay (fun _=>rfl) _
theorem pD (h:ag (·=b) W W'):ag (vz b sb) W W':=h.mono fun _ _ k=>Or.inl k
theorem D2 (h:ag (·=sb) W W'):ag (vz b sb) W W':=h.mono fun _ _ k=>Or.inr k
def ku (S:Nat->Prop) (n:Nat):Nat->Prop:=fun k=>S k\/k=n\/k=n+1
def akM:List Value:=[.int .i64 0,.int .i64 0,.string ⟨#[]⟩,.pointer none,.pointer none,.slice none 0 0,.slice none 0 0]
structure p3 (W w:World) (b:Nat) (S:Nat->Prop) (ts:List Tok) (cs:List Value):Prop where
 rd:Rd w b (ku S W.heap.size) ts
 own:aw w (W.heap.size+1) cs 143
 res:aw w W.heap.size akM 143
 mods:ag (·=b) W w
 lt:b<W.heap.size
theorem p3.start (h:Rd W b S ts) (ta:Int) :
 p3 W ((W.alloc (.cells #[.int .i64 0,.int .i64 0,.string ⟨#[]⟩,.pointer none,.pointer none,.slice none 0 0,.slice none 0 0] 143)).alloc (.cells #[.int .i64 0,ta,.string ⟨#[]⟩,.pointer none,.pointer none,.slice none 0 0,.slice none 0 0] 143)) b S ts (dt 0 ta [] cV cV bV bV):=by
 have hR:=h.quiet (((ag.refl ai W).alloc (.cells #[.int .i64 0,.int .i64 0,.string ⟨#[]⟩,.pointer none,.pointer none,.slice none 0 0,.slice none 0 0] 143)).alloc (.cells #[.int .i64 0,ta,.string ⟨#[]⟩,.pointer none,.pointer none,.slice none 0 0,.slice none 0 0] 143));have h1:=aw.new W #[.int .i64 0,.int .i64 0,.string ⟨#[]⟩,.pointer none,.pointer none,.slice none 0 0,.slice none 0 0] 143;have h2:=aw.new (W.alloc (.cells #[.int .i64 0,.int .i64 0,.string ⟨#[]⟩,.pointer none,.pointer none,.slice none 0 0,.slice none 0 0] 143)) #[.int .i64 0,ta,.string ⟨#[]⟩,.pointer none,.pointer none,.slice none 0 0,.slice none 0 0] 143;rw[show (W.alloc (.cells #[.int .i64 0,.int .i64 0,.string ⟨#[]⟩,.pointer none,.pointer none,.slice none 0 0,.slice none 0 0] 143)).heap.size=W.heap.size+1 by simp]at h2;refine⟨⟨hR.par,hR.qi,hR.wI,Or.inl hR.has,?_⟩,h2,h1.alloc _,(ay.alloc _).alloc _,h.old b h.has⟩;have:=h2.lt;rintro k (hk|rfl|rfl)
 ·have:=h.old k hk
  omega
 ·omega
 ·omega
theorem p3.next (h:p3 W w b S ts cs) (hr:Rd w' b (ku S W.heap.size) r) (hm:ag (·=b) w w'):p3 W w' b S r cs :=
 ⟨hr,h.own.mods hm (by have:=h.lt;omega),h.res.mods hm (by have:=h.lt;omega),h.mods.trans hm,h.lt⟩
theorem p3.qj (h:p3 W w b S ts cs) (i:Nat) (v:Value):ag (ku S W.heap.size) w (w.setCell ⟨W.heap.size+1,i,none⟩ v) :=
 (cm w (W.heap.size+1) i v).mono fun k _ hk=>Or.inr (Or.inr hk)
theorem p3.put (h:p3 W w b S ts cs) (i:Nat) (v:Value) (he:cs.set i v=ds):p3 W (w.setCell ⟨W.heap.size+1,i,none⟩ v) b S ts ds :=
 have hl:=h.lt
 ⟨h.rd.cQ (cm w (W.heap.size+1) i v) (by rintro k rfl;omega),iC h.own i v he,h.res.mods (cm w (W.heap.size+1) i v) (by omega),h.mods.trans' (cm w (W.heap.size+1) i v) (by rintro k rfl hk;omega),h.lt⟩
theorem AH:∀k,k<m->S k->ku S n k:=fun _ _ h=>Or.inl h
theorem p3.ret {z4 z5 rJ:Value} (h:p3 W w b S ts [z0,cS,z2,z3,z4,z5,rJ])
 (hw:wf=((((((w.setCell ⟨W.heap.size,0,none⟩ z0).setCell ⟨W.heap.size,1,none⟩ cS).setCell ⟨W.heap.size,2,none⟩ z2).setCell ⟨W.heap.size,3,none⟩ z3).setCell ⟨W.heap.size,4,none⟩ z4).setCell ⟨W.heap.size,5,none⟩ z5).setCell ⟨W.heap.size,6,none⟩ rJ) :
 aw wf W.heap.size [z0,cS,z2,z3,z4,z5,rJ] 143/\ag (·=b) W wf/\iV wf b ts/\ag (ku S W.heap.size) w wf:=by
 have hm:ag (·=W.heap.size) w wf:=by
  rw[hw];exact ((((((cm w _ 0 z0).trans (cm _ _ 1 cS)).trans (cm _ _ 2 z2)).trans (cm _ _ 3 z3)).trans (cm _ _ 4 z4)).trans (cm _ _ 5 z5)).trans (cm _ _ 6 rJ)
 refine⟨?_,h.mods.trans' hm (by rintro k rfl hk;omega),h.rd.par.cQ hm (by rintro k rfl;exact h.lt),hm.mono fun k _ hk=>Or.inr (Or.inl hk)⟩;rw[hw];exact iC (iC (iC (iC (iC (iC (iC h.res 0 z0 rfl) 1 cS rfl) 2 z2 rfl) 3 z3 rfl) 4 z4 rfl) 5 z5 rfl) 6 rJ rfl
theorem p3.two (h:p3 W w b S ts cs) (hp:iV w' b r) (hb:aw w' (W.heap.size+1) ds 143) (hm:ag (vz b (W.heap.size+1)) w w'):p3 W w' b S r ds :=
 have hl:=h.lt
 ⟨⟨hp,h.rd.qi.cQ hm (by rintro k (rfl|rfl);exact anD _;omega),h.rd.wI.cQ hm (by rintro k (rfl|rfl);exact anD _;omega),h.rd.has,fun k hk=>anE (h.rd.old k hk) hm.size⟩,hb,h.res.mods hm (by rintro (h1|h1) <;> omega),h.mods.trans' hm (by rintro k (rfl|rfl) hk;rfl;omega),h.lt⟩
theorem ajD:(prog.info? 143).map (fun i=>(i.zero,i.size,i.bytes))=some (some (.agg #[.int .i64 0,.int .i64 0,.string ⟨#[]⟩,.pointer none,.pointer none,.slice none 0 0,.slice none 0 0]),7,96):=by kernel_rfl
theorem RG (p:gm α) (k:α->List Tok->gm β) (K:β->List Tok->gm zf):andThen (andThen p k) K=andThen p fun a r=>andThen (k a r) K:=by
 unfold andThen;cases p with
 | none=>rfl
 | some y =>
   cases y with
   | error e=>rfl
   | ok q=>rfl
theorem ahr (f:Nat) (first:Bool) (l:List (List UInt8×Int)) (ts:List Tok) (K:List (List UInt8×Int)->List Tok->gm zf) :
 andThen (mK (f+1) first l ts) K=if cR [41] ts then K l ts.tail else andThen (if first then fV () ts else must [44] ts) fun _ r=>andThen (nu r) fun n r2=>andThen (must [58] r2) fun _ r3 =>
  if cR Cj r3 then andThen (mK f false (l++[(n,2)]) r3.tail) K else andThen (must Ck r3) fun _ eY=>andThen (mK f false (l++[(n,1)]) eY) K:=by
 simp only[mK];split
 ·rfl
 ·simp only[RG]
  congr 1
  funext _ r
  congr 1
  funext n r2
  congr 1
  funext _ r3;split
  ·rfl
  ·simp only[RG]
def kn:List (List UInt8×Int)->List Value
 | []=>[]
 | (n,t)::r=>str n::.int .i64 t::kn r
theorem Eb:(l:List (List UInt8×Int))->(n:List UInt8)->(t:Int)->kn (l++[(n,t)])=kn l++[str n,.int .i64 t]
 | [],n,t=>rfl
 | (m,u)::r,n,t=>by simp only[aoq,kn,Eb r n t]
def rM (W:World) (S:Nat->Prop) (x:Fn) (cs:List Value):Prop :=
 ∃p q dQ,cs=[str x.name,.int .i64 x.at_,p,q]/\fL W S 91 2 p x.params.length (kn x.params)/\fL W S 143 7 q x.body.length dQ/\cE W S x.body dQ
theorem rM.b8 (h:rM W S x cs) (hm:ag S W W') (hT:∀k,k<W.heap.size->T k->S k):rM W' T x cs:=by
 obtain⟨p,q,dQ,h1,h2,h3,h4⟩:=h;exact⟨p,q,dQ,h1,h2.mods hm hT,h3.mods hm hT,cE.b8 hm hT _ _ h4⟩
def mg (W:World) (S:Nat->Prop):List Fn->List Value->Prop
 | [],vs=>vs=[]
 | x::l,vs=>∃cs r,vs=cs++r/\rM W S x cs/\mg W S l r
theorem mg.b8 (hm:ag S W W') (hT:∀k,k<W.heap.size->T k->S k):(l:List Fn)->(vs:List Value)->mg W S l vs->mg W' T l vs
 | [],vs,h=>h
 | x::l,vs,h=>by
   obtain⟨cs,r,h1,h2,h3⟩:=h;exact⟨cs,r,h1,h2.b8 hm hT,mg.b8 hm hT l r h3⟩
theorem mg.append:{l:List Fn}->{vs:List Value}->mg W S l vs->rM W S x cs->mg W S (l++[x]) (vs++cs)
 | [],vs,h,hs=>by
   simp only[mg]at h;subst h;exact⟨cs,[],by simp,hs,rfl⟩
 | a::l,vs,h,hs=>by
   obtain⟨ds,r,rfl,h2,h3⟩:=h;exact⟨ds,r++cs,by simp,h2,mg.append h3 hs⟩
theorem rM.shape (h:rM W S x cs):∃aG on aF ob eX eW,cs=[.string ⟨x.name.toArray⟩,.int .i64 x.at_,.slice aG on aF,.slice ob eX eW]:=by
 obtain⟨p,q,dQ,rfl,h2,h3,_⟩:=h;obtain⟨_,_,_,rfl⟩:=h2.form;obtain⟨_,_,_,rfl⟩:=h3.form;exact⟨_,_,_,_,_,_,rfl⟩
def P3 (f:Nat):Prop:=∀ (b:Nat) (S:Nat->Prop) (ts:List Tok) (W:World) (x:Except (Int×Int) (Fn×List Tok)),Rd W b S ts->uu f ts=some x ->
 Calls prog 31 #[.pointer (some ⟨b,0,none⟩)] W (Got (·=b) W b (fun s v w=>∃cs,v=.agg cs.toArray/\rM w S s cs) (some x))
def akL:List Value:=[.string ⟨#[]⟩,.int .i64 0,.slice none 0 0,.slice none 0 0]
structure nB (W w:World) (b:Nat) (S:Nat->Prop) (ts:List Tok) (cs:List Value):Prop where
 rd:Rd w b (ku S W.heap.size) ts
 own:aw w (W.heap.size+1) cs 84
 res:aw w W.heap.size akL 84
 mods:ag (·=b) W w
 lt:b<W.heap.size
theorem nB.start (h:Rd W b S ts) (ta:Int) :
 nB W ((W.alloc (.cells #[.string ⟨#[]⟩,.int .i64 0,.slice none 0 0,.slice none 0 0] 84)).alloc (.cells #[.string ⟨#[]⟩,ta,.slice none 0 0,.slice none 0 0] 84)) b S ts [.string ⟨#[]⟩,ta,.slice none 0 0,.slice none 0 0]:=by
 have hR:=h.quiet (((ag.refl ai W).alloc (.cells #[.string ⟨#[]⟩,.int .i64 0,.slice none 0 0,.slice none 0 0] 84)).alloc (.cells #[.string ⟨#[]⟩,ta,.slice none 0 0,.slice none 0 0] 84));have h1:=aw.new W #[.string ⟨#[]⟩,.int .i64 0,.slice none 0 0,.slice none 0 0] 84;have h2:=aw.new (W.alloc (.cells #[.string ⟨#[]⟩,.int .i64 0,.slice none 0 0,.slice none 0 0] 84)) #[.string ⟨#[]⟩,ta,.slice none 0 0,.slice none 0 0] 84;rw[show (W.alloc (.cells #[.string ⟨#[]⟩,.int .i64 0,.slice none 0 0,.slice none 0 0] 84)).heap.size=W.heap.size+1 by simp]at h2;refine⟨⟨hR.par,hR.qi,hR.wI,Or.inl hR.has,?_⟩,h2,h1.alloc _,(ay.alloc _).alloc _,h.old b h.has⟩;have:=h2.lt;rintro k (hk|rfl|rfl)
 ·have:=h.old k hk
  omega
 ·omega
 ·omega
theorem nB.next (h:nB W w b S ts cs) (hr:Rd w' b (ku S W.heap.size) r) (hm:ag (·=b) w w'):nB W w' b S r cs :=
 ⟨hr,h.own.mods hm (by have:=h.lt;omega),h.res.mods hm (by have:=h.lt;omega),h.mods.trans hm,h.lt⟩
theorem nB.quiet (h:nB W w b S ts cs) (hm:ag ai w w'):nB W w' b S ts cs :=
 h.next (h.rd.quiet hm) (hm.mono fun _ _ f=>f.elim)
theorem nB.cQ (h:nB W w b S ts cs) (hm:ag T w w') (hT:∀k,T k->W.heap.size+1<k):nB W w' b S ts cs :=
 have hl:=h.lt
 ⟨h.rd.cQ hm (fun k hk=>by have:=hT k hk;omega),h.own.mods hm (fun hk=>by have:=hT _ hk;omega),h.res.mods hm (fun hk=>by have:=hT _ hk;omega),h.mods.trans' hm (fun k hk hw=>by have:=hT k hk;omega),h.lt⟩
theorem nB.qj (h:nB W w b S ts cs) (i:Nat) (v:Value):ag (ku S W.heap.size) w (w.setCell ⟨W.heap.size+1,i,none⟩ v) :=
 (cm w (W.heap.size+1) i v).mono fun k _ hk=>Or.inr (Or.inr hk)
theorem nB.put (h:nB W w b S ts cs) (i:Nat) (v:Value) (he:cs.set i v=ds):nB W (w.setCell ⟨W.heap.size+1,i,none⟩ v) b S ts ds :=
 have hl:=h.lt
 ⟨h.rd.cQ (cm w (W.heap.size+1) i v) (by rintro k rfl;omega),iC h.own i v he,h.res.mods (cm w (W.heap.size+1) i v) (by omega),h.mods.trans' (cm w (W.heap.size+1) i v) (by rintro k rfl hk;omega),h.lt⟩
theorem nB.ret (h:nB W w b S ts [z0,cS,z2,z3])
 (hw:wf=(((w.setCell ⟨W.heap.size,0,none⟩ z0).setCell ⟨W.heap.size,1,none⟩ cS).setCell ⟨W.heap.size,2,none⟩ z2).setCell ⟨W.heap.size,3,none⟩ z3) :
 aw wf W.heap.size [z0,cS,z2,z3] 84/\ag (·=b) W wf/\iV wf b ts/\ag (ku S W.heap.size) w wf:=by
 have hm:ag (·=W.heap.size) w wf:=by
  rw[hw];exact (((cm w _ 0 z0).trans (cm _ _ 1 cS)).trans (cm _ _ 2 z2)).trans (cm _ _ 3 z3)
 refine⟨?_,h.mods.trans' hm (by rintro k rfl hk;omega),h.rd.par.cQ hm (by rintro k rfl;exact h.lt),hm.mono fun k _ hk=>Or.inr (Or.inl hk)⟩;rw[hw];exact iC (iC (iC (iC h.res 0 z0 rfl) 1 cS rfl) 2 z2 rfl) 3 z3 rfl
theorem ig.keep (h:ig W B S e size v n vs) (hm:ag T W W') (hn:∀k,v.ownBlock=some k->¬T k):ig W' B S e size v n vs :=
 ⟨hm.ownsRow h.row hn,aol h.base hm.size,h.below⟩
theorem Er (W:World) (z0 cS:Value) (e:TypeId):∀j u,[z0,cS][j]?=some u->(W.alloc (.cells #[z0,cS] e)).cell? ((⟨W.heap.size,0,none⟩:Addr).add j)=some u:=by
 intro j u hj;have h:=(aw.new W #[z0,cS] e).cell (i:=j) (v:=u) hj;cases j with
 | zero=>exact h
 | succ j=>simpa [Addr.add] using h
theorem KL (s:ByteArray) (a:Int):∀u∈[Value.string s,a],u.oneCell'=true:=by
 intro u hu;simp only[anW,an1,or_false]at hu;rcases hu with rfl|rfl <;> rfl
theorem Wd:(prog.info? 91).map (fun i=>(i.zero,i.size,i.bytes))=some (some (.agg #[.string ⟨#[]⟩,.int .i64 0]),2,24):=by kernel_rfl
theorem acv:(prog.info? 84).map (fun i=>(i.zero,i.size,i.bytes))=some (some (.agg #[.string ⟨#[]⟩,.int .i64 0,.slice none 0 0,.slice none 0 0]),4,72):=by kernel_rfl
theorem eB.at_:{l:List aL}->{vs:List Value}->eB W S l vs->(i:Nat)->(e:aL)->l[i]?=some e->∃v,vs[i]?=some v/\aX W S e v
 | [],vs,h,i,e,he=>by simp at he
 | a::r,vs,h,i,e,he=>by
   simp only[eB]at h;obtain⟨x,r2,rfl,h1,h2⟩:=h;cases i with
   | zero=>simp only[anO,anG]at he;subst he;exact⟨x,rfl,h1⟩
   | succ i=>exact eB.at_ h2 i e (by simpa using he)
theorem nQ (h:W.ownsRow B e size v n vs):∃aG aF,v=.slice aG n aF:=by
 rcases h.2 with⟨hv,h0⟩|⟨g,cap,cur,hv,_⟩
 ·exact⟨_,_,by rw[hv,h0]⟩
 ·exact⟨_,_,hv⟩
theorem OV (c:UInt8) (W:World) :
 Calls prog 89 #[.int .u8 c.toNat] W fun e W'=>e=.returned (.bool (mI c))/\W=W':=by
 obtain⟨x,hx⟩:∃x:Int,x=c.toNat:=⟨_,rfl⟩;have h0:0<=x/\x<256:=by rw[hx];have:=c.toNat_lt;omega
 have cu:mI c=((decide (97<=x) && decide (x<=122)) || x==95):=by
  unfold mI;rw[hx]
  congr 1
  ·congr 1 <;> (apply decide_eq_decide.2;omega)
  ·rw[Bool.eq_iff_iff];simp;omega
 rw[cu,<-hx];clear cu hx;by_cases h1:97<=x <;> by_cases h2:x<=122 <;> by_cases h3:x=95
 all_goals first
  | omega
  | skip
 all_goals
  go_in;go_wp2;go_ret;refine⟨?_,rfl⟩;simp[h1,h2,h3]
theorem Md (c:UInt8) (W:World) :
 Calls prog 90 #[.int .u8 c.toNat] W fun e W'=>e=.returned (.bool (ik c))/\W=W':=by
 obtain⟨x,hx⟩:∃x:Int,x=c.toNat:=⟨_,rfl⟩;have h0:0<=x/\x<256:=by rw[hx];have:=c.toNat_lt;omega
 have cu:ik c=(decide (48<=x) && decide (x<=57)):=by
  unfold ik;rw[hx]
  congr 1 <;> (apply decide_eq_decide.2;omega)
 rw[cu,<-hx];clear cu hx;by_cases h1:48<=x <;> by_cases h2:x<=57
 all_goals
  go_in;go_wp2;go_ret;refine⟨?_,rfl⟩;simp[h1,h2]
theorem ajW:prog.underlying 9=some .string:=by kernel_rfl
theorem AF {l:List UInt8} (h:l[n]?=some c) (W:World):Sem.run prog (Instr.index 9 (.string ⟨l.toArray⟩) (.int .i64 (n:Int))) W=.ok (.int .u8 c.toNat) W:=by
 have hn:n<l.length:=(anA.1 h).1;have hc:l[n]=c:=(anA.1 h).2;have h2:(0:Int)<=(n:Int)/\(n:Int)<((⟨l.toArray⟩:ByteArray).size:Int):=by
  simp only[ByteArray.size,aoz];omega
 have:=run_index_string (P:=prog) W 9 ⟨l.toArray⟩ .i64 (n:Int) ajW;rw[dif_pos h2]at this;refine this.trans ?_;have e:(⟨l.toArray⟩:ByteArray)[(n:Int).toNat]'(by simpa [ByteArray.size] using hn)=c:=by
  rw[<-hc];rfl
 rw[e]
theorem PI {r:List UInt8} (W:World):Sem.run prog (Instr.index 9 (.string ⟨(c::r).toArray⟩) (.int .i64 0)) W=.ok (.int .u8 c.toNat) W:=AF (l:=c::r) (n:=0) rfl W
def Marks (W:World):Prop:=∀ (i:Nat) (m:List UInt8),kz[i]?=some m->W.cell? ⟨3,i,none⟩=some (str m)
def Et (x:UInt8):Bool:=mI x || ik x
theorem En (p:UInt8->Bool):(l:List UInt8)->(l.takeWhile p).length<=l.length
 | []=>anD _
 | c::r=>by
   simp only[aoN];split
   ·simp only[anK];have:=En p r;omega
   ·simp
theorem Ky (p:UInt8->Bool):(l:List UInt8)->(n:Nat)->n<=(l.takeWhile p).length->(n<(l.takeWhile p).length->∃c,l[n]?=some c/\p c=true)/\(n=(l.takeWhile p).length->n<l.length->∃c,l[n]?=some c/\p c=false)
 | [],n,h=>by simp
 | c::r,n,h=>by
   simp only[aoN]at h ⊢;cases hp:p c with
   | false =>
     rw[hp]at h;simp only[aoP,if_false,anY,Nat.le_zero]at h ⊢;subst h;exact⟨fun h=>absurd h (an5 _),fun _ _=>⟨c,rfl,hp⟩⟩
   | true =>
     rw[hp]at h;simp only[if_true,anK]at h ⊢;cases n with
     | zero=>exact⟨fun _=>⟨c,rfl,hp⟩,fun h=>by omega⟩
     | succ n =>
       have ih:=Ky p r n (by omega);exact⟨fun h=>ih.1 (by omega),fun h1 h2=>ih.2 (by omega) (by omega)⟩
theorem agU (c:UInt8) (r:List UInt8) (W:World) (hlen:(c::r).length<=10000000) (h:mI c=true) :
 Calls prog 59 #[str (c::r)] W fun e W'=>e=.returned (.tuple #[.int .i64 1,.int .i64 (((c::r).takeWhile Et).length:Nat)])/\W=W':=by
 have cu:=af (fun (d:UInt8) (W1:World)=>OV d W1);have HD:=af (fun (d:UInt8) (W1:World)=>Md d W1);have h0:=PI (c:=c) (r:=r) W;have aU:=af h;obtain⟨l,hl⟩:=aq (c::r);obtain⟨k,hk⟩:=aq ((l.takeWhile Et).length);have ng:k<=l.length:=by rw[hk];exact En _ _
 have bH:=af (fun n=>Ky Et l n);rw[<-hk]at bH;rw[<-hl]at h0 hlen ⊢;rw[<-hk];unfold str;clear h hl hk;go_in;go_wp2_with fail;refine (cu c W).mono ?_;rintro e w ⟨rfl,rfl⟩;rw[aU.out];go_wp2_with fail
 go_loopw [3] (fun v wr=>∃n:Nat,n<=k/\v=.int .i64 n/\Hid (W=wr)) (fun v _=>(k-intOf v).toNat)
 case atStart=>exact⟨0,by omega,rfl,af (by first|trivial|rfl)⟩
 case round =>
  obtain⟨n,hn,rfl,hw⟩:=hrel;obtain rfl:=hw.out;clear hw;by_cases hlt:n<k
  ·obtain⟨d,kh,j4⟩:=(bH n hn).1 hlt
   have sw:(n:Int)<(l.length:Int):=(by omega);have sj:=AF kh W;clear kh;cases hL:mI d
   ·have hD:ik d=true:=by simpa [Et,hL] using j4
    clear j4;have ER:=af hL;have AV:=af hD;clear hL hD;go_wp2_with (first|(go_at_call 89;refine (cu d W).mono ?_;rintro e w ⟨rfl,rfl⟩;rw[ER.out])|(go_at_call 90;refine (HD d W).mono ?_;rintro e w ⟨rfl,rfl⟩;rw[AV.out]));exact⟨⟨n+1,by omega,by go_num,af (by first|trivial|rfl)⟩,by simp[intOf];omega⟩
   ·have ER:=af hL
    clear hL j4;go_wp2_with (go_at_call 89;refine (cu d W).mono ?_;rintro e w ⟨rfl,rfl⟩;rw[ER.out]);exact⟨⟨n+1,by omega,by go_num,af (by first|trivial|rfl)⟩,by simp[intOf];omega⟩
  ·obtain rfl:n=k:=by omega
   by_cases sw:n<l.length
   ·obtain⟨d,kh,j4⟩:=(bH n hn).2 rfl sw
    have sw:(n:Int)<(l.length:Int):=(by omega);have sj:=AF kh W;have MO:mI d=false/\ik d=false:=(by simpa [Et] using j4);have ER:=af MO.1;have AV:=af MO.2;clear kh j4 MO;go_wp2_with (first|(go_at_call 89;refine (cu d W).mono ?_;rintro e w ⟨rfl,rfl⟩;rw[ER.out])|(go_at_call 90;refine (HD d W).mono ?_;rintro e w ⟨rfl,rfl⟩;rw[AV.out]));go_ret2;exact⟨rfl,rfl⟩
   ·have sw:¬(n:Int)<(l.length:Int):=by omega
    go_wp2;go_ret2;exact⟨rfl,rfl⟩
theorem agS (c:UInt8) (r:List UInt8) (W:World) (hlen:(c::r).length<=10000000) (h1:mI c=false) (h:ik c=true) :
 Calls prog 59 #[str (c::r)] W fun e W'=>e=.returned (.tuple #[.int .i64 2,.int .i64 (((c::r).takeWhile ik).length:Nat)])/\W=W':=by
 have cu:=af (fun (d:UInt8) (W1:World)=>OV d W1);have HD:=af (fun (d:UInt8) (W1:World)=>Md d W1);have h0:=PI (c:=c) (r:=r) W;have aU:=af h;have EK:=af h1;obtain⟨l,hl⟩:=aq (c::r);obtain⟨k,hk⟩:=aq ((l.takeWhile ik).length);have ng:k<=l.length:=by rw[hk];exact En _ _
 have bH:=af (fun n=>Ky ik l n);rw[<-hk]at bH;rw[<-hl]at h0 hlen ⊢;rw[<-hk];unfold str;clear h h1 hl hk;go_in;go_wp2_with (first|(go_at_call 89;refine (cu c W).mono ?_;rintro e w ⟨rfl,rfl⟩;rw[EK.out])|(go_at_call 90;refine (HD c W).mono ?_;rintro e w ⟨rfl,rfl⟩;rw[aU.out]))
 go_loopw [3] (fun v wr=>∃n:Nat,n<=k/\v=.int .i64 n/\Hid (W=wr)) (fun v _=>(k-intOf v).toNat)
 case atStart=>exact⟨0,by omega,rfl,af (by first|trivial|rfl)⟩
 case round =>
  obtain⟨n,hn,rfl,hw⟩:=hrel;obtain rfl:=hw.out;clear hw;by_cases hlt:n<k
  ·obtain⟨d,kh,j4⟩:=(bH n hn).1 hlt
   have sw:(n:Int)<(l.length:Int):=(by omega);have sj:=AF kh W;have AV:=af j4;clear kh j4;go_wp2_with (go_at_call 90;refine (HD d W).mono ?_;rintro e w ⟨rfl,rfl⟩;rw[AV.out]);exact⟨⟨n+1,by omega,by go_num,af (by first|trivial|rfl)⟩,by simp[intOf];omega⟩
  ·obtain rfl:n=k:=by omega
   by_cases sw:n<l.length
   ·obtain⟨d,kh,j4⟩:=(bH n hn).2 rfl sw
    have sw:(n:Int)<(l.length:Int):=(by omega);have sj:=AF kh W;have AV:=af j4;clear kh j4;go_wp2_with (go_at_call 90;refine (HD d W).mono ?_;rintro e w ⟨rfl,rfl⟩;rw[AV.out]);go_ret2;exact⟨rfl,rfl⟩
   ·have sw:¬(n:Int)<(l.length:Int):=by omega
    go_wp2;go_ret2;exact⟨rfl,rfl⟩
theorem XB:prog.underlying 190=some (.array 24 9):=by kernel_rfl
theorem af9 {i:Nat} {m:List UInt8} (h:kz[i]?=some m) (W:World):Sem.run prog (Instr.index 190 (.agg #[.string ⟨#[38,38]⟩,.string ⟨#[124,124]⟩,.string ⟨#[61,61]⟩,.string ⟨#[33,61]⟩,.string ⟨#[60,61]⟩,.string ⟨#[62,61]⟩,.string ⟨#[60]⟩,.string ⟨#[62]⟩,.string ⟨#[61]⟩,.string ⟨#[43]⟩,.string ⟨#[45]⟩,.string ⟨#[42]⟩,.string ⟨#[47]⟩,.string ⟨#[37]⟩,.string ⟨#[33]⟩,.string ⟨#[40]⟩,.string ⟨#[41]⟩,.string ⟨#[123]⟩,.string ⟨#[125]⟩,.string ⟨#[91]⟩,.string ⟨#[93]⟩,.string ⟨#[44]⟩,.string ⟨#[59]⟩,.string ⟨#[58]⟩]) (.int .i64 (i:Int))) W=.ok (.string ⟨m.toArray⟩) W:=by
 have hi:i<24:=(anA.1 h).1;obtain rfl|rfl|rfl|rfl|rfl|rfl|rfl|rfl|rfl|rfl|rfl|rfl|rfl|rfl|rfl|rfl|rfl|rfl|rfl|rfl|rfl|rfl|rfl|rfl:i=0\/i=1\/i=2\/i=3\/i=4\/i=5\/i=6\/i=7\/i=8\/i=9\/i=10\/i=11\/i=12\/i=13\/i=14\/i=15\/i=16\/i=17\/i=18\/i=19\/i=20\/i=21\/i=22\/i=23:=by omega
 all_goals
  cases h;simp[Instr.index,run_underlying XB,asIntOf,go_sem]
theorem agb (W:World) (h:Marks W):W.rangeAt 3 0 (kz.map str):=by
 intro j v hj;rw[anV,an7]at hj;obtain⟨m,hm,rfl⟩:=hj;rw[an9];exact h j m hm
theorem agc:(prog.info? 190).map (·.size)=some (kz.map str).length:=by kernel_rfl
def Cn (l:List UInt8):Nat:=((kz.find? (fun m=>m.isPrefixOf l)).map List.length).getD 0
theorem agR (c:UInt8) (r:List UInt8) (W:World) (hM:Marks W) (hlen:(c::r).length<=10000000) (h1:mI c=false) (h:ik c=false) :
 Calls prog 59 #[str (c::r)] W fun e W'=>e=.returned (.tuple #[.int .i64 3,.int .i64 (Cn (c::r):Nat)])/\W=W':=by
 have cu:=af (fun (d:UInt8) (W1:World)=>OV d W1);have HD:=af (fun (d:UInt8) (W1:World)=>Md d W1);have h0:=PI (c:=c) (r:=r) W;have aU:=af h;have EK:=af h1;obtain⟨l,hl⟩:=aq (c::r);have bP:=af (fun (m:List UInt8) (w:World)=>Tryz.strings_HasPrefix ⟨l.toArray⟩ ⟨m.toArray⟩ w);rw[<-hl]at h0 hlen ⊢;unfold str;clear h h1 hl;have vg:=af (agb W hM);have aI:=af (fun (i:Nat) (m:List UInt8) (h:kz[i]?=some m)=>af9 h W);obtain⟨ui,FQ⟩:=aq (Value.agg (kz.map str).toArray);have xo:Value.agg (kz.map str).toArray=(.agg #[.string ⟨#[38,38]⟩,.string ⟨#[124,124]⟩,.string ⟨#[61,61]⟩,.string ⟨#[33,61]⟩,.string ⟨#[60,61]⟩,.string ⟨#[62,61]⟩,.string ⟨#[60]⟩,.string ⟨#[62]⟩,.string ⟨#[61]⟩,.string ⟨#[43]⟩,.string ⟨#[45]⟩,.string ⟨#[42]⟩,.string ⟨#[47]⟩,.string ⟨#[37]⟩,.string ⟨#[33]⟩,.string ⟨#[40]⟩,.string ⟨#[41]⟩,.string ⟨#[123]⟩,.string ⟨#[125]⟩,.string ⟨#[91]⟩,.string ⟨#[93]⟩,.string ⟨#[44]⟩,.string ⟨#[59]⟩,.string ⟨#[58]⟩]):=rfl;rw[<-xo,<-FQ]at aI;have XX:=af FQ;clear FQ xo;go_in;go_wp2_with (first|(go_at_call 89;refine (cu c W).mono ?_;rintro e w ⟨rfl,rfl⟩;rw[EK.out])|(go_at_call 90;refine (HD c W).mono ?_;rintro e w ⟨rfl,rfl⟩;rw[aU.out])|(refine wpList_load_mid rfl 190 (.global 3) rfl 3 0 rfl (kz.map str) _ vg XB rfl agc ?_;rw[<-XX.out]))
 go_loopw [47] (fun v wr=>∃i:Nat,i<=24/\v=.int .i64 i/\Hid ((kz.drop i).find? (fun m=>m.isPrefixOf l)=kz.find? (fun m=>m.isPrefixOf l))/\Hid (W=wr)) (fun v _=>(24-intOf v).toNat)
 case atStart=>exact⟨0,by omega,rfl,af (by first|trivial|rfl),af (by first|trivial|rfl)⟩
 case round =>
  obtain⟨i,hi,rfl,heq,hw⟩:=hrel;obtain rfl:=hw.out;clear hw;by_cases hlt:i<24
  ·obtain⟨m,hm⟩:∃m,kz[i]?=some m:=⟨kz[i],anx (by exact hlt)⟩
   have hd:kz.drop i=m::kz.drop (i+1):=by
        have:=anL (l:=kz) (i:=i) (by exact hlt);rw[this]
        congr 1
        exact (anA.1 hm).2
   have sj:=aI.out i m hm;cases hs:m.isPrefixOf l
   ·have vW:Hid ((kz.drop (i+1)).find? (fun m=>m.isPrefixOf l)=kz.find? (fun m=>m.isPrefixOf l)):=af (by
     rw[<-heq.out,hd,aoa,hs])
    have HS:Hid (Lib.hasPrefix l m=false):=af hs;clear hm hd hs heq;go_wp2_with (go_at_call 91;refine (bP m W).mono ?_;rintro e w' ⟨rfl,rfl⟩;simp only[HS.out]);exact⟨⟨i+1,by omega,by go_num,vW,af (by first|trivial|rfl)⟩,by simp[intOf];omega⟩
   ·have vR:Hid (Cn l=m.length):=af (by
     unfold Cn;rw[<-heq.out,hd,aoa,hs];rfl)
    have HS:Hid (Lib.hasPrefix l m=true):=af hs;have uz:m.length<=2:=by
     have nj:m∈kz:=anF hm;simp only[kz,anW,an1,or_false]at nj;rcases nj with rfl|rfl|rfl|rfl|rfl|rfl|rfl|rfl|rfl|rfl|rfl|rfl|rfl|rfl|rfl|rfl|rfl|rfl|rfl|rfl|rfl|rfl|rfl|rfl <;> decide
    clear hm hd hs heq;go_wp2_with (go_at_call 91;refine (bP m W).mono ?_;rintro e w' ⟨rfl,rfl⟩;simp only[HS.out]);go_ret2;rw[vR.out];exact⟨rfl,rfl⟩
  ·obtain rfl:i=24:=by omega
   have vR:Hid (Cn l=0):=af (by
        unfold Cn;rw[<-heq.out];rfl)
   clear heq;go_wp2;go_ret2;rw[vR.out];exact⟨rfl,rfl⟩
theorem agP (c:UInt8) (r:List UInt8) (W:World) (hM:Marks W) (hlen:(c::r).length<=10000000) :
 Calls prog 59 #[str (c::r)] W fun e W'=>e=.returned (.tuple #[.int .i64 (kA (c::r)).1,.int .i64 ((kA (c::r)).2:Nat)])/\W=W':=by
 cases h1:mI c
 ·cases h2:ik c
  ·have h:=agR c r W hM hlen h1 h2
   have e:kA (c::r)=(3,Cn (c::r)):=by
        simp only[kA,h1,h2,aoP,if_false,Cn];cases kz.find? (fun m=>m.isPrefixOf (c::r)) <;> rfl
   rw[e];exact h
  ·have h:=agS c r W hlen h1 h2
   have e:kA (c::r)=(2,((c::r).takeWhile ik).length):=by
        simp only[kA,h1,h2,aoP,if_false,if_true]
   rw[e];exact h
 ·have h:=agU c r W hlen h1
  have e:kA (c::r)=(1,((c::r).takeWhile Et).length):=by
   simp only[kA,h1,if_true];rfl
  rw[e];exact h
def rD:List Tok->List Value
 | []=>[]
 | t::r=>.int .i64 t.kind::str t.text::.int .i64 t.at_::rD r
theorem PK:(l:List Tok)->(t:Tok)->rD (l++[t])=rD l++[.int .i64 t.kind,str t.text,.int .i64 t.at_]
 | [],t=>rfl
 | u::r,t=>by simp only[aoq,rD,PK r t]
theorem Xp:(l:List Tok)->(i:Nat)->(t:Tok)->l[i]?=some t->(rD l)[i*3]?=some (.int .i64 t.kind)/\(rD l)[i*3+1]?=some (str t.text)/\(rD l)[i*3+2]?=some (.int .i64 t.at_)
 | [],i,t,h=>by simp at h
 | u::r,0,t,h=>by
   simp only[anO,anG]at h;subst h;exact⟨rfl,rfl,rfl⟩
 | u::r,i+1,t,h=>by
   have:=Xp r i t (by simpa using h);simp only[rD];rw[show (i+1)*3=i*3+3 by omega];exact this
def J4 (acc:List Tok):Except (Int×Int) (List Tok)->Except (Int×Int) (List Tok)
 | .ok t=>.ok (acc++t)
 | .error e=>.error e
def Made (ts:List Tok):Prop:=∀t∈ts,t.text.length<=10000000/\(t.kind=2->t.text≠[]/\t.text.all ik=true)
theorem Made.append (h:Made ts) (h1:t.text.length<=10000000/\(t.kind=2->t.text≠[]/\t.text.all ik=true)):Made (ts++[t]):=by
 intro u hu;rw[anQ,anS]at hu;rcases hu with hu|rfl
 ·exact h u hu
 ·exact h1
def Zt (W:World):Except (Int×Int) (List Tok)->Ending->World->Prop
 | .error (n,a)=>fun e w=>∃g,e=.returned (.tuple #[.slice none 0 0,.iface 134 (.pointer (some ⟨g,0,none⟩))])/\aw w g [n,a] 136/\ag ai W w
 | .ok ts=>fun e w=>∃g c,e=.returned (.tuple #[.slice (some ⟨g,0,none⟩) ts.length c,.nilIface])/\ts.length<=c/\c<=9223372036854775807/\ts.length<=1501/\g<w.heap.size/\zE w g 0 ts/\Ends ts/\Made ts/\ag ai W w
def Zs (s:List UInt8) (W:World) (x:Except (Int×Int) (List Tok)) (lv iv:Value) (wr:World):Prop :=
 ∃ (p:Nat) (acc:List Tok) (f:Nat) (y:Except (Int×Int) (List Tok)),iv=.int .i64 p/\p<=s.length/\kS f (s.drop p) p acc.length=some y/\x=J4 acc y/\wr.ownsRow W.heap.size 79 3 lv acc.length (rD acc)/\ag ai W wr/\Made acc/\acc.length<=1500
theorem aj4:(prog.info? 79).map (fun i=>(i.zero,i.size,i.bytes))=some (some (.agg #[.int .i64 0,.string ⟨#[]⟩,.int .i64 0]),3,32):=by kernel_rfl
theorem Xq (W:World) (z0 cS z2:Value) (e:TypeId):∀j u,[z0,cS,z2][j]?=some u->(W.alloc (.cells #[z0,cS,z2] e)).cell? ((⟨W.heap.size,0,none⟩:Addr).add j)=some u:=by
 intro j u hj;have h:=(aw.new W #[z0,cS,z2] e).cell (i:=j) (v:=u) hj;cases j with
 | zero=>exact h
 | succ j=>simpa [Addr.add] using h
theorem Xr (a b:Int) (s:ByteArray):∀u∈[Value.int .i64 a,.string s,b],u.oneCell'=true:=by
 intro u hu;simp only[anW,an1,or_false]at hu;rcases hu with rfl|rfl|rfl <;> rfl
theorem agO (l:List UInt8):(kA l).2<=l.length:=by
 cases l with
 | nil=>exact anD _
 | cons c r =>
   simp only[kA];split
   ·exact En _ _
   ·split
    ·exact En _ _
    ·cases hf:kz.find? (fun (m:List UInt8)=>m.isPrefixOf (c::r)) with
     | none=>exact anC _
     | some m =>
       have h1:m.isPrefixOf (c::r)=true:=aoJ (p:=fun (m:List UInt8)=>m.isPrefixOf (c::r)) hf;rw[List.isPrefixOf_iff_prefix]at h1;exact h1.length_le
theorem agQ (c:UInt8) (r:List UInt8):(kA (c::r)).1=2->(c::r).take (kA (c::r)).2≠[]/\((c::r).take (kA (c::r)).2).all ik=true:=by
 simp only[kA];split
 ·intro h;simp at h
 ·split
  ·rename_i hd
   intro _;have e:(c::r).take ((c::r).takeWhile ik).length=(c::r).takeWhile ik:=by
        have:=List.takeWhile_append_dropWhile (p:=ik) (l:=c::r)
        conv=>lhs;arg 2;rw[<-this]
        exact List.take_left
   rw[e];refine⟨?_,?_⟩
   ·rw[aoN,hd];simp
   ·rw[aoC];exact fun x hx=>aoC.1 (List.all_takeWhile) x hx
  ·split <;> (intro h;simp at h)
theorem Xt (s:List UInt8) (f:Nat) (x:Except (Int×Int) (List Tok)) (W:World) (hM:Marks W) (hlen:s.length<=10000000) (hx:kS f s 0 0=some x) :
 Calls prog 29 #[str s] W (Zt W x):=by
 have aj:=af hx;have YE:=af (fun (w:World) (h:ag ai W w) (i:Nat) (m:List UInt8) (hm:kz[i]?=some m)=>h.cellOf (hM i m hm) id);obtain⟨i0,hi,hz0,hz1,hz2⟩:=info_parts aj4;have aI:=af (⟨hi,hz0,hz1,hz2⟩:_/\_/\_/\_);clear hx hM hi hz0 hz1 hz2;unfold str;go_in;go_wp2_with fail
 go_loopw [4,5] (fun lv iv wr=>Zs s W x lv iv wr) (fun _ iv _=>(s.length-intOf iv).toNat)
 case atStart=>exact⟨0,[],f,x,rfl,anC _,aj,(by cases x <;> rfl),World.ownsRow_nil _ _ _ _,ag.refl _ _,(fun _ h=>nomatch h),by simp⟩
 case round =>
  clear aj;obtain⟨p,acc,ff,y,rfl,hp,hy,rfl,hown,hm,yC,hn⟩:=hrel;have HO:=af hown;have az:=af hm;have HD:=af yC;have aT:=af hn;clear hown hm yC hn;cases ff with
  | zero=>simp[kS]at hy
  | succ f1 =>
  by_cases vZ:p<s.length
  ·obtain⟨c,hc⟩:∃c,s[p]?=some c:=⟨s[p],anx vZ⟩
   have sj:=AF hc wr;have hdr:s.drop p=c::s.drop (p+1):=by
        have:=anL vZ;rw[this]
        congr 1
        exact (anA.1 hc).2
   have cA:(p:Int)<(s.length:Int):=(by omega);rw[hdr]at hy;simp only[kS]at hy;obtain⟨ba,wj⟩:∃ba:Int,ba=c.toNat:=⟨_,rfl⟩;rw[<-wj]at sj;have hx0:0<=ba/\ba<256:=(by rw[wj];have:=c.toNat_lt;omega);by_cases hb:Ic c=true
   ·rw[if_pos hb]at hy
    have kZ:=af hy;have hb3:ba=32\/ba=9\/ba=10:=by
     simp only[Ic,Bool.or_eq_true,beq_iff_eq]at hb;omega
    clear hy hb hdr hc wj;rcases hb3 with rfl|rfl|rfl
    all_goals
     go_wp2_with fail;exact⟨⟨p+1,acc,f1,y,by go_num,by omega,kZ,rfl,HO,az,HD,aT⟩,by simp[intOf];omega⟩
   ·rw[if_neg hb]at hy
    have xy:¬ba=32/\¬ba=9/\¬ba=10:=by
     simp only[Ic,Bool.or_eq_true,beq_iff_eq]at hb;omega
    obtain⟨amW,amX,n10⟩:=xy;by_cases acT:ba=35
    ·have Dj:c.toNat=35:=by omega
     rw[if_pos (by simpa using Dj)]at hy;subst acT;rw[<-hdr]at hy;have kZ:=af hy;obtain⟨K,hK⟩:∃K,K=((s.drop p).takeWhile fun x=>x.toNat != 10).length:=⟨_,rfl⟩;have aly:K<=s.length-p:=by
       have:=En (fun x=>x.toNat != 10) (s.drop p);rw[<-hK]at this;simpa using this
     have alx:1<=K:=by
       rw[hK,hdr,aoN,if_pos (by simp[Dj])];simp
     have bH:=af (fun n=>Ky (fun x=>x.toNat != 10) (s.drop p) n);rw[<-hK]at bH kZ;have Qc:Hid ((s.drop p).dropWhile (fun x=>x.toNat != 10)=s.drop (p+K)):=af (by
       have e:=List.takeWhile_append_dropWhile (p:=fun (x:UInt8)=>x.toNat != 10) (l:=s.drop p);have e2:(s.drop p).drop K=(s.drop p).dropWhile (fun x=>x.toNat != 10):=by
          conv=>lhs;arg 2;rw[<-e]
          rw[hK];exact List.drop_left
       rw[<-e2,aoE])
     clear hy hb hdr hc wj Dj hK;go_wp2_with fail
     go_loopw [5] (fun iv wr2=>∃k:Nat,k<=K/\iv=.int .i64 ((p+k:Nat):Int)/\Hid (wr=wr2)) (fun iv _=>(p+K-intOf iv).toNat)
     case atStart=>exact⟨0,by omega,rfl,af (by first|trivial|rfl)⟩
     case round =>
       obtain⟨k,hk,rfl,hw⟩:=hrel;obtain rfl:=hw.out;clear hw;by_cases hlt:k<K
       ·obtain⟨d,kh,j4⟩:=(bH k hk).1 hlt
        have hpl:(p:Int)+(k:Int)<(s.length:Int):=(by omega);have Jd:=AF (n:=p+k) (l:=s) (c:=d) (by rw[<-kh,aor]) wr;rw[Int.natCast_add]at Jd;have Nb:¬(d.toNat:Int)=10:=(by simp at j4;omega);clear kh j4 sj;go_wp2_with fail;exact⟨⟨k+1,by omega,by go_num,af (by first|trivial|rfl)⟩,by simp[intOf];omega⟩
       ·obtain rfl:k=K:=by omega
        by_cases amj:p+k<s.length
        ·obtain⟨d,kh,j4⟩:=(bH k hk).2 rfl (by simp;omega)
         have hpl:(p:Int)+(k:Int)<(s.length:Int):=(by omega);have Jd:=AF (n:=p+k) (l:=s) (c:=d) (by rw[<-kh,aor]) wr;rw[Int.natCast_add]at Jd;have Nb:(d.toNat:Int)=10:=(by simp at j4;omega);rw[Nb]at Jd;clear kh j4 sj Nb;go_wp2_with fail;refine⟨⟨p+k,acc,f1,y,by go_num,by omega,?_,rfl,HO,az,HD,aT⟩,by simp[intOf];omega⟩;rw[<-Qc.out];exact kZ
        ·have hpl:¬(p:Int)+(k:Int)<(s.length:Int):=by omega
         clear sj;go_wp2_with fail;refine⟨⟨p+k,acc,f1,y,by go_num,by omega,?_,rfl,HO,az,HD,aT⟩,by simp[intOf];omega⟩;rw[<-Qc.out];exact kZ
    ·have Dj:¬c.toNat=35:=by omega
     rw[if_neg (by simpa using Dj)]at hy;have kZ:=af hy;have X_:=af hdr;have hsl:(⟨s.toArray⟩:ByteArray).extract p s.length=⟨(c::s.drop (p+1)).toArray⟩:=by
       rw[ByteArray.extract_mk,hdr]
       congr 2
       apply anN;rw[<-hdr];simp
     have u9:=af (agP c (s.drop (p+1)) wr (fun i m hm=>YE.out wr az i m hm) (by rw[<-hdr];simp;omega));obtain⟨kk,Dz⟩:=aq (kA (c::s.drop (p+1)));have xv:kk.2<=s.length-p:=(by rw[Dz];have:=agO (c::s.drop (p+1));rw[<-hdr]at this ⊢;simpa using this);have lA:=af (agQ c (s.drop (p+1)));rw[<-Dz]at u9 lA;obtain⟨kk,dU⟩:=kk;simp only at u9 lA xv;have hs2:(⟨s.toArray⟩:ByteArray).extract p (p+dU)=⟨((c::s.drop (p+1)).take dU).toArray⟩:=by
       rw[ByteArray.extract_mk,hdr]
       congr 3
       omega
     have j6:(if dU=0 then some (.error (3,(p:Int))) else if acc.length=1500 then some (.error (4,(p:Int))) else match kS f1 ((c::s.drop (p+1)).drop dU) (p+dU) (acc.length+1) with
       | some (.ok t)=>some (.ok (⟨kk,(c::s.drop (p+1)).take dU,p⟩::t))
       | x=>x)=some y:=by
       rw[<-Dz]at hy;exact hy
     have kZ:=af j6;clear hy j6 hb hdr hc wj Dj Dz;obtain⟨aG,aF,rfl⟩:=nQ HO;go_wp2_with fail;refine u9.mono ?_;rintro e w1 ⟨rfl,rfl⟩;by_cases h0:dU=0
     ·subst h0
      obtain rfl:y=.error (3,(p:Int)):=(anz kZ).symm;clear kZ;go_wp2;go_ret2;exact⟨_,rfl,aw.new _ _ _,az.alloc _⟩
     have acM:¬(dU:Int)=0:=(by omega);by_cases nd:acc.length=1500
     ·have Cc:=kZ.out
      rw[if_neg h0,if_pos nd]at Cc;obtain rfl:y=.error (4,(p:Int)):=(anz Cc).symm;have alu:(acc.length:Int)=1500:=(by omega);clear kZ Cc nd h0;go_wp2;go_ret2;exact⟨_,rfl,aw.new _ _ _,az.alloc _⟩
     have Cc:=kZ.out;rw[if_neg h0,if_neg nd]at Cc;have kZ:=af Cc;have ame:¬(acc.length:Int)=1500:=(by omega);have YN:=af nd;have Yv:=af h0;clear Cc h0 nd;go_wp2_with (at_builtin;refine wpList_append_own_at _ rfl _ _ 72 rfl W.heap.size 79 i0 _ 3 32 underlying72 aI.1 aI.2.1 aI.2.2.1 aI.2.2.2 rfl (by decide) (.slice aG acc.length aF) acc.length (rD acc) rfl (HO.alloc _) ⟨wr.heap.size,0,none⟩ 1 1 [kk,.string ⟨((c::s.drop (p+1)).take dU).toArray⟩,p] rfl rfl (Xq _ _ _ _ _) (Xr _ _ _) (by have:=aT.out;unfold maxLen;omega) (by have:=aT.out;omega) (by have:=az.size;simp;omega) ?_;intro v' aJ hown cr hnil hloc;have b6:=af hown;have bZ:Hid ((wr.alloc (.cells #[kk,.string ⟨((c::s.drop (p+1)).take dU).toArray⟩,p] 79)).grownBy aJ (Value.slice aG acc.length aF).ownBlock):=af cr;clear hown cr hnil hloc;refine Hid.out ?_);refine af ?_;obtain⟨bg,br,rfl⟩:=nQ b6;go_wp2_with fail;have hdd:(c::s.drop (p+1)).drop dU=s.drop (p+dU):=(by rw[<-X_.out,aoE]);have Al:=kZ.out;rw[hdd]at Al;have ami:0<dU:=(by have:=Yv.out;omega);have aet:(⟨kk,(c::s.drop (p+1)).take dU,p⟩:Tok).text.length<=10000000/\(kk=2->(c::s.drop (p+1)).take dU≠[]/\((c::s.drop (p+1)).take dU).all ik=true):=by
       refine⟨?_,lA⟩;simp only[anP];omega
     have Jp:aJ.ownsRow W.heap.size 79 3 (.slice bg (acc.length+1) br) (acc++[(⟨kk,(c::s.drop (p+1)).take dU,p⟩:Tok)]).length (rD (acc++[(⟨kk,(c::s.drop (p+1)).take dU,p⟩:Tok)])):=by
       rw[PK];simpa [str] using b6.out
     have bM:ag ai W aJ:=(az.alloc _).trans' (ag.of_grownBy bZ (S:=fun k=>(Value.slice aG acc.length aF).ownBlock=some k) (fun k hk _=>hk)) (fun k hk hw=>by have:=(HO.lt k hk).1;omega);have BZ:acc.length+1<=1500:=(by have:=aT.out;have:=YN.out;omega);cases hz:kS f1 (s.drop (p+dU)) (p+dU) (acc.length+1) with
     | none=>rw[hz]at Al;cases Al
     | some z =>
       rw[hz]at Al;have aeI:J4 acc y=J4 (acc++[(⟨kk,(c::s.drop (p+1)).take dU,p⟩:Tok)]) z:=by
          cases z with
          | error e=>cases Al;rfl
          | ok t =>
            cases Al;simp only[J4,aoj,aoq,aom]
       refine⟨⟨p+dU,acc++[(⟨kk,(c::s.drop (p+1)).take dU,p⟩:Tok)],f1,z,by go_num,by omega,by simpa using hz,aeI,Jp,bM,HD.append aet,by simpa using BZ⟩,?_⟩;simp only[intOf];omega
  ·obtain rfl:p=s.length:=by omega
   have cA:¬(s.length:Int)<(s.length:Int):=(by omega);rw[anZ]at hy;simp only[kS]at hy;obtain rfl:=(anz hy).symm;clear hy;obtain⟨aG,aF,rfl⟩:=nQ HO;go_wp2_with (at_builtin;refine wpList_append_own_at _ rfl _ _ 72 rfl W.heap.size 79 i0 _ 3 32 underlying72 aI.1 aI.2.1 aI.2.2.1 aI.2.2.2 rfl (by decide) (.slice aG acc.length aF) acc.length (rD acc) rfl (HO.alloc _) ⟨wr.heap.size,0,none⟩ 1 1 [.int .i64 4,.string ⟨#[]⟩,.int .i64 (s.length:Int)] rfl rfl (Xq _ _ _ _ _) (Xr _ _ _) (by have:=aT.out;unfold maxLen;omega) (by have:=aT.out;omega) (by have:=az.size;simp;omega) ?_;intro v' aJ hown cr hnil hloc;have b6:=af hown;have bZ:Hid ((wr.alloc (.cells #[.int .i64 4,.string ⟨#[]⟩,.int .i64 (s.length:Int)] 79)).grownBy aJ (Value.slice aG acc.length aF).ownBlock):=af cr;clear hown cr hnil hloc;refine Hid.out ?_);refine af ?_;obtain⟨g,br,rfl⟩:∃g br,v'=.slice (some ⟨g,0,none⟩) (acc.length+1) br:=by
        rcases Go.Joins.ownsRow_form b6 (by omega) with⟨g,cap,hv⟩
        exact⟨g,cap,hv⟩
   go_wp2;go_ret2;have bM:ag ai W aJ:=(az.alloc _).trans' (ag.of_grownBy bZ (S:=fun k=>(Value.slice aG acc.length aF).ownBlock=some k) (fun k hk _=>hk)) (fun k hk hw=>by have:=(HO.lt k hk).1;omega);have hrow:=b6.out;have hlt:=(hrow.lt g rfl).2;have ady:=hrow.cells (g:=g) rfl;have UQ:rD (acc++[(⟨4,[],s.length⟩:Tok)])=rD acc++[.int .i64 4,.string ⟨#[]⟩,.int .i64 (s.length:Int)]:=PK _ _;have iD:acc.length+1<=br/\br<=9223372036854775807:=by
        rcases hrow.2 with⟨hv,_⟩|⟨g2,aaC,ak9,hv,_,_,h3,h4,_⟩
        ·cases hv
        ·cases hv;exact⟨h3,by unfold maxLen at h4;omega⟩
   refine⟨g,br,by simp,by simp;omega,iD.2,by have:=aT.out;simp;omega,hlt,?_,⟨s.length,by simp⟩,HD.append ⟨by simp,fun h=>by simp at h⟩,bM⟩;intro i t ht;have h3:=Xp _ i t ht;rw[UQ]at h3;have key:∀j u,(rD acc++[.int .i64 4,.string ⟨#[]⟩,.int .i64 (s.length:Int)])[j]?=some u->aJ.cell? ⟨g,j,none⟩=some u:=by
        intro j u hj;have:=ady j u hj;cases j with
        | zero=>exact this
        | succ j=>simpa [Addr.add] using this
   rw[an9];exact⟨key _ _ h3.1,key _ _ h3.2.1,key _ _ h3.2.2⟩
end aB
namespace bB
open Go.Proofs.Tryz
theorem G4 {P:Program} {ops:Array Oper} {o:Oper} {a:Act} {w:World} {K:Act->World->Prop} {Q:Exit->Act->World->Prop} {E:Prop} (hgd:o.guard=none) (s x:Operand) (t:TypeId)
 (ho:o.op=.call { callee:=.builtin .append,args:=#[s,x],argTypes:=#[t,t] })
 (base:Nat) (e:TypeId) (i:TypeInfo) (z:Value) (size bytes:Nat) (ht:P.underlying t=some (.slice e)) (hi:P.info? e=some i) (hz:i.zero=some z)
 (hsize:i.size=size) (hby:i.bytes=bytes) (hzs:z.cells.size=size) (hsz:0<size)
 (v:Value) (n:Nat) (xs:List Value) (hs:a.eval s=v) (hown:w.ownsRow base e size v n xs)
 (ad:Addr) (m c:Nat) (news:List Value) (hx:a.eval x=.slice (some ad) m c) (hl:news.length=m*size) (hnews:∀j u,news[j]?=some u->w.cell? (ad.add j)=some u) (h1:∀u∈news,u.oneCell'=true)
 (h63:n+m<=maxLen) (hbytes:(n+m)*bytes<=140737488355328) (hbase:base<=w.heap.size)
 (h:∀v' w',w'.ownsRow base e size v' (n+m) (xs++news)->w.grownBy w' v.ownBlock->(v'.ownBlock=v.ownBlock\/v'.ownBlock=some w.heap.size)->K (a.put o.dst v') w') :
 if Region.wanted o (yielded ops a.tmps)=true then Oper.wp P o a w K Q else E:=by
 have hw:Region.wanted o (yielded ops a.tmps)=true:=by simp[Region.wanted,hgd]
 rw[if_pos hw];obtain⟨v',w',hr,h2,h3,_,h5⟩:=run_append_own_at (P:=P) w base t o.type e i z size bytes ht hi hz hsize hby hzs hsz v n xs hown ad m c news hl hnews h1 h63 hbytes hbase;unfold Oper.wp execOp;simp only[ho,resolve,invoke,builtin,Sem.run_bind,Sem.run_pure,Result.andThen_ok,List.map_toArray,aow,List.map_nil,hs,hx,hr];exact h v' w' h2 h3 h5

/- A part of what stands behind. -/
import Derived.Below
import Derived.Deep.Draws
import Derived.ChangeSame
import Derived.Carry
import Derived.Lib.Hide
import Derived.Test.YtnicpmoanjddbaaGreatDoorRows
import Derived.ProofKit
import Derived.WideShapes
import Derived.OpenShut
import Derived.ChangeSlices
import Derived.WideKeyArgs
import Derived.WalkKit
import Derived.Lib.ParseIntBTie
import Derived.Lib.ItoaNum
import Derived.Lib.Join
set_option maxRecDepth 100000
set_option maxHeartbeats 4000000
set_option linter.all false
namespace Go.Proofs.YtnicpmoanjddbaaGreatDoor
namespace bB
open Go.RowKit Go.WideShapes Go.ChangeShapes Go.Proofs.Tryz
variable {W a w b W' c:World} {g k:Nat} {t:TypeId} {S T:Nat->Prop} {a0 a1 a2 a3 a4 a5 v qP Bl Bn a9:Value} {r cs:List Value} {p:Addr} {α:Type} {o:Obj}
theorem af {p:Prop} (h:p):Hid p:=h
theorem aq (a:α):∃x,x=a:=⟨a,rfl⟩
theorem ae (a:α):∃x,a=x:=⟨a,rfl⟩
def anw:=@And.intro
def anx:=@List.getElem?_eq_getElem
def anz:=@Option.some.inj
def anA:=@List.getElem?_eq_some_iff
def anB:=@List.prefix_refl
def anC:=@Nat.zero_le
def anD:=@Nat.le_refl
def anE:=@Nat.lt_of_lt_of_le
def anF:=@List.mem_of_getElem?
def anG:=@Option.some.injEq
def anH:=@List.getElem?_append_right
def anI:=@List.getElem?_append_left
def anJ:=@List.eq_nil_of_length_eq_zero
def anK:=@List.length_cons
def anL:=@List.drop_eq_getElem_cons
def anM:=@List.getD_eq_getElem?_getD
def anN:=@List.take_of_length_le
def anO:=@List.getElem?_cons_zero
def anP:=@List.length_take
def anQ:=@List.mem_append
def anR:=@List.length_map
def anS:=@List.mem_singleton
def anT:=@List.take_succ_eq_append_getElem
def anU:=@List.length_append
def anV:=@List.getElem?_map
def anW:=@List.mem_cons
def anX:=@Bool.and_eq_true
def anY:=@List.length_nil
def anZ:=@List.drop_length
def an0:=@List.length_singleton
def an1:=@List.not_mem_nil
def an4:=@List.take_succ_cons
def an5:=@Nat.lt_irrefl
def an6:=@Nat.le_succ
def an7:=@Option.map_eq_some_iff
def an8:=@Prod.mk.injEq
def an9:=@Nat.zero_add
def aoa:=@List.find?_cons
def aob:=@List.take_length
def aoc:=@List.mem_of_find?_eq_some
def aod:=@List.take_add_one
def aoe:=@List.getElem?_set_ne
def aof:=@List.getElem_mem
def aog:=@Nat.sub_self
def aoh:=@Int.eq_ofNat_of_zero_le
def aoi:=@List.length_tail
def aoj:=@List.append_assoc
def aok:=@List.getElem?_set_self
def aol:=@Nat.le_trans
def aom:=@List.nil_append
def aon:=@List.getElem?_take_of_lt
def aoo:=@List.nodup_append
def aop:=@List.getElem_cons_zero
def aoq:=@List.cons_append
def aor:=@List.getElem?_drop
def aos:=@List.pairwise_iff_getElem
def aot:=@List.map_append
def aou:=@Nat.add_zero
def aov:=@Nat.lt_or_ge
def aow:=@List.map_cons
def aox:=@List.mem_cons_self
def aoy:=@Int.toNat_natCast
def aoz:=@List.size_toArray
def aoA:=@List.mem_cons_of_mem
def aoB:=@Bool.not_eq_true
def aoC:=@List.all_eq_true
def aoD:=@List.findIdx?_eq_some_iff_getElem
def aoE:=@List.drop_drop
def aoF:=@Option.map_eq_none_iff
def aoG:=@List.getElem?_eq_none
def aoH:=@List.mem_iff_getElem?
def aoI:=@Nat.add_assoc
def aoJ:=@List.find?_some
def aoK:=@List.length_set
def aoL:=@Nat.min_eq_left
def aoM:=@List.getElem?_range
def aoN:=@List.takeWhile_cons
def aoO:=@List.mem_map
def aoP:=@Bool.false_eq_true
def aoQ:=@List.findIdx?_cons
def aoR:=@Option.isSome_iff_exists
def aoS:=@List.any_eq_true
def aoT:=@List.getElem?_replicate
def aoU:=@Option.getD_some
def aoV:=@Nat.le_of_lt
def aoW:=@List.append_nil
instance:Coe Int Value:=⟨fun n=>.int .i64 n⟩
instance:Coe Nat Value:=⟨fun n=>.int .i64 n⟩
structure ag (S:Nat->Prop) (w w':World):Prop where
 os:w'.os=w.os
 output:w'.output=w.output
 size:w.heap.size<=w'.heap.size
 block:∀k,k<w.heap.size->¬S k->w'.heap[k]?=w.heap[k]?
theorem ag.refl (S:Nat->Prop) (w:World):ag S w w:=⟨rfl,rfl,anD _,fun _ _ _=>rfl⟩
theorem ay:ag S w w:=ag.refl S w
theorem ag.trans (h:ag S a b) (k:ag S b c):ag S a c :=
 ⟨k.os.trans h.os,k.output.trans h.output,aol h.size k.size,fun i hi hn=>(k.block i (anE hi h.size) hn).trans (h.block i hi hn)⟩
theorem ag.trans' (h:ag S a b) (k:ag T b c) (hT:∀i,T i->i<a.heap.size->S i):ag S a c :=
 ⟨k.os.trans h.os,k.output.trans h.output,aol h.size k.size,fun i hi hn=>(k.block i (anE hi h.size) (fun t=>hn (hT i t hi))).trans (h.block i hi hn)⟩
theorem ag.mono (h:ag S a b) (hT:∀i,i<a.heap.size->S i->T i):ag T a b :=
 ⟨h.os,h.output,h.size,fun i hi hn=>h.block i hi (fun s=>hn (hT i hi s))⟩
theorem ag.alloc (h:ag S a w) (o:Obj):ag S a (w.alloc o) :=
 ⟨h.os,h.output,aol h.size (by simp),fun i hi hn=>(Below.heap_alloc w o i (anE hi h.size)).trans (h.block i hi hn)⟩
theorem ag.setCell (h:ag S a w) (hp:p.block<a.heap.size->S p.block) (u:Value):ag S a (w.setCell p u) :=
 ⟨h.os,h.output,by simpa [World.setCell] using h.size,fun i hi hn=>(Below.heap_setCell w p u i (by rintro rfl;exact hn (hp hi))).trans (h.block i hi hn)⟩
theorem ag.drew (h:ag S a w):ag S a w.drew:=⟨h.os,h.output,h.size,h.block⟩
theorem ag.drewN (h:ag S a w) (n:Nat):ag S a (w.drewN n):=⟨h.os,h.output,h.size,h.block⟩
theorem ag.Kc (h:Below a.heap.size a w):ag S a w:=⟨h.os,h.output,h.size,fun i hi _=>h.block i hi⟩
theorem ag.of_grownBy {row:Option Nat} (h:a.grownBy w row) (hr:∀k,row=some k->k<a.heap.size->S k):ag S a w :=
 ⟨h.os,h.output,h.size,fun i hi hn=>h.block i hi (fun e=>hn (hr i e.symm hi))⟩
theorem ag.cell (h:ag S a w) (hp:p.block<a.heap.size) (hn:¬S p.block):w.cell? p=a.cell? p:=World.cell?_of_block (h.block p.block hp hn)
theorem ag.frozen (h:ag S a w) (hp:p.block<a.heap.size) (hn:¬S p.block):w.frozen? p=a.frozen? p:=World.frozen?_of_block (h.block p.block hp hn)
theorem ag.cellOf (h:ag S a w) (hc:a.cell? p=some v) (hn:¬S p.block):w.cell? p=some v :=
 (h.cell (World.block_lt_of_cell? a p hc) hn).trans hc
theorem lt_of_block (h:w.heap[k]?=some o):k<w.heap.size:=by
 rcases aov k w.heap.size with h1|h1
 ·exact h1
 ·rw[Array.getElem?_eq_none_iff.2 h1]at h;cases h
theorem ag.Bu (h:ag S a w) (hc:a.heap[k]?=some o) (hn:¬S k):w.heap[k]?=some o :=
 (h.block k (lt_of_block hc) hn).trans hc
def aw (W:World) (g:Nat) (cs:List Value) (t:TypeId):Prop:=W.heap[g]?=some (.cells cs.toArray t (0,0))
theorem aw.cell (h:aw W g cs t) {i:Nat} (hi:cs[i]?=some v):W.cell? ⟨g,i,none⟩=some v:=by
 unfold aw at h;simp[World.cell?,h,hi]
theorem aw.ah (h:aw W g cs t) (i:Nat) (hi:cs[i]?=some v:=by exact rfl):W.cell? ⟨g,i,none⟩=some v:=h.cell hi
theorem aw.free (h:aw W g cs t) (i:Nat):W.frozen? ⟨g,i,none⟩=false:=frozen_of_row W g i _ t h
theorem aw.gF (h:aw W g (a0::a1::a2::r) t):W.cell? ⟨g,0,none⟩=some a0/\W.cell? ⟨g,1,none⟩=some a1/\W.cell? ⟨g,2,none⟩=some a2:=⟨h.cell rfl,h.cell rfl,h.cell rfl⟩
theorem aw.gG (h:aw W g (a0::a1::a2::a3::r) t):W.cell? ⟨g,0,none⟩=some a0/\W.cell? ⟨g,1,none⟩=some a1/\W.cell? ⟨g,2,none⟩=some a2/\W.cell? ⟨g,3,none⟩=some a3:=⟨h.cell rfl,h.cell rfl,h.cell rfl,h.cell rfl⟩
theorem aw.gH (h:aw W g (a0::a1::a2::a3::a4::r) t):W.cell? ⟨g,0,none⟩=some a0/\W.cell? ⟨g,1,none⟩=some a1/\W.cell? ⟨g,2,none⟩=some a2/\W.cell? ⟨g,3,none⟩=some a3/\W.cell? ⟨g,4,none⟩=some a4:=⟨h.cell rfl,h.cell rfl,h.cell rfl,h.cell rfl,h.cell rfl⟩
theorem aw.gI (h:aw W g (a0::a1::a2::a3::a4::a5::r) t):W.cell? ⟨g,0,none⟩=some a0/\W.cell? ⟨g,1,none⟩=some a1/\W.cell? ⟨g,2,none⟩=some a2/\W.cell? ⟨g,3,none⟩=some a3/\W.cell? ⟨g,4,none⟩=some a4/\W.cell? ⟨g,5,none⟩=some a5:=⟨h.cell rfl,h.cell rfl,h.cell rfl,h.cell rfl,h.cell rfl,h.cell rfl⟩
theorem aw.gJ (h:aw W g (a0::a1::a2::a3::a4::a5::qP::r) t):W.cell? ⟨g,0,none⟩=some a0/\W.cell? ⟨g,1,none⟩=some a1/\W.cell? ⟨g,2,none⟩=some a2/\W.cell? ⟨g,3,none⟩=some a3/\W.cell? ⟨g,4,none⟩=some a4/\W.cell? ⟨g,5,none⟩=some a5/\W.cell? ⟨g,6,none⟩=some qP:=⟨h.cell rfl,h.cell rfl,h.cell rfl,h.cell rfl,h.cell rfl,h.cell rfl,h.cell rfl⟩
theorem aw.gD (h:aw W g (a0::a1::a2::a3::a4::a5::qP::Bl::Bn::a9::r) t):W.cell? ⟨g,0,none⟩=some a0/\W.cell? ⟨g,1,none⟩=some a1/\W.cell? ⟨g,2,none⟩=some a2/\W.cell? ⟨g,3,none⟩=some a3/\W.cell? ⟨g,4,none⟩=some a4/\W.cell? ⟨g,5,none⟩=some a5/\W.cell? ⟨g,6,none⟩=some qP/\W.cell? ⟨g,7,none⟩=some Bl/\W.cell? ⟨g,8,none⟩=some Bn/\W.cell? ⟨g,9,none⟩=some a9:=⟨h.cell rfl,h.cell rfl,h.cell rfl,h.cell rfl,h.cell rfl,h.cell rfl,h.cell rfl,h.cell rfl,h.cell rfl,h.cell rfl⟩
theorem aw.gL (h:aw W g (a0::a1::r) t):W.cell? ⟨g,0,none⟩=some a0/\W.frozen? ⟨g,0,none⟩=false/\W.cell? ⟨g,1,none⟩=some a1/\W.frozen? ⟨g,1,none⟩=false:=⟨h.cell rfl,h.free 0,h.cell rfl,h.free 1⟩
theorem aw.gM (h:aw W g (a0::a1::a2::r) t):W.cell? ⟨g,0,none⟩=some a0/\W.frozen? ⟨g,0,none⟩=false/\W.cell? ⟨g,1,none⟩=some a1/\W.frozen? ⟨g,1,none⟩=false/\W.cell? ⟨g,2,none⟩=some a2/\W.frozen? ⟨g,2,none⟩=false:=⟨h.cell rfl,h.free 0,h.cell rfl,h.free 1,h.cell rfl,h.free 2⟩
theorem aw.gN (h:aw W g (a0::a1::a2::a3::r) t):W.cell? ⟨g,0,none⟩=some a0/\W.frozen? ⟨g,0,none⟩=false/\W.cell? ⟨g,1,none⟩=some a1/\W.frozen? ⟨g,1,none⟩=false/\W.cell? ⟨g,2,none⟩=some a2/\W.frozen? ⟨g,2,none⟩=false/\W.cell? ⟨g,3,none⟩=some a3/\W.frozen? ⟨g,3,none⟩=false:=⟨h.cell rfl,h.free 0,h.cell rfl,h.free 1,h.cell rfl,h.free 2,h.cell rfl,h.free 3⟩
theorem aw.gO (h:aw W g (a0::a1::a2::a3::a4::r) t):W.cell? ⟨g,0,none⟩=some a0/\W.frozen? ⟨g,0,none⟩=false/\W.cell? ⟨g,1,none⟩=some a1/\W.frozen? ⟨g,1,none⟩=false/\W.cell? ⟨g,2,none⟩=some a2/\W.frozen? ⟨g,2,none⟩=false/\W.cell? ⟨g,3,none⟩=some a3/\W.frozen? ⟨g,3,none⟩=false/\W.cell? ⟨g,4,none⟩=some a4/\W.frozen? ⟨g,4,none⟩=false:=⟨h.cell rfl,h.free 0,h.cell rfl,h.free 1,h.cell rfl,h.free 2,h.cell rfl,h.free 3,h.cell rfl,h.free 4⟩
theorem aw.gP (h:aw W g (a0::a1::a2::a3::a4::a5::r) t):W.cell? ⟨g,0,none⟩=some a0/\W.frozen? ⟨g,0,none⟩=false/\W.cell? ⟨g,1,none⟩=some a1/\W.frozen? ⟨g,1,none⟩=false/\W.cell? ⟨g,2,none⟩=some a2/\W.frozen? ⟨g,2,none⟩=false/\W.cell? ⟨g,3,none⟩=some a3/\W.frozen? ⟨g,3,none⟩=false/\W.cell? ⟨g,4,none⟩=some a4/\W.frozen? ⟨g,4,none⟩=false/\W.cell? ⟨g,5,none⟩=some a5/\W.frozen? ⟨g,5,none⟩=false:=⟨h.cell rfl,h.free 0,h.cell rfl,h.free 1,h.cell rfl,h.free 2,h.cell rfl,h.free 3,h.cell rfl,h.free 4,h.cell rfl,h.free 5⟩
theorem aw.gQ (h:aw W g (a0::a1::a2::a3::a4::a5::qP::r) t):W.cell? ⟨g,0,none⟩=some a0/\W.frozen? ⟨g,0,none⟩=false/\W.cell? ⟨g,1,none⟩=some a1/\W.frozen? ⟨g,1,none⟩=false/\W.cell? ⟨g,2,none⟩=some a2/\W.frozen? ⟨g,2,none⟩=false/\W.cell? ⟨g,3,none⟩=some a3/\W.frozen? ⟨g,3,none⟩=false/\W.cell? ⟨g,4,none⟩=some a4/\W.frozen? ⟨g,4,none⟩=false/\W.cell? ⟨g,5,none⟩=some a5/\W.frozen? ⟨g,5,none⟩=false/\W.cell? ⟨g,6,none⟩=some qP/\W.frozen? ⟨g,6,none⟩=false:=⟨h.cell rfl,h.free 0,h.cell rfl,h.free 1,h.cell rfl,h.free 2,h.cell rfl,h.free 3,h.cell rfl,h.free 4,h.cell rfl,h.free 5,h.cell rfl,h.free 6⟩
theorem aw.gK (h:aw W g (a0::a1::a2::a3::a4::a5::qP::Bl::Bn::a9::r) t):W.cell? ⟨g,0,none⟩=some a0/\W.frozen? ⟨g,0,none⟩=false/\W.cell? ⟨g,1,none⟩=some a1/\W.frozen? ⟨g,1,none⟩=false/\W.cell? ⟨g,2,none⟩=some a2/\W.frozen? ⟨g,2,none⟩=false/\W.cell? ⟨g,3,none⟩=some a3/\W.frozen? ⟨g,3,none⟩=false/\W.cell? ⟨g,4,none⟩=some a4/\W.frozen? ⟨g,4,none⟩=false/\W.cell? ⟨g,5,none⟩=some a5/\W.frozen? ⟨g,5,none⟩=false/\W.cell? ⟨g,6,none⟩=some qP/\W.frozen? ⟨g,6,none⟩=false/\W.cell? ⟨g,7,none⟩=some Bl/\W.frozen? ⟨g,7,none⟩=false/\W.cell? ⟨g,8,none⟩=some Bn/\W.frozen? ⟨g,8,none⟩=false/\W.cell? ⟨g,9,none⟩=some a9/\W.frozen? ⟨g,9,none⟩=false:=⟨h.cell rfl,h.free 0,h.cell rfl,h.free 1,h.cell rfl,h.free 2,h.cell rfl,h.free 3,h.cell rfl,h.free 4,h.cell rfl,h.free 5,h.cell rfl,h.free 6,h.cell rfl,h.free 7,h.cell rfl,h.free 8,h.cell rfl,h.free 9⟩
theorem aw.lt (h:aw W g cs t):g<W.heap.size:=lt_of_block h
theorem aw.set (h:aw W g cs t) (i:Nat) (v:Value):aw (W.setCell ⟨g,i,none⟩ v) g (cs.set i v) t:=by
 have:=heap_setCell_same W g i _ t v h;unfold aw;rw[this];simp
theorem aw.other (h:aw W g cs t) {a:Addr} (ha:g≠a.block) (v:Value):aw (W.setCell a v) g cs t :=
 (heap_setCell_other W a g v ha).trans h
theorem aw.alloc (h:aw W g cs t) (o:Obj):aw (W.alloc o) g cs t :=
 (Below.heap_alloc W o g h.lt).trans h
theorem aw.new (W:World) (cs:Array Value) (t:TypeId):aw (W.alloc (.cells cs t)) W.heap.size cs.toList t:=heap_alloc_new W _
theorem aw.drew (h:aw W g cs t):aw W.drew g cs t:=h
theorem aw.mods (h:ag S a w) (hb:aw a g cs t) (hn:¬S g):aw w g cs t:=h.Bu hb hn
def ai:Nat->Prop:=fun _=>False
theorem ag.frame (h:ag ai W W') (may:MemPlace->Prop):W.keptBut W' may:=by
 refine⟨h.os,h.output,fun i hi=>?_⟩;rw[h.block i hi id];split <;> simp_all
theorem ag.same (h:ag ai W W') {p:MemPlace} (hp:p.block<W.heap.size):W.sameAt W' p:=by
 cases p with
 | cell b o=>exact World.cell?_of_block (w:=W) (h.block b hp id)
 | map b=>exact h.block b hp id
theorem ag.ownsRow (h:ag S a w) {base:Nat} {e:TypeId} {size:Nat} {n:Nat} {xs:List Value} (ho:a.ownsRow base e size v n xs) (hn:∀k,v.ownBlock=some k->¬S k):w.ownsRow base e size v n xs:=by
 obtain⟨h1,h2⟩:=ho;refine⟨h1,?_⟩;rcases h2 with h2|⟨g,cap,cur,hv,hg,hh,r⟩
 ·exact .inl h2
 ·exact .inr ⟨g,cap,cur,hv,hg,h.Bu hh (hn g (by rw[hv];rfl)),r⟩
section
variable {H:Type} {enc:TypeId×Value->H} {P:Program}
theorem ahz {f:Func} {s:ChangeSpec} {apart fresh handsOn again:Bool} {args:Array Value} {ds gs:List (DataW H)} {before pa pv:List MemPlace}
 (hW:DataW.Whole enc P f.params.toList s.vars apart W args.toList ds gs before)
 (hres:∀ (b:Nat) (sp:Nat->Bool) (hd:Bool),DataW.TrodAll enc P W' b sp hd f.resultTypes.toList (v.resultList f.resultTypes.size) (s.fn H (ds++gs)).results [])
 (cC:∀sp:Nat->Bool,(∀p∈before,sp p.block=true)->DataW.TrodAll enc P W' 0 sp true f.params.toList args.toList (s.fn H (ds++gs)).args pa)
 (UZ:∀sp:Nat->Bool,(∀p∈before,sp p.block=true)->DataW.TrodVars enc P W' sp s.vars (s.fn H (ds++gs)).vars pv)
 (vZ:before=pa++pv) (hb:ag ai W W')
 (aZ:∀ (j:Nat) (t:TypeId) (r:Value),f.resultTypes[j]?=some t->(v.resultList f.resultTypes.size)[j]?=some r->Value.okWide P W' .any 0 t r) :
 s.post enc P f apart fresh handsOn again W args v W':=by
 have hlt:∀p∈before,p.block<W.heap.size:=fun p hp=>hW.lt p hp
 have hold:∀p∈before,(fun b=>decide (b<W.heap.size)) p.block=true:=fun p hp=>by simpa using hlt p hp
 refine⟨ds,gs,before,[],pa,pv,hW,hres _ _ _,cC _ hold,UZ _ hold,World.keptBut_mono (fun p hp=>⟨hp,?_⟩) (hb.frame (·∈before)),fun _=>?_⟩
 ·rw[vZ,anQ]at hp
  exact Or.inr hp
 ·obtain⟨_,_,_,_,_,hz,hn⟩:=hW
  refine⟨aZ,_,_,([]++pa)++pv,⟨[]++pa,pv,trodAll_append (cC _ (fun _ _=>rfl)) (hres _ _ _),UZ _ (fun _ _=>rfl),rfl,?_,?_⟩,?_⟩
  ·intro b off hp
   have ki:MemPlace.cell b off∈before:=(by rw[vZ];simpa using hp);rw[hb.frozen (hlt _ ki) id];exact hz b off ki
  ·intro ha
   have:=hn ha;rw[vZ]at this;simpa using this
  ·intro p hp _
   rw[vZ];simpa using hp
end
end bB
namespace bB
open Go.ChangeShapes Go.WideShapes Go.RowKit Go.Proofs.Tryz
variable {W:World} {v:Value}
def LM (W:World) (v:Value) (l:List Int):Prop :=
 ∃a n c,v=.slice a n c/\n=l.length/\n<=c/\c<=maxLen/\(a=none->c=0)/\(∀x∈l,-9223372036854775808<=x/\x<=9223372036854775807)/\(∀i x,l[i]?=some x->∃g o,a=some ⟨g,o,none⟩/\W.cell? ⟨g,o+i,none⟩=some (.int .i64 x))
theorem ZP {a:Addr} (h:W.cell? a=some v):a=⟨a.block,a.off,none⟩:=by
 unfold World.cell? at h;split at h
 ·split at h
  ·cases h
  ·rename_i hs
   cases a with
   | mk b o s=>cases s with
     | none=>rfl
     | some _=>simp at hs
 ·cases h
theorem add_plain (b o i:Nat):(⟨b,o,none⟩:Addr).add i=⟨b,o+i,none⟩:=by unfold Addr.add;split <;> simp_all
theorem wf_i64 {a:Int} (h:(Lit.int .i64 a).wf=true):-9223372036854775808<=a/\a<=9223372036854775807:=by
 simp only[Lit.wf,IntKind.min,IntKind.max,IntKind.signed,IntKind.bits,anX,decide_eq_true_eq,if_true]at h;omega
theorem ag2 {H:Type} {enc:TypeId×Value->H} {P:Program} {t e:TypeId} {d:DataW H} {p:List MemPlace} {r:Reach} {b0:Nat} (ht:P.underlying t=some (.slice e)) (he:P.underlying e=some (.int .i64)) (hc:P.cellsOf e=1)
 (hv:Value.okWide P W r b0 t v) (h:DataW.Trod enc P W 0 (fun _=>true) true t v d p):∃l,LM W v l:=by
 obtain⟨a0,n0,c0,rfl⟩:=okWide_slice ht hv;obtain⟨fuel,hf⟩:=h;rcases open_ints ht he hc hf with⟨hcs,hx⟩|⟨a,len,cap,zs,hcs,_,hl,hm,hz,hx,hcell,aeE⟩
 ·simp[Value.cells]at hcs
  obtain⟨rfl,rfl,rfl⟩:=hcs;exact⟨[],none,0,0,rfl,rfl,anD _,by decide,fun _=>rfl,fun x hx=>by simp at hx,fun i x hx=>by simp at hx⟩
 ·simp[Value.cells]at hcs
  obtain⟨rfl,rfl,rfl⟩:=hcs;simp only[if_true]at hz;refine⟨zs.take n0,some a,n0,c0,rfl,by rw[anP];omega,hl,hm,(fun h=>(by cases h)),fun x hx=>wf_i64 (aeE x (List.mem_of_mem_take hx)),fun i x hx=>?_⟩;have hi:i<n0:=by
   have:=(anA.1 hx).1;rw[anP]at this;omega
  rw[aon hi]at hx;have h0:=ZP (hcell 0 (by omega));have e0:a.add 0=a:=by unfold Addr.add;simp
  rw[e0]at h0;have Ds:=hcell i (by omega);rw[h0,add_plain]at Ds;refine⟨a.block,a.off,by rw[<-h0],?_⟩;rw[Ds,anM,hx];rfl
theorem afr:laidOutB prog=true:=by kernel_rfl
end bB
namespace aB
open Go.RowKit Go.Proofs.Tryz
structure Tok where
 kind:Int
 text:List UInt8
 at_:Int
 deriving DecidableEq
def mI (c:UInt8):Bool:=(decide (97<=c.toNat) && decide (c.toNat<=122)) || c.toNat==95
def ik (c:UInt8):Bool:=decide (48<=c.toNat) && decide (c.toNat<=57)
def kz:List (List UInt8):=[[38,38],[124,124],[61,61],[33,61],[60,61],[62,61],[60],[62],[61],[43],[45],[42],[47],[37],[33],[40],[41],[123],[125],[91],[93],[44],[59],[58]]
def kA (l:List UInt8):Int×Nat :=
 match l with
 | []=>(3,0)
 | c::_ =>
   if mI c then (1,(l.takeWhile fun x=>mI x || ik x).length)
   else if ik c then (2,(l.takeWhile ik).length)
   else match kz.find? (fun m=>m.isPrefixOf l) with
    | some m=>(3,m.length)
    | none=>(3,0)
def Ic (c:UInt8):Bool:=c.toNat==32 || c.toNat==9 || c.toNat==10
def kS:Nat->List UInt8->Nat->Nat->Option (Except (Int×Int) (List Tok))
 | 0,_,_,_=>none
 | f+1,l,p,n =>
   match l with
   | []=>some (.ok [⟨4,[],p⟩])
   | c::r =>
     if Ic c then kS f r (p+1) n
     else if c.toNat==35 then
      kS f (l.dropWhile fun x=>x.toNat != 10) (p+(l.takeWhile fun x=>x.toNat != 10).length) n
     else
      let k:=kA l
      if k.2=0 then some (.error (3,p))
      else if n=1500 then some (.error (4,p))
      else match kS f (l.drop k.2) (p+k.2) (n+1) with
       | some (.ok t)=>some (.ok (⟨k.1,l.take k.2,p⟩::t))
       | x=>x
inductive aL where
 | num (at_ n:Int)
 | var (at_:Int) (s:List UInt8)
 | bin (at_:Int) (op:List UInt8) (l r:aL)
 | un (at_:Int) (op:List UInt8) (x:aL)
 | call (at_:Int) (f:List UInt8) (args:List aL)
 | new (at_:Int) (x:aL)
 | len (at_:Int) (x:aL)
 | item (at_:Int) (x i:aL)
 | input (at_:Int)
inductive St where
 | var (at_:Int) (s:List UInt8) (v:aL)
 | set (at_:Int) (s:List UInt8) (v:aL)
 | put (at_:Int) (s:List UInt8) (i v:aL)
 | cond (at_:Int) (v:aL) (t e:List St)
 | loop (at_:Int) (v:aL) (t:List St)
 | ret (at_:Int) (v:aL)
 | print (at_:Int) (v:aL)
 | call (at_:Int) (v:aL)
structure Fn where
 name:List UInt8
 at_:Int
 params:List (List UInt8×Int)
 body:List St
abbrev gm (α:Type):=Option (Except (Int×Int) (α×List Tok))
def oQ {α:Type} (e:Int) (ts:List Tok):gm α:=some (.error (e,(ts.head?.map (·.at_)).getD 0))
def fV {α:Type} (a:α) (ts:List Tok):gm α:=some (.ok (a,ts))
def andThen {α β:Type} (x:gm α) (f:α->List Tok->gm β):gm β :=
 match x with
 | some (.ok (a,ts))=>f a ts
 | some (.error e)=>some (.error e)
 | none=>none
def headKind (ts:List Tok):Int:=(ts.head?.map (·.kind)).getD 4
def headText (ts:List Tok):List UInt8:=(ts.head?.map (·.text)).getD []
def iu (ts:List Tok):Int:=(ts.head?.map (·.at_)).getD 0
def cR (s:List UInt8) (ts:List Tok):Bool:=headText ts==s && headKind ts != 4
def must (s:List UInt8) (ts:List Tok):gm Unit:=if cR s ts then fV () ts.tail else oQ 3 ts
def JU:List UInt8:=[102,110]
def OL:List UInt8:=[118,97,114]
def OE:List UInt8:=[105,102]
def OD:List UInt8:=[101,108,115,101]
def OM:List UInt8:=[119,104,105,108,101]
def OK:List UInt8:=[114,101,116,117,114,110]
def OJ:List UInt8:=[112,114,105,110,116]
def OI:List UInt8:=[110,101,119]
def OH:List UInt8:=[108,101,110]
def OG:List UInt8:=[105,110,112,117,116]
def Ck:List UInt8:=[105,110,116]
def Cj:List UInt8:=[97,114,114]
def Vg:List (List UInt8):=[JU,OL,OE,OD,OM,OK,OJ,OI,OH,OG,Ck,Cj]
def DW (s:List UInt8):Bool:=Vg.contains s
def nu (ts:List Tok):gm (List UInt8) :=
 if headKind ts != 1 || DW (headText ts) then oQ 3 ts
 else if 12<(headText ts).length then oQ 4 ts
 else fV (headText ts) ts.tail
def ky:List (List (List UInt8)):=[[[124,124]],[[38,38]],[[61,61],[33,61]],[[60],[60,61],[62],[62,61]],[[43],[45]],[[42],[47],[37]]]
def lf (level:Nat) (ts:List Tok):List UInt8:=((ky.getD level []).find? (fun m=>cR m ts)).getD []
def yU (l:List UInt8):Nat:=l.foldl (fun n c=>n*10+(c.toNat-48)) 0
mutual
def jU:Nat->Nat->Nat->List Tok->gm aL
 | 0,_,_,_=>none
 | f+1,level,deep,ts =>
   if level=6 then rG f deep ts
   else andThen (jU f (level+1) deep ts) fun x r=>s6 f level deep (iu ts) x r
def s6:Nat->Nat->Nat->Int->aL->List Tok->gm aL
 | 0,_,_,_,_,_=>none
 | f+1,level,deep,a,x,ts =>
   if lf level ts=[] then fV x ts
   else andThen (jU f (level+1) deep ts.tail) fun y r=>s6 f level deep a (.bin a (lf level ts) x y) r
def rG:Nat->Nat->List Tok->gm aL
 | 0,_,_=>none
 | f+1,deep,ts =>
   if 12<deep then oQ 4 ts
   else if cR [45] ts then andThen (rG f (deep+1) ts.tail) fun x r=>fV (.un (iu ts) [45] x) r
   else if cR [33] ts then andThen (rG f (deep+1) ts.tail) fun x r=>fV (.un (iu ts) [33] x) r
   else andThen (qT f deep ts) fun x r=>tC f deep (iu ts) x r
def tC:Nat->Nat->Int->aL->List Tok->gm aL
 | 0,_,_,_,_=>none
 | f+1,deep,a,x,ts =>
   if cR [91] ts then andThen (jU f 0 (deep+1) ts.tail) fun i r=>andThen (must [93] r) fun _ r2=>tC f deep a (.item a x i) r2
   else fV x ts
def p5:Nat->Nat->List Tok->gm aL
 | 0,_,_=>none
 | f+1,deep,ts=>andThen (must [40] ts) fun _ r=>andThen (jU f 0 (deep+1) r) fun x r2=>andThen (must [41] r2) fun _ r3=>fV x r3
def qT:Nat->Nat->List Tok->gm aL
 | 0,_,_=>none
 | f+1,deep,ts =>
   if headKind ts=2 then
    (if yU (headText ts)<9223372036854775808 then fV (.num (iu ts) (yU (headText ts))) ts.tail else oQ 4 ts)
   else if cR [40] ts then p5 f deep ts
   else if cR OI ts then andThen (p5 f deep ts.tail) fun x r=>fV (.new (iu ts) x) r
   else if cR OH ts then andThen (p5 f deep ts.tail) fun x r=>fV (.len (iu ts) x) r
   else if cR OG ts then andThen (must [40] ts.tail) fun _ r=>andThen (must [41] r) fun _ r2=>fV (.input (iu ts)) r2
   else andThen (nu ts) fun n r =>
    if cR [40] r then andThen (s5 f deep r) fun l r2=>fV (.call (iu ts) n l) r2
    else fV (.var (iu ts) n) r
def s5:Nat->Nat->List Tok->gm (List aL)
 | 0,_,_=>none
 | f+1,deep,ts=>andThen (must [40] ts) fun _ r=>rz f deep true [] r
def rz:Nat->Nat->Bool->List aL->List Tok->gm (List aL)
 | 0,_,_,_,_=>none
 | f+1,deep,first,l,ts =>
   if cR [41] ts then fV l ts.tail
   else andThen (if first then fV () ts else must [44] ts) fun _ r=>andThen (jU f 0 (deep+1) r) fun x r2=>rz f deep false (l++[x]) r2
end
mutual
def pk:Nat->Nat->List Tok->gm (List St)
 | 0,_,_=>none
 | f+1,deep,ts=>if 12<deep then oQ 4 ts else andThen (must [123] ts) fun _ r=>tN f deep [] r
def tN:Nat->Nat->List St->List Tok->gm (List St)
 | 0,_,_,_=>none
 | f+1,deep,l,ts=>if cR [125] ts then fV l ts.tail else andThen (uR f deep ts) fun s r=>tN f deep (l++[s]) r
def uR:Nat->Nat->List Tok->gm St
 | 0,_,_=>none
 | f+1,deep,ts =>
   if cR OE ts then
    andThen (p5 f 0 ts.tail) fun v r=>andThen (pk f (deep+1) r) fun t r2 =>
     if cR OD r2 then andThen (pk f (deep+1) r2.tail) fun e r3=>fV (.cond (iu ts) v t e) r3
     else fV (.cond (iu ts) v t []) r2
   else if cR OM ts then
    andThen (p5 f 0 ts.tail) fun v r=>andThen (pk f (deep+1) r) fun t r2=>fV (.loop (iu ts) v t) r2
   else if cR OL ts then
    andThen (nu ts.tail) fun n r=>andThen (must [61] r) fun _ r2=>andThen (jU f 0 0 r2) fun v r3=>andThen (must [59] r3) fun _ eY=>fV (.var (iu ts) n v) eY
   else if cR OK ts then
    andThen (jU f 0 0 ts.tail) fun v r=>andThen (must [59] r) fun _ r2=>fV (.ret (iu ts) v) r2
   else if cR OJ ts then
    andThen (jU f 0 0 ts.tail) fun v r=>andThen (must [59] r) fun _ r2=>fV (.print (iu ts) v) r2
   else andThen (uL f ts) fun s r=>andThen (must [59] r) fun _ r2=>fV s r2
def uL:Nat->List Tok->gm St
 | 0,_=>none
 | f+1,ts =>
   andThen (nu ts) fun n r =>
    if cR [40] r then andThen (s5 f 0 r) fun l r2=>fV (.call (iu ts) (.call (iu ts) n l)) r2
    else if cR [91] r then
     andThen (jU f 0 1 r.tail) fun i r2=>andThen (must [93] r2) fun _ r3=>andThen (must [61] r3) fun _ eY=>andThen (jU f 0 0 eY) fun v jK=>fV (.put (iu ts) n i v) jK
    else andThen (must [61] r) fun _ r2=>andThen (jU f 0 0 r2) fun v r3=>fV (.set (iu ts) n v) r3
end
def mK:Nat->Bool->List (List UInt8×Int)->List Tok->gm (List (List UInt8×Int))
 | 0,_,_,_=>none
 | f+1,first,l,ts =>
   if cR [41] ts then fV l ts.tail
   else andThen (if first then fV () ts else must [44] ts) fun _ r=>andThen (nu r) fun n r2=>andThen (must [58] r2) fun _ r3 =>
    if cR Cj r3 then mK f false (l++[(n,2)]) r3.tail
    else andThen (must Ck r3) fun _ eY=>mK f false (l++[(n,1)]) eY
def uu:Nat->List Tok->gm Fn
 | 0,_=>none
 | f+1,ts =>
   andThen (must JU ts) fun _ r=>andThen (nu r) fun n r2=>andThen (must [40] r2) fun _ r3=>andThen (mK f true [] r3) fun ps eY=>andThen (pk f 0 eY) fun b jK=>fV ⟨n,iu ts,ps,b⟩ jK
def uN:Nat->List Fn->List Tok->gm (List Fn)
 | 0,_,_=>none
 | f+1,l,ts =>
   if headKind ts=4 then fV l ts
   else if l.length=12 then oQ 4 ts
   else andThen (uu f ts) fun x r=>uN f (l++[x]) r
end aB
namespace aB
open Go.Proofs.Tryz
variable {ts r:List Tok} {s:List UInt8} {α:Type} {u:Unit}
theorem andThen_ok {β:Type} {x:gm α} {f:α->List Tok->gm β} {y:β×List Tok} (h:andThen x f=some (.ok y)):∃a ts,x=some (.ok (a,ts))/\f a ts=some (.ok y):=by
 unfold andThen at h;split at h
 ·exact⟨_,_,rfl,h⟩
 ·cases h
 ·cases h
theorem dN {a x:α} (h:fV a ts=some (.ok (x,r))):x=a/\r=ts:=by
 simp only[fV,Option.some.injEq,Except.ok.injEq,Prod.mk.injEq]at h;exact⟨h.1.symm,h.2.symm⟩
theorem uq {e:Int} {x:α} (h:oQ e ts=some (.ok (x,r))):False:=by
 simp[oQ]at h
theorem J9 (h:must s ts=some (.ok (u,r))):r=ts.tail/\cR s ts=true:=by
 unfold must at h;split at h
 ·exact⟨(dN h).2,‹_›⟩
 ·exact (uq h).elim
theorem VT (h:nu ts=some (.ok (s,r))):r=ts.tail/\s=headText ts:=by
 unfold nu at h;split at h
 ·exact (uq h).elim
 ·split at h
  ·exact (uq h).elim
  ·exact⟨(dN h).2,(dN h).1⟩
theorem rA (h:cR s ts=true):ts.tail.length<ts.length:=by
 cases ts with
 | nil=>simp[cR,headKind]at h
 | cons t r=>simp
theorem nT (h:nu ts=some (.ok (s,r))):r.length<ts.length:=by
 have h1:=(VT h).1;subst h1;cases ts with
 | nil=>simp[nu,headKind,oQ]at h
 | cons t r=>simp
theorem iH (h:must s ts=some (.ok (u,r))):r.length<ts.length:=by
 obtain⟨rfl,h1⟩:=J9 h;exact rA h1
theorem rC (ts:List Tok):ts.tail.length<=ts.length:=by simp
structure Zr (f:Nat):Prop where
 expr:∀ {level deep ts x r},jU f level deep ts=some (.ok (x,r))->r.length<ts.length
 bin:∀ {level deep a y ts x r},s6 f level deep a y ts=some (.ok (x,r))->r.length<=ts.length
 unary:∀ {deep ts x r},rG f deep ts=some (.ok (x,r))->r.length<ts.length
 item:∀ {deep a y ts x r},tC f deep a y ts=some (.ok (x,r))->r.length<=ts.length
 alone:∀ {deep ts x r},p5 f deep ts=some (.ok (x,r))->r.length<ts.length
 first:∀ {deep ts x r},qT f deep ts=some (.ok (x,r))->r.length<ts.length
 args:∀ {deep ts x r},s5 f deep ts=some (.ok (x,r))->r.length<ts.length
 rest:∀ {deep b l ts x r},rz f deep b l ts=some (.ok (x,r))->r.length<=ts.length
theorem lens:(f:Nat)->Zr f
 | 0=>⟨fun h=>by simp[jU]at h,fun h=>by simp[s6]at h,fun h=>by simp[rG]at h,fun h=>by simp[tC]at h,fun h=>by simp[p5]at h,fun h=>by simp[qT]at h,fun h=>by simp[s5]at h,fun h=>by simp[rz]at h⟩
 | f+1=>by
   have ih:=lens f;refine⟨?_,?_,?_,?_,?_,?_,?_,?_⟩
   ·intro level deep ts x r h
    simp only[jU]at h;split at h
    ·exact ih.unary h
    ·obtain⟨a,t,h1,h2⟩:=andThen_ok h
     exact Nat.lt_of_le_of_lt (ih.bin h2) (ih.expr h1)
   ·intro level deep a y ts x r h
    simp only[s6]at h;split at h
    ·rw[(dN h).2];exact Nat.le_refl _
    ·obtain⟨a,t,h1,h2⟩:=andThen_ok h
     exact Nat.le_trans (ih.bin h2) (Nat.le_of_lt (Nat.lt_of_lt_of_le (ih.expr h1) (rC _)))
   ·intro deep ts x r h
    simp only[rG]at h;split at h
    ·exact (uq h).elim
    ·split at h
     ·obtain⟨a,t,h1,h2⟩:=andThen_ok h
      rw[(dN h2).2];exact Nat.lt_of_lt_of_le (ih.unary h1) (rC _)
     ·split at h
      ·obtain⟨a,t,h1,h2⟩:=andThen_ok h
       rw[(dN h2).2];exact Nat.lt_of_lt_of_le (ih.unary h1) (rC _)
      ·obtain⟨a,t,h1,h2⟩:=andThen_ok h
       exact Nat.lt_of_le_of_lt (ih.item h2) (ih.first h1)
   ·intro deep a y ts x r h
    simp only[tC]at h;split at h
    ·obtain⟨i,t,h1,h2⟩:=andThen_ok h
     obtain⟨u,t2,h3,h4⟩:=andThen_ok h2;have:=ih.item h4;have:=iH h3;have:=ih.expr h1;have:=rC ts;omega
    ·rw[(dN h).2];exact Nat.le_refl _
   ·intro deep ts x r h
    simp only[p5]at h;obtain⟨u,t,h1,h2⟩:=andThen_ok h;obtain⟨y,t2,h3,h4⟩:=andThen_ok h2;obtain⟨qw,t3,h5,h6⟩:=andThen_ok h4;have:=iH h1;have:=iH h5;have:=ih.expr h3;rw[(dN h6).2];omega
   ·intro deep ts x r h
    simp only[qT]at h;split at h
    ·split at h
     ·rw[(dN h).2]
      cases ts with
      | nil=>rename_i h1 _;simp[headKind]at h1
      | cons t r=>simp
     ·exact (uq h).elim
    ·split at h
     ·exact ih.alone h
     ·split at h
      ·obtain⟨a,t,h1,h2⟩:=andThen_ok h
       rw[(dN h2).2];exact Nat.lt_of_lt_of_le (ih.alone h1) (rC _)
      ·split at h
       ·obtain⟨a,t,h1,h2⟩:=andThen_ok h
        rw[(dN h2).2];exact Nat.lt_of_lt_of_le (ih.alone h1) (rC _)
       ·split at h
        ·obtain⟨u,t,h1,h2⟩:=andThen_ok h
         obtain⟨qw,t2,h3,h4⟩:=andThen_ok h2;have:=iH h1;have:=iH h3;have:=rC ts;rw[(dN h4).2];omega
        ·obtain⟨n,t,h1,h2⟩:=andThen_ok h
         have h0:=nT h1;split at h2
         ·obtain⟨l,t2,h3,h4⟩:=andThen_ok h2
          rw[(dN h4).2];exact Nat.lt_trans (ih.args h3) h0
         ·rw[(dN h2).2];exact h0
   ·intro deep ts x r h
    simp only[s5]at h;obtain⟨u,t,h1,h2⟩:=andThen_ok h;exact Nat.lt_of_le_of_lt (ih.rest h2) (iH h1)
   ·intro deep b l ts x r h
    simp only[rz]at h;split at h
    ·rw[(dN h).2];exact rC _
    ·obtain⟨u,t,h1,h2⟩:=andThen_ok h
     have ht:t.length<=ts.length:=by
      split at h1
      ·rw[(dN h1).2];exact Nat.le_refl _
      ·exact Nat.le_of_lt (iH h1)
     obtain⟨y,t2,h3,h4⟩:=andThen_ok h2;exact Nat.le_trans (ih.rest h4) (Nat.le_trans (Nat.le_of_lt (ih.expr h3)) ht)
structure ZJ (f:Nat):Prop where
 block:∀ {deep ts x r},pk f deep ts=some (.ok (x,r))->r.length<ts.length
 stmts:∀ {deep l ts x r},tN f deep l ts=some (.ok (x,r))->r.length<=ts.length
 stmt:∀ {deep ts x r},uR f deep ts=some (.ok (x,r))->r.length<ts.length
 named:∀ {ts x r},uL f ts=some (.ok (x,r))->r.length<ts.length
theorem G3:(f:Nat)->ZJ f
 | 0=>⟨fun h=>by simp[pk]at h,fun h=>by simp[tN]at h,fun h=>by simp[uR]at h,fun h=>by simp[uL]at h⟩
 | f+1=>by
   have ih:=G3 f;have e:=lens f;refine⟨?_,?_,?_,?_⟩
   ·intro deep ts x r h
    simp only[pk]at h;split at h
    ·exact (uq h).elim
    ·obtain⟨u,t,h1,h2⟩:=andThen_ok h
     exact Nat.lt_of_le_of_lt (ih.stmts h2) (iH h1)
   ·intro deep l ts x r h
    simp only[tN]at h;split at h
    ·rw[(dN h).2];exact rC _
    ·obtain⟨s,t,h1,h2⟩:=andThen_ok h
     exact Nat.le_trans (ih.stmts h2) (Nat.le_of_lt (ih.stmt h1))
   ·intro deep ts x r h
    have h0:=rC ts;simp only[uR]at h;split at h
    ·obtain⟨v,t,h1,h2⟩:=andThen_ok h
     obtain⟨b,t2,h3,h4⟩:=andThen_ok h2;have a1:=e.alone h1;have a2:=ih.block h3;split at h4
     ·obtain⟨b2,t3,h5,h6⟩:=andThen_ok h4
      have a3:=ih.block h5;have:=rC t2;rw[(dN h6).2];omega
     ·rw[(dN h4).2]
      omega
    ·split at h
     ·obtain⟨v,t,h1,h2⟩:=andThen_ok h
      obtain⟨b,t2,h3,h4⟩:=andThen_ok h2;have a1:=e.alone h1;have a2:=ih.block h3;rw[(dN h4).2];omega
     ·split at h
      ·obtain⟨n,t,h1,h2⟩:=andThen_ok h
       obtain⟨u,t2,h3,h4⟩:=andThen_ok h2;obtain⟨v,t3,h5,h6⟩:=andThen_ok h4;obtain⟨qw,t4,h7,h8⟩:=andThen_ok h6;have a1:=nT h1;have a2:=iH h3;have a3:=e.expr h5;have a4:=iH h7;rw[(dN h8).2];omega
      ·split at h
       ·obtain⟨v,t,h1,h2⟩:=andThen_ok h
        obtain⟨u,t2,h3,h4⟩:=andThen_ok h2;have a1:=e.expr h1;have a2:=iH h3;rw[(dN h4).2];omega
       ·split at h
        ·obtain⟨v,t,h1,h2⟩:=andThen_ok h
         obtain⟨u,t2,h3,h4⟩:=andThen_ok h2;have a1:=e.expr h1;have a2:=iH h3;rw[(dN h4).2];omega
        ·obtain⟨v,t,h1,h2⟩:=andThen_ok h
         obtain⟨u,t2,h3,h4⟩:=andThen_ok h2;have a1:=ih.named h1;have a2:=iH h3;rw[(dN h4).2];omega
   ·intro ts x r h
    simp only[uL]at h;obtain⟨n,t,h1,h2⟩:=andThen_ok h;have a1:=nT h1;split at h2
    ·obtain⟨l,t2,h3,h4⟩:=andThen_ok h2
     have a2:=e.args h3;rw[(dN h4).2];omega
    ·split at h2
     ·obtain⟨i,t2,h3,h4⟩:=andThen_ok h2
      obtain⟨u,t3,h5,h6⟩:=andThen_ok h4;obtain⟨qw,t4,h7,h8⟩:=andThen_ok h6;obtain⟨v,t5,dJ,h10⟩:=andThen_ok h8;have:=rC t;have a2:=e.expr h3;have a3:=iH h5;have a4:=iH h7;have a5:=e.expr dJ;rw[(dN h10).2];omega
     ·obtain⟨u,t2,h3,h4⟩:=andThen_ok h2
      obtain⟨v,t3,h5,h6⟩:=andThen_ok h4;have a2:=iH h3;have a3:=e.expr h5;rw[(dN h6).2];omega
def yl (acc:Nat) (l:List UInt8):Nat:=l.foldl (fun n c=>n*10+(c.toNat-48)) acc
theorem agZ (l:List UInt8):yU l=yl 0 l:=rfl
theorem SL:(l:List UInt8)->(acc:Nat)->acc<=yl acc l
 | [],acc=>Nat.le_refl _
 | c::r,acc=>Nat.le_trans (by omega) (SL r (acc*10+(c.toNat-48)))
theorem Xz:(l:List UInt8)->(acc:Nat)->l.all ik=true->acc<18446744073709551616->Lib.parseUint10 acc l=if yl acc l<18446744073709551616 then .ok (yl acc l) else .range
 | [],acc,_,ha=>by
   have h:yl acc []=acc:=rfl;rw[h,if_pos ha];rfl
 | c::r,acc,hd,ha=>by
   simp only[List.all_cons,Bool.and_eq_true,ik,decide_eq_true_eq]at hd;simp only[Lib.parseUint10];have hf:yl acc (c::r)=yl (acc*10+(c.toNat-48)) r:=rfl;rw[if_pos ⟨hd.1.1,hd.1.2⟩,hf];have hle:=SL r (acc*10+(c.toNat-48));by_cases h1:1844674407370955162<=acc
   ·rw[if_pos h1,if_neg (by omega)]
   ·rw[if_neg h1]
    by_cases h2:18446744073709551616<=acc*10+(c.toNat-48)
    ·rw[if_pos h2,if_neg (by omega)]
    ·rw[if_neg h2]
     exact Xz r _ hd.2 (by omega)
theorem aeY {l:List UInt8} (hne:l≠[]) (hd:l.all ik=true):Lib.parseIntB 64 l=if yU l<9223372036854775808 then .ok (yU l:Int) else .range:=by
 rw[Lib.parseIntB_64,agZ];cases l with
 | nil=>exact absurd rfl hne
 | cons c r =>
   have hc:48<=c.toNat/\c.toNat<=57:=by
    simp only[List.all_cons,Bool.and_eq_true,ik,decide_eq_true_eq]at hd;exact hd.1
   have acU:¬c.toNat=43:=(by omega);have zO:¬c.toNat=45:=(by omega);simp only[Lib.atoiAll,acU,zO,or_self,if_false,Lib.parseMag,reduceCtorEq,not_false_eq_true,true_and,false_and];rw[Xz _ 0 hd (by omega)];by_cases h1:yl 0 (c::r)<18446744073709551616
   ·rw[if_pos h1]
    simp only;by_cases h2:yl 0 (c::r)<9223372036854775808
    ·rw[if_pos h2,if_neg (by omega)]
    ·rw[if_neg h2,if_pos (by omega)]
   ·rw[if_neg h1,if_neg (by omega)]
def Cm:List (List (List UInt8))->Nat->List UInt8->Nat
 | [],_,_=>0
 | l::r,i,op=>if l.contains op then i else Cm r (i+1) op
def uI:aL->Nat
 | .bin _ op _ _=>Cm ky 0 op
 | _=>6
def OA:aL->Bool
 | .un ..=>true
 | _=>false
def sp:List UInt8:=[32,32]
def semi:List UInt8:=[59,10]
def Sq:Except (Int×Int) (List Fn×List Tok)->Except (Int×Int) (List Fn)
 | .ok (l,_)=>.ok l
 | .error e=>.error e
theorem Kn:(f:Nat)->(first:Bool)->(l:List (List UInt8×Int))->(ts:List Tok)->{x:List (List UInt8×Int)}->{r:List Tok}->mK f first l ts=some (.ok (x,r))->r.length<=ts.length
 | 0,_,_,_,x,r,h=>by simp[mK]at h
 | f+1,first,l,ts,x,r,h=>by
   simp only[mK]at h;split at h
   ·rw[(dN h).2];exact rC _
   ·obtain⟨u,t,h1,h2⟩:=andThen_ok h
    have ht:t.length<=ts.length:=by
     split at h1
     ·rw[(dN h1).2];exact Nat.le_refl _
     ·exact Nat.le_of_lt (iH h1)
    obtain⟨n,t2,h3,h4⟩:=andThen_ok h2;obtain⟨qw,t3,h5,h6⟩:=andThen_ok h4;have a1:=nT h3;have a2:=iH h5;split at h6
    ·have:=Kn f _ _ _ h6
     have:=rC t3;omega
    ·obtain⟨KM,t4,h7,h8⟩:=andThen_ok h6
     have a3:=iH h7;have:=Kn f _ _ _ h8;omega
theorem SU {f:Nat} {x:Fn} (h:uu f ts=some (.ok (x,r))):r.length<ts.length:=by
 cases f with
 | zero=>simp[uu]at h
 | succ f =>
   simp only[uu]at h;obtain⟨u,t,h1,h2⟩:=andThen_ok h;obtain⟨n,t2,h3,h4⟩:=andThen_ok h2;obtain⟨qw,t3,h5,h6⟩:=andThen_ok h4;obtain⟨ps,t4,h7,h8⟩:=andThen_ok h6;obtain⟨b,t5,dJ,h10⟩:=andThen_ok h8;have a1:=iH h1;have a2:=nT h3;have a3:=iH h5;have a4:=Kn _ _ _ _ h7;have a5:=(G3 f).block dJ;rw[(dN h10).2];omega

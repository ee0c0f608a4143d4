/- Steps as they lie in memory, only read; maps by numbers. No conditions. slices' functions over functions of steps, over steps, over numbers, at each closure. Printed by mkidx.py. Conditions: what they read lies. -/
import Derived.Test.YtnicpmoanjddbaaGreatDoorRows
import Derived.Test.YtnicpmoanjddbaaGreatDoorMs01
import Derived.Test.YtnicpmoanjddbaaGreatDoorMs07
import Derived.WalkKit
import Derived.ProofKit
import Derived.WalkSpells
import Derived.WalkLawsBesides
import Derived.Lib.Hide
import Derived.RegionTactic
import Derived.Deep.RegionHeld3
import Derived.Outline
import Derived.IntWalk
import Derived.Maps.OwnSet
import Derived.StringKeys
import Derived.Lib.SmallJoins
import Derived.Maps.AppendAt
import Derived.OwnWalk
import Derived.Deep.QuietTactic
import Derived.BigQuiet
namespace Go.Proofs.YtnicpmoanjddbaaGreatDoor.MidP
open Go.RowKit Go.Proofs.YtnicpmoanjddbaaGreatDoor.Wo Go.Maps Go.Proofs.YtnicpmoanjddbaaGreatDoor.TreeP
set_option linter.unusedVariables false
set_option linter.unusedSimpArgs false
def str (l:List UInt8):Value:=.string ⟨l.toArray⟩
def IntsAt (W:World) (S:Nat→Prop) (v:Value) (l:List Int):Prop :=
 ∃ a c,v=.slice a l.length c∧l.length≤c∧c≤maxLen∧(a=none→l.length=0)∧∀ (i:Nat) (x:Int),l[i]?=some x→∃ g o,a=some ⟨g,o,none⟩∧¬ S g∧W.cell? ⟨g,o+i,none⟩=some (.int .i64 x)
theorem IntsAt.mods {W W':World} {S T:Nat→Prop} {v:Value} {l:List Int} (h:IntsAt W S v l) (hm:Mods S W W') (hT:∀ k,k<W.heap.size→T k→S k):IntsAt W' T v l:=by
 obtain ⟨a,c,h1,h3,h4,h5,h6⟩:=h
 refine ⟨a,c,h1,h3,h4,h5,fun i x hx=>?_⟩
 obtain ⟨g,o,e1,e2,e3⟩:=h6 i x hx
 exact ⟨g,o,e1,fun ht=>e2 (hT g (World.block_lt_of_cell? W _ e3) ht),hm.cellOf e3 e2⟩
def StpCells (W:World) (g o:Nat) (s:Stp) (av:Value):Prop :=
 W.cell? ⟨g,o,none⟩=some (.int .i64 s.code)∧W.cell? ⟨g,o+1,none⟩=some (.int .i64 s.dst)∧W.cell? ⟨g,o+2,none⟩=some (.int .i64 s.a)∧W.cell? ⟨g,o+3,none⟩=some (.int .i64 s.b)∧W.cell? ⟨g,o+4,none⟩=some (.int .i64 s.c) ∧
 W.cell? ⟨g,o+5,none⟩=some (.int .i64 s.n)∧W.cell? ⟨g,o+6,none⟩=some (str s.op)∧W.cell? ⟨g,o+7,none⟩=some (.int .i64 s.label)∧W.cell? ⟨g,o+8,none⟩=some (str s.name)∧W.cell? ⟨g,o+9,none⟩=some av
theorem StpCells.mods {W W':World} {S:Nat→Prop} {g o:Nat} {s:Stp} {av:Value} (h:StpCells W g o s av) (hm:Mods S W W') (hn:¬ S g):StpCells W' g o s av:=by
 obtain ⟨h0,h1,h2,h3,h4,h5,h6,h7,h8,h9⟩:=h
 exact ⟨hm.cellOf h0 hn,hm.cellOf h1 hn,hm.cellOf h2 hn,hm.cellOf h3 hn,hm.cellOf h4 hn,hm.cellOf h5 hn,hm.cellOf h6 hn,hm.cellOf h7 hn,hm.cellOf h8 hn,hm.cellOf h9 hn⟩
def stpL (s:Stp) (av:Value):List Value:=[.int .i64 s.code,.int .i64 s.dst,.int .i64 s.a,.int .i64 s.b,.int .i64 s.c,.int .i64 s.n,str s.op,.int .i64 s.label,str s.name,av]
def StpsAt (W:World) (S:Nat→Prop) (v:Value) (l:List Stp):Prop :=
 ∃ a c,v=.slice a l.length c∧l.length≤c∧c≤maxLen∧(a=none→l.length=0)∧∀ (i:Nat) (s:Stp),l[i]?=some s→∃ g o av,a=some ⟨g,o,none⟩∧¬ S g∧StpCells W g (o+i*10) s av∧IntsAt W S av s.args
theorem StpsAt.mods {W W':World} {S T:Nat→Prop} {v:Value} {l:List Stp} (h:StpsAt W S v l) (hm:Mods S W W') (hT:∀ k,k<W.heap.size→T k→S k):StpsAt W' T v l:=by
 obtain ⟨a,c,h1,h3,h4,h5,h6⟩:=h
 refine ⟨a,c,h1,h3,h4,h5,fun i x hx=>?_⟩
 obtain ⟨g,o,av,e1,e2,e3,e4⟩:=h6 i x hx
 exact ⟨g,o,av,e1,fun ht=>e2 (hT g (World.block_lt_of_cell? W _ e3.1) ht),e3.mods hm e2,e4.mods hm hT⟩
def FmsAt (W:World) (S:Nat→Prop) (v:Value) (L:List Fm):Prop :=
 ∃ a c,v=.slice a L.length c∧L.length≤c∧c≤maxLen∧(a=none→L.length=0)∧∀ (i:Nat) (f:Fm),L[i]?=some f→∃ g o tv sv,a=some ⟨g,o,none⟩∧¬ S g ∧
   W.cell? ⟨g,o+i*4,none⟩=some (str f.name)∧W.cell? ⟨g,o+i*4+1,none⟩=some (.int .i64 f.params)∧W.cell? ⟨g,o+i*4+2,none⟩=some tv∧W.cell? ⟨g,o+i*4+3,none⟩=some sv∧IntsAt W S tv f.types∧StpsAt W S sv f.steps
theorem FmsAt.mods {W W':World} {S T:Nat→Prop} {v:Value} {L:List Fm} (h:FmsAt W S v L) (hm:Mods S W W') (hT:∀ k,k<W.heap.size→T k→S k):FmsAt W' T v L:=by
 obtain ⟨a,c,h1,h3,h4,h5,h6⟩:=h
 refine ⟨a,c,h1,h3,h4,h5,fun i x hx=>?_⟩
 obtain ⟨g,o,tv,sv,e1,e2,e3,e4,e5,e6,e7,e8⟩:=h6 i x hx
 exact ⟨g,o,tv,sv,e1,fun ht=>e2 (hT g (World.block_lt_of_cell? W _ e3) ht),hm.cellOf e3 e2,hm.cellOf e4 e2,hm.cellOf e5 e2,hm.cellOf e6 e2,e7.mods hm hT,e8.mods hm hT⟩
def FmV (W:World) (S:Nat→Prop) (f:Fm) (v:Value):Prop:=∃ ta tc sa sc,v=.agg #[str f.name,.int .i64 f.params,.slice ta f.types.length tc,.slice sa f.steps.length sc]∧IntsAt W S (.slice ta f.types.length tc) f.types∧StpsAt W S (.slice sa f.steps.length sc) f.steps
theorem FmV.mods {W W':World} {S T:Nat→Prop} {f:Fm} {v:Value} (h:FmV W S f v) (hm:Mods S W W') (hT:∀ k,k<W.heap.size→T k→S k):FmV W' T f v:=by
 obtain ⟨ta,tc,sa,sc,h1,h2,h3⟩:=h
 exact ⟨ta,tc,sa,sc,h1,h2.mods hm hT,h3.mods hm hT⟩
def StpV (W:World) (S:Nat→Prop) (s:Stp) (v:Value):Prop:=∃ aa ac,v=.agg (stpL s (.slice aa s.args.length ac)).toArray∧IntsAt W S (.slice aa s.args.length ac) s.args
theorem IntsAt.form {W:World} {S:Nat→Prop} {v:Value} {l:List Int} (h:IntsAt W S v l):∃ a c,v=.slice a l.length c∧l.length≤c∧c≤9223372036854775807∧(a=none→l.length=0):=by
 obtain ⟨a,c,h1,h3,h4,h5,h6⟩:=h
 exact ⟨a,c,h1,h3,h4,h5⟩
theorem StpsAt.form {W:World} {S:Nat→Prop} {v:Value} {l:List Stp} (h:StpsAt W S v l):∃ a c,v=.slice a l.length c∧l.length≤c∧c≤9223372036854775807∧(a=none→l.length=0):=by
 obtain ⟨a,c,h1,h3,h4,h5,h6⟩:=h
 exact ⟨a,c,h1,h3,h4,h5⟩
theorem FmsAt.form {W:World} {S:Nat→Prop} {v:Value} {l:List Fm} (h:FmsAt W S v l):∃ a c,v=.slice a l.length c∧l.length≤c∧c≤9223372036854775807∧(a=none→l.length=0):=by
 obtain ⟨a,c,h1,h3,h4,h5,h6⟩:=h
 exact ⟨a,c,h1,h3,h4,h5⟩
theorem IntsAt.get {W:World} {S:Nat→Prop} {a:Option Addr} {n c:Nat} {l:List Int} (h:IntsAt W S (.slice a n c) l) {i:Nat} (hi:i<l.length):∃ g o,a=some ⟨g,o,none⟩∧W.cell? ⟨g,o+i,none⟩=some (.int .i64 l[i]):=by
 obtain ⟨a',c',h1,h3,h4,h5,h6⟩:=h
 obtain ⟨rfl,-,rfl⟩:=Value.slice.inj h1
 obtain ⟨g,o,e1,e2,e3⟩:=h6 i l[i] (List.getElem?_eq_getElem hi)
 exact ⟨g,o,e1,e3⟩
theorem StpsAt.get {W:World} {S:Nat→Prop} {a:Option Addr} {n c:Nat} {l:List Stp} (h:StpsAt W S (.slice a n c) l) {i:Nat} (hi:i<l.length):∃ g o aa ac,a=some ⟨g,o,none⟩∧StpCells W g (o+i*10) l[i] (.slice aa l[i].args.length ac)∧IntsAt W S (.slice aa l[i].args.length ac) l[i].args:=by
 obtain ⟨a',c',h1,h3,h4,h5,h6⟩:=h
 obtain ⟨rfl,-,rfl⟩:=Value.slice.inj h1
 obtain ⟨g,o,av,e1,e2,e3,e4⟩:=h6 i l[i] (List.getElem?_eq_getElem hi)
 obtain ⟨aa,ac,rfl,-⟩:=e4.form
 exact ⟨g,o,aa,ac,e1,e3,e4⟩
theorem FmsAt.get {W:World} {S:Nat→Prop} {a:Option Addr} {n c:Nat} {L:List Fm} (h:FmsAt W S (.slice a n c) L) {i:Nat} (hi:i<L.length):∃ g o ta tc sa sc,a=some ⟨g,o,none⟩ ∧
 W.cell? ⟨g,o+i*4,none⟩=some (str L[i].name)∧W.cell? ⟨g,o+i*4+1,none⟩=some (.int .i64 L[i].params)∧W.cell? ⟨g,o+i*4+2,none⟩=some (.slice ta L[i].types.length tc)∧W.cell? ⟨g,o+i*4+3,none⟩=some (.slice sa L[i].steps.length sc)∧IntsAt W S (.slice ta L[i].types.length tc) L[i].types∧StpsAt W S (.slice sa L[i].steps.length sc) L[i].steps:=by
 obtain ⟨a',c',h1,h3,h4,h5,h6⟩:=h
 obtain ⟨rfl,-,rfl⟩:=Value.slice.inj h1
 obtain ⟨g,o,tv,sv,e1,e2,e3,e4,e5,e6,e7,e8⟩:=h6 i L[i] (List.getElem?_eq_getElem hi)
 obtain ⟨ta,tc,rfl,-⟩:=e7.form
 obtain ⟨sa,sc,rfl,-⟩:=e8.form
 exact ⟨g,o,ta,tc,sa,sc,e1,e3,e4,e5,e6,e7,e8⟩
/-! Maps by numbers. -/
def heldR (v:Value):Option (DataW Value×List MemPlace):=some (.held v,[])
theorem intKeys:Keyed Tryz.prog 3:=int_keyed Tryz.underlying3
def I64 (a:Int):Prop:=-9223372036854775808≤a∧a≤9223372036854775807
theorem wf_of {a:Int} (h:I64 a):(Lit.int .i64 a).wf=true:=by
 unfold I64 at h
 simp [Lit.wf,IntKind.min,IntKind.max,IntKind.signed,IntKind.bits]
 omega
theorem keyInt {a:Int} (h:I64 a):keyOf Tryz.prog 3 (.int .i64 a)=some (.int .i64 a):=by
 have hw:=wf_of h
 simp [keyOf,mapKey,Tryz.underlying3,hw]
def IntMap (W:World) (bm n:Nat) (z:Value) (F:Int→Value):Prop :=
 ∃ D:DataW Value,W.ownsMap Tryz.prog 3 heldR bm n D∧∀ a:Int,D.atKey (.int .i64 a) (.held z)=.held (F a)
theorem IntMap.mods {S:Nat→Prop} {W W':World} {bm n:Nat} {z:Value} {F:Int→Value} (h:IntMap W bm n z F) (hm:Mods S W W') (hn:¬ S bm):IntMap W' bm n z F:=by
 obtain ⟨D,⟨es,cl,h1,h2⟩,h3⟩:=h
 exact ⟨D,⟨es,cl,hm.blockOf h1 hn,h2⟩,h3⟩
theorem IntMap.lt {W:World} {bm n:Nat} {z:Value} {F:Int→Value} (h:IntMap W bm n z F):bm<W.heap.size:=by
 obtain ⟨D,h1,_⟩:=h
 exact h1.lt
theorem IntMap.new (W:World) (z:Value):IntMap (W.alloc (.map #[] 0)) W.heap.size 0 z (fun _=>z) :=
 ⟨_,World.ownsMap_made _ _ _ _,fun s=>rfl⟩
theorem IntMap.look {W:World} {bm n:Nat} {z:Value} {F:Int→Value} (h:IntMap W bm n z F) {t e:TypeId} (ht:Tryz.prog.underlying t=some (.map 3 e)) (hz:(zeroValue e).run Tryz.prog W=.ok z W) {a:Int} (ha:I64 a) :
 (Instr.lookup t (.map (some bm)) (.int .i64 a) false).run Tryz.prog W=.ok (F a) W:=by
 obtain ⟨D,h1,h2⟩:=h
 obtain ⟨v,ps,hr,hv⟩:=h1.lookup intKeys ht hz (zd:=.held z) (zp:=[]) rfl (keyInt ha)
 rw [h2 a] at hv
 simp only [heldR,Option.some.injEq,Prod.mk.injEq,DataW.held.injEq] at hv
 rw [hr,hv.1]
theorem IntMap.put {W:World} {bm n:Nat} {z:Value} {F:Int→Value} (h:IntMap W bm n z F) {t e:TypeId} (ht:Tryz.prog.underlying t=some (.map 3 e)) {a:Int} (ha:I64 a) (v:Value) (hn:n<maxLen) :
 ∃ w',(Instr.mapUpdate t (.map (some bm)) (.int .i64 a) v).run Tryz.prog W=.ok () w'∧IntMap w' bm (n+1) z (fun x=>if x=a then v else F x)∧Mods (·=bm) W w':=by
 obtain ⟨D,h1,h2⟩:=h
 obtain ⟨w',hr,ho,hg⟩:=h1.update intKeys ht hn (keyInt ha) (d:=.held v) (ps:=[]) rfl
 refine ⟨w',hr,⟨_,ho,fun x=>?_⟩,Mods.of_grownBy hg (fun k hk _=>by cases hk;rfl)⟩
 by_cases hx:x=a
 · subst hx
   simp only [if_true]
   rw [atKey_put_same (k:=.int .i64 x) h1.isMap (by trivial)]
 · simp only [if_neg hx]
   rw [atKey_put_other (by simpa using hx),h2 x]
def optI:Option Nat→Int
 | some i=>i
 | none=>-1
theorem findIdx_take {α:Type} {p:α→Bool} {l:List α} {i:Nat} (h:(l.take i).findIdx? p=none) {x:α} (hx:l[i]?=some x):(l.take (i+1)).findIdx? p=if p x then some i else none:=by
 induction l generalizing i with
 | nil=>simp at hx
 | cons a r ih =>
   cases i with
   | zero =>
     simp only [List.getElem?_cons_zero,Option.some.injEq] at hx
     subst hx
     simp [List.findIdx?_cons]
   | succ i =>
     simp only [List.take_succ_cons,List.findIdx?_cons] at h ⊢
     split at h
     · cases h
     · rename_i hn
       simp only [Option.map_eq_none_iff] at h
       rw [if_neg hn,ih h (by simpa using hx)]
       split <;> rfl
theorem findIdx_more {α:Type} {p:α→Bool} {l:List α} {i j:Nat} (h:(l.take i).findIdx? p=some j):l.findIdx? p=some j:=by
 induction l generalizing i j with
 | nil=>simp at h
 | cons a r ih =>
   cases i with
   | zero=>simp at h
   | succ i =>
     simp only [List.take_succ_cons,List.findIdx?_cons] at h ⊢
     split at h
     · rename_i hy
       rw [if_pos hy]
       exact h
     · rename_i hn
       rw [if_neg hn]
       obtain ⟨k,hk,rfl⟩:=Option.map_eq_some_iff.1 h
       rw [ih hk]
       rfl
theorem optI_some {α:Type} (l:List α) (p:α→Bool):decide (optI (l.findIdx? p)≥0)=l.any p:=by
 rw [← List.findIdx?_isSome]
 cases l.findIdx? p with
 | none=>rfl
 | some i=>simp [optI]
set_option maxRecDepth 100000 in
set_option maxHeartbeats 1000000 in
theorem index_call (L:List Fm) (v:Value) (q:Nat) (p:Fm→Bool) (W:World) (hL:FmsAt W None v L)
 (hK:∀ (i:Nat) (hi:i<L.length) (w:World) (fv:Value),Mods None W w→FmV w None L[i] fv→Calls Tryz.prog 87 #[fv,.pointer (some ⟨q,0,none⟩)] w fun e w'=>e=.returned (.bool (p L[i]))∧Mods None w w') :
 Calls Tryz.prog 53 #[v,.func (.func 87) #[] #[.pointer (some ⟨q,0,none⟩)]] W fun e w=>e=.returned (.int .i64 (optI (L.findIdx? p)))∧Mods None W w:=by
 obtain ⟨a,c,rfl,hnc,hcm,h0⟩:=hL.form
 have HL:=hiD hL
 have HK:=hiD hK
 obtain ⟨n,hn⟩:∃ n,n=L.length:=⟨_,rfl⟩
 rw [← hn] at hnc h0 ⊢
 have HN:=hiD hn
 clear hn hL hK
 go_enter Tryz.func53,Tryz.ntmps53
 go_wp2_with fail
 go_loopw [5,8] (fun _ iv wr=>∃ i:Nat,i≤n∧iv=.int .i64 i∧Hid ((L.take i).findIdx? p=none)∧Hid (Mods None W wr)) (fun _ iv _=>(n-intOf iv).toNat)
 case atStart=>exact ⟨0,Nat.zero_le _,rfl,hiD (by simp),hiD (Mods.refl _ _)⟩
 case round =>
  obtain ⟨i,hi,rfl,HI,HM⟩:=hrel
  by_cases hlt:i<n
  · have hil:i<L.length:=by have:=HN.out;omega
    have HIL:=hiD hil
    obtain ⟨g,o,ta,tc,sa,sc,rfl,c0,c1,c2,c3,hT,hS⟩:=(HL.out.mods HM.out (fun _ _ k=>k)).get hil
    have hpi:(i:Int)<(n:Int):=by omega
    have HT:=hiD (findIdx_take HI.out (List.getElem?_eq_getElem hil))
    have HE:=hiD (HK.out i hil wr _ HM.out ⟨ta,tc,sa,sc,rfl,hT,hS⟩)
    clear hT hS
    generalize L[i]=x at *
    clear hil
    obtain ⟨b,hb⟩:∃ b,b=p x:=⟨_,rfl⟩
    rw [← hb] at HE HT
    clear hb
    unfold str at *
    go_wp2_with fail
    go_at_call 87
    refine HE.out.mono ?_
    rintro e w1 ⟨rfl,hm1⟩
    have HM1:=hiD (HM.out.trans hm1)
    clear hm1
    cases b
    · have HT2:Hid ((L.take (i+1)).findIdx? p=none):=hiD (by rw [HT.out];rfl)
      go_wp2_with fail
      exact ⟨⟨i+1,by omega,by go_num,HT2,HM1⟩,by simp [intOf];omega⟩
    · have HT2:Hid (L.findIdx? p=some i):=hiD (findIdx_more (i:=i+1) (by rw [HT.out];rfl))
      go_wp2_with fail
      go_ret
      rw [HT2.out]
      exact ⟨rfl,HM1.out⟩
  · obtain rfl:i=n:=by omega
    have HF:Hid (L.findIdx? p=none):=hiD (by
        have:=HI.out
        rwa [List.take_of_length_le (by have:=HN.out;omega)] at this)
    go_wp2_with fail
    go_ret
    rw [HF.out]
    exact ⟨rfl,HM.out⟩
set_option maxRecDepth 100000 in
set_option maxHeartbeats 1000000 in
theorem index_twin (L:List Fm) (v:Value) (q:Nat) (p:Fm→Bool) (W:World) (hL:FmsAt W None v L)
 (hK:∀ (i:Nat) (hi:i<L.length) (w:World) (fv:Value),Mods None W w→FmV w None L[i] fv→Calls Tryz.prog 25 #[fv,.pointer (some ⟨q,0,none⟩)] w fun e w'=>e=.returned (.bool (p L[i]))∧Mods None w w') :
 Calls Tryz.prog 53 #[v,.func (.func 25) #[] #[.pointer (some ⟨q,0,none⟩)]] W fun e w=>e=.returned (.int .i64 (optI (L.findIdx? p)))∧Mods None W w:=by
 obtain ⟨a,c,rfl,hnc,hcm,h0⟩:=hL.form
 have HL:=hiD hL
 have HK:=hiD hK
 obtain ⟨n,hn⟩:∃ n,n=L.length:=⟨_,rfl⟩
 rw [← hn] at hnc h0 ⊢
 have HN:=hiD hn
 clear hn hL hK
 go_enter Tryz.func53,Tryz.ntmps53
 go_wp2_with fail
 go_loopw [5,8] (fun _ iv wr=>∃ i:Nat,i≤n∧iv=.int .i64 i∧Hid ((L.take i).findIdx? p=none)∧Hid (Mods None W wr)) (fun _ iv _=>(n-intOf iv).toNat)
 case atStart=>exact ⟨0,Nat.zero_le _,rfl,hiD (by simp),hiD (Mods.refl _ _)⟩
 case round =>
  obtain ⟨i,hi,rfl,HI,HM⟩:=hrel
  by_cases hlt:i<n
  · have hil:i<L.length:=by have:=HN.out;omega
    have HIL:=hiD hil
    obtain ⟨g,o,ta,tc,sa,sc,rfl,c0,c1,c2,c3,hT,hS⟩:=(HL.out.mods HM.out (fun _ _ k=>k)).get hil
    have hpi:(i:Int)<(n:Int):=by omega
    have HT:=hiD (findIdx_take HI.out (List.getElem?_eq_getElem hil))
    have HE:=hiD (HK.out i hil wr _ HM.out ⟨ta,tc,sa,sc,rfl,hT,hS⟩)
    clear hT hS
    generalize L[i]=x at *
    clear hil
    obtain ⟨b,hb⟩:∃ b,b=p x:=⟨_,rfl⟩
    rw [← hb] at HE HT
    clear hb
    unfold str at *
    go_wp2_with fail
    go_at_call 25
    refine HE.out.mono ?_
    rintro e w1 ⟨rfl,hm1⟩
    have HM1:=hiD (HM.out.trans hm1)
    clear hm1
    cases b
    · have HT2:Hid ((L.take (i+1)).findIdx? p=none):=hiD (by rw [HT.out];rfl)
      go_wp2_with fail
      exact ⟨⟨i+1,by omega,by go_num,HT2,HM1⟩,by simp [intOf];omega⟩
    · have HT2:Hid (L.findIdx? p=some i):=hiD (findIdx_more (i:=i+1) (by rw [HT.out];rfl))
      go_wp2_with fail
      go_ret
      rw [HT2.out]
      exact ⟨rfl,HM1.out⟩
  · obtain rfl:i=n:=by omega
    have HF:Hid (L.findIdx? p=none):=hiD (by
        have:=HI.out
        rwa [List.take_of_length_le (by have:=HN.out;omega)] at this)
    go_wp2_with fail
    go_ret
    rw [HF.out]
    exact ⟨rfl,HM.out⟩
theorem has_twin (L:List Fm) (v:Value) (q:Nat) (p:Fm→Bool) (W:World) (hL:FmsAt W None v L)
 (hK:∀ (i:Nat) (hi:i<L.length) (w:World) (fv:Value),Mods None W w→FmV w None L[i] fv→Calls Tryz.prog 25 #[fv,.pointer (some ⟨q,0,none⟩)] w fun e w'=>e=.returned (.bool (p L[i]))∧Mods None w w') :
 Calls Tryz.prog 24 #[v,.func (.func 25) #[] #[.pointer (some ⟨q,0,none⟩)]] W fun e w=>e=.returned (.bool (L.any p))∧Mods None W w:=by
 have H:=hiD (index_twin L v q p W hL hK)
 obtain ⟨a,c,rfl,hnc,hcm,h0⟩:=hL.form
 rw [← optI_some]
 clear hL hK h0 hnc hcm
 generalize optI (L.findIdx? p)=k at *
 go_enter Tryz.func24,Tryz.ntmps24
 go_wp2_with fail
 go_at_call 53
 refine H.out.mono ?_
 rintro e w1 ⟨rfl,hm1⟩
 go_wp2_with fail
 go_ret
 exact ⟨rfl,hm1⟩
set_option maxRecDepth 100000 in
set_option maxHeartbeats 1000000 in
theorem index_main (L:List Fm) (v:Value) (p:Fm→Bool) (W:World) (hL:FmsAt W None v L)
 (hK:∀ (i:Nat) (hi:i<L.length) (w:World) (fv:Value),Mods None W w→FmV w None L[i] fv→Calls Tryz.prog 27 #[fv] w fun e w'=>e=.returned (.bool (p L[i]))∧Mods None w w') :
 Calls Tryz.prog 53 #[v,.func (.func 27) #[] #[]] W fun e w=>e=.returned (.int .i64 (optI (L.findIdx? p)))∧Mods None W w:=by
 obtain ⟨a,c,rfl,hnc,hcm,h0⟩:=hL.form
 have HL:=hiD hL
 have HK:=hiD hK
 obtain ⟨n,hn⟩:∃ n,n=L.length:=⟨_,rfl⟩
 rw [← hn] at hnc h0 ⊢
 have HN:=hiD hn
 clear hn hL hK
 go_enter Tryz.func53,Tryz.ntmps53
 go_wp2_with fail
 go_loopw [5,8] (fun _ iv wr=>∃ i:Nat,i≤n∧iv=.int .i64 i∧Hid ((L.take i).findIdx? p=none)∧Hid (Mods None W wr)) (fun _ iv _=>(n-intOf iv).toNat)
 case atStart=>exact ⟨0,Nat.zero_le _,rfl,hiD (by simp),hiD (Mods.refl _ _)⟩
 case round =>
  obtain ⟨i,hi,rfl,HI,HM⟩:=hrel
  by_cases hlt:i<n
  · have hil:i<L.length:=by have:=HN.out;omega
    have HIL:=hiD hil
    obtain ⟨g,o,ta,tc,sa,sc,rfl,c0,c1,c2,c3,hT,hS⟩:=(HL.out.mods HM.out (fun _ _ k=>k)).get hil
    have hpi:(i:Int)<(n:Int):=by omega
    have HT:=hiD (findIdx_take HI.out (List.getElem?_eq_getElem hil))
    have HE:=hiD (HK.out i hil wr _ HM.out ⟨ta,tc,sa,sc,rfl,hT,hS⟩)
    clear hT hS
    generalize L[i]=x at *
    clear hil
    obtain ⟨b,hb⟩:∃ b,b=p x:=⟨_,rfl⟩
    rw [← hb] at HE HT
    clear hb
    unfold str at *
    go_wp2_with fail
    go_at_call 27
    refine HE.out.mono ?_
    rintro e w1 ⟨rfl,hm1⟩
    have HM1:=hiD (HM.out.trans hm1)
    clear hm1
    cases b
    · have HT2:Hid ((L.take (i+1)).findIdx? p=none):=hiD (by rw [HT.out];rfl)
      go_wp2_with fail
      exact ⟨⟨i+1,by omega,by go_num,HT2,HM1⟩,by simp [intOf];omega⟩
    · have HT2:Hid (L.findIdx? p=some i):=hiD (findIdx_more (i:=i+1) (by rw [HT.out];rfl))
      go_wp2_with fail
      go_ret
      rw [HT2.out]
      exact ⟨rfl,HM1.out⟩
  · obtain rfl:i=n:=by omega
    have HF:Hid (L.findIdx? p=none):=hiD (by
        have:=HI.out
        rwa [List.take_of_length_le (by have:=HN.out;omega)] at this)
    go_wp2_with fail
    go_ret
    rw [HF.out]
    exact ⟨rfl,HM.out⟩
theorem has_main (L:List Fm) (v:Value) (p:Fm→Bool) (W:World) (hL:FmsAt W None v L)
 (hK:∀ (i:Nat) (hi:i<L.length) (w:World) (fv:Value),Mods None W w→FmV w None L[i] fv→Calls Tryz.prog 27 #[fv] w fun e w'=>e=.returned (.bool (p L[i]))∧Mods None w w') :
 Calls Tryz.prog 24 #[v,.func (.func 27) #[] #[]] W fun e w=>e=.returned (.bool (L.any p))∧Mods None W w:=by
 have H:=hiD (index_main L v p W hL hK)
 obtain ⟨a,c,rfl,hnc,hcm,h0⟩:=hL.form
 rw [← optI_some]
 clear hL hK h0 hnc hcm
 generalize optI (L.findIdx? p)=k at *
 go_enter Tryz.func24,Tryz.ntmps24
 go_wp2_with fail
 go_at_call 53
 refine H.out.mono ?_
 rintro e w1 ⟨rfl,hm1⟩
 go_wp2_with fail
 go_ret
 exact ⟨rfl,hm1⟩
set_option maxRecDepth 100000 in
set_option maxHeartbeats 1000000 in
theorem index_types (L:List Int) (v:Value) (p:Int→Bool) (W:World) (hL:IntsAt W None v L)
 (hK:∀ (i:Nat) (hi:i<L.length) (w:World) (fv:Value),Mods None W w→fv=.int .i64 L[i]→Calls Tryz.prog 55 #[fv] w fun e w'=>e=.returned (.bool (p L[i]))∧Mods None w w') :
 Calls Tryz.prog 84 #[v,.func (.func 55) #[] #[]] W fun e w=>e=.returned (.int .i64 (optI (L.findIdx? p)))∧Mods None W w:=by
 obtain ⟨a,c,rfl,hnc,hcm,h0⟩:=hL.form
 have HL:=hiD hL
 have HK:=hiD hK
 obtain ⟨n,hn⟩:∃ n,n=L.length:=⟨_,rfl⟩
 rw [← hn] at hnc h0 ⊢
 have HN:=hiD hn
 clear hn hL hK
 go_enter Tryz.func84,Tryz.ntmps84
 go_wp2_with fail
 go_loopw [5,8] (fun _ iv wr=>∃ i:Nat,i≤n∧iv=.int .i64 i∧Hid ((L.take i).findIdx? p=none)∧Hid (Mods None W wr)) (fun _ iv _=>(n-intOf iv).toNat)
 case atStart=>exact ⟨0,Nat.zero_le _,rfl,hiD (by simp),hiD (Mods.refl _ _)⟩
 case round =>
  obtain ⟨i,hi,rfl,HI,HM⟩:=hrel
  by_cases hlt:i<n
  · have hil:i<L.length:=by have:=HN.out;omega
    have HIL:=hiD hil
    obtain ⟨g,o,rfl,c0⟩:=(HL.out.mods HM.out (fun _ _ k=>k)).get hil
    have hpi:(i:Int)<(n:Int):=by omega
    have HT:=hiD (findIdx_take HI.out (List.getElem?_eq_getElem hil))
    have HE:=hiD (HK.out i hil wr _ HM.out rfl)
    generalize L[i]=x at *
    clear hil
    obtain ⟨b,hb⟩:∃ b,b=p x:=⟨_,rfl⟩
    rw [← hb] at HE HT
    clear hb
    go_wp2_with fail
    go_at_call 55
    refine HE.out.mono ?_
    rintro e w1 ⟨rfl,hm1⟩
    have HM1:=hiD (HM.out.trans hm1)
    clear hm1
    cases b
    · have HT2:Hid ((L.take (i+1)).findIdx? p=none):=hiD (by rw [HT.out];rfl)
      go_wp2_with fail
      exact ⟨⟨i+1,by omega,by go_num,HT2,HM1⟩,by simp [intOf];omega⟩
    · have HT2:Hid (L.findIdx? p=some i):=hiD (findIdx_more (i:=i+1) (by rw [HT.out];rfl))
      go_wp2_with fail
      go_ret
      rw [HT2.out]
      exact ⟨rfl,HM1.out⟩
  · obtain rfl:i=n:=by omega
    have HF:Hid (L.findIdx? p=none):=hiD (by
        have:=HI.out
        rwa [List.take_of_length_le (by have:=HN.out;omega)] at this)
    go_wp2_with fail
    go_ret
    rw [HF.out]
    exact ⟨rfl,HM.out⟩
theorem has_types (L:List Int) (v:Value) (p:Int→Bool) (W:World) (hL:IntsAt W None v L)
 (hK:∀ (i:Nat) (hi:i<L.length) (w:World) (fv:Value),Mods None W w→fv=.int .i64 L[i]→Calls Tryz.prog 55 #[fv] w fun e w'=>e=.returned (.bool (p L[i]))∧Mods None w w') :
 Calls Tryz.prog 54 #[v,.func (.func 55) #[] #[]] W fun e w=>e=.returned (.bool (L.any p))∧Mods None W w:=by
 have H:=hiD (index_types L v p W hL hK)
 obtain ⟨a,c,rfl,hnc,hcm,h0⟩:=hL.form
 rw [← optI_some]
 clear hL hK h0 hnc hcm
 generalize optI (L.findIdx? p)=k at *
 go_enter Tryz.func54,Tryz.ntmps54
 go_wp2_with fail
 go_at_call 84
 refine H.out.mono ?_
 rintro e w1 ⟨rfl,hm1⟩
 go_wp2_with fail
 go_ret
 exact ⟨rfl,hm1⟩
end Go.Proofs.YtnicpmoanjddbaaGreatDoor.MidP

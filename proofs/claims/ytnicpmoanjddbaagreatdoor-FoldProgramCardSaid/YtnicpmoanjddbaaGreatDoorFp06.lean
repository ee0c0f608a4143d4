/- A part of what stands behind. -/
import Derived.Test.YtnicpmoanjddbaaGreatDoorFp05
set_option maxRecDepth 100000
set_option maxHeartbeats 4000000
set_option linter.all false
namespace Go.Proofs.YtnicpmoanjddbaaGreatDoor
namespace aB
open Go.Joins Go.ChangeShapes Go.WideShapes Go.RowKit Go.Deep Go.Proofs.Tryz
variable {P:Program}
theorem AL {w:World}:{l:List (String×DataW Unit)}->{ps:List MemPlace}->DataW.LaidVars P w l ps->{n:String}->{d:DataW Unit}->(n,d)∈l->∃g t cs fuel p,P.globalNamed n=some g/\(P.globals[g]?).map (·.type)=some t/\w.var? P n=some cs/\DataW.trod (fun _=>()) P w 0 (fun _=>true) false fuel t cs.toList=some (d,p)
 | [],ps,h,n,d,hm=>nomatch hm
 | (n',d')::r,ps,h,n,d,hm=>by
   obtain⟨g,t,cs,fuel,p,q,h1,h2,h3,h4,h5,_⟩:=h;rw[List.mem_cons]at hm;rcases hm with hm|hm
   ·cases hm
    exact⟨g,t,cs,fuel,p,h1,h2,h3,h4⟩
   ·exact AL h5 hm
theorem acD : prog.globalNamed "bloomery/tree.marks" = some 3 := by kernel_rfl
theorem acC : prog.globalNamed "bloomery/tree.levels" = some 4 := by kernel_rfl
theorem acF : prog.globalNamed "strconv.ErrRange" = some 6 := by kernel_rfl
theorem Xw:(prog.globals[3]?).map (·.type)=some 190/\prog.underlying 190=some (.array 24 9)/\prog.underlying 9=some .string/\prog.cellsOf 9=1:=⟨by kernel_rfl,by kernel_rfl,by kernel_rfl,by kernel_rfl⟩
theorem akg:(prog.globals[4]?).map (·.type)=some 237/\prog.underlying 237=some (.array 6 187)/\prog.underlying 187=some (.slice 9)/\prog.cellsOf 187=1:=⟨by kernel_rfl,by kernel_rfl,by kernel_rfl,by kernel_rfl⟩
theorem aki:(prog.globals[6]?).map (·.type)=some 38:=by kernel_rfl
noncomputable def abm:=match prog.underlying 38 with|some (.interface ms)=>ms|_=>#[]
theorem akm:prog.underlying 38=some (.interface abm):=by kernel_rfl
theorem one_cell {l:List Value} {j:Nat} {v:Value} (h:(l.drop j).take 1=[v]):l[j]?=some v:=by
 have:=congrArg (fun x:List Value=>x[0]?) h;simpa using this
theorem KG {s:ByteArray} {m:List UInt8} (h:s.data.toList=m):Value.string s=str m:=by
 unfold str;rw[<-h]
section
variable {W:World} {l:List (String×DataW Unit)} {ps:List MemPlace}
theorem aga (h : DataW.LaidVars prog W l ps) (hm : ("bloomery/tree.marks", Rows.laid_bloomery_tree_marks) ∈ l) : Marks W := by
 obtain⟨g,t,cs,fuel,p,h1,h2,h3,h4⟩:=AL h hm;obtain⟨t1,t2,t3,t4⟩:=Xw;obtain rfl:=Option.some.inj (acD.symm.trans h1);obtain rfl:=Option.some.inj (t1.symm.trans h2);obtain⟨xs,m,_,hx,hcs,hn,BN⟩:=DataW.trod_array t2 h4;have hL:xs.map (·.1)=kz.map fun m=>(DataW.lit (.string m):DataW Unit):=by
  have e:(Rows.laid_bloomery_tree_marks:DataW Unit)=.agg (kz.map fun m=>(DataW.lit (.string m):DataW Unit)):=rfl;rw[e]at hx;simp only[Prod.mk.injEq,DataW.agg.injEq]at hx;exact hx.1.symm
 intro i mk hi;have hlt:i<24:=by
  have:=(List.getElem?_eq_some_iff.1 hi).1;have acQ:kz.length=24:=rfl;omega
 have h5:=BN i hlt;rw[t4,Nat.mul_one]at h5;have h6:(xs.map (·.1))[i]?=some (DataW.lit (.string mk)):=by rw[hL,List.getElem?_map,hi];rfl
 rw[List.getElem?_map]at h6;cases cU:xs[i]? with
 | none=>rw[cU]at h6;cases h6
 | some x =>
   rw[cU]at h5 h6;obtain⟨s,a1,a2,a3⟩:=DataW.trod_string t3 h5;rw[a2]at h6;simp only[Option.map_some,Option.some.injEq,DataW.lit.injEq,Lit.string.injEq]at h6;rw[World.var?_cell h1 h3,<-Array.getElem?_toList,one_cell a1,KG h6]
theorem afz (h : DataW.LaidVars prog W l ps) (hm : ("bloomery/tree.levels", Rows.laid_bloomery_tree_levels) ∈ l) : vp W W.heap.size := by
 obtain⟨g,t,cs,fuel,p,h1,h2,h3,h4⟩:=AL h hm;obtain⟨t1,t2,t3,t4⟩:=akg;obtain⟨_,_,t5,t6⟩:=Xw;obtain rfl:=Option.some.inj (acC.symm.trans h1);obtain rfl:=Option.some.inj (t1.symm.trans h2);obtain⟨xs,m,_,hx,hcs,hn,BN⟩:=DataW.trod_array t2 h4;have hL:xs.map (·.1)=ky.map fun l=>(DataW.slice (l.map fun m=>(DataW.lit (.string m):DataW Unit)) []:DataW Unit):=by
  have e:(Rows.laid_bloomery_tree_levels:DataW Unit)=.agg (ky.map fun l=>(DataW.slice (l.map fun m=>(DataW.lit (.string m):DataW Unit)) []:DataW Unit)):=rfl;rw[e]at hx;simp only[Prod.mk.injEq,DataW.agg.injEq]at hx;exact hx.1.symm
 have row:∀ (i:Nat) (l:List (List UInt8)),ky[i]?=some l->∃p o c,W.cell? ⟨4,i,none⟩=some (.slice (some ⟨p,o,none⟩) l.length c)/\l.length<=c/\c<=100000/\p<W.heap.size/\∀ (j:Nat) (m:List UInt8),l[j]?=some m->W.cell? ⟨p,o+j,none⟩=some (str m):=by
  intro i lv hi;have hlt:i<6:=by
   have:=(List.getElem?_eq_some_iff.1 hi).1;have h6:ky.length=6:=rfl;omega
  have qh:0<lv.length/\lv.length<=4:=by
   have:∀l∈ky,0<l.length/\l.length<=4:=(by decide);exact this lv (List.mem_of_getElem? hi)
  have h5:=BN i hlt;rw[t4,Nat.mul_one]at h5;have h6:(xs.map (·.1))[i]?=some (DataW.slice (lv.map fun m=>(DataW.lit (.string m):DataW Unit)) []:DataW Unit):=by rw[hL,List.getElem?_map,hi];rfl
  rw[List.getElem?_map]at h6;cases cU:xs[i]? with
  | none=>rw[cU]at h6;cases h6
  | some x =>
    rw[cU]at h5 h6;rcases DataW.trod_slice t3 h5 with⟨_,a2⟩|⟨a,len,cap,elems,rest,n,_,a1,a2,a3,a4,a5,qP,Bl,Bn,_⟩
    ·rw[a2]at h6
     simp at h6
    ·rw[a2]at h6
     simp only[Option.map_some,Option.some.injEq,DataW.slice.injEq,List.map_eq_nil_iff]at h6;obtain⟨e1,rfl⟩:=h6;obtain⟨b1,_⟩:=Bn rfl;have hlen:len=lv.length:=by
      have:=congrArg List.length e1;simp only[List.length_map]at this;omega
     subst hlen;simp only[List.length_nil]at b1;have cell:∀ (j:Nat) (m:List UInt8),lv[j]?=some m->W.cell? (a.add j)=some (str m):=by
      intro j mm hj;have ep:j<lv.length:=(List.getElem?_eq_some_iff.1 hj).1;have c1:=Bl j ep;rw[t6,Nat.mul_one]at c1;have c2:(elems.map (·.1))[j]?=some (DataW.lit (.string mm)):=(by rw[e1,List.getElem?_map,hj];rfl);rw[List.getElem?_map]at c2;cases he:elems[j]? with
      | none=>rw[he]at c2;cases c2
      | some y =>
        rw[he]at c1 c2;rw[Option.bind_eq_some_iff]at c1;obtain⟨vs,d1,d2⟩:=c1;obtain⟨s,f1,f2,f3⟩:=DataW.trod_string t5 d2;rw[f2]at c2;simp only[Option.map_some,Option.some.injEq,DataW.lit.injEq,Lit.string.injEq]at c2;rw[f1]at d1;unfold World.cells? at d1;rw[if_pos (Nat.zero_le _),show List.range 1=[0] from rfl]at d1;simp only[List.mapM_cons,List.mapM_nil,Option.bind_eq_bind,Option.bind_eq_some_iff,Option.pure_def,Option.some.injEq,List.cons.injEq]at d1;obtain⟨v,g1,_,rfl,rfl,_⟩:=d1;rw[KG c2]at g1;simpa [Addr.add] using g1
     obtain⟨p,o,sp⟩:=a;have c0:=cell 0 (lv[0]'qh.1) (List.getElem?_eq_getElem _);have hsp:sp=none:=by
      simp only[Addr.add,if_true]at c0;unfold World.cell? at c0;split at c0
      ·cases sp with
       | none=>rfl
       | some _=>simp at c0
      ·cases c0
     subst hsp;refine⟨p,o,cap,?_,a4,by omega,?_,?_⟩
     ·rw[World.var?_cell h1 h3,<-Array.getElem?_toList,one_cell a1]
     ·have:=World.block_lt_of_cell? _ _ c0
      simpa [Addr.add] using this
     ·intro j mm hj
      have:=cell j mm hj;cases j with
      | zero=>exact this
      | succ j=>simpa [Addr.add] using this
 obtain⟨p0,ag4,c0,e0,_⟩:=row 0 _ rfl;exact⟨World.block_lt_of_cell? _ _ e0,row⟩
theorem aeR {W:World} {t:TypeId} {ms:_} {fuel:Nat} {cs:List Value} {d:DataW Unit} {p:List MemPlace} (ht:P.underlying t=some (.interface ms)) (h:DataW.trod (fun _=>()) P W 0 (fun _=>true) false fuel t cs=some (d,p)) (hd:d≠.nil):∃u v,cs=[.iface u v]:=by
 cases fuel with
 | zero=>simp[DataW.trod]at h
 | succ n =>
   unfold DataW.trod at h;rw[ht]at h;split at h <;> simp_all
theorem ahS (h : DataW.LaidVars prog W l ps) (hm : ("strconv.ErrRange", Rows.laid_strconv_ErrRange) ∈ l) : Bh W W.heap.size := by
 obtain⟨g,t,cs,fuel,p,h1,h2,h3,h4⟩:=AL h hm;obtain rfl:=Option.some.inj (acF.symm.trans h1);obtain rfl:=Option.some.inj (aki.symm.trans h2);have key:=aeR akm h4 (by simp[Rows.laid_strconv_ErrRange]);obtain⟨u,v,hc⟩:=key;have h5:W.cell? ⟨6,0,none⟩=some (.iface u v):=by
  rw[World.var?_cell h1 h3,<-Array.getElem?_toList,hc];rfl
 exact⟨World.block_lt_of_cell? _ _ h5,u,v,h5⟩
theorem afq (h : DataW.LaidVars prog W l ps) (h1 : ("bloomery/tree.marks", Rows.laid_bloomery_tree_marks) ∈ l) (h2 : ("bloomery/tree.levels", Rows.laid_bloomery_tree_levels) ∈ l) (h3 : ("strconv.ErrRange", Rows.laid_strconv_ErrRange) ∈ l) : Laid W :=
 ⟨aga h h1,afz h h2,ahS h h3⟩
end
end aB
namespace aW
open Go.Joins Go.ChangeShapes Go.WideShapes Go.RowKit Go.Deep Go.Proofs.Tryz
variable {W:World}
noncomputable def nine : List (String × DataW Unit) := [("math/bits.deBruijn32tab", Rows.laid_math_bits_deBruijn32tab), ("math/bits.deBruijn64tab", Rows.laid_math_bits_deBruijn64tab), ("internal/strconv.uint64pow10", Rows.laid_internal_strconv_uint64pow10), ("bloomery/mid.ops", Rows.laid_bloomery_mid_ops), ("bloomery/mid.forms", Rows.laid_bloomery_mid_forms), ("strconv.ErrRange", Rows.laid_strconv_ErrRange), ("strconv.ErrSyntax", Rows.laid_strconv_ErrSyntax), ("bloomery/tree.marks", Rows.laid_bloomery_tree_marks), ("bloomery/tree.levels", Rows.laid_bloomery_tree_levels)]
theorem O6 (h:laidMetH prog nine W):aB.Laid W/\n4 W/\mZ W:=by
 rw[MakeChecks.laidMetH_plain _ _ _ (by kernel_rfl)]at h;obtain⟨ps,hv,_⟩:=h;exact⟨aB.afq hv (by simp[nine]) (by simp[nine]) (by simp[nine]),acj hv (by simp[nine]),ahg hv (by simp[nine])⟩
theorem agV (os:Os) (f:_) (args:Array Value):laidMetH prog nine ((World.doorLaid prog 300 os).forCall f ⟨#[],args,[]⟩).memory:=by
 rw[MakeChecks.laidMetH_plain _ _ _ (by kernel_rfl)];exact laidMet_of_run' 8 (by kernel_rfl) (by kernel_rfl)
theorem V4 {v:Value} {l:List Int} (h:bB.LM W v l):ij W bB.ai v l/\∀n c,v=.slice none n c->c=0:=by
 obtain⟨a,n,c,rfl,h1,h2,h3,h4,-,h5⟩:=h;refine⟨⟨a,n,c,rfl,h1,h2,h3,fun i x hx=>?_⟩,fun n' c' e=>?_⟩
 ·obtain⟨g,o,e1,e2⟩:=h5 i x hx
  exact⟨g,o,e1,fun f=>f,e2⟩
 ·obtain⟨e1,-,e2⟩:=Value.slice.inj e
  rw[<-e2];exact h4 e1
end aW
namespace aW
open Go.RowKit aB Go.Proofs.Tryz
structure Lw where
 types:List Int
 steps:List ax
 names:List (List UInt8×Int)
 labels:Nat
 none:Int
def aM:ax:=⟨0,0,0,0,0,0,[],0,[],[]⟩
def fl:List (List UInt8×Int)->List UInt8->Int
 | [],_=>0
 | p::r,x=>if p.1=x then p.2 else fl r x
def xH (l:List (List UInt8×Int)) (x:List UInt8) (k:Int):List (List UInt8×Int):=(x,k)::l
theorem zL (l:List (List UInt8×Int)) (x y:List UInt8) (k:Int):fl (xH l x k) y=if y=x then k else fl l y:=by
 simp only[xH,fl];by_cases h:x=y
 ·rw[if_pos h,if_pos h.symm]
 ·rw[if_neg h,if_neg (fun e=>h e.symm)]
def y0 (k:Int) (w:Lw):Int×Lw:=((w.types.length:Int),{ w with types:=w.types++[k] })
def a8 (s:ax) (w:Lw):Lw:={ w with steps:=w.steps++[s] }
def bC (k:Int) (s:ax) (w:Lw):Int×Lw:=((w.types.length:Int),{ w with types:=w.types++[k],steps:=w.steps++[{ s with dst:=(w.types.length:Int) }] })
def b7 (w:Lw):Nat×Lw:=(w.labels+1,{ w with labels:=w.labels+1 })
def lR (a:Int) (w:Lw):Int×Lw:=bC 1 { aM with code:=3,op:=[61,61],a:=a,b:=w.none } w
def fU (x:List UInt8) (k:Int) (w:Lw):Int×Lw:=((w.types.length:Int),{ w with types:=w.types++[k],names:=xH w.names x (w.types.length:Int) })
def iz (op:List UInt8) (a:Int) (w:Lw):Int×Int×Lw :=
 if op=[124,124] then ((bC 1 { aM with code:=3,op:=[33,61],a:=a,b:=w.none } w).1,lR (bC 1 { aM with code:=3,op:=[33,61],a:=a,b:=w.none } w).1 (bC 1 { aM with code:=3,op:=[33,61],a:=a,b:=w.none } w).2)
 else ((bC 1 { aM with code:=3,op:=[33,61],a:=a,b:=w.none } w).1,bC 1 { aM with code:=3,op:=[33,61],a:=a,b:=w.none } w)
mutual
def au:aL->Lw->Int×Lw
 | .num _ n,w=>bC 1 { aM with code:=1,n:=n } w
 | .var _ x,w=>(fl w.names x,w)
 | .un _ op x,w=>if op=[33] then lR (au x w).1 (au x w).2 else bC 1 { aM with code:=3,op:=[45],a:=(au x w).2.none,b:=(au x w).1 } (au x w).2
 | .bin _ op l r,w =>
   if op=[38,38]\/op=[124,124] then
    (let e:=b7 w
     let a:=au l e.2
     let s:=iz op a.1 a.2
     let b:=au r (a8 { aM with code:=5,a:=s.2.1,label:=(e.1:Int) } s.2.2)
     (s.1,a8 { aM with code:=6,label:=(e.1:Int) } (a8 { aM with code:=3,op:=[33,61],dst:=s.1,a:=b.1,b:=b.2.none } b.2)))
   else
    (let a:=au l w
     let b:=au r a.2
     bC 1 { aM with code:=3,op:=op,a:=a.1,b:=b.1 } b.2)
 | .call _ g args,w=>bC 1 { aM with code:=7,name:=g,args:=(eu args w).1 } (eu args w).2
 | .new _ x,w=>bC 2 { aM with code:=9,a:=(au x w).1 } (au x w).2
 | .len _ x,w=>bC 1 { aM with code:=10,a:=(au x w).1 } (au x w).2
 | .item _ x i,w=>bC 1 { aM with code:=11,a:=(au x w).1,b:=(au i (au x w).2).1 } (au i (au x w).2).2
 | .input _,w=>bC 1 { aM with code:=14 } w
def eu:List aL->Lw->List Int×Lw
 | [],w=>([],w)
 | e::r,w=>((au e w).1::(eu r (au e w).2).1,(eu r (au e w).2).2)
end
mutual
def bW:St->Lw->Lw
 | .var _ x v,w =>
   let a:=au v w
   let k:=fU x (a.2.types.getD a.1.toNat 0) a.2
   a8 { aM with code:=2,dst:=k.1,a:=a.1 } k.2
 | .set _ x v,w=>a8 { aM with code:=2,dst:=fl (au v w).2.names x,a:=(au v w).1 } (au v w).2
 | .put _ x i v,w =>
   let a:=au i w
   let b:=au v a.2
   a8 { aM with code:=12,a:=fl b.2.names x,b:=a.1,c:=b.1 } b.2
 | .cond _ v t e,w =>
   let l1:=b7 w
   let l2:=b7 l1.2
   let c:=au v l2.2
   let w1:=cZ t (a8 { aM with code:=5,a:=c.1,label:=(l1.1:Int) } c.2)
   let w2:=cZ e (a8 { aM with code:=6,label:=(l1.1:Int) } (a8 { aM with code:=4,label:=(l2.1:Int) } w1))
   a8 { aM with code:=6,label:=(l2.1:Int) } w2
 | .loop _ v t,w =>
   let l1:=b7 w
   let l2:=b7 l1.2
   let c:=au v (a8 { aM with code:=6,label:=(l1.1:Int) } l2.2)
   let w1:=cZ t (a8 { aM with code:=5,a:=c.1,label:=(l2.1:Int) } c.2)
   a8 { aM with code:=6,label:=(l2.1:Int) } (a8 { aM with code:=4,label:=(l1.1:Int) } w1)
 | .ret _ v,w=>a8 { aM with code:=8,a:=(au v w).1 } (au v w).2
 | .print _ v,w=>a8 { aM with code:=13,a:=(au v w).1 } (au v w).2
 | .call _ v,w=>(au v w).2
def cZ:List St->Lw->Lw
 | [],w=>w
 | x::r,w=>cZ r (bW x w)
end
def iy:List (List UInt8×Int)->Lw->Lw
 | [],w=>w
 | p::r,w=>iy r { w with types:=w.types++[p.2],names:=xH w.names p.1 (w.types.length:Int) }
def ey (f:aB.Fn):Lw :=
 let w:=iy f.params ⟨[],[],[],0,0⟩
 { (bC 1 { aM with code:=1 } w).2 with none:=(w.types.length:Int) }
def pC (f:aB.Fn):Lw:=a8 { aM with code:=8,a:=(cZ f.body (ey f)).none } (cZ f.body (ey f))
def gV (f:aB.Fn):ar:=⟨f.name,(f.params.length:Int),(pC f).types,(pC f).steps⟩
def cI (L:List aB.Fn):List ar:=L.map gV
def Lw.sz (w:Lw):Nat:=w.types.length+w.steps.length+w.labels+w.names.length
mutual
def bK:aL->Nat
 | .num _ _=>1
 | .var _ _=>1
 | .un _ _ x=>1+bK x
 | .bin _ _ l r=>1+bK l+bK r
 | .call _ _ l=>1+mA l
 | .new _ x=>1+bK x
 | .len _ x=>1+bK x
 | .item _ x i=>1+bK x+bK i
 | .input _=>1
def mA:List aL->Nat
 | []=>0
 | e::r=>bK e+mA r
end
theorem sJ (k:Int) (s:ax) (w:Lw):(bC k s w).2.sz=w.sz+2:=by simp only[bC,Lw.sz,List.length_append,List.length_singleton];omega
theorem k8 (s:ax) (w:Lw):(a8 s w).sz=w.sz+1:=by simp only[a8,Lw.sz,List.length_append,List.length_singleton];omega
theorem wy (w:Lw):(b7 w).2.sz=w.sz+1:=by simp only[b7,Lw.sz];omega
theorem KQ (a:Int) (w:Lw):(lR a w).2.sz=w.sz+2:=sJ _ _ _
theorem O4 (x:List UInt8) (k:Int) (w:Lw):(fU x k w).2.sz=w.sz+2:=by simp only[fU,xH,Lw.sz,List.length_append,List.length_cons,List.length_nil];omega
theorem aiR (op:List UInt8) (a:Int) (w:Lw):(iz op a w).2.2.sz<=w.sz+4:=by
 unfold iz;split
 ·simp only[KQ,sJ];omega
 ·simp only[sJ];omega
mutual
theorem gZ:(e:aL)->(w:Lw)->(au e w).2.sz<=w.sz+8*bK e
 | .num _ _,w=>by simp only[au,sJ,bK];omega
 | .var _ _,w=>by simp only[au,bK];omega
 | .un _ op x,w=>by
   have h:=gZ x w;simp only[au,bK];split
   ·rw[KQ];omega
   ·rw[sJ];omega
 | .bin _ op l r,w=>by
   simp only[au,bK];split
   ·simp only[k8]
    have h1:=wy w;have h2:=gZ l (b7 w).2;have h3:=aiR op (au l (b7 w).2).1 (au l (b7 w).2).2;refine Nat.le_trans (Nat.add_le_add_right (Nat.add_le_add_right (gZ r _) 1) 1) ?_;rw[k8];omega
   ·rw[sJ]
    have h1:=gZ l w;have h2:=gZ r (au l w).2;omega
 | .call _ _ l,w=>by
   have h:=H9 l w;simp only[au,bK,sJ];omega
 | .new _ x,w=>by
   have h:=gZ x w;simp only[au,bK,sJ];omega
 | .len _ x,w=>by
   have h:=gZ x w;simp only[au,bK,sJ];omega
 | .item _ x i,w=>by
   have h:=gZ x w;have h2:=gZ i (au x w).2;simp only[au,bK,sJ];omega
 | .input _,w=>by simp only[au,sJ,bK];omega
theorem H9:(l:List aL)->(w:Lw)->(eu l w).2.sz<=w.sz+8*mA l
 | [],w=>by simp only[eu];omega
 | e::r,w=>by
   have h1:=gZ e w;have h2:=H9 r (au e w).2;simp only[eu,mA];omega
end
def mJ (x:List UInt8):Prop:=x.length<=10000000
mutual
def gl:aL->Prop
 | .num _ _=>True
 | .var _ x=>mJ x
 | .un _ op x=>mJ op/\gl x
 | .bin _ op l r=>mJ op/\gl l/\gl r
 | .call _ g l=>mJ g/\l.length<=1000000/\vv l
 | .new _ x=>gl x
 | .len _ x=>gl x
 | .item _ x i=>gl x/\gl i
 | .input _=>True
def vv:List aL->Prop
 | []=>True
 | e::r=>gl e/\vv r
end
mutual
def dH:St->Nat
 | .var _ _ v=>1+bK v
 | .set _ _ v=>1+bK v
 | .put _ _ i v=>1+bK i+bK v
 | .cond _ v t e=>1+bK v+jz t+jz e
 | .loop _ v t=>1+bK v+jz t
 | .ret _ v=>1+bK v
 | .print _ v=>1+bK v
 | .call _ v=>1+bK v
def jz:List St->Nat
 | []=>0
 | s::r=>dH s+jz r
end
mutual
theorem ajK:(s:St)->(w:Lw)->(bW s w).sz<=w.sz+8*dH s
 | .var _ x v,w=>by
   have h:=gZ v w;simp only[bW,dH,k8,O4];omega
 | .set _ x v,w=>by
   have h:=gZ v w;simp only[bW,dH,k8];omega
 | .put _ x i v,w=>by
   have h:=gZ i w;have h2:=gZ v (au i w).2;simp only[bW,dH,k8];omega
 | .cond _ v t e,w=>by
   simp only[bW,dH];generalize h1:b7 w=l1;generalize h2:b7 l1.2=l2;have e1:=wy w;have e2:=wy l1.2;rw[h1]at e1;rw[h2]at e2;have e3:=gZ v l2.2;rw[k8];refine Nat.le_trans (Nat.add_le_add_right (w_ e _) 1) ?_;rw[k8,k8];refine Nat.le_trans (Nat.add_le_add_right (Nat.add_le_add_right (Nat.add_le_add_right (Nat.add_le_add_right (w_ t _) 1) 1) _) 1) ?_;rw[k8];omega
 | .loop _ v t,w=>by
   simp only[bW,dH];generalize h1:b7 w=l1;generalize h2:b7 l1.2=l2;have e1:=wy w;have e2:=wy l1.2;rw[h1]at e1;rw[h2]at e2;rw[k8,k8];refine Nat.le_trans (Nat.add_le_add_right (Nat.add_le_add_right (w_ t _) 1) 1) ?_;rw[k8];refine Nat.le_trans (Nat.add_le_add_right (Nat.add_le_add_right (Nat.add_le_add_right (Nat.add_le_add_right (gZ v _) 1) _) 1) 1) ?_;rw[k8];omega
 | .ret _ v,w=>by
   have h:=gZ v w;simp only[bW,dH,k8];omega
 | .print _ v,w=>by
   have h:=gZ v w;simp only[bW,dH,k8];omega
 | .call _ v,w=>by
   have h:=gZ v w;simp only[bW,dH];omega
theorem w_:(l:List St)->(w:Lw)->(cZ l w).sz<=w.sz+8*jz l
 | [],w=>by simp only[cZ];omega
 | s::r,w=>by
   have h1:=ajK s w;have h2:=w_ r (bW s w);simp only[cZ,jz];omega
end
mutual
def mY:St->Prop
 | .var _ x v=>mJ x/\gl v
 | .set _ x v=>mJ x/\gl v
 | .put _ x i v=>mJ x/\gl i/\gl v
 | .cond _ v t e=>gl v/\pV t/\pV e
 | .loop _ v t=>gl v/\pV t
 | .ret _ v=>gl v
 | .print _ v=>gl v
 | .call _ v=>gl v
def pV:List St->Prop
 | []=>True
 | s::r=>mY s/\pV r
end
def kF (w:Lw):Prop:=0<w.types.length/\∀x,0<=fl w.names x/\fl w.names x<(w.types.length:Int)
theorem kF.grow {w w':Lw} (h:kF w) (ht:w.types.length<=w'.types.length) (hn:w'.names=w.names):kF w' :=
 ⟨by have:=h.1;omega,fun x=>by rw[hn];have:=h.2 x;omega⟩
theorem uS {w:Lw} (k:Int) (s:ax) (h:kF w):kF (bC k s w).2/\0<=(bC k s w).1/\(bC k s w).1<((bC k s w).2.types.length:Int):=by
 refine⟨h.grow (by simp[bC]) rfl,?_,?_⟩
 ·simp only[bC];omega
 ·simp only[bC,List.length_append,List.length_singleton];omega
theorem m_ {w:Lw} (s:ax) (h:kF w):kF (a8 s w):=h.grow (Nat.le_refl _) rfl
theorem yQ {w:Lw} (h:kF w):kF (b7 w).2:=h.grow (Nat.le_refl _) rfl
theorem agI {w:Lw} (x:List UInt8) (k:Int) (h:kF w):kF (fU x k w).2:=by
 refine⟨by simp[fU],fun y=>?_⟩;have:=h.2 y;simp only[fU,zL,List.length_append,List.length_singleton];split <;> omega
theorem aiP {w:Lw} (op:List UInt8) (a:Int) (h:kF w):kF (iz op a w).2.2/\0<=(iz op a w).1/\(iz op a w).1<((iz op a w).2.2.types.length:Int):=by
 unfold iz;split
 ·have h1:=uS 1 { aM with code:=3,op:=[33,61],a:=a,b:=w.none } h
  refine⟨(uS _ _ h1.1).1,h1.2.1,?_⟩;have h2:=h1.2.2;simp only[lR,bC,List.length_append,List.length_singleton]at h2 ⊢;omega
 ·exact uS _ _ h
mutual
theorem mz:(e:aL)->(w:Lw)->kF w->kF (au e w).2/\0<=(au e w).1/\(au e w).1<((au e w).2.types.length:Int)
 | .num _ _,w,h=>by simp only[au];exact uS _ _ h
 | .var _ x,w,h=>by simp only[au];exact⟨h,h.2 x⟩
 | .un _ op x,w,h=>by
   have h1:=mz x w h;simp only[au];split
   ·exact uS _ _ h1.1
   ·exact uS _ _ h1.1
 | .bin _ op l r,w,h=>by
   simp only[au];split
   ·have h1:=mz l _ (yQ h)
    have h2:=aiP op (au l (b7 w).2).1 h1.1;refine⟨m_ _ (m_ _ (mz r _ (m_ _ h2.1)).1),h2.2.1,?_⟩;refine Int.lt_of_lt_of_le h2.2.2 ?_;refine Int.ofNat_le.2 ?_;refine Nat.le_trans ?_ (gu r _);exact Nat.le_refl _
   ·have h1:=mz l w h
    have h2:=mz r _ h1.1;exact uS _ _ h2.1
 | .call _ _ l,w,h=>by
   simp only[au];exact uS _ _ (RL l w h)
 | .new _ x,w,h=>by
   simp only[au];exact uS _ _ (mz x w h).1
 | .len _ x,w,h=>by
   simp only[au];exact uS _ _ (mz x w h).1
 | .item _ x i,w,h=>by
   simp only[au];exact uS _ _ (mz i _ (mz x w h).1).1
 | .input _,w,h=>by simp only[au];exact uS _ _ h
theorem RL:(l:List aL)->(w:Lw)->kF w->kF (eu l w).2
 | [],w,h=>h
 | e::r,w,h=>by
   simp only[eu];exact RL r _ (mz e w h).1
theorem gu:(e:aL)->(w:Lw)->w.types.length<=(au e w).2.types.length
 | .num _ _,w=>by simp[au,bC]
 | .var _ x,w=>by simp[au]
 | .un _ op x,w=>by
   have h1:=gu x w;simp only[au];split
   ·simp only[lR,bC,List.length_append,List.length_singleton];omega
   ·simp only[bC,List.length_append,List.length_singleton];omega
 | .bin _ op l r,w=>by
   simp only[au];split
   ·have h1:=gu l (b7 w).2
    refine Nat.le_trans ?_ (gu r _);refine Nat.le_trans h1 ?_;unfold iz;split
    ·simp only[a8,lR,bC,List.length_append,List.length_singleton];omega
    ·simp only[a8,bC,List.length_append,List.length_singleton];omega
   ·have h1:=gu l w
    have h2:=gu r (au l w).2;simp only[bC,List.length_append,List.length_singleton];omega
 | .call _ _ l,w=>by
   have h1:=H_ l w;simp only[au,bC,List.length_append,List.length_singleton];omega
 | .new _ x,w=>by
   have h1:=gu x w;simp only[au,bC,List.length_append,List.length_singleton];omega
 | .len _ x,w=>by
   have h1:=gu x w;simp only[au,bC,List.length_append,List.length_singleton];omega
 | .item _ x i,w=>by
   have h1:=gu x w;have h2:=gu i (au x w).2;simp only[au,bC,List.length_append,List.length_singleton];omega
 | .input _,w=>by simp[au,bC]
theorem H_:(l:List aL)->(w:Lw)->w.types.length<=(eu l w).2.types.length
 | [],w=>Nat.le_refl _
 | e::r,w=>by
   have h1:=gu e w;have h2:=H_ r (au e w).2;simp only[eu];omega
end
mutual
theorem ajI:(s:St)->(w:Lw)->kF w->kF (bW s w)
 | .var _ x v,w,h=>by simp only[bW];exact m_ _ (agI _ _ (mz v w h).1)
 | .set _ x v,w,h=>by simp only[bW];exact m_ _ (mz v w h).1
 | .put _ x i v,w,h=>by simp only[bW];exact m_ _ (mz v _ (mz i w h).1).1
 | .cond _ v t e,w,h=>by
   simp only[bW];exact m_ _ (C8 e _ (m_ _ (m_ _ (C8 t _ (m_ _ (mz v _ (yQ (yQ h))).1)))))
 | .loop _ v t,w,h=>by
   simp only[bW];exact m_ _ (m_ _ (C8 t _ (m_ _ (mz v _ (m_ _ (yQ (yQ h)))).1)))
 | .ret _ v,w,h=>by simp only[bW];exact m_ _ (mz v w h).1
 | .print _ v,w,h=>by simp only[bW];exact m_ _ (mz v w h).1
 | .call _ v,w,h=>by simp only[bW];exact (mz v w h).1
theorem C8:(l:List St)->(w:Lw)->kF w->kF (cZ l w)
 | [],w,h=>h
 | s::r,w,h=>by
   simp only[cZ];exact C8 r _ (ajI s w h)
end
theorem We:(l:List (List UInt8×Int))->(p:List UInt8×Int)->(w:Lw)->iy (l++[p]) w=(fU p.1 p.2 (iy l w)).2
 | [],p,w=>rfl
 | a::l,p,w=>by
   simp only[List.cons_append,iy];exact We l p _
theorem Ko:(l:List (List UInt8×Int))->(w:Lw)->(iy l w).sz=w.sz+2*l.length
 | [],w=>rfl
 | a::l,w=>by
   have:=Ko l (fU a.1 a.2 w).2;rw[O4]at this;simp only[iy,List.length_cons];simp only[fU]at this;rw[this];omega
def Rq (w:Lw):Prop:=∀x,0<=fl w.names x/\(fl w.names x<(w.types.length:Int)\/fl w.names x=0)
theorem Wf:(l:List (List UInt8×Int))->(w:Lw)->Rq w->Rq (iy l w)
 | [],w,h=>h
 | a::l,w,h=>by
   simp only[iy];refine Wf l _ (fun y=>?_);have:=h y;simp only[zL,List.length_append,List.length_singleton];split <;> omega
def iJ:Lw:=⟨[],[],[],0,0⟩
theorem adF (f:aB.Fn):kF (ey f):=by
 have h:=Wf f.params iJ (fun x=>⟨Int.le_refl 0,Or.inr rfl⟩);refine⟨by simp[ey,bC],fun x=>?_⟩;have:=h x;simp only[ey,bC,List.length_append,List.length_singleton]
 show 0<=fl (iy f.params iJ).names x/\fl (iy f.params iJ).names x<(((iy f.params iJ).types.length+1:Nat):Int)
 omega
theorem Nf (f:aB.Fn):(ey f).sz=2*f.params.length+2:=by
 have h:=sJ 1 { aM with code:=1 } (iy f.params iJ);rw[Ko]at h;have h0:iJ.sz=0:=rfl
 show (bC 1 { aM with code:=1 } (iy f.params iJ)).2.sz=_
 omega
def LJ (f:aB.Fn):Prop:=(∀p∈f.params,mJ p.1)/\pV f.body/\2*f.params.length+8*jz f.body<=800000
end aW
namespace aW
open Go.RowKit bB Go.Maps aB Go.Proofs.Tryz
variable {W W' bw a7:World} {M P S T M':Nat->Prop} {ak b g base q n i p:Nat} {w w':Lw} {nm:List UInt8} {pr:Int} {v v' tv sv ov av:Value} {A:List (Nat×Nat)} {cs:List Value} {l L:List ar} {s:aC} {x:V}
theorem JM:(prog.info? 3).map (fun i=>(i.zero,i.size,i.bytes))=some (some (.int .i64 0),1,8):=by kernel_rfl
def ze:Value:=.agg #[.int .i64 0,.int .i64 0,.int .i64 0,.int .i64 0,.int .i64 0,.int .i64 0,.string ⟨#[]⟩,.int .i64 0,.string ⟨#[]⟩,.slice none 0 0]
theorem Ej:(prog.info? 57).map (fun i=>(i.zero,i.size,i.bytes))=some (some ze,10,112):=by kernel_rfl
def mq (W:World) (S:Nat->Prop) (cs:List Value) (l:List ax):Prop:=∀ (i:Nat) (x:ax),l[i]?=some x->∃av,(∀k u,(aY x av)[k]?=some u->cs[i*10+k]?=some u)/\dh W S av x.args
theorem mq.mods {l:List ax} (h:mq W S cs l) (hm:ag S W W') (hT:∀k,k<W.heap.size->T k->S k):mq W' T cs l:=fun i x hx=>by
 obtain⟨av,h1,h2⟩:=h i x hx;exact⟨av,h1,h2.mods hm hT⟩
theorem rB (x:ax) (av:Value):(aY x av).length=10:=rfl
theorem mq.grow {l:List ax} (h:mq W S cs l) (hl:cs.length=l.length*10) {x:ax} (hx:dh W S av x.args):mq W S (cs++aY x av) (l++[x]):=fun i y hy=>by
 rcases aov i l.length with hi|hi
 ·rw[anI hi]at hy
  obtain⟨bv,h1,h2⟩:=h i y hy;refine⟨bv,fun k u hk=>?_,h2⟩;have vU:k<10:=by
   have:=(anA.1 hk).1;rwa [rB]at this
  rw[anI (by omega)];exact h1 k u hk
 ·rw[anH hi]at hy
  obtain⟨hE,hy⟩:=anA.1 hy;simp only[an0]at hE;obtain rfl:i=l.length:=by omega
  simp only[aog,aop]at hy;subst hy;refine⟨av,fun k u hk=>?_,hx⟩;rw[anH (by omega),show l.length*10+k-cs.length=k by omega];exact hk
def nL (F:ar) (tv sv:Value):List Value:=[str F.name,.int .i64 F.params,tv,sv]
def zC (W:World) (S:Nat->Prop) (cs:List Value) (l:List ar):Prop:=∀ (i:Nat) (x:ar),l[i]?=some x->∃tv sv,(∀k u,(nL x tv sv)[k]?=some u->cs[i*4+k]?=some u)/\dh W S tv x.types/\jS W S sv x.steps
theorem zC.mods (h:zC W S cs l) (hm:ag S W W') (hT:∀k,k<W.heap.size->T k->S k):zC W' T cs l:=fun i x hx=>by
 obtain⟨tv,sv,h1,h2,h3⟩:=h i x hx;exact⟨tv,sv,h1,h2.mods hm hT,h3.mods hm hT⟩
theorem zC.grow (h:zC W S cs l) (hl:cs.length=l.length*4) {x:ar} (hx:dh W S tv x.types) (hx2:jS W S sv x.steps):zC W S (cs++nL x tv sv) (l++[x]):=fun i y hy=>by
 rcases aov i l.length with hi|hi
 ·rw[anI hi]at hy
  obtain⟨bv,qR,h1,h2,h3⟩:=h i y hy;refine⟨bv,qR,fun k u hk=>?_,h2,h3⟩;have vU:k<4:=(anA.1 hk).1;rw[anI (by omega)];exact h1 k u hk
 ·rw[anH hi]at hy
  obtain⟨hE,hy⟩:=anA.1 hy;simp only[an0]at hE;obtain rfl:i=l.length:=by omega
  simp only[aog,aop]at hy;subst hy;refine⟨tv,sv,fun k u hk=>?_,hx,hx2⟩;rw[anH (by omega),show l.length*4+k-cs.length=k by omega];exact hk
def oL (W:World) (base q:Nat) (v:Value) (l:List ar):Prop:=∃cs,W.ownsRow base 55 4 v l.length cs/\zC W (fun k=>k=q\/v.ownBlock=some k) cs l/\∀k,v.ownBlock=some k->k≠q
theorem oL.none_ (W:World) (base q:Nat):oL W base q (.slice none 0 0) []:=⟨[],World.ownsRow_nil _ _ _ _,(fun i x hx=>by simp at hx),(fun k hk=>by cases hk)⟩
theorem oL.mods (h:oL W base q v l) (hm:ag (·=q) W W'):oL W' base q v l:=by
 obtain⟨cs,h1,h2,h3⟩:=h;exact⟨cs,hm.ownsRow h1 (fun k hk ht=>h3 k hk ht),h2.mods (hm.mono fun k _ ht=>Or.inl ht) (fun _ _ k=>k),h3⟩
theorem oL.form (h:oL W base q v l):∃aG aF,v=.slice aG l.length aF:=by
 obtain⟨cs,h1,_⟩:=h;rcases h1.2 with⟨hv,h0⟩|⟨g,cap,cur,hv,_⟩
 ·exact⟨_,_,by rw[hv,h0]⟩
 ·exact⟨_,_,hv⟩
theorem oL.lt (h:oL W base q v l):∀k,v.ownBlock=some k->base<=k/\k<W.heap.size:=by
 obtain⟨cs,h1,_⟩:=h;exact h1.lt
theorem oL.at_ (h:oL W base q v l):iM W ai v l:=by
 obtain⟨cs,h1,h2,-⟩:=h;rcases h1.2 with⟨hv,h0⟩|⟨g,cap,cur,hv,h3,h4,h5,h6,h7,h8⟩
 ·obtain rfl:l=[]:=anJ h0
  exact⟨none,0,hv,anC _,anC _,fun _=>rfl,fun i s hs=>by simp at hs⟩
 ·refine⟨_,cap,hv,h5,h6,(fun h=>by cases h),fun i s hs=>?_⟩
  obtain⟨tv,sv,k1,k2,k3⟩:=h2 i s hs;have hc:∀k u,(nL s tv sv)[k]?=some u->W.cell? ⟨g,0+i*4+k,none⟩=some u:=fun k u hk=>by
   have:=h1.cells (g:=g) (by rw[hv];rfl) (i*4+k) u (k1 k u hk);rw[add_plain]at this;rw[aoI];exact this
  exact⟨g,0,tv,sv,rfl,id,hc 0 _ rfl,hc 1 _ rfl,hc 2 _ rfl,hc 3 _ rfl,k2.mods ay (fun k _ f=>f.elim),k3.mods ay (fun k _ f=>f.elim)⟩
theorem Wa {w4 aJ:World} {x:ar} (h1:w4.ownsRow base 55 4 v l.length cs) (h2:zC w4 (fun k=>k=q\/v.ownBlock=some k) cs l) (h3:∀k,v.ownBlock=some k->k≠q) (hq:q<w4.heap.size) (hx:dh w4 (fun k=>k=q\/v.ownBlock=some k) tv x.types) (hx2:jS w4 (fun k=>k=q\/v.ownBlock=some k) sv x.steps)
 (hown:aJ.ownsRow base 55 4 v' (l.length+1) (cs++nL x tv sv)) (hg:w4.grownBy aJ v.ownBlock) (hloc:v'.ownBlock=v.ownBlock\/v'.ownBlock=some w4.heap.size):oL aJ base q v' (l++[x]):=by
 have hm:ag (fun k=>k=q\/v.ownBlock=some k) w4 aJ:=(ag.of_grownBy (S:=fun k=>v.ownBlock=some k) hg (fun k hk _=>hk)).mono fun k _ h=>Or.inr h
 have hT:∀k,k<w4.heap.size->(k=q\/v'.ownBlock=some k)->(k=q\/v.ownBlock=some k):=fun k hk e=>e.imp id (fun e=>by
  rcases hloc with hl|hl
  ·rw[<-hl];exact e
  ·rw[hl]at e
   have:=anz e;omega)
 refine⟨cs++nL x tv sv,by simpa using hown,?_,fun k hk e=>?_⟩
 ·exact (h2.mods hm hT).grow h1.1 (hx.mods hm hT) (hx2.mods hm hT)
 ·rcases hloc with hl|hl
  ·exact h3 k (by rw[<-hl];exact hk) e
  ·rw[hl]at hk
   have:=anz hk;omega
def akE:Value:=.agg #[.string ⟨#[]⟩,.int .i64 0,.slice none 0 0,.slice none 0 0]
theorem SJ:(prog.info? 55).map (fun i=>(i.zero,i.size,i.bytes))=some (some akE,4,72):=by kernel_rfl
theorem ab1 (x:ar) (ta sa:Option Addr) (tn tc sn sc:Nat):∀u∈nL x (.slice ta tn tc) (.slice sa sn sc),u.oneCell'=true:=by
 intro u hu;unfold nL at hu;simp only[anW,an1,or_false]at hu;rcases hu with rfl|rfl|rfl|rfl <;> rfl
theorem kT (n:Int) (W:World):Calls prog 50 #[n] W fun e w=>x_ (.stop n) e/\W=w:=by
 go_in;go_wp2;exact⟨rfl,⟨Old.nil,rfl⟩,rfl⟩
def pd (W:World) (P M:Nat->Prop) (A:List (Nat×Nat)) (g:Nat) (v:bp):Prop :=
 ∃cs:List Value,aw W g cs 123/\cs.length=v.length*2/\(∀ (j:Nat) (x:V),v[j]?=some x->∃u w,cs[j*2]?=some u/\cs[j*2+1]?=some w/\iW A x (.agg #[u,w]))/\¬M g/\¬P g
theorem pd.ext {aK:List (Nat×Nat)} {v:bp} (h:pd W P M A g v) (bT:Ext T M M' W W') (hT:¬T g) (hA:A <+: aK):pd W' P M' aK g v:=by
 obtain⟨cs,h1,h2,h3,h4,h5⟩:=h;refine⟨cs,h1.mods bT.mods (fun k=>k.elim hT h4),h2,fun j x hx=>?_,fun hm=>h4 (bT.back g h1.lt hm),h5⟩;obtain⟨u,w,e1,e2,e3⟩:=h3 j x hx;exact⟨u,w,e1,e2,e3.more hA⟩
theorem pd.get {v:bp} (h:pd W P M A g v) (hp:p<v.length):∃u w,W.cell? ⟨g,p*2,none⟩=some u/\W.cell? ⟨g,p*2+1,none⟩=some w/\iW A (v.get (p:Int)) (.agg #[u,w]):=by
 obtain⟨cs,h1,h2,h3,h4,h5⟩:=h;obtain⟨u,w,e1,e2,e3⟩:=h3 p v[p] (anx hp);refine⟨u,w,h1.cell e1,h1.cell e2,?_⟩;have:v.get (p:Int)=v[p]:=by
  unfold bp.get;rw[aoy,anM,anx hp];rfl
 rw[this];exact e3
theorem pd.put {v:bp} (h:pd W P M A g v) (hp:p<v.length) {u w:Value} (hx:iW A x (.agg #[u,w])):pd ((W.setCell ⟨g,p*2,none⟩ u).setCell ⟨g,p*2+1,none⟩ w) P M A g (v.put (p:Int) x)/\ag (·=g) W ((W.setCell ⟨g,p*2,none⟩ u).setCell ⟨g,p*2+1,none⟩ w):=by
 obtain⟨cs,h1,h2,h3,h4,h5⟩:=h;refine⟨⟨(cs.set (p*2) u).set (p*2+1) w,(h1.set (p*2) u).set (p*2+1) w,?_,fun j y hy=>?_,h4,h5⟩,(cm _ _ _ _).trans (cm _ _ _ _)⟩
 ·unfold bp.put
  simp[h2]
 ·unfold bp.put at hy
  rw[aoy]at hy;by_cases hj:j=p
  ·subst hj
   rw[aok hp]at hy;obtain rfl:=anz hy;refine⟨u,w,?_,?_,hx⟩
   ·rw[aoe (by omega),aok (by omega)]
   ·rw[aok (by rw[aoK];omega)]
  ·rw[aoe (fun e=>hj e.symm)]at hy
   obtain⟨u',w',e1,e2,e3⟩:=h3 j y hy;refine⟨u',w',?_,?_,e3⟩
   ·rw[aoe (by omega),aoe (by omega)]
    exact e1
   ·rw[aoe (by omega),aoe (by omega)]
    exact e2
structure kr (W W':World) (v v':Value):Prop where
 mods:ag (fun k=>v.ownBlock=some k) W W'
 loc:v'.ownBlock=v.ownBlock\/v'.ownBlock=some W.heap.size
theorem py (hg:W.grownBy W' v.ownBlock) (hl:v'.ownBlock=v.ownBlock\/v'.ownBlock=some W.heap.size):kr W W' v v' :=
 ⟨ag.of_grownBy hg (fun k hk _=>hk),hl⟩
theorem Cu (W:World) (v:Value) (e:TypeId):∀j u,[v][j]?=some u->(W.alloc (.cells #[v] e)).cell? ((⟨W.heap.size,0,none⟩:Addr).add j)=some u:=by
 intro j u hj;cases j with
 | zero=>exact (aw.new W #[v] e).cell (i:=0) (v:=u) hj
 | succ j=>simp at hj
theorem nr {w:World} {t:TypeId} (h:aw W g cs t) (bT:Ext T M M' W w) (hn:¬M g) (hT:¬T g):aw w g cs t/\¬M' g:=⟨h.mods bT.mods (fun k=>k.elim hT hn),fun hm=>hn (bT.back g h.lt hm)⟩
theorem iW.num (h:iW A x v):∃av,v=.agg #[x.n,av]:=by
 rcases h with⟨_,rfl⟩|⟨i,g,n,_,_,rfl⟩
 ·exact⟨_,rfl⟩
 ·exact⟨_,rfl⟩
theorem Ext.new {b_:Nat->Prop} {W0:World} (h:Ext T b_ M W0 W) (hm:ag S W W') (hS:∀k,k<W0.heap.size->¬S k):Ext T b_ M W0 W' :=
 ⟨h.mods.trans' hm (fun k hs hk=>(hS k hk hs).elim),h.back⟩
theorem Ext.Ep {vr:Nat->Prop} {vA:World} (h:Ext ai M M' W W') (k:Ext T M' vr W' vA) (hT:∀i,i<W.heap.size->¬T i):Ext ai M vr W vA :=
 ⟨h.mods.trans' k.mods (fun i hi hl=>hi.elim (fun ht=>(hT i hl ht).elim) (fun hm=>Or.inr (h.back i hl hm))),fun i hi hm=>h.back i hi (k.back i (anE hi h.mods.size) hm)⟩
theorem bt.O5 {w:World} (h:bt w b ak L P M A s) (n:Nat) (hn:n<=40) :
 bt (w.alloc (.cells ((List.replicate n (0:Int)).map (Value.int .i64)).toArray 2)) b ak L P (fun k=>M k\/k=w.heap.size) (A++[(w.heap.size,n)]) { s with bS:=s.bS++[List.replicate n 0] }/\Ext ai M (fun k=>M k\/k=w.heap.size) w (w.alloc (.cells ((List.replicate n (0:Int)).map (Value.int .i64)).toArray 2)):=by
 have hm:ag ai w (w.alloc (.cells ((List.replicate n (0:Int)).map (Value.int .i64)).toArray 2)):=ay.alloc _;have hsz:(w.alloc (.cells ((List.replicate n (0:Int)).map (Value.int .i64)).toArray 2)).heap.size=w.heap.size+1:=by simp
 have h':=h.quiet hm;have ho:=h.old;have hg:=h.given;refine⟨⟨?_,Or.inl h'.has,h'.fns,?_,?_,?_,?_,?_,?_,h'.given,h'.few,h'.calls,h'.fuel⟩,⟨hm.mono fun _ _ f=>f.elim,?_⟩⟩
 ·obtain⟨iv,ov,h1,h2,h3,h4⟩:=h'.blk
  refine⟨iv,ov,h1,h2,h3,fun k hk=>⟨Or.inl (h4 k hk).1,(h4 k hk).2.1,?_⟩⟩;intro g m ez;rcases anQ.1 ez with ez|ez
  ·exact (h4 k hk).2.2 g m ez
  ·simp only[anS,an8]at ez
   have:=ho k (h4 k hk).1;omega
 ·simp[h.bS]
 ·intro i l hl
  rcases aov i s.bS.length with hi|hi
  ·have hl2:s.bS[i]?=some l:=by simpa [anI hi] using hl
   obtain⟨g,e1,e2,e3⟩:=h'.arr i l hl2;exact⟨g,by rw[anI (by rw[h.bS];exact hi)];exact e1,e2,e3⟩
  ·simp only[anH hi]at hl
   obtain⟨hE,hl⟩:=anA.1 hl;simp only[an0]at hE;obtain rfl:i=s.bS.length:=(by omega);simp only[aog,aop]at hl;subst hl;refine⟨w.heap.size,?_,aw.new w _ _,by simpa using hn⟩;rw[anH (by rw[h.bS];exact anD _)];simp[h.bS]
 ·intro g m ez
  rcases anQ.1 ez with ez|ez
  ·exact⟨Or.inl (h.mine g m ez).1,(h.mine g m ez).2⟩
  ·simp only[anS,an8]at ez
   have:=ho b h.has;exact⟨Or.inr ez.1,by omega⟩
 ·refine List.pairwise_append.2 ⟨h.apart,List.pairwise_singleton _ _,?_⟩
  intro x hx y hy;simp only[anS]at hy;subst hy;have:=ho x.1 (h.mine x.1 x.2 hx).1
  show x.1≠w.heap.size
  omega
 ·intro k hk
  rw[hsz];rcases hk with hk|hk
  ·have:=ho k hk
   omega
  ·omega
 ·intro k hk hp
  rcases hk with hk|hk
  ·exact h.off k hk hp
  ·have:=hg k hp
   omega
 ·intro k hk hm
  rcases hm with hm|hm
  ·exact hm
  ·omega
theorem bt.taken (h:bt W b ak L P M A s) (r:List Int) (iv:Value) (hi:ij W (fun k=>¬P k) iv r):bt (W.setCell ⟨b,1,none⟩ iv) b ak L P M A { s with inp:=r } :=
 h.own (cm _ _ _ _) rfl rfl h.calls h.fuel (fun wm ov h1 h2=>⟨iv,h1.set 1 _,hi⟩)
theorem iW.len {w:World} (h:iW A x v) (hR:bt w b ak L P M A s):∃k a n,v=.agg #[.int .i64 k,.slice a n n]/\((fF s x).length:Int)=(n:Int)/\n<=40:=by
 rcases h with⟨h1,rfl⟩|⟨i,g,n,h1,h2,rfl⟩
 ·exact⟨_,_,_,rfl,by simp[fF,h1],by omega⟩
 ·obtain⟨hi,hE⟩:=anA.1 h2
  have hl:s.bS[i]?=some (s.bS[i]'(by rw[<-hR.bS];exact hi)):=anx _;obtain⟨g',e1,e2,e3⟩:=hR.arr i _ hl;rw[h2]at e1;simp only[anG,an8]at e1;obtain⟨rfl,rfl⟩:=e1;refine⟨_,_,_,rfl,?_,e3⟩;simp only[fF,h1,anM,hl,aoU]
theorem bt.row {w:World} (hR:bt w b ak L P M A s) (h2:A[i]?=some (g,n)):∃l,s.bS[i]?=some l/\n=l.length/\aw w g (l.map (Value.int .i64)) 2/\l.length<=40:=by
 obtain⟨hi,hE⟩:=anA.1 h2;have hl:s.bS[i]?=some (s.bS[i]'(by rw[<-hR.bS];exact hi)):=anx _;obtain⟨g',e1,e2,e3⟩:=hR.arr i _ hl;rw[h2]at e1;simp only[anG,an8]at e1;obtain⟨rfl,rfl⟩:=e1;exact⟨_,hl,rfl,e2,e3⟩
theorem yT {G:Prop} (P:Program) (w:World) (h:G) (Rw:wpAny P .any #[] (fun _ _ _=>True) 0 #[] { tmps:=#[],defers:=[] } w):G:=h
theorem DS:(prog.info? 2).map (fun i=>(i.zero,i.size,i.bytes))=some (some (.int .i64 0),1,8):=by kernel_rfl
theorem Ef {P:Program} (t e:TypeId) (i:TypeInfo) (z:Value) (ht:P.underlying t=some (.slice e)) (hi:P.info? e=some i) (hz:i.zero=some z)
 (kl kc:IntKind) (n:Nat) (hbytes:i.bytes*n<=281474976710656) (h63:n<=9223372036854775807) (w:World) :
 (Instr.makeSlice t (.int kl (n:Int)) (.int kc (n:Int))).run P w=.ok (.slice (some ⟨w.heap.size,0,none⟩) n n) (w.alloc (.cells (madeCells z.cells (n*i.size)) e)):=by
 have hb:(i.bytes:Int)*(n:Int)<=281474976710656:=by
  have h:((i.bytes*n:Nat):Int)<=281474976710656:=by omega
  rwa [Int.natCast_mul]at h
 have hr:=run_make (P:=P) w t e i z ht hi hz kl kc n n (by omega) (by omega) hb (by omega);simp only[aoy]at hr;exact hr
theorem OY (n:Nat):madeCells (Value.int .i64 0).cells (n*1)=((List.replicate n (0:Int)).map (Value.int .i64)).toArray:=by
 apply Array.ext
 ·simp[madeCells]
 ·intro i h1 h2
  simp[madeCells,Value.cells,Nat.mod_one]
theorem bt.told (h:bt bw b ak L P M A s) (qg:bw.cell? ⟨b,4,none⟩=some ov) (k:Int) (hn:s.out.length<200) (hown:a7.ownsRow 0 2 1 v' (s.out.length+1) (s.out.map (Value.int .i64)++[.int .i64 k])) (hg:kr bw a7 ov v') :
 bt (a7.setCell ⟨b,4,none⟩ v') b ak L P (fun k=>M k\/v'.ownBlock=some k) A { s with out:=s.out++[k] }/\Ext ai M (fun k=>M k\/v'.ownBlock=some k) bw (a7.setCell ⟨b,4,none⟩ v'):=by
 obtain⟨⟨iv,lg,h1,h2,h3,h4⟩,h5,⟨h7,n,F,h6,h8⟩,dJ,h10,h11,fM,nM,j2,pz,r_,nd,td⟩:=h;obtain rfl:lg=ov:=by
  have:=h1.cell (i:=4) (v:=lg) rfl;rw[qg]at this;exact (anz this).symm
 have dK:ag (fun k=>lg.ownBlock=some k) bw a7:=hg.mods;have hP:ag (·=b) a7 (a7.setCell ⟨b,4,none⟩ v'):=cm _ _ _ _;have dT:b<bw.heap.size:=nM b h5;have nh:ag (fun k=>lg.ownBlock=some k\/k=b) bw (a7.setCell ⟨b,4,none⟩ v'):=(dK.mono fun _ _ hk=>Or.inl hk).trans (hP.mono fun _ _ hk=>Or.inr hk);have BF:∀k,(lg.ownBlock=some k\/k=b)->M k:=fun k hk=>hk.elim (fun e=>(h4 k e).1) (fun e=>by rw[e];exact h5)
 have xx:ag (fun k=>¬P k) bw (a7.setCell ⟨b,4,none⟩ v'):=nh.mono fun k _ hk=>j2 k (BF k hk)
 have hloc:∀k,v'.ownBlock=some k->lg.ownBlock=some k\/k=bw.heap.size:=fun k hk=>by
  rcases hg.loc with e|e
  ·exact Or.inl (by rw[<-e];exact hk)
  ·rw[e]at hk
   exact Or.inr (anz hk).symm
 have hne:∀k,v'.ownBlock=some k->k≠b:=fun k hk=>by
  rcases hloc k hk with e|e
  ·exact (h4 k e).2.1
  ·omega
 have MF:∀k,v'.ownBlock=some k->∀g n,(g,n)∈A->g≠k:=fun k hk g m ez=>by
  rcases hloc k hk with e|e
  ·exact (h4 k e).2.2 g m ez
  ·have:=nM g (h11 g m ez).1
   omega
 have mE:aw a7 b [.map (some ak),iv,s.fuel,s.calls,lg] 62:=h1.mods dK (fun e=>(h4 b e).2.1 rfl);refine⟨⟨⟨iv,v',mE.set 4 v',h2.mods xx (fun _ _ k=>k),?_,fun k hk=>⟨Or.inr hk,hne k hk,MF k hk⟩⟩,Or.inl h5,⟨h7,n,F,h6.mods nh (fun e=>j2 ak (BF ak e) h7),fun f x hx=>(h8 f x hx).mods xx (fun _ _ k=>k)⟩,dJ,?_,fun g m ez=>⟨Or.inl (h11 g m ez).1,(h11 g m ez).2⟩,fM,?_,?_,fun k hk=>anE (pz k hk) nh.size,?_,nd,td⟩,?_⟩
 ·have:=hP.ownsRow hown (fun k hk=>hne k hk)
  simpa using this
 ·intro i l hl
  obtain⟨g,e1,e2,e3⟩:=h10 i l hl;refine⟨g,e1,e2.mods nh ?_,e3⟩;rintro (e|e)
  ·exact (h4 g e).2.2 g _ (anF e1) rfl
  ·exact (h11 g _ (anF e1)).2 e
 ·intro k hk
  have hsz:(a7.setCell ⟨b,4,none⟩ v').heap.size=a7.heap.size:=by simp[World.setCell]
  rw[hsz];rcases hk with hk|hk
  ·exact anE (nM k hk) dK.size
  ·exact (hown.lt k hk).2
 ·rintro k (hk|hk) hp
  ·exact j2 k hk hp
  ·rcases hloc k hk with e|e
   ·exact j2 k (h4 k e).1 hp
   ·have:=pz k hp
    omega
 ·simp only[anU,an0]
  omega
 ·refine⟨nh.mono fun k _ hk=>Or.inr (BF k hk),fun k hk hm=>?_⟩
  rcases hm with hm|hm
  ·exact hm
  ·rcases hloc k hm with e|e
   ·exact (h4 k e).1
   ·omega
theorem bt.Pc (h:bt bw b ak L P M A s) (qg:bw.cell? ⟨b,4,none⟩=some ov) (hg:kr bw a7 ov v'):a7.cell? ⟨b,4,none⟩=some ov/\a7.frozen? ⟨b,4,none⟩=false:=by
 obtain⟨iv,lg,h1,h2,h3,h4⟩:=h.blk;obtain rfl:lg=ov:=by
  have:=h1.cell (i:=4) (v:=lg) rfl;rw[qg]at this;exact (anz this).symm
 have mE:aw a7 b [.map (some ak),iv,s.fuel,s.calls,lg] 62:=h1.mods hg.mods (fun e=>(h4 b e).2.1 rfl);exact⟨mE.cell rfl,mE.free 4⟩
theorem bt.Py {w:World} (h:bt w b ak L P M A s) {l:List Int} (h2:A[i]?=some (g,l.length)) (hl:s.bS[i]?=some l) (j:Nat) (x:Int) :
 bt (w.setCell ⟨g,j,none⟩ (.int .i64 x)) b ak L P M A { s with bS:=s.bS.set i (l.set j x) }/\Ext ai M M w (w.setCell ⟨g,j,none⟩ (.int .i64 x)):=by
 obtain⟨⟨iv,ov,h1,IA,h3,h4⟩,h5,⟨h7,n,F,h6,h8⟩,dJ,h10,h11,fM,nM,j2,pz,r_,nd,td⟩:=h;have hm:ag (·=g) w (w.setCell ⟨g,j,none⟩ (.int .i64 x)):=cm _ _ _ _;have ez:=anF h2;have BG:=(h11 g _ ez).1;have fT:ag (fun k=>¬P k) w (w.setCell ⟨g,j,none⟩ (.int .i64 x)):=hm.mono fun k _ e=>by rw[e];exact j2 g BG
 refine⟨⟨⟨iv,ov,h1.mods hm (fun e=>(h11 g _ ez).2 e.symm),IA.mods fT (fun _ _ k=>k),hm.ownsRow h3 (fun k hk e=>(h4 k hk).2.2 g _ ez e.symm),h4⟩,h5,⟨h7,n,F,h6.mods hm (fun e=>j2 g BG (e ▸ h7)),fun f y hy=>(h8 f y hy).mods fT (fun _ _ k=>k)⟩,by simpa using dJ,?_,h11,fM,fun k hk=>anE (nM k hk) hm.size,j2,fun k hk=>anE (pz k hk) hm.size,r_,nd,td⟩,⟨hm.mono fun k _ e=>Or.inr (by rw[e];exact BG),fun _ _ k=>k⟩⟩;intro i2 l2 hl2;by_cases hi:i2=i
 ·subst hi
  have hlt:i2<s.bS.length:=(anA.1 hl).1;rw[aok hlt]at hl2;obtain rfl:=anz hl2;obtain⟨g',e1,e2,e3⟩:=h10 i2 l hl;rw[h2]at e1;simp only[anG,an8,and_true]at e1;subst e1;refine⟨g,by simpa using h2,?_,by simpa using e3⟩;have:=e2.set j (.int .i64 x);rw[List.map_set];exact this
 ·rw[aoe (fun e=>hi e.symm)]at hl2
  obtain⟨g',e1,e2,e3⟩:=h10 i2 l2 hl2;refine⟨g',e1,e2.mods hm ?_,e3⟩;intro e;subst e;have ha:=anA.1 e1;have hb:=anA.1 h2;have hp:=aos.1 fM;rcases Nat.lt_or_gt_of_ne hi with hlt|hlt
  ·have:=hp i2 i ha.1 hb.1 hlt
   rw[ha.2,hb.2]at this;exact this rfl
  ·have:=hp i i2 hb.1 ha.1 hlt
   rw[ha.2,hb.2]at this;exact this rfl
def Rj (W:World) (b ak:Nat) (P M:Nat->Prop) (nm:List UInt8) (pr:Int) (w:Lw):Prop :=
 ∃tv sv cs,aw W b [str nm,pr,tv,sv,.map (some ak),.int .i64 (w.labels:Int),w.none] 89/\W.ownsRow 0 3 1 tv w.types.length (w.types.map (Value.int .i64))/\
  W.ownsRow 0 57 10 sv w.steps.length cs/\mq W (fun k=>¬P k) cs w.steps/\(∀k,tv.ownBlock=some k->M k/\k≠b/\k≠ak)/\(∀k,sv.ownBlock=some k->M k/\k≠b/\k≠ak/\tv.ownBlock≠some k)
def E6 (W:World) (ak:Nat) (w:Lw):Prop:=∃n F,NameMap W ak n (.int .i64 0) F/\n<=w.names.length/\∀x,jV (.int .i64 0) F x=.int .i64 (fl w.names x)
structure fx (W:World) (b ak:Nat) (P M:Nat->Prop) (nm:List UInt8) (pr:Int) (w:Lw):Prop where
 blk:Rj W b ak P M nm pr w
 names:E6 W ak w
 has:M b
 map:M ak/\ak≠b
 old:∀k,M k->k<W.heap.size
 off:∀k,M k->¬P k
 given:∀k,P k->k<W.heap.size
theorem E6.mods (h:E6 W ak w) (hm:ag S W W') (hn:¬S ak):E6 W' ak w:=by
 obtain⟨n,F,h1,h2,h3⟩:=h;exact⟨n,F,h1.mods hm hn,h2,h3⟩
theorem fx.KH (h:fx W b ak P M nm pr w) (hm:ag S W W') (hS:∀k,S k->M k) (hM:∀k,M k->M' k)
 (MQ:∀k,M' k->M k\/(W.heap.size<=k/\k<W'.heap.size)) (hb:Rj W' b ak P M' nm pr w') (hn:E6 W' ak w'):fx W' b ak P M' nm pr w'/\Ext ai M M' W W':=by
 refine⟨⟨hb,hn,hM _ h.has,⟨hM _ h.map.1,h.map.2⟩,fun k hk=>?_,fun k hk hp=>?_,fun k hk=>anE (h.given k hk) hm.size⟩,⟨hm.mono fun k _ s=>Or.inr (hS k s),fun k hk uw=>?_⟩⟩
 ·rcases MQ k hk with e|e
  ·exact anE (h.old k e) hm.size
  ·exact e.2
 ·rcases MQ k hk with e|e
  ·exact h.off k e hp
  ·have:=h.given k hp;omega
 ·rcases MQ k uw with e|e
  ·exact e
  ·omega
theorem fx.aside (h:fx W b ak P M nm pr w) (hm:ag S W W') (hS:∀k,S k->¬M k/\¬P k):fx W' b ak P M nm pr w:=by
 have fT:ag (fun k=>¬P k) W W':=hm.mono fun k _ f=>(hS k f).2
 obtain⟨tv,sv,cs,h1,h2,h3,h4,h5,h6⟩:=h.blk
 exact⟨⟨tv,sv,cs,h1.mods hm (fun f=>(hS _ f).1 h.has),hm.ownsRow h2 (fun k hk f=>(hS _ f).1 (h5 k hk).1),hm.ownsRow h3 (fun k hk f=>(hS _ f).1 (h6 k hk).1),h4.mods fT (fun _ _ k=>k),h5,h6⟩,
  h.names.mods hm (fun f=>(hS _ f).1 h.map.1),h.has,h.map,fun k hk=>anE (h.old k hk) hm.size,h.off,fun k hk=>anE (h.given k hk) hm.size⟩
theorem fx.quiet (h:fx W b ak P M nm pr w) (hm:ag ai W W'):fx W' b ak P M nm pr w:=h.aside hm (fun _ f=>f.elim)
theorem fx.give {P':Nat->Prop} (h:fx W b ak P M nm pr w) (h1:∀k,P k->P' k) (h2:∀k,P' k->P k\/(¬M k/\k<W.heap.size)):fx W b ak P' M nm pr w:=by
 obtain⟨tv,sv,cs,e1,e2,e3,e4,cG,ew⟩:=h.blk;refine⟨⟨tv,sv,cs,e1,e2,e3,e4.mods ay (fun k _ hk hp=>hk (h1 k hp)),cG,ew⟩,h.names,h.has,h.map,h.old,fun k hk hp=>?_,fun k hp=>?_⟩
 ·rcases h2 k hp with e|e
  ·exact h.off k hk e
  ·exact e.1 hk
 ·rcases h2 k hp with e|e
  ·exact h.given k e
  ·exact e.2
theorem D1 (hg:kr W W' v v') {k:Nat} (hk:v'.ownBlock=some k):v.ownBlock=some k\/k=W.heap.size:=by
 rcases hg.loc with e|e
 ·exact Or.inl (by rw[<-e];exact hk)
 ·rw[e]at hk
  exact Or.inr (anz hk).symm
theorem OW (W:World) (a:Addr) (v:Value):(W.setCell a v).heap.size=W.heap.size:=by simp[World.setCell]
theorem fx.typed (h:fx bw b ak P M nm pr w) (Oc:bw.cell? ⟨b,2,none⟩=some tv) (k:Int)
 (hown:a7.ownsRow 0 3 1 v' (w.types.length+1) (w.types.map (Value.int .i64)++[.int .i64 k])) (hg:kr bw a7 tv v') :
 fx (a7.setCell ⟨b,2,none⟩ v') b ak P (fun k=>M k\/v'.ownBlock=some k) nm pr (y0 k w).2/\Ext ai M (fun k=>M k\/v'.ownBlock=some k) bw (a7.setCell ⟨b,2,none⟩ v'):=by
 obtain⟨Ha,sv,cs,h1,h2,h3,h4,h5,h6⟩:=h.blk;obtain rfl:Ha=tv:=by
  have:=h1.cell (i:=2) (v:=Ha) rfl;rw[Oc]at this;exact (anz this).symm
 have dK:ag (fun k=>Ha.ownBlock=some k) bw a7:=hg.mods;have hP:ag (·=b) a7 (a7.setCell ⟨b,2,none⟩ v'):=cm _ _ _ _;have nh:ag (fun k=>Ha.ownBlock=some k\/k=b) bw (a7.setCell ⟨b,2,none⟩ v'):=(dK.mono fun _ _ hk=>Or.inl hk).trans (hP.mono fun _ _ hk=>Or.inr hk);have zV:∀k,(Ha.ownBlock=some k\/k=b)->M k:=fun k hk=>hk.elim (fun e=>(h5 k e).1) (fun e=>by rw[e];exact h.has)
 have xx:ag (fun k=>¬P k) bw (a7.setCell ⟨b,2,none⟩ v'):=nh.mono fun k _ hk=>h.off k (zV k hk)
 have dT:=h.old b h.has;have ad5:=h.old ak h.map.1;have hne:∀k,v'.ownBlock=some k->k≠b/\k≠ak:=fun k hk=>by
  rcases D1 hg hk with e|e
  ·exact (h5 k e).2
  ·omega
 refine h.KH nh zV (fun k hk=>Or.inl hk) (fun k hk=>?_) ⟨v',sv,cs,?_,?_,?_,h4.mods xx (fun _ _ k=>k),fun k hk=>⟨Or.inr hk,hne k hk⟩,fun k hk=>⟨Or.inl (h6 k hk).1,(h6 k hk).2.1,(h6 k hk).2.2.1,fun e=>?_⟩⟩ ?_
 ·rcases hk with hk|hk
  ·exact Or.inl hk
  ·rcases D1 hg hk with e|e
   ·exact Or.inl (h5 k e).1
   ·exact Or.inr ⟨by omega,by rw[OW];exact (hown.lt k hk).2⟩
 ·exact (h1.mods dK (fun e=>(h5 b e).2.1 rfl)).set 2 v'
 ·have:=hP.ownsRow hown (fun k hk=>(hne k hk).1)
  simpa [y0] using this
 ·exact nh.ownsRow h3 (fun k hk e=>e.elim (h6 k hk).2.2.2 (h6 k hk).2.1)
 ·rcases D1 hg e with e|e
  ·exact (h6 k hk).2.2.2 e
  ·have:=(h3.lt k hk).2;omega
 ·obtain⟨n,F,g1,g2,g3⟩:=h.names.mods nh (fun e=>e.elim (fun e=>(h5 ak e).2.2 rfl) h.map.2)
  exact⟨n,F,g1,g2,g3⟩
theorem fx.ajA (h:fx bw b ak P M nm pr w) (x:ax) (Oc:bw.cell? ⟨b,3,none⟩=some sv) (hrel:mq bw (fun k=>¬P k) cs w.steps) (hcs:bw.ownsRow 0 57 10 sv w.steps.length cs)
 (hx:dh bw (fun k=>¬P k) av x.args) (hown:a7.ownsRow 0 57 10 v' (w.steps.length+1) (cs++aY x av)) (hg:kr bw a7 sv v') :
 fx (a7.setCell ⟨b,3,none⟩ v') b ak P (fun k=>M k\/v'.ownBlock=some k) nm pr (a8 x w)/\Ext ai M (fun k=>M k\/v'.ownBlock=some k) bw (a7.setCell ⟨b,3,none⟩ v'):=by
 obtain⟨tv,G9,L9,h1,h2,h3,h4,h5,h6⟩:=h.blk;obtain rfl:G9=sv:=by
  have:=h1.cell (i:=3) (v:=G9) rfl;rw[Oc]at this;exact (anz this).symm
 have dK:ag (fun k=>G9.ownBlock=some k) bw a7:=hg.mods;have hP:ag (·=b) a7 (a7.setCell ⟨b,3,none⟩ v'):=cm _ _ _ _;have nh:ag (fun k=>G9.ownBlock=some k\/k=b) bw (a7.setCell ⟨b,3,none⟩ v'):=(dK.mono fun _ _ hk=>Or.inl hk).trans (hP.mono fun _ _ hk=>Or.inr hk);have zV:∀k,(G9.ownBlock=some k\/k=b)->M k:=fun k hk=>hk.elim (fun e=>(h6 k e).1) (fun e=>by rw[e];exact h.has)
 have xx:ag (fun k=>¬P k) bw (a7.setCell ⟨b,3,none⟩ v'):=nh.mono fun k _ hk=>h.off k (zV k hk)
 have dT:=h.old b h.has;have ad5:=h.old ak h.map.1;have hne:∀k,v'.ownBlock=some k->k≠b/\k≠ak/\tv.ownBlock≠some k:=fun k hk=>by
  rcases D1 hg hk with e|e
  ·exact (h6 k e).2
  ·exact⟨by omega,by omega,fun e2=>by have:=(h2.lt k e2).2;omega⟩
 refine h.KH nh zV (fun k hk=>Or.inl hk) (fun k hk=>?_) ⟨tv,v',cs++aY x av,?_,?_,?_,(hrel.mods xx (fun _ _ k=>k)).grow hcs.1 (hx.mods xx (fun _ _ k=>k)),fun k hk=>⟨Or.inl (h5 k hk).1,(h5 k hk).2⟩,fun k hk=>⟨Or.inr hk,hne k hk⟩⟩ ?_
 ·rcases hk with hk|hk
  ·exact Or.inl hk
  ·rcases D1 hg hk with e|e
   ·exact Or.inl (h6 k e).1
   ·exact Or.inr ⟨by omega,by rw[OW];exact (hown.lt k hk).2⟩
 ·exact (h1.mods dK (fun e=>(h6 b e).2.1 rfl)).set 3 v'
 ·exact nh.ownsRow h2 (fun k hk e=>e.elim (fun e=>(h6 k e).2.2.2 hk) (h5 k hk).2.1)
 ·have:=hP.ownsRow hown (fun k hk=>(hne k hk).1)
  simpa [a8] using this
 ·exact h.names.mods nh (fun e=>e.elim (fun e=>(h6 ak e).2.2.1 rfl) h.map.2)
theorem fx.labeled (h:fx W b ak P M nm pr w) (i:Nat) (u:Value) (w':Lw) (h1:w'.types=w.types) (h2:w'.steps=w.steps) (h3:w'.names=w.names)
 (hi:(i=5/\u=.int .i64 (w'.labels:Int)/\w'.none=w.none)\/(i=6/\u=.int .i64 w'.none/\w'.labels=w.labels)) :
 fx (W.setCell ⟨b,i,none⟩ u) b ak P M nm pr w'/\Ext ai M M W (W.setCell ⟨b,i,none⟩ u):=by
 obtain⟨tv,sv,cs,e1,e2,e3,e4,cG,ew⟩:=h.blk;have hm:ag (·=b) W (W.setCell ⟨b,i,none⟩ u):=cm _ _ _ _;have fT:ag (fun k=>¬P k) W (W.setCell ⟨b,i,none⟩ u):=hm.mono fun k _ hk=>by rw[hk];exact h.off b h.has
 refine h.KH hm (fun k hk=>by rw[hk];exact h.has) (fun _ k=>k) (fun k hk=>Or.inl hk) ⟨tv,sv,cs,?_,?_,?_,?_,cG,ew⟩ ?_
 ·have:=e1.set i u
  rcases hi with⟨rfl,rfl,hn⟩|⟨rfl,rfl,hn⟩
  ·rw[hn];exact this
  ·rw[hn];exact this
 ·rw[h1];exact hm.ownsRow e2 (fun k hk=>(cG k hk).2.1)
 ·rw[h2];exact hm.ownsRow e3 (fun k hk=>(ew k hk).2.1)
 ·rw[h2];exact e4.mods fT (fun _ _ k=>k)
 ·obtain⟨n,F,g1,g2,g3⟩:=h.names.mods hm h.map.2
  exact⟨n,F,g1,by rw[h3];exact g2,by rw[h3];exact g3⟩
theorem fx.named (h:fx W b ak P M nm pr w) {F:List (List UInt8×Value)} (hF:∀x,jV (.int .i64 0) F x=.int .i64 (fl w.names x)) (x:List UInt8) (k:Int) (hm:ag (·=ak) W W')
 (hput:NameMap W' ak (n+1) (.int .i64 0) (sH F x (.int .i64 k))) (hn:n<=w.names.length) :
 fx W' b ak P M nm pr { w with names:=xH w.names x k }/\Ext ai M M W W':=by
 obtain⟨tv,sv,cs,e1,e2,e3,e4,cG,ew⟩:=h.blk;have fT:ag (fun k=>¬P k) W W':=hm.mono fun k _ hk=>by rw[hk];exact h.off ak h.map.1
 refine h.KH hm (fun k hk=>by rw[hk];exact h.map.1) (fun _ k=>k) (fun k hk=>Or.inl hk) ⟨tv,sv,cs,e1.mods hm (fun e=>h.map.2 e.symm),hm.ownsRow e2 (fun k hk=>(cG k hk).2.2),hm.ownsRow e3 (fun k hk=>(ew k hk).2.2.1),e4.mods fT (fun _ _ k=>k),cG,ew⟩ ⟨n+1,_,hput,by simp only[xH,anK];omega,fun y=>?_⟩;rw[yn,zL];by_cases hy:y=x
 ·rw[if_pos hy,if_pos hy]
 ·rw[if_neg hy,if_neg hy,hF]
def oJ (W:World) (b ak:Nat) (P M:Nat->Prop) (nm:List UInt8) (pr:Int) (w':Lw) (ok:Ending->Prop):Ending->World->Prop :=
 fun e wd=>∃P' M',ok e/\fx wd b ak P' M' nm pr w'/\Ext ai M M' W wd/\(∀k,P k->P' k)/\(∀k,k<W.heap.size->P' k->P k)
theorem oJ.after {W1:World} {vw jR:Nat->Prop} {ok V5:Ending->Prop} {e:Ending} {wd:World} (h:oJ W1 b ak vw jR nm pr w' ok e wd) (aZ:ok e->V5 e) (bT:Ext ai M jR W W1) (h1:∀k,P k->vw k) (h2:∀k,k<W.heap.size->vw k->P k):oJ W b ak P M nm pr w' V5 e wd:=by
 obtain⟨P',M',g1,g2,g3,g4,g5⟩:=h;exact⟨P',M',aZ g1,g2,bT.trans g3,fun k hk=>g4 k (h1 k hk),fun k hk hp=>h2 k hk (g5 k (anE hk bT.mods.size) hp)⟩
theorem ru {B:Nat} {e:TypeId} {size:Nat} {vs:List Value} (h:W.ownsRow B e size v n vs):∃aG aF,v=.slice aG n aF:=by
 rcases h.2 with⟨hv,h0⟩|⟨g,cap,cur,hv,_⟩
 ·exact⟨_,_,by rw[hv,h0]⟩
 ·exact⟨_,_,hv⟩
theorem J7 {o:Option TypeInfo} {z:Option Value} {m:Nat} (h:o.map (fun i=>(i.zero,i.size,i.bytes))=some (z,n,m)):∃i,o=some i/\i.zero=z/\i.size=n/\i.bytes=m:=by
 cases o with
 | none=>simp at h
 | some i =>
   simp only[Option.map_some,anG,an8]at h;exact⟨i,rfl,h.1,h.2.1,h.2.2⟩
theorem VE {n:Int} (h1:-9223372036854775808<=n) (h2:n<=9223372036854775807):wrap64 n=n:=by unfold wrap64;omega
theorem afL (x:ax) (aa:Option Addr) (n c:Nat):∀u∈aY x (.slice aa n c),u.oneCell'=true:=by
 intro u hu;unfold aY at hu;simp only[anW,an1,or_false]at hu;rcases hu with rfl|rfl|rfl|rfl|rfl|rfl|rfl|rfl|rfl|rfl <;> rfl
theorem VH (W:World) (cs:List Value) (e:TypeId):∀j u,cs[j]?=some u->(W.alloc (.cells cs.toArray e)).cell? ((⟨W.heap.size,0,none⟩:Addr).add j)=some u:=by
 intro j u hj;rw[add_plain,an9];exact (aw.new W cs.toArray e).cell (by simpa using hj)
theorem fx.cellAt (h:fx bw b ak P M nm pr w) {ov:Value} (hi:i=2\/i=3) (hv:bw.cell? ⟨b,i,none⟩=some v) (hg:kr bw a7 v v'):a7.cell? ⟨b,i,none⟩=some v/\a7.frozen? ⟨b,i,none⟩=false/\b<a7.heap.size:=by
 obtain⟨tv,sv,cs,h1,h2,h3,h4,h5,h6⟩:=h.blk;have hne:¬v.ownBlock=some b:=by
  rcases hi with rfl|rfl
  ·have:=h1.cell (i:=2) (v:=tv) rfl
   rw[hv]at this;rw[anz this];exact fun e=>(h5 b e).2.1 rfl
  ·have:=h1.cell (i:=3) (v:=sv) rfl
   rw[hv]at this;rw[anz this];exact fun e=>(h6 b e).2.1 rfl
 have mE:=h1.mods hg.mods hne;exact⟨hg.mods.cellOf hv hne,mE.free i,mE.lt⟩
theorem Ph (h:fx W b ak P M nm pr w) (k:Int) (hw:w.types.length<1000000) :
 Calls prog 32 #[.pointer (some ⟨b,0,none⟩),k] W (oJ W b ak P M nm pr (y0 k w).2 (fun e=>e=.returned (.int .i64 (w.types.length:Int)))):=by
 obtain⟨i0,hi,hz0,hz1,hz2⟩:=J7 JM;have aI:=af (anw hi (anw hz0 (anw hz1 hz2)));obtain⟨tv,sv,cs,hb,hZ,-⟩:=h.blk;obtain⟨aG,aF,rfl⟩:=ru hZ;obtain⟨n,hn⟩:=aq (w.types.length);rw[<-hn]at hZ hb hw;rw[<-hn];have c0:W.cell? ⟨b,2,none⟩=some (.slice aG n aF):=hb.cell rfl;have f0:=hb.free 2;have hbl:=h.old b h.has;have H:=af h;have HO:=af hZ;have aT:=af (anw hw hn);have uW:=af c0;clear h hn hb hZ hi hz0 hz1 hz2 hw;go_in;go_wp2_with (at_builtin;refine wpList_append_own_at _ rfl _ _ 52 rfl 0 3 i0 _ 1 8 underlying52 aI.1 aI.2.1 aI.2.2.1 aI.2.2.2 rfl (by decide) (.slice aG n aF) n (w.types.map (Value.int .i64)) rfl (HO.alloc _) ⟨W.heap.size,0,none⟩ 1 1 [k] rfl rfl (Cu _ _ _) (fun u hu=>by simp at hu;subst hu;rfl) (by have:=aT.out;unfold maxLen;omega) (by have:=aT.out;omega) (anC _) ?_;intro v' a7 hown cr hnil hloc;have b6:=af hown;have bZ:=af (py cr hloc);have bG:=af (show ag ai W _ from (ay.alloc (.cells #[k] 3)));obtain⟨c70,z70,afm⟩:=(H.quiet bG.out).cellAt (ov:=.slice aG n aF) (Or.inl rfl) (bG.out.cellOf uW id) bZ;clear hown cr hnil hloc;obtain⟨bg,br,rfl⟩:=ru b6);obtain⟨k1,k2⟩:=(H.quiet bG.out).typed (bG.out.cellOf uW id) k (by rw[<-aT.2];exact b6) bZ;have wZ:=af k1;have uh:=af (Ext.trans (Ext.quiet (M:=M) bG.out) k2);clear k1 k2;go_ret;refine⟨P,_,?_,wZ,uh,fun _ k=>k,fun _ _ k=>k⟩
 show Ending.returned (.int .i64 (wrap64 (n:Int)))=_
 rw[VE (by omega) (by have:=aT.1;omega)]
theorem Fg (h:fx W b ak P M nm pr w) (s:ax) (v:Value) (hv:dF W (fun k=>¬P k) s v) (hw:w.steps.length<1000000) :
 Calls prog 35 #[.pointer (some ⟨b,0,none⟩),v] W (oJ W b ak P M nm pr (a8 s w) (fun e=>e=.returned (.tuple #[]))):=by
 obtain⟨aa,ac,rfl,cC⟩:=hv;obtain⟨an,eT⟩:=aq (s.args.length);rw[<-eT]at cC ⊢;obtain⟨i0,hi,hz0,hz1,hz2⟩:=J7 Ej;have aI:=af (anw hi (anw hz0 (anw hz1 hz2)));obtain⟨W1,hW1⟩:=aq (W.alloc (.cells (aY s (.slice aa an ac)).toArray 57));have aO:ag ai W W1:=by rw[hW1];exact ay.alloc _
 have hb1:aw W1 W.heap.size (aY s (.slice aa an ac)) 57:=by rw[hW1];exact aw.new W _ _
 obtain⟨tv,sv,cs,hb,-,hst,hrel,-,-⟩:=(h.quiet aO).blk;obtain⟨aG,aF,rfl⟩:=ru hst;obtain⟨n,hn⟩:=aq (w.steps.length);rw[<-hn]at hst hb hw;have c0:W1.cell? ⟨b,3,none⟩=some (.slice aG n aF):=hb.cell rfl;have f0:=hb.free 3;have hbl:=hb.lt;obtain⟨d0,d1,d2,d3,d4,d5,d6,d7,d8,d9⟩:=hb1.gD;have alD:b≠W.heap.size:=by have:=h.old b h.has;omega
 have aN:ag ai W1 ((W1.alloc (.cells (aY s (.slice aa an ac)).toArray 57)).drew):=(ay.alloc _).drew;have bJ:=af (aO.trans aN);have cg:=af ((h.quiet aO).quiet aN);have fR:=af (aN.ownsRow hst (fun k hk f=>f));have qH:=af (hrel.mods (aN.mono fun _ _ f=>f.elim) (fun _ _ k=>k) (T:=fun k=>¬P k));have EH:=af (cC.mods ((aO.trans aN).mono fun _ _ f=>f.elim) (fun _ _ k=>k) (T:=fun k=>¬P k));have uW:=af (aN.cellOf c0 id);have gz:=af (VH W1 (aY s (.slice aa an ac)) 57);have l7:=af (afL s aa an ac);have aT:=af (anw hw hn);obtain⟨ba,kD,bL,ib,fY,xn,d_,fJ,fO,xs⟩:=s;simp only[aY,str]at *;clear h hn hb hst hi hz0 hz1 hz2 hw hrel cC aO hb1 aN eT;go_in;go_wp2_with fail;rw[<-hW1];clear hW1
 go_region_law (refine G4 rfl (.tmp 9) (.tmp 11) 53 rfl 0 57 i0 _ 10 112 underlying53 aI.1 aI.2.1 aI.2.2.1 aI.2.2.2 rfl (by decide) (.slice aG n aF) n cs (by simp[Act.eval,Act.put]) fR ⟨W1.heap.size,0,none⟩ 1 1 [ba,kD,bL,ib,fY,xn,.string ⟨d_.toArray⟩,fJ,.string ⟨fO.toArray⟩,.slice aa an ac] (by simp[Act.eval,Act.put]) rfl gz.out l7.out (by have:=aT.out;unfold maxLen;omega) (by have:=aT.out;omega) (anC _) ?_;intro v' a7 hown cr hloc;have b6:=af hown;have bZ:=af (py cr hloc);obtain⟨c70,z70,afm⟩:=cg.cellAt (ov:=.slice aG n aF) (Or.inr rfl) uW bZ;clear hown cr hloc;obtain⟨bg,br,rfl⟩:=ru b6)
 all_goals
  obtain⟨k1,k2⟩:=cg.ajA (av:=.slice aa an ac) ⟨ba,kD,bL,ib,fY,xn,d_,fJ,fO,xs⟩ uW qH (by rw[<-aT.2];exact fR) EH (by rw[<-aT.2];exact b6) bZ;have wZ:=af k1;have uh:=af (Ext.trans (Ext.quiet (M:=M) bJ) k2);clear k1 k2;go_end0;exact⟨P,_,rfl,wZ,uh,fun _ k=>k,fun _ _ k=>k⟩
theorem dF.mk (s:ax) {aa:Option Addr} {ac an:Nat} (h:an=s.args.length) (hi:dh W S (.slice aa an ac) s.args):dF W S s (.agg #[s.code,s.dst,s.a,s.b,s.c,s.n,.string ⟨s.op.toArray⟩,s.label,.string ⟨s.name.toArray⟩,.slice aa an ac]):=by
 subst h;exact⟨aa,ac,rfl,hi⟩
theorem dF.bare (s:ax) (h:s.args=[]):dF W S s (.agg #[s.code,s.dst,s.a,s.b,s.c,s.n,.string ⟨s.op.toArray⟩,s.label,.string ⟨s.name.toArray⟩,.slice none 0 0]) :=
 dF.mk s (by rw[h];rfl) (by rw[h];exact⟨none,0,rfl,anD _,by unfold maxLen;omega,fun _=>rfl,fun i x hx=>by simp at hx⟩)
theorem AI (h:fx W b ak P M nm pr w) (k:Int) (s:ax) (v:Value) (hv:dF W (fun k=>¬P k) s v) (hw:w.types.length<1000000) (hw2:w.steps.length<1000000) :
 Calls prog 33 #[.pointer (some ⟨b,0,none⟩),k,v] W (oJ W b ak P M nm pr (bC k s w).2 (fun e=>e=.returned (.int .i64 (w.types.length:Int)))):=by
 obtain⟨aa,ac,rfl,cC⟩:=hv;obtain⟨an,eT⟩:=aq (s.args.length);rw[<-eT]at cC ⊢;obtain⟨W1,hW1⟩:=aq (W.alloc (.cells (aY s (.slice aa an ac)).toArray 57));have aO:ag ai W W1:=by rw[hW1];exact ay.alloc _
 have hb1:aw W1 W.heap.size (aY s (.slice aa an ac)) 57:=by rw[hW1];exact aw.new W _ _
 have hM:¬M W.heap.size:=fun e=>by have:=h.old _ e;omega
 have dZ:¬P W.heap.size:=fun e=>by have:=h.given _ e;omega
 have HH:=af h;have H1:=af (h.quiet aO);have bD:=af hb1;have aD:=af aO;have EH:=af cC;have aT:=af (anw hw (anw hw2 (anw hM dZ)));have nD:=af eT;have f1:=hb1.free 1;have l1:=hb1.lt;obtain⟨ba,kD,bL,ib,fY,xn,d_,fJ,fO,xs⟩:=s;simp only[aY,str]at *;have d1:=hb1.ah 1;clear h cC aO hb1 eT hw hw2 hM dZ;go_in;go_wp2_with fail;rw[<-hW1];clear hW1;refine (Ph H1 k aT.1).mono ?_;rintro e w2 ⟨fD,M2,rfl,k1,k2,k3,k4⟩;have dy:Hid (¬M2 W.heap.size/\¬fD W.heap.size):=af ⟨fun e=>aT.2.2.1 (k2.back _ l1 e),fun e=>aT.2.2.2 (k4 _ l1 e)⟩;have bY:=af (bD.mods k2.mods (fun e=>e.elim id aT.2.2.1));have ft:=af (EH.mods (aD.mono fun _ _ f=>f.elim) (fun _ _ k=>k) (T:=fun k=>¬P k) |>.mods (k2.mods.mono fun k _ e=>e.elim (fun f=>f.elim) (H1.off k)) (fun i hi hn hp=>hn (k3 i hp)) (T:=fun k=>¬fD k));have d2:=bY.ah 1;have f2:=bY.free 1;have l2:=bY.lt;have aR:ag (·=W.heap.size) w2 (w2.setCell ⟨W.heap.size,1,none⟩ (.int .i64 (w.types.length:Int))):=cm _ _ _ _;have gB:=af (bY.set 1 (.int .i64 (w.types.length:Int)));have eK:=af (ft.mods (aR.mono fun k _ e=>by rw[e];exact dy.2) (fun _ _ k=>k) (T:=fun k=>¬fD k));have gg:=af (((Ext.quiet (M:=M) (T:=ai) aD).trans k2).new aR (fun k hk e=>by omega));have cB:=af (k1.aside aR (fun k e=>by rw[e];exact dy));have u_:Hid ((∀k,P k->fD k)/\(∀k,k<W.heap.size->fD k->P k)):=af ⟨k3,fun k hk hp=>k4 k (by omega) hp⟩;have kL:(w2.setCell ⟨W.heap.size,1,none⟩ (.int .i64 (w.types.length:Int))).heap.size=w2.heap.size:=OW _ _ _;have Le:=af kL;obtain⟨x0,-,x2,x3,Hc,ano,XI,anp,anq,anr⟩:=bY.gD;clear k1 k2 k3 k4 aR kL;go_wp2_with fail;refine (Fg cB ⟨ba,(w.types.length:Int),bL,ib,fY,xn,d_,fJ,fO,xs⟩ _ (dF.mk ⟨ba,(w.types.length:Int),bL,ib,fY,xn,d_,fJ,fO,xs⟩ nD eK) aT.2.1).mono ?_;rintro e w4 ⟨pX,rY,rfl,k1,k2,k3,k4⟩;have kV:=af (gB.mods k2.mods (fun e=>e.elim id dy.1));have wZ:=af k1;have uh:=af (gg.trans k2);have Rh:Hid ((∀k,P k->pX k)/\(∀k,k<W.heap.size->pX k->P k)):=af ⟨fun k hk=>k3 k (u_.1 k hk),fun k hk hp=>u_.2 k hk (k4 k (by rw[Le.out];omega) hp)⟩;have d4:=kV.ah 1;clear k1 k2 k3 k4;go_wp2_with fail;go_ret;exact⟨pX,rY,rfl,wZ,uh,Rh.1,Rh.2⟩
theorem afn (h:fx W b ak P M nm pr w) (hw:w.labels<1000000) :
 Calls prog 97 #[.pointer (some ⟨b,0,none⟩)] W (oJ W b ak P M nm pr (b7 w).2 (fun e=>e=.returned (.int .i64 ((b7 w).1:Int)))):=by
 obtain⟨tv,sv,cs,hb,-,-,-,-,-⟩:=h.blk;have c0:=hb.ah 5;have f0:=hb.free 5;have hbl:=hb.lt;have H:=af h;have cu:Hid (wrap64 ((w.labels:Int)+1)=((b7 w).1:Int)):=af (by rw[VE (by omega) (by omega)];simp[b7]);clear h hb hw;go_in;go_wp2_with fail;go_ret;rw[cu.out];obtain⟨k1,k2⟩:=H.labeled 5 (.int .i64 ((b7 w).1:Int)) (b7 w).2 rfl rfl rfl (Or.inl ⟨rfl,rfl,rfl⟩);exact⟨P,M,rfl,k1,k2,fun _ k=>k,fun _ _ k=>k⟩
theorem XL (h:fx W b ak P M nm pr w) (a:Int) (hw:w.types.length<1000000) (hw2:w.steps.length<1000000) :
 Calls prog 116 #[.pointer (some ⟨b,0,none⟩),a] W (oJ W b ak P M nm pr (lR a w).2 (fun e=>e=.returned (.int .i64 (lR a w).1))):=by
 obtain⟨tv,sv,cs,hb,-,-,-,-,-⟩:=h.blk;have c0:=hb.ah 6;have hbl:=hb.lt;have H:=af h;have aT:=af (anw hw hw2);clear h hb hw hw2;go_in;go_wp2_with fail;refine (AI H 1 { aM with code:=3,op:=[61,61],a:=a,b:=w.none } _ (dF.bare _ rfl) aT.1 aT.2).mono ?_;rintro e w2 ⟨fD,M2,rfl,k1,k2,k3,k4⟩;have K:=af (anw k1 (anw k2 (anw k3 k4)));clear k1 k2 k3 k4;go_wp2_with fail;go_ret;exact⟨fD,M2,rfl,K.1,K.2.1,K.2.2.1,K.2.2.2⟩
theorem O3 (h:fx W b ak P M nm pr w) (code a k:Int) (x:List UInt8) (p q aG ob:Option Addr) (on aF eX eW:Nat) (hx:x.length<=maxLen) (hw:w.types.length<1000000) (hw2:w.names.length<1000000) :
 Calls prog 96 #[.pointer (some ⟨b,0,none⟩),.agg #[code,a,.string ⟨x.toArray⟩,.pointer p,.pointer q,.slice aG on aF,.slice ob eX eW],k] W (oJ W b ak P M nm pr (fU x k w).2 (fun e=>e=.returned (.int .i64 (fU x k w).1))):=by
 obtain⟨W1,hW1⟩:=aq (W.alloc (.cells #[code,a,.string ⟨x.toArray⟩,.pointer p,.pointer q,.slice aG on aF,.slice ob eX eW] 143));have aO:ag ai W W1:=by rw[hW1];exact ay.alloc _
 have hb1:aw W1 W.heap.size [code,a,.string ⟨x.toArray⟩,.pointer p,.pointer q,.slice aG on aF,.slice ob eX eW] 143:=by rw[hW1];exact aw.new W _ _
 have HH:=af h;have H1:=af (h.quiet aO);have bD:=af hb1;have aD:=af aO;have aT:=af (anw hw (anw hw2 hx));have hM:¬M W.heap.size:=fun e=>by have:=h.old _ e;omega
 have u6:=af hM;clear h aO hb1 hw hw2 hM;go_in;go_wp2_with fail;rw[<-hW1];clear hW1;refine (Ph H1 k aT.1).mono ?_;rintro e w2 ⟨fD,M2,rfl,k1,k2,k3,k4⟩;have hb2:=bD.mods k2.mods (fun e=>e.elim id u6);obtain⟨tv,sv,cs,hb,-,-,-,-,-⟩:=k1.blk;have c0:=hb.ah 4;have d2:=hb2.ah 2;have hbl:=hb.lt;obtain⟨n,F,g1,g2,g3⟩:=k1.names;have bb:=af (anw g2 g3);have hd:ag ai w2 w2.drew:=ay.drew;obtain⟨w3,hput,sx,aR⟩:=(g1.mods hd id).put underlying87 x aT.2.2 (.int .i64 (w.types.length:Int)) (by have:=aT.2.1;simp only[y0]at g2;unfold maxLen;omega);have wZ:=af (anw (k1.quiet hd) (anw (k2.trans (Ext.quiet hd)) (anw k3 k4)));have bP:=af (anw sx aR);clear k1 k2 k3 k4 g1 g2 g3 hd sx aR hb hb2;unfold str at hput;go_wp2_with fail;go_region
 all_goals
  go_wp2_with fail;go_ret;obtain⟨e1,e2⟩:=wZ.1.named bb.2 x (w.types.length:Int) bP.2 bP.1 bb.1;exact⟨fD,M2,rfl,e1,((Ext.quiet (M:=M) (T:=ai) aD).trans wZ.2.1).trans e2,wZ.2.2.1,fun i hi hp=>wZ.2.2.2 i (anE hi aD.size) hp⟩

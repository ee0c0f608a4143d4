/- The document's reader, whether something is wrong or not: one state for both. What lies while a function is read. No conditions beyond the memory's. -/
import Derived.Test.YtdgedlhefjmcpaaGreatDoorEn14
import Derived.Test.YtdgedlhefjmcpaaGreatDoorEn15
namespace Go.Proofs.YtdgedlhefjmcpaaGreatDoor.TreeP.R
open Go.RowKit Go.Proofs.YtdgedlhefjmcpaaGreatDoor.Wo Go.Proofs.YtdgedlhefjmcpaaGreatDoor.TreeP
set_option linter.unusedVariables false
set_option linter.unusedSimpArgs false
def Rx (w:World) (b:Nat):Except (Int×Int) (List Tok)→Prop
 | .ok r=>Rd w b (·=b) r
 | .error (n,a)=>Rb w b (·=b) n a
def kont {β:Type} (k:List Tok→PR β):Except (Int×Int) (List Tok)→PR β
 | .ok r=>k r
 | .error e=>some (.error e)
def zm:Except (Int×Int) (List Tok)→Nat
 | .ok r=>r.length+1
 | .error _=>0
theorem Rx.far {w w':World} {b:Nat} {z:Except (Int×Int) (List Tok)} {T:Nat→Prop} (h:Rx w b z) (hm:Mods T w w') (hT:∀ k,T k→b<k):Rx w' b z:=by
 cases z with
 | ok r=>exact ⟨Rd.par h |>.far hm hT,(Rd.base h).far hm (fun k hk=>Nat.le_of_lt (hT k hk))⟩
 | error e=>exact ⟨Rb.bad h |>.far hm hT,(Rb.base h).far hm (fun k hk=>Nat.le_of_lt (hT k hk))⟩
theorem Rx.quiet {w w':World} {b:Nat} {z:Except (Int×Int) (List Tok)} (h:Rx w b z) (hm:Mods None w w'):Rx w' b z:=h.far hm (fun _ f=>f.elim)
theorem Rx.lenB {w:World} {b:Nat} {z:Except (Int×Int) (List Tok)} (h:Rx w b z):lenB w b=zm z:=by
 cases z with
 | ok r=>exact Par.lenB (Rd.par h)
 | error e=>exact Bad.lenB (Rb.bad h)
theorem Base.wide {w:World} {b:Nat} {S T:Nat→Prop} (h:Base w b S) (hb:T b) (ho:∀ k,T k→k<w.heap.size):Base w b T:=⟨h.fine,h.most,h.rng,hb,ho⟩
def Then {β:Type} (W w:World) (b:Nat) (k:List Tok→PR β) (x:Except (Int×Int) (β×List Tok)) (m:Nat):Prop:=∃ z,Rx w b z∧kont k z=some x∧zm z≤m∧Mods (·=b) W w
theorem must_x {β:Type} {b:Nat} {s:List UInt8} {W:World} {z:Except (Int×Int) (List Tok)} {k:List Tok→PR β} {x:Except (Int×Int) (β×List Tok)} (h:Rx W b z) (hx:kont (fun r=>andThen (must s r) (fun _ r2=>k r2)) z=some x) :
  Calls Tryz.prog 44 #[.pointer (some ⟨b,0,none⟩),str s] W fun e w=>e=.returned (.tuple #[])∧Then W w b k x (zm z-1):=by
 cases z with
 | error e =>
  obtain ⟨n,a⟩:=e
  refine mustb_of (s:=s) (hiD (Mods.refl _ _)) (hiD h) ?_
  rintro w HB-HM
  exact ⟨rfl,.error (n,a),HB.out,hx,Nat.zero_le _,HM.out⟩
 | ok r =>
  refine must_of (s:=s) (hiD (Mods.refl _ _)) (hiD h) (hiD hx) ?_ ?_
  ·rintro n a rfl w HB-HM
   exact ⟨rfl,.error (n,a),HB.out,rfl,Nat.zero_le _,HM.out⟩
  ·rintro r' HT HX w HR-HM
   refine ⟨rfl,.ok r',HR.out,HX.out,?_,HM.out⟩
   rw [HT.out.2]
   have:=see_less HT.out.1
   simp only [zm]
   omega
theorem take_x {β:Type} {b:Nat} {s:List UInt8} {W:World} {z:Except (Int×Int) (List Tok)} {k j:List Tok→PR β} {x:Except (Int×Int) (β×List Tok)} (h:Rx W b z) (hx:kont (fun r=>if seeB s r then k r.tail else j r) z=some x) :
  Calls Tryz.prog 46 #[.pointer (some ⟨b,0,none⟩),str s] W fun e w=>∃ t:Bool,e=.returned (.bool t)∧Then W w b (if t then k else j) x (zm z):=by
 cases z with
 | error e =>
  obtain ⟨n,a⟩:=e
  refine takeb_of (s:=s) (hiD (Mods.refl _ _)) (hiD h) ?_
  rintro w HB-HM
  exact ⟨false,rfl,.error (n,a),HB.out,hx,Nat.zero_le _,HM.out⟩
 | ok r =>
  refine take_of (s:=s) (hiD (Mods.refl _ _)) (hiD h) (hiD hx) ?_ ?_
  ·rintro HS HX w HR-HM
   refine ⟨true,rfl,.ok r.tail,HR.out,HX.out,?_,HM.out⟩
   simp only [zm,List.length_tail]
   omega
  ·rintro HS HX w HR-HM
   exact ⟨false,rfl,.ok r,HR.out,HX.out,Nat.le_refl _,HM.out⟩
theorem name_x {β:Type} {b:Nat} {W:World} {r:List Tok} {k:List UInt8→List Tok→PR β} {x:Except (Int×Int) (β×List Tok)} (h:Rx W b (.ok r)) (hx:kont (fun r=>andThen (nameP r) k) (.ok r)=some x) :
  Calls Tryz.prog 45 #[.pointer (some ⟨b,0,none⟩)] W fun e w=>∃ n:List UInt8,e=.returned (.string ⟨n.toArray⟩)∧Then W w b (k n) x r.length:=by
 refine name_of (hiD (Mods.refl _ _)) (hiD h) (hiD hx) ?_ ?_
 ·rintro n a rfl s w-HB-HM
  exact ⟨s,rfl,.error (n,a),HB.out,rfl,Nat.zero_le _,HM.out⟩
 ·rintro s r' HT HX w HR-HM
  refine ⟨s,rfl,.ok r',HR.out,HX.out,?_,HM.out⟩
  have:=name_less HT.out
  simp only [zm]
  omega
theorem ok_x {b:Nat} {W:World} {r:List Tok} (h:Rx W b (.ok r)) :
  Calls Tryz.prog 42 #[.pointer (some ⟨b,0,none⟩)] W fun e w=>e=.returned (.bool true)∧Rx w b (.ok r)∧Mods None W w :=
 ok_of (hiD (Mods.refl _ _)) (hiD h) fun w HR hm _=>⟨rfl,HR.out,hm.out⟩
theorem ok_n {b:Nat} {W:World} {n a:Int} (h:Rx W b (.error (n,a))) :
  Calls Tryz.prog 42 #[.pointer (some ⟨b,0,none⟩)] W fun e w=>e=.returned (.bool false)∧Rx w b (.error (n,a))∧Mods None W w :=
 okb_of (hiD (Mods.refl _ _)) (hiD h) fun w HR hm _=>⟨rfl,HR.out,hm.out⟩
def Block {β:Type} (T:Nat→Prop) (k:List St→List Tok→PR β) (x:Except (Int×Int) (β×List Tok)) (v:Value) (w:World):Except (Int×Int) (List Tok)→Prop
 | .ok r=>∃ bl,k bl r=some x∧StsIs T bl v w
 | .error e=>x=.error e
theorem block_x {β:Type} {b f:Nat} {T:Nat→Prop} {W:World} {r:List Tok} {k:List St→List Tok→PR β} {x:Except (Int×Int) (β×List Tok)} (h:Rx W b (.ok r)) (hb:T b) (ho:∀ i,T i→i<W.heap.size) (hx:andThen (blockF f 0 r) k=some x) :
  Calls Tryz.prog 47 #[.pointer (some ⟨b,0,none⟩),.int .i64 0] W fun e w=>∃ oa on oc z,e=.returned (.slice oa on oc)∧Rx w b z∧Block T k x (.slice oa on oc) w z∧zm z≤r.length∧Mods (·=b) W w:=by
 have hR:Rd W b T r:=⟨Rd.par h,(Rd.base h).wide hb ho⟩
 refine bind_of (hiD (Mods.refl _ _)) (hiD hR) (hiD hx) (fun y hy=>(sall f).block b T 0 r W y (by omega) hR hy) ?_ ?_
 ·rintro n a rfl xv w ⟨oa,on,oc,rfl⟩ HB-HM
  exact ⟨oa,on,oc,.error (n,a),rfl,⟨HB.out.bad,HB.out.base.wide rfl (by rintro k rfl;exact HB.out.base.old _ HB.out.base.has)⟩,rfl,Nat.zero_le _,HM.out⟩
 ·rintro bl r' HP HX xv w ⟨vs,hrow,hsts⟩ HR-HM
  obtain ⟨oa,on,oc,rfl⟩:=hrow.form
  refine ⟨oa,on,oc,.ok r',rfl,⟨HR.out.par,HR.out.base.wide rfl (by rintro k rfl;exact HR.out.base.old _ HR.out.base.has)⟩,⟨bl,HX.out,vs,hrow,hsts⟩,?_,HM.out⟩
  have:=(slens f).block HP.out
  simp only [zm]
  omega
structure Fs (w2 w:World) (b:Nat) (cs:List Value):Prop where
 own:Blk w w2.heap.size cs 33
 mods:Mods (·=b) w2 w
 lt:b<w2.heap.size
theorem Fs.far {w2 w w':World} {b:Nat} {cs:List Value} {T:Nat→Prop} (h:Fs w2 w b cs) (hm:Mods T w w') (hT:∀ k,T k→k=b∨w2.heap.size<k):Fs w2 w' b cs :=
 ⟨h.own.mods hm (fun hk=>by have:=hT _ hk;have:=h.lt;omega),h.mods.trans' hm (fun k hk hl=>by have:=hT k hk;show k=b;omega),h.lt⟩
theorem Fs.next {w2 w w':World} {b:Nat} {cs:List Value} (h:Fs w2 w b cs) (hm:Mods (·=b) w w'):Fs w2 w' b cs:=h.far hm (fun k hk=>Or.inl hk)
theorem Fs.quiet {w2 w w':World} {b:Nat} {cs:List Value} (h:Fs w2 w b cs) (hm:Mods None w w'):Fs w2 w' b cs:=h.far hm (fun _ f=>f.elim)
theorem Fs.put {w2 w:World} {b:Nat} {cs ds:List Value} (h:Fs w2 w b cs) (i:Nat) (v:Value) (he:cs.set i v=ds):Fs w2 (w.setCell ⟨w2.heap.size,i,none⟩ v) b ds :=
 ⟨blk_put h.own i v he,h.mods.trans' (mods_put w w2.heap.size i v) (fun k hk hl=>by have:k=w2.heap.size:=hk;omega),h.lt⟩
theorem Fs.start {w2:World} {b:Nat} (hb:b<w2.heap.size) (cs:Array Value):Fs w2 (w2.alloc (.cells cs 33)) b cs.toList :=
 ⟨Blk.new _ _ _,(Mods.refl _ _).alloc _,hb⟩
theorem Rx.put {w:World} {b g:Nat} {z:Except (Int×Int) (List Tok)} (h:Rx w b z) (hg:b<g) (i:Nat) (v:Value):Rx (w.setCell ⟨g,i,none⟩ v) b z:=h.far (mods_put w g i v) (by rintro k rfl;exact hg)
theorem Rx.lt {w:World} {b:Nat} {z:Except (Int×Int) (List Tok)} (h:Rx w b z):b<w.heap.size:=by
 cases z with
 | ok r=>exact (Rd.base h).old b rfl
 | error e=>exact (Rb.base h).old b rfl
def FS (S:Nat→Prop) (n:Nat):Nat→Prop:=fun k=>S k∨k=n
structure Ps (w2 w:World) (b:Nat) (S:Nat→Prop) (cs:List Value) (pv:Value) (k:Nat) (pvs:List Value):Prop where
 fs:Fs w2 w b cs
 row:Grows w (w2.heap.size+1) (FS S w2.heap.size) 85 2 pv k pvs
 has:S b
theorem Ps.next {w2 w w':World} {b:Nat} {S:Nat→Prop} {cs:List Value} {pv:Value} {k:Nat} {pvs:List Value} (h:Ps w2 w b S cs pv k pvs) (hm:Mods (·=b) w w'):Ps w2 w' b S cs pv k pvs :=
 ⟨h.fs.next hm,h.row.next (Or.inl h.has) hm,h.has⟩
theorem Ps.quiet {w2 w w':World} {b:Nat} {S:Nat→Prop} {cs:List Value} {pv:Value} {k:Nat} {pvs:List Value} (h:Ps w2 w b S cs pv k pvs) (hm:Mods None w w'):Ps w2 w' b S cs pv k pvs :=
 h.next (hm.mono fun _ _ f=>f.elim)
theorem Ps.far {w2 w w':World} {b g:Nat} {S:Nat→Prop} {cs:List Value} {pv:Value} {k:Nat} {pvs:List Value} (h:Ps w2 w b S cs pv k pvs) (hm:Mods (·=g) w w') (hg:w2.heap.size<g) (hn:¬ pv.ownBlock=some g):Ps w2 w' b S cs pv k pvs :=
 ⟨h.fs.far hm (by rintro i rfl;exact Or.inr hg),h.row.keep hm (by rintro i hi rfl;exact hn hi),h.has⟩
end Go.Proofs.YtdgedlhefjmcpaaGreatDoor.TreeP.R

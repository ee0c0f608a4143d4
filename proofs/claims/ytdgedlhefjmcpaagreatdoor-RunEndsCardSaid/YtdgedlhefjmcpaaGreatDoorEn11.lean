/- The document's reader: ( EXPR , .. ). Conditions: what is read within is read so. The document's reader: what stands first. Printed by mkreff.py. Conditions: what is read within is read so. The document's reader: a statement that is being read. No conditions. -/
import Derived.Test.YtdgedlhefjmcpaaGreatDoorEn10
import Derived.Deep.Cut
namespace Go.Proofs.YtdgedlhefjmcpaaGreatDoor.TreeP.R
open Go.RowKit Go.Proofs.YtdgedlhefjmcpaaGreatDoor.Wo Go.Proofs.YtdgedlhefjmcpaaGreatDoor.TreeP
set_option linter.unusedVariables false
set_option linter.unusedSimpArgs false
theorem grows_nil {W:World} {S:Nat→Prop} (e:TypeId) (size:Nat) {b:Nat} (hR:Base W b S) {W':World} (hm:Mods (·=b) W W'):Grows W' W.heap.size S e size nilS 0 [] :=
 ⟨World.ownsRow_nil _ _ _ _,hm.size,hR.old⟩
theorem grows_base {W:World} {B:Nat} {S:Nat→Prop} {e:TypeId} {size n:Nat} {v:Value} {vs:List Value} (h:Grows W B S e size v n vs) {b:Nat} (hR:Base W b S):Base W b (Own S v) :=
 ⟨hR.fine,hR.most,hR.rng,Or.inl hR.has,fun k hk=>hk.elim (hR.old k) (fun h2=>(h.apart h2).2)⟩
theorem grows_rd {W:World} {B:Nat} {S:Nat→Prop} {e:TypeId} {size n:Nat} {v:Value} {vs:List Value} (h:Grows W B S e size v n vs) {b:Nat} {ts:List Tok} (hR:Rd W b S ts):Rd W b (Own S v) ts :=
 ⟨hR.par,grows_base h hR.base⟩
theorem base_back {W:World} {S:Nat→Prop} {v:Value} {b:Nat} (h:Base W b (Own S v)) (hb:S b):Base W b S :=
 ⟨h.fine,h.most,h.rng,hb,fun k hk=>h.old k (Or.inl hk)⟩
theorem grows_baseGrew {W W':World} {B:Nat} {S:Nat→Prop} {e:TypeId} {size n:Nat} {v v':Value} {vs:List Value} (h:Grows W B S e size v n vs) (hg:Grew W W' v v') {b:Nat} (hR:Base W b S):Base W' b S :=
 hR.far hg.mods (fun k hk=>Nat.le_of_lt (h.far hR.has k hk))
theorem grows_rdGrew {W W':World} {B:Nat} {S:Nat→Prop} {e:TypeId} {size n:Nat} {v v':Value} {vs:List Value} (h:Grows W B S e size v n vs) (hg:Grew W W' v v') {b:Nat} {ts:List Tok} (hR:Rd W b S ts):Rd W' b S ts :=
 ⟨hR.par.far hg.mods (h.far hR.base.has),grows_baseGrew h hg hR.base⟩
theorem grows_rbGrew {W W':World} {B:Nat} {S:Nat→Prop} {e:TypeId} {size n:Nat} {v v':Value} {vs:List Value} (h:Grows W B S e size v n vs) (hg:Grew W W' v v') {b:Nat} {n' a:Int} (hR:Rb W b S n' a):Rb W' b S n' a :=
 ⟨hR.bad.far hg.mods (h.far hR.base.has),grows_baseGrew h hg hR.base⟩
theorem Par.short {W:World} {b:Nat} {ts:List Tok} (h:Par W b ts):ts.length≤10000000:=by
 obtain ⟨g,o,c,h⟩:=h
 exact h.len
theorem ptr_one' (p:Option Addr):∀ u∈[Value.pointer p],u.oneCell'=true:=by
 intro u hu
 simp only [List.mem_singleton] at hu
 subst hu
 rfl
def RestAt (S:Nat→Prop) (b f deep:Nat) (W:World) (x:Except (Int×Int) (List Ex×List Tok)) (lv fv:Value) (wr:World):Prop :=
 (∃ ff first l r vs,ff≤f∧fv=.bool first∧restF ff deep first l r=some x∧Grows wr W.heap.size S 141 1 lv l.length vs∧ExsAt wr (Own S lv) l vs∧Rd wr b S r∧Mods (·=b) W wr∧l.length+r.length+first.toNat≤10000001) ∨
 (∃ n a first,fv=.bool first∧x=.error (n,a)∧IsSl lv∧Rb wr b S n a∧Mods (·=b) W wr)
set_option maxRecDepth 100000 in
set_option maxHeartbeats 1600000 in
theorem args_of (f:Nat) (hE:∀ g,g≤f→ExprC g):ArgsC (f+1):=by
 intro b S deep ts W x hd h hx
 simp only [argsF] at hx
 have HX:=hiD hx
 have HR:=hiD h
 have HM:=hiD (Mods.refl (·=b) W)
 have HD:=hiD hd
 have HN:=hiD h.par.short
 have HG:=hiD (fun (w:World) (hm:Mods (·=b) W w)=>grows_nil 141 1 h.base hm)
 have hds:Hid ((deep:Int)+1=((deep+1:Nat):Int)):=hiD (by omega)
 have hd0:0≤(deep:Int)∧(deep:Int)≤13:=by omega
 obtain ⟨i0,hi,hz0,hz1,hz2⟩:=info_parts ptr_info
 have HI:=hiD (⟨hi,hz0,hz1,hz2⟩:_∧_∧_∧_)
 clear hx h hd hi hz0 hz1 hz2
 go_enter Tryz.func137,Tryz.ntmps137
 go_wp2_with fail
 go_at_call 44
 refine Calls.mono (R:=fun e w=>e=.returned (.tuple #[])∧RestAt S b f deep W x nilS (.bool true) w) ?_ ?_
 ·refine must_of (s:=[40]) HM HR HX ?_ ?_
  ·rintro n a rfl w HB-HM1
   exact ⟨rfl,Or.inr ⟨n,a,true,rfl,rfl,⟨_,_,_,rfl⟩,HB.out,HM1.out⟩⟩
  ·rintro r1 HT HX2 w1 HR1-HM1
   exact ⟨rfl,Or.inl ⟨f,true,[],r1,[],Nat.le_refl _,rfl,HX2.out,HG.out _ HM1.out,by simp [ExsAt],HR1.out,HM1.out,by rw [HT.out.2];have:=HN.out;simp;omega⟩⟩
 rintro e w1 ⟨rfl,hst⟩
 have HST:=hiD hst
 clear hst HX HM HR HN HG
 go_wp2_with fail
 go_loopw [5,6] (fun lv fv wr=>IsSl lv∧RestAt S b f deep W x lv fv wr) (fun _ _ wr=>lenB wr b)
 case atStart=>exact ⟨⟨_,_,_,rfl⟩,HST.out⟩
 case round =>
  clear HST
  obtain ⟨⟨oa,on,oc,rfl⟩,hst⟩:=hrel
  obtain ⟨ff,first,l,r,vs,hff,rfl,hb,hg,hv,hR1,hmm,hn⟩|⟨n,a,first,rfl,rfl,-,hB,hmm⟩:=hst
  rotate_left
  ·have HB:=hiD hB
   have HM1:=hiD hmm
   clear hB hmm
   go_wp2_with fail
   go_at_call 42
   refine okb_of HM1 HB ?_
   rintro w7 HB7-HM7
   go_wp2
   go_ret
   exact ⟨_,rfl,⟨_,_,_,rfl⟩,HB7.out,HM7.out⟩
  have HG1:=hiD hg
  have HV1:=hiD hv
  have HR1:=hiD hR1
  have HM1:=hiD hmm
  have HN1:=hiD hn
  clear hg hv hR1 hmm hn
  cases ff with
  | zero=>simp [restF] at hb
  | succ f1 =>
   simp only [restF] at hb
   have HB:=hiD hb
   clear hb
   go_wp2_with fail
   go_at_call 42
   refine ok_of HM1 HR1 ?_
   rintro w2 HR2 hm2 HM2
   have HG2:=hiD (HG1.out.next HR1.out.base.has (mods_b hm2.out))
   have HV2:=hiD (ExsAt.modsTo (hm2.out.mono fun _ _ f=>f.elim) (fun _ _ h=>h) _ _ HV1.out:ExsAt w2 (Own S (.slice oa on oc)) l vs)
   clear hm2 HV1 HG1 HM1
   go_wp2_with fail
   go_at_call 46
   refine take_of (s:=[41]) HM2 HR2 HB ?_ ?_
   ·clear HB
    rintro-HX w3 HR3 hm3 HM3
    obtain rfl:=(Option.some.inj HX.out).symm
    go_wp2
    go_ret
    exact ⟨_,rfl,⟨vs,(HG2.out.next HR2.out.base.has hm3.out).rowAt,ExsAt.modsTo (hm3.out.mono fun k _ hk=>Or.inl (hk ▸ HR2.out.base.has)) own_sub _ _ HV2.out⟩,HR3.out.par,HM3.out⟩
   ·clear HB
    rintro-HX w3 HR3 hm3 HM3
    have HG3:=hiD (HG2.out.next HR2.out.base.has (mods_b hm3.out))
    have HV3:=hiD (ExsAt.modsTo (hm3.out.mono fun _ _ f=>f.elim) (fun _ _ h=>h) _ _ HV2.out:ExsAt w3 (Own S (.slice oa on oc)) l vs)
    clear hm3 HV2 HG2 HM2
    cases first
    ·have HX1:Hid (andThen (must [44] r) (fun _ r=>andThen (exprF f1 0 (deep+1) r) fun x r2=>restF f1 deep false (l++[x]) r2)=some x):=HX
     clear HX
     go_wp2_with fail
     go_at_call 44
     refine must_of (s:=[44]) HM3 HR3 HX1 ?_ ?_
     ·rintro n a rfl w9 HB9-HM9
      go_wp2_with fail
      go_at_call 42
      refine okb_of HM9 HB9 ?_
      rintro w10 HB10-HM10
      go_wp2_with fail
      refine ⟨⟨⟨_,_,_,rfl⟩,Or.inr ⟨n,a,false,rfl,rfl,⟨_,_,_,rfl⟩,HB10.out,HM10.out⟩⟩,?_⟩
      rw [Bad.lenB HB10.out.bad,Par.lenB HR1.out.par]
      omega
     clear HX1
     rintro r9 HT9 HX2 w9 HR9 hm9 HM9
     have HG9:=hiD (HG3.out.next HR3.out.base.has hm9.out)
     have HV9:=hiD (ExsAt.modsTo (hm9.out.mono fun k _ hk=>Or.inl (hk ▸ HR3.out.base.has)) (fun _ _ h=>h) _ _ HV3.out:ExsAt w9 (Own S (.slice oa on oc)) l vs)
     have HL9:=hiD (show r9.length<r.length by rw [HT9.out.2];exact see_less HT9.out.1)
     clear HG3 HV3 HM3 hm9 HT9
     go_wp2_with fail
     go_at_call 42
     refine ok_of HM9 HR9 ?_
     rintro wa HRa hma HMa
     have HGa:=hiD (HG9.out.next HR9.out.base.has (mods_b hma.out))
     have HVa:=hiD (ExsAt.modsTo (hma.out.mono fun _ _ f=>f.elim) (fun _ _ h=>h) _ _ HV9.out:ExsAt wa (Own S (.slice oa on oc)) l vs)
     clear hma HG9 HV9 HM9 HR9
     go_wp2_with fail
     go_at_call 111
     rw [hds.out]
     refine bind_of HMa (hiD (grows_rd HGa.out HRa.out)) HX2 (fun z hz=>hE f1 (by omega) b (Own S (.slice oa on oc)) 0 (deep+1) r9 wa z (by omega) (by have:=HD.out;omega) (grows_rd HGa.out HRa.out) hz) ?_ ?_
     ·rintro n a rfl xv w4 ⟨p4,rfl⟩ HB4 hm4 HM4
      have HG4:=hiD ((HGa.out.next HRa.out.base.has hm4.out).alloc (.cells #[.pointer p4] 141))
      have HBA:=hiD ((⟨HB4.out.bad,base_back HB4.out.base HRa.out.base.has⟩:Rb w4 b S n a).quiet ((Mods.refl None w4).alloc (.cells #[.pointer p4] 141)))
      have HMA:=hiD (HM4.out.alloc (.cells #[.pointer p4] 141))
      clear hm4 HB4 HM4
      go_wp2_with (at_builtin;refine wpList_append_own_at _ rfl _ _ 193 rfl W.heap.size 141 i0 (.pointer none) 1 8 Tryz.underlying193 HI.out.1 HI.out.2.1 HI.out.2.2.1 HI.out.2.2.2 rfl (by decide) _ l.length vs rfl HG4.out.row ⟨w4.heap.size,0,none⟩ 1 1 [.pointer p4] rfl rfl (one_new _ _ _) (ptr_one' _) (by have:=HN1.out;unfold maxLen;omega) (by have:=HN1.out;omega) HG4.out.base ?_;intro v' w5 hown hgrow hnil hloc;have HGR:Hid (Grew (w4.alloc (.cells #[.pointer p4] 141)) w5 (.slice oa on oc) v'):=hiD (grew_of hgrow hloc);have HOW:=hiD (HG4.out.grew HGR.out hown);clear hown hgrow hnil hloc;refine Hid.out ?_)
      refine hiD ?_
      obtain ⟨va,vn,vc,rfl⟩:=HOW.out.form
      go_wp2_with fail
      refine ⟨⟨⟨_,_,_,rfl⟩,Or.inr ⟨n,a,false,rfl,rfl,⟨_,_,_,rfl⟩,grows_rbGrew HG4.out HGR.out HBA.out,HG4.out.modsGrew HGR.out HMA.out⟩⟩,?_⟩
      rw [Bad.lenB (grows_rbGrew HG4.out HGR.out HBA.out).bad,Par.lenB HR1.out.par]
      omega
     clear HX2
     rintro y2 r2 HP HX xv w4 hv4 HR4 hm4 HM4
     obtain ⟨g4,rfl⟩:=ExAt.ptr hv4
     have HV4:=hiD (show ExAt w4 (Own S (.slice oa on oc)) y2 _ from hv4)
     have HG4:=hiD ((HGa.out.next HRa.out.base.has hm4.out).alloc (.cells #[.pointer (some ⟨g4,0,none⟩)] 141))
     clear hv4
     go_wp2_with (at_builtin;refine wpList_append_own_at _ rfl _ _ 193 rfl W.heap.size 141 i0 (.pointer none) 1 8 Tryz.underlying193 HI.out.1 HI.out.2.1 HI.out.2.2.1 HI.out.2.2.2 rfl (by decide) _ l.length vs rfl HG4.out.row ⟨w4.heap.size,0,none⟩ 1 1 [.pointer (some ⟨g4,0,none⟩)] rfl rfl (one_new _ _ _) (ptr_one _) (by have:=HN1.out;unfold maxLen;omega) (by have:=HN1.out;omega) HG4.out.base ?_;intro v' w5 hown hgrow hnil hloc;have HGR:Hid (Grew (w4.alloc (.cells #[.pointer (some ⟨g4,0,none⟩)] 141)) w5 (.slice oa on oc) v'):=hiD (grew_of hgrow hloc);have HOW:=hiD (HG4.out.grew HGR.out hown);clear hown hgrow hnil hloc;refine Hid.out ?_)
     refine hiD ?_
     obtain ⟨va,vn,vc,rfl⟩:=HOW.out.form
     have hMA:∀ (S:Nat→Prop) (o:Obj),Mods S w4 (w4.alloc o):=fun S o=>(Mods.refl _ _).alloc _
     have HRS:=hiD (⟨HR4.out.par,base_back HR4.out.base HRa.out.base.has⟩:Rd w4 b S r2)
     go_wp2_with fail
     refine ⟨⟨⟨_,_,_,rfl⟩,Or.inl ⟨f1,false,l++[y2],r2,vs++[.pointer (some ⟨g4,0,none⟩)],by omega,rfl,HX.out,by simpa using HOW.out,?_,grows_rdGrew HG4.out HGR.out (HRS.out.quiet (hMA _ _)),HG4.out.modsGrew HGR.out (HM4.out.alloc _),?_⟩⟩,?_⟩
     ·have hA:Mods (Own S (.slice oa on oc)) wa (w4.alloc (.cells #[.pointer (some ⟨g4,0,none⟩)] 141)):=(hm4.out.mono fun k _ hk=>Or.inl (hk ▸ HRa.out.base.has)).trans (hMA _ _)
      exact ExsAt.append (ExsAt.modsTo HGR.out.own HGR.out.to _ _ (ExsAt.modsTo hA (fun _ _ h=>h) _ _ HVa.out)) (ExAt.modsTo HGR.out.own HGR.out.to _ _ (HV4.out.mods (hMA _ _)))
     ·have h1:=(lens f1).expr HP.out
      have h2:=HN1.out
      simp only [List.length_append,List.length_cons,List.length_nil,Bool.toNat_true,Bool.toNat_false] at h2 ⊢
      have:=HL9.out
      omega
     ·rw [Par.lenB (grows_rdGrew HG4.out HGR.out (HRS.out.quiet (hMA _ _))).par,Par.lenB HR1.out.par]
      have h1:=(lens f1).expr HP.out
      have:=HL9.out
      omega
    ·have HX2:Hid (andThen (exprF f1 0 (deep+1) r) (fun x r2=>restF f1 deep false (l++[x]) r2)=some x):=HX
     clear HX
     go_wp2_with fail
     go_at_call 42
     refine ok_of HM3 HR3 ?_
     rintro wa HRa hma HMa
     have HGa:=hiD (HG3.out.next HR3.out.base.has (mods_b hma.out))
     have HVa:=hiD (ExsAt.modsTo (hma.out.mono fun _ _ f=>f.elim) (fun _ _ h=>h) _ _ HV3.out:ExsAt wa (Own S (.slice oa on oc)) l vs)
     have HL9:=hiD (Nat.le_refl r.length)
     clear hma HG3 HV3 HM3 HR3
     go_wp2_with fail
     go_at_call 111
     rw [hds.out]
     refine bind_of HMa (hiD (grows_rd HGa.out HRa.out)) HX2 (fun z hz=>hE f1 (by omega) b (Own S (.slice oa on oc)) 0 (deep+1) r wa z (by omega) (by have:=HD.out;omega) (grows_rd HGa.out HRa.out) hz) ?_ ?_
     ·rintro n a rfl xv w4 ⟨p4,rfl⟩ HB4 hm4 HM4
      have HG4:=hiD ((HGa.out.next HRa.out.base.has hm4.out).alloc (.cells #[.pointer p4] 141))
      have HBA:=hiD ((⟨HB4.out.bad,base_back HB4.out.base HRa.out.base.has⟩:Rb w4 b S n a).quiet ((Mods.refl None w4).alloc (.cells #[.pointer p4] 141)))
      have HMA:=hiD (HM4.out.alloc (.cells #[.pointer p4] 141))
      clear hm4 HB4 HM4
      go_wp2_with (at_builtin;refine wpList_append_own_at _ rfl _ _ 193 rfl W.heap.size 141 i0 (.pointer none) 1 8 Tryz.underlying193 HI.out.1 HI.out.2.1 HI.out.2.2.1 HI.out.2.2.2 rfl (by decide) _ l.length vs rfl HG4.out.row ⟨w4.heap.size,0,none⟩ 1 1 [.pointer p4] rfl rfl (one_new _ _ _) (ptr_one' _) (by have:=HN1.out;unfold maxLen;omega) (by have:=HN1.out;omega) HG4.out.base ?_;intro v' w5 hown hgrow hnil hloc;have HGR:Hid (Grew (w4.alloc (.cells #[.pointer p4] 141)) w5 (.slice oa on oc) v'):=hiD (grew_of hgrow hloc);have HOW:=hiD (HG4.out.grew HGR.out hown);clear hown hgrow hnil hloc;refine Hid.out ?_)
      refine hiD ?_
      obtain ⟨va,vn,vc,rfl⟩:=HOW.out.form
      go_wp2_with fail
      refine ⟨⟨⟨_,_,_,rfl⟩,Or.inr ⟨n,a,false,rfl,rfl,⟨_,_,_,rfl⟩,grows_rbGrew HG4.out HGR.out HBA.out,HG4.out.modsGrew HGR.out HMA.out⟩⟩,?_⟩
      rw [Bad.lenB (grows_rbGrew HG4.out HGR.out HBA.out).bad,Par.lenB HR1.out.par]
      omega
     clear HX2
     rintro y2 r2 HP HX xv w4 hv4 HR4 hm4 HM4
     obtain ⟨g4,rfl⟩:=ExAt.ptr hv4
     have HV4:=hiD (show ExAt w4 (Own S (.slice oa on oc)) y2 _ from hv4)
     have HG4:=hiD ((HGa.out.next HRa.out.base.has hm4.out).alloc (.cells #[.pointer (some ⟨g4,0,none⟩)] 141))
     clear hv4
     go_wp2_with (at_builtin;refine wpList_append_own_at _ rfl _ _ 193 rfl W.heap.size 141 i0 (.pointer none) 1 8 Tryz.underlying193 HI.out.1 HI.out.2.1 HI.out.2.2.1 HI.out.2.2.2 rfl (by decide) _ l.length vs rfl HG4.out.row ⟨w4.heap.size,0,none⟩ 1 1 [.pointer (some ⟨g4,0,none⟩)] rfl rfl (one_new _ _ _) (ptr_one _) (by have:=HN1.out;unfold maxLen;omega) (by have:=HN1.out;omega) HG4.out.base ?_;intro v' w5 hown hgrow hnil hloc;have HGR:Hid (Grew (w4.alloc (.cells #[.pointer (some ⟨g4,0,none⟩)] 141)) w5 (.slice oa on oc) v'):=hiD (grew_of hgrow hloc);have HOW:=hiD (HG4.out.grew HGR.out hown);clear hown hgrow hnil hloc;refine Hid.out ?_)
     refine hiD ?_
     obtain ⟨va,vn,vc,rfl⟩:=HOW.out.form
     have hMA:∀ (S:Nat→Prop) (o:Obj),Mods S w4 (w4.alloc o):=fun S o=>(Mods.refl _ _).alloc _
     have HRS:=hiD (⟨HR4.out.par,base_back HR4.out.base HRa.out.base.has⟩:Rd w4 b S r2)
     go_wp2_with fail
     refine ⟨⟨⟨_,_,_,rfl⟩,Or.inl ⟨f1,false,l++[y2],r2,vs++[.pointer (some ⟨g4,0,none⟩)],by omega,rfl,HX.out,by simpa using HOW.out,?_,grows_rdGrew HG4.out HGR.out (HRS.out.quiet (hMA _ _)),HG4.out.modsGrew HGR.out (HM4.out.alloc _),?_⟩⟩,?_⟩
     ·have hA:Mods (Own S (.slice oa on oc)) wa (w4.alloc (.cells #[.pointer (some ⟨g4,0,none⟩)] 141)):=(hm4.out.mono fun k _ hk=>Or.inl (hk ▸ HRa.out.base.has)).trans (hMA _ _)
      exact ExsAt.append (ExsAt.modsTo HGR.out.own HGR.out.to _ _ (ExsAt.modsTo hA (fun _ _ h=>h) _ _ HVa.out)) (ExAt.modsTo HGR.out.own HGR.out.to _ _ (HV4.out.mods (hMA _ _)))
     ·have h1:=(lens f1).expr HP.out
      have h2:=HN1.out
      simp only [List.length_append,List.length_cons,List.length_nil,Bool.toNat_true,Bool.toNat_false] at h2 ⊢
      have:=HL9.out
      omega
     ·rw [Par.lenB (grows_rdGrew HG4.out HGR.out (HRS.out.quiet (hMA _ _))).par,Par.lenB HR1.out.par]
      have h1:=(lens f1).expr HP.out
      have:=HL9.out
      omega
set_option maxRecDepth 100000 in
set_option maxHeartbeats 2400000 in
theorem first_word (f:Nat) (hA:AloneC f) (hG:ArgsC f) {b:Nat} {S:Nat→Prop} {deep:Nat} {ts:List Tok} {W:World} {x:Except (Int×Int) (Ex×List Tok)} (hd:deep≤13) (h:Rd W b S ts) (hx:firstF (f+1) deep ts=some x) (hn:headKind ts≠2) :
  Calls Tryz.prog 156 #[.pointer (some ⟨b,0,none⟩),.int .i64 deep] W (Got (·=b) W b S IsPtr (ExIs S) (some x)):=by
 simp only [firstF] at hx
 rw [if_neg hn] at hx
 have hd0:0≤(deep:Int)∧(deep:Int)≤13:=by omega
 have HD:=hiD hd
 have HR:=hiD h
 obtain ⟨g,o,c,hp⟩:=h.par
 obtain ⟨t,rr,hts⟩:=ends_cons hp.ends
 rw [hts] at hp
 obtain ⟨tk,tt,ta⟩:=t
 have e1:headKind ts=tk:=by rw [hts];rfl
 have e3:headAt ts=ta:=by rw [hts];rfl
 rw [e1] at hn
 rw [e3] at hx
 have hl:=hp.cl
 have hk:=hp.ck
 have ht:=hp.ct
 have ha:=hp.ca
 simp only at hk ht ha
 have hcap:=hp.cap
 have hmax:=hp.max
 simp only [List.length_cons] at hcap
 have HX:=hiD hx
 have hb:=h.base.has
 have HB0:=hiD (Blk.new W #[.int .i64 tk,.string ⟨tt.toArray⟩,.int .i64 ta] 95)
 have HM0:=hiD ((Mods.refl (·=b) W).alloc (.cells #[.int .i64 tk,.string ⟨tt.toArray⟩,.int .i64 ta] 95))
 have HR0:=hiD (HR.out.quiet ((Mods.refl None W).alloc (.cells #[.int .i64 tk,.string ⟨tt.toArray⟩,.int .i64 ta] 95)))
 have hne:Hid (¬ W.heap.size=b):=hiD (by have:=HR.out.base.old b hb;omega)
 have hkb:(tk==2)=false:=by simpa using hn
 clear hp hb hts e1 e3 hx hd HR h
 go_enter Tryz.func156,Tryz.ntmps156
 go_wp2_with fail
 go_at_call 78
 refine see_of (s:=[40]) HM0 HR0 HX ?_ ?_
 ·clear HX
  rintro-HX w1 HR1-HM1
  go_wp2_with fail
  go_at_call 110
  refine tail_of HM1 HR1 HX (fun y hy=>hA b S deep ts _ y HD.out HR1.out hy) ?_ ?_
  ·rintro n a rfl xv w ⟨p,rfl⟩ HB-HM2
   go_wp2
   go_ret
   exact ⟨_,rfl,⟨_,rfl⟩,HB.out,HM2.out⟩
  rintro v r rfl xv w hv HR2-HM2
  have HV:=hiD hv
  clear hv HX
  go_wp2
  go_ret
  exact ⟨_,rfl,HV.out,HR2.out.par,HM2.out⟩
 clear HX
 rintro-HX w1 HR1 hm1 HM1
 have HB1:=hiD (HB0.out.mods hm1.out (fun f=>f))
 clear HB0 HM0 HR0 hm1 hl hk ht ha
 go_wp2_with fail
 go_at_call 46
 refine take_of (s:=kNew) HM1 HR1 HX ?_ ?_
 ·clear HX
  rintro-HX w2 HR2 hm2 HM2
  have hc2:=(HB1.out.mods hm2.out hne.out).cell (i:=2) rfl
  have HRd:=hiD (HR2.out.quiet (Mods.refl None w2).drew)
  have HMd:=hiD HM2.out.drew
  clear hm2 HB1 HR1 HM1
  go_wp2_with fail
  rcases bind_cases HX with ⟨n,a,hy,rfl⟩|⟨v,r,hy,HX2⟩
  ·have HC:=hiD (hA b S deep ts.tail _ _ HD.out HRd.out hy)
   clear hy HX
   go_region_held3 (fun w'=>w'.cell? ⟨W.heap.size,2,none⟩=some (.int .i64 ta))
    (first|exact hc2|assumption|exact hm3.cellOf ‹_› hne.out|exact al_cell ‹_›)
    ((first|(go_at_call 110;refine HC.out.mono ?_;rintro e w3 ⟨xv,rfl,⟨p3,rfl⟩,hb3,hm3⟩)))
   all_goals
    have HB3:=hiD hb3
    have HM3:=hiD (HMd.out.trans hm3)
    clear hb3 hm3
    go_wp2
    go_ret
    exact ⟨_,rfl,⟨_,rfl⟩,HB3.out.quiet ((Mods.refl _ _).alloc _),HM3.out.alloc _⟩
  ·have HC:=hiD (hA b S deep ts.tail _ _ HD.out HRd.out hy)
   clear hy HX
   obtain rfl:=(Option.some.inj HX2.out).symm
   go_region_held3 (fun w'=>w'.cell? ⟨W.heap.size,2,none⟩=some (.int .i64 ta))
    (first|exact hc2|assumption|exact hm3.cellOf ‹_› hne.out|exact al_cell ‹_›)
    ((first|(go_at_call 110;refine HC.out.mono ?_;rintro e w3 ⟨y3,rfl,hv3,hp3,hm3⟩;obtain ⟨g4,rfl⟩:=ExAt.ptr hv3)))
   all_goals
    have HR3:=hiD (HRd.out.next hp3 hm3)
    have HV3:=hiD (show ExAt w3 S v _ from hv3)
    have HM3:=hiD (HMd.out.trans hm3)
    clear hp3 hm3 hv3
    go_wp2
    go_ret
    refine ⟨_,rfl,?_,HR3.out.par.mods ((Mods.refl _ _).alloc _),HM3.out.alloc _⟩
    simp only [ExIs,ExAt]
    exact ⟨_,Node.new HR3.out.base.old _,HV3.out.mods ((Mods.refl _ _).alloc _)⟩
 clear HX
 rintro-HX w2 HR2 hm2 HM2
 have HB2:=hiD (HB1.out.mods hm2.out (fun f=>f))
 clear HB1 HM1 HR1 hm2
 go_wp2_with fail
 go_at_call 46
 refine take_of (s:=kLen) HM2 HR2 HX ?_ ?_
 ·clear HX
  rintro-HX w2 HR2 hm2 HM2
  have hc2:=(HB2.out.mods hm2.out hne.out).cell (i:=2) rfl
  have HRd:=hiD (HR2.out.quiet (Mods.refl None w2).drew)
  have HMd:=hiD HM2.out.drew
  clear hm2 HB2 HR2 HM2
  go_wp2_with fail
  rcases bind_cases HX with ⟨n,a,hy,rfl⟩|⟨v,r,hy,HX2⟩
  ·have HC:=hiD (hA b S deep ts.tail _ _ HD.out HRd.out hy)
   clear hy HX
   go_region_held3 (fun w'=>w'.cell? ⟨W.heap.size,2,none⟩=some (.int .i64 ta))
    (first|exact hc2|assumption|exact hm3.cellOf ‹_› hne.out|exact al_cell ‹_›)
    ((first|(go_at_call 110;refine HC.out.mono ?_;rintro e w3 ⟨xv,rfl,⟨p3,rfl⟩,hb3,hm3⟩)))
   all_goals
    have HB3:=hiD hb3
    have HM3:=hiD (HMd.out.trans hm3)
    clear hb3 hm3
    go_wp2
    go_ret
    exact ⟨_,rfl,⟨_,rfl⟩,HB3.out.quiet ((Mods.refl _ _).alloc _),HM3.out.alloc _⟩
  ·have HC:=hiD (hA b S deep ts.tail _ _ HD.out HRd.out hy)
   clear hy HX
   obtain rfl:=(Option.some.inj HX2.out).symm
   go_region_held3 (fun w'=>w'.cell? ⟨W.heap.size,2,none⟩=some (.int .i64 ta))
    (first|exact hc2|assumption|exact hm3.cellOf ‹_› hne.out|exact al_cell ‹_›)
    ((first|(go_at_call 110;refine HC.out.mono ?_;rintro e w3 ⟨y3,rfl,hv3,hp3,hm3⟩;obtain ⟨g4,rfl⟩:=ExAt.ptr hv3)))
   all_goals
    have HR3:=hiD (HRd.out.next hp3 hm3)
    have HV3:=hiD (show ExAt w3 S v _ from hv3)
    have HM3:=hiD (HMd.out.trans hm3)
    clear hp3 hm3 hv3
    go_wp2
    go_ret
    refine ⟨_,rfl,?_,HR3.out.par.mods ((Mods.refl _ _).alloc _),HM3.out.alloc _⟩
    simp only [ExIs,ExAt]
    exact ⟨_,Node.new HR3.out.base.old _,HV3.out.mods ((Mods.refl _ _).alloc _)⟩
 clear HX
 rintro-HX w3 HR3 hm3 HM3
 have HB3:=hiD (HB2.out.mods hm3.out (fun f=>f))
 clear HB2 HM2 HR2 hm3
 go_wp2_with fail
 go_at_call 46
 refine take_of (s:=kInput) HM3 HR3 HX ?_ ?_
 ·clear HX
  rintro-HX w5 HR5 hm5 HM5
  have HC5:=hiD (HB3.out.mods hm5.out hne.out)
  clear hm5 HB3 HM3 HR3
  go_wp2_with fail
  go_at_call 44
  refine must_of (s:=[40]) HM5 HR5 HX ?_ ?_
  ·rintro n a rfl w6 HB6 hm6 HM6
   have HC6:=hiD (HC5.out.mods hm6.out hne.out)
   clear hm6
   go_wp2_with fail
   go_at_call 44
   refine mustb_of (s:=[41]) HM6 HB6 ?_
   rintro w7 HB7 hm7 HM7
   have hc7:=(HC6.out.mods hm7.out (fun f=>f)).cell (i:=2) rfl
   clear hm7
   go_wp2
   go_ret
   exact ⟨_,rfl,⟨_,rfl⟩,HB7.out.quiet ((Mods.refl _ _).alloc _),HM7.out.alloc _⟩
  clear HX
  rintro r3-HX w6 HR6 hm6 HM6
  have HC6:=hiD (HC5.out.mods hm6.out hne.out)
  clear hm6
  go_wp2_with fail
  go_at_call 44
  refine must_of (s:=[41]) HM6 HR6 HX ?_ ?_
  ·rintro n a rfl w7 HB7 hm7 HM7
   have hc7:=(HC6.out.mods hm7.out hne.out).cell (i:=2) rfl
   clear hm7
   go_wp2
   go_ret
   exact ⟨_,rfl,⟨_,rfl⟩,HB7.out.quiet ((Mods.refl _ _).alloc _),HM7.out.alloc _⟩
  clear HX
  rintro r4-HX w7 HR7 hm7 HM7
  have hc7:=(HC6.out.mods hm7.out hne.out).cell (i:=2) rfl
  clear hm7
  obtain rfl:=(Option.some.inj HX.out).symm
  go_wp2
  go_ret
  refine ⟨_,rfl,?_,HR7.out.par.mods ((Mods.refl _ _).alloc _),HM7.out.alloc _⟩
  simp only [ExIs,ExAt]
  exact Node.new HR7.out.base.old _
 clear HX
 rintro-HX w4 HR4 hm4 HM4
 have HB4:=hiD (HB3.out.mods hm4.out (fun f=>f))
 clear HB3 HM3 HR3 hm4
 go_wp2_with fail
 go_at_call 45
 refine name_of HM4 HR4 HX ?_ ?_
 ·rintro n a rfl s w5-HB5 hm5 HM5
  have HC5:=hiD (HB4.out.mods hm5.out hne.out)
  clear hm5
  go_wp2_with fail
  go_at_call 78
  refine seeb_of (s:=[40]) HM5 HB5 ?_
  rintro w6 HB6 hm6 HM6
  have hc6:=(HC5.out.mods hm6.out (fun f=>f)).cell (i:=2) rfl
  clear hm6
  go_wp2
  go_ret
  exact ⟨_,rfl,⟨_,rfl⟩,HB6.out.quiet ((Mods.refl _ _).alloc _),HM6.out.alloc _⟩
 clear HX
 rintro s r2-HX w5 HR5 hm5 HM5
 have HC5:=hiD (HB4.out.mods hm5.out hne.out)
 clear hm5 HB4 HR4 HM4
 go_wp2_with fail
 go_at_call 78
 refine see_of (s:=[40]) HM5 HR5 HX ?_ ?_
 ·clear HX
  rintro-HX w6 HR6 hm6 HM6
  have hc2:=(HC5.out.mods hm6.out (fun f=>f)).cell (i:=2) rfl
  have HRd:=hiD (HR6.out.quiet (Mods.refl None w6).drew)
  have HMd:=hiD HM6.out.drew
  clear hm6 HC5
  go_wp2_with fail
  rcases bind_cases HX with ⟨n,a,hy,rfl⟩|⟨v,r,hy,HX2⟩
  ·have HC:=hiD (hG b S deep r2 _ _ HD.out HRd.out hy)
   clear hy HX
   go_region_held3 (fun w'=>w'.cell? ⟨W.heap.size,2,none⟩=some (.int .i64 ta))
    (first|exact hc2|assumption|exact hm3.cellOf ‹_› hne.out|exact al_cell ‹_›)
    ((first|(go_at_call 137;refine HC.out.mono ?_;rintro e w3 ⟨xv,rfl,⟨pa,pn,pc,rfl⟩,hb3,hm3⟩)))
   all_goals
    have HB3:=hiD hb3
    have HM3:=hiD (HMd.out.trans hm3)
    clear hb3 hm3
    go_wp2
    go_ret
    exact ⟨_,rfl,⟨_,rfl⟩,HB3.out.quiet ((Mods.refl _ _).alloc _),HM3.out.alloc _⟩
  ·have HC:=hiD (hG b S deep r2 _ _ HD.out HRd.out hy)
   clear hy HX
   obtain rfl:=(Option.some.inj HX2.out).symm
   go_region_held3 (fun w'=>w'.cell? ⟨W.heap.size,2,none⟩=some (.int .i64 ta))
    (first|exact hc2|assumption|exact hm3.cellOf ‹_› hne.out|exact al_cell ‹_›)
    ((first|(go_at_call 137;refine HC.out.mono ?_;rintro e w3 ⟨y3,rfl,⟨vs,hr3,hv3⟩,hp3,hm3⟩;obtain ⟨oa,on,oc,rfl⟩:=RowAt.form hr3)))
   all_goals
    have HR3:=hiD (HRd.out.next hp3 hm3)
    have HW3:=hiD hr3
    have HV3:=hiD hv3
    have HM3:=hiD (HMd.out.trans hm3)
    clear hp3 hm3 hv3 hr3
    go_wp2
    go_ret
    refine ⟨_,rfl,?_,HR3.out.par.mods ((Mods.refl _ _).alloc _),HM3.out.alloc _⟩
    simp only [ExIs,ExAt]
    exact ⟨_,_,Node.new HR3.out.base.old _,HW3.out.mods ((Mods.refl _ _).alloc _) (fun _ _ h=>h),ExsAt.modsTo ((Mods.refl _ _).alloc _) (fun _ _ h=>h) _ _ HV3.out⟩
 ·clear HX
  rintro-HX w6 HR6 hm6 HM6
  have hc6:=(HC5.out.mods hm6.out (fun f=>f)).cell (i:=2) rfl
  clear hm6
  obtain rfl:=(Option.some.inj HX.out).symm
  go_wp2
  go_ret
  refine ⟨_,rfl,?_,HR6.out.par.mods ((Mods.refl _ _).alloc _),HM6.out.alloc _⟩
  simp only [ExIs,ExAt]
  exact Node.new HR6.out.base.old _
set_option maxRecDepth 100000 in
set_option maxHeartbeats 1600000 in
theorem first_num {f:Nat} {b:Nat} {S:Nat→Prop} {deep:Nat} {ts:List Tok} {W:World} {x:Except (Int×Int) (Ex×List Tok)} (h:Rd W b S ts) (hx:firstF (f+1) deep ts=some x) (hn:headKind ts=2) :
  Calls Tryz.prog 156 #[.pointer (some ⟨b,0,none⟩),.int .i64 deep] W (Got (·=b) W b S IsPtr (ExIs S) (some x)):=by
 simp only [firstF] at hx
 rw [if_pos hn] at hx
 have HR:=hiD h
 have hg8:=h.base.rng
 obtain ⟨g,o,c,hp⟩:=h.par
 obtain ⟨t,rr,hts⟩:=ends_cons hp.ends
 rw [hts] at hp
 obtain ⟨tk,tt,ta⟩:=t
 have e1:headKind ts=tk:=by rw [hts];rfl
 have e2:headText ts=tt:=by rw [hts];rfl
 have e3:headAt ts=ta:=by rw [hts];rfl
 have e4:ts.tail=rr:=by rw [hts];rfl
 rw [e1] at hn
 subst hn
 rw [e2,e3,e4] at hx
 have hl:=hp.cl
 have hk:=hp.ck
 have ht:=hp.ct
 have ha:=hp.ca
 simp only at hk ht ha
 have hcap:=hp.cap
 have hmax:=hp.max
 simp only [List.length_cons] at hcap
 have hnum:tt≠[]∧tt.all digitB=true:=by
  rcases hp.forms _ List.mem_cons_self with ⟨h,_⟩|⟨_,h⟩|⟨h,_⟩|⟨h,_⟩
  ·cases h
  ·exact h
  ·cases h
  ·cases h
 have hsm:=hp.small _ List.mem_cons_self
 simp only at hsm
 have HB0:=hiD (Blk.new W #[.int .i64 2,.string ⟨tt.toArray⟩,.int .i64 ta] 95)
 have hMA:=hiD ((Mods.refl None W).alloc (.cells #[.int .i64 2,.string ⟨tt.toArray⟩,.int .i64 ta] 95))
 have HP:=hiD hp
 have hmore:=more_left hp (by simp)
 have hi:=int_digits hnum.1 hnum.2
 by_cases h63:numP tt<9223372036854775808
 ·rw [if_pos h63] at hx hi
  obtain rfl:=(Option.some.inj hx).symm
  have hN:0≤(numP tt:Int)∧(numP tt:Int)<9223372036854775808:=by omega
  obtain ⟨n,hn⟩:∃ n:Int,n=(numP tt:Int):=⟨_,rfl⟩
  rw [← hn] at hi hN ⊢
  have HC:=hiD (fun (w:World)=>Tryz.strconv_ParseInt_10_at64_ok ⟨tt.toArray⟩ (by simp only [ByteArray.size,List.size_toArray];omega) n (by simpa using hi) w)
  clear hp hg8 hts e1 e2 e3 e4 hx hi h63 hnum hsm hn h
  go_enter Tryz.func156,Tryz.ntmps156
  go_wp2_with (go_at_call 172;refine (HC.out _).mono ?_;rintro e w1 ⟨rfl,hw⟩;have hM1:Mods None (W.alloc (.cells #[.int .i64 2,.string ⟨tt.toArray⟩,.int .i64 ta] 95)) w1:=(by rcases hw with rfl|⟨t,rfl⟩;exact Mods.refl _ _;exact Mods.of_below (Lib.bytesWorld_below _ _ _));have HMA:=hiD (hMA.out.trans hM1);clear hw;have B:=HB0.out.mods hM1 (fun f=>f);have c1:=B.cell (i:=2) rfl;have hl2:=HMA.out.cellOf hl (fun f=>f);have hf2:=(HP.out.blk.mods HMA.out (fun f=>f)).free 0)
  go_ret
  have HQ:=(HP.out.mods HMA.out (fun f=>f) (fun f=>f)).tail (by simp)
  have hS:Mods (·=b) w1 (w1.setCell ⟨b,0,none⟩ (.slice (some ⟨g,o+3,none⟩) rr.length (c-1))):=Mods.setCell (S:=(·=b)) (p:=⟨b,0,none⟩) (Mods.refl _ _) (fun _=>rfl) _
  have HR2:=(HR.out.quiet HMA.out).next (⟨_,_,_,HQ⟩:Par _ b rr) hS
  refine ⟨_,rfl,?_,HR2.par.mods ((Mods.refl _ _).alloc _),((HMA.out.mono fun _ _ f=>f.elim).trans hS).alloc _⟩
  simp only [ExIs,ExAt]
  have hsz:(w1.setCell ⟨b,0,none⟩ (.slice (some ⟨g,o+3,none⟩) rr.length (c-1))).heap.size=w1.heap.size:=by simp [World.setCell]
  have hnode:=Node.new HR2.base.old #[.int .i64 1,.int .i64 ta,.int .i64 n,.string ⟨#[]⟩,.string ⟨#[]⟩,.pointer none,.pointer none,.slice none 0 0]
  rw [hsz] at hnode
  exact hnode
 ·rw [if_neg h63] at hx hi
  have HX:=hiD hx
  obtain ⟨hgl,te,pe,hge⟩:=hg8
  have HC:=hiD (fun (w:World) (hv:w.cell? ⟨11,0,none⟩=some (.iface te pe))=>Tryz.strconv_ParseInt_10_at64_range ⟨tt.toArray⟩ (by simp only [ByteArray.size,List.size_toArray];omega) (by simpa using hi) _ w hv (Or.inr ⟨te,pe,rfl⟩))
  have HG:=hiD hge
  clear hp hts e1 e2 e3 e4 hx hi h63 hnum hsm hgl hge h
  go_enter Tryz.func156,Tryz.ntmps156
  go_wp2_with (go_at_call 172;refine (HC.out _ (hMA.out.cellOf HG.out (fun f=>f))).mono ?_;rintro e w1 ⟨N,rfl,hN1,hN2,hbel⟩;have hM1:Mods None (W.alloc (.cells #[.int .i64 2,.string ⟨tt.toArray⟩,.int .i64 ta] 95)) w1:=Mods.of_below hbel;have HMA:=hiD (hMA.out.trans hM1);clear hN1 hN2 hbel)
  go_at_call 43
  refine fail_of (hiD (HMA.out.mono (T:=(·=b)) fun _ _ f=>f.elim)) (hiD (HR.out.quiet HMA.out)) HX (Or.inr rfl) ?_
  rintro n a rfl w HB-HM1
  go_wp2
  go_ret
  exact ⟨_,rfl,⟨_,rfl⟩,HB.out,HM1.out⟩
structure AllC (f:Nat):Prop where
 expr:ExprC f
 unary:UnaryC f
 first:FirstC f
 alone:AloneC f
 args:ArgsC f
theorem first_of (f:Nat) (hA:AloneC f) (hG:ArgsC f):FirstC (f+1):=by
 intro b S deep ts W x hd h hx
 by_cases hn:headKind ts=2
 ·exact first_num h hx hn
 ·exact first_word f hA hG hd h hx hn
theorem expr_of (f:Nat) (hU:UnaryC f) (hE:∀ g,g≤f→ExprC g):ExprC (f+1):=by
 intro b S level deep ts W x hl hd h hx
 by_cases h6:level=6
 ·subst h6
  exact six_of hU hd h hx
 ·exact low_of hE (by omega) hd h hx
theorem exprs:∀ f,AllC f:=by
 intro f
 induction f using Nat.strongRecOn with
 | ind f ih =>
  cases f with
  | zero=>exact ⟨fun _ _ _ _ _ _ _ _ _ _ h=>by simp [exprF] at h,fun _ _ _ _ _ _ _ _ h=>by simp [unaryF] at h,fun _ _ _ _ _ _ _ _ h=>by simp [firstF] at h,fun _ _ _ _ _ _ _ _ h=>by simp [aloneF] at h,fun _ _ _ _ _ _ _ _ h=>by simp [argsF] at h⟩
  | succ f =>
   have hE:∀ g,g≤f→ExprC g:=fun g hg=>(ih g (by omega)).expr
   have h:=ih f (by omega)
   exact ⟨expr_of f h.unary hE,one_of f h.unary h.first hE,first_of f h.alone h.args,round_of f h.expr,args_of f hE⟩
structure St7 (W0 w:World) (b sb:Nat) (S:Nat→Prop) (cs:List Value):Prop where
 base:Base w b S
 own:Blk w sb cs 143
 hasS:S sb
 lt:b<sb
 mods:Mods (Two b sb) W0 w
structure NG (W0 w:World) (b sb:Nat) (S:Nat→Prop) (ts:List Tok) (cs:List Value):Prop where
 st:St7 W0 w b sb S cs
 par:Par w b ts
structure NB (W0 w:World) (b sb:Nat) (S:Nat→Prop) (n a:Int) (cs:List Value):Prop where
 st:St7 W0 w b sb S cs
 bad:Bad w b n a
theorem St7.next {W0 w w':World} {b sb:Nat} {S:Nat→Prop} {cs:List Value} (h:St7 W0 w b sb S cs) (hm:Mods (·=b) w w'):St7 W0 w' b sb S cs :=
 ⟨h.base.far hm (fun k hk=>Nat.le_of_eq hk.symm),h.own.mods hm (fun e=>Nat.ne_of_gt h.lt e),h.hasS,h.lt,h.mods.trans (mods_one hm)⟩
theorem St7.put {W0 w:World} {b sb:Nat} {S:Nat→Prop} {cs:List Value} (h:St7 W0 w b sb S cs) (i:Nat) (v:Value) {ds:List Value} (he:cs.set i v=ds):St7 W0 (w.setCell ⟨sb,i,none⟩ v) b sb S ds :=
 ⟨h.base.far (mods_put w sb i v) (fun k hk=>hk ▸ Nat.le_of_lt h.lt),blk_put h.own i v he,h.hasS,h.lt,h.mods.trans (mods_two (mods_put w sb i v))⟩
theorem NG.rd {W0 w:World} {b sb:Nat} {S:Nat→Prop} {ts:List Tok} {cs:List Value} (h:NG W0 w b sb S ts cs):Rd w b S ts:=⟨h.par,h.st.base⟩
theorem NB.rb {W0 w:World} {b sb:Nat} {S:Nat→Prop} {n a:Int} {cs:List Value} (h:NB W0 w b sb S n a cs):Rb w b S n a:=⟨h.bad,h.st.base⟩
theorem NG.next {W0 w w':World} {b sb:Nat} {S:Nat→Prop} {ts r:List Tok} {cs:List Value} (h:NG W0 w b sb S ts cs) (hp:Par w' b r) (hm:Mods (·=b) w w'):NG W0 w' b sb S r cs:=⟨h.st.next hm,hp⟩
theorem NG.fail {W0 w w':World} {b sb:Nat} {S:Nat→Prop} {ts:List Tok} {n a:Int} {cs:List Value} (h:NG W0 w b sb S ts cs) (hp:Bad w' b n a) (hm:Mods (·=b) w w'):NB W0 w' b sb S n a cs:=⟨h.st.next hm,hp⟩
theorem NB.next {W0 w w':World} {b sb:Nat} {S:Nat→Prop} {n a:Int} {cs:List Value} (h:NB W0 w b sb S n a cs) (hm:Mods None w w'):NB W0 w' b sb S n a cs:=⟨h.st.next (mods_b hm),h.bad.mods hm⟩
theorem NG.put {W0 w:World} {b sb:Nat} {S:Nat→Prop} {ts:List Tok} {cs:List Value} (h:NG W0 w b sb S ts cs) (i:Nat) (v:Value) {ds:List Value} (he:cs.set i v=ds):NG W0 (w.setCell ⟨sb,i,none⟩ v) b sb S ts ds :=
 ⟨h.st.put i v he,h.par.far (mods_put w sb i v) (fun k hk=>hk ▸ h.st.lt)⟩
theorem NB.put {W0 w:World} {b sb:Nat} {S:Nat→Prop} {n a:Int} {cs:List Value} (h:NB W0 w b sb S n a cs) (i:Nat) (v:Value) {ds:List Value} (he:cs.set i v=ds):NB W0 (w.setCell ⟨sb,i,none⟩ v) b sb S n a ds :=
 ⟨h.st.put i v he,h.bad.far (mods_put w sb i v) (fun k hk=>hk ▸ h.st.lt)⟩
theorem St7.putMods {W0 w:World} {b sb:Nat} {S:Nat→Prop} {cs:List Value} (h:St7 W0 w b sb S cs) (i:Nat) (v:Value):Mods S w (w.setCell ⟨sb,i,none⟩ v) :=
 (mods_put w sb i v).mono fun k _ hk=>hk ▸ h.hasS
theorem St7.bMods {W0 w w':World} {b sb:Nat} {S:Nat→Prop} {cs:List Value} (h:St7 W0 w b sb S cs) (hm:Mods (·=b) w w'):Mods S w w' :=
 hm.mono fun k _ hk=>hk ▸ h.base.has
def Seven (cs:List Value):Prop:=∃ code a name p q oa on oc ob om od,cs=[.int .i64 code,.int .i64 a,.string name,.pointer p,.pointer q,.slice oa on oc,.slice ob om od]
def NamedTo (W:World) (b sb:Nat) (S:Nat→Prop) (x:Except (Int×Int) (St×List Tok)) (e:Ending) (w:World):Prop :=
 e=.returned (.tuple #[])∧match x with
 | .ok (s,r)=>∃ cs,NG W w b sb S r cs∧StAt w S s cs
 | .error (n,a)=>∃ cs,NB W w b sb S n a cs∧Seven cs
end Go.Proofs.YtdgedlhefjmcpaaGreatDoor.TreeP.R

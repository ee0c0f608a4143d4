/- The document's reader: { STMT .. }; statements are read as the plain reader says, with any number of rounds. No conditions beyond the memory's. -/
import Derived.Test.YtdgedlhefjmcpaaGreatDoorEn13
import Derived.Test.YtdgedlhefjmcpaaGreatDoorEn06
namespace Go.Proofs.YtdgedlhefjmcpaaGreatDoor.TreeP.R
open Go.RowKit Go.Proofs.YtdgedlhefjmcpaaGreatDoor.Wo Go.Proofs.YtdgedlhefjmcpaaGreatDoor.TreeP
set_option linter.unusedVariables false
set_option linter.unusedSimpArgs false
def SeqAt (S:Nat→Prop) (b f deep:Nat) (W:World) (x:Except (Int×Int) (List St×List Tok)) (lv:Value) (wr:World):Prop :=
 (∃ ff l r vs,ff≤f∧stmtsF ff deep l r=some x∧Grows wr W.heap.size S 143 7 lv l.length vs∧StsAt wr (Own S lv) l vs∧Rd wr b S r∧Mods (·=b) W wr∧l.length+r.length≤10000000∧deep≤12) ∨
 (∃ n a,x=.error (n,a)∧Rb wr b S n a∧Mods (·=b) W wr)
set_option maxRecDepth 100000 in
set_option maxHeartbeats 1600000 in
theorem block_of (f:Nat) (hS:∀ g,g≤f→StmtC g):BlockC (f+1):=by
 intro b S deep ts W x hd h hx
 simp only [blockF] at hx
 have HR:=hiD h
 have HM:=hiD (Mods.refl (·=b) W)
 have HN:=hiD h.par.short
 have HG:=hiD (fun (w:World) (hm:Mods (·=b) W w)=>grows_nil 143 7 h.base hm)
 have hd0:0≤(deep:Int)∧(deep:Int)≤13:=by omega
 obtain ⟨i0,hi,hz0,hz1,hz2⟩:=info_parts stmt_info
 have HI:=hiD (⟨hi,hz0,hz1,hz2⟩:_∧_∧_∧_)
 clear h hd hi hz0 hz1 hz2
 by_cases hdd:12<deep
 ·rw [if_pos hdd] at hx
  have HX:=hiD hx
  have hg:12<(deep:Int):=by omega
  clear hx hdd
  go_enter Tryz.func47,Tryz.ntmps47
  go_wp2_with fail
  go_at_call 43
  refine fail_of HM HR HX (Or.inr rfl) ?_
  rintro n a rfl w HB-HM1
  go_wp2_with fail
  go_at_call 44
  refine mustb_of (s:=[123]) HM1 HB ?_
  rintro w2 HB2-HM2
  clear HG HI
  go_wp2_with fail
  go_loopw [5] (fun lv wr=>lv=.slice none 0 0∧Hid (Rb wr b S n a)∧Hid (Mods (·=b) W wr)) (fun _ wr=>0)
  case atStart=>exact ⟨rfl,HB2,HM2⟩
  case round =>
   obtain ⟨rfl,HB3,HM3⟩:=hrel
   go_wp2_with fail
   go_at_call 42
   refine okb_of HM3 HB3 ?_
   rintro w4 HB4-HM4
   go_wp2
   go_ret
   exact ⟨_,rfl,⟨_,_,_,rfl⟩,HB4.out,HM4.out⟩
 rw [if_neg hdd] at hx
 have hdl:deep≤12:=by omega
 have HD:=hiD hdl
 have hg:¬ 12<(deep:Int):=by omega
 have HX:=hiD hx
 clear hx hdd hdl
 go_enter Tryz.func47,Tryz.ntmps47
 go_wp2_with fail
 go_at_call 44
 refine Calls.mono (R:=fun e w=>e=.returned (.tuple #[])∧SeqAt S b f deep W x nilS w) ?_ ?_
 ·refine must_of (s:=[123]) HM HR HX ?_ ?_
  ·rintro n a rfl w HB-HM1
   exact ⟨rfl,Or.inr ⟨n,a,rfl,HB.out,HM1.out⟩⟩
  ·rintro r1 HT HX2 w1 HR1-HM1
   exact ⟨rfl,Or.inl ⟨f,[],r1,[],Nat.le_refl _,HX2.out,HG.out _ HM1.out,by simp [StsAt],HR1.out,HM1.out,by rw [HT.out.2];have:=HN.out;simp;omega,HD.out⟩⟩
 rintro e w1 ⟨rfl,hst⟩
 have HST:=hiD hst
 clear hst HX HM HR HN HG HD
 go_wp2_with fail
 go_loopw [5] (fun lv wr=>IsSl lv∧SeqAt S b f deep W x lv wr) (fun _ wr=>lenB wr b)
 case atStart=>exact ⟨⟨_,_,_,rfl⟩,HST.out⟩
 case round =>
  clear HST
  obtain ⟨⟨oa,on,oc,rfl⟩,hst⟩:=hrel
  obtain ⟨ff,l,r,vs,hff,hb,hg,hv,hR1,hmm,hn,hdp⟩|⟨n,a,rfl,hB,hmm⟩:=hst
  rotate_left
  ·have HB:=hiD hB
   have HM1:=hiD hmm
   clear hB hmm
   go_wp2_with fail
   go_at_call 42
   refine okb_of HM1 HB ?_
   rintro w4 HB4-HM4
   go_wp2
   go_ret
   exact ⟨_,rfl,⟨_,_,_,rfl⟩,HB4.out,HM4.out⟩
  have HG1:=hiD hg
  have HV1:=hiD hv
  have HR1:=hiD hR1
  have HM1:=hiD hmm
  have HN1:=hiD hn
  have HD:=hiD hdp
  clear hg hv hR1 hmm hn hdp
  cases ff with
  | zero=>simp [stmtsF] at hb
  | succ f1 =>
   simp only [stmtsF] at hb
   have HB:=hiD hb
   clear hb
   go_wp2_with fail
   go_at_call 42
   refine ok_of HM1 HR1 ?_
   rintro w2 HR2 hm2 HM2
   have HG2:=hiD (HG1.out.next HR1.out.base.has (mods_b hm2.out))
   have HV2:=hiD (StsAt.modsTo (hm2.out.mono fun _ _ f=>f.elim) (fun _ _ h=>h) _ _ HV1.out:StsAt w2 (Own S (.slice oa on oc)) l vs)
   clear hm2 HG1 HV1 HM1
   go_wp2_with fail
   go_at_call 46
   refine take_of (s:=[125]) HM2 HR2 HB ?_ ?_
   ·clear HB
    rintro-HX w3 HR3 hm3 HM3
    obtain rfl:=(Option.some.inj HX.out).symm
    go_wp2
    go_ret
    exact ⟨_,rfl,⟨vs,(HG2.out.next HR2.out.base.has hm3.out).rowAt,StsAt.modsTo (hm3.out.mono fun k _ hk=>Or.inl (hk ▸ HR2.out.base.has)) own_sub _ _ HV2.out⟩,HR3.out.par,HM3.out⟩
   ·clear HB
    rintro-HX w3 HR3 hm3 HM3
    have HG3:=hiD (HG2.out.next HR2.out.base.has (mods_b hm3.out))
    have HV3:=hiD (StsAt.modsTo (hm3.out.mono fun _ _ f=>f.elim) (fun _ _ h=>h) _ _ HV2.out:StsAt w3 (Own S (.slice oa on oc)) l vs)
    clear hm3 HG2 HV2 HM2
    go_wp2_with fail
    go_at_call 79
    refine bind_of HM3 (hiD (grows_rd HG3.out HR3.out)) HX (fun z hz=>hS f1 (by omega) b (Own S (.slice oa on oc)) deep r w3 z HD.out (grows_rd HG3.out HR3.out) hz) ?_ ?_
    ·rintro n a rfl xv w4 ⟨cs,rfl,z0,z1,z2,z3,z4,pa,pn,pc,qa,qn,qc,rfl⟩ HB4 hm4 HM4
     have HG4:=hiD ((HG3.out.next HR3.out.base.has hm4.out).alloc (.cells #[.int .i64 z0,.int .i64 z1,.string z2,.pointer z3,.pointer z4,.slice pa pn pc,.slice qa qn qc] 143))
     have HBA:=hiD ((⟨HB4.out.bad,base_back HB4.out.base HR3.out.base.has⟩:Rb w4 b S n a).quiet ((Mods.refl None w4).alloc (.cells #[.int .i64 z0,.int .i64 z1,.string z2,.pointer z3,.pointer z4,.slice pa pn pc,.slice qa qn qc] 143)))
     have HMA:=hiD (HM4.out.alloc (.cells #[.int .i64 z0,.int .i64 z1,.string z2,.pointer z3,.pointer z4,.slice pa pn pc,.slice qa qn qc] 143))
     clear hm4 HB4 HM4
     go_wp2_with (at_builtin;refine wpList_append_own_at _ rfl _ _ 31 rfl W.heap.size 143 i0 _ 7 96 Tryz.underlying31 HI.out.1 HI.out.2.1 HI.out.2.2.1 HI.out.2.2.2 rfl (by decide) _ l.length vs rfl HG4.out.row ⟨w4.heap.size,0,none⟩ 1 1 [.int .i64 z0,.int .i64 z1,.string z2,.pointer z3,.pointer z4,.slice pa pn pc,.slice qa qn qc] rfl rfl (seven_new _ _ _ _ _ _ _ _ _) (seven_one _ _ _ _ _ _ _ _ _ _ _) (by have:=HN1.out;unfold maxLen;omega) (by have:=HN1.out;omega) HG4.out.base ?_;intro v' w5 hown hgrow hnil hloc;have HGR:Hid (Grew (w4.alloc (.cells #[.int .i64 z0,.int .i64 z1,.string z2,.pointer z3,.pointer z4,.slice pa pn pc,.slice qa qn qc] 143)) w5 (.slice oa on oc) v'):=hiD (grew_of hgrow hloc);have HOW:=hiD (HG4.out.grew HGR.out hown);clear hown hgrow hnil hloc;refine Hid.out ?_)
     refine hiD ?_
     obtain ⟨va,vn,vc,rfl⟩:=HOW.out.form
     go_wp2_with fail
     refine ⟨⟨⟨_,_,_,rfl⟩,Or.inr ⟨n,a,rfl,grows_rbGrew HG4.out HGR.out HBA.out,HG4.out.modsGrew HGR.out HMA.out⟩⟩,?_⟩
     rw [Bad.lenB (grows_rbGrew HG4.out HGR.out HBA.out).bad,Par.lenB HR1.out.par]
     omega
    clear HX
    rintro y2 r2 HP HX xv w4 ⟨cs,rfl,hv4⟩ HR4 hm4 HM4
    obtain ⟨z0,z1,z2,z3,z4,pa,pn,pc,qa,qn,qc,rfl⟩:=hv4.shape
    have HV4:=hiD hv4
    have HG4:=hiD ((HG3.out.next HR3.out.base.has hm4.out).alloc (.cells #[.int .i64 z0,.int .i64 z1,.string z2,.pointer z3,.pointer z4,.slice pa pn pc,.slice qa qn qc] 143))
    have HRS:=hiD (⟨HR4.out.par,base_back HR4.out.base HR3.out.base.has⟩:Rd w4 b S r2)
    clear hv4
    go_wp2_with (at_builtin;refine wpList_append_own_at _ rfl _ _ 31 rfl W.heap.size 143 i0 _ 7 96 Tryz.underlying31 HI.out.1 HI.out.2.1 HI.out.2.2.1 HI.out.2.2.2 rfl (by decide) _ l.length vs rfl HG4.out.row ⟨w4.heap.size,0,none⟩ 1 1 [.int .i64 z0,.int .i64 z1,.string z2,.pointer z3,.pointer z4,.slice pa pn pc,.slice qa qn qc] rfl rfl (seven_new _ _ _ _ _ _ _ _ _) (seven_one _ _ _ _ _ _ _ _ _ _ _) (by have:=HN1.out;unfold maxLen;omega) (by have:=HN1.out;omega) HG4.out.base ?_;intro v' w5 hown hgrow hnil hloc;have HGR:Hid (Grew (w4.alloc (.cells #[.int .i64 z0,.int .i64 z1,.string z2,.pointer z3,.pointer z4,.slice pa pn pc,.slice qa qn qc] 143)) w5 (.slice oa on oc) v'):=hiD (grew_of hgrow hloc);have HOW:=hiD (HG4.out.grew HGR.out hown);clear hown hgrow hnil hloc;refine Hid.out ?_)
    refine hiD ?_
    obtain ⟨va,vn,vc,rfl⟩:=HOW.out.form
    have hMA:∀ (S:Nat→Prop) (o:Obj),Mods S w4 (w4.alloc o):=fun S o=>(Mods.refl _ _).alloc _
    go_wp2_with fail
    refine ⟨⟨⟨_,_,_,rfl⟩,Or.inl ⟨f1,l++[y2],r2,vs++[.int .i64 z0,.int .i64 z1,.string z2,.pointer z3,.pointer z4,.slice pa pn pc,.slice qa qn qc],by omega,HX.out,by simpa using HOW.out,?_,grows_rdGrew HG4.out HGR.out (HRS.out.quiet (hMA _ _)),HG4.out.modsGrew HGR.out (HM4.out.alloc _),?_,HD.out⟩⟩,?_⟩
    ·have hA:Mods (Own S (.slice oa on oc)) w3 (w4.alloc (.cells #[.int .i64 z0,.int .i64 z1,.string z2,.pointer z3,.pointer z4,.slice pa pn pc,.slice qa qn qc] 143)):=(hm4.out.mono fun k _ hk=>Or.inl (hk ▸ HR3.out.base.has)).trans (hMA _ _)
     exact StsAt.append (StsAt.modsTo HGR.out.own HGR.out.to _ _ (StsAt.modsTo hA (fun _ _ h=>h) _ _ HV3.out)) (StAt.modsTo HGR.out.own HGR.out.to _ _ (StAt.modsTo (hMA _ _) (fun _ _ h=>h) _ _ HV4.out))
    ·have h1:=(slens f1).stmt HP.out
     have h2:=HN1.out
     simp only [List.length_append,List.length_cons,List.length_nil] at h2 ⊢
     omega
    ·rw [Par.lenB (grows_rdGrew HG4.out HGR.out (HRS.out.quiet (hMA _ _))).par,Par.lenB HR1.out.par]
     have:=(slens f1).stmt HP.out
     omega
structure SAllC (f:Nat):Prop where
 block:BlockC f
 stmt:StmtC f
theorem sall:∀ f,SAllC f:=by
 intro f
 induction f using Nat.strongRecOn with
 | ind f ih =>
  cases f with
  | zero=>exact ⟨fun _ _ _ _ _ _ _ _ h=>by simp [blockF] at h,fun _ _ _ _ _ _ _ _ h=>by simp [stmtF] at h⟩
  | succ f =>
   have h:=ih f (by omega)
   exact ⟨block_of f (fun g hg=>(ih g (by omega)).stmt),stmt_of f (fun g _=>exprs g) h.block⟩
end Go.Proofs.YtdgedlhefjmcpaaGreatDoor.TreeP.R

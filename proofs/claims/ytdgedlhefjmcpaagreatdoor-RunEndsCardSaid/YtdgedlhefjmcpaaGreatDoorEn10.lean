/- The document's reader: an expression of a level. Conditions: what is read within is read so. The document's reader: - and !, and what they are of; what is behind [ and ]. Conditions: what is read within is read so. -/
import Derived.Test.YtdgedlhefjmcpaaGreatDoorEn09
namespace Go.Proofs.YtdgedlhefjmcpaaGreatDoor.TreeP.R
open Go.RowKit Go.Proofs.YtdgedlhefjmcpaaGreatDoor.Wo Go.Proofs.YtdgedlhefjmcpaaGreatDoor.TreeP
set_option linter.unusedVariables false
set_option linter.unusedSimpArgs false
theorem mk_0 (w:World):Sem.run Tryz.prog (Instr.index 227 (.agg #[.string ⟨#[32,124,124,32]⟩,.string ⟨#[32,38,38,32]⟩,.string ⟨#[32,61,61,32,33,61,32]⟩,.string ⟨#[32,60,32,60,61,32,62,32,62,61,32]⟩,.string ⟨#[32,43,32,45,32]⟩,.string ⟨#[32,42,32,47,32,37,32]⟩]) (.int .i64 0)) w=.ok (.string ⟨(levelText 0).toArray⟩) w:=by kernel_rfl
theorem mk_1 (w:World):Sem.run Tryz.prog (Instr.index 227 (.agg #[.string ⟨#[32,124,124,32]⟩,.string ⟨#[32,38,38,32]⟩,.string ⟨#[32,61,61,32,33,61,32]⟩,.string ⟨#[32,60,32,60,61,32,62,32,62,61,32]⟩,.string ⟨#[32,43,32,45,32]⟩,.string ⟨#[32,42,32,47,32,37,32]⟩]) (.int .i64 1)) w=.ok (.string ⟨(levelText 1).toArray⟩) w:=by kernel_rfl
theorem mk_2 (w:World):Sem.run Tryz.prog (Instr.index 227 (.agg #[.string ⟨#[32,124,124,32]⟩,.string ⟨#[32,38,38,32]⟩,.string ⟨#[32,61,61,32,33,61,32]⟩,.string ⟨#[32,60,32,60,61,32,62,32,62,61,32]⟩,.string ⟨#[32,43,32,45,32]⟩,.string ⟨#[32,42,32,47,32,37,32]⟩]) (.int .i64 2)) w=.ok (.string ⟨(levelText 2).toArray⟩) w:=by kernel_rfl
theorem mk_3 (w:World):Sem.run Tryz.prog (Instr.index 227 (.agg #[.string ⟨#[32,124,124,32]⟩,.string ⟨#[32,38,38,32]⟩,.string ⟨#[32,61,61,32,33,61,32]⟩,.string ⟨#[32,60,32,60,61,32,62,32,62,61,32]⟩,.string ⟨#[32,43,32,45,32]⟩,.string ⟨#[32,42,32,47,32,37,32]⟩]) (.int .i64 3)) w=.ok (.string ⟨(levelText 3).toArray⟩) w:=by kernel_rfl
theorem mk_4 (w:World):Sem.run Tryz.prog (Instr.index 227 (.agg #[.string ⟨#[32,124,124,32]⟩,.string ⟨#[32,38,38,32]⟩,.string ⟨#[32,61,61,32,33,61,32]⟩,.string ⟨#[32,60,32,60,61,32,62,32,62,61,32]⟩,.string ⟨#[32,43,32,45,32]⟩,.string ⟨#[32,42,32,47,32,37,32]⟩]) (.int .i64 4)) w=.ok (.string ⟨(levelText 4).toArray⟩) w:=by kernel_rfl
theorem mk_5 (w:World):Sem.run Tryz.prog (Instr.index 227 (.agg #[.string ⟨#[32,124,124,32]⟩,.string ⟨#[32,38,38,32]⟩,.string ⟨#[32,61,61,32,33,61,32]⟩,.string ⟨#[32,60,32,60,61,32,62,32,62,61,32]⟩,.string ⟨#[32,43,32,45,32]⟩,.string ⟨#[32,42,32,47,32,37,32]⟩]) (.int .i64 5)) w=.ok (.string ⟨(levelText 5).toArray⟩) w:=by kernel_rfl
set_option maxRecDepth 100000 in
theorem marks_any (level:Nat) (hl:level<6) (w:World):Calls Tryz.prog 123 #[.int .i64 level] w fun e w'=>e=.returned (.string ⟨(levelText level).toArray⟩)∧w=w':=by
 obtain rfl|rfl|rfl|rfl|rfl|rfl:level=0∨level=1∨level=2∨level=3∨level=4∨level=5:=by omega
 ·have hix:=mk_0
  go_enter Tryz.func123,Tryz.ntmps123
  go_wp2
  go_ret
  exact ⟨rfl,rfl⟩
 ·have hix:=mk_1
  go_enter Tryz.func123,Tryz.ntmps123
  go_wp2
  go_ret
  exact ⟨rfl,rfl⟩
 ·have hix:=mk_2
  go_enter Tryz.func123,Tryz.ntmps123
  go_wp2
  go_ret
  exact ⟨rfl,rfl⟩
 ·have hix:=mk_3
  go_enter Tryz.func123,Tryz.ntmps123
  go_wp2
  go_ret
  exact ⟨rfl,rfl⟩
 ·have hix:=mk_4
  go_enter Tryz.func123,Tryz.ntmps123
  go_wp2
  go_ret
  exact ⟨rfl,rfl⟩
 ·have hix:=mk_5
  go_enter Tryz.func123,Tryz.ntmps123
  go_wp2
  go_ret
  exact ⟨rfl,rfl⟩
theorem mark_blank:∀ m∈markList,32 ∉ m:=by decide
theorem mark_letters:∀ n,n<6→∀ m∈levelList.getD n [],m.any (fun x=>!(letterB x || digitB x))=true:=by decide
theorem level_len (level:Nat) (hl:level<6):(levelText level).length<4294967281:=by
 obtain rfl|rfl|rfl|rfl|rfl|rfl:level=0∨level=1∨level=2∨level=3∨level=4∨level=5:=by omega
 all_goals decide
theorem level_cat (t:List UInt8) (level b:Nat) (hl:level<6) (ht:t∈markList) (W:World) (hM:MaxAt W b) :
  Calls Tryz.prog 22 #[.string ⟨(levelText level).toArray⟩,.string ((⟨#[32]⟩:ByteArray)++⟨t.toArray⟩++⟨#[32]⟩)] W fun e w=>e=.returned (.bool ((levelList.getD level []).contains t))∧W=w:=by
 rw [blanks_cat,← level_text (mark_blank t ht)]
 exact contains_any (levelText level) (32::(t++[32])) b W hM (level_len level hl)
theorem op_none {level:Nat} (hl:level<6) {t:Tok} {r:List Tok} (h:TF t) (hk:t.kind≠3):opP level (t::r)=[]:=by
 by_cases h4:t.kind=4
 ·unfold opP
  have:(levelList.getD level []).find? (fun m=>seeB m (t::r))=none:=by
   rw [List.find?_eq_none]
   intro m _
   simp [seeB,headKind,h4]
  rw [this]
  rfl
 ·have hh:headKind (t::r)≠4:=h4
  rw [opP_level level _ hh]
  split
  ·rename_i hc
   rw [List.contains_iff_mem] at hc
   have ha:=mark_letters level hl _ hc
   obtain ⟨x,hx,hp⟩:=List.any_eq_true.1 ha
   have hall:t.text.all (fun x=>letterB x || digitB x)=true:=by
    rcases h with ⟨_,_,h⟩|⟨_,_,h⟩|⟨h,_⟩|⟨h,_⟩
    ·exact h
    ·rw [List.all_eq_true] at h ⊢
     intro y hy
     rw [h y hy]
     simp
    ·exact absurd h hk
    ·exact absurd h h4
   have:=List.all_eq_true.1 hall x hx
   rw [this] at hp
   cases hp
  ·rfl
theorem op_some {level:Nat} {t:Tok} {r:List Tok} (hk:t.kind=3):opP level (t::r)=if (levelList.getD level []).contains t.text then t.text else []:=by
 have hh:headKind (t::r)≠4:=by show t.kind≠4;omega
 rw [opP_level level _ hh]
 rfl
theorem six_of {f deep b:Nat} {S:Nat→Prop} {ts:List Tok} {W:World} {x:Except (Int×Int) (Ex×List Tok)} (ih:UnaryC f) (hd:deep≤14) (h:Rd W b S ts) (hx:exprF (f+1) 6 deep ts=some x) :
  Calls Tryz.prog 111 #[.pointer (some ⟨b,0,none⟩),.int .i64 6,.int .i64 deep] W (Got (·=b) W b S IsPtr (ExIs S) (some x)):=by
 simp only [exprF,if_true] at hx
 have HX:=hiD hx
 have HR:=hiD h
 have HM:=hiD (Mods.refl (·=b) W)
 clear hx h
 go_enter Tryz.func111,Tryz.ntmps111
 go_wp2_with fail
 go_at_call 136
 refine tail_of HM HR HX (fun y hy=>ih b S deep ts W y hd HR.out hy) ?_ ?_
 ·rintro n a rfl xv w ⟨p,rfl⟩ HB-HM1
  go_wp2
  go_ret
  exact ⟨_,rfl,⟨_,rfl⟩,HB.out,HM1.out⟩
 rintro v r rfl xv w hv HR1-HM1
 have HV:=hiD hv
 clear hv HX
 go_wp2
 go_ret
 exact ⟨_,rfl,HV.out,HR1.out.par,HM1.out⟩
def lenB (W:World) (b:Nat):Nat:=match W.cell? ⟨b,1,none⟩ with
 | some (.int _ n)=>if n=0 then lenOf W b+1 else 0
 | _=>0
theorem Par.lenB {W:World} {b:Nat} {ts:List Tok} (h:Par W b ts):lenB W b=ts.length+1:=by
 obtain ⟨g,o,c,h⟩:=h
 have h1:=h.blk.cell (i:=1) rfl
 have h0:=h.blk.cell (i:=0) rfl
 unfold R.lenB lenOf
 rw [h1,h0]
 rfl
theorem Bad.lenB {W:World} {b:Nat} {n a:Int} (h:Bad W b n a):lenB W b=0:=by
 obtain ⟨g,o,c,ts,h,h0⟩:=h
 have h1:=h.blk.cell (i:=1) rfl
 unfold R.lenB
 rw [h1]
 simp only
 rw [if_neg (by omega)]
def Stands (S:Nat→Prop) (b f level deep:Nat) (a:Int) (W:World) (x:Except (Int×Int) (Ex×List Tok)) (xv:Value) (wr:World):Prop :=
 (∃ ff y r,ff≤f∧binF ff level deep a y r=some x∧ExAt wr S y xv∧Rd wr b S r∧Mods (·=b) W wr)∨(∃ n p pv,x=.error (n,p)∧xv=.pointer pv∧Rb wr b S n p∧Mods (·=b) W wr)
set_option maxRecDepth 100000 in
set_option maxHeartbeats 1600000 in
theorem low_of {f level deep b:Nat} {S:Nat→Prop} {ts:List Tok} {W:World} {x:Except (Int×Int) (Ex×List Tok)} (ih:∀ g,g≤f→ExprC g) (hl6:level<6) (hd:deep≤14) (h:Rd W b S ts) (hx:exprF (f+1) level deep ts=some x) :
  Calls Tryz.prog 111 #[.pointer (some ⟨b,0,none⟩),.int .i64 level,.int .i64 deep] W (Got (·=b) W b S IsPtr (ExIs S) (some x)):=by
 simp only [exprF] at hx
 rw [if_neg (by omega)] at hx
 have hds:Hid ((level:Int)+1=((level+1:Nat):Int)):=hiD (by omega)
 have hd0:0≤(level:Int)∧(level:Int)≤5:=by omega
 have hq:((level:Int)==6)=false:=by simp;omega
 have HR:=hiD h
 have HM:=hiD (Mods.refl (·=b) W)
 have HL6:=hiD hl6
 have HE:=hiD (fun (g:Nat) (hg:g≤f) (r:List Tok) (W1:World) (z:_) (h1:Rd W1 b S r) (hz:exprF g (level+1) deep r=some z)=>ih g hg b S (level+1) deep r W1 z (by omega) hd h1 hz)
 obtain ⟨g,o,c,hp⟩:=h.par
 obtain ⟨t,rr,rfl⟩:=ends_cons hp.ends
 have hl:=hp.cl
 have ha:=hp.ca
 have hcap:=hp.cap
 have hmax:=hp.max
 have hta:headAt (t::rr)=t.at_:=rfl
 rw [hta] at hx
 obtain ⟨ta,hta2⟩:∃ ta,ta=t.at_:=⟨_,rfl⟩
 rw [← hta2] at ha hx
 simp only [List.length_cons] at hcap
 have HX:=hiD hx
 clear hp hta hta2 hx h hl6 hd
 go_enter Tryz.func111,Tryz.ntmps111
 go_wp2_with fail
 go_at_call 111
 rw [hds.out]
 refine Calls.mono (R:=fun e w=>∃ xv,e=.returned xv∧(∃ p,xv=.pointer p)∧Stands S b f level deep ta W x xv w) ?_ ?_
 ·refine bind_of HM HR HX (fun y hy=>HE.out f (Nat.le_refl _) _ W y HR.out hy) ?_ ?_
  ·rintro n a rfl xv w ⟨p,rfl⟩ HB-HM1
   exact ⟨_,rfl,⟨_,rfl⟩,Or.inr ⟨n,a,_,rfl,rfl,HB.out,HM1.out⟩⟩
  ·rintro y0 r0-HX2 xv w1 hv HR0-HM0
   exact ⟨_,rfl,(by obtain ⟨gv,hg⟩:=ExAt.ptr hv;exact ⟨_,hg⟩),Or.inl ⟨f,y0,r0,Nat.le_refl _,HX2.out,hv,HR0.out,HM0.out⟩⟩
 rintro e w1 ⟨xv,rfl,⟨pv,rfl⟩,hst⟩
 have HST:=hiD hst
 clear hst HX HM HR hl ha hcap hmax
 go_wp2_with fail
 go_loopw [8,9] (fun xv _ wr=>(∃ p,xv=.pointer p)∧Stands S b f level deep ta W x xv wr) (fun _ _ wr=>lenB wr b)
 case atStart=>exact ⟨⟨_,rfl⟩,HST.out⟩
 case round =>
  clear HST
  obtain ⟨⟨pv,rfl⟩,hst⟩:=hrel
  obtain ⟨ff,y,r,hff,hb,hv1,hR1,hmm⟩|⟨n,p,_,rfl,-,hB,hmm⟩:=hst
  rotate_left
  ·have HB:=hiD hB
   have HM1:=hiD hmm
   have HOK:=hiD (fun (k:Nat)=>(ok_no b n p (wr.drewN k) (hB.quiet ((Mods.refl None wr).drewN k)).bad (hB.quiet ((Mods.refl None wr).drewN k)).base.fine).mono fun (e:Ending) (w:World) ⟨h1,d,h2⟩=>(⟨h1,k+d,by rw [h2,World.drewN_drewN]⟩:e=Ending.returned (.bool false)∧∃ m,w=wr.drewN m))
   clear hB hmm
   go_wp2_with fail
   go_quiet ((go_at_call 42;exact HOK.out _))
   go_wp2
   go_ret
   exact ⟨_,rfl,⟨_,rfl⟩,HB.out.quiet ((Mods.refl None wr).drewN _),HM1.out.drewN _⟩
  have HV1:=hiD hv1
  have HR1:=hiD hR1
  have HM1:=hiD hmm
  have HOK:=hiD (fun (k:Nat)=>Base.ok_ hR1 k)
  obtain ⟨g1,o1,c1,hp1⟩:=hR1.par
  obtain ⟨t1,r1,rfl⟩:=ends_cons hp1.ends
  have hl1:=hp1.cl
  have hk1:=hp1.ck
  have ht1:=hp1.ct
  have hcap1:=hp1.cap
  have hmax1:=hp1.max
  have htf:=hp1.forms t1 List.mem_cons_self
  have hsm:=hp1.small t1 List.mem_cons_self
  simp only [List.length_cons] at hcap1
  clear hv1 hR1 hmm hp1
  cases ff with
  | zero=>simp [binF] at hb
  | succ f1 =>
   simp only [binF] at hb
   obtain ⟨tk,tt,ta1⟩:=t1
   simp only at hk1 ht1 hsm
   by_cases hk3:tk=3
   ·subst hk3
    rw [op_some rfl] at hb
    simp only at hb
    have htm:tt∈markList:=by
     rcases htf with ⟨h,_⟩|⟨h,_⟩|⟨_,h⟩|⟨h,_⟩
     ·cases h
     ·cases h
     ·exact h
     ·cases h
    have HC:=hiD (fun (k:Nat)=>(level_cat tt level b HL6.out htm (wr.drewN k) (HR1.out.quiet ((Mods.refl None wr).drewN k)).base.most).mono fun (e:Ending) (w:World) ⟨h1,h2⟩=>(⟨h1,k,h2.symm⟩:e=Ending.returned (.bool ((levelList.getD level []).contains tt))∧∃ m,w=wr.drewN m))
    have HK:=hiD (fun (k:Nat)=>(marks_any level HL6.out (wr.drewN k)).mono fun (e:Ending) (w:World) ⟨h1,h2⟩=>(⟨h1,k,h2.symm⟩:e=Ending.returned (.string ⟨(levelText level).toArray⟩)∧∃ m,w=wr.drewN m))
    have hs2:¬ 9223372036854775807<tt.length+2:=by omega
    have hs3:¬ 9223372036854775807<tt.length+1:=by omega
    have HTM:=hiD htm
    clear htf htm
    cases hcn:(levelList.getD level []).contains tt
    ·rw [hcn] at hb
     simp only [Bool.false_eq_true,if_false,if_true] at hb
     obtain rfl:x=.ok (y,⟨3,tt,ta1⟩::r1):=(Option.some.inj hb).symm
     rw [hcn] at HC
     clear hb hcn
     go_wp2_with fail
     go_quiet ((first|(go_at_call 42;exact HOK.out _)|(go_at_call 123;exact HK.out _)|(go_at_call 22;exact HC.out _)))
     go_wp2
     go_ret
     exact ⟨_,rfl,HV1.out.mods ((Mods.refl _ _).drewN _),(HR1.out.quiet ((Mods.refl None wr).drewN _)).par,HM1.out.drewN _⟩
    ·rw [hcn] at hb
     have htn:tt≠[]:=fun h=>by
      have hn:∀ m∈markList,m≠[]:=by decide
      exact hn tt HTM.out h
     simp only [if_true] at hb
     rw [if_neg htn] at hb
     rw [hcn] at HC
     have HB:=hiD hb
     have HS:Hid (seeB tt (⟨3,tt,ta1⟩::r1)=true):=hiD (by simp [seeB,headText,headKind])
     clear hb hcn htn
     go_wp2_with fail
     go_quiet ((first|(go_at_call 42;exact HOK.out _)|(go_at_call 123;exact HK.out _)|(go_at_call 22;exact HC.out _)))
     have HMD:Hid (Mods None wr (wr.drewN nq)):=hiD ((Mods.refl _ _).drewN _)
     have HRD:=hiD (HR1.out.quiet HMD.out)
     have HVD:=hiD (HV1.out.mods (HMD.out.mono fun _ _ f=>f.elim))
     have HMQ:=hiD (HM1.out.trans (mods_b HMD.out))
     clear HOK HC HK
     go_wp2_with fail
     go_at_call 44
     refine (must_yes b S tt _ _ HRD.out HS.out).mono ?_
     rintro e w3 ⟨rfl,hp3,hm3⟩
     have HR3:=hiD (HRD.out.next hp3 hm3)
     have HM3:=hiD (HMQ.out.trans hm3)
     have HV3:=hiD (ExAt.by HVD.out HRD.out hm3)
     clear hp3 hm3
     go_wp2_with fail
     go_at_call 111
     rw [hds.out]
     refine bind_of HM3 HR3 HB (fun z hz=>HE.out f1 (by omega) _ w3 z HR3.out hz) ?_ ?_
     ·rintro n a rfl xv w ⟨p,rfl⟩ HB4-HM4
      go_wp2_with fail
      refine ⟨⟨⟨_,rfl⟩,Or.inr ⟨n,a,_,rfl,rfl,HB4.out.quiet ((Mods.refl _ _).alloc _),HM4.out.alloc _⟩⟩,?_⟩
      rw [Bad.lenB (HB4.out.quiet ((Mods.refl None _).alloc _)).bad,Par.lenB HR1.out.par]
      omega
     clear HB
     rintro y2 r2 HP HB xv w4 hv4 HR4 hm4 HM4
     obtain ⟨g4,rfl⟩:=ExAt.ptr hv4
     have HV4:=hiD (show ExAt w4 S y2 _ from hv4)
     clear hv4
     obtain ⟨gu,hgu⟩:=ExAt.ptr HV1.out
     cases hgu
     go_wp2_with fail
     have hmA:∀ (ob:Obj),Mods None w4 (w4.alloc ob):=fun ob=>(Mods.refl _ _).alloc _
     refine ⟨⟨⟨_,rfl⟩,Or.inl ⟨f1,_,r2,by omega,HB.out,?_,HR4.out.quiet (hmA _),HM4.out.alloc _⟩⟩,?_⟩
     ·simp only [ExAt]
      exact ⟨_,_,Node.new HR4.out.base.old _,(ExAt.by HV3.out HR3.out hm4.out).mods ((Mods.refl _ _).alloc _),HV4.out.mods ((Mods.refl _ _).alloc _)⟩
     ·rw [Par.lenB (HR4.out.quiet (hmA _)).par,Par.lenB HR1.out.par]
      have h1:=(lens f1).expr HP.out
      simp only [List.tail_cons,List.length_cons] at h1 ⊢
      omega
   ·have hk3b:(tk==3)=false:=by simpa using hk3
    rw [op_none HL6.out htf hk3,if_pos rfl] at hb
    obtain rfl:x=.ok (y,⟨tk,tt,ta1⟩::r1):=(Option.some.inj hb).symm
    clear hb hk3 htf
    go_wp2_with fail
    go_quiet ((go_at_call 42;exact HOK.out _))
    go_wp2
    go_ret
    exact ⟨_,rfl,HV1.out.mods ((Mods.refl _ _).drewN _),(HR1.out.quiet ((Mods.refl None wr).drewN _)).par,HM1.out.drewN _⟩
theorem al_cell {w:World} {o:Obj} {p:Addr} {v:Value} (h:w.cell? p=some v):(w.alloc o).cell? p=some v:=((Mods.refl None w).alloc o).cellOf h (fun f=>f)
def Items (S:Nat→Prop) (b q f deep:Nat) (a:Int) (W:World) (x:Except (Int×Int) (Ex×List Tok)) (xv:Value) (wr:World):Prop :=
 wr.cell? ⟨q,2,none⟩=some (.int .i64 a)∧((∃ ff y r,ff≤f∧itemF ff deep a y r=some x∧ExAt wr S y xv∧Rd wr b S r∧Mods (·=b) W wr)∨(∃ n p pv,x=.error (n,p)∧xv=.pointer pv∧Rb wr b S n p∧Mods (·=b) W wr))
set_option maxRecDepth 100000 in
set_option maxHeartbeats 1600000 in
theorem one_of (f:Nat) (hU:UnaryC f) (hF:FirstC f) (hE:∀ g,g≤f→ExprC g):UnaryC (f+1):=by
 intro b S deep ts W x hd h hx
 simp only [unaryF] at hx
 have HR:=hiD h
 have HM:=hiD (Mods.refl (·=b) W)
 have HD:=hiD hd
 have hds:Hid ((deep:Int)+1=((deep+1:Nat):Int)):=hiD (by omega)
 have hd0:0≤(deep:Int)∧(deep:Int)≤14:=by omega
 by_cases hdd:12<deep
 ·rw [if_pos hdd] at hx
  have HX:=hiD hx
  have hg:12<(deep:Int):=by omega
  clear hx hdd h hd
  go_enter Tryz.func136,Tryz.ntmps136
  go_wp2_with fail
  go_at_call 43
  refine fail_of HM HR HX (Or.inr rfl) ?_
  rintro n a rfl w HB-HM1
  go_wp2_with fail
  go_at_call 42
  refine okb_of HM1 HB ?_
  rintro w2 HB2-HM2
  go_wp2
  go_ret
  exact ⟨_,rfl,⟨_,rfl⟩,HB2.out,HM2.out⟩
 rw [if_neg hdd] at hx
 have hg:¬ 12<(deep:Int):=by omega
 have HD2:=hiD hdd
 obtain ⟨t,rr,hts⟩:=ends_cons h.par.ends
 obtain ⟨ta,hta⟩:∃ ta,ta=headAt ts:=⟨_,rfl⟩
 rw [← hta] at hx
 have HX:=hiD hx
 have HTS:=hiD (And.intro hts hta)
 clear hx h hd hdd hts hta
 go_enter Tryz.func136,Tryz.ntmps136
 go_wp2_with fail
 go_at_call 42
 refine ok_of HM HR ?_
 rintro w1 HR1-HM1
 obtain ⟨g,o,c,hp⟩:=HR1.out.par
 obtain ⟨e1,e2⟩:=HTS.out
 rw [e1] at hp
 have hl:=hp.cl
 have hk:=hp.ck
 have ht:=hp.ct
 have ha:=hp.ca
 have hcap:=hp.cap
 have hmax:=hp.max
 simp only [List.length_cons] at hcap
 have hta:t.at_=ta:=by rw [e2,e1];rfl
 obtain ⟨tk,tt,ta1⟩:=t
 simp only at hk ht ha hta
 subst hta
 clear hp e1 e2
 obtain ⟨W2,hW2⟩:∃ W2,W2=w1.alloc (.cells #[.int .i64 tk,.string ⟨tt.toArray⟩,.int .i64 ta1] 95):=⟨_,rfl⟩
 have hm2:Mods None w1 W2:=by rw [hW2];exact (Mods.refl _ _).alloc _
 have HB0:Hid (Blk W2 w1.heap.size [.int .i64 tk,.string ⟨tt.toArray⟩,.int .i64 ta1] 95):=hiD (by rw [hW2];exact Blk.new w1 _ _)
 have HR2:=hiD (HR1.out.quiet hm2)
 have HM2:=hiD (HM1.out.trans (mods_b hm2))
 have hne:Hid (¬ w1.heap.size=b):=hiD (by have:=HR1.out.base.old b HR1.out.base.has;omega)
 have HTX:Hid (seeB [45] ts=true→tt=[45]):=hiD (by
  intro hs
  rw [HTS.out.1] at hs
  simp only [seeB,headText,List.head?_cons,Option.map_some,Option.getD_some,Bool.and_eq_true,beq_iff_eq] at hs
  exact hs.1)
 have HTX2:Hid (seeB [33] ts=true→tt=[33]):=hiD (by
  intro hs
  rw [HTS.out.1] at hs
  simp only [seeB,headText,List.head?_cons,Option.map_some,Option.getD_some,Bool.and_eq_true,beq_iff_eq] at hs
  exact hs.1)
 clear hm2 HTS HR1 HM1 HR HM
 go_wp2_with fail
 rw [← hW2]
 clear hW2 hl hk ht ha
 go_at_call 46
 refine take_of (s:=[45]) HM2 HR2 HX ?_ ?_
 ·clear HX
  rintro hs HX w3 HR3 hm3 HM3
  obtain rfl:=HTX.out hs.out
  have hc1:=(HB0.out.mods hm3.out hne.out).cell (i:=1) rfl
  have hc2:=(HB0.out.mods hm3.out hne.out).cell (i:=2) rfl
  have HRd:=hiD (HR3.out.quiet (Mods.refl None w3).drew)
  have HMd:=hiD HM3.out.drew
  have hw1:IntKind.i64.wrap ((deep:Int)+1)=(deep:Int)+1:=IntWalk.i64_in _ (by omega)
  go_wp2_with fail
  rcases bind_cases HX with ⟨n,a,hy,rfl⟩|⟨v,r,hy,HX2⟩
  ·have HC:=hiD (hU b S (deep+1) ts.tail _ _ (by have:=HD2.out;omega) HRd.out hy)
   rw [← hds.out] at HC
   clear hy HX
   go_region_held3 (fun w'=>w'.cell? ⟨w1.heap.size,1,none⟩=some (.string ⟨#[45]⟩)∧w'.cell? ⟨w1.heap.size,2,none⟩=some (.int .i64 ta1))
    (first|exact ⟨hc1,hc2⟩|assumption|(go_split_ands;exact ⟨hm4.cellOf ‹_› hne.out,hm4.cellOf ‹_› hne.out⟩)|(go_split_ands;exact ⟨al_cell ‹_›,al_cell ‹_›⟩))
    ((first|(go_at_call 136;refine HC.out.mono ?_;rintro e w4 ⟨xv,rfl,⟨p4,rfl⟩,hb4,hm4⟩)))
   all_goals
    have HB4:=hiD hb4
    have HM4:=hiD (HMd.out.trans hm4)
    clear hb4 hm4
    go_wp2
    go_ret
    exact ⟨_,rfl,⟨_,rfl⟩,HB4.out.quiet ((Mods.refl _ _).alloc _),HM4.out.alloc _⟩
  ·have HC:=hiD (hU b S (deep+1) ts.tail _ _ (by have:=HD2.out;omega) HRd.out hy)
   rw [← hds.out] at HC
   clear hy HX
   obtain rfl:=(Option.some.inj HX2.out).symm
   go_region_held3 (fun w'=>w'.cell? ⟨w1.heap.size,1,none⟩=some (.string ⟨#[45]⟩)∧w'.cell? ⟨w1.heap.size,2,none⟩=some (.int .i64 ta1))
    (first|exact ⟨hc1,hc2⟩|assumption|(go_split_ands;exact ⟨hm4.cellOf ‹_› hne.out,hm4.cellOf ‹_› hne.out⟩)|(go_split_ands;exact ⟨al_cell ‹_›,al_cell ‹_›⟩))
    ((first|(go_at_call 136;refine HC.out.mono ?_;rintro e w4 ⟨xv,rfl,hv4,hp4,hm4⟩;obtain ⟨g4,rfl⟩:=ExAt.ptr hv4)))
   all_goals
    have HR4:=hiD (HRd.out.next hp4 hm4)
    have HV4:=hiD (show ExAt w4 S v _ from hv4)
    have HM4:=hiD (HMd.out.trans hm4)
    clear hp4 hm4 hv4
    go_wp2
    go_ret
    refine ⟨_,rfl,?_,HR4.out.par.mods ((Mods.refl _ _).alloc _),HM4.out.alloc _⟩
    simp only [ExIs,ExAt]
    exact ⟨_,Node.new HR4.out.base.old _,HV4.out.mods ((Mods.refl _ _).alloc _)⟩
 ·clear HX
  rintro-HX w3 HR3 hm3 HM3
  have HB3:=hiD (HB0.out.mods hm3.out (fun f=>f))
  clear HB0 hm3 HR2 HM2
  go_wp2_with fail
  go_at_call 46
  have HB0:=HB3
  refine take_of (s:=[33]) HM3 HR3 HX ?_ ?_
  ·clear HX HB3
   rintro hs HX w5 HR5 hm5 HM5
   obtain rfl:=HTX2.out hs.out
   have hc1:=(HB0.out.mods hm5.out hne.out).cell (i:=1) rfl
   have hc2:=(HB0.out.mods hm5.out hne.out).cell (i:=2) rfl
   have HRd:=hiD (HR5.out.quiet (Mods.refl None w5).drew)
   have HMd:=hiD HM5.out.drew
   have hw1:IntKind.i64.wrap ((deep:Int)+1)=(deep:Int)+1:=IntWalk.i64_in _ (by omega)
   go_wp2_with fail
   rcases bind_cases HX with ⟨n,a,hy,rfl⟩|⟨v,r,hy,HX2⟩
   ·have HC:=hiD (hU b S (deep+1) ts.tail _ _ (by have:=HD2.out;omega) HRd.out hy)
    rw [← hds.out] at HC
    clear hy HX
    go_region_held3 (fun w'=>w'.cell? ⟨w1.heap.size,1,none⟩=some (.string ⟨#[33]⟩)∧w'.cell? ⟨w1.heap.size,2,none⟩=some (.int .i64 ta1))
     (first|exact ⟨hc1,hc2⟩|assumption|(go_split_ands;exact ⟨hm4.cellOf ‹_› hne.out,hm4.cellOf ‹_› hne.out⟩)|(go_split_ands;exact ⟨al_cell ‹_›,al_cell ‹_›⟩))
     ((first|(go_at_call 136;refine HC.out.mono ?_;rintro e w4 ⟨xv,rfl,⟨p4,rfl⟩,hb4,hm4⟩)))
    all_goals
     have HB4:=hiD hb4
     have HM4:=hiD (HMd.out.trans hm4)
     clear hb4 hm4
     go_wp2
     go_ret
     exact ⟨_,rfl,⟨_,rfl⟩,HB4.out.quiet ((Mods.refl _ _).alloc _),HM4.out.alloc _⟩
   ·have HC:=hiD (hU b S (deep+1) ts.tail _ _ (by have:=HD2.out;omega) HRd.out hy)
    rw [← hds.out] at HC
    clear hy HX
    obtain rfl:=(Option.some.inj HX2.out).symm
    go_region_held3 (fun w'=>w'.cell? ⟨w1.heap.size,1,none⟩=some (.string ⟨#[33]⟩)∧w'.cell? ⟨w1.heap.size,2,none⟩=some (.int .i64 ta1))
     (first|exact ⟨hc1,hc2⟩|assumption|(go_split_ands;exact ⟨hm4.cellOf ‹_› hne.out,hm4.cellOf ‹_› hne.out⟩)|(go_split_ands;exact ⟨al_cell ‹_›,al_cell ‹_›⟩))
     ((first|(go_at_call 136;refine HC.out.mono ?_;rintro e w4 ⟨xv,rfl,hv4,hp4,hm4⟩;obtain ⟨g4,rfl⟩:=ExAt.ptr hv4)))
    all_goals
     have HR4:=hiD (HRd.out.next hp4 hm4)
     have HV4:=hiD (show ExAt w4 S v _ from hv4)
     have HM4:=hiD (HMd.out.trans hm4)
     clear hp4 hm4 hv4
     go_wp2
     go_ret
     refine ⟨_,rfl,?_,HR4.out.par.mods ((Mods.refl _ _).alloc _),HM4.out.alloc _⟩
     simp only [ExIs,ExAt]
     exact ⟨_,Node.new HR4.out.base.old _,HV4.out.mods ((Mods.refl _ _).alloc _)⟩
  ·clear HX
   rintro-HX w5 HR5 hm5 HM5
   have HB5:=hiD (HB0.out.mods hm5.out (fun f=>f))
   have hc2:=HB5.out.cell (i:=2) rfl
   clear HB0 HB3 hm5 HR3 HM3 HTX HTX2
   go_wp2_with fail
   go_at_call 156
   refine Calls.mono (R:=fun e w=>∃ xv,e=.returned xv∧(∃ p,xv=.pointer p)∧Items S b w1.heap.size f deep ta1 W x xv w) ?_ ?_
   ·refine bind_of HM5 HR5 HX (fun y hy=>hF b S deep ts w5 y (by have:=HD2.out;omega) HR5.out hy) ?_ ?_
    ·rintro n a rfl xv w ⟨p,rfl⟩ HB hm6 HM6
     exact ⟨_,rfl,⟨_,rfl⟩,hm6.out.cellOf hc2 hne.out,Or.inr ⟨n,a,_,rfl,rfl,HB.out,HM6.out⟩⟩
    ·rintro y0 r0-HX2 xv w6 hv HR6 hm6 HM6
     exact ⟨_,rfl,(by obtain ⟨gv,hg⟩:=ExAt.ptr hv;exact ⟨_,hg⟩),hm6.out.cellOf hc2 hne.out,Or.inl ⟨f,y0,r0,Nat.le_refl _,HX2.out,hv,HR6.out,HM6.out⟩⟩
   rintro e w6 ⟨xv,rfl,⟨pv,rfl⟩,hst⟩
   have HST:=hiD hst
   clear hst HX HM5 HR5 hc2 HB5
   go_wp2_with fail
   go_loopw [6] (fun xv wr=>(∃ p,xv=.pointer p)∧Items S b w1.heap.size f deep ta1 W x xv wr) (fun _ wr=>lenB wr b)
   case atStart=>exact ⟨⟨_,rfl⟩,HST.out⟩
   case round =>
    clear HST
    obtain ⟨⟨pv,rfl⟩,hc2,hst⟩:=hrel
    obtain ⟨ff,y,r,hff,hb,hv1,hR1,hmm⟩|⟨n,p,_,rfl,-,hB,hmm⟩:=hst
    rotate_left
    ·have HB:=hiD hB
     have HM1:=hiD hmm
     clear hB hmm
     go_wp2_with fail
     go_at_call 46
     refine takeb_of (s:=[91]) HM1 HB ?_
     rintro w7 HB7-HM7
     go_wp2
     go_ret
     exact ⟨_,rfl,⟨_,rfl⟩,HB7.out,HM7.out⟩
    have HV1:=hiD hv1
    have HR1:=hiD hR1
    have HM1:=hiD hmm
    clear hv1 hR1 hmm
    cases ff with
    | zero=>simp [itemF] at hb
    | succ f1 =>
     simp only [itemF] at hb
     have HB:=hiD hb
     clear hb
     go_wp2_with fail
     go_at_call 46
     refine take_of (s:=[91]) HM1 HR1 HB ?_ ?_
     ·clear HB
      rintro hs HX w7 HR7 hm7 HM7
      have hc7:=hm7.out.cellOf hc2 hne.out
      have HV7:=hiD (ExAt.by HV1.out HR1.out hm7.out)
      have HRd:=hiD (HR7.out.quiet (Mods.refl None w7).drew)
      have HMd:=hiD HM7.out.drew
      have hw1:IntKind.i64.wrap ((deep:Int)+1)=(deep:Int)+1:=IntWalk.i64_in _ (by omega)
      clear hc2
      go_wp2_with fail
      rcases bind_cases HX with ⟨n,a,hy,rfl⟩|⟨v,r2,hy,HX2⟩
      ·have HC:=hiD (hE f1 (by omega) b S 0 (deep+1) r.tail _ _ (by omega) (by have:=HD.out;have:=HD2.out;omega) HRd.out hy)
       rw [← hds.out] at HC
       clear hy HX
       go_region_held3 (fun w'=>w'.cell? ⟨w1.heap.size,2,none⟩=some (.int .i64 ta1))
        (first|exact hc7|assumption|exact hm8.cellOf ‹_› hne.out|exact al_cell ‹_›)
        ((first|(go_at_call 111;refine HC.out.mono ?_;rintro e w8 ⟨xv,rfl,⟨p4,rfl⟩,hb8,hm8⟩)))
       all_goals
        have HB8:=hiD hb8
        have HM8:=hiD (HMd.out.trans hm8)
        have hc8:=al_cell (o:=.cells #[.int .i64 8,.int .i64 ta1,.int .i64 0,.string ⟨#[]⟩,.string ⟨#[]⟩,.pointer pv,.pointer p4,.slice none 0 0] 195) (hm8.cellOf hc7 hne.out)
        have HBA:=hiD (HB8.out.quiet (W':=w8.alloc (.cells #[.int .i64 8,.int .i64 ta1,.int .i64 0,.string ⟨#[]⟩,.string ⟨#[]⟩,.pointer pv,.pointer p4,.slice none 0 0] 195)) ((Mods.refl _ _).alloc _))
        have HMA:=hiD (HM8.out.alloc (.cells #[.int .i64 8,.int .i64 ta1,.int .i64 0,.string ⟨#[]⟩,.string ⟨#[]⟩,.pointer pv,.pointer p4,.slice none 0 0] 195))
        clear hb8 hm8 hc7
        go_wp2_with fail
        go_at_call 44
        refine mustb_of (s:=[93]) HMA HBA ?_
        rintro w9 HB9 hm9 HM9
        go_wp2_with fail
        refine ⟨⟨⟨_,rfl⟩,hm9.out.cellOf hc8 (fun f=>f),Or.inr ⟨n,a,_,rfl,rfl,HB9.out,HM9.out⟩⟩,?_⟩
        rw [Bad.lenB HB9.out.bad,Par.lenB HR1.out.par]
        omega
      ·have HC:=hiD (hE f1 (by omega) b S 0 (deep+1) r.tail _ _ (by omega) (by have:=HD.out;have:=HD2.out;omega) HRd.out hy)
       rw [← hds.out] at HC
       have HY:=hiD hy
       clear hy HX
       go_region_held3 (fun w'=>w'.cell? ⟨w1.heap.size,2,none⟩=some (.int .i64 ta1))
        (first|exact hc7|assumption|exact hm8.cellOf ‹_› hne.out|exact al_cell ‹_›)
        ((first|(go_at_call 111;refine HC.out.mono ?_;rintro e w8 ⟨xv,rfl,hv8,hp8,hm8⟩;obtain ⟨g8,rfl⟩:=ExAt.ptr hv8)))
       all_goals
        obtain ⟨gu,hgu⟩:=ExAt.ptr HV1.out
        cases hgu
        have HR8:=hiD (HRd.out.next hp8 hm8)
        have HV8:=hiD (show ExAt w8 S v _ from hv8)
        have HM8:=hiD (HMd.out.trans hm8)
        have HVL:=hiD (ExAt.by (HV7.out.mods ((Mods.refl None w7).drew.mono fun _ _ f=>f.elim)) HRd.out hm8)
        have hc8:=al_cell (o:=.cells #[.int .i64 8,.int .i64 ta1,.int .i64 0,.string ⟨#[]⟩,.string ⟨#[]⟩,.pointer (some ⟨gu,0,none⟩),.pointer (some ⟨g8,0,none⟩),.slice none 0 0] 195) (hm8.cellOf hc7 hne.out)
        have HRA:=hiD (HR8.out.quiet (W':=w8.alloc (.cells #[.int .i64 8,.int .i64 ta1,.int .i64 0,.string ⟨#[]⟩,.string ⟨#[]⟩,.pointer (some ⟨gu,0,none⟩),.pointer (some ⟨g8,0,none⟩),.slice none 0 0] 195)) ((Mods.refl _ _).alloc _))
        have HMA:=hiD (HM8.out.alloc (.cells #[.int .i64 8,.int .i64 ta1,.int .i64 0,.string ⟨#[]⟩,.string ⟨#[]⟩,.pointer (some ⟨gu,0,none⟩),.pointer (some ⟨g8,0,none⟩),.slice none 0 0] 195))
        clear hp8 hv8 hm8 hc7
        go_wp2_with fail
        go_at_call 44
        refine must_of (s:=[93]) HMA HRA HX2 ?_ ?_
        ·rintro n a rfl w9 HB9 hm9 HM9
         go_wp2_with fail
         refine ⟨⟨⟨_,rfl⟩,hm9.out.cellOf hc8 hne.out,Or.inr ⟨n,a,_,rfl,rfl,HB9.out,HM9.out⟩⟩,?_⟩
         rw [Bad.lenB HB9.out.bad,Par.lenB HR1.out.par]
         omega
        clear HX2
        rintro r3 HP3 HX w9 HR9 hm9 HM9
        go_wp2_with fail
        refine ⟨⟨⟨_,rfl⟩,hm9.out.cellOf hc8 hne.out,Or.inl ⟨f1,_,r3,by omega,HX.out,?_,HR9.out,HM9.out⟩⟩,?_⟩
        ·refine ExAt.by (e:=.item ta1 y v) ?_ HRA.out hm9.out
         simp only [ExAt]
         exact ⟨_,_,Node.new HR8.out.base.old _,HVL.out.mods ((Mods.refl _ _).alloc _),HV8.out.mods ((Mods.refl _ _).alloc _)⟩
        ·rw [Par.lenB HR9.out.par,Par.lenB HR1.out.par]
         have h1:=(lens f1).expr HY.out
         obtain ⟨t1,r1,rfl,_⟩:=see_cons hs.out HR1.out.par.ends
         obtain ⟨_,rfl⟩:=HP3.out
         simp only [List.tail_cons,List.length_cons,List.length_tail] at h1 ⊢
         omega
     ·clear HB
      rintro-HX w7 HR7 hm7 HM7
      obtain rfl:=(Option.some.inj HX.out).symm
      go_wp2
      go_ret
      exact ⟨_,rfl,HV1.out.mods (hm7.out.mono fun _ _ f=>f.elim),HR7.out.par,HM7.out⟩
end Go.Proofs.YtdgedlhefjmcpaaGreatDoor.TreeP.R

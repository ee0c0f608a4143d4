/- ( EXPR ). Conditions: what is read within is read so. An expression of a level. Conditions: what is read within is read so. - and !, and what they are of; what is behind [ and ]. Conditions: what is read within is read so. ( EXPR , .. ). Conditions: what is read within is read so. What stands first: ( EXPR ), new, len, input, a call, a name. Conditions: what is read within is read so. A number. Conditions: that the error of a number that is too great lies. Expressions are read as the plain reader says, with any number of rounds. No conditions beyond the memory's. -/
import Derived.Test.YtnicpmoanjddbaaGreatDoorMs02
import Derived.Laws.PanicsMore
import Derived.Deep.RegionWith
import Derived.Test.YtnicpmoanjddbaaGreatDoorMs01
import Derived.Test.YtnicpmoanjddbaaGreatDoorShelf
import Derived.Lib.AtoiErrMem
namespace Go.Proofs.YtnicpmoanjddbaaGreatDoor.TreeP
open Go.RowKit Go.Proofs.YtnicpmoanjddbaaGreatDoor.Wo
set_option linter.unusedVariables false
set_option linter.unusedSimpArgs false
set_option maxRecDepth 100000 in
set_option maxHeartbeats 600000 in
theorem alone_of (f:Nat) (ih:ExprC f):AloneC (f+1):=by
 intro b S deep ts W x hd h hx
 simp only [aloneF] at hx
 have HX:=hiD hx
 have HR:=hiD h
 have HM:=hiD (Mods.refl (·=b) W)
 have hds:Hid ((deep:Int)+1=((deep+1:Nat):Int)):=hiD (by omega)
 have hd0:0≤(deep:Int)∧(deep:Int)≤13:=by omega
 have HD:=hiD hd
 clear hx h hd
 go_enter Tryz.func113,Tryz.ntmps113
 go_wp2_with fail
 go_at_call 60
 refine must_of (s:=[40]) HM HR HX ?_ ?_
 · rintro n a rfl g w HB HM1
   go_wp2
   exact ⟨rfl,g,rfl,HB.out,HM1.out⟩
 clear HX
 rintro r1-HX w1 HR1-HM1
 go_wp2_with fail
 go_at_call 114
 rw [hds.out]
 refine bind_of HM1 HR1 HX (fun y hy=>ih b S 0 (deep+1) r1 w1 y (by omega) (by have:=HD.out;omega) HR1.out hy) ?_ ?_
 · rintro n a rfl g w HB HM1
   go_wp2
   exact ⟨rfl,g,rfl,HB.out,HM1.out⟩
 clear HX
 rintro v r2-HX xv w2 hv HR2-HM2
 have HV:=hiD hv
 clear hv
 go_wp2_with fail
 go_at_call 60
 refine must_of (s:=[41]) HM2 HR2 HX ?_ ?_
 · rintro n a rfl g w HB HM1
   go_wp2
   exact ⟨rfl,g,rfl,HB.out,HM1.out⟩
 clear HX
 rintro r3-HX w3 HR3 hm HM3
 obtain rfl:=(Option.some.inj HX.out).symm
 go_wp2
 go_ret
 exact ⟨_,rfl,HV.out.by HR2.out hm.out,HR3.out.par,HM3.out⟩
theorem six_of {f deep b:Nat} {S:Nat→Prop} {ts:List Tok} {W:World} {x:Except (Int×Int) (Ex×List Tok)} (ih:UnaryC f) (hd:deep≤14) (h:Rd W b S ts) (hx:exprF (f+1) 6 deep ts=some x) :
 Calls Tryz.prog 114 #[.pointer (some ⟨b,0,none⟩),.int .i64 6,.int .i64 deep] W (Got (·=b) W b (ExIs S) (some x)):=by
 simp only [exprF,if_true] at hx
 have HX:=hiD hx
 have HR:=hiD h
 have HM:=hiD (Mods.refl (·=b) W)
 clear hx h
 go_enter Tryz.func114,Tryz.ntmps114
 go_wp2_with fail
 go_at_call 126
 refine tail_of HM HR HX (fun y hy=>ih b S deep ts W y hd HR.out hy) ?_ ?_
 · rintro n a rfl g w HB HM1
   go_wp2
   exact ⟨rfl,g,rfl,HB.out,HM1.out⟩
 rintro v r rfl xv w hv HR1-HM1
 have HV:=hiD hv
 clear hv HX
 go_wp2
 go_ret
 exact ⟨_,rfl,HV.out,HR1.out.par,HM1.out⟩
theorem opP_see {level:Nat} {r:List Tok} (h:opP level r≠[]):seeB (opP level r) r=true:=by
 unfold opP at h ⊢
 cases hf:(levelList.getD level []).find? (fun m=>seeB m r) with
 | none=>rw [hf] at h;exact absurd rfl h
 | some m=>exact List.find?_some (p:=fun m=>seeB m r) hf
def Stands (S:Nat→Prop) (b f level deep:Nat) (a:Int) (W:World) (x:Except (Int×Int) (Ex×List Tok)) (xv ov:Value) (wr:World):Prop :=
 ∃ ff y r,ff≤f∧binF ff level deep a y r=some x∧ExAt wr S y xv∧Rd wr b S r∧Mods (·=b) W wr∧ov=str (opP level r)
set_option maxRecDepth 100000 in
set_option maxHeartbeats 1600000 in
theorem low_of {f level deep b:Nat} {S:Nat→Prop} {ts:List Tok} {W:World} {x:Except (Int×Int) (Ex×List Tok)} (ih:∀ g,g≤f→ExprC g) (hl6:level<6) (hd:deep≤14) (h:Rd W b S ts) (hx:exprF (f+1) level deep ts=some x) :
 Calls Tryz.prog 114 #[.pointer (some ⟨b,0,none⟩),.int .i64 level,.int .i64 deep] W (Got (·=b) W b (ExIs S) (some x)):=by
 simp only [exprF] at hx
 rw [if_neg (by omega)] at hx
 have hds:Hid ((level:Int)+1=((level+1:Nat):Int)):=hiD (by omega)
 have hd0:0≤(level:Int)∧(level:Int)≤5:=by omega
 have hq:((level:Int)==6)=false:=by simp;omega
 have HR:=hiD h
 have HM:=hiD (Mods.refl (·=b) W)
 have HE:=hiD (fun (g:Nat) (hg:g≤f) (r:List Tok) (W1:World) (z:_) (h1:Rd W1 b S r) (hz:exprF g (level+1) deep r=some z)=>ih g hg b S (level+1) deep r W1 z (by omega) hd h1 hz)
 have HO:=hiD (fun (r:List Tok) (W1:World) (h1:Rd W1 b S r)=>op_any b level r W1 h1.par h1.lev hl6)
 unfold str at HO
 obtain ⟨⟨g,o,c,hp⟩,hL,_,_,_⟩:=h
 obtain ⟨t,rr,rfl⟩:=ends_cons hp.ends
 have hl:=hp.cl
 have ha:=hp.ca
 have hcap:=hp.cap
 have hmax:=hp.max
 have hta:headAt (t::rr)=t.at_:=rfl
 rw [hta] at hx
 obtain ⟨ta,hta2⟩:∃ ta,ta=t.at_:=⟨_,rfl⟩
 rw [← hta2] at ha hx
 simp only [List.length_cons] at hcap
 have HX:=hiD hx
 clear hp hL hta hta2 hx
 go_enter Tryz.func114,Tryz.ntmps114
 go_wp2_with fail
 go_at_call 114
 rw [hds.out]
 refine bind_of HM HR HX (fun y hy=>HE.out f (Nat.le_refl _) _ W y HR.out hy) ?_ ?_
 · rintro n a rfl g w HB HM1
   go_wp2
   exact ⟨rfl,g,rfl,HB.out,HM1.out⟩
 clear HX
 rintro y0 r0-HX xv w1 hv HR0-HM0
 have HV:=hiD hv
 clear hv
 go_wp2_with fail
 go_at_call 127
 refine (HO.out r0 _ HR0.out).mono ?_
 rintro e w2 ⟨rfl,rfl⟩
 go_wp2_with fail
 go_loopw [8,9] (fun xv ov wr=>Stands S b f level deep ta W x xv ov wr) (fun _ _ wr=>lenOf wr b)
 case atStart=>exact ⟨f,y0,r0,Nat.le_refl _,HX.out,HV.out,HR0.out,HM0.out,rfl⟩
 case round =>
  clear HX HV HR0 HM0
  obtain ⟨ff,y,r,hff,hb,hv1,hR1,hmm,rfl⟩:=hrel
  obtain ⟨gu,rfl⟩:=hv1.ptr
  have HV1:=hiD hv1
  have HR1:=hiD hR1
  have HM1:=hiD hmm
  clear hv1 hR1 hmm
  cases ff with
  | zero=>simp [binF] at hb
  | succ f1 =>
    simp only [binF] at hb
    by_cases hop:opP level r=[]
    · rw [if_pos hop] at hb
      obtain rfl:x=.ok (y,r):=(Option.some.inj hb).symm
      rw [hop]
      unfold str
      clear hb
      go_wp2
      go_ret
      exact ⟨_,rfl,HV1.out,HR1.out.par,HM1.out⟩
    · rw [if_neg hop] at hb
      have HS:=hiD (opP_see hop)
      have hgd:(opP level r).isEmpty=false:=by simpa using hop
      have hgd2:(!(opP level r).isEmpty)=true:=by rw [hgd];rfl
      have HB:=hiD hb
      clear hb hop
      unfold str
      go_wp2_with fail
      go_at_call 60
      refine (must_yes b (opP level r) r wr HR1.out.par HS.out).mono ?_
      rintro e w3 ⟨rfl,hp3,hm3⟩
      have HR3:=hiD (HR1.out.next hp3 hm3)
      have HM3:=hiD (HM1.out.trans hm3)
      have HV3:=hiD (HV1.out.by HR1.out hm3)
      clear hp3 hm3
      go_wp2_with fail
      go_at_call 114
      rw [hds.out]
      refine bind_of HM3 HR3 HB (fun z hz=>HE.out f1 (by omega) _ w3 z HR3.out hz) ?_ ?_
      · rintro n a rfl g w HB HM1
        go_wp2
        exact ⟨rfl,g,rfl,HB.out,HM1.out⟩
      clear HB
      rintro y2 r2 HP HB xv w4 hv4 HR4 hm4 HM4
      obtain ⟨g4,rfl⟩:=ExAt.ptr hv4
      have HV4:=hiD hv4
      clear hv4
      go_wp2_with fail
      go_at_call 127
      refine (HO.out r2 _ (HR4.out.quiet ((Mods.refl None _).alloc _))).mono ?_
      rintro e w5 ⟨rfl,hw5⟩
      go_wp2_with fail
      subst hw5
      have hmA:∀ (ob:Obj),Mods None w4 (w4.alloc ob):=fun ob=>(Mods.refl _ _).alloc _
      have HR5:=fun (ob:Obj)=>HR4.out.quiet (hmA ob)
      refine ⟨⟨f1,_,r2,by omega,HB.out,?_,HR5 _,HM4.out.alloc _,rfl⟩,?_⟩
      · simp only [ExAt]
        exact ⟨_,_,Node.new HR4.out.old _,(HV3.out.by HR3.out hm4.out).mods ((Mods.refl _ _).alloc _),HV4.out.mods ((Mods.refl _ _).alloc _)⟩
      · rw [(HR5 _).par.len,HR1.out.par.len]
        have h1:=(lens f1).expr HP.out
        obtain ⟨t1,r1,rfl,_⟩:=see_cons HS.out HR1.out.par.ends
        simp only [List.tail_cons,List.length_cons] at h1 ⊢
        omega
theorem und2:Tryz.prog.underlying 236=some (.array 2 9):=by kernel_rfl
theorem two_0 (W:World):Sem.run Tryz.prog (Instr.index 236 (.agg #[.string ⟨#[45]⟩,.string ⟨#[33]⟩]) (.int .i64 0)) W=.ok (.string ⟨#[45]⟩) W:=by
 simp [Instr.index,run_underlying und2,asIntOf,go_sem]
theorem two_1 (W:World):Sem.run Tryz.prog (Instr.index 236 (.agg #[.string ⟨#[45]⟩,.string ⟨#[33]⟩]) (.int .i64 1)) W=.ok (.string ⟨#[33]⟩) W:=by
 simp [Instr.index,run_underlying und2,asIntOf,go_sem]
def Items (S:Nat→Prop) (b f deep:Nat) (a:Int) (W:World) (x:Except (Int×Int) (Ex×List Tok)) (xv:Value) (wr:World):Prop :=
 ∃ ff y r,ff≤f∧itemF ff deep a y r=some x∧ExAt wr S y xv∧Rd wr b S r∧Mods (·=b) W wr
set_option maxRecDepth 100000 in
set_option maxHeartbeats 1600000 in
theorem unary_of (f:Nat) (hU:UnaryC f) (hF:FirstC f) (hE:∀ g,g≤f→ExprC g):UnaryC (f+1):=by
 intro b S deep ts W x hd h hx
 simp only [unaryF] at hx
 have HR:=hiD h
 have HM:=hiD (Mods.refl (·=b) W)
 have HD:=hiD hd
 have hds:Hid ((deep:Int)+1=((deep+1:Nat):Int)):=hiD (by omega)
 have hd0:0≤(deep:Int)∧(deep:Int)≤14:=by omega
 obtain ⟨⟨g,o,c,hp⟩,hL,_,_,_⟩:=h
 obtain ⟨t,rr,rfl⟩:=ends_cons hp.ends
 have hl:=hp.cl
 have ha:=hp.ca
 have hcap:=hp.cap
 have hmax:=hp.max
 have hta:headAt (t::rr)=t.at_:=rfl
 rw [hta] at hx
 obtain ⟨ta,hta2⟩:∃ ta,ta=t.at_:=⟨_,rfl⟩
 rw [← hta2] at ha hx
 simp only [List.length_cons] at hcap
 obtain ⟨ts,hts⟩:∃ ts,ts=t::rr:=⟨_,rfl⟩
 rw [← hts] at hx HR
 clear hp hL hta hta2 hts hd
 by_cases hdd:12<deep
 · rw [if_pos hdd] at hx
   have HX:=hiD hx
   have hg:12<(deep:Int):=by omega
   clear hx hdd
   go_enter Tryz.func126,Tryz.ntmps126
   go_wp2_with fail
   go_at_call 30
   refine fail_of HM HR HX ?_
   rintro n a rfl g w HB HM1
   go_wp2
   exact ⟨rfl,g,rfl,HB.out,HM1.out⟩
 rw [if_neg hdd] at hx
 have HD2:=hiD hdd
 have hg:¬ 12<(deep:Int):=by omega
 have HX:=hiD hx
 clear hx hdd
 go_enter Tryz.func126,Tryz.ntmps126
 go_wp2_with fail
 go_loopw [21] (fun v wr=>∃ i:Nat,i≤2∧v=.int .i64 i∧Hid (W=wr)∧Hid (1≤i→seeB [45] ts=false)∧Hid (2≤i→seeB [33] ts=false)) (fun v _=>(2-intOf v).toNat)
 case atStart=>exact ⟨0,by omega,rfl,hiD rfl,hiD (by omega),hiD (by omega)⟩
 case round =>
  obtain ⟨i,hi,rfl,hw,h45,h33⟩:=hrel
  obtain rfl:=hw.out
  obtain rfl|rfl|rfl:i=0∨i=1∨i=2:=by omega
  · have hix:=two_0 W
    go_wp2_with fail
    go_at_call 62
    refine take_of (s:=[45]) HM HR HX ?_ ?_
    · clear HX
      rintro-HX w1 HR1-HM1
      go_wp2_with fail
      go_at_call 126
      rw [hds.out]
      refine bind_of HM1 HR1 HX (fun y hy=>hU b S (deep+1) ts.tail w1 y (by have:=HD2.out;omega) HR1.out hy) ?_ ?_
      · rintro n a rfl g w HB HM1
        go_wp2
        exact ⟨rfl,g,rfl,HB.out,HM1.out⟩
      clear HX
      rintro v r2-HX xv w2 hv HR2-HM2
      obtain ⟨g4,rfl⟩:=ExAt.ptr hv
      have HV:=hiD hv
      clear hv
      obtain rfl:=(Option.some.inj HX.out).symm
      go_wp2
      go_ret
      refine ⟨_,rfl,?_,HR2.out.par.mods ((Mods.refl _ _).alloc _),HM2.out.alloc _⟩
      simp only [ExIs,ExAt]
      exact ⟨_,Node.new HR2.out.old _,HV.out.mods ((Mods.refl _ _).alloc _)⟩
    · clear HX
      rintro hs HX
      go_wp2_with fail
      exact ⟨⟨1,by omega,rfl,hiD (by first|trivial|rfl),hiD (fun _=>hs.out),hiD (by omega)⟩,by simp [intOf]⟩
  · have HX2:=HX.out
    rw [h45.out (by omega),if_neg (by simp)] at HX2
    have HX2:=hiD HX2
    clear HX
    have hix:=two_1 W
    go_wp2_with fail
    go_at_call 62
    refine take_of (s:=[33]) HM HR HX2 ?_ ?_
    · clear HX2
      rintro-HX w1 HR1-HM1
      go_wp2_with fail
      go_at_call 126
      rw [hds.out]
      refine bind_of HM1 HR1 HX (fun y hy=>hU b S (deep+1) ts.tail w1 y (by have:=HD2.out;omega) HR1.out hy) ?_ ?_
      · rintro n a rfl g w HB HM1
        go_wp2
        exact ⟨rfl,g,rfl,HB.out,HM1.out⟩
      clear HX
      rintro v r2-HX xv w2 hv HR2-HM2
      obtain ⟨g4,rfl⟩:=ExAt.ptr hv
      have HV:=hiD hv
      clear hv
      obtain rfl:=(Option.some.inj HX.out).symm
      go_wp2
      go_ret
      refine ⟨_,rfl,?_,HR2.out.par.mods ((Mods.refl _ _).alloc _),HM2.out.alloc _⟩
      simp only [ExIs,ExAt]
      exact ⟨_,Node.new HR2.out.old _,HV.out.mods ((Mods.refl _ _).alloc _)⟩
    · clear HX2
      rintro hs HX
      go_wp2_with fail
      exact ⟨⟨2,by omega,rfl,hiD (by first|trivial|rfl),hiD (fun _=>h45.out (by omega)),hiD (fun _=>hs.out)⟩,by simp [intOf]⟩
  · have HX2:=HX.out
    rw [h45.out (by omega),if_neg (by simp),h33.out (by omega),if_neg (by simp)] at HX2
    have HX2:=hiD HX2
    clear HX h45 h33 hw
    go_wp2_with fail
    go_at_call 133
    refine bind_of HM HR HX2 (fun y hy=>hF b S deep ts W y (by have:=HD2.out;omega) HR.out hy) ?_ ?_
    · rintro n a rfl g w HB HM1
      go_wp2
      exact ⟨rfl,g,rfl,HB.out,HM1.out⟩
    clear HX2
    rintro y0 r0-HX xv w1 hv HR0-HM0
    have HV:=hiD hv
    clear hv
    go_wp2_with fail
    go_loopw [8] (fun xv wr=>Items S b f deep ta W x xv wr) (fun _ wr=>lenOf wr b)
    case atStart=>exact ⟨f,y0,r0,Nat.le_refl _,HX.out,HV.out,HR0.out,HM0.out⟩
    case round =>
        clear HX HV HR0 HM0
        obtain ⟨ff,y,r,hff,hb,hv1,hR1,hmm⟩:=hrel
        obtain ⟨gu,rfl⟩:=hv1.ptr
        have HV1:=hiD hv1
        have HR1:=hiD hR1
        have HM1:=hiD hmm
        clear hv1 hR1 hmm
        cases ff with
        | zero=>simp [itemF] at hb
        | succ f1 =>
          simp only [itemF] at hb
          have HB:=hiD hb
          clear hb
          go_wp2_with fail
          go_at_call 62
          refine take_of (s:=[91]) HM1 HR1 HB ?_ ?_
          · clear HB
            rintro hs HX w3 HR3 hm3 HM3
            go_wp2_with fail
            go_at_call 114
            rw [hds.out]
            refine bind_of HM3 HR3 HX (fun z hz=>hE f1 (by omega) b S 0 (deep+1) r.tail w3 z (by omega) (by have:=HD.out;have:=HD2.out;omega) HR3.out hz) ?_ ?_
            · rintro n a rfl g w HB HM1
              go_wp2
              exact ⟨rfl,g,rfl,HB.out,HM1.out⟩
            clear HX
            rintro y2 r2 HP HX xv w4 hv4 HR4 hm4 HM4
            obtain ⟨g4,rfl⟩:=ExAt.ptr hv4
            have HV4:=hiD hv4
            clear hv4
            go_wp2_with fail
            go_at_call 60
            refine must_of (s:=[93]) (W:=w4.alloc _) (hiD (HM4.out.alloc _)) (hiD (HR4.out.quiet ((Mods.refl _ _).alloc _))) HX ?_ ?_
            · rintro n a rfl g w HB HM1
              go_wp2
              exact ⟨rfl,g,rfl,HB.out,HM1.out⟩
            clear HX
            rintro r3 HP3 HX w5 HR5 hm5 HM5
            go_wp2_with fail
            refine ⟨⟨f1,_,r3,by omega,HX.out,?_,HR5.out,HM5.out⟩,?_⟩
            · simp only [ExAt]
              refine ExAt.by (ts:=r2) (e:=.item ta y y2) (W:=w4.alloc _) ?_ (HR4.out.quiet ((Mods.refl _ _).alloc _)) hm5.out
              simp only [ExAt]
              exact ⟨_,_,Node.new HR4.out.old _,((HV1.out.by HR1.out hm3.out).by HR3.out hm4.out).mods ((Mods.refl _ _).alloc _),HV4.out.mods ((Mods.refl _ _).alloc _)⟩
            · rw [HR5.out.par.len,HR1.out.par.len]
              have h1:=(lens f1).expr HP.out
              obtain ⟨t1,r1,rfl,_⟩:=see_cons hs.out HR1.out.par.ends
              obtain ⟨_,rfl⟩:=HP3.out
              simp only [List.tail_cons,List.length_cons,List.length_tail] at h1 ⊢
              omega
          · clear HB
            rintro-HX
            obtain rfl:=(Option.some.inj HX.out).symm
            go_wp2
            go_ret
            exact ⟨_,rfl,HV1.out,HR1.out.par,HM1.out⟩
theorem Par.short {W:World} {b:Nat} {ts:List Tok} (h:Par W b ts):ts.length≤10000000:=by
 obtain ⟨g,o,c,h⟩:=h
 exact h.len
def RestAt (S:Nat→Prop) (b f deep:Nat) (W:World) (x:Except (Int×Int) (List Ex×List Tok)) (lv fv:Value) (wr:World):Prop :=
 ∃ ff first l r vs,ff≤f∧fv=.bool first∧restF ff deep first l r=some x∧Grows wr W.heap.size S 141 1 lv l.length vs∧ExsAt wr (Own S lv) l vs∧Rd wr b S r∧Mods (·=b) W wr∧l.length+r.length+first.toNat≤10000001
set_option maxRecDepth 100000 in
set_option maxHeartbeats 1600000 in
theorem args_of (f:Nat) (hE:∀ g,g≤f→ExprC g):ArgsC (f+1):=by
 intro b S deep ts W x hd h hx
 simp only [argsF] at hx
 have HX:=hiD hx
 have HR:=hiD h
 have HM:=hiD (Mods.refl (·=b) W)
 have HD:=hiD hd
 have HN:=hiD h.par.short
 have HG:=hiD (fun (w:World) (hm:Mods (·=b) W w)=>Grows.nil 141 1 h hm)
 have hds:Hid ((deep:Int)+1=((deep+1:Nat):Int)):=hiD (by omega)
 have hd0:0≤(deep:Int)∧(deep:Int)≤13:=by omega
 obtain ⟨i0,hi,hz0,hz1,hz2⟩:=info_parts ptr_info
 have HI:=hiD (⟨hi,hz0,hz1,hz2⟩:_∧_∧_∧_)
 clear hx h hd hi hz0 hz1 hz2
 go_enter Tryz.func128,Tryz.ntmps128
 go_wp2_with fail
 go_at_call 60
 refine must_of (s:=[40]) HM HR HX ?_ ?_
 · rintro n a rfl g w HB HM1
   go_wp2
   exact ⟨rfl,g,rfl,HB.out,HM1.out⟩
 clear HX
 rintro r1 HT HX w1 HR1-HM1
 go_wp2_with fail
 go_loopw [5,6] (fun lv fv wr=>RestAt S b f deep W x lv fv wr) (fun _ _ wr=>lenOf wr b)
 case atStart=>exact ⟨f,true,[],r1,[],Nat.le_refl _,rfl,HX.out,HG.out _ HM1.out,by simp [ExsAt],HR1.out,HM1.out,by rw [HT.out.2];have:=HN.out;simp;omega⟩
 case round =>
  clear HX HR1 HM1 HR HM HT HN HG
  obtain ⟨ff,first,l,r,vs,hff,rfl,hb,hg,hv,hR1,hmm,hn⟩:=hrel
  have HG1:=hiD hg
  have HV1:=hiD hv
  have HR1:=hiD hR1
  have HM1:=hiD hmm
  have HN1:=hiD hn
  clear hg hv hR1 hmm hn
  cases ff with
  | zero=>simp [restF] at hb
  | succ f1 =>
    simp only [restF] at hb
    have HB:=hiD hb
    clear hb
    go_wp2_with fail
    go_at_call 62
    refine take_of (s:=[41]) HM1 HR1 HB ?_ ?_
    · clear HB
      rintro-HX w3 HR3 hm3 HM3
      obtain rfl:=(Option.some.inj HX.out).symm
      obtain ⟨oa,on,oc,rfl⟩:=HG1.out.form
      go_wp2
      go_ret
      exact ⟨_,rfl,⟨vs,(HG1.out.next HR1.out.has hm3.out).rowAt,ExsAt.modsTo (hm3.out.mono fun k _ hk=>Or.inl (hk ▸ HR1.out.has)) own_sub _ _ HV1.out⟩,HR3.out.par,HM3.out⟩
    · clear HB
      rintro-HX
      obtain ⟨oa,on,oc,rfl⟩:=HG1.out.form
      cases first
      · have HX1:Hid (andThen (must [44] r) (fun _ r=>andThen (exprF f1 0 (deep+1) r) fun x r2=>restF f1 deep false (l++[x]) r2)=some x):=HX
        clear HX
        go_wp2_with fail
        go_at_call 60
        refine must_of (s:=[44]) HM1 HR1 HX1 ?_ ?_
        · rintro n a rfl g w HB HM1
          go_wp2
          exact ⟨rfl,g,rfl,HB.out,HM1.out⟩
        clear HX1
        rintro r9 HT9 HX2 w9 HR9 hm9 HM9
        have HG9:=hiD (HG1.out.next HR1.out.has hm9.out)
        have HV9:=hiD (ExsAt.modsTo (hm9.out.mono fun k _ hk=>Or.inl (hk ▸ HR1.out.has)) (fun _ _ h=>h) _ _ HV1.out:ExsAt w9 (Own S (.slice oa on oc)) l vs)
        have HL9:=hiD (show r9.length<r.length by rw [HT9.out.2];exact see_less HT9.out.1)
        clear HG1 HV1 HM1 hm9 HT9
        go_wp2_with fail
        go_at_call 114
        rw [hds.out]
        refine bind_of HM9 HR9 HX2 (fun z hz=>hE f1 (by omega) b (Own S (.slice oa on oc)) 0 (deep+1) r9 w9 z (by omega) (by have:=HD.out;omega) (HG9.out.rd HR9.out) hz) ?_ ?_
        · rintro n a rfl g w HB HM1
          go_wp2
          exact ⟨rfl,g,rfl,HB.out,HM1.out⟩
        clear HX2
        rintro y2 r2 HP HX xv w4 hv4 HR4 hm4 HM4
        obtain ⟨g4,rfl⟩:=ExAt.ptr hv4
        have HV4:=hiD (show ExAt w4 _ y2 _ from hv4)
        have HG4:=hiD ((HG9.out.next HR9.out.has hm4.out).alloc (.cells #[.pointer (some ⟨g4,0,none⟩)] 141))
        clear hv4
        go_wp2_with (at_builtin;refine wpList_append_own_at _ rfl _ _ 221 rfl W.heap.size 141 i0 (.pointer none) 1 8 Tryz.underlying221 HI.out.1 HI.out.2.1 HI.out.2.2.1 HI.out.2.2.2 rfl (by decide) _ l.length vs rfl HG4.out.row ⟨w4.heap.size,0,none⟩ 1 1 [.pointer (some ⟨g4,0,none⟩)] rfl rfl (one_new _ _ _) (ptr_one _) (by have:=HN1.out;unfold maxLen;omega) (by have:=HN1.out;omega) HG4.out.base ?_;intro v' w5 hown hgrow hnil hloc;have HGR:Hid (Grew (w4.alloc (.cells #[.pointer (some ⟨g4,0,none⟩)] 141)) w5 (.slice oa on oc) v'):=hiD (grew_of hgrow hloc);have HOW:=hiD (HG4.out.grew HGR.out hown);clear hown hgrow hnil hloc;refine Hid.out ?_)
        refine hiD ?_
        have hMA:∀ (S:Nat→Prop) (o:Obj),Mods S w4 (w4.alloc o):=fun S o=>(Mods.refl _ _).alloc _
        go_wp2_with fail
        refine ⟨⟨f1,false,l++[y2],r2,vs++[.pointer (some ⟨g4,0,none⟩)],by omega,rfl,HX.out,by simpa using HOW.out,?_,HG4.out.rdGrew HGR.out (HR4.out.quiet (hMA _ _)),HG4.out.modsGrew HGR.out (HM4.out.alloc _),?_⟩,?_⟩
        · have hA:Mods (Own S (.slice oa on oc)) w9 (w4.alloc (.cells #[.pointer (some ⟨g4,0,none⟩)] 141)):=(hm4.out.mono fun k _ hk=>Or.inl (hk ▸ HR9.out.has)).trans (hMA _ _)
          exact ExsAt.append (ExsAt.modsTo HGR.out.own HGR.out.to _ _ (ExsAt.modsTo hA (fun _ _ h=>h) _ _ HV9.out)) (ExAt.modsTo HGR.out.own HGR.out.to _ _ (HV4.out.mods (hMA _ _)))
        · have h1:=(lens f1).expr HP.out
          have h2:=HN1.out
          simp only [List.length_append,List.length_cons,List.length_nil,Bool.toNat_true,Bool.toNat_false] at h2 ⊢
          have:=HL9.out
          omega
        · rw [(HG4.out.rdGrew HGR.out (HR4.out.quiet (hMA _ _))).par.len,HR1.out.par.len]
          have h1:=(lens f1).expr HP.out
          have:=HL9.out
          omega
      · have HX2:Hid (andThen (exprF f1 0 (deep+1) r) (fun x r2=>restF f1 deep false (l++[x]) r2)=some x):=HX
        clear HX
        go_wp2_with fail
        go_at_call 114
        rw [hds.out]
        refine bind_of HM1 HR1 HX2 (fun z hz=>hE f1 (by omega) b (Own S (.slice oa on oc)) 0 (deep+1) r wr z (by omega) (by have:=HD.out;omega) (HG1.out.rd HR1.out) hz) ?_ ?_
        · rintro n a rfl g w HB HM1
          go_wp2
          exact ⟨rfl,g,rfl,HB.out,HM1.out⟩
        clear HX2
        rintro y2 r2 HP HX xv w4 hv4 HR4 hm4 HM4
        obtain ⟨g4,rfl⟩:=ExAt.ptr hv4
        have HV4:=hiD (show ExAt w4 _ y2 _ from hv4)
        have HG4:=hiD ((HG1.out.next HR1.out.has hm4.out).alloc (.cells #[.pointer (some ⟨g4,0,none⟩)] 141))
        clear hv4
        go_wp2_with (at_builtin;refine wpList_append_own_at _ rfl _ _ 221 rfl W.heap.size 141 i0 (.pointer none) 1 8 Tryz.underlying221 HI.out.1 HI.out.2.1 HI.out.2.2.1 HI.out.2.2.2 rfl (by decide) _ l.length vs rfl HG4.out.row ⟨w4.heap.size,0,none⟩ 1 1 [.pointer (some ⟨g4,0,none⟩)] rfl rfl (one_new _ _ _) (ptr_one _) (by have:=HN1.out;unfold maxLen;omega) (by have:=HN1.out;omega) HG4.out.base ?_;intro v' w5 hown hgrow hnil hloc;have HGR:Hid (Grew (w4.alloc (.cells #[.pointer (some ⟨g4,0,none⟩)] 141)) w5 (.slice oa on oc) v'):=hiD (grew_of hgrow hloc);have HOW:=hiD (HG4.out.grew HGR.out hown);clear hown hgrow hnil hloc;refine Hid.out ?_)
        refine hiD ?_
        have hMA:∀ (S:Nat→Prop) (o:Obj),Mods S w4 (w4.alloc o):=fun S o=>(Mods.refl _ _).alloc _
        go_wp2_with fail
        refine ⟨⟨f1,false,l++[y2],r2,vs++[.pointer (some ⟨g4,0,none⟩)],by omega,rfl,HX.out,by simpa using HOW.out,?_,HG4.out.rdGrew HGR.out (HR4.out.quiet (hMA _ _)),HG4.out.modsGrew HGR.out (HM4.out.alloc _),?_⟩,?_⟩
        · have hA:Mods (Own S (.slice oa on oc)) wr (w4.alloc (.cells #[.pointer (some ⟨g4,0,none⟩)] 141)):=(hm4.out.mono fun k _ hk=>Or.inl (hk ▸ HR1.out.has)).trans (hMA _ _)
          exact ExsAt.append (ExsAt.modsTo HGR.out.own HGR.out.to _ _ (ExsAt.modsTo hA (fun _ _ h=>h) _ _ HV1.out)) (ExAt.modsTo HGR.out.own HGR.out.to _ _ (HV4.out.mods (hMA _ _)))
        · have h1:=(lens f1).expr HP.out
          have h2:=HN1.out
          simp only [List.length_append,List.length_cons,List.length_nil,Bool.toNat_true,Bool.toNat_false] at h2 ⊢
          omega
        · rw [(HG4.out.rdGrew HGR.out (HR4.out.quiet (hMA _ _))).par.len,HR1.out.par.len]
          have h1:=(lens f1).expr HP.out
          omega
theorem panic_way {G:Prop} (P:Program) (w:World) (h:G) (_k:wpAny P .any #[] (fun _ _ _=>True) 0 #[] { tmps:=#[],defers:=[] } w):G:=h
set_option maxRecDepth 100000 in
set_option maxHeartbeats 1600000 in
theorem first_word (f:Nat) (hA:AloneC f) (hG:ArgsC f) {b:Nat} {S:Nat→Prop} {deep:Nat} {ts:List Tok} {W:World} {x:Except (Int×Int) (Ex×List Tok)} (hd:deep≤13) (h:Rd W b S ts) (hx:firstF (f+1) deep ts=some x) (hn:headKind ts≠2) :
 Calls Tryz.prog 133 #[.pointer (some ⟨b,0,none⟩),.int .i64 deep] W (Got (·=b) W b (ExIs S) (some x)):=by
 simp only [firstF] at hx
 rw [if_neg hn] at hx
 have hd0:0≤(deep:Int)∧(deep:Int)≤13:=by omega
 have HD:=hiD hd
 have HR:=hiD h
 obtain ⟨⟨g,o,c,hp⟩,hL,_,hb,_⟩:=h
 obtain ⟨t,rr,hts⟩:=ends_cons hp.ends
 rw [hts] at hp
 obtain ⟨tk,tt,ta⟩:=t
 have e1:headKind ts=tk:=by rw [hts];rfl
 have e3:headAt ts=ta:=by rw [hts];rfl
 rw [e1] at hn
 rw [e3] at hx
 have hl:=hp.cl
 have hk:=hp.ck
 have ht:=hp.ct
 have ha:=hp.ca
 simp only at hk ht ha
 have hcap:=hp.cap
 have hmax:=hp.max
 simp only [List.length_cons] at hcap
 have HX:=hiD hx
 have HB0:=hiD (Blk.new W #[.int .i64 tk,.string ⟨tt.toArray⟩,.int .i64 ta] 79)
 have HM:=hiD ((Mods.refl (·=b) W).alloc (.cells #[.int .i64 tk,.string ⟨tt.toArray⟩,.int .i64 ta] 79))
 have HR1:=hiD (HR.out.quiet ((Mods.refl None W).alloc (.cells #[.int .i64 tk,.string ⟨tt.toArray⟩,.int .i64 ta] 79)))
 have hne:Hid (¬ W.heap.size=b):=hiD (by have:=HR.out.old b hb;omega)
 clear hp hL hb hts e1 e3 hx hd HR
 go_enter Tryz.func133,Tryz.ntmps133
 go_wp2_with fail
 go_at_call 93
 refine see_of (s:=[40]) HR1 HX ?_ ?_
 · clear HX
   rintro-HX
   go_wp2_with fail
   go_at_call 113
   refine tail_of HM HR1 HX (fun y hy=>hA b S deep ts _ y HD.out HR1.out hy) ?_ ?_
   · rintro n a rfl g w HB HM1
     go_wp2
     exact ⟨rfl,g,rfl,HB.out,HM1.out⟩
   rintro v r rfl xv w hv HR2-HM2
   have HV:=hiD hv
   clear hv HX
   go_wp2
   go_ret
   exact ⟨_,rfl,HV.out,HR2.out.par,HM2.out⟩
 clear HX
 rintro-HX
 go_wp2_with fail
 go_at_call 62
 refine take_of (s:=kNew) HM HR1 HX ?_ ?_
 · clear HX
   rintro-HX w2 HR2 hm2 HM2
   have hc2:=(HB0.out.mods hm2.out hne.out).cell (i:=2) rfl
   have HRd:=hiD (HR2.out.quiet (Mods.refl None w2).drew)
   have HMd:=hiD HM2.out.drew
   go_wp2_with fail
   rcases bind_cases HX with ⟨n,a,hy,rfl⟩|⟨v,r,hy,HX2⟩
   · have HC:=hiD (hA b S deep ts.tail _ _ HD.out HRd.out hy)
     clear hy HX
     go_region_with (first|(go_at_call 113;refine HC.out.mono ?_;rintro e w3 ⟨g3,rfl,hb3,hm3⟩;refine panic_way Tryz.prog w3 ⟨rfl,g3,rfl,hb3,HMd.out.trans hm3⟩ ?_))
     all_goals trivial
   · have HC:=hiD (hA b S deep ts.tail _ _ HD.out HRd.out hy)
     clear hy HX
     obtain rfl:=(Option.some.inj HX2.out).symm
     go_region_with (first|(go_at_call 113;refine HC.out.mono ?_;rintro e w3 ⟨y3,rfl,hv3,hp3,hm3⟩;obtain ⟨g4,rfl⟩:=ExAt.ptr hv3;have hc3:=hm3.cellOf hc2 hne.out))
     all_goals
        have HR3:=hiD (HRd.out.next hp3 hm3)
        have HV3:=hiD (show ExAt w3 S v _ from hv3)
        have HM3:=hiD (HMd.out.trans hm3)
        clear hp3 hm3 hv3
        go_wp2
        go_ret
        refine ⟨_,rfl,?_,HR3.out.par.mods ((Mods.refl _ _).alloc _),HM3.out.alloc _⟩
        simp only [ExIs,ExAt]
        exact ⟨_,Node.new HR3.out.old _,HV3.out.mods ((Mods.refl _ _).alloc _)⟩
 clear HX
 rintro-HX
 go_wp2_with fail
 go_at_call 62
 refine take_of (s:=kLen) HM HR1 HX ?_ ?_
 · clear HX
   rintro-HX w2 HR2 hm2 HM2
   have hc2:=(HB0.out.mods hm2.out hne.out).cell (i:=2) rfl
   have HRd:=hiD (HR2.out.quiet (Mods.refl None w2).drew)
   have HMd:=hiD HM2.out.drew
   go_wp2_with fail
   rcases bind_cases HX with ⟨n,a,hy,rfl⟩|⟨v,r,hy,HX2⟩
   · have HC:=hiD (hA b S deep ts.tail _ _ HD.out HRd.out hy)
     clear hy HX
     go_region_with (first|(go_at_call 113;refine HC.out.mono ?_;rintro e w3 ⟨g3,rfl,hb3,hm3⟩;refine panic_way Tryz.prog w3 ⟨rfl,g3,rfl,hb3,HMd.out.trans hm3⟩ ?_))
     all_goals trivial
   · have HC:=hiD (hA b S deep ts.tail _ _ HD.out HRd.out hy)
     clear hy HX
     obtain rfl:=(Option.some.inj HX2.out).symm
     go_region_with (first|(go_at_call 113;refine HC.out.mono ?_;rintro e w3 ⟨y3,rfl,hv3,hp3,hm3⟩;obtain ⟨g4,rfl⟩:=ExAt.ptr hv3;have hc3:=hm3.cellOf hc2 hne.out))
     all_goals
        have HR3:=hiD (HRd.out.next hp3 hm3)
        have HV3:=hiD (show ExAt w3 S v _ from hv3)
        have HM3:=hiD (HMd.out.trans hm3)
        clear hp3 hm3 hv3
        go_wp2
        go_ret
        refine ⟨_,rfl,?_,HR3.out.par.mods ((Mods.refl _ _).alloc _),HM3.out.alloc _⟩
        simp only [ExIs,ExAt]
        exact ⟨_,Node.new HR3.out.old _,HV3.out.mods ((Mods.refl _ _).alloc _)⟩
 clear HX
 rintro-HX
 go_wp2_with fail
 go_at_call 62
 refine take_of (s:=kInput) HM HR1 HX ?_ ?_
 · clear HX
   rintro-HX w2 HR2 hm2 HM2
   have HC2:=hiD (HB0.out.mods hm2.out hne.out)
   clear hm2
   go_wp2_with fail
   go_at_call 60
   refine must_of (s:=[40]) HM2 HR2 HX ?_ ?_
   · rintro n a rfl g w HB HM1
     go_wp2
     exact ⟨rfl,g,rfl,HB.out,HM1.out⟩
   clear HX
   rintro r3-HX w3 HR3 hm3 HM3
   have HC3:=hiD (HC2.out.mods hm3.out hne.out)
   clear hm3
   go_wp2_with fail
   go_at_call 60
   refine must_of (s:=[41]) HM3 HR3 HX ?_ ?_
   · rintro n a rfl g w HB HM1
     go_wp2
     exact ⟨rfl,g,rfl,HB.out,HM1.out⟩
   clear HX
   rintro r4-HX w4 HR4 hm4 HM4
   have hc4:=(HC3.out.mods hm4.out hne.out).cell (i:=2) rfl
   clear hm4
   obtain rfl:=(Option.some.inj HX.out).symm
   go_wp2
   go_ret
   refine ⟨_,rfl,?_,HR4.out.par.mods ((Mods.refl _ _).alloc _),HM4.out.alloc _⟩
   simp only [ExIs,ExAt]
   exact Node.new HR4.out.old _
 clear HX
 rintro-HX
 go_wp2_with fail
 go_at_call 61
 refine name_of HM HR1 HX ?_ ?_
 · rintro n a rfl g w HB HM1
   go_wp2
   exact ⟨rfl,g,rfl,HB.out,HM1.out⟩
 clear HX
 rintro s r2-HX w2 HR2 hm2 HM2
 have hc2:=(HB0.out.mods hm2.out hne.out).cell (i:=2) rfl
 clear hm2
 go_wp2_with fail
 go_at_call 93
 refine see_of (s:=[40]) HR2 HX ?_ ?_
 · clear HX
   rintro-HX
   have HRd:=hiD (HR2.out.quiet (Mods.refl None w2).drew)
   have HMd:=hiD HM2.out.drew
   go_wp2_with fail
   rcases bind_cases HX with ⟨n,a,hy,rfl⟩|⟨v,r,hy,HX2⟩
   · have HC:=hiD (hG b S deep r2 _ _ HD.out HRd.out hy)
     clear hy HX
     go_region_with (first|(go_at_call 128;refine HC.out.mono ?_;rintro e w3 ⟨g3,rfl,hb3,hm3⟩;refine panic_way Tryz.prog w3 ⟨rfl,g3,rfl,hb3,HMd.out.trans hm3⟩ ?_))
     all_goals trivial
   · have HC:=hiD (hG b S deep r2 _ _ HD.out HRd.out hy)
     clear hy HX
     obtain rfl:=(Option.some.inj HX2.out).symm
     go_region_with (first|(go_at_call 128;refine HC.out.mono ?_;rintro e w3 ⟨y3,rfl,⟨vs,hr3,hv3⟩,hp3,hm3⟩;obtain ⟨oa,on,oc,rfl⟩:=RowAt.form hr3;have hc3:=hm3.cellOf hc2 hne.out))
     all_goals
        have HR3:=hiD (HRd.out.next hp3 hm3)
        have HW3:=hiD hr3
        have HV3:=hiD hv3
        have HM3:=hiD (HMd.out.trans hm3)
        clear hp3 hm3 hv3 hr3
        go_wp2
        go_ret
        refine ⟨_,rfl,?_,HR3.out.par.mods ((Mods.refl _ _).alloc _),HM3.out.alloc _⟩
        simp only [ExIs,ExAt]
        exact ⟨_,_,Node.new HR3.out.old _,HW3.out.mods ((Mods.refl _ _).alloc _) (fun _ _ h=>h),ExsAt.modsTo ((Mods.refl _ _).alloc _) (fun _ _ h=>h) _ _ HV3.out⟩
 · clear HX
   rintro-HX
   obtain rfl:=(Option.some.inj HX.out).symm
   go_wp2
   go_ret
   refine ⟨_,rfl,?_,HR2.out.par.mods ((Mods.refl _ _).alloc _),HM2.out.alloc _⟩
   simp only [ExIs,ExAt]
   exact Node.new HR2.out.old _
set_option maxRecDepth 100000 in
set_option maxHeartbeats 1600000 in
theorem first_num {f:Nat} {b:Nat} {S:Nat→Prop} {deep:Nat} {ts:List Tok} {W:World} {x:Except (Int×Int) (Ex×List Tok)} (h:Rd W b S ts) (hx:firstF (f+1) deep ts=some x) (hn:headKind ts=2) :
 Calls Tryz.prog 133 #[.pointer (some ⟨b,0,none⟩),.int .i64 deep] W (Got (·=b) W b (ExIs S) (some x)):=by
 simp only [firstF] at hx
 rw [if_pos hn] at hx
 have HR:=hiD h
 obtain ⟨⟨g,o,c,hp⟩,hL,hg8,hb,_⟩:=h
 obtain ⟨t,rr,hts⟩:=ends_cons hp.ends
 rw [hts] at hp
 obtain ⟨tk,tt,ta⟩:=t
 have e1:headKind ts=tk:=by rw [hts];rfl
 have e2:headText ts=tt:=by rw [hts];rfl
 have e3:headAt ts=ta:=by rw [hts];rfl
 have e4:ts.tail=rr:=by rw [hts];rfl
 rw [e1] at hn
 subst hn
 rw [e2,e3,e4] at hx
 have hl:=hp.cl
 have hk:=hp.ck
 have ht:=hp.ct
 have ha:=hp.ca
 simp only at hk ht ha
 have hcap:=hp.cap
 have hmax:=hp.max
 simp only [List.length_cons] at hcap
 have hnum:=hp.nums _ List.mem_cons_self rfl
 have hsm:=hp.small _ List.mem_cons_self
 simp only at hnum hsm
 have HB0:=hiD (Blk.new W #[.int .i64 2,.string ⟨tt.toArray⟩,.int .i64 ta] 79)
 have hMA:=hiD ((Mods.refl None W).alloc (.cells #[.int .i64 2,.string ⟨tt.toArray⟩,.int .i64 ta] 79))
 have HP:=hiD hp
 have hmore:=hp.more (by simp)
 have hi:=int_digits hnum.1 hnum.2
 by_cases h63:numP tt<9223372036854775808
 · rw [if_pos h63] at hx hi
   obtain rfl:=(Option.some.inj hx).symm
   have hN:0≤(numP tt:Int)∧(numP tt:Int)<9223372036854775808:=by omega
   obtain ⟨n,hn⟩:∃ n:Int,n=(numP tt:Int):=⟨_,rfl⟩
   rw [← hn] at hi hN ⊢
   have HC:=hiD (fun (w:World)=>Tryz.strconv_ParseInt_10_at64_ok ⟨tt.toArray⟩ (by simp only [ByteArray.size,List.size_toArray];omega) n (by simpa using hi) w)
   clear hp hL hg8 hb hts e1 e2 e3 e4 hx hi h63 hnum hsm hn
   go_enter Tryz.func133,Tryz.ntmps133
   go_wp2_with (go_at_call 134;refine (HC.out _).mono ?_;rintro e w1 ⟨rfl,hw⟩;have hM1:Mods None (W.alloc (.cells #[.int .i64 2,.string ⟨tt.toArray⟩,.int .i64 ta] 79)) w1:=(by rcases hw with rfl|⟨t,rfl⟩;exact Mods.refl _ _;exact Mods.of_below (Lib.bytesWorld_below _ _ _));have HMA:=hiD (hMA.out.trans hM1);clear hw;have B:=HB0.out.mods hM1 (fun f=>f);have c1:=B.cell (i:=2) rfl;have hl2:=HMA.out.cellOf hl (fun f=>f);have hf2:=(HP.out.blk.mods HMA.out (fun f=>f)).free 0)
   go_ret
   have HQ:=(HP.out.mods HMA.out (fun f=>f) (fun f=>f)).tail (by simp)
   have hS:Mods (·=b) w1 (w1.setCell ⟨b,0,none⟩ (.slice (some ⟨g,o+3,none⟩) rr.length (c-1))):=Mods.setCell (S:=(·=b)) (p:=⟨b,0,none⟩) (Mods.refl _ _) (fun _=>rfl) _
   have HR2:=(HR.out.quiet HMA.out).next (⟨_,_,_,HQ⟩:Par _ b rr) hS
   refine ⟨_,rfl,?_,HR2.par.mods ((Mods.refl _ _).alloc _),((HMA.out.mono fun _ _ f=>f.elim).trans hS).alloc _⟩
   simp only [ExIs,ExAt]
   have hsz:(w1.setCell ⟨b,0,none⟩ (.slice (some ⟨g,o+3,none⟩) rr.length (c-1))).heap.size=w1.heap.size:=by simp [World.setCell]
   have hnode:=Node.new HR2.old #[.int .i64 1,.int .i64 ta,.int .i64 n,.string ⟨#[]⟩,.string ⟨#[]⟩,.pointer none,.pointer none,.slice none 0 0]
   rw [hsz] at hnode
   exact hnode
 · rw [if_neg h63] at hx hi
   have HX:=hiD hx
   obtain ⟨hgl,te,pe,hge⟩:=hg8
   have HC:=hiD (fun (w:World) (hv:w.cell? ⟨6,0,none⟩=some (.iface te pe))=>Tryz.strconv_ParseInt_10_at64_range ⟨tt.toArray⟩ (by simp only [ByteArray.size,List.size_toArray];omega) (by simpa using hi) _ w hv (Or.inr ⟨te,pe,rfl⟩))
   have HG:=hiD hge
   clear hp hL hb hts e1 e2 e3 e4 hx hi h63 hnum hsm hgl hge
   go_enter Tryz.func133,Tryz.ntmps133
   go_wp2_with (go_at_call 134;refine (HC.out _ (hMA.out.cellOf HG.out (fun f=>f))).mono ?_;rintro e w1 ⟨N,rfl,hN1,hN2,hbel⟩;have hM1:Mods None (W.alloc (.cells #[.int .i64 2,.string ⟨tt.toArray⟩,.int .i64 ta] 79)) w1:=Mods.of_below hbel;have HMA:=hiD (hMA.out.trans hM1);clear hN1 hN2 hbel)
   go_at_call 30
   refine fail_of (hiD (HMA.out.mono (T:=(·=b)) fun _ _ f=>f.elim)) (hiD (HR.out.quiet HMA.out)) HX ?_
   rintro n a rfl g w HB HM1
   go_wp2
   exact ⟨rfl,g,rfl,HB.out,HM1.out⟩
structure AllC (f:Nat):Prop where
 expr:ExprC f
 unary:UnaryC f
 first:FirstC f
 alone:AloneC f
 args:ArgsC f
theorem first_of (f:Nat) (hA:AloneC f) (hG:ArgsC f):FirstC (f+1):=by
 intro b S deep ts W x hd h hx
 by_cases hn:headKind ts=2
 · exact first_num h hx hn
 · exact first_word f hA hG hd h hx hn
theorem expr_of (f:Nat) (hU:UnaryC f) (hE:∀ g,g≤f→ExprC g):ExprC (f+1):=by
 intro b S level deep ts W x hl hd h hx
 by_cases h6:level=6
 · subst h6
   exact six_of hU hd h hx
 · exact low_of hE (by omega) hd h hx
theorem exprs:∀ f,AllC f:=by
 intro f
 induction f using Nat.strongRecOn with
 | ind f ih =>
   cases f with
   | zero=>exact ⟨fun _ _ _ _ _ _ _ _ _ _ h=>by simp [exprF] at h,fun _ _ _ _ _ _ _ _ h=>by simp [unaryF] at h,fun _ _ _ _ _ _ _ _ h=>by simp [firstF] at h,fun _ _ _ _ _ _ _ _ h=>by simp [aloneF] at h,fun _ _ _ _ _ _ _ _ h=>by simp [argsF] at h⟩
   | succ f =>
     have hE:∀ g,g≤f→ExprC g:=fun g hg=>(ih g (by omega)).expr
     have h:=ih f (by omega)
     exact ⟨expr_of f h.unary hE,unary_of f h.unary h.first hE,first_of f h.alone h.args,alone_of f h.expr,args_of f hE⟩
end Go.Proofs.YtnicpmoanjddbaaGreatDoor.TreeP

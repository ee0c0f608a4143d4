/- The fact of mid's laws: a program's steps that end as it does. Conditions: the tables lie. The law MidFuel walked. Conditions: the tables lie. mid's Lower where something is found: no steps are made. Conditions: what Check finds is known. What is found of a program does not hang on the order of its functions. No program in sight. No conditions. Plainly: of which type a value is; what an expression comes to is of its type. No program in sight. No conditions. Maps from names, as they lie. No conditions. A runner as it lies in memory; what it calls at the bottom. Conditions: what it has lies. How a walk through the runner goes on behind a call of one of its parts. Conditions: what it has lies. -/
import Derived.Test.YtnicpmoanjddbaaGreatDoorMs12
import Derived.Test.YtnicpmoanjddbaaGreatDoorMs17
import Derived.Test.YtnicpmoanjddbaaGreatDoorMs06
import Derived.Test.YtnicpmoanjddbaaGreatDoorMs20
import Derived.Test.YtnicpmoanjddbaaGreatDoorMs24
import Derived.Test.YtnicpmoanjddbaaGreatDoorMs22
import Derived.Deep.QuietTactic
import Derived.BigQuiet
import Derived.Deep.DeepCutAuto
import Derived.Deep.RegionHeld3
import Derived.Test.YtnicpmoanjddbaaGreatDoorMs07
import Derived.Test.YtnicpmoanjddbaaGreatDoorMs02
import Derived.Maps.OwnSet
import Derived.Laws.PanicsMore
import Derived.Deep.Cut
namespace Go.Proofs.YtnicpmoanjddbaaGreatDoor.MidP
open Go.RowKit Go.Proofs.YtnicpmoanjddbaaGreatDoor.Wo Go.Maps Go.Proofs.YtnicpmoanjddbaaGreatDoor.TreeP
set_option linter.unusedVariables false
set_option linter.unusedSimpArgs false
set_option maxRecDepth 100000 in
theorem mf_parse (W:World) (hL:TreeP.Laid W):Calls Tryz.prog 13 #[TreeP.str mfS] W fun e w=>∃ a c,e=.returned (.tuple #[.slice a 2 c,.nilIface])∧FsAt w None (.slice a 2 c) mfL∧Mods None W w:=by
 have h:=parse_run mfS 300 900 mfT _ W hL (by decide) mf_lex mf_prog
 refine h.mono ?_
 rintro e w ⟨v,vs,rfl,h1,h2,hm⟩
 obtain ⟨a,c,rfl⟩:=low_form h1.1
 exact ⟨a,c,rfl,fs_of_row h1.1 h2 (fun _ _ f=>f),hm⟩
theorem mf_lower (W:World) (v:Value) (hL:FsAt W None v mfL):Calls Tryz.prog 14 #[v] W (LowerP W mfL):=by
 refine lower_ok mfL v W hL mf_ok (by decide) ?_
 refine (check_any mfL v W hL).mono ?_
 have hr:checkR mfL=.ok true:=mf_check
 rw [hr]
 exact fun e w h=>h
theorem n64_small {a:Int} (h1:-1000≤a) (h2:a≤1000):I64 a:=by unfold I64;omega
def smallSt (s:Stp):Bool:=decide (-1000≤s.code∧s.code≤1000) && decide (-1000≤s.dst∧s.dst≤1000) && decide (-1000≤s.a∧s.a≤1000) && decide (-1000≤s.b∧s.b≤1000) && decide (-1000≤s.c∧s.c≤1000) && decide (-1000≤s.n∧s.n≤1000) && decide (-1000≤s.label∧s.label≤1000) && decide (s.op.length≤1000) && decide (s.name.length≤1000) && s.args.all (fun x=>decide (-1000≤x∧x≤1000))
def smallFm (f:Fm):Bool:=decide (f.name.length≤1000) && decide (-1000≤f.params∧f.params≤1000) && f.types.all (fun x=>decide (-1000≤x∧x≤1000)) && f.steps.all smallSt
theorem stp_of_small {s:Stp} (h:smallSt s=true):StpOk s:=by
 simp only [smallSt,Bool.and_eq_true,decide_eq_true_eq,List.all_eq_true] at h
 obtain ⟨⟨⟨⟨⟨⟨⟨⟨⟨h1,h2⟩,h3⟩,h4⟩,h5⟩,h6⟩,h7⟩,h8⟩,h9⟩,h10⟩:=h
 exact ⟨⟨n64_small h1.1 h1.2,n64_small h2.1 h2.2,n64_small h3.1 h3.2,n64_small h4.1 h4.2,n64_small h5.1 h5.2,n64_small h6.1 h6.2,n64_small h7.1 h7.2⟩,⟨by unfold maxLen;omega,by unfold maxLen;omega⟩,fun x hx=>n64_small (h10 x hx).1 (h10 x hx).2⟩
theorem fm_of_small {f:Fm} (h:smallFm f=true):FmOk f:=by
 simp only [smallFm,Bool.and_eq_true,decide_eq_true_eq,List.all_eq_true] at h
 obtain ⟨⟨⟨h1,h2⟩,h3⟩,h4⟩:=h
 exact ⟨by unfold maxLen;omega,n64_small h2.1 h2.2,fun x hx=>n64_small (h3 x hx).1 (h3 x hx).2,fun s hs=>stp_of_small (h4 s hs)⟩
theorem mf_small:(lowP mfL).all smallFm=true:=by kernel_rfl
theorem mf_fms:∀ f∈lowP mfL,FmOk f:=fun f hf=>fm_of_small (List.all_eq_true.1 mf_small f hf)
theorem mf_run_ex:∃ C:Int,runC (lowP mfL) 200 [] (1000:Int).toNat=some (3,C,[6]):=⟨mfC,by unfold runC;rw [if_pos mf_code];exact mf_run⟩
set_option maxRecDepth 100000 in
set_option maxHeartbeats 1000000 in
theorem lowered_yes (W:World) (hL:TreeP.Laid W) (hFo:FormsAt W) (hOp:OpsAt W) :
 Calls Tryz.prog 7 #[] W fun e w=>e=.returned (.bool true)∧Mods None W w:=by
 have HP:=hiD (mf_parse W hL)
 obtain ⟨C,hC⟩:=mf_run_ex
 have HCC:=hiD hC
 clear hC
 have HFO:=hiD (And.intro hFo hOp)
 clear hL hFo hOp
 go_enter Tryz.func7,Tryz.ntmps7
 go_wp2_with fail
 refine HP.out.mono ?_
 rintro e w1 ⟨a,c,rfl,hfs,hm1⟩
 have HLW:=hiD (mf_lower w1 _ hfs)
 have HM1:=hiD hm1
 clear hfs hm1 HP
 go_wp2_with fail
 refine HLW.out.mono ?_
 rintro e w2 ⟨pb,lv,rfl,hpb,hlv,hm2⟩
 have HM2:=hiD (HM1.out.trans hm2)
 have HAT:=hiD (fun (w:World) (hm:Mods None w2 w)=>(⟨hm.cellOf hpb (fun f=>f),hlv.mods hm (fun _ _ f=>f),(HFO.out.1.mods (HM1.out.trans hm2)).mods hm,(HFO.out.2.mods (HM1.out.trans hm2)).mods hm⟩:w.cell? ⟨pb,0,none⟩=some lv∧FmsAt w None lv (lowP mfL)∧FormsAt w∧OpsAt w))
 have hrc:=fun (w:World) (hm:Mods None w2 w)=>rightc_any (lowP mfL) pb _ w (HAT.out w hm).1 (HAT.out w hm).2.1 (HAT.out w hm).2.2.1 (HAT.out w hm).2.2.2 (fun f hf s hs=>((mf_fms f hf).steps s hs).nums.2.2.2.2.2.2)
 rw [mf_code] at hrc
 have HRC:=hiD hrc
 have HRN:=hiD (fun (w:World) (hm:Mods None w2 w)=>mrun_any mf_fms 200 [] 1000 (3,C,[6]) HCC.out pb lv (.slice none 0 0) w (HAT.out w hm).1 (HAT.out w hm).2.1 (HAT.out w hm).2.2.1 (HAT.out w hm).2.2.2 ⟨none,0,0,rfl,rfl,Nat.le_refl _,by omega,fun i x hx=>by simp at hx⟩ (fun n c e=>by cases e;rfl) (by simp) (by omega) (by omega))
 clear hpb hlv hm2 hrc HLW HM1
 go_wp2_with fail
 go_at_call 10
 refine (HRC.out w2 (Mods.refl _ _)).mono ?_
 rintro e w3 ⟨rfl,hm3⟩
 have HM3:=hiD hm3
 clear hm3
 go_wp2_with fail
 go_at_call 9
 refine (HRN.out w3 HM3.out).mono ?_
 rintro e w4 ⟨u,rfl,hu,hm4⟩
 have HU:=hiD hu
 obtain ⟨xa,xn,xc,rfl,hxn,hxc1,hxc2,hxi,-⟩:=hu.form
 simp only at hxi hxn ⊢
 obtain rfl:xn=1:=hxn
 have HM4:=hiD ((HM2.out.trans HM3.out).trans hm4)
 have HXI:=hiD hxi
 clear hu hm4 hxi
 go_wp2_with fail
 have hm5:Mods None w4 ((w4.alloc (.cells #[.int .i64 3,.int .i64 C,.slice xa 1 xc] 31)).alloc (.cells #[.int .i64 6] 2)):=((Mods.refl _ _).alloc _).alloc _
 have hb5:Blk ((w4.alloc (.cells #[.int .i64 3,.int .i64 C,.slice xa 1 xc] 31)).alloc (.cells #[.int .i64 6] 2)) (w4.heap.size+1) [.int .i64 6] 2:=by
  have:=Blk.new (w4.alloc (.cells #[.int .i64 3,.int .i64 C,.slice xa 1 xc] 31)) #[.int .i64 6] 2
  simpa using this
 have hin:InAt ((w4.alloc (.cells #[.int .i64 3,.int .i64 C,.slice xa 1 xc] 31)).alloc (.cells #[.int .i64 6] 2)) None (.slice (some ⟨w4.heap.size+1,0,none⟩) 1 1) [6]:=by
  refine ⟨_,1,1,rfl,rfl,Nat.le_refl _,(by unfold maxLen;omega),fun i x hx=>?_⟩
  cases i with
  | zero =>
    obtain rfl:6=x:=by simpa using hx
    exact ⟨_,0,rfl,fun f=>f,hb5.cell (i:=0) rfl⟩
  | succ i=>simp at hx
 refine (equal_any _ _ [6] [6] _ (HXI.out.mods hm5 (fun _ _ f=>f)) hin).mono ?_
 rintro e w6 ⟨rfl,hm6⟩
 have HM6:=hiD (HM4.out.trans (hm5.trans hm6))
 clear hm5 hb5 hin hm6
 rw [beq_self_eq_true]
 go_wp2_with fail
 go_ret
 exact ⟨rfl,HM6.out⟩
set_option maxRecDepth 100000 in
set_option maxHeartbeats 1000000 in
theorem lower_no {R:Nat→World→Prop} (a:Option Addr) (n c:Nat) (W:World) (hC:Calls Tryz.prog 15 #[.slice a n c] W fun e w=>∃ g,e=.returned (.iface 134 (.pointer (some ⟨g,0,none⟩)))∧R g w) :
 Calls Tryz.prog 14 #[.slice a n c] W fun e w=>∃ g,e=.returned (.tuple #[.pointer none,(.iface 134 (.pointer (some ⟨g,0,none⟩)))])∧R g w:=by
 obtain ⟨Q,hQ⟩:∃ Q:Ending→World→Prop,Q=fun e w=>∃ g,e=.returned (.tuple #[.pointer none,(.iface 134 (.pointer (some ⟨g,0,none⟩)))])∧R g w:=⟨_,rfl⟩
 rw [← hQ]
 have HQ:=hiD hQ
 clear hQ
 go_enter Tryz.func14,Tryz.ntmps14
 go_wp2_with fail
 refine hC.mono ?_
 rintro e w1 ⟨g,rfl,hr⟩
 go_wp2_with fail
 rw [HQ.out]
 exact ⟨g,rfl,hr⟩
set_option maxRecDepth 100000 in
set_option maxHeartbeats 1000000 in
theorem lower_none {R:Unit→World→Prop} (a:Option Addr) (n c:Nat) (W:World) (hC:Calls Tryz.prog 15 #[.slice a n c] W fun e w=>∃ g:Unit,e=.returned (.iface 44 (.int .i64 8))∧R g w) :
 Calls Tryz.prog 14 #[.slice a n c] W fun e w=>∃ g:Unit,e=.returned (.tuple #[.pointer none,(.iface 44 (.int .i64 8))])∧R g w:=by
 obtain ⟨Q,hQ⟩:∃ Q:Ending→World→Prop,Q=fun e w=>∃ g:Unit,e=.returned (.tuple #[.pointer none,(.iface 44 (.int .i64 8))])∧R g w:=⟨_,rfl⟩
 rw [← hQ]
 have HQ:=hiD hQ
 clear hQ
 go_enter Tryz.func14,Tryz.ntmps14
 go_wp2_with fail
 refine hC.mono ?_
 rintro e w1 ⟨g,rfl,hr⟩
 go_wp2_with fail
 rw [HQ.out]
 exact ⟨g,rfl,hr⟩
end Go.Proofs.YtnicpmoanjddbaaGreatDoor.MidP
namespace Go.Proofs.YtnicpmoanjddbaaGreatDoor.TreeP
set_option linter.unusedVariables false
set_option linter.unusedSimpArgs false
theorem bind_ok_iff {β:Type} {x:CK Unit} {f:Unit→CK β} {y:β}:bindK x f=.ok y↔x=.ok ()∧f ()=.ok y:=by
 cases x with
 | error e=>simp [bindK]
 | ok u=>simp [bindK]
def Apart (L:List Fn):Prop:=L.Pairwise (fun a b=>a.name≠b.name)
theorem twiceK_iff:(A L:List Fn)→(twiceK A L=.ok ()↔(∀ x∈L,∀ g∈A,g.name≠x.name)∧Apart L)
 | A,[]=>by simp [twiceK,Apart]
 | A,f::r=>by
   simp only [twiceK]
   split
   · rename_i h
     simp only [List.any_eq_true,beq_iff_eq] at h
     obtain ⟨g,hg,he⟩:=h
     constructor
     · intro h;cases h
     · rintro ⟨h,_⟩
       exact absurd he (h f List.mem_cons_self g hg)
   · rename_i h
     simp only [List.any_eq_true,beq_iff_eq,not_exists,not_and] at h
     rw [twiceK_iff (A++[f]) r]
     unfold Apart
     rw [List.pairwise_cons]
     constructor
     · rintro ⟨h1,h2⟩
       refine ⟨fun x hx g hg=>?_,fun x hx=>h1 x hx f (by simp),h2⟩
       rcases List.mem_cons.1 hx with rfl|hx
       · exact h g hg
       · exact h1 x hx g (by simp [hg])
     · rintro ⟨h1,h2,h3⟩
       refine ⟨fun x hx g hg=>?_,h3⟩
       rcases List.mem_append.1 hg with hg|hg
       · exact h1 x (List.mem_cons_of_mem _ hx) g hg
       · rw [List.mem_singleton] at hg
         subst hg
         exact h2 x hx
theorem fnsK_iff (M:List Fn):(L:List Fn)→(fnsK M L=.ok ()↔∀ f∈L,fnK M f=.ok ())
 | []=>by simp [fnsK]
 | f::r=>by
   simp only [fnsK]
   rw [bind_ok_iff,fnsK_iff M r]
   simp
theorem fnOf_mem {L:List Fn} (h:Apart L) (s:List UInt8) (f:Fn):fnOf L s=some f↔f∈L∧f.name=s:=by
 unfold fnOf
 constructor
 · intro hf
   exact ⟨List.mem_of_find?_eq_some hf,by have:=List.find?_some hf;simpa using this⟩
 · rintro ⟨hm,rfl⟩
   induction L with
   | nil=>simp at hm
   | cons a r ih =>
     unfold Apart at h
     rw [List.pairwise_cons] at h
     rw [List.find?_cons]
     rcases List.mem_cons.1 hm with rfl|hm
     · simp
     · have:(a.name==f.name)=false:=by simpa using h.1 f hm
       rw [this]
       exact ih h.2 hm
def checkOk (L:List Fn):Prop:=Apart L∧(∀ f∈L,fnK L f=.ok ())∧L.any mainB=true
theorem checkOk_iff (L:List Fn):bindK (twiceK [] L) (fun _=>bindK (fnsK L L) fun _=>.ok (L.any mainB))=.ok true↔checkOk L:=by
 rw [bind_ok_iff,bind_ok_iff,twiceK_iff,fnsK_iff]
 unfold checkOk
 constructor
 · rintro ⟨h1,h2,h3⟩
   exact ⟨h1.2,h2,Except.ok.inj h3⟩
 · rintro ⟨h1,h2,h3⟩
   exact ⟨⟨fun _ _ _ h=>(nomatch h),h1⟩,h2,by rw [h3]⟩
end Go.Proofs.YtnicpmoanjddbaaGreatDoor.TreeP
namespace Go.Proofs.YtnicpmoanjddbaaGreatDoor.TreeP
open Go.RowKit
set_option linter.unusedVariables false
set_option linter.unusedSimpArgs false
end Go.Proofs.YtnicpmoanjddbaaGreatDoor.TreeP
namespace Go.Proofs.YtnicpmoanjddbaaGreatDoor.TreeP
open Go.RowKit Go.Proofs.YtnicpmoanjddbaaGreatDoor.Wo Go.Maps
set_option linter.unusedVariables false
set_option linter.unusedSimpArgs false
def heldR (v:Value):Option (DataW Value×List MemPlace):=some (.held v,[])
def getL (z:Value):List (List UInt8×Value)→List UInt8→Value
 | [],_=>z
 | p::r,s=>if p.1==s then p.2 else getL z r s
def putL:List (List UInt8×Value)→List UInt8→Value→List (List UInt8×Value)
 | [],s,v=>[(s,v)]
 | p::r,s,v=>if p.1==s then (s,v)::r else p::putL r s v
theorem getL_put (z:Value):(F:List (List UInt8×Value))→(s:List UInt8)→(v:Value)→(x:List UInt8)→getL z (putL F s v) x=if x=s then v else getL z F x
 | [],s,v,x=>by
   simp only [putL,getL,beq_iff_eq]
   by_cases h:x=s
   · subst h;simp
   · rw [if_neg h,if_neg (fun e=>h e.symm)]
 | p::r,s,v,x=>by
   simp only [putL]
   by_cases hp:p.1=s
   · rw [if_pos (by simpa using hp)]
     simp only [getL,beq_iff_eq]
     by_cases h:x=s
     · subst h;simp
     · rw [if_neg h,if_neg (fun e=>h e.symm),if_neg (fun e=>h (e.symm.trans hp))]
   · rw [if_neg (by simpa using hp)]
     simp only [getL,beq_iff_eq]
     by_cases h:p.1=x
     · rw [if_pos h,if_pos h,if_neg]
       rintro rfl
       exact hp h
     · rw [if_neg h,if_neg h,getL_put z r s v x]
def NameMap (W:World) (bm n:Nat) (z:Value) (F:List (List UInt8×Value)):Prop :=
 ∃ D:DataW Value,W.ownsMap Tryz.prog 9 heldR bm n D∧∀ s:List UInt8,D.atKey (.string s) (.held z)=.held (getL z F s)
theorem NameMap.mods {S:Nat→Prop} {W W':World} {bm n:Nat} {z:Value} {F:List (List UInt8×Value)} (h:NameMap W bm n z F) (hm:Mods S W W') (hn:¬ S bm):NameMap W' bm n z F:=by
 obtain ⟨D,⟨es,cl,h1,h2⟩,h3⟩:=h
 exact ⟨D,⟨es,cl,hm.blockOf h1 hn,h2⟩,h3⟩
theorem NameMap.lt {W:World} {bm n:Nat} {z:Value} {F:List (List UInt8×Value)} (h:NameMap W bm n z F):bm<W.heap.size:=by
 obtain ⟨D,h1,_⟩:=h
 exact h1.lt
theorem NameMap.new (W:World) (z:Value):NameMap (W.alloc (.map #[] 0)) W.heap.size 0 z [] :=
 ⟨_,World.ownsMap_made _ _ _ _,fun s=>rfl⟩
theorem NameMap.look {W:World} {bm n:Nat} {z:Value} {F:List (List UInt8×Value)} (h:NameMap W bm n z F) {t e:TypeId} (ht:Tryz.prog.underlying t=some (.map 9 e)) (hz:(zeroValue e).run Tryz.prog W=.ok z W) (s:List UInt8) (hs:s.length≤10000000) :
 (Instr.lookup t (.map (some bm)) (str s) false).run Tryz.prog W=.ok (getL z F s) W:=by
 obtain ⟨D,h1,h2⟩:=h
 obtain ⟨v,ps,hr,hv⟩:=h1.lookup strKeys ht hz (zd:=.held z) (zp:=[]) rfl (keyStr hs)
 rw [h2 s] at hv
 simp only [heldR,Option.some.injEq,Prod.mk.injEq,DataW.held.injEq] at hv
 rw [hr,hv.1]
theorem NameMap.put {W:World} {bm n:Nat} {z:Value} {F:List (List UInt8×Value)} (h:NameMap W bm n z F) {t e:TypeId} (ht:Tryz.prog.underlying t=some (.map 9 e)) (s:List UInt8) (hs:s.length≤10000000) (v:Value) (hn:n<maxLen) :
 ∃ w',(Instr.mapUpdate t (.map (some bm)) (str s) v).run Tryz.prog W=.ok () w'∧NameMap w' bm (n+1) z (putL F s v)∧Mods (·=bm) W w':=by
 obtain ⟨D,h1,h2⟩:=h
 obtain ⟨w',hr,ho,hg⟩:=h1.update strKeys ht hn (keyStr hs) (d:=.held v) (ps:=[]) rfl
 refine ⟨w',hr,⟨_,ho,fun x=>?_⟩,Mods.of_grownBy hg (fun k hk _=>by cases hk;rfl)⟩
 rw [getL_put]
 by_cases hx:x=s
 · subst hx
   rw [if_pos rfl,atKey_put_same (k:=.string x) h1.isMap (by trivial)]
 · rw [if_neg hx,atKey_put_other (by simpa using hx),h2 x]
end Go.Proofs.YtnicpmoanjddbaaGreatDoor.TreeP
namespace Go.Proofs.YtnicpmoanjddbaaGreatDoor.TreeP
open Go.RowKit Go.Proofs.YtnicpmoanjddbaaGreatDoor.Wo
set_option linter.unusedVariables false
set_option linter.unusedSimpArgs false
def zeroVal:Value:=.agg #[.int .i64 0,.slice none 0 0]
def zeroFn:Value:=.agg #[.string ⟨#[]⟩,.int .i64 0,.slice none 0 0,.slice none 0 0]
def VAt (A:List (Nat×Nat)) (x:V) (v:Value):Prop :=
 (x.arr=none∧v=.agg #[.int .i64 x.n,.slice none 0 0])∨∃ i g n,x.arr=some i∧A[i]?=some (g,n)∧v=.agg #[.int .i64 x.n,.slice (some ⟨g,0,none⟩) n n]
theorem VAt.more {A A':List (Nat×Nat)} {x:V} {v:Value} (h:VAt A x v) (hA:A <+: A'):VAt A' x v:=by
 rcases h with h|⟨i,g,n,h1,h2,h3⟩
 · exact Or.inl h
 · refine Or.inr ⟨i,g,n,h1,?_,h3⟩
   obtain ⟨t,rfl⟩:=hA
   rw [List.getElem?_append_left (List.getElem?_eq_some_iff.1 h2).1]
   exact h2
def InAt (W:World) (M:Nat→Prop) (v:Value) (l:List Int):Prop :=
 ∃ a n c,v=.slice a n c∧n=l.length∧n≤c∧c≤maxLen∧(∀ i x,l[i]?=some x→∃ g o,a=some ⟨g,o,none⟩∧¬ M g∧W.cell? ⟨g,o+i,none⟩=some (.int .i64 x))
theorem InAt.mods {W W':World} {S T:Nat→Prop} {v:Value} {l:List Int} (h:InAt W S v l) (hm:Mods S W W') (hT:∀ k,k<W.heap.size→T k→S k):InAt W' T v l:=by
 obtain ⟨a,n,c,h1,h2,h3,h4,h5⟩:=h
 refine ⟨a,n,c,h1,h2,h3,h4,fun i x hx=>?_⟩
 obtain ⟨g,o,e1,e2,e3⟩:=h5 i x hx
 exact ⟨g,o,e1,fun ht=>e2 (hT g (World.block_lt_of_cell? W _ e3) ht),hm.cellOf e3 e2⟩
def FnV (W:World) (M:Nat→Prop) (x:Fn) (v:Value):Prop :=
 ∃ p q vq,v=.agg #[str x.name,.int .i64 x.at_,p,q]∧RowAt W M 91 2 p x.params.length (pcells x.params)∧RowAt W M 143 7 q x.body.length vq∧StsAt W M x.body vq
theorem FnV.mods {W W':World} {S T:Nat→Prop} {x:Fn} {v:Value} (h:FnV W S x v) (hm:Mods S W W') (hT:∀ k,k<W.heap.size→T k→S k):FnV W' T x v:=by
 obtain ⟨p,q,vq,h1,h2,h3,h4⟩:=h
 exact ⟨p,q,vq,h1,h2.mods hm hT,h3.mods hm hT,StsAt.modsTo hm hT _ _ h4⟩
structure RAt (W:World) (b mb:Nat) (L:List Fn) (P M:Nat→Prop) (A:List (Nat×Nat)) (s:RS):Prop where
 blk:∃ iv ov,Blk W b [.map (some mb),iv,.int .i64 s.fuel,.int .i64 s.calls,ov] 111∧InAt W (fun k=>¬ P k) iv s.inp∧W.ownsRow 0 2 1 ov s.out.length (s.out.map (.int .i64))∧(∀ k,ov.ownBlock=some k→M k∧k≠b∧∀ g n,(g,n)∈A→g≠k)
 has:M b
 fns:P mb∧∃ n F,NameMap W mb n zeroFn F∧∀ f x,fnOf L f=some x→FnV W (fun k=>¬ P k) x (getL zeroFn F f)
 arrs:A.length=s.arrs.length
 arr:∀ (i:Nat) (l:List Int),s.arrs[i]?=some l→∃ g,A[i]?=some (g,l.length)∧Blk W g (l.map (.int .i64)) 2∧l.length≤40
 mine:∀ g n,(g,n)∈A→M g∧g≠b
 apart:A.Pairwise (fun x y=>x.1≠y.1)
 old:∀ k,M k→k<W.heap.size
 off:∀ k,M k→¬ P k
 given:∀ k,P k→k<W.heap.size
 few:s.out.length≤200
 calls:s.calls≤40
 fuel:s.fuel≤4000000000000000000
structure Ext (T M M':Nat→Prop) (W W':World):Prop where
 mods:Mods (fun k=>T k∨M k) W W'
 back:∀ k,k<W.heap.size→M' k→M k
theorem Ext.refl (T M:Nat→Prop) (W:World):Ext T M M W W:=⟨Mods.refl _ _,fun _ _ h=>h⟩
theorem Ext.trans {T M M' M'':Nat→Prop} {W W' W'':World} (h:Ext T M M' W W') (k:Ext T M' M'' W' W''):Ext T M M'' W W'' :=
 ⟨h.mods.trans' k.mods (fun i hi hl=>hi.imp id (h.back i hl)),fun i hi hm=>h.back i hi (k.back i (Nat.lt_of_lt_of_le hi h.mods.size) hm)⟩
theorem Ext.more {T T' M M':Nat→Prop} {W W':World} (h:Ext T M M' W W') (hT:∀ k,k<W.heap.size→T k→T' k):Ext T' M M' W W':=⟨h.mods.mono (fun k hk ht=>ht.imp (hT k hk) id),h.back⟩
theorem Ext.aside {T S M:Nat→Prop} {W W':World} (hm:Mods S W W') (hS:∀ k,k<W.heap.size→S k→T k):Ext T M M W W':=⟨hm.mono fun k hk hs=>Or.inl (hS k hk hs),fun _ _ h=>h⟩
theorem Ext.quiet {T M:Nat→Prop} {W W':World} (h:Mods None W W'):Ext T M M W W':=Ext.aside h (fun _ _ f=>f.elim)
theorem RAt.aside {W W':World} {b mb:Nat} {L:List Fn} {P M S:Nat→Prop} {A:List (Nat×Nat)} {s:RS} (h:RAt W b mb L P M A s) (hm:Mods S W W') (hS:∀ k,S k→¬ M k∧¬ P k):RAt W' b mb L P M A s:=by
 have hmP:Mods (fun k=>¬ P k) W W':=hm.mono fun k _ f=>(hS k f).2
 obtain ⟨⟨iv,ov,h1,h2,h3,h4⟩,h5,⟨h7,n,F,h6,h8⟩,h9,h10,h11,h12,h13,h17,h18,h14,h15,h16⟩:=h
 exact ⟨⟨iv,ov,h1.mods hm (fun f=>(hS _ f).1 h5),h2.mods hmP (fun _ _ k=>k),hm.ownsRow h3 (fun k hk f=>(hS _ f).1 (h4 k hk).1),h4⟩,h5,⟨h7,n,F,h6.mods hm (fun f=>(hS _ f).2 h7),fun f x hx=>(h8 f x hx).mods hmP (fun _ _ k=>k)⟩,h9,
  fun i l hl=>by obtain ⟨g,e1,e2,e3⟩:=h10 i l hl;exact ⟨g,e1,e2.mods hm (fun f=>(hS _ f).1 (h11 g _ (List.mem_of_getElem? e1)).1),e3⟩,h11,h12,fun k hk=>Nat.lt_of_lt_of_le (h13 k hk) hm.size,h17,fun k hk=>Nat.lt_of_lt_of_le (h18 k hk) hm.size,h14,h15,h16⟩
theorem RAt.quiet {W W':World} {b mb:Nat} {L:List Fn} {P M:Nat→Prop} {A:List (Nat×Nat)} {s:RS} (h:RAt W b mb L P M A s) (hm:Mods None W W'):RAt W' b mb L P M A s:=h.aside hm (fun _ f=>f.elim)
def endedV (w:Int):Value:=.iface 113 (.agg #[.int .i64 w])
def returnedV (n:Int):Value:=.iface 166 (.agg #[.int .i64 n])
def sigV:Sig→Value
 | .stop w=>endedV w
 | .ret n=>returnedV n
def Old:Type:={ l:List PanicEntry // ∀ x∈l,x.goexit=false }
def Old.nil:Old:=⟨[],fun _ h=>(by cases h)⟩
def Pan (g:Sig) (e:Ending):Prop:=∃ older:Old,e=.panicked ({ v:=sigV g,recovered:=false }::older.1)
set_option maxRecDepth 100000 in
theorem stop_any (n:Int) (W:World):Calls Tryz.prog 73 #[.int .i64 n] W fun e w=>Pan (.stop n) e∧W=w:=by
 go_enter Tryz.func73,Tryz.ntmps73
 go_wp2
 exact ⟨rfl,⟨Old.nil,rfl⟩,rfl⟩
theorem one_any (c:Bool) (W:World):Calls Tryz.prog 131 #[.bool c] W fun e w=>e=.returned (.int .i64 (oneB c))∧W=w:=by
 cases c
 all_goals
  go_enter Tryz.func131,Tryz.ntmps131
  go_wp2
  go_ret
  exact ⟨rfl,rfl⟩
def TwoTo (r:Option Int) (W:World) (e:Ending) (w:World):Prop:=(match r with
 | some n=>e=.returned (.int .i64 n)
 | none=>Pan (.stop 2) e)∧W=w
set_option maxRecDepth 100000 in
set_option maxHeartbeats 1000000 in
theorem two_any (op:List UInt8) (a b:Int) (W:World):Calls Tryz.prog 132 #[str op,.int .i64 a,.int .i64 b] W (TwoTo (twoP op a b) W):=by
 unfold str
 by_cases h:op=[43]
 · subst h
   have ht:twoP [43] a b=some (wrap64 (a+b)):=by unfold twoP;rfl
   rw [ht]
   clear ht
   unfold TwoTo
   go_enter Tryz.func132,Tryz.ntmps132
   go_wp2
   go_ret
   exact ⟨rfl,rfl⟩
 have n43:(op==[43])=false:=by simpa using h
 clear h
 by_cases h:op=[45]
 · subst h
   have ht:twoP [45] a b=some (wrap64 (a-b)):=by unfold twoP;rfl
   rw [ht]
   clear ht
   unfold TwoTo
   go_enter Tryz.func132,Tryz.ntmps132
   go_wp2
   go_ret
   exact ⟨rfl,rfl⟩
 have n45:(op==[45])=false:=by simpa using h
 clear h
 by_cases h:op=[42]
 · subst h
   have ht:twoP [42] a b=some (wrap64 (a*b)):=by unfold twoP;rfl
   rw [ht]
   clear ht
   unfold TwoTo
   go_enter Tryz.func132,Tryz.ntmps132
   go_wp2
   go_ret
   exact ⟨rfl,rfl⟩
 have n42:(op==[42])=false:=by simpa using h
 clear h
 by_cases h:op=[47]
 · subst h
   by_cases hb:b=0
   · subst hb
     have ht:twoP [47] a 0=none:=by unfold twoP;rfl
     rw [ht]
     clear ht
     unfold TwoTo
     go_enter Tryz.func132,Tryz.ntmps132
     go_wp2_with fail
     go_at_call 73
     refine (stop_any 2 _).mono ?_
     rintro e w ⟨⟨older,rfl⟩,rfl⟩
     go_wp2
     exact ⟨rfl,⟨older,rfl⟩,rfl⟩
   · have hb0:(b==0)=false:=by simpa using hb
     have ht:twoP [47] a b=some (wrap64 (a.tdiv b)):=by unfold twoP;rw [if_neg (by decide),if_neg (by decide),if_neg (by decide),if_pos (by decide),if_neg hb];rfl
     rw [ht]
     clear ht
     unfold TwoTo
     go_enter Tryz.func132,Tryz.ntmps132
     go_wp2
     go_ret
     exact ⟨rfl,rfl⟩
 have n47:(op==[47])=false:=by simpa using h
 clear h
 by_cases h:op=[37]
 · subst h
   by_cases hb:b=0
   · subst hb
     have ht:twoP [37] a 0=none:=by unfold twoP;rfl
     rw [ht]
     clear ht
     unfold TwoTo
     go_enter Tryz.func132,Tryz.ntmps132
     go_wp2_with fail
     go_at_call 73
     refine (stop_any 2 _).mono ?_
     rintro e w ⟨⟨older,rfl⟩,rfl⟩
     go_wp2
     exact ⟨rfl,⟨older,rfl⟩,rfl⟩
   · have hb0:(b==0)=false:=by simpa using hb
     have ht:twoP [37] a b=some (a.tmod b):=by unfold twoP;rw [if_neg (by decide),if_neg (by decide),if_neg (by decide),if_pos (by decide),if_neg hb];rfl
     rw [ht]
     clear ht
     unfold TwoTo
     go_enter Tryz.func132,Tryz.ntmps132
     go_wp2
     go_ret
     exact ⟨rfl,rfl⟩
 have n37:(op==[37])=false:=by simpa using h
 clear h
 by_cases h:op=[61,61]
 · subst h
   have ht:twoP [61,61] a b=some (oneB (a==b)):=by unfold twoP;rfl
   rw [ht]
   clear ht
   rcases hx:(a==b) with _|_
   all_goals
    unfold TwoTo
    go_enter Tryz.func132,Tryz.ntmps132
    go_wp2
    go_ret
    exact ⟨rfl,rfl⟩
 have n61_61:(op==[61,61])=false:=by simpa using h
 clear h
 by_cases h:op=[33,61]
 · subst h
   have ht:twoP [33,61] a b=some (oneB (a != b)):=by unfold twoP;rfl
   rw [ht]
   clear ht
   rcases hx:(a != b) with _|_
   all_goals
    unfold TwoTo
    go_enter Tryz.func132,Tryz.ntmps132
    go_wp2
    go_ret
    exact ⟨rfl,rfl⟩
 have n33_61:(op==[33,61])=false:=by simpa using h
 clear h
 by_cases h:op=[60]
 · subst h
   have ht:twoP [60] a b=some (oneB (decide (a<b))):=by unfold twoP;rfl
   rw [ht]
   clear ht
   rcases hx:(decide (a<b)) with _|_
   all_goals
    unfold TwoTo
    go_enter Tryz.func132,Tryz.ntmps132
    go_wp2
    go_ret
    exact ⟨rfl,rfl⟩
 have n60:(op==[60])=false:=by simpa using h
 clear h
 by_cases h:op=[60,61]
 · subst h
   have ht:twoP [60,61] a b=some (oneB (decide (a≤b))):=by unfold twoP;rfl
   rw [ht]
   clear ht
   rcases hx:(decide (a≤b)) with _|_
   all_goals
    unfold TwoTo
    go_enter Tryz.func132,Tryz.ntmps132
    go_wp2
    go_ret
    exact ⟨rfl,rfl⟩
 have n60_61:(op==[60,61])=false:=by simpa using h
 clear h
 by_cases h:op=[62]
 · subst h
   have ht:twoP [62] a b=some (oneB (decide (a > b))):=by unfold twoP;rfl
   rw [ht]
   clear ht
   rcases hx:(decide (a > b)) with _|_
   all_goals
    unfold TwoTo
    go_enter Tryz.func132,Tryz.ntmps132
    go_wp2
    go_ret
    exact ⟨rfl,rfl⟩
 have n62:(op==[62])=false:=by simpa using h
 clear h
 have ht:twoP op a b=some (oneB (decide (a≥b))):=by
  simp only [beq_eq_false_iff_ne,ne_eq] at *
  unfold twoP
  rw [if_neg n43,if_neg n45,if_neg n42,if_neg (by simp [n47,n37]),if_neg n61_61,if_neg n33_61,if_neg n60,if_neg n60_61,if_neg n62]
 rw [ht]
 clear ht
 rcases hx:(decide (a≥b)) with _|_
 all_goals
  unfold TwoTo
  go_enter Tryz.func132,Tryz.ntmps132
  go_wp2
  go_ret
  exact ⟨rfl,rfl⟩
theorem RAt.own {W W':World} {b mb:Nat} {L:List Fn} {P M:Nat→Prop} {A:List (Nat×Nat)} {s s':RS} (h:RAt W b mb L P M A s) (hm:Mods (·=b) W W') (ho:s'.out=s.out) (ha:s'.arrs=s.arrs) (hc:s'.calls≤40) (hf:s'.fuel≤4000000000000000000)
 (hb:∀ iv ov,Blk W b [.map (some mb),iv,.int .i64 s.fuel,.int .i64 s.calls,ov] 111→InAt W (fun k=>¬ P k) iv s.inp→∃ iv',Blk W' b [.map (some mb),iv',.int .i64 s'.fuel,.int .i64 s'.calls,ov] 111∧InAt W (fun k=>¬ P k) iv' s'.inp):RAt W' b mb L P M A s':=by
 obtain ⟨⟨iv,ov,h1,h2,h3,h4⟩,h5,⟨h7,n,F,h6,h8⟩,h9,h10,h11,h12,h13,h17,h18,h14,h15,h16⟩:=h
 have hmP:Mods (fun k=>¬ P k) W W':=hm.mono fun k _ hk=>by rw [hk];exact h17 b h5
 obtain ⟨iv',k1,k2⟩:=hb iv ov h1 h2
 refine ⟨⟨iv',ov,k1,k2.mods hmP (fun _ _ k=>k),?_,h4⟩,h5,⟨h7,n,F,h6.mods hm (fun e=>h17 b h5 (e ▸ h7)),fun f x hx=>(h8 f x hx).mods hmP (fun _ _ k=>k)⟩,by rw [ha];exact h9,?_,h11,h12,fun k hk=>Nat.lt_of_lt_of_le (h13 k hk) hm.size,h17,fun k hk=>Nat.lt_of_lt_of_le (h18 k hk) hm.size,by rw [ho];exact h14,hc,hf⟩
 · rw [ho]
   exact hm.ownsRow h3 (fun k hk=>(h4 k hk).2.1)
 · intro i l hl
   rw [ha] at hl
   obtain ⟨g,e1,e2,e3⟩:=h10 i l hl
   exact ⟨g,e1,e2.mods hm (fun e=>(h11 g _ (List.mem_of_getElem? e1)).2 e),e3⟩
theorem RAt.setFuel {W:World} {b mb:Nat} {L:List Fn} {P M:Nat→Prop} {A:List (Nat×Nat)} {s:RS} (h:RAt W b mb L P M A s) (k:Nat) (hk:k≤4000000000000000000):RAt (W.setCell ⟨b,2,none⟩ (.int .i64 k)) b mb L P M A { s with fuel:=k } :=
 h.own (mods_put _ _ _ _) rfl rfl h.calls hk (fun iv ov h1 h2=>⟨iv,h1.set 2 _,h2⟩)
theorem RAt.setCalls {W:World} {b mb:Nat} {L:List Fn} {P M:Nat→Prop} {A:List (Nat×Nat)} {s:RS} (h:RAt W b mb L P M A s) (k:Nat) (hk:k≤40):RAt (W.setCell ⟨b,3,none⟩ (.int .i64 k)) b mb L P M A { s with calls:=k } :=
 h.own (mods_put _ _ _ _) rfl rfl hk h.fuel (fun iv ov h1 h2=>⟨iv,h1.set 3 _,h2⟩)
theorem RAt.ext {W:World} {b mb:Nat} {L:List Fn} {P M:Nat→Prop} {A:List (Nat×Nat)} {s:RS} (h:RAt W b mb L P M A s) (T:Nat→Prop) (i:Nat) (v:Value):Ext T M M W (W.setCell ⟨b,i,none⟩ v) :=
 ⟨(mods_put _ _ _ _).mono (fun k _ hk=>Or.inr (by rw [hk];exact h.has)),fun _ _ k=>k⟩
def Ran {α:Type} (W:World) (b mb:Nat) (L:List Fn) (P T M:Nat→Prop) (A:List (Nat×Nat)) (ok:α→(Nat→Prop)→List (Nat×Nat)→Ending→World→Prop):Except Sig α×RS→Ending→World→Prop
 | (.error g,s)=>fun e w=>Pan g e∧∃ M' A',RAt w b mb L P M' A' s∧Ext T M M' W w∧A <+: A'
 | (.ok x,s)=>fun e w=>∃ M' A',ok x M' A' e w∧RAt w b mb L P M' A' s∧Ext T M M' W w∧A <+: A'
def retT:Unit→(Nat→Prop)→List (Nat×Nat)→Ending→World→Prop:=fun _ _ _ e _=>e=.returned (.tuple #[])
def retN:Int→(Nat→Prop)→List (Nat×Nat)→Ending→World→Prop:=fun n _ _ e _=>e=.returned (.int .i64 n)
def retV:V→(Nat→Prop)→List (Nat×Nat)→Ending→World→Prop:=fun x _ A e _=>∃ v,e=.returned v∧VAt A x v
set_option maxRecDepth 100000 in
theorem step_any (T:Nat→Prop) (b mb:Nat) (L:List Fn) (P M:Nat→Prop) (A:List (Nat×Nat)) (s:RS) (W:World) (r:Except Sig Unit×RS) (h:RAt W b mb L P M A s) (hr:stepR s=some r) :
 Calls Tryz.prog 119 #[.pointer (some ⟨b,0,none⟩)] W (Ran W b mb L P T M A retT r):=by
 obtain ⟨iv,ov,hb,_⟩:=h.blk
 have c2:W.cell? ⟨b,2,none⟩=some (.int .i64 s.fuel):=hb.cell rfl
 have f2:W.frozen? ⟨b,2,none⟩=false:=hb.free 2
 have H:=hiD h
 unfold stepR at hr
 by_cases h0:s.fuel=0
 · rw [if_pos h0] at hr
   obtain rfl:=(Option.some.inj hr).symm
   rw [h0] at c2
   clear h hb hr
   unfold Ran
   go_enter Tryz.func119,Tryz.ntmps119
   go_wp2_with fail
   go_at_call 73
   refine (stop_any 6 _).mono ?_
   rintro e w ⟨⟨older,rfl⟩,rfl⟩
   go_wp2
   exact ⟨rfl,⟨older,rfl⟩,M,A,H.out,Ext.refl _ _ _,List.prefix_refl _⟩
 · rw [if_neg h0] at hr
   obtain rfl:=(Option.some.inj hr).symm
   have hf:=h.fuel
   have h0i:((s.fuel:Int)==0)=false:=by simp;omega
   have hcast:Hid ((s.fuel:Int)-1=((s.fuel-1:Nat):Int)):=hiD (by omega)
   have hs1:¬ ((s.fuel:Int)-1 < -9223372036854775808):=by omega
   clear h hb hr
   unfold Ran
   go_enter Tryz.func119,Tryz.ntmps119
   go_wp2_with fail
   go_end0
   rw [hcast.out]
   exact ⟨M,A,rfl,H.out.setFuel _ (by omega),H.out.ext _ _ _,List.prefix_refl _⟩
theorem place_out (q n:Nat) (i:Int) (W:World) (hn:n≤40) (h:i<0∨(n:Int)≤i) :
 Calls Tryz.prog 121 #[.slice (some ⟨q,0,none⟩) n n,.int .i64 i] W fun e w=>Pan (.stop 3) e∧W=w:=by
 by_cases h0:i<0
 · clear h
   go_enter Tryz.func121,Tryz.ntmps121
   go_wp2_with fail
   go_at_call 73
   refine (stop_any 3 _).mono ?_
   rintro e w ⟨⟨older,rfl⟩,rfl⟩
   go_wp2
   exact ⟨rfl,⟨older,rfl⟩,rfl⟩
 · have h1:(n:Int)≤i:=by omega
   clear h
   go_enter Tryz.func121,Tryz.ntmps121
   go_wp2_with fail
   go_at_call 73
   refine (stop_any 3 _).mono ?_
   rintro e w ⟨⟨older,rfl⟩,rfl⟩
   go_wp2
   exact ⟨rfl,⟨older,rfl⟩,rfl⟩
theorem place_in (q n:Nat) (i:Int) (W:World) (hn:n≤40) (hi0:0≤i) (hi1:i<n) :
 Calls Tryz.prog 121 #[.slice (some ⟨q,0,none⟩) n n,.int .i64 i] W fun e w=>e=.returned (.pointer (some ⟨q,i.toNat,none⟩))∧W=w:=by
 have h0:¬ i<0:=by omega
 have h1:¬ (n:Int)≤i:=by omega
 go_enter Tryz.func121,Tryz.ntmps121
 go_wp2_with fail
 go_ret
 exact ⟨by simp,rfl⟩
set_option maxRecDepth 100000 in
theorem place_none (i:Int) (W:World) :
 Calls Tryz.prog 121 #[.slice none 0 0,.int .i64 i] W fun e w=>Pan (.stop 3) e∧W=w:=by
 by_cases h0:i<0
 · go_enter Tryz.func121,Tryz.ntmps121
   go_wp2_with fail
   go_at_call 73
   refine (stop_any 3 _).mono ?_
   rintro e w ⟨⟨older,rfl⟩,rfl⟩
   go_wp2
   exact ⟨rfl,⟨older,rfl⟩,rfl⟩
 · have h1:(0:Int)≤i:=by omega
   go_enter Tryz.func121,Tryz.ntmps121
   go_wp2_with fail
   go_at_call 73
   refine (stop_any 3 _).mono ?_
   rintro e w ⟨⟨older,rfl⟩,rfl⟩
   go_wp2
   exact ⟨rfl,⟨older,rfl⟩,rfl⟩
def FrAt (W:World) (P M:Nat→Prop) (A:List (Nat×Nat)) (fm n:Nat) (F:Fr):Prop :=
 ∃ F',NameMap W fm n zeroVal F'∧¬ M fm∧¬ P fm∧∀ s,VAt A (Fr.get F s) (getL zeroVal F' s)
theorem FrAt.ext {W W':World} {P M M':Nat→Prop} {A A':List (Nat×Nat)} {fm n:Nat} {F:Fr} (h:FrAt W P M A fm n F) (hE:Ext None M M' W W') (hA:A <+: A'):FrAt W' P M' A' fm n F:=by
 obtain ⟨F',h1,h2,h4,h3⟩:=h
 exact ⟨F',h1.mods hE.mods (fun k=>k.elim (fun f=>f.elim) h2),fun hm=>h2 (hE.back fm h1.lt hm),h4,fun s=>(h3 s).more hA⟩
theorem ExAt.ext {W W':World} {P T M M':Nat→Prop} {e:Ex} {v:Value} (h:ExAt W (fun k=>¬ P k) e v) (hE:Ext T M M' W W') (hT:∀ k,T k∨M k→¬ P k):ExAt W' (fun k=>¬ P k) e v:=ExAt.modsTo (hE.mods.mono fun k _ hk=>hT k hk) (fun _ _ k=>k) e v h
theorem keep_blk {W w:World} {T M M':Nat→Prop} {g:Nat} {cs:List Value} {t:TypeId} (h:Blk W g cs t) (hE:Ext T M M' W w) (hn:¬ M g) (hT:¬ T g):Blk w g cs t∧¬ M' g:=⟨h.mods hE.mods (fun k=>k.elim hT hn),fun hm=>hn (hE.back g h.lt hm)⟩
mutual
def GoodE (L:List Fn):Ex→Prop
 | .num _ _=>True
 | .var _ s=>s.length≤10000000
 | .bin _ _ l r=>GoodE L l∧GoodE L r
 | .un _ _ x=>GoodE L x
 | .call _ f args=>f.length≤10000000∧args.length≤1000000∧(∃ g,fnOf L f=some g∧args.length=g.params.length)∧GoodEs L args
 | .new _ x=>GoodE L x
 | .len _ x=>GoodE L x
 | .item _ x i=>GoodE L x∧GoodE L i
 | .input _=>True
def GoodEs (L:List Fn):List Ex→Prop
 | []=>True
 | e::r=>GoodE L e∧GoodEs L r
end
theorem rbind_of {α β:Type} {W0 W:World} {b mb:Nat} {L:List Fn} {P T M0 M:Nat→Prop} {A0 A:List (Nat×Nat)} {x:RM α} {f:α→RS→RM β} {r:Except Sig β×RS} {F:FuncId} {args:Array Value} {ok:α→(Nat→Prop)→List (Nat×Nat)→Ending→World→Prop} {Q:Ending→World→Prop}
 (hE:Hid (Ext T M0 M W0 W)) (hA:Hid (A0 <+: A)) (hx:Hid (bindR x f=some r)) (hc:∀ y,x=some y→Calls Tryz.prog F args W (Ran W b mb L P T M A ok y))
 (herr:∀ g s',r=(.error g,s')→∀ (older:Old) w,Hid (∃ M' A',RAt w b mb L P M' A' s'∧Ext T M0 M' W0 w∧A0 <+: A')→Q (.panicked ({ v:=sigV g,recovered:=false }::older.1)) w)
 (hok:∀ a s',Hid (x=some (.ok a,s'))→Hid (f a s'=some r)→∀ e w M' A',ok a M' A' e w→Hid (RAt w b mb L P M' A' s')→Hid (Ext T M M' W w)→Hid (Ext T M0 M' W0 w)→Hid (A <+: A')→Hid (A0 <+: A')→Q e w) :
 Calls Tryz.prog F args W Q:=by
 have hx:=hx.out
 cases hp:x with
 | none=>rw [hp] at hx;cases hx
 | some y =>
   refine (hc y hp).mono ?_
   intro e w h
   rw [hp] at hx
   obtain ⟨y,s'⟩:=y
   cases y with
   | error g =>
     obtain ⟨⟨older,rfl⟩,M',A',h1,h2,h3⟩:=h
     exact herr g s' (Option.some.inj hx).symm older w (hiD ⟨M',A',h1,hE.out.trans h2,hA.out.trans h3⟩)
   | ok a =>
     obtain ⟨M',A',h0,h1,h2,h3⟩:=h
     exact hok a s' (hiD hp) (hiD hx) e w M' A' h0 (hiD h1) (hiD h2) (hiD (hE.out.trans h2)) (hiD h3) (hiD (hA.out.trans h3))
def EvC (L:List Fn) (f:Nat):Prop:=∀ (e:Ex) (b mb:Nat) (P T M:Nat→Prop) (A:List (Nat×Nat)) (s:RS) (F:Fr) (fm n:Nat) (W:World) (v:Value) (r:Except Sig V×RS),RAt W b mb L P M A s→FrAt W P M A fm n F→GoodE L e→ExAt W (fun k=>¬ P k) e v→evE L f s F e=some r →
 Calls Tryz.prog 120 #[.pointer (some ⟨b,0,none⟩),.map (some fm),v] W (Ran W b mb L P T M A retV r)
def evN (L:List Fn) (f:Nat) (s:RS) (F:Fr) (e:Ex):RM Int:=bindR (evE L f s F e) fun v s=>okR v.n s
theorem bindN {β:Type} (L:List Fn) (f:Nat) (s:RS) (F:Fr) (e:Ex) (k:Int→RS→RM β):bindR (evN L f s F e) k=bindR (evE L f s F e) fun v s=>k v.n s:=by
 unfold evN
 cases evE L f s F e with
 | none=>rfl
 | some y =>
   obtain ⟨y,t⟩:=y
   cases y <;> rfl
theorem VAt.num {A:List (Nat×Nat)} {x:V} {v:Value} (h:VAt A x v):∃ av,v=.agg #[.int .i64 x.n,av]:=by
 rcases h with ⟨_,rfl⟩|⟨i,g,n,_,_,rfl⟩
 · exact ⟨_,rfl⟩
 · exact ⟨_,rfl⟩
theorem fld_n (k:Int) (av:Value) (w:World):Sem.run Tryz.prog (Instr.field 164 (.agg #[.int .i64 k,av]) 0) w=Result.ok (.int .i64 k) w:=by kernel_rfl
set_option maxRecDepth 100000 in
set_option maxHeartbeats 400000 in
theorem num_any {L:List Fn} {f:Nat} (ih:EvC L f) (e:Ex) (b mb q3 q4:Nat) (P T M:Nat→Prop) (A:List (Nat×Nat)) (s:RS) (F:Fr) (fm n:Nat) (W:World) (v:Value) (r:Except Sig Int×RS) (h:RAt W b mb L P M A s) (hF:FrAt W P M A fm n F) (hg:GoodE L e) (he:ExAt W (fun k=>¬ P k) e v) (hr:evN L f s F e=some r)
 (h3:W.cell? ⟨q3,0,none⟩=some (.pointer (some ⟨b,0,none⟩))) (h4:W.cell? ⟨q4,0,none⟩=some (.map (some fm))) :
 Calls Tryz.prog 130 #[v,.pointer (some ⟨q3,0,none⟩),.pointer (some ⟨q4,0,none⟩)] W (Ran W b mb L P T M A retN r):=by
 have HX:Hid (bindR (evE L f s F e) (fun v s=>okR v.n s)=some r):=hiD hr
 have HC:=hiD (fun y hy=>ih e b mb P T M A s F fm n W v y h hF hg he hy)
 have HE:=hiD (Ext.refl T M W)
 have HA:=hiD (List.prefix_refl A)
 obtain ⟨g,rfl⟩:=he.ptr
 clear h hF hg he hr ih
 go_enter Tryz.func130,Tryz.ntmps130
 go_wp2_with fail
 go_at_call 120
 refine rbind_of HE HA HX HC.out ?_ ?_
 · rintro g s' rfl older w H
   obtain ⟨M',A',k1,k2,k3⟩:=H.out
   go_wp2
   exact ⟨rfl,⟨older,rfl⟩,M',A',k1,k2,k3⟩
 · rintro a s'-HX2 e w M' A' ⟨v,rfl,hv⟩ HR-HE2-HA2
   obtain rfl:=(Option.some.inj HX2.out).symm
   clear HX HX2 HC
   obtain ⟨av,rfl⟩:=hv.num
   have hfl:=fld_n a.n av
   go_wp2
   go_ret
   exact ⟨M',A',rfl,HR.out,HE2.out,HA2.out⟩
end Go.Proofs.YtnicpmoanjddbaaGreatDoor.TreeP

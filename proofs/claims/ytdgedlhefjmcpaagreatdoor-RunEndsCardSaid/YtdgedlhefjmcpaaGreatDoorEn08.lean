/- Statements, too, come to an end; how long what is written is; its numbers. No program in sight. No conditions. Parse and Print as the laws call them; the fact. Conditions: what they read of the package's variables lies as the program lays it. The marks, the levels, the range error and the powers of ten, as the rows list them, lie as the walks want them; and so they lie behind the door's own run. What the rows list lies as the walks want it. Conditions: none. errors.As at the target *Errno, of an error that is an Errno, and of none: Go's own text walked; then api.Tell and plain.Place of such errors. Conditions: errors.errorType lies as the program lays it. Errors told: contracts of api.Tell, of no error and of a bare Errno. Conditions: errors.errorType lies as the program lays it. errors.errorType, as the rows list it, lies as the walks want it. Conditions: none. What the row of TreeJoins lists lies as the walks want it. Conditions: none. What the document's reader asks its marks and words, plainly. No program in sight. No conditions. A law's wrap that keeps what is laid and the world's shape; the shape goes on where nothing old has turned. No conditions. -/
import Derived.Test.YtdgedlhefjmcpaaGreatDoorEn03
import Derived.Test.YtdgedlhefjmcpaaGreatDoorEn07
import Derived.Test.YtdgedlhefjmcpaaGreatDoorRows
import Derived.ProofKit
import Derived.LaidMore
import Derived.OpenShut
import Derived.Stop.Joined
import Derived.Lib.SmallJoins
import Derived.Lib.LaidTab
import Derived.WalkKit
import Derived.LaidEql
import Derived.Stop.Asserts
import Derived.RowKitTokens
import Derived.RowKit3
import Derived.Lib.Hide
import Derived.Test.YtdgedlhefjmcpaaGreatDoorEn01
import Derived.WalkSpells
import Derived.WalkLawsBesides
import Derived.Outline
import Derived.LaidHandle
import Derived.Lib.IndexMore
import Derived.Handed
import Derived.HandedShaped
import Derived.ChangeAgain
namespace Go.Proofs.YtdgedlhefjmcpaaGreatDoor.TreeP
set_option linter.unusedVariables false
set_option linter.unusedSimpArgs false
structure RunsS (f:Nat):Prop where
 block:∀ {d ts},12*ts.length+1≤f→blockF f d ts≠none
 stmts:∀ {d l ts},12*ts.length+3≤f→stmtsF f d l ts≠none
 stmt:∀ {d ts},12*ts.length+2≤f→stmtF f d ts≠none
 named:∀ {ts},12*ts.length+1≤f→namedF f ts≠none
theorem runsS:(f:Nat)→RunsS f
 | 0=>⟨fun h=>by omega,fun h=>by omega,fun h=>by omega,fun h=>by omega⟩
 | f+1=>by
  have ih:=runsS f
  have e:=runs f
  have L:=lens f
  have S:=slens f
  refine ⟨?_,?_,?_,?_⟩
  ·intro d ts h
   simp only [blockF]
   split
   ·exact failP_runs _ _
   ·refine andThen_runs (must_runs _ _) fun u r hu=>ih.stmts ?_
    have:=must_less hu
    omega
  ·intro d l ts h
   simp only [stmtsF]
   split
   ·exact okP_runs _ _
   ·refine andThen_runs (ih.stmt (by omega)) fun x r hx=>ih.stmts ?_
    have:=S.stmt hx
    omega
  ·intro d ts h
   simp only [stmtF]
   have semi:∀ {α:Type} (mk:Ex→α) {s:List UInt8},seeB s ts=true→(andThen (exprF f 0 0 ts.tail) fun v r=>andThen (must [59] r) fun _ r2=>okP (mk v) r2)≠none:=by
    intro α mk s hs
    have:=see_less hs
    exact andThen_runs (e.expr (by omega) (by omega)) fun v r hv=>andThen_runs (must_runs _ _) fun _ _ _=>okP_runs _ _
   split
   ·rename_i hs
    have:=see_less hs
    refine andThen_runs (e.alone (by omega)) fun v r hv=>?_
    have:=L.alone hv
    refine andThen_runs (ih.block (by omega)) fun t r2 ht=>?_
    have:=S.block ht
    split
    ·rename_i hs2
     have:=see_less hs2
     exact andThen_runs (ih.block (by omega)) fun _ _ _=>okP_runs _ _
    ·exact okP_runs _ _
   ·split
    ·rename_i hs
     have:=see_less hs
     refine andThen_runs (e.alone (by omega)) fun v r hv=>?_
     have:=L.alone hv
     exact andThen_runs (ih.block (by omega)) fun _ _ _=>okP_runs _ _
    ·split
     ·rename_i hs
      have:=see_less hs
      refine andThen_runs (name_runs _) fun n r hn=>andThen_runs (must_runs _ _) fun u r2 hu=>?_
      have:=name_less hn
      have:=must_less hu
      exact andThen_runs (e.expr (by omega) (by omega)) fun v r hv=>andThen_runs (must_runs _ _) fun _ _ _=>okP_runs _ _
     ·split
      ·rename_i hs
       exact semi _ hs
      ·split
       ·rename_i hs
        exact semi _ hs
       ·exact andThen_runs (ih.named (by omega)) fun _ _ _=>andThen_runs (must_runs _ _) fun _ _ _=>okP_runs _ _
  ·intro ts h
   simp only [namedF]
   refine andThen_runs (name_runs _) fun n r hn=>?_
   have:=name_less hn
   split
   ·exact andThen_runs (e.args (by omega)) fun _ _ _=>okP_runs _ _
   ·split
    ·rename_i hs
     have:=see_less hs
     refine andThen_runs (e.expr (by omega) (by omega)) fun i r2 hi=>andThen_runs (must_runs _ _) fun u r3 hu=>andThen_runs (must_runs _ _) fun u2 r4 hu2=>?_
     have:=L.expr hi
     have:=must_less hu
     have:=must_less hu2
     exact andThen_runs (e.expr (by omega) (by omega)) fun _ _ _=>okP_runs _ _
    ·refine andThen_runs (must_runs _ _) fun u r2 hu=>?_
     have:=must_less hu
     exact andThen_runs (e.expr (by omega) (by omega)) fun _ _ _=>okP_runs _ _
theorem params_runs:(f:Nat)→(b:Bool)→(l:List (List UInt8×Int))→(ts:List Tok)→ts.length<f→paramsF f b l ts≠none
 | 0,_,_,_,h=>by omega
 | f+1,b,l,ts,h=>by
  simp only [paramsF]
  split
  ·exact okP_runs _ _
  ·refine andThen_runs (by split;exact okP_runs _ _;exact must_runs _ _) fun u r hu=>?_
   have hr:r.length≤ts.length:=by
    split at hu
    ·rw [(okP_ok hu).2];exact Nat.le_refl _
    ·exact Nat.le_of_lt (must_less hu)
   refine andThen_runs (name_runs _) fun n r2 hn=>andThen_runs (must_runs _ _) fun u2 r3 hu2=>?_
   have:=name_less hn
   have:=must_less hu2
   split
   ·exact params_runs f _ _ _ (by have:=tail_le r3;omega)
   ·refine andThen_runs (must_runs _ _) fun u4 r4 hu4=>params_runs f _ _ _ ?_
    have:=must_less hu4
    omega
theorem function_runs {f:Nat} {ts:List Tok} (h:12*ts.length+1≤f):functionF f ts≠none:=by
 cases f with
 | zero=>omega
 | succ f =>
  simp only [functionF]
  refine andThen_runs (must_runs _ _) fun u r hu=>andThen_runs (name_runs _) fun n r2 hn=>andThen_runs (must_runs _ _) fun u3 r3 hu3=>?_
  have:=must_less hu
  have:=name_less hn
  have:=must_less hu3
  refine andThen_runs (params_runs _ _ _ _ (by omega)) fun ps r4 hp=>?_
  have:=params_le _ _ _ _ hp
  exact andThen_runs ((runsS f).block (by omega)) fun _ _ _=>okP_runs _ _
theorem program_runs:(f:Nat)→(l:List Fn)→(ts:List Tok)→12*ts.length+2≤f→programF f l ts≠none
 | 0,_,_,h=>by omega
 | f+1,l,ts,h=>by
  simp only [programF]
  split
  ·exact okP_runs _ _
  ·split
   ·exact failP_runs _ _
   ·refine andThen_runs (function_runs (by omega)) fun x r hx=>program_runs f _ _ ?_
    have:=function_less hx
    omega
theorem itoab_len {n:Int} (h0:0≤n) (h:n<9223372036854775808):(Lib.itoa n).length≤19:=by
 unfold Lib.itoa
 rw [if_neg (by omega),Lib.decDigits_length]
 by_cases h1:Lib.nDigits n.toNat≤19
 ·exact h1
 ·exfalso
  have key:∀ (k u:Nat),u<10 ^ (k+1)→Lib.nDigits u≤k+1:=by
   intro k
   induction k with
   | zero=>intro u hu;rw [Lib.nDigits_small (by simpa using hu)];exact Nat.le_refl _
   | succ k ih =>
    intro u hu
    by_cases h9:u<10
    ·rw [Lib.nDigits_small h9];omega
    ·rw [Lib.nDigits_big h9]
     have:=ih (u / 10) (by rw [Nat.pow_succ] at hu;omega)
     omega
  have:=key 18 n.toNat (by rw [show (10:Nat) ^ (18+1)=10000000000000000000 by decide];omega)
  omega
theorem opb_len {op:List UInt8} (h:∃ k,k<6∧op∈levelList.getD k []):op.length≤2:=by
 have h1:=mark_head h
 have:∀ s∈markList,s.length≤2:=by decide
 exact this op h1
theorem parenb_len {e:Ex} (lv:Nat) (t:List UInt8):(paren (levelB e) lv t).length=t.length+parN lv e:=by
 unfold paren parN
 by_cases h:lv≤levelB e
 ·rw [if_pos h,if_neg (by omega)];rfl
 ·rw [if_neg h,if_pos (by omega)];simp
mutual
theorem textb_len:(e:Ex)→(d:Nat)→Fit e d→(textB e).length≤20*cnt e
 | .num _ n,d,h=>by
  simp only [Fit] at h
  simp only [textB,cnt]
  have:=itoab_len h.2.1 h.2.2
  omega
 | .var _ s,d,h=>by
  simp only [Fit] at h
  simp only [textB,cnt]
  have:=h.2.2.2.2
  omega
 | .bin _ op l r,d,h=>by
  simp only [Fit] at h
  have ho:=opb_len h.1
  have hl:(textB l).length≤20*cnt l:=by
   have h2:=h.2.1
   split at h2
   ·exact textb_len l _ h2.2
   ·exact textb_len l _ h2
  have hr:(textB r).length≤20*cnt r:=by
   have h2:=h.2.2
   split at h2
   ·exact textb_len r _ h2.2
   ·exact textb_len r _ h2
  simp only [textB,cnt,List.length_append,parenb_len,List.length_cons,List.length_nil]
  omega
 | .un _ op x,d,h=>by
  simp only [Fit] at h
  have ho:op.length=1:=by rcases h.2.1 with rfl|rfl <;> rfl
  have hx:(textB x).length≤20*cnt x:=by
   have h2:=h.2.2
   split at h2
   ·exact textb_len x _ h2.2
   ·exact textb_len x _ h2
  simp only [textB,cnt,List.length_append,parenb_len]
  omega
 | .call _ f args,d,h=>by
  simp only [Fit] at h
  have h1:=h.2.1.2.2.2
  simp only [textB,cnt,List.length_append,List.length_cons,List.length_nil]
  have:(Lib.join (textsB args) [44,32]).length≤20*cnts args:=by
   cases args with
   | nil=>simp [textsB,Lib.join_nil]
   | cons e r =>
    simp only [Fits] at h
    simp only [textsB,Lib.join_cons,List.length_append]
    have a1:=textb_len e _ h.2.2.1
    have a2:=textbs_len r _ h.2.2.2
    cases r with
    | nil=>simp only [textsB,Lib.joinTail,List.map_nil,List.flatten_nil,List.length_nil,cnts];omega
    | cons e2 r2 =>
     have:cnts (e::e2::r2)=cnt e+(1+cnts (e2::r2)):=rfl
     omega
  omega
 | .new _ x,d,h=>by
  simp only [Fit] at h
  have:=textb_len x _ h.2
  simp only [textB,cnt,List.length_append,List.length_cons,List.length_nil]
  omega
 | .len _ x,d,h=>by
  simp only [Fit] at h
  have:=textb_len x _ h.2
  simp only [textB,cnt,List.length_append,List.length_cons,List.length_nil]
  omega
 | .item _ x i,d,h=>by
  simp only [Fit] at h
  have hi:=textb_len i _ h.2.2
  have hx:(textB x).length≤20*cnt x:=by
   have h2:=h.2.1
   split at h2
   ·exact textb_len x _ h2
   ·split at h2
    ·exact textb_len x _ h2.2
    ·exact textb_len x _ h2
  simp only [textB,cnt,List.length_append,List.length_cons,List.length_nil]
  split
  ·simp only [List.length_append,List.length_cons,List.length_nil];omega
  ·rw [parenb_len];omega
 | .input _,d,h=>by simp [textB,cnt]
theorem textbs_len:(l:List Ex)→(d:Nat)→Fits l d→(Lib.joinTail [44,32] (textsB l)).length≤20*(1+cnts l)
 | [],d,h=>by simp [textsB,Lib.joinTail]
 | e::r,d,h=>by
  simp only [Fits] at h
  have a1:=textb_len e _ h.1
  have a2:=textbs_len r _ h.2
  have ht:Lib.joinTail [44,32] (textsB (e::r))=44::32::(textB e++Lib.joinTail [44,32] (textsB r)):=by
   simp only [textsB,Lib.joinTail,List.map_cons,List.flatten_cons,List.cons_append,List.nil_append]
  rw [ht]
  simp only [List.length_cons,List.length_append]
  cases r with
  | nil=>simp only [textsB,Lib.joinTail,List.map_nil,List.flatten_nil,List.length_nil,cnts];omega
  | cons e2 r2 =>
   have:cnts (e::e2::r2)=cnt e+(1+cnts (e2::r2)):=rfl
   omega
end
mutual
theorem fit_num:(e:Ex)→(d:Nat)→Fit e d→NumE e
 | .num _ n,d,h=>by simp only [Fit] at h;exact h.2
 | .var _ s,d,h=>trivial
 | .bin _ op l r,d,h=>by
  simp only [Fit] at h
  refine ⟨?_,?_⟩
  ·have h2:=h.2.1
   split at h2
   ·exact fit_num l _ h2.2
   ·exact fit_num l _ h2
  ·have h2:=h.2.2
   split at h2
   ·exact fit_num r _ h2.2
   ·exact fit_num r _ h2
 | .un _ op x,d,h=>by
  simp only [Fit] at h
  have h2:=h.2.2
  simp only [NumE]
  split at h2
  ·exact fit_num x _ h2.2
  ·exact fit_num x _ h2
 | .call _ f args,d,h=>by simp only [Fit] at h;exact fits_num args _ h.2.2
 | .new _ x,d,h=>by simp only [Fit] at h;exact fit_num x _ h.2
 | .len _ x,d,h=>by simp only [Fit] at h;exact fit_num x _ h.2
 | .item _ x i,d,h=>by
  simp only [Fit] at h
  refine ⟨?_,fit_num i _ h.2.2⟩
  have h2:=h.2.1
  split at h2
  ·exact fit_num x _ h2
  ·split at h2
   ·exact fit_num x _ h2.2
   ·exact fit_num x _ h2
 | .input _,d,h=>trivial
theorem fits_num:(l:List Ex)→(d:Nat)→Fits l d→NumsE l
 | [],d,h=>trivial
 | e::r,d,h=>by simp only [Fits] at h;exact ⟨fit_num e _ h.1,fits_num r _ h.2⟩
end
mutual
theorem fitS_num:(s:St)→(d:Nat)→FitS s d→NumSt s
 | .var _ s v,d,h=>by simp only [FitS] at h;exact fit_num v _ h.2
 | .set _ s v,d,h=>by simp only [FitS] at h;exact fit_num v _ h.2
 | .put _ s i v,d,h=>by simp only [FitS] at h;exact ⟨fit_num i _ h.2.1,fit_num v _ h.2.2⟩
 | .cond _ v t e,d,h=>by simp only [FitS] at h;exact ⟨fit_num v _ h.1,fitSs_num t _ h.2.2.1,fitSs_num e _ h.2.2.2⟩
 | .loop _ v t,d,h=>by simp only [FitS] at h;exact ⟨fit_num v _ h.1,fitSs_num t _ h.2.2⟩
 | .ret _ v,d,h=>by simp only [FitS] at h;exact fit_num v _ h
 | .print _ v,d,h=>by simp only [FitS] at h;exact fit_num v _ h
 | .call _ v,d,h=>by simp only [FitS] at h;exact fit_num v _ h.2
theorem fitSs_num:(l:List St)→(d:Nat)→FitSs l d→NumSts l
 | [],d,h=>trivial
 | s::r,d,h=>by simp only [FitSs] at h;exact ⟨fitS_num s _ h.1,fitSs_num r _ h.2⟩
end
def ReadTo (s:List UInt8) (x:Except (Int×Int) (List Fn)):Prop:=(∃ f n a,lexF f s 0 0=some (.error (n,a))∧x=.error (n,a))∨(∃ f fp ts y,lexF f s 0 0=some (.ok ts)∧programF fp [] ts=some y∧x=dropRest y)
theorem read_any (s:List UInt8):∃ x,ReadTo s x:=by
 have h1:=lex_runs (s.length+1) s 0 0 (by omega)
 cases hx:lexF (s.length+1) s 0 0 with
 | none=>exact absurd hx h1
 | some y =>
  cases y with
  | error e=>exact ⟨_,Or.inl ⟨_,e.1,e.2,hx,rfl⟩⟩
  | ok ts =>
   have h2:=program_runs (12*ts.length+2) [] ts (Nat.le_refl _)
   cases hy:programF (12*ts.length+2) [] ts with
   | none=>exact absurd hy h2
   | some y=>exact ⟨_,Or.inr ⟨_,_,ts,y,hx,hy,rfl⟩⟩
structure Prog (l:List Fn):Prop where
 fit:∀ x∈l,FitF x
 few:l.length≤12
 cnt:cntFs l≤1500
theorem read_prog {s:List UInt8} {l:List Fn} (h:ReadTo s (.ok l)):Prog l:=by
 rcases h with ⟨f,n,a,h1,h2⟩|⟨f,fp,ts,y,h1,h2,h3⟩
 ·cases h2
 ·cases y with
  | error e=>cases h3
  | ok p =>
   obtain ⟨l',r⟩:=p
   cases h3
   obtain ⟨a1,a2⟩:=lex_gives f s 0 0 ts (by omega) h1
   obtain ⟨b1,b2,b3,b4,b5⟩:=program_made fp [] ts a1 (fun _ h=>nomatch h) (by simp) h2
   refine ⟨b1,b2,?_⟩
   have hr:1≤r.length:=by
    obtain ⟨a,ha⟩:=b5.2
    cases r with
    | nil=>simp at ha
    | cons _ _=>simp
   simp only [cntFs] at b3
   omega
end Go.Proofs.YtdgedlhefjmcpaaGreatDoor.TreeP
namespace Go.Proofs.YtdgedlhefjmcpaaGreatDoor.TreeP
open Go.RowKit Go.Proofs.YtdgedlhefjmcpaaGreatDoor.Wo
set_option linter.unusedVariables false
set_option linter.unusedSimpArgs false
structure All (W:World):Prop where
 laid:Laid W
 prn:Prn W
end Go.Proofs.YtdgedlhefjmcpaaGreatDoor.TreeP
namespace Go.Proofs.YtdgedlhefjmcpaaGreatDoor.TreeP
set_option linter.unusedSimpArgs false
set_option linter.unusedVariables false
open Go.Joins Go.ChangeShapes Go.WideShapes Go.RowKit Go.Deep
theorem vars_at {P:Program} {w:World}:{l:List (String×DataW Unit)}→{ps:List MemPlace}→DataW.LaidVars P w l ps→{n:String}→{d:DataW Unit}→(n,d)∈l→∃ g t cs fuel p,P.globalNamed n=some g∧(P.globals[g]?).map (·.type)=some t∧w.var? P n=some cs∧DataW.trod (fun _=>()) P w 0 (fun _=>true) false fuel t cs.toList=some (d,p)
 | [],ps,h,n,d,hm=>nomatch hm
 | (n',d')::r,ps,h,n,d,hm=>by
  obtain ⟨g,t,cs,fuel,p,q,h1,h2,h3,h4,h5,_⟩:=h
  rw [List.mem_cons] at hm
  rcases hm with hm|hm
  ·cases hm
   exact ⟨g,t,cs,fuel,p,h1,h2,h3,h4⟩
  ·exact vars_at h5 hm
theorem gMarks : Tryz.prog.globalNamed "bloomery/tree.marks" = some 2 := by kernel_rfl
theorem gLevels : Tryz.prog.globalNamed "bloomery/tree.levels" = some 4 := by kernel_rfl
theorem gRange : Tryz.prog.globalNamed "strconv.ErrRange" = some 11 := by kernel_rfl
theorem gPow : Tryz.prog.globalNamed "internal/strconv.uint64pow10" = some 5 := by kernel_rfl
theorem tyMarks:(Tryz.prog.globals[2]?).map (·.type)=some 185∧Tryz.prog.underlying 185=some (.array 24 9)∧Tryz.prog.underlying 9=some .string∧Tryz.prog.cellsOf 9=1:=⟨by kernel_rfl,by kernel_rfl,by kernel_rfl,by kernel_rfl⟩
theorem tyLevels:(Tryz.prog.globals[4]?).map (·.type)=some 226∧Tryz.prog.underlying 226=some (.array 6 37)∧Tryz.prog.underlying 37=some (.slice 9)∧Tryz.prog.cellsOf 37=1:=⟨by kernel_rfl,by kernel_rfl,by kernel_rfl,by kernel_rfl⟩
theorem tyPow:(Tryz.prog.globals[5]?).map (·.type)=some 251∧Tryz.prog.underlying 251=some (.array 20 237)∧Tryz.prog.underlying 237=some (.int .u64)∧Tryz.prog.cellsOf 237=1∧Tryz.prog.cellsOf 251=20:=⟨by kernel_rfl,by kernel_rfl,by kernel_rfl,by kernel_rfl,by kernel_rfl⟩
theorem tyRange:(Tryz.prog.globals[11]?).map (·.type)=some 25:=by kernel_rfl
noncomputable def errorMs:=match Tryz.prog.underlying 25 with|some (.interface ms)=>ms|_=>#[]
theorem uRange:Tryz.prog.underlying 25=some (.interface errorMs):=by kernel_rfl
theorem one_cell {l:List Value} {j:Nat} {v:Value} (h:(l.drop j).take 1=[v]):l[j]?=some v:=by
 have:=congrArg (fun x:List Value=>x[0]?) h
 simpa using this
theorem str_of {s:ByteArray} {m:List UInt8} (h:s.data.toList=m):Value.string s=str m:=by
 unfold str
 rw [← h]
section
variable {W:World} {l:List (String×DataW Unit)} {ps:List MemPlace}
theorem marks_of (h : DataW.LaidVars Tryz.prog W l ps) (hm : ("bloomery/tree.marks", Rows.laid_bloomery_tree_marks) ∈ l) : Marks W := by
 obtain ⟨g,t,cs,fuel,p,h1,h2,h3,h4⟩:=vars_at h hm
 obtain ⟨t1,t2,t3,t4⟩:=tyMarks
 obtain rfl:=Option.some.inj (gMarks.symm.trans h1)
 obtain rfl:=Option.some.inj (t1.symm.trans h2)
 obtain ⟨xs,m,_,hx,hcs,hn,hel⟩:=DataW.trod_array t2 h4
 have hL:xs.map (·.1)=markList.map fun m=>(DataW.lit (.string m):DataW Unit):=by
  have e:(Rows.laid_bloomery_tree_marks:DataW Unit)=.agg (markList.map fun m=>(DataW.lit (.string m):DataW Unit)):=rfl
  rw [e] at hx
  simp only [Prod.mk.injEq,DataW.agg.injEq] at hx
  exact hx.1.symm
 intro i mk hi
 have hlt:i<24:=by
  have:=(List.getElem?_eq_some_iff.1 hi).1
  have h24:markList.length=24:=rfl
  omega
 have h5:=hel i hlt
 rw [t4,Nat.mul_one] at h5
 have h6:(xs.map (·.1))[i]?=some (DataW.lit (.string mk)):=by rw [hL,List.getElem?_map,hi];rfl
 rw [List.getElem?_map] at h6
 cases hxi:xs[i]? with
 | none=>rw [hxi] at h6;cases h6
 | some x =>
  rw [hxi] at h5 h6
  obtain ⟨s,a1,a2,a3⟩:=DataW.trod_string t3 h5
  rw [a2] at h6
  simp only [Option.map_some,Option.some.injEq,DataW.lit.injEq,Lit.string.injEq] at h6
  rw [World.var?_cell h1 h3,← Array.getElem?_toList,one_cell a1,str_of h6]
theorem levels_of (h : DataW.LaidVars Tryz.prog W l ps) (hm : ("bloomery/tree.levels", Rows.laid_bloomery_tree_levels) ∈ l) : Levels W W.heap.size := by
 obtain ⟨g,t,cs,fuel,p,h1,h2,h3,h4⟩:=vars_at h hm
 obtain ⟨t1,t2,t3,t4⟩:=tyLevels
 obtain ⟨_,_,t5,t6⟩:=tyMarks
 obtain rfl:=Option.some.inj (gLevels.symm.trans h1)
 obtain rfl:=Option.some.inj (t1.symm.trans h2)
 obtain ⟨xs,m,_,hx,hcs,hn,hel⟩:=DataW.trod_array t2 h4
 have hL:xs.map (·.1)=levelList.map fun l=>(DataW.slice (l.map fun m=>(DataW.lit (.string m):DataW Unit)) []:DataW Unit):=by
  have e:(Rows.laid_bloomery_tree_levels:DataW Unit)=.agg (levelList.map fun l=>(DataW.slice (l.map fun m=>(DataW.lit (.string m):DataW Unit)) []:DataW Unit)):=rfl
  rw [e] at hx
  simp only [Prod.mk.injEq,DataW.agg.injEq] at hx
  exact hx.1.symm
 have row:∀ (i:Nat) (l:List (List UInt8)),levelList[i]?=some l→∃ p o c,W.cell? ⟨4,i,none⟩=some (.slice (some ⟨p,o,none⟩) l.length c)∧l.length≤c∧c≤100000∧p<W.heap.size∧∀ (j:Nat) (m:List UInt8),l[j]?=some m→W.cell? ⟨p,o+j,none⟩=some (str m):=by
  intro i lv hi
  have hlt:i<6:=by
   have:=(List.getElem?_eq_some_iff.1 hi).1
   have h6:levelList.length=6:=rfl
   omega
  have hpos:0<lv.length∧lv.length≤4:=by
   have:∀ l∈levelList,0<l.length∧l.length≤4:=by decide
   exact this lv (List.mem_of_getElem? hi)
  have h5:=hel i hlt
  rw [t4,Nat.mul_one] at h5
  have h6:(xs.map (·.1))[i]?=some (DataW.slice (lv.map fun m=>(DataW.lit (.string m):DataW Unit)) []:DataW Unit):=by rw [hL,List.getElem?_map,hi];rfl
  rw [List.getElem?_map] at h6
  cases hxi:xs[i]? with
  | none=>rw [hxi] at h6;cases h6
  | some x =>
   rw [hxi] at h5 h6
   rcases DataW.trod_slice t3 h5 with ⟨_,a2⟩|⟨a,len,cap,elems,rest,n,_,a1,a2,a3,a4,a5,a6,a7,a8,_⟩
   ·rw [a2] at h6
    simp at h6
   ·rw [a2] at h6
    simp only [Option.map_some,Option.some.injEq,DataW.slice.injEq,List.map_eq_nil_iff] at h6
    obtain ⟨e1,rfl⟩:=h6
    obtain ⟨b1,_⟩:=a8 rfl
    have hlen:len=lv.length:=by
     have:=congrArg List.length e1
     simp only [List.length_map] at this
     omega
    subst hlen
    simp only [List.length_nil] at b1
    have cell:∀ (j:Nat) (m:List UInt8),lv[j]?=some m→W.cell? (a.add j)=some (str m):=by
     intro j mm hj
     have hjl:j<lv.length:=(List.getElem?_eq_some_iff.1 hj).1
     have c1:=a7 j hjl
     rw [t6,Nat.mul_one] at c1
     have c2:(elems.map (·.1))[j]?=some (DataW.lit (.string mm)):=by rw [e1,List.getElem?_map,hj];rfl
     rw [List.getElem?_map] at c2
     cases he:elems[j]? with
     | none=>rw [he] at c2;cases c2
     | some y =>
      rw [he] at c1 c2
      rw [Option.bind_eq_some_iff] at c1
      obtain ⟨vs,d1,d2⟩:=c1
      obtain ⟨s,f1,f2,f3⟩:=DataW.trod_string t5 d2
      rw [f2] at c2
      simp only [Option.map_some,Option.some.injEq,DataW.lit.injEq,Lit.string.injEq] at c2
      rw [f1] at d1
      unfold World.cells? at d1
      rw [if_pos (Nat.zero_le _),show List.range 1=[0] from rfl] at d1
      simp only [List.mapM_cons,List.mapM_nil,Option.bind_eq_bind,Option.bind_eq_some_iff,Option.pure_def,Option.some.injEq,List.cons.injEq] at d1
      obtain ⟨v,g1,_,rfl,rfl,_⟩:=d1
      rw [str_of c2] at g1
      simpa [Addr.add] using g1
    obtain ⟨p,o,sp⟩:=a
    have c0:=cell 0 (lv[0]'hpos.1) (List.getElem?_eq_getElem _)
    have hsp:sp=none:=by
     simp only [Addr.add,if_true] at c0
     unfold World.cell? at c0
     split at c0
     ·cases sp with
      | none=>rfl
      | some _=>simp at c0
     ·cases c0
    subst hsp
    refine ⟨p,o,cap,?_,a4,by omega,?_,?_⟩
    ·rw [World.var?_cell h1 h3,← Array.getElem?_toList,one_cell a1]
    ·have:=World.block_lt_of_cell? _ _ c0
     simpa [Addr.add] using this
    ·intro j mm hj
     have:=cell j mm hj
     cases j with
     | zero=>exact this
     | succ j=>simpa [Addr.add] using this
 obtain ⟨p0,o0,c0,e0,_⟩:=row 0 _ rfl
 exact ⟨World.block_lt_of_cell? _ _ e0,row⟩
theorem iface_of {P:Program} {W:World} {t:TypeId} {ms:_} {fuel:Nat} {cs:List Value} {d:DataW Unit} {p:List MemPlace} (ht:P.underlying t=some (.interface ms)) (h:DataW.trod (fun _=>()) P W 0 (fun _=>true) false fuel t cs=some (d,p)) (hd:d≠.nil):∃ u v,cs=[.iface u v]:=by
 cases fuel with
 | zero=>simp [DataW.trod] at h
 | succ n =>
  unfold DataW.trod at h
  rw [ht] at h
  split at h <;> simp_all
theorem range_of (h : DataW.LaidVars Tryz.prog W l ps) (hm : ("strconv.ErrRange", Rows.laid_strconv_ErrRange) ∈ l) : RangeAt W W.heap.size := by
 obtain ⟨g,t,cs,fuel,p,h1,h2,h3,h4⟩:=vars_at h hm
 obtain rfl:=Option.some.inj (gRange.symm.trans h1)
 obtain rfl:=Option.some.inj (tyRange.symm.trans h2)
 have key:=iface_of uRange h4 (by simp [Rows.laid_strconv_ErrRange])
 obtain ⟨u,v,hc⟩:=key
 have h5:W.cell? ⟨11,0,none⟩=some (.iface u v):=by
  rw [World.var?_cell h1 h3,← Array.getElem?_toList,hc]
  rfl
 exact ⟨World.block_lt_of_cell? _ _ h5,u,v,h5⟩
theorem pow_of (h : DataW.LaidVars Tryz.prog W l ps) (hm : ("internal/strconv.uint64pow10", Rows.laid_internal_strconv_uint64pow10) ∈ l) : PowTab W := by
 obtain ⟨g,t,cs,fuel,p,h1,h2,h3,h4⟩:=vars_at h hm
 obtain ⟨t1,t2,t3,t4,t5⟩:=tyPow
 obtain rfl:=Option.some.inj (gPow.symm.trans h1)
 obtain rfl:=Option.some.inj (t1.symm.trans h2)
 have e:(Rows.laid_internal_strconv_uint64pow10:DataW Unit)=Lib.tabData .u64 Lib.pow10Tab:=by kernel_rfl
 rw [e] at h4
 unfold PowTab Lib.TabIs
 rw [h3,← Lib.cells_of_tab t2 t3 t4 t5 h4]
theorem all_of_vars (h : DataW.LaidVars Tryz.prog W l ps) (h1 : ("bloomery/tree.marks", Rows.laid_bloomery_tree_marks) ∈ l) (h2 : ("bloomery/tree.levels", Rows.laid_bloomery_tree_levels) ∈ l) (h3 : ("strconv.ErrRange", Rows.laid_strconv_ErrRange) ∈ l) (h4 : ("internal/strconv.uint64pow10", Rows.laid_internal_strconv_uint64pow10) ∈ l) : All W :=
 ⟨⟨marks_of h h1,levels_of h h2,range_of h h3⟩,⟨⟨_,levels_of h h2⟩,pow_of h h4⟩⟩
end
end Go.Proofs.YtdgedlhefjmcpaaGreatDoor.TreeP
namespace Go.Proofs.YtdgedlhefjmcpaaGreatDoor.ErrP
open Go.RowKit Go.Extern.Stop Go.Stop Go.Extern
set_option linter.unusedVariables false
set_option linter.unusedSimpArgs false
theorem valueOfT (t:Addr) (w:World):(ReflectliteValue.unpack (.iface 133 (.pointer (some t)))).run Tryz.prog w
  = .ok (.agg #[.pointer (some ⟨12,133,none⟩),.pointer (some ⟨w.heap.size,0,none⟩),.int .u64 150]) (w.alloc (.cells #[.pointer (some t)] 133)):=by kernel_rfl
theorem typeT (a : Addr) (w : World) : (ReflectliteValue.methodAny (ReflectliteValue.valueError "reflectlite.Value.Type" 0) (fun t _ _ _ => ReflectliteType.toType t) #[.agg #[.pointer (some ⟨12, 133, none⟩), .pointer (some a), .int .u64 150]]).run Tryz.prog w
  = .ok (.iface 204 (.agg #[.pointer (some ⟨12,133,none⟩)])) w:=by kernel_rfl
theorem methodKind (h : Value) (w : World) : (Go.method 406 204 (.agg #[h]) "Kind").run Tryz.prog w = .ok (208, h) w := by kernel_rfl
theorem kindT (w:World):((ReflectliteType.abiMethod fun t=>(fun a:Nat=>Value.int IntKind.u8 (a:Int)) <$> Rtype.kind t) #[.pointer (some ⟨12,133,none⟩)]).run Tryz.prog w=.ok (.int .u8 22) w:=by kernel_rfl
theorem kindE (w:World):((ReflectliteType.abiMethod fun t=>(fun a:Nat=>Value.int IntKind.u8 (a:Int)) <$> Rtype.kind t) #[.pointer (some ⟨12,38,none⟩)]).run Tryz.prog w=.ok (.int .u8 2) w:=by kernel_rfl
theorem rlm (z:Sem Value) (f:TypeId→Addr→Nat→Nat→Sem Value) (v:Value) :
  ReflectliteValue.method z f #[v]=(do match ← ReflectliteValue.parts v with|none=>z|some (t,a,fl)=>f t a fl (fl % 32)):=rfl
theorem partsT (a:Addr) (w:World):(ReflectliteValue.parts (.agg #[.pointer (some ⟨12,133,none⟩),.pointer (some a),.int .u64 150])).run Tryz.prog w=.ok (some (133,a,150)) w:=by kernel_rfl
theorem isNilT (a p:Addr) (W:World) (ha:W.cell? a=some (.pointer (some p))) :
  (ReflectliteValue.method (ReflectliteValue.valueError "reflectlite.Value.IsNil" 0) ReflectliteValue.isNil #[.agg #[.pointer (some ⟨12, 133, none⟩), .pointer (some a), .int .u64 150]]).run Tryz.prog W = .ok (.bool false) W := by
 rw [rlm]
 simp only [Sem.run_bind,partsT,Result.andThen]
 simp [ReflectliteValue.isNil,loadVar,isAgg,underlying,Tryz.underlying133,ha,Result.andThen]
theorem methodElem (h : Value) (w : World) : (Go.method 406 204 (.agg #[h]) "Elem").run Tryz.prog w = .ok (221, .agg #[h]) w := by kernel_rfl
theorem methodImplements (h : Value) (w : World) : (Go.method 406 204 (.agg #[h]) "Implements").run Tryz.prog w = .ok (222, .agg #[h]) w := by kernel_rfl
theorem methodAssignableTo (h : Value) (w : World) : (Go.method 406 204 (.agg #[h]) "AssignableTo").run Tryz.prog w = .ok (219, .agg #[h]) w := by kernel_rfl
theorem elemT (w:World):(ReflectliteType.method ReflectliteType.elem #[.agg #[.pointer (some ⟨12,133,none⟩)]]).run Tryz.prog w=.ok (.iface 204 (.agg #[.pointer (some ⟨12,38,none⟩)])) w:=by kernel_rfl
theorem implementsE (w : World) : (ReflectliteType.relation "Implements" ReflectliteType.implements_ #[.agg #[.pointer (some ⟨12, 38, none⟩)], .iface 204 (.agg #[.pointer (some ⟨12, 25, none⟩)])]).run Tryz.prog w = .ok (.bool true) w := by kernel_rfl
theorem typeOfE (v:Value) (w:World):(ReflectliteType.typeOf #[.iface 38 v]).run Tryz.prog w=.ok (.iface 204 (.agg #[.pointer (some ⟨12,38,none⟩)])) w:=by kernel_rfl
theorem assignableE (w : World) : (ReflectliteType.relation "AssignableTo" ReflectliteType.assignableTo #[.agg #[.pointer (some ⟨12, 38, none⟩)], .iface 204 (.agg #[.pointer (some ⟨12, 38, none⟩)])]).run Tryz.prog w = .ok (.bool true) w := by kernel_rfl
theorem valueOfE (n:Int) (w:World):(ReflectliteValue.unpack (.iface 38 (.int .i64 n))).run Tryz.prog w
  = .ok (.agg #[.pointer (some ⟨12,38,none⟩),.pointer (some ⟨w.heap.size,0,none⟩),.int .u64 130]) (w.alloc (.cells #[.int .i64 n] 38)):=by kernel_rfl
theorem elemOfT (w:World):(Rtype.elem? 133).run Tryz.prog w=.ok (some 38) w:=by kernel_rfl
theorem mkE (p:Addr) (w:World):(ReflectliteValue.mk 38 p ReflectliteValue.flagAddr).run Tryz.prog w=.ok (.agg #[.pointer (some ⟨12,38,none⟩),.pointer (some p),.int .u64 386]) w:=by kernel_rfl
theorem elemV (a p:Addr) (W:World) (ha:W.cell? a=some (.pointer (some p))) :
  (ReflectliteValue.method (ReflectliteValue.valueError "reflectlite.Value.Elem" 0) ReflectliteValue.elem #[.agg #[.pointer (some ⟨12, 133, none⟩), .pointer (some a), .int .u64 150]]).run Tryz.prog W
   = .ok (.agg #[.pointer (some ⟨12,38,none⟩),.pointer (some p),.int .u64 386]) W:=by
 rw [rlm]
 simp only [Sem.run_bind,partsT,Result.andThen]
 simp [ReflectliteValue.elem,loadVar,isAgg,underlying,Tryz.underlying133,ha,Result.andThen,elemOfT,mkE]
theorem rls (v x:Value):ReflectliteValue.set #[v,x]=(do
  let (some (dst,a,fl),some (src,b,_)):=(← ReflectliteValue.parts v,← ReflectliteValue.parts x)
   | unsupported (.noEntry "extern/(internal/reflectlite.Value).Set.zeroValue")
  if fl / ReflectliteValue.flagAddr % 2 == 0 then unsupported (.noEntry "extern/(internal/reflectlite.Value).Set.unaddressable")
  let val ← loadVar src b
  if ← Rtype.directlyAssignable dst src then storeVar dst a val
  else if ← Rtype.implements dst src then
   if (← Rtype.kind src)==20 then
    match val with
    | .nilIface => unsupported (.noEntry "extern/reflectlite: a nil value of one interface type handed on as a value of another")
    | _=>storeVar dst a val
   else storeVar dst a (.iface src val)
  else panicString ("reflectlite.Set: value of type " ++ (← Rtype.spelt src) ++ " is not assignable to type " ++ (← Rtype.spelt dst))
  pure (.tuple #[])):=rfl
theorem partsEa (a:Addr) (w:World):(ReflectliteValue.parts (.agg #[.pointer (some ⟨12,38,none⟩),.pointer (some a),.int .u64 386])).run Tryz.prog w=.ok (some (38,a,386)) w:=by kernel_rfl
theorem partsE (a:Addr) (w:World):(ReflectliteValue.parts (.agg #[.pointer (some ⟨12,38,none⟩),.pointer (some a),.int .u64 130])).run Tryz.prog w=.ok (some (38,a,130)) w:=by kernel_rfl
theorem directE (w:World):(Rtype.directlyAssignable 38 38).run Tryz.prog w=.ok true w:=by kernel_rfl
theorem setE (ta b:Addr) (n:Int) (old:Value) (W:World) (hb:W.cell? b=some (.int .i64 n)) (ht:W.cell? ta=some old) (hf:W.frozen? ta=false) :
  (ReflectliteValue.set #[.agg #[.pointer (some ⟨12,38,none⟩),.pointer (some ta),.int .u64 386],.agg #[.pointer (some ⟨12,38,none⟩),.pointer (some b),.int .u64 130]]).run Tryz.prog W
   = .ok (.tuple #[]) (W.setCell ta (.int .i64 n)):=by
 rw [rls]
 simp only [Sem.run_bind,partsEa,partsE,Result.andThen]
 simp [ReflectliteValue.flagAddr,loadVar,isAgg,underlying,Tryz.underlying38,hb,Result.andThen,directE,storeVar,Value.cells,storeCells,Addr.add]
 rw [run_store Tryz.prog W ta _ _ (by rfl)]
 simp [ht,hf]
end Go.Proofs.YtdgedlhefjmcpaaGreatDoor.ErrP
namespace Go.Proofs.YtdgedlhefjmcpaaGreatDoor.ErrP
open Go.RowKit Go.Proofs.YtdgedlhefjmcpaaGreatDoor.Wo
set_option linter.unusedVariables false
set_option linter.unusedSimpArgs false
def ErrLaid (W:World):Prop:=W.cell? ⟨1,0,none⟩=some (.iface 204 (.agg #[.pointer (some ⟨12,25,none⟩)]))
end Go.Proofs.YtdgedlhefjmcpaaGreatDoor.ErrP
namespace Go.Proofs.YtdgedlhefjmcpaaGreatDoor.ErrP
set_option linter.unusedSimpArgs false
set_option linter.unusedVariables false
open Go.Joins Go.ChangeShapes Go.WideShapes Go.RowKit
theorem gErr : Tryz.prog.globalNamed "errors.errorType" = some 1 := by kernel_rfl
theorem rtErr : (Tryz.prog.cutTypes.find? (·.1 == "internal/reflectlite.rtype")).map (·.2) = some 204 := by kernel_rfl
theorem oneErr:((List.range Tryz.prog.types.size).filter fun t=>Tryz.prog.rowNamed t [101,114,114,111,114])=[25]:=by kernel_rfl
theorem err_of_handles {W : World} {l : List (String × DataW Unit)} (h : handlesMet Tryz.prog l W) (hm : ("errors.errorType", (Rows.laid_errors_errorType : DataW Unit)) ∈ l) : ErrLaid W := by
 obtain ⟨name,u,ty,e1,e2,e3,e4,e5⟩:=h _ hm
 have en:name=[101,114,114,111,114]:=(Option.some.inj e1).symm
 subst en
 obtain rfl:=Option.some.inj (rtErr.symm.trans e2)
 have hm:ty∈(List.range Tryz.prog.types.size).filter fun t=>Tryz.prog.rowNamed t [101,114,114,111,114]:=List.mem_filter.2 ⟨List.mem_range.2 e3,e4⟩
 rw [oneErr] at hm
 obtain rfl:=List.mem_singleton.1 hm
 have hh:typeHandle Tryz.prog 25=.pointer (some ⟨12,25,none⟩):=by kernel_rfl
 rw [hh] at e5
 unfold ErrLaid
 simpa using World.var?_cell gErr e5 0
end Go.Proofs.YtdgedlhefjmcpaaGreatDoor.ErrP
namespace Go.Proofs.YtdgedlhefjmcpaaGreatDoor.TreeP
open Go.RowKit
set_option linter.unusedVariables false
set_option linter.unusedSimpArgs false
theorem index_neg (s sub:List UInt8):0≤Lib.index s sub↔sub <:+: s:=by
 induction s with
 | nil =>
  unfold Lib.index
  cases sub with
  | nil=>simp
  | cons c r=>simp
 | cons b l ih =>
  unfold Lib.index
  rw [List.infix_cons_iff]
  split
  ·rename_i h
   simp [List.isPrefixOf_iff_prefix.1 h]
  ·rename_i h
   have h':¬ sub <+: b::l:=fun k=>h (List.isPrefixOf_iff_prefix.2 k)
   have hge:=Lib.index_ge l sub
   split
   ·rename_i h2
    have h2:=eq_of_beq h2
    constructor
    ·intro h;omega
    ·rintro (h|h)
     ·exact absurd h h'
     ·have:=ih.2 h;omega
   ·rename_i h2
    have h2:Lib.index l sub≠-1:=fun k=>h2 (by rw [k];rfl)
    constructor
    ·intro _;exact Or.inr (ih.1 (by omega))
    ·intro _;omega
theorem contains_iff (s sub:List UInt8):Lib.contains s sub=true↔sub <:+: s:=by
 unfold Lib.contains
 rw [decide_eq_true_iff,index_neg]
theorem infix_skip (x y:List UInt8):(w:List UInt8)→32 ∉ w→((32::x) <:+: (w++y)↔(32::x) <:+: y)
 | [],_=>Iff.rfl
 | c::w,h=>by
  rw [List.cons_append,List.infix_cons_iff,infix_skip x y w (fun k=>h (List.mem_cons_of_mem _ k))]
  constructor
  ·rintro (h2|h2)
   ·obtain ⟨t,ht⟩:=h2
    simp only [List.cons_append,List.cons.injEq] at ht
    exact absurd (by rw [← ht.1];exact List.mem_cons_self) h
   ·exact h2
  ·exact Or.inr
theorem prefix_word (y:List UInt8):(t w:List UInt8)→32 ∉ t→32 ∉ w→((t++[32]) <+: (w++32::y)↔t=w)
 | [],[],_,_=>by simp
 | [],c::w,_,h2=>by
  simp only [List.nil_append,List.cons_append,List.cons_prefix_cons,List.nil_prefix,and_true]
  constructor
  ·intro h;exact absurd (by rw [h];exact List.mem_cons_self) h2
  ·intro h;cases h
 | c::t,[],h1,_=>by
  simp only [List.nil_append,List.cons_append,List.cons_prefix_cons]
  constructor
  ·intro h;exact absurd (by rw [← h.1];exact List.mem_cons_self) h1
  ·intro h;cases h
 | c::t,d::w,h1,h2=>by
  simp only [List.cons_append,List.cons_prefix_cons,List.cons.injEq]
  rw [prefix_word y t w (fun k=>h1 (List.mem_cons_of_mem _ k)) (fun k=>h2 (List.mem_cons_of_mem _ k))]
def blanked (ws:List (List UInt8)):List UInt8:=ws.flatMap (·++[32])
theorem infix_words (t:List UInt8) (ht:32 ∉ t):(ws:List (List UInt8))→(∀ w∈ws,32 ∉ w)→((32::(t++[32])) <:+: (32::blanked ws)↔t∈ws)
 | [],_=>by
  simp only [blanked,List.flatMap_nil,List.not_mem_nil,iff_false]
  intro h
  have:=h.length_le
  simp at this
 | w::ws,h=>by
  have hb:blanked (w::ws)=w++32::blanked ws:=by simp [blanked]
  rw [hb,List.infix_cons_iff,List.cons_prefix_cons,prefix_word _ t w ht (h w List.mem_cons_self),infix_skip _ _ w (h w List.mem_cons_self),infix_words t ht ws (fun x hx=>h x (List.mem_cons_of_mem _ hx)),List.mem_cons]
  simp
theorem no_blank {t:List UInt8} (h:t.all (fun x=>letterB x || digitB x)=true):32 ∉ t:=by
 intro k
 have:=List.all_eq_true.1 h 32 k
 revert this
 decide
def keptText:List UInt8:=[32,102,110,32,118,97,114,32,105,102,32,101,108,115,101,32,119,104,105,108,101,32,114,101,116,117,114,110,32,112,114,105,110,116,32,110,101,119,32,108,101,110,32,105,110,112,117,116,32,105,110,116,32,97,114,114,32]
theorem kept_text {t:List UInt8} (ht:32 ∉ t):Lib.contains keptText (32::(t++[32]))=keptB t:=by
 have h:=infix_words t ht keptList (by decide)
 have hk:(32:UInt8)::blanked keptList=keptText:=by decide
 rw [hk,← contains_iff] at h
 unfold keptB
 rw [Bool.eq_iff_iff,h,List.contains_iff_mem]
def levelText (n:Nat):List UInt8:=32::blanked (levelList.getD n [])
theorem level_text {t:List UInt8} (ht:32 ∉ t) (n:Nat):Lib.contains (levelText n) (32::(t++[32]))=(levelList.getD n []).contains t:=by
 have h:=infix_words t ht (levelList.getD n []) (by
  by_cases hn:n<6
  ·have:∀ n,n<6→∀ w∈levelList.getD n [],32 ∉ w:=by decide
   exact this n hn
  ·rw [List.getD_eq_getElem?_getD,List.getElem?_eq_none (by show 6≤n;omega)]
   simp)
 rw [Bool.eq_iff_iff,contains_iff,List.contains_iff_mem]
 exact h
theorem opP_level (n:Nat) (ts:List Tok) (h4:headKind ts≠4):opP n ts=if (levelList.getD n []).contains (headText ts) then headText ts else []:=by
 unfold opP
 generalize levelList.getD n []=l
 induction l with
 | nil=>simp
 | cons m l ih =>
  rw [List.find?_cons]
  have hs:seeB m ts=(headText ts==m):=by
   unfold seeB
   rw [show (headKind ts != 4)=true by simpa using h4,Bool.and_true]
  rw [hs,List.contains_cons]
  by_cases hm:headText ts=m
  ·rw [hm];simp
  ·have:(headText ts==m)=false:=by simpa using hm
   rw [this]
   simp only [Bool.false_or]
   exact ih
def passB (n j:Nat) (l:List UInt8):Bool:=(markList.take j).any fun m=>m.length==n && m.isPrefixOf l
theorem passB_next {n j:Nat} {l m:List UInt8} (h:markList[j]?=some m):passB n (j+1) l=(passB n j l || (m.length==n && m.isPrefixOf l)):=by
 unfold passB
 rw [List.take_add_one,h,List.any_append]
 simp
theorem pass_all (n:Nat) (l:List UInt8):passB n 24 l=markList.any fun m=>m.length==n && m.isPrefixOf l:=by
 unfold passB
 rw [show markList.take 24=markList from rfl]
def markN (l:List UInt8):Nat:=((markList.find? (fun m=>m.isPrefixOf l)).map List.length).getD 0
theorem find_split (q:List UInt8→Bool):(L2 L1:List (List UInt8))→(∀ m∈L2,m.length=2)→(∀ m∈L1,m.length=1)→(((L2++L1).find? q).map List.length).getD 0=if (L2++L1).any (fun m=>m.length==2 && q m) then 2 else if (L2++L1).any (fun m=>m.length==1 && q m) then 1 else 0
 | [],L1,_,h1=>by
  rw [List.nil_append,if_neg (by
   intro h
   obtain ⟨m,hm,hq⟩:=List.any_eq_true.1 h
   rw [h1 m hm] at hq
   simp at hq)]
  induction L1 with
  | nil=>simp
  | cons m L ih =>
   have hm:=h1 m List.mem_cons_self
   rw [List.find?_cons,List.any_cons,hm]
   cases hq:q m with
   | true=>simp [hm]
   | false =>
    simp only [hq,Bool.and_false,Bool.false_or]
    exact ih (fun x hx=>h1 x (List.mem_cons_of_mem _ hx))
 | m::L2,L1,h2,h1=>by
  have hm:=h2 m List.mem_cons_self
  rw [List.cons_append,List.find?_cons,List.any_cons,List.any_cons,hm]
  cases hq:q m with
  | true=>simp [hm]
  | false =>
   simp only [hq,Bool.and_false,Bool.false_or]
   exact find_split q L2 L1 (fun x hx=>h2 x (List.mem_cons_of_mem _ hx)) h1
theorem mark_two (l:List UInt8):markN l=if passB 2 24 l then 2 else if passB 1 24 l then 1 else 0:=by
 rw [pass_all,pass_all]
 exact find_split (fun m=>m.isPrefixOf l) (markList.take 6) (markList.drop 6) (by decide) (by decide)
end Go.Proofs.YtdgedlhefjmcpaaGreatDoor.TreeP
namespace Go.Proofs.YtdgedlhefjmcpaaGreatDoor.Wo
open Go.RowKit Go.WideShapes Go.ChangeShapes
set_option linter.unusedVariables false
set_option linter.unusedSimpArgs false
theorem of_change_and_shaped {H:Type} {enc:TypeId×Value→H} {a:Assume} {C:Checked} {os:Os} {f:FuncId} {fn:Func} {s:ChangeSpec} {conds:List PathCond} {apart fresh handsOn again:Bool} {X:World→Array Value→Prop}
  (hX:∀ (w w':World) (args:Array Value),w.heap=w'.heap→X w args→X w' args)
  (own:ownKnob C.prog.godebug=none) (started:os.Started) (noInit:C.prog.inits.idxOf? f=none) (hfn:C.prog.funcs[f]?=some fn)
  (witness:∃ (w:World) (tape:Tape) (i:Input),w.os=os∧(w.forCall tape i).Shaped C.prog∧i.vars=[]∧Input.okWide C.prog (w.forCall tape i) .any w.heap.size f i ∧
   ((s.pre enc C.prog fn conds apart (w.forCall tape i).memory i.args∧X (w.forCall tape i).memory i.args)∧sizedMet enc C.prog fn (OpenSpec.ofChange s) apart (w.forCall tape i).memory i.args)∧a.holds C.prog (lone (Frame.enter C.prog f i.args .normal) [] (w.forCall tape i)))
  (contract:∀ (W:World) (base:Nat) (args:Array Value) (ds gs:List (DataW H)) (before:List MemPlace),
   (∀ (j:Nat) t v,fn.params[j]?=some t→args[j]?=some v→Value.okWide C.prog W .any base t v) →
   DataW.Whole enc C.prog fn.params.toList s.vars apart W args.toList ds gs before→W.ShapedOpen C.prog→X W args →
   Calls C.prog f args W fun e W'=>∃ v,e=.returned v∧s.post enc C.prog fn apart fresh handsOn again W args v W') :
  ReturnsInHanded a C os f .any (fun w args=>(s.pre enc C.prog fn conds apart w args∧X w args)∧sizedMet enc C.prog fn (OpenSpec.ofChange s) apart w args) (s.post enc C.prog fn apart fresh handsOn again):=by
 refine returnsInHanded_of_calls own started noInit witness ?_
 intro w tape i _ hsh _ hok hpre hholds
 obtain ⟨_,_,_,fn',hfn',_,_,_,_,hval⟩:=hok
 have e:fn'=fn:=Option.some.inj (hfn'.symm.trans hfn)
 subst e
 obtain ⟨⟨⟨ds,gs,before,hw,hc⟩,hx⟩,hz⟩:=hpre
 have hw':=DataW.Whole.of_heap (w':=w.forCall tape i) (by rfl) hw
 refine (contract (w.forCall tape i) w.heap.size i.args ds gs before hval hw' hsh (hX _ _ _ (by rfl) hx)).mono fun e W' ⟨v,he,hp⟩=>?_
 subst he
 exact ChangeSpec.post_blind hp
end Go.Proofs.YtdgedlhefjmcpaaGreatDoor.Wo

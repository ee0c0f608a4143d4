/- errors.As at the target *Errno, of an error that is an Errno, and of none: Go's own text walked; then api.Tell and plain.Place of such errors. Conditions: errors.errorType lies as the program lays it. Errors told: contracts of api.Tell, of no error and of a bare Errno. Conditions: errors.errorType lies as the program lays it. errors.errorType, as the rows list it, lies as the walks want it. Conditions: none. What MidSame's row lists lies as the walk wants it; and so it lies behind the door's own run. Steps out of programs, plainly: what mid's Lower makes. No program in sight. No conditions. How a function's steps begin, plainly. No program in sight. No conditions. One program, and the steps it makes. No program in sight. No conditions. Functions of steps, collected in a row. No conditions. -/
import Derived.Test.YtnicpmoanjddbaaGreatDoorRows
import Derived.WalkKit
import Derived.LaidEql
import Derived.Stop.Asserts
import Derived.RowKitTokens
import Derived.RowKit3
import Derived.Lib.Hide
import Derived.Test.YtnicpmoanjddbaaGreatDoorMs01
import Derived.WalkSpells
import Derived.WalkLawsBesides
import Derived.Outline
import Derived.LaidHandle
import Derived.LaidMore
import Derived.OpenShut
import Derived.Stop.Joined
import Derived.Lib.SmallJoins
import Derived.Test.YtnicpmoanjddbaaGreatDoorMs11
import Derived.Test.YtnicpmoanjddbaaGreatDoorMs07
import Derived.Test.YtnicpmoanjddbaaGreatDoorMs06
import Derived.Test.YtnicpmoanjddbaaGreatDoorMs08
namespace Go.Proofs.YtnicpmoanjddbaaGreatDoor.ErrP
open Go.RowKit Go.Extern.Stop Go.Stop Go.Extern
set_option linter.unusedVariables false
set_option linter.unusedSimpArgs false
theorem valueOfT (t:Addr) (w:World):(ReflectliteValue.unpack (.iface 107 (.pointer (some t)))).run Tryz.prog w
 = .ok (.agg #[.pointer (some ⟨10,107,none⟩),.pointer (some ⟨w.heap.size,0,none⟩),.int .u64 150]) (w.alloc (.cells #[.pointer (some t)] 107)):=by kernel_rfl
theorem typeT (a : Addr) (w : World) : (ReflectliteValue.methodAny (ReflectliteValue.valueError "reflectlite.Value.Type" 0) (fun t _ _ _ => ReflectliteType.toType t) #[.agg #[.pointer (some ⟨10, 107, none⟩), .pointer (some a), .int .u64 150]]).run Tryz.prog w
 = .ok (.iface 199 (.agg #[.pointer (some ⟨10,107,none⟩)])) w:=by kernel_rfl
theorem methodKind (h : Value) (w : World) : (Go.method 398 199 (.agg #[h]) "Kind").run Tryz.prog w = .ok (174, h) w := by kernel_rfl
theorem kindT (w:World):((ReflectliteType.abiMethod fun t=>(fun a:Nat=>Value.int IntKind.u8 (a:Int)) <$> Rtype.kind t) #[.pointer (some ⟨10,107,none⟩)]).run Tryz.prog w=.ok (.int .u8 22) w:=by kernel_rfl
theorem kindE (w:World):((ReflectliteType.abiMethod fun t=>(fun a:Nat=>Value.int IntKind.u8 (a:Int)) <$> Rtype.kind t) #[.pointer (some ⟨10,44,none⟩)]).run Tryz.prog w=.ok (.int .u8 2) w:=by kernel_rfl
theorem rlm (z:Sem Value) (f:TypeId→Addr→Nat→Nat→Sem Value) (v:Value) :
 ReflectliteValue.method z f #[v]=(do match ← ReflectliteValue.parts v with|none=>z|some (t,a,fl)=>f t a fl (fl % 32)):=rfl
theorem partsT (a:Addr) (w:World):(ReflectliteValue.parts (.agg #[.pointer (some ⟨10,107,none⟩),.pointer (some a),.int .u64 150])).run Tryz.prog w=.ok (some (107,a,150)) w:=by kernel_rfl
theorem isNilT (a p:Addr) (W:World) (ha:W.cell? a=some (.pointer (some p))) :
 (ReflectliteValue.method (ReflectliteValue.valueError "reflectlite.Value.IsNil" 0) ReflectliteValue.isNil #[.agg #[.pointer (some ⟨10, 107, none⟩), .pointer (some a), .int .u64 150]]).run Tryz.prog W = .ok (.bool false) W := by
 rw [rlm]
 simp only [Sem.run_bind,partsT,Result.andThen]
 simp [ReflectliteValue.isNil,loadVar,isAgg,underlying,Tryz.underlying107,ha,Result.andThen]
theorem methodElem (h : Value) (w : World) : (Go.method 398 199 (.agg #[h]) "Elem").run Tryz.prog w = .ok (186, .agg #[h]) w := by kernel_rfl
theorem methodImplements (h : Value) (w : World) : (Go.method 398 199 (.agg #[h]) "Implements").run Tryz.prog w = .ok (187, .agg #[h]) w := by kernel_rfl
theorem methodAssignableTo (h : Value) (w : World) : (Go.method 398 199 (.agg #[h]) "AssignableTo").run Tryz.prog w = .ok (184, .agg #[h]) w := by kernel_rfl
theorem elemT (w:World):(ReflectliteType.method ReflectliteType.elem #[.agg #[.pointer (some ⟨10,107,none⟩)]]).run Tryz.prog w=.ok (.iface 199 (.agg #[.pointer (some ⟨10,44,none⟩)])) w:=by kernel_rfl
theorem implementsE (w : World) : (ReflectliteType.relation "Implements" ReflectliteType.implements_ #[.agg #[.pointer (some ⟨10, 44, none⟩)], .iface 199 (.agg #[.pointer (some ⟨10, 38, none⟩)])]).run Tryz.prog w = .ok (.bool true) w := by kernel_rfl
theorem typeOfE (v:Value) (w:World):(ReflectliteType.typeOf #[.iface 44 v]).run Tryz.prog w=.ok (.iface 199 (.agg #[.pointer (some ⟨10,44,none⟩)])) w:=by kernel_rfl
theorem assignableE (w : World) : (ReflectliteType.relation "AssignableTo" ReflectliteType.assignableTo #[.agg #[.pointer (some ⟨10, 44, none⟩)], .iface 199 (.agg #[.pointer (some ⟨10, 44, none⟩)])]).run Tryz.prog w = .ok (.bool true) w := by kernel_rfl
theorem valueOfE (n:Int) (w:World):(ReflectliteValue.unpack (.iface 44 (.int .i64 n))).run Tryz.prog w
 = .ok (.agg #[.pointer (some ⟨10,44,none⟩),.pointer (some ⟨w.heap.size,0,none⟩),.int .u64 130]) (w.alloc (.cells #[.int .i64 n] 44)):=by kernel_rfl
theorem elemOfT (w:World):(Rtype.elem? 107).run Tryz.prog w=.ok (some 44) w:=by kernel_rfl
theorem mkE (p:Addr) (w:World):(ReflectliteValue.mk 44 p ReflectliteValue.flagAddr).run Tryz.prog w=.ok (.agg #[.pointer (some ⟨10,44,none⟩),.pointer (some p),.int .u64 386]) w:=by kernel_rfl
theorem elemV (a p:Addr) (W:World) (ha:W.cell? a=some (.pointer (some p))) :
 (ReflectliteValue.method (ReflectliteValue.valueError "reflectlite.Value.Elem" 0) ReflectliteValue.elem #[.agg #[.pointer (some ⟨10, 107, none⟩), .pointer (some a), .int .u64 150]]).run Tryz.prog W
  = .ok (.agg #[.pointer (some ⟨10,44,none⟩),.pointer (some p),.int .u64 386]) W:=by
 rw [rlm]
 simp only [Sem.run_bind,partsT,Result.andThen]
 simp [ReflectliteValue.elem,loadVar,isAgg,underlying,Tryz.underlying107,ha,Result.andThen,elemOfT,mkE]
theorem rls (v x:Value):ReflectliteValue.set #[v,x]=(do
 let (some (dst,a,fl),some (src,b,_)):=(← ReflectliteValue.parts v,← ReflectliteValue.parts x)
  | unsupported (.noEntry "extern/(internal/reflectlite.Value).Set.zeroValue")
 if fl / ReflectliteValue.flagAddr % 2 == 0 then unsupported (.noEntry "extern/(internal/reflectlite.Value).Set.unaddressable")
 let val ← loadVar src b
 if ← Rtype.directlyAssignable dst src then storeVar dst a val
 else if ← Rtype.implements dst src then
  if (← Rtype.kind src)==20 then
        match val with
        | .nilIface => unsupported (.noEntry "extern/reflectlite: a nil value of one interface type handed on as a value of another")
        | _=>storeVar dst a val
  else storeVar dst a (.iface src val)
 else panicString ("reflectlite.Set: value of type " ++ (← Rtype.spelt src) ++ " is not assignable to type " ++ (← Rtype.spelt dst))
 pure (.tuple #[])):=rfl
theorem partsEa (a:Addr) (w:World):(ReflectliteValue.parts (.agg #[.pointer (some ⟨10,44,none⟩),.pointer (some a),.int .u64 386])).run Tryz.prog w=.ok (some (44,a,386)) w:=by kernel_rfl
theorem partsE (a:Addr) (w:World):(ReflectliteValue.parts (.agg #[.pointer (some ⟨10,44,none⟩),.pointer (some a),.int .u64 130])).run Tryz.prog w=.ok (some (44,a,130)) w:=by kernel_rfl
theorem directE (w:World):(Rtype.directlyAssignable 44 44).run Tryz.prog w=.ok true w:=by kernel_rfl
theorem setE (ta b:Addr) (n:Int) (old:Value) (W:World) (hb:W.cell? b=some (.int .i64 n)) (ht:W.cell? ta=some old) (hf:W.frozen? ta=false) :
 (ReflectliteValue.set #[.agg #[.pointer (some ⟨10,44,none⟩),.pointer (some ta),.int .u64 386],.agg #[.pointer (some ⟨10,44,none⟩),.pointer (some b),.int .u64 130]]).run Tryz.prog W
  = .ok (.tuple #[]) (W.setCell ta (.int .i64 n)):=by
 rw [rls]
 simp only [Sem.run_bind,partsEa,partsE,Result.andThen]
 simp [ReflectliteValue.flagAddr,loadVar,isAgg,underlying,Tryz.underlying44,hb,Result.andThen,directE,storeVar,Value.cells,storeCells,Addr.add]
 rw [run_store Tryz.prog W ta _ _ (by rfl)]
 simp [ht,hf]
set_option maxRecDepth 100000 in
set_option maxHeartbeats 4000000 in
theorem as_errno (n:Int) (t:Addr) (old:Value) (w:World) (hg:w.cell? ⟨0,0,none⟩=some (.iface 199 (.agg #[.pointer (some ⟨10,38,none⟩)]))) (ht0:w.cell? t=some old) (hf0:w.frozen? t=false) :
 Calls Tryz.prog 43 #[.iface 44 (.int .i64 n),.iface 107 (.pointer (some t))] w fun ev w'=>ev=.returned (.bool true)∧w'=((((w.alloc (.cells #[.pointer (some t)] 107)).alloc (.cells #[.pointer (some ⟨10,107,none⟩),.pointer (some ⟨w.heap.size,0,none⟩),.int .u64 150] 151)).alloc (.cells #[.pointer (some ⟨10,107,none⟩),.pointer (some ⟨w.heap.size,0,none⟩),.int .u64 150] 151)).alloc (.cells #[.int .i64 n] 44)).setCell t (.int .i64 n):=by
 have h6:=@run_callFunc_extern Tryz.prog 69 _ (fun args=>ReflectliteValue.unpack (args.getD 0 (.tuple #[]))) Tryz.func69 (by kernel_rfl) (by kernel_rfl) (by kernel_rfl) (by kernel_rfl)
 have h7 := @run_callFunc_extern Tryz.prog 70 _ (ReflectliteValue.methodAny (ReflectliteValue.valueError "reflectlite.Value.Type" 0) (fun t _ _ _ => ReflectliteType.toType t)) Tryz.func70 (by kernel_rfl) (by kernel_rfl) (by kernel_rfl) (by kernel_rfl)
 have h8 := @run_callFunc_extern Tryz.prog 71 _ (ReflectliteValue.method (ReflectliteValue.valueError "reflectlite.Value.IsNil" 0) ReflectliteValue.isNil) Tryz.func71 (by kernel_rfl) (by kernel_rfl) (by kernel_rfl) (by kernel_rfl)
 have h27:=@run_callFunc_extern Tryz.prog 174 _ (ReflectliteType.abiMethod fun t=>do pure (.int .u8 (← Rtype.kind t))) Tryz.func174 (by kernel_rfl) (by kernel_rfl) (by kernel_rfl) (by kernel_rfl)
 have h37:=@run_callFunc_extern Tryz.prog 186 _ (ReflectliteType.method ReflectliteType.elem) Tryz.func186 (by kernel_rfl) (by kernel_rfl) (by kernel_rfl) (by kernel_rfl)
 have h38 := @run_callFunc_extern Tryz.prog 187 _ (ReflectliteType.relation "Implements" ReflectliteType.implements_) Tryz.func187 (by kernel_rfl) (by kernel_rfl) (by kernel_rfl) (by kernel_rfl)
 have h10:=@run_callFunc_extern Tryz.prog 102 _ ReflectliteType.typeOf Tryz.func102 (by kernel_rfl) (by kernel_rfl) (by kernel_rfl) (by kernel_rfl)
 have h35 := @run_callFunc_extern Tryz.prog 184 _ (ReflectliteType.relation "AssignableTo" ReflectliteType.assignableTo) Tryz.func184 (by kernel_rfl) (by kernel_rfl) (by kernel_rfl) (by kernel_rfl)
 have h11 := @run_callFunc_extern Tryz.prog 103 _ (ReflectliteValue.method (ReflectliteValue.valueError "reflectlite.Value.Elem" 0) ReflectliteValue.elem) Tryz.func103 (by kernel_rfl) (by kernel_rfl) (by kernel_rfl) (by kernel_rfl)
 have h12:=@run_callFunc_extern Tryz.prog 104 _ ReflectliteValue.set Tryz.func104 (by kernel_rfl) (by kernel_rfl) (by kernel_rfl) (by kernel_rfl)
 have tO:=typeOfE
 have mA:=methodAssignableTo
 have a25:=assignableE
 have v25:=valueOfE
 have f6:=valueOfT
 have f7:=typeT
 have mK:=methodKind
 have mE:=methodElem
 have mI:=methodImplements
 have k27:=kindT
 have k25:=kindE
 have e27:=elemT
 have i25:=implementsE
 have n8:=isNilT ⟨w.heap.size,0,none⟩ t ((w.alloc (.cells #[.pointer (some t)] 107)).alloc (.cells #[.pointer (some ⟨10,107,none⟩),.pointer (some ⟨w.heap.size,0,none⟩),.int .u64 150] 151)) (by simp)
 have hlt:0<w.heap.size:=by
  rcases Nat.lt_or_ge 0 w.heap.size with h|h
  · exact h
  · simp [World.cell?,Array.getElem?_eq_none h] at hg
 have hg2:((w.alloc (.cells #[.pointer (some t)] 107)).alloc (.cells #[.pointer (some ⟨10,107,none⟩),.pointer (some ⟨w.heap.size,0,none⟩),.int .u64 150] 151)).cell? ⟨0,0,none⟩=some (.iface 199 (.agg #[.pointer (some ⟨10,38,none⟩)])):=by
  rw [World.cell?_alloc_lt _ _ ⟨0,0,none⟩ (by first|(simp;done)|(simp;omega)),World.cell?_alloc_lt _ _ ⟨0,0,none⟩ hlt];exact hg
 have htl:t.block<w.heap.size:=by
  rcases Nat.lt_or_ge t.block w.heap.size with h|h
  · exact h
  · simp [World.cell?,Array.getElem?_eq_none h] at ht0
 have el:=elemV ⟨w.heap.size,0,none⟩ t (((w.alloc (.cells #[.pointer (some t)] 107)).alloc (.cells #[.pointer (some ⟨10,107,none⟩),.pointer (some ⟨w.heap.size,0,none⟩),.int .u64 150] 151)).alloc (.cells #[.pointer (some ⟨10,107,none⟩),.pointer (some ⟨w.heap.size,0,none⟩),.int .u64 150] 151)) (by rw [World.cell?_alloc_lt _ _ ⟨w.heap.size,0,none⟩ (by simp;omega),World.cell?_alloc_lt _ _ ⟨w.heap.size,0,none⟩ (by simp),World.cell?_alloc_at _ _ _ _ (by simp)];rfl)
 have st:=setE t ⟨w.heap.size+1+1+1,0,none⟩ n old ((((w.alloc (.cells #[.pointer (some t)] 107)).alloc (.cells #[.pointer (some ⟨10,107,none⟩),.pointer (some ⟨w.heap.size,0,none⟩),.int .u64 150] 151)).alloc (.cells #[.pointer (some ⟨10,107,none⟩),.pointer (some ⟨w.heap.size,0,none⟩),.int .u64 150] 151)).alloc (.cells #[.int .i64 n] 44))
  (by rw [World.cell?_alloc_at _ _ _ _ (by simp)];rfl)
  (by rw [World.cell?_alloc_lt _ _ t (by simp;omega),World.cell?_alloc_lt _ _ t (by simp;omega),World.cell?_alloc_lt _ _ t (by simp;omega),World.cell?_alloc_lt _ _ t htl];exact ht0)
  (by rw [World.frozen?_alloc_old _ _ t (by simp;omega),World.frozen?_alloc_old _ _ t (by simp;omega),World.frozen?_alloc_old _ _ t (by simp;omega),World.frozen?_alloc_old _ _ t (Nat.ne_of_lt htl)];exact hf0)
 go_enter Tryz.func43,Tryz.ntmps43
 go_wp2
 refine wp_loop_rounds 1 ?_
 rw [rounds_succ]
 go_wp2
 go_ret
 exact ⟨rfl,rfl⟩
end Go.Proofs.YtnicpmoanjddbaaGreatDoor.ErrP
namespace Go.Proofs.YtnicpmoanjddbaaGreatDoor.ErrP
open Go.RowKit Go.Proofs.YtnicpmoanjddbaaGreatDoor.Wo
set_option linter.unusedVariables false
set_option linter.unusedSimpArgs false
def ErrLaid (W:World):Prop:=W.cell? ⟨0,0,none⟩=some (.iface 199 (.agg #[.pointer (some ⟨10,38,none⟩)]))
set_option maxRecDepth 100000 in
set_option maxHeartbeats 400000 in
theorem tell_errno (n:Int) (W:World) (hE:ErrLaid W):Calls Tryz.prog 16 #[.iface 44 (.int .i64 n)] W fun e W'=>e=.returned (.int .i64 n)∧Mods None W W':=by
 have hlt:0<W.heap.size:=World.block_lt_of_cell? W _ hE
 have HE:Hid (ErrLaid (W.alloc (.cells #[.int .i64 0] 44))):=hiD (by
  unfold ErrLaid
  rw [World.cell?_alloc_lt _ _ ⟨0,0,none⟩ hlt]
  exact hE)
 clear hE
 go_enter Tryz.func16,Tryz.ntmps16
 go_wp2_with fail
 refine (as_errno n ⟨W.heap.size,0,none⟩ (.int .i64 0) _ HE.out (by simp) (by simp)).mono ?_
 rintro e w' ⟨rfl,rfl⟩
 go_wp2
 go_ret
 refine ⟨rfl,?_⟩
 repeat (first|with_reducible exact Mods.refl _ _|with_reducible refine Mods.alloc ?_ _|(refine Mods.setCell ?_ (fun h=>absurd h (by simp)) _))
end Go.Proofs.YtnicpmoanjddbaaGreatDoor.ErrP
namespace Go.Proofs.YtnicpmoanjddbaaGreatDoor.ErrP
set_option linter.unusedSimpArgs false
set_option linter.unusedVariables false
open Go.Joins Go.ChangeShapes Go.WideShapes Go.RowKit
theorem gErr : Tryz.prog.globalNamed "errors.errorType" = some 0 := by kernel_rfl
theorem rtErr : (Tryz.prog.cutTypes.find? (·.1 == "internal/reflectlite.rtype")).map (·.2) = some 199 := by kernel_rfl
theorem oneErr:((List.range Tryz.prog.types.size).filter fun t=>Tryz.prog.rowNamed t [101,114,114,111,114])=[38]:=by kernel_rfl
theorem err_of_handles {W : World} {l : List (String × DataW Unit)} (h : handlesMet Tryz.prog l W) (hm : ("errors.errorType", (Rows.laid_errors_errorType : DataW Unit)) ∈ l) : ErrLaid W := by
 obtain ⟨name,u,ty,e1,e2,e3,e4,e5⟩:=h _ hm
 have en:name=[101,114,114,111,114]:=(Option.some.inj e1).symm
 subst en
 obtain rfl:=Option.some.inj (rtErr.symm.trans e2)
 have hm:ty∈(List.range Tryz.prog.types.size).filter fun t=>Tryz.prog.rowNamed t [101,114,114,111,114]:=List.mem_filter.2 ⟨List.mem_range.2 e3,e4⟩
 rw [oneErr] at hm
 obtain rfl:=List.mem_singleton.1 hm
 have hh:typeHandle Tryz.prog 38=.pointer (some ⟨10,38,none⟩):=by kernel_rfl
 rw [hh] at e5
 unfold ErrLaid
 simpa using World.var?_cell gErr e5 0
end Go.Proofs.YtnicpmoanjddbaaGreatDoor.ErrP
namespace Go.Proofs.YtnicpmoanjddbaaGreatDoor.MidP
set_option linter.unusedSimpArgs false
set_option linter.unusedVariables false
open Go.Joins Go.ChangeShapes Go.WideShapes Go.RowKit Go.Deep
noncomputable def ten : List (String × DataW Unit) := [("math/bits.deBruijn32tab", Rows.laid_math_bits_deBruijn32tab), ("math/bits.deBruijn64tab", Rows.laid_math_bits_deBruijn64tab), ("internal/strconv.uint64pow10", Rows.laid_internal_strconv_uint64pow10), ("errors.errorType", Rows.laid_errors_errorType), ("bloomery/mid.ops", Rows.laid_bloomery_mid_ops), ("bloomery/mid.forms", Rows.laid_bloomery_mid_forms), ("strconv.ErrRange", Rows.laid_strconv_ErrRange), ("strconv.ErrSyntax", Rows.laid_strconv_ErrSyntax), ("bloomery/tree.marks", Rows.laid_bloomery_tree_marks), ("bloomery/tree.levels", Rows.laid_bloomery_tree_levels)]
theorem ten_laid {W:World} (h:laidMetH Tryz.prog ten W):TreeP.Laid W∧FormsAt W∧OpsAt W∧ErrP.ErrLaid W:=by
 have h' : laidMet Tryz.prog nine W ∧ handlesMet Tryz.prog [("errors.errorType", Rows.laid_errors_errorType)] W := h
 obtain ⟨ps,hv,_⟩:=h'.1
 exact ⟨TreeP.laid_of_vars hv (by simp [nine]) (by simp [nine]) (by simp [nine]),forms_of hv (by simp [nine]),ops_of hv (by simp [nine]),ErrP.err_of_handles h'.2 (List.mem_singleton.2 rfl)⟩
theorem ten_met (os:Os) (f:_) (args:Array Value):laidMetH Tryz.prog ten ((World.doorLaid Tryz.prog 300 os).forCall f ⟨#[],args,[]⟩).memory :=
 laidMetH_of_parts3 (fuel:=8) (laidMet_of_run' 8 (by kernel_rfl) (by kernel_rfl)) (by kernel_rfl) (by kernel_rfl)
end Go.Proofs.YtnicpmoanjddbaaGreatDoor.MidP
namespace Go.Proofs.YtnicpmoanjddbaaGreatDoor.MidP
open Go.RowKit Go.Proofs.YtnicpmoanjddbaaGreatDoor.TreeP
set_option linter.unusedVariables false
set_option linter.unusedSimpArgs false
structure Lw where
 types:List Int
 steps:List Stp
 names:List (List UInt8×Int)
 labels:Nat
 none:Int
def stp0:Stp:=⟨0,0,0,0,0,0,[],0,[],[]⟩
def getN:List (List UInt8×Int)→List UInt8→Int
 | [],_=>0
 | p::r,x=>if p.1=x then p.2 else getN r x
def putN (l:List (List UInt8×Int)) (x:List UInt8) (k:Int):List (List UInt8×Int):=(x,k)::l
theorem getN_put (l:List (List UInt8×Int)) (x y:List UInt8) (k:Int):getN (putN l x k) y=if y=x then k else getN l y:=by
 simp only [putN,getN]
 by_cases h:x=y
 · rw [if_pos h,if_pos h.symm]
 · rw [if_neg h,if_neg (fun e=>h e.symm)]
def placeL (k:Int) (w:Lw):Int×Lw:=((w.types.length:Int),{ w with types:=w.types++[k] })
def addL (s:Stp) (w:Lw):Lw:={ w with steps:=w.steps++[s] }
def toL (k:Int) (s:Stp) (w:Lw):Int×Lw:=((w.types.length:Int),{ w with types:=w.types++[k],steps:=w.steps++[{ s with dst:=(w.types.length:Int) }] })
def labelL (w:Lw):Nat×Lw:=(w.labels+1,{ w with labels:=w.labels+1 })
def zeroL (a:Int) (w:Lw):Int×Lw:=toL 1 { stp0 with code:=3,op:=[61,61],a:=a,b:=w.none } w
def nameL (x:List UInt8) (k:Int) (w:Lw):Int×Lw:=((w.types.length:Int),{ w with types:=w.types++[k],names:=putN w.names x (w.types.length:Int) })
def shortA (op:List UInt8) (a:Int) (w:Lw):Int×Int×Lw :=
 if op=[124,124] then ((toL 1 { stp0 with code:=3,op:=[33,61],a:=a,b:=w.none } w).1,zeroL (toL 1 { stp0 with code:=3,op:=[33,61],a:=a,b:=w.none } w).1 (toL 1 { stp0 with code:=3,op:=[33,61],a:=a,b:=w.none } w).2)
 else ((toL 1 { stp0 with code:=3,op:=[33,61],a:=a,b:=w.none } w).1,toL 1 { stp0 with code:=3,op:=[33,61],a:=a,b:=w.none } w)
mutual
def exprL:Ex→Lw→Int×Lw
 | .num _ n,w=>toL 1 { stp0 with code:=1,n:=n } w
 | .var _ x,w=>(getN w.names x,w)
 | .un _ op x,w=>if op=[33] then zeroL (exprL x w).1 (exprL x w).2 else toL 1 { stp0 with code:=3,op:=[45],a:=(exprL x w).2.none,b:=(exprL x w).1 } (exprL x w).2
 | .bin _ op l r,w =>
   if op=[38,38]∨op=[124,124] then
    (let e:=labelL w
     let a:=exprL l e.2
     let s:=shortA op a.1 a.2
     let b:=exprL r (addL { stp0 with code:=5,a:=s.2.1,label:=(e.1:Int) } s.2.2)
     (s.1,addL { stp0 with code:=6,label:=(e.1:Int) } (addL { stp0 with code:=3,op:=[33,61],dst:=s.1,a:=b.1,b:=b.2.none } b.2)))
   else
    (let a:=exprL l w
     let b:=exprL r a.2
     toL 1 { stp0 with code:=3,op:=op,a:=a.1,b:=b.1 } b.2)
 | .call _ g args,w=>toL 1 { stp0 with code:=7,name:=g,args:=(argsL args w).1 } (argsL args w).2
 | .new _ x,w=>toL 2 { stp0 with code:=9,a:=(exprL x w).1 } (exprL x w).2
 | .len _ x,w=>toL 1 { stp0 with code:=10,a:=(exprL x w).1 } (exprL x w).2
 | .item _ x i,w=>toL 1 { stp0 with code:=11,a:=(exprL x w).1,b:=(exprL i (exprL x w).2).1 } (exprL i (exprL x w).2).2
 | .input _,w=>toL 1 { stp0 with code:=14 } w
def argsL:List Ex→Lw→List Int×Lw
 | [],w=>([],w)
 | e::r,w=>((exprL e w).1::(argsL r (exprL e w).2).1,(argsL r (exprL e w).2).2)
end
mutual
def stmtL:St→Lw→Lw
 | .var _ x v,w =>
   let a:=exprL v w
   let k:=nameL x (a.2.types.getD a.1.toNat 0) a.2
   addL { stp0 with code:=2,dst:=k.1,a:=a.1 } k.2
 | .set _ x v,w=>addL { stp0 with code:=2,dst:=getN (exprL v w).2.names x,a:=(exprL v w).1 } (exprL v w).2
 | .put _ x i v,w =>
   let a:=exprL i w
   let b:=exprL v a.2
   addL { stp0 with code:=12,a:=getN b.2.names x,b:=a.1,c:=b.1 } b.2
 | .cond _ v t e,w =>
   let l1:=labelL w
   let l2:=labelL l1.2
   let c:=exprL v l2.2
   let w1:=blockL t (addL { stp0 with code:=5,a:=c.1,label:=(l1.1:Int) } c.2)
   let w2:=blockL e (addL { stp0 with code:=6,label:=(l1.1:Int) } (addL { stp0 with code:=4,label:=(l2.1:Int) } w1))
   addL { stp0 with code:=6,label:=(l2.1:Int) } w2
 | .loop _ v t,w =>
   let l1:=labelL w
   let l2:=labelL l1.2
   let c:=exprL v (addL { stp0 with code:=6,label:=(l1.1:Int) } l2.2)
   let w1:=blockL t (addL { stp0 with code:=5,a:=c.1,label:=(l2.1:Int) } c.2)
   addL { stp0 with code:=6,label:=(l2.1:Int) } (addL { stp0 with code:=4,label:=(l1.1:Int) } w1)
 | .ret _ v,w=>addL { stp0 with code:=8,a:=(exprL v w).1 } (exprL v w).2
 | .print _ v,w=>addL { stp0 with code:=13,a:=(exprL v w).1 } (exprL v w).2
 | .call _ v,w=>(exprL v w).2
def blockL:List St→Lw→Lw
 | [],w=>w
 | x::r,w=>blockL r (stmtL x w)
end
def parsL:List (List UInt8×Int)→Lw→Lw
 | [],w=>w
 | p::r,w=>parsL r { w with types:=w.types++[p.2],names:=putN w.names p.1 (w.types.length:Int) }
def headL (f:TreeP.Fn):Lw :=
 let w:=parsL f.params ⟨[],[],[],0,0⟩
 { (toL 1 { stp0 with code:=1 } w).2 with none:=(w.types.length:Int) }
def lowL (f:TreeP.Fn):Lw:=addL { stp0 with code:=8,a:=(blockL f.body (headL f)).none } (blockL f.body (headL f))
def lowF (f:TreeP.Fn):Fm:=⟨f.name,(f.params.length:Int),(lowL f).types,(lowL f).steps⟩
def lowP (L:List TreeP.Fn):List Fm:=L.map lowF
def Lw.sz (w:Lw):Nat:=w.types.length+w.steps.length+w.labels+w.names.length
mutual
def exN:Ex→Nat
 | .num _ _=>1
 | .var _ _=>1
 | .un _ _ x=>1+exN x
 | .bin _ _ l r=>1+exN l+exN r
 | .call _ _ l=>1+exsN l
 | .new _ x=>1+exN x
 | .len _ x=>1+exN x
 | .item _ x i=>1+exN x+exN i
 | .input _=>1
def exsN:List Ex→Nat
 | []=>0
 | e::r=>exN e+exsN r
end
theorem to_sz (k:Int) (s:Stp) (w:Lw):(toL k s w).2.sz=w.sz+2:=by simp only [toL,Lw.sz,List.length_append,List.length_singleton];omega
theorem add_sz (s:Stp) (w:Lw):(addL s w).sz=w.sz+1:=by simp only [addL,Lw.sz,List.length_append,List.length_singleton];omega
theorem label_sz (w:Lw):(labelL w).2.sz=w.sz+1:=by simp only [labelL,Lw.sz];omega
theorem zero_sz (a:Int) (w:Lw):(zeroL a w).2.sz=w.sz+2:=to_sz _ _ _
theorem name_sz (x:List UInt8) (k:Int) (w:Lw):(nameL x k w).2.sz=w.sz+2:=by simp only [nameL,putN,Lw.sz,List.length_append,List.length_cons,List.length_nil];omega
theorem short_sz (op:List UInt8) (a:Int) (w:Lw):(shortA op a w).2.2.sz≤w.sz+4:=by
 unfold shortA
 split
 · simp only [zero_sz,to_sz];omega
 · simp only [to_sz];omega
mutual
theorem expr_sz:(e:Ex)→(w:Lw)→(exprL e w).2.sz≤w.sz+8*exN e
 | .num _ _,w=>by simp only [exprL,to_sz,exN];omega
 | .var _ _,w=>by simp only [exprL,exN];omega
 | .un _ op x,w=>by
   have h:=expr_sz x w
   simp only [exprL,exN]
   split
   · rw [zero_sz];omega
   · rw [to_sz];omega
 | .bin _ op l r,w=>by
   simp only [exprL,exN]
   split
   · simp only [add_sz]
     have h1:=label_sz w
     have h2:=expr_sz l (labelL w).2
     have h3:=short_sz op (exprL l (labelL w).2).1 (exprL l (labelL w).2).2
     refine Nat.le_trans (Nat.add_le_add_right (Nat.add_le_add_right (expr_sz r _) 1) 1) ?_
     rw [add_sz]
     omega
   · rw [to_sz]
     have h1:=expr_sz l w
     have h2:=expr_sz r (exprL l w).2
     omega
 | .call _ _ l,w=>by
   have h:=args_sz l w
   simp only [exprL,exN,to_sz]
   omega
 | .new _ x,w=>by
   have h:=expr_sz x w
   simp only [exprL,exN,to_sz]
   omega
 | .len _ x,w=>by
   have h:=expr_sz x w
   simp only [exprL,exN,to_sz]
   omega
 | .item _ x i,w=>by
   have h:=expr_sz x w
   have h2:=expr_sz i (exprL x w).2
   simp only [exprL,exN,to_sz]
   omega
 | .input _,w=>by simp only [exprL,to_sz,exN];omega
theorem args_sz:(l:List Ex)→(w:Lw)→(argsL l w).2.sz≤w.sz+8*exsN l
 | [],w=>by simp only [argsL];omega
 | e::r,w=>by
   have h1:=expr_sz e w
   have h2:=args_sz r (exprL e w).2
   simp only [argsL,exsN]
   omega
end
def nmOk (x:List UInt8):Prop:=x.length≤10000000
mutual
def NmE:Ex→Prop
 | .num _ _=>True
 | .var _ x=>nmOk x
 | .un _ op x=>nmOk op∧NmE x
 | .bin _ op l r=>nmOk op∧NmE l∧NmE r
 | .call _ g l=>nmOk g∧l.length≤1000000∧NmEs l
 | .new _ x=>NmE x
 | .len _ x=>NmE x
 | .item _ x i=>NmE x∧NmE i
 | .input _=>True
def NmEs:List Ex→Prop
 | []=>True
 | e::r=>NmE e∧NmEs r
end
mutual
def stN:St→Nat
 | .var _ _ v=>1+exN v
 | .set _ _ v=>1+exN v
 | .put _ _ i v=>1+exN i+exN v
 | .cond _ v t e=>1+exN v+stsN t+stsN e
 | .loop _ v t=>1+exN v+stsN t
 | .ret _ v=>1+exN v
 | .print _ v=>1+exN v
 | .call _ v=>1+exN v
def stsN:List St→Nat
 | []=>0
 | s::r=>stN s+stsN r
end
mutual
theorem stmt_sz:(s:St)→(w:Lw)→(stmtL s w).sz≤w.sz+8*stN s
 | .var _ x v,w=>by
   have h:=expr_sz v w
   simp only [stmtL,stN,add_sz,name_sz];omega
 | .set _ x v,w=>by
   have h:=expr_sz v w
   simp only [stmtL,stN,add_sz];omega
 | .put _ x i v,w=>by
   have h:=expr_sz i w
   have h2:=expr_sz v (exprL i w).2
   simp only [stmtL,stN,add_sz];omega
 | .cond _ v t e,w=>by
   simp only [stmtL,stN]
   generalize h1:labelL w=l1
   generalize h2:labelL l1.2=l2
   have e1:=label_sz w
   have e2:=label_sz l1.2
   rw [h1] at e1
   rw [h2] at e2
   have e3:=expr_sz v l2.2
   rw [add_sz]
   refine Nat.le_trans (Nat.add_le_add_right (block_sz e _) 1) ?_
   rw [add_sz,add_sz]
   refine Nat.le_trans (Nat.add_le_add_right (Nat.add_le_add_right (Nat.add_le_add_right (Nat.add_le_add_right (block_sz t _) 1) 1) _) 1) ?_
   rw [add_sz]
   omega
 | .loop _ v t,w=>by
   simp only [stmtL,stN]
   generalize h1:labelL w=l1
   generalize h2:labelL l1.2=l2
   have e1:=label_sz w
   have e2:=label_sz l1.2
   rw [h1] at e1
   rw [h2] at e2
   rw [add_sz,add_sz]
   refine Nat.le_trans (Nat.add_le_add_right (Nat.add_le_add_right (block_sz t _) 1) 1) ?_
   rw [add_sz]
   refine Nat.le_trans (Nat.add_le_add_right (Nat.add_le_add_right (Nat.add_le_add_right (Nat.add_le_add_right (expr_sz v _) 1) _) 1) 1) ?_
   rw [add_sz]
   omega
 | .ret _ v,w=>by
   have h:=expr_sz v w
   simp only [stmtL,stN,add_sz];omega
 | .print _ v,w=>by
   have h:=expr_sz v w
   simp only [stmtL,stN,add_sz];omega
 | .call _ v,w=>by
   have h:=expr_sz v w
   simp only [stmtL,stN];omega
theorem block_sz:(l:List St)→(w:Lw)→(blockL l w).sz≤w.sz+8*stsN l
 | [],w=>by simp only [blockL];omega
 | s::r,w=>by
   have h1:=stmt_sz s w
   have h2:=block_sz r (stmtL s w)
   simp only [blockL,stsN]
   omega
end
mutual
def NmS:St→Prop
 | .var _ x v=>nmOk x∧NmE v
 | .set _ x v=>nmOk x∧NmE v
 | .put _ x i v=>nmOk x∧NmE i∧NmE v
 | .cond _ v t e=>NmE v∧NmSs t∧NmSs e
 | .loop _ v t=>NmE v∧NmSs t
 | .ret _ v=>NmE v
 | .print _ v=>NmE v
 | .call _ v=>NmE v
def NmSs:List St→Prop
 | []=>True
 | s::r=>NmS s∧NmSs r
end
def PlOk (w:Lw):Prop:=0<w.types.length∧∀ x,0≤getN w.names x∧getN w.names x<(w.types.length:Int)
theorem PlOk.grow {w w':Lw} (h:PlOk w) (ht:w.types.length≤w'.types.length) (hn:w'.names=w.names):PlOk w' :=
 ⟨by have:=h.1;omega,fun x=>by rw [hn];have:=h.2 x;omega⟩
theorem to_ok {w:Lw} (k:Int) (s:Stp) (h:PlOk w):PlOk (toL k s w).2∧0≤(toL k s w).1∧(toL k s w).1<((toL k s w).2.types.length:Int):=by
 refine ⟨h.grow (by simp [toL]) rfl,?_,?_⟩
 · simp only [toL];omega
 · simp only [toL,List.length_append,List.length_singleton];omega
theorem add_ok {w:Lw} (s:Stp) (h:PlOk w):PlOk (addL s w):=h.grow (Nat.le_refl _) rfl
theorem label_ok {w:Lw} (h:PlOk w):PlOk (labelL w).2:=h.grow (Nat.le_refl _) rfl
theorem name_ok {w:Lw} (x:List UInt8) (k:Int) (h:PlOk w):PlOk (nameL x k w).2:=by
 refine ⟨by simp [nameL],fun y=>?_⟩
 have:=h.2 y
 simp only [nameL,getN_put,List.length_append,List.length_singleton]
 split <;> omega
theorem short_ok {w:Lw} (op:List UInt8) (a:Int) (h:PlOk w):PlOk (shortA op a w).2.2∧0≤(shortA op a w).1∧(shortA op a w).1<((shortA op a w).2.2.types.length:Int):=by
 unfold shortA
 split
 · have h1:=to_ok 1 { stp0 with code:=3,op:=[33,61],a:=a,b:=w.none } h
   refine ⟨(to_ok _ _ h1.1).1,h1.2.1,?_⟩
   have h2:=h1.2.2
   simp only [zeroL,toL,List.length_append,List.length_singleton] at h2 ⊢
   omega
 · exact to_ok _ _ h
mutual
theorem expr_ok:(e:Ex)→(w:Lw)→PlOk w→PlOk (exprL e w).2∧0≤(exprL e w).1∧(exprL e w).1<((exprL e w).2.types.length:Int)
 | .num _ _,w,h=>by simp only [exprL];exact to_ok _ _ h
 | .var _ x,w,h=>by simp only [exprL];exact ⟨h,h.2 x⟩
 | .un _ op x,w,h=>by
   have h1:=expr_ok x w h
   simp only [exprL]
   split
   · exact to_ok _ _ h1.1
   · exact to_ok _ _ h1.1
 | .bin _ op l r,w,h=>by
   simp only [exprL]
   split
   · have h1:=expr_ok l _ (label_ok h)
     have h2:=short_ok op (exprL l (labelL w).2).1 h1.1
     refine ⟨add_ok _ (add_ok _ (expr_ok r _ (add_ok _ h2.1)).1),h2.2.1,?_⟩
     refine Int.lt_of_lt_of_le h2.2.2 ?_
     refine Int.ofNat_le.2 ?_
     refine Nat.le_trans ?_ (expr_tp r _)
     exact Nat.le_refl _
   · have h1:=expr_ok l w h
     have h2:=expr_ok r _ h1.1
     exact to_ok _ _ h2.1
 | .call _ _ l,w,h=>by
   simp only [exprL]
   exact to_ok _ _ (args_ok l w h)
 | .new _ x,w,h=>by
   simp only [exprL]
   exact to_ok _ _ (expr_ok x w h).1
 | .len _ x,w,h=>by
   simp only [exprL]
   exact to_ok _ _ (expr_ok x w h).1
 | .item _ x i,w,h=>by
   simp only [exprL]
   exact to_ok _ _ (expr_ok i _ (expr_ok x w h).1).1
 | .input _,w,h=>by simp only [exprL];exact to_ok _ _ h
theorem args_ok:(l:List Ex)→(w:Lw)→PlOk w→PlOk (argsL l w).2
 | [],w,h=>h
 | e::r,w,h=>by
   simp only [argsL]
   exact args_ok r _ (expr_ok e w h).1
theorem expr_tp:(e:Ex)→(w:Lw)→w.types.length≤(exprL e w).2.types.length
 | .num _ _,w=>by simp [exprL,toL]
 | .var _ x,w=>by simp [exprL]
 | .un _ op x,w=>by
   have h1:=expr_tp x w
   simp only [exprL]
   split
   · simp only [zeroL,toL,List.length_append,List.length_singleton];omega
   · simp only [toL,List.length_append,List.length_singleton];omega
 | .bin _ op l r,w=>by
   simp only [exprL]
   split
   · have h1:=expr_tp l (labelL w).2
     refine Nat.le_trans ?_ (expr_tp r _)
     refine Nat.le_trans h1 ?_
     unfold shortA
     split
     · simp only [addL,zeroL,toL,List.length_append,List.length_singleton];omega
     · simp only [addL,toL,List.length_append,List.length_singleton];omega
   · have h1:=expr_tp l w
     have h2:=expr_tp r (exprL l w).2
     simp only [toL,List.length_append,List.length_singleton];omega
 | .call _ _ l,w=>by
   have h1:=args_tp l w
   simp only [exprL,toL,List.length_append,List.length_singleton];omega
 | .new _ x,w=>by
   have h1:=expr_tp x w
   simp only [exprL,toL,List.length_append,List.length_singleton];omega
 | .len _ x,w=>by
   have h1:=expr_tp x w
   simp only [exprL,toL,List.length_append,List.length_singleton];omega
 | .item _ x i,w=>by
   have h1:=expr_tp x w
   have h2:=expr_tp i (exprL x w).2
   simp only [exprL,toL,List.length_append,List.length_singleton];omega
 | .input _,w=>by simp [exprL,toL]
theorem args_tp:(l:List Ex)→(w:Lw)→w.types.length≤(argsL l w).2.types.length
 | [],w=>Nat.le_refl _
 | e::r,w=>by
   have h1:=expr_tp e w
   have h2:=args_tp r (exprL e w).2
   simp only [argsL]
   omega
end
mutual
theorem stmt_ok:(s:St)→(w:Lw)→PlOk w→PlOk (stmtL s w)
 | .var _ x v,w,h=>by simp only [stmtL];exact add_ok _ (name_ok _ _ (expr_ok v w h).1)
 | .set _ x v,w,h=>by simp only [stmtL];exact add_ok _ (expr_ok v w h).1
 | .put _ x i v,w,h=>by simp only [stmtL];exact add_ok _ (expr_ok v _ (expr_ok i w h).1).1
 | .cond _ v t e,w,h=>by
   simp only [stmtL]
   exact add_ok _ (block_ok e _ (add_ok _ (add_ok _ (block_ok t _ (add_ok _ (expr_ok v _ (label_ok (label_ok h))).1)))))
 | .loop _ v t,w,h=>by
   simp only [stmtL]
   exact add_ok _ (add_ok _ (block_ok t _ (add_ok _ (expr_ok v _ (add_ok _ (label_ok (label_ok h)))).1)))
 | .ret _ v,w,h=>by simp only [stmtL];exact add_ok _ (expr_ok v w h).1
 | .print _ v,w,h=>by simp only [stmtL];exact add_ok _ (expr_ok v w h).1
 | .call _ v,w,h=>by simp only [stmtL];exact (expr_ok v w h).1
theorem block_ok:(l:List St)→(w:Lw)→PlOk w→PlOk (blockL l w)
 | [],w,h=>h
 | s::r,w,h=>by
   simp only [blockL]
   exact block_ok r _ (stmt_ok s w h)
end
theorem parsL_snoc:(l:List (List UInt8×Int))→(p:List UInt8×Int)→(w:Lw)→parsL (l++[p]) w=(nameL p.1 p.2 (parsL l w)).2
 | [],p,w=>rfl
 | a::l,p,w=>by
   simp only [List.cons_append,parsL]
   exact parsL_snoc l p _
theorem pars_sz:(l:List (List UInt8×Int))→(w:Lw)→(parsL l w).sz=w.sz+2*l.length
 | [],w=>rfl
 | a::l,w=>by
   have:=pars_sz l (nameL a.1 a.2 w).2
   rw [name_sz] at this
   simp only [parsL,List.length_cons]
   simp only [nameL] at this
   rw [this]
   omega
def PlQ (w:Lw):Prop:=∀ x,0≤getN w.names x∧(getN w.names x<(w.types.length:Int)∨getN w.names x=0)
theorem pars_ok:(l:List (List UInt8×Int))→(w:Lw)→PlQ w→PlQ (parsL l w)
 | [],w,h=>h
 | a::l,w,h=>by
   simp only [parsL]
   refine pars_ok l _ (fun y=>?_)
   have:=h y
   simp only [getN_put,List.length_append,List.length_singleton]
   split <;> omega
def w00:Lw:=⟨[],[],[],0,0⟩
theorem head_ok (f:TreeP.Fn):PlOk (headL f):=by
 have h:=pars_ok f.params w00 (fun x=>⟨Int.le_refl 0,Or.inr rfl⟩)
 refine ⟨by simp [headL,toL],fun x=>?_⟩
 have:=h x
 simp only [headL,toL,List.length_append,List.length_singleton]
 show 0≤getN (parsL f.params w00).names x∧getN (parsL f.params w00).names x<(((parsL f.params w00).types.length+1:Nat):Int)
 omega
theorem head_sz (f:TreeP.Fn):(headL f).sz=2*f.params.length+2:=by
 have h:=to_sz 1 { stp0 with code:=1 } (parsL f.params w00)
 rw [pars_sz] at h
 have h0:w00.sz=0:=rfl
 show (toL 1 { stp0 with code:=1 } (parsL f.params w00)).2.sz=_
 omega
def LowOk (f:TreeP.Fn):Prop:=(∀ p∈f.params,nmOk p.1)∧NmSs f.body∧2*f.params.length+8*stsN f.body≤800000
def mfS:List UInt8:=[102,110,32,109,97,105,110,40,41,32,123,32,118,97,114,32,97,32,61,32,110,101,119,40,50,41,59,32,97,91,49,93,32,61,32,54,59,32,105,102,32,40,97,91,49,93,32,62,32,53,32,38,38,32,108,101,110,40,97,41,32,61,61,32,50,41,32,123,32,112,114,105,110,116,32,97,91,49,93,59,32,125,32,114,101,116,117,114,110,32,102,40,97,44,32,50,41,59,32,125,32,102,110,32,102,40,120,58,32,97,114,114,44,32,110,58,32,105,110,116,41,32,123,32,114,101,116,117,114,110,32,120,91,110,93,59,32,125]
def mfL:List TreeP.Fn:=[⟨[109,97,105,110],0,[],[.var 12 [97] (.new 20 (.num 24 2)),.put 28 [97] (.num 30 1) (.num 35 6),.cond 38 (.bin 42 [38,38] (.bin 42 [62] (.item 42 (.var 42 [97]) (.num 44 1)) (.num 49 5)) (.bin 54 [61,61] (.len 54 (.var 58 [97])) (.num 64 2))) [.print 69 (.item 75 (.var 75 [97]) (.num 77 1))] [],.ret 83 (.call 90 [102] [.var 92 [97],.num 95 2])]⟩,⟨[102],101,[([120],2),([110],1)],[.ret 124 (.item 131 (.var 131 [120]) (.var 133 [110]))]⟩]
def mfT:List Tok:=match lexF 300 mfS 0 0 with|some (.ok t)=>t|_=>[]
set_option maxRecDepth 100000 in
theorem mf_lex:lexF 300 mfS 0 0=some (.ok mfT):=by kernel_rfl
set_option maxRecDepth 100000 in
theorem mf_prog:programF 900 [] mfT=some (.ok (mfL,[⟨4,[],138⟩])):=by kernel_rfl
set_option maxRecDepth 100000 in
theorem mf_check:bindK (twiceK [] mfL) (fun _=>bindK (fnsK mfL mfL) fun _=>.ok (mfL.any mainB))=.ok true:=by kernel_rfl
theorem mf_ok:∀ f∈mfL,LowOk f:=by
 intro f hf
 unfold mfL at hf
 simp only [List.mem_cons,List.not_mem_nil,or_false] at hf
 rcases hf with rfl|rfl
 · refine ⟨fun p hp=>by simp at hp,?_,?_⟩
   · simp [NmSs,NmS,NmE,NmEs,nmOk]
   · simp [stsN,stN,exN,exsN]
 · refine ⟨fun p hp=>?_,?_,?_⟩
   · simp only [List.mem_cons,List.not_mem_nil,or_false] at hp
     rcases hp with rfl|rfl <;> simp [nmOk]
   · simp [NmSs,NmS,NmE,NmEs,nmOk]
   · simp [stsN,stN,exN,exsN]
set_option maxRecDepth 100000 in
theorem mf_code:codeB (lowP mfL)=true:=by kernel_rfl
def mfC:Int:=match runM (lowP mfL) 200 [] 1000 with|some x=>x.2.1|none=>0
set_option maxRecDepth 100000 in
theorem mf_run:runM (lowP mfL) 200 [] 1000=some (3,mfC,[6]):=by kernel_rfl
end Go.Proofs.YtnicpmoanjddbaaGreatDoor.MidP
namespace Go.Proofs.YtnicpmoanjddbaaGreatDoor.MidP
open Go.RowKit Go.Proofs.YtnicpmoanjddbaaGreatDoor.Wo Go.Maps Go.Proofs.YtnicpmoanjddbaaGreatDoor.TreeP
set_option linter.unusedVariables false
set_option linter.unusedSimpArgs false
theorem int_info:(Tryz.prog.info? 3).map (fun i=>(i.zero,i.size,i.bytes))=some (some (.int .i64 0),1,8):=by kernel_rfl
def zeroStp:Value:=.agg #[.int .i64 0,.int .i64 0,.int .i64 0,.int .i64 0,.int .i64 0,.int .i64 0,.string ⟨#[]⟩,.int .i64 0,.string ⟨#[]⟩,.slice none 0 0]
theorem stp_info:(Tryz.prog.info? 57).map (fun i=>(i.zero,i.size,i.bytes))=some (some zeroStp,10,112):=by kernel_rfl
def RelS (W:World) (S:Nat→Prop) (cs:List Value) (l:List Stp):Prop:=∀ (i:Nat) (x:Stp),l[i]?=some x→∃ av,(∀ k u,(stpL x av)[k]?=some u→cs[i*10+k]?=some u)∧IntsAt W S av x.args
theorem RelS.mods {W W':World} {S T:Nat→Prop} {cs:List Value} {l:List Stp} (h:RelS W S cs l) (hm:Mods S W W') (hT:∀ k,k<W.heap.size→T k→S k):RelS W' T cs l:=fun i x hx=>by
 obtain ⟨av,h1,h2⟩:=h i x hx
 exact ⟨av,h1,h2.mods hm hT⟩
theorem stpL_len (x:Stp) (av:Value):(stpL x av).length=10:=rfl
theorem RelS.grow {W:World} {S:Nat→Prop} {cs:List Value} {l:List Stp} (h:RelS W S cs l) (hl:cs.length=l.length*10) {x:Stp} {av:Value} (hx:IntsAt W S av x.args):RelS W S (cs++stpL x av) (l++[x]):=fun i y hy=>by
 rcases Nat.lt_or_ge i l.length with hi|hi
 · rw [List.getElem?_append_left hi] at hy
   obtain ⟨bv,h1,h2⟩:=h i y hy
   refine ⟨bv,fun k u hk=>?_,h2⟩
   have hk10:k<10:=by
    have:=(List.getElem?_eq_some_iff.1 hk).1
    rwa [stpL_len] at this
   rw [List.getElem?_append_left (by omega)]
   exact h1 k u hk
 · rw [List.getElem?_append_right hi] at hy
   obtain ⟨hi2,hy⟩:=List.getElem?_eq_some_iff.1 hy
   simp only [List.length_singleton] at hi2
   obtain rfl:i=l.length:=by omega
   simp only [Nat.sub_self,List.getElem_cons_zero] at hy
   subst hy
   refine ⟨av,fun k u hk=>?_,hx⟩
   rw [List.getElem?_append_right (by omega),show l.length*10+k-cs.length=k by omega]
   exact hk
/-! Functions that are collected. -/
def fmL (F:Fm) (tv sv:Value):List Value:=[str F.name,.int .i64 F.params,tv,sv]
def RelF (W:World) (S:Nat→Prop) (cs:List Value) (l:List Fm):Prop:=∀ (i:Nat) (x:Fm),l[i]?=some x→∃ tv sv,(∀ k u,(fmL x tv sv)[k]?=some u→cs[i*4+k]?=some u)∧IntsAt W S tv x.types∧StpsAt W S sv x.steps
theorem RelF.mods {W W':World} {S T:Nat→Prop} {cs:List Value} {l:List Fm} (h:RelF W S cs l) (hm:Mods S W W') (hT:∀ k,k<W.heap.size→T k→S k):RelF W' T cs l:=fun i x hx=>by
 obtain ⟨tv,sv,h1,h2,h3⟩:=h i x hx
 exact ⟨tv,sv,h1,h2.mods hm hT,h3.mods hm hT⟩
theorem RelF.grow {W:World} {S:Nat→Prop} {cs:List Value} {l:List Fm} (h:RelF W S cs l) (hl:cs.length=l.length*4) {x:Fm} {tv sv:Value} (hx:IntsAt W S tv x.types) (hx2:StpsAt W S sv x.steps):RelF W S (cs++fmL x tv sv) (l++[x]):=fun i y hy=>by
 rcases Nat.lt_or_ge i l.length with hi|hi
 · rw [List.getElem?_append_left hi] at hy
   obtain ⟨bv,dv,h1,h2,h3⟩:=h i y hy
   refine ⟨bv,dv,fun k u hk=>?_,h2,h3⟩
   have hk10:k<4:=(List.getElem?_eq_some_iff.1 hk).1
   rw [List.getElem?_append_left (by omega)]
   exact h1 k u hk
 · rw [List.getElem?_append_right hi] at hy
   obtain ⟨hi2,hy⟩:=List.getElem?_eq_some_iff.1 hy
   simp only [List.length_singleton] at hi2
   obtain rfl:i=l.length:=by omega
   simp only [Nat.sub_self,List.getElem_cons_zero] at hy
   subst hy
   refine ⟨tv,sv,fun k u hk=>?_,hx,hx2⟩
   rw [List.getElem?_append_right (by omega),show l.length*4+k-cs.length=k by omega]
   exact hk
def OutF (W:World) (base q:Nat) (v:Value) (l:List Fm):Prop:=∃ cs,W.ownsRow base 55 4 v l.length cs∧RelF W (fun k=>k=q∨v.ownBlock=some k) cs l∧∀ k,v.ownBlock=some k→k≠q
theorem OutF.none_ (W:World) (base q:Nat):OutF W base q (.slice none 0 0) []:=⟨[],World.ownsRow_nil _ _ _ _,(fun i x hx=>by simp at hx),(fun k hk=>by cases hk)⟩
theorem OutF.mods {W W':World} {base q:Nat} {v:Value} {l:List Fm} (h:OutF W base q v l) (hm:Mods (·=q) W W'):OutF W' base q v l:=by
 obtain ⟨cs,h1,h2,h3⟩:=h
 exact ⟨cs,hm.ownsRow h1 (fun k hk ht=>h3 k hk ht),h2.mods (hm.mono fun k _ ht=>Or.inl ht) (fun _ _ k=>k),h3⟩
theorem OutF.form {W:World} {base q:Nat} {v:Value} {l:List Fm} (h:OutF W base q v l):∃ oa oc,v=.slice oa l.length oc:=by
 obtain ⟨cs,h1,_⟩:=h
 rcases h1.2 with ⟨hv,h0⟩|⟨g,cap,cur,hv,_⟩
 · exact ⟨_,_,by rw [hv,h0]⟩
 · exact ⟨_,_,hv⟩
theorem OutF.lt {W:World} {base q:Nat} {v:Value} {l:List Fm} (h:OutF W base q v l):∀ k,v.ownBlock=some k→base≤k∧k<W.heap.size:=by
 obtain ⟨cs,h1,_⟩:=h
 exact h1.lt
theorem OutF.at_ {W:World} {base q:Nat} {v:Value} {l:List Fm} (h:OutF W base q v l):FmsAt W None v l:=by
 obtain ⟨cs,h1,h2,-⟩:=h
 rcases h1.2 with ⟨hv,h0⟩|⟨g,cap,cur,hv,h3,h4,h5,h6,h7,h8⟩
 · obtain rfl:l=[]:=List.eq_nil_of_length_eq_zero h0
   exact ⟨none,0,hv,Nat.zero_le _,Nat.zero_le _,fun _=>rfl,fun i s hs=>by simp at hs⟩
 · refine ⟨_,cap,hv,h5,h6,(fun h=>by cases h),fun i s hs=>?_⟩
   obtain ⟨tv,sv,k1,k2,k3⟩:=h2 i s hs
   have hc:∀ k u,(fmL s tv sv)[k]?=some u→W.cell? ⟨g,0+i*4+k,none⟩=some u:=fun k u hk=>by
    have:=h1.cells (g:=g) (by rw [hv];rfl) (i*4+k) u (k1 k u hk)
    rw [add_plain] at this
    rw [Nat.add_assoc]
    exact this
   exact ⟨g,0,tv,sv,rfl,(fun f=>f),hc 0 _ rfl,hc 1 _ rfl,hc 2 _ rfl,hc 3 _ rfl,k2.mods (Mods.refl _ _) (fun k _ f=>f.elim),k3.mods (Mods.refl _ _) (fun k _ f=>f.elim)⟩
theorem outF_grow {w4 w5:World} {base q:Nat} {v v':Value} {l:List Fm} {cs:List Value} {x:Fm} {tv sv:Value} (h1:w4.ownsRow base 55 4 v l.length cs) (h2:RelF w4 (fun k=>k=q∨v.ownBlock=some k) cs l) (h3:∀ k,v.ownBlock=some k→k≠q) (hq:q<w4.heap.size) (hx:IntsAt w4 (fun k=>k=q∨v.ownBlock=some k) tv x.types) (hx2:StpsAt w4 (fun k=>k=q∨v.ownBlock=some k) sv x.steps)
 (hown:w5.ownsRow base 55 4 v' (l.length+1) (cs++fmL x tv sv)) (hg:w4.grownBy w5 v.ownBlock) (hloc:v'.ownBlock=v.ownBlock∨v'.ownBlock=some w4.heap.size):OutF w5 base q v' (l++[x]):=by
 have hm:Mods (fun k=>k=q∨v.ownBlock=some k) w4 w5:=(Mods.of_grownBy (S:=fun k=>v.ownBlock=some k) hg (fun k hk _=>hk)).mono fun k _ h=>Or.inr h
 have hT:∀ k,k<w4.heap.size→(k=q∨v'.ownBlock=some k)→(k=q∨v.ownBlock=some k):=fun k hk e=>e.imp id (fun e=>by
  rcases hloc with hl|hl
  · rw [← hl];exact e
  · rw [hl] at e
    have:=Option.some.inj e
    omega)
 refine ⟨cs++fmL x tv sv,by simpa using hown,?_,fun k hk e=>?_⟩
 · exact (h2.mods hm hT).grow h1.1 (hx.mods hm hT) (hx2.mods hm hT)
 · rcases hloc with hl|hl
   · exact h3 k (by rw [← hl];exact hk) e
   · rw [hl] at hk
     have:=Option.some.inj hk
     omega
def zeroFnV:Value:=.agg #[.string ⟨#[]⟩,.int .i64 0,.slice none 0 0,.slice none 0 0]
theorem fn_info:(Tryz.prog.info? 55).map (fun i=>(i.zero,i.size,i.bytes))=some (some zeroFnV,4,72):=by kernel_rfl
end Go.Proofs.YtnicpmoanjddbaaGreatDoor.MidP

/- Both readers, of any short text. Conditions: what both readers read of the package's variables lies (Lies, Laid). What the rows against the reference list lies as the walks want it; a world that bears it. Conditions: none. Errors told: contracts of plain.Place and law.is, of no error and of a bare Errno. Conditions: errors.errorType lies as the program lays it. errors.As at the target *Errno, of an error at a place; api.Tell of it. Conditions: errors.errorType lies as the program lays it. plain.Place and law.is of an error at a place. Conditions: errors.errorType lies as the program lays it. What is found of a program, plainly. No program in sight. No conditions. The checker as it lies in memory; what it finds a name to be; names that are added. Conditions: its functions and names lie. The checker's look at expressions. Conditions: its functions, names, and the expression lie. -/
import Derived.Test.YtdgedlhefjmcpaaGreatDoorEn17
import Derived.Test.YtdgedlhefjmcpaaGreatDoorEn07
import Derived.Test.YtdgedlhefjmcpaaGreatDoorEn08
import Derived.Lay
import Derived.Lib.LaidIn
import Derived.Shelf.Vars
import Derived.WalkSpells
import Derived.WalkLawsBesides
import Derived.Outline
import Derived.Test.YtdgedlhefjmcpaaGreatDoorEn01
import Derived.Test.YtdgedlhefjmcpaaGreatDoorEn02
import Derived.Laws.AppendOwn
import Derived.Laws.PanicsMore
import Derived.Deep.RegionLaw
import Derived.Deep.RegionWith
namespace Go.Proofs.YtdgedlhefjmcpaaGreatDoor.TreeP.R
open Go.RowKit Go.Proofs.YtdgedlhefjmcpaaGreatDoor.Wo Go.Proofs.YtdgedlhefjmcpaaGreatDoor.TreeP
set_option linter.unusedVariables false
set_option linter.unusedSimpArgs false
theorem ref_read (s:List UInt8) (x:Except (Int×Int) (List Fn)) (W:World) (hL:Lies W) (hlen:s.length≤10000000) (h:ReadTo s x):Calls Tryz.prog 15 #[str s] W (Parsed W x):=by
 rcases h with ⟨f,n,a,hx,rfl⟩|⟨f,fp,ts,y,hx,hp,rfl⟩
 ·exact parse_bad s f n a W hL hlen hx
 ·have h:=parse_run s f fp ts y W hL hlen hx hp
  cases y <;> exact h
theorem tree_read (s:List UInt8) (x:Except (Int×Int) (List Fn)) (W:World) (hL:Laid W) (hlen:s.length≤10000000) (h:ReadTo s x):Calls Tryz.prog 11 #[str s] W (TreeP.Parsed W x):=by
 rcases h with ⟨f,n,a,h1,rfl⟩|⟨f,fp,ts,y,h1,h2,rfl⟩
 ·exact TreeP.parse_bad s f n a W hL hlen h1
 ·exact TreeP.parse_run s f fp ts y W hL hlen h1 h2
theorem lies_next {W W':World} (h:Lies W) (hm:Mods None W W'):Lies W':=by
 refine ⟨?_,?_,?_⟩
 ·obtain ⟨h1,h2,h3⟩:=h.fine.far hm (fun _ f=>f.elim)
  exact ⟨Nat.lt_of_lt_of_le h1 hm.size,h2,h3⟩
 ·obtain ⟨h1,m,h2⟩:=h.most.far hm (fun _ f=>f.elim)
  exact ⟨Nat.lt_of_lt_of_le h1 hm.size,m,h2⟩
 ·obtain ⟨h1,t,p,h2⟩:=h.rng
  exact ⟨Nat.lt_of_lt_of_le h1 hm.size,t,p,hm.cellOf h2 (fun f=>f)⟩
end Go.Proofs.YtdgedlhefjmcpaaGreatDoor.TreeP.R
namespace Go.Proofs.YtdgedlhefjmcpaaGreatDoor.TreeP
open Go.Joins Go.ChangeShapes Go.WideShapes Go.RowKit Go.Deep
set_option linter.unusedSimpArgs false
set_option linter.unusedVariables false
set_option maxRecDepth 100000
noncomputable def eleven : List (String × DataW Unit) := [("math/bits.deBruijn32tab", Rows.laid_math_bits_deBruijn32tab), ("math/bits.deBruijn64tab", Rows.laid_math_bits_deBruijn64tab), ("internal/strconv.uint64pow10", Rows.laid_internal_strconv_uint64pow10), ("unicode/utf8.acceptRanges", Rows.laid_unicode_utf8_acceptRanges), ("errors.errorType", Rows.laid_errors_errorType), ("strconv.ErrRange", Rows.laid_strconv_ErrRange), ("strconv.ErrSyntax", Rows.laid_strconv_ErrSyntax), ("bloomery/bloomeryref.Fine", Rows.laid_bloomery_bloomeryref_Fine), ("bloomery/tree.marks", Rows.laid_bloomery_tree_marks), ("bloomery/tree.levels", Rows.laid_bloomery_tree_levels), ("unicode/utf8.first", Rows.laid_unicode_utf8_first)]
noncomputable def nine : List (String × DataW Unit) := [("math/bits.deBruijn32tab", Rows.laid_math_bits_deBruijn32tab), ("math/bits.deBruijn64tab", Rows.laid_math_bits_deBruijn64tab), ("internal/strconv.uint64pow10", Rows.laid_internal_strconv_uint64pow10), ("unicode/utf8.acceptRanges", Rows.laid_unicode_utf8_acceptRanges), ("strconv.ErrRange", Rows.laid_strconv_ErrRange), ("strconv.ErrSyntax", Rows.laid_strconv_ErrSyntax), ("bloomery/bloomeryref.Fine", Rows.laid_bloomery_bloomeryref_Fine), ("bloomery/tree.marks", Rows.laid_bloomery_tree_marks), ("bloomery/tree.levels", Rows.laid_bloomery_tree_levels)]
noncomputable def tenth : List (String × DataW Unit) := [("unicode/utf8.first", Rows.laid_unicode_utf8_first)]
noncomputable def ten:List (String×DataW Unit):=nine++tenth
noncomputable def elevenW (os:Os):World:=(World.doorLaid Tryz.prog 300 os).layVars Tryz.prog tenth
noncomputable def elevenB (os:Os):List Nat:=((DataW.laidRun Tryz.prog (elevenW os) 8 (nine.map (·.1))).map fun x=>(x.2.map (·.block)).eraseDups).getD []
theorem elevenW_os (os:Os):(elevenW os).os=os:=World.layVars_os _ _ _
theorem nine_in (os:Os):LaidIn Tryz.prog (elevenW os) nine (elevenB os):=LaidIn.of_run _ 8 (by kernel_rfl) (by kernel_rfl) (by kernel_rfl) (by kernel_rfl)
theorem ten_met (os:Os):laidMet Tryz.prog (eleven.filter fun x=>x.2.handleName?.isNone) (elevenW os) :=
 laidMet_layVars (w0 := World.doorLaid Tryz.prog 300 os) ["unicode/utf8.first"] (elevenB os) rfl (by kernel_rfl) (by kernel_rfl) (nine_in os)
theorem eleven_met (os:Os) (f:_) (args:Array Value):laidMetH Tryz.prog eleven ((elevenW os).forCall f ⟨#[],args,[]⟩).memory :=
 laidMetH_of_parts3 (fuel:=8) ((ten_met os).of_heap (by simp [World.memory,World.forCall,Input.heap])) (by kernel_rfl) (by kernel_rfl)
theorem gFine : Tryz.prog.globalNamed "bloomery/bloomeryref.Fine" = some 0 := by kernel_rfl
theorem tyFine:(Tryz.prog.globals[0]?).map (·.type)=some 40:=by kernel_rfl
noncomputable def faultFs:=match Tryz.prog.underlying 40 with|some (.struct fs)=>fs|_=>#[]
noncomputable def faultF (i:Nat):Field:=faultFs.getD i default
theorem undFault:Tryz.prog.underlying 40=some (.struct #[faultF 0,faultF 1]):=by kernel_rfl
theorem faultF0:Tryz.prog.underlying (faultF 0).type=some (.int .i64)∧(faultF 0).offset=0∧Tryz.prog.cellsOf (faultF 0).type=1:=⟨by kernel_rfl,by kernel_rfl,by kernel_rfl⟩
theorem faultF1:Tryz.prog.underlying (faultF 1).type=some (.int .i64)∧(faultF 1).offset=1∧Tryz.prog.cellsOf (faultF 1).type=1:=⟨by kernel_rfl,by kernel_rfl,by kernel_rfl⟩
theorem fine_of {W : World} {l : List (String × DataW Unit)} {ps : List MemPlace} (h : DataW.LaidVars Tryz.prog W l ps) (hm : ("bloomery/bloomeryref.Fine", Rows.laid_bloomery_bloomeryref_Fine) ∈ l) : R.FineAt W W.heap.size := by
 obtain ⟨g,t,cs,fuel,p,h1,h2,h3,h4⟩:=vars_at h hm
 obtain rfl:=Option.some.inj (gFine.symm.trans h1)
 obtain rfl:=Option.some.inj (tyFine.symm.trans h2)
 obtain ⟨a0,a1,a2⟩:=faultF0
 obtain ⟨b0,b1,b2⟩:=faultF1
 obtain ⟨y0,y1,n,hx,hl,c0,c1⟩:=trod_struct2 undFault h4
 rw [a1,a2] at c0
 rw [b1,b2] at c1
 obtain ⟨n0,d0,e0,_⟩:=DataW.trod_int a0 c0
 obtain ⟨n1,d1,e1,_⟩:=DataW.trod_int b0 c1
 have e:(Rows.laid_bloomery_bloomeryref_Fine:DataW Unit)=.agg [.lit (.int .i64 0),.lit (.int .i64 (-1))]:=rfl
 rw [e,e0,e1] at hx
 simp only [Prod.mk.injEq,DataW.agg.injEq,List.cons.injEq,DataW.lit.injEq,Lit.int.injEq,true_and,and_true] at hx
 obtain ⟨⟨rfl,rfl⟩,_⟩:=hx
 have k0:W.cell? ⟨0,0,none⟩=some (.int .i64 0):=by
  rw [World.var?_cell h1 h3,← Array.getElem?_toList,one_cell d0]
 have k1:W.cell? ⟨0,1,none⟩=some (.int .i64 (-1)):=by
  rw [World.var?_cell h1 h3,← Array.getElem?_toList,one_cell d1]
 exact ⟨World.block_lt_of_cell? _ _ k0,k0,k1⟩
theorem eleven_laid {W:World} (h:laidMetH Tryz.prog eleven W):All W∧ErrP.ErrLaid W∧R.FineAt W W.heap.size:=by
 have h' : laidMet Tryz.prog ten W ∧ handlesMet Tryz.prog [("errors.errorType", Rows.laid_errors_errorType)] W := h
 obtain ⟨ps,hv,_⟩:=h'.1
 exact ⟨all_of_vars hv (by simp [ten,nine]) (by simp [ten,nine]) (by simp [ten,nine]) (by simp [ten,nine]),ErrP.err_of_handles h'.2 (List.mem_singleton.2 rfl),fine_of hv (by simp [ten,nine])⟩
theorem most_of {W:World} (h:W.ShapedOpen Tryz.prog):R.MaxAt W W.heap.size:=by
 obtain ⟨m,hm⟩:=Go.Proofs.cell_of_shapedOpen_int (P:=Tryz.prog) (g:=3) (t:=3) (zero:=#[.int .i64 0]) h (of_decide_eq_true (by kernel_rfl)) (by kernel_rfl) rfl (by kernel_rfl) (by kernel_rfl) Tryz.underlying3
 exact ⟨World.block_lt_of_cell? _ _ hm,m,hm⟩
theorem lies_of {W:World} (h:laidMetH Tryz.prog eleven W) (hS:W.ShapedOpen Tryz.prog):R.Lies W:=⟨(eleven_laid h).2.2,most_of hS,(eleven_laid h).1.laid.rng⟩
end Go.Proofs.YtdgedlhefjmcpaaGreatDoor.TreeP
namespace Go.Proofs.YtdgedlhefjmcpaaGreatDoor.ErrP
open Go.RowKit Go.Proofs.YtdgedlhefjmcpaaGreatDoor.Wo
set_option linter.unusedVariables false
set_option linter.unusedSimpArgs false
theorem fault_bare (a:Int) (W:World):Calls Tryz.prog 59 #[.int .i64 a] W fun e W'=>e=.returned (.agg #[.int .i64 a,.int .i64 (-1)])∧Mods None W W':=by
 go_enter Tryz.func59,Tryz.ntmps59
 go_wp2
 refine bodyPost_ret (v:=.agg #[.int .i64 a,.int .i64 (-1)]) (by simp [results,Tryz.results59,go_sem]) rfl ⟨rfl,?_⟩
 exact (Mods.refl _ _).alloc _
end Go.Proofs.YtdgedlhefjmcpaaGreatDoor.ErrP
namespace Go.Proofs.YtdgedlhefjmcpaaGreatDoor.ErrP
open Go.RowKit Go.Proofs.YtdgedlhefjmcpaaGreatDoor.Wo
open Go.Extern.Stop Go.Stop Go.Extern
set_option linter.unusedVariables false
set_option linter.unusedSimpArgs false
theorem typeOfA (v:Value) (w:World):(ReflectliteType.typeOf #[.iface 136 v]).run Tryz.prog w=.ok (.iface 204 (.agg #[.pointer (some ⟨12,136,none⟩)])) w:=by kernel_rfl
theorem assignableA (w : World) : (ReflectliteType.relation "AssignableTo" ReflectliteType.assignableTo #[.agg #[.pointer (some ⟨12, 136, none⟩)], .iface 204 (.agg #[.pointer (some ⟨12, 38, none⟩)])]).run Tryz.prog w = .ok (.bool false) w := by kernel_rfl
theorem at_as (p:Value) (w:World):(Instr.typeAssert (.iface 136 p) 25 209 true).run Tryz.prog w=.ok (.tuple #[.nilIface,.bool false]) w :=
 run_typeAssert_lacksB Tryz.underlying209 (by kernel_rfl) (by kernel_rfl) _ _ w
theorem at_unwrap (p:Value) (w:World):(Instr.typeAssert (.iface 136 p) 25 149 true).run Tryz.prog w=.ok (.tuple #[.iface 136 p,.bool true]) w :=
 run_typeAssert_hasB Tryz.underlying149 (by kernel_rfl) _ _ w
theorem methodUnwrap (p : Value) (w : World) : (Go.method 406 136 p "Unwrap").run Tryz.prog w = .ok (214, p) w := by kernel_rfl
set_option maxRecDepth 100000 in
set_option maxHeartbeats 4000000 in
theorem as_at (n:Int) (g:Nat) (t:Addr) (old:Value) (w:World) (hg:w.cell? ⟨1,0,none⟩=some (.iface 204 (.agg #[.pointer (some ⟨12,25,none⟩)]))) (ht0:w.cell? t=some old) (hf0:w.frozen? t=false) (hc:w.cell? ⟨g,0,none⟩=some (.int .i64 n)) :
  Calls Tryz.prog 64 #[.iface 136 (.pointer (some ⟨g,0,none⟩)),.iface 133 (.pointer (some t))] w fun ev w'=>ev=.returned (.bool true)∧w'=((((w.alloc (.cells #[.pointer (some t)] 133)).alloc (.cells #[.pointer (some ⟨12,133,none⟩),.pointer (some ⟨w.heap.size,0,none⟩),.int .u64 150] 176)).alloc (.cells #[.pointer (some ⟨12,133,none⟩),.pointer (some ⟨w.heap.size,0,none⟩),.int .u64 150] 176)).alloc (.cells #[.int .i64 n] 38)).setCell t (.int .i64 n):=by
 have h6:=@run_callFunc_extern Tryz.prog 95 _ (fun args=>ReflectliteValue.unpack (args.getD 0 (.tuple #[]))) Tryz.func95 (by kernel_rfl) (by kernel_rfl) (by kernel_rfl) (by kernel_rfl)
 have h7 := @run_callFunc_extern Tryz.prog 96 _ (ReflectliteValue.methodAny (ReflectliteValue.valueError "reflectlite.Value.Type" 0) (fun t _ _ _ => ReflectliteType.toType t)) Tryz.func96 (by kernel_rfl) (by kernel_rfl) (by kernel_rfl) (by kernel_rfl)
 have h8 := @run_callFunc_extern Tryz.prog 97 _ (ReflectliteValue.method (ReflectliteValue.valueError "reflectlite.Value.IsNil" 0) ReflectliteValue.isNil) Tryz.func97 (by kernel_rfl) (by kernel_rfl) (by kernel_rfl) (by kernel_rfl)
 have h27:=@run_callFunc_extern Tryz.prog 208 _ (ReflectliteType.abiMethod fun t=>do pure (.int .u8 (← Rtype.kind t))) Tryz.func208 (by kernel_rfl) (by kernel_rfl) (by kernel_rfl) (by kernel_rfl)
 have h37:=@run_callFunc_extern Tryz.prog 221 _ (ReflectliteType.method ReflectliteType.elem) Tryz.func221 (by kernel_rfl) (by kernel_rfl) (by kernel_rfl) (by kernel_rfl)
 have h38 := @run_callFunc_extern Tryz.prog 222 _ (ReflectliteType.relation "Implements" ReflectliteType.implements_) Tryz.func222 (by kernel_rfl) (by kernel_rfl) (by kernel_rfl) (by kernel_rfl)
 have h10:=@run_callFunc_extern Tryz.prog 127 _ ReflectliteType.typeOf Tryz.func127 (by kernel_rfl) (by kernel_rfl) (by kernel_rfl) (by kernel_rfl)
 have h35 := @run_callFunc_extern Tryz.prog 219 _ (ReflectliteType.relation "AssignableTo" ReflectliteType.assignableTo) Tryz.func219 (by kernel_rfl) (by kernel_rfl) (by kernel_rfl) (by kernel_rfl)
 have h11 := @run_callFunc_extern Tryz.prog 128 _ (ReflectliteValue.method (ReflectliteValue.valueError "reflectlite.Value.Elem" 0) ReflectliteValue.elem) Tryz.func128 (by kernel_rfl) (by kernel_rfl) (by kernel_rfl) (by kernel_rfl)
 have h12:=@run_callFunc_extern Tryz.prog 129 _ ReflectliteValue.set Tryz.func129 (by kernel_rfl) (by kernel_rfl) (by kernel_rfl) (by kernel_rfl)
 have tO:=typeOfE
 have mA:=methodAssignableTo
 have a25:=assignableE
 have v25:=valueOfE
 have f6:=valueOfT
 have f7:=typeT
 have mK:=methodKind
 have mE:=methodElem
 have mI:=methodImplements
 have k27:=kindT
 have k25:=kindE
 have e27:=elemT
 have i25:=implementsE
 have n8:=isNilT ⟨w.heap.size,0,none⟩ t ((w.alloc (.cells #[.pointer (some t)] 133)).alloc (.cells #[.pointer (some ⟨12,133,none⟩),.pointer (some ⟨w.heap.size,0,none⟩),.int .u64 150] 176)) (by simp)
 have hlt:1<w.heap.size:=by
  rcases Nat.lt_or_ge 1 w.heap.size with h|h
  ·exact h
  ·simp [World.cell?,Array.getElem?_eq_none h] at hg
 have hg2:((w.alloc (.cells #[.pointer (some t)] 133)).alloc (.cells #[.pointer (some ⟨12,133,none⟩),.pointer (some ⟨w.heap.size,0,none⟩),.int .u64 150] 176)).cell? ⟨1,0,none⟩=some (.iface 204 (.agg #[.pointer (some ⟨12,25,none⟩)])):=by
  rw [World.cell?_alloc_lt _ _ ⟨1,0,none⟩ (by first|(simp;done)|(simp;omega)),World.cell?_alloc_lt _ _ ⟨1,0,none⟩ hlt];exact hg
 have htl:t.block<w.heap.size:=by
  rcases Nat.lt_or_ge t.block w.heap.size with h|h
  ·exact h
  ·simp [World.cell?,Array.getElem?_eq_none h] at ht0
 have el:=elemV ⟨w.heap.size,0,none⟩ t (((w.alloc (.cells #[.pointer (some t)] 133)).alloc (.cells #[.pointer (some ⟨12,133,none⟩),.pointer (some ⟨w.heap.size,0,none⟩),.int .u64 150] 176)).alloc (.cells #[.pointer (some ⟨12,133,none⟩),.pointer (some ⟨w.heap.size,0,none⟩),.int .u64 150] 176)) (by rw [World.cell?_alloc_lt _ _ ⟨w.heap.size,0,none⟩ (by simp;omega),World.cell?_alloc_lt _ _ ⟨w.heap.size,0,none⟩ (by simp),World.cell?_alloc_at _ _ _ _ (by simp)];rfl)
 have st:=setE t ⟨w.heap.size+1+1+1,0,none⟩ n old ((((w.alloc (.cells #[.pointer (some t)] 133)).alloc (.cells #[.pointer (some ⟨12,133,none⟩),.pointer (some ⟨w.heap.size,0,none⟩),.int .u64 150] 176)).alloc (.cells #[.pointer (some ⟨12,133,none⟩),.pointer (some ⟨w.heap.size,0,none⟩),.int .u64 150] 176)).alloc (.cells #[.int .i64 n] 38))
  (by rw [World.cell?_alloc_at _ _ _ _ (by simp)];rfl)
  (by rw [World.cell?_alloc_lt _ _ t (by simp;omega),World.cell?_alloc_lt _ _ t (by simp;omega),World.cell?_alloc_lt _ _ t (by simp;omega),World.cell?_alloc_lt _ _ t htl];exact ht0)
  (by rw [World.frozen?_alloc_old _ _ t (by simp;omega),World.frozen?_alloc_old _ _ t (by simp;omega),World.frozen?_alloc_old _ _ t (by simp;omega),World.frozen?_alloc_old _ _ t (Nat.ne_of_lt htl)];exact hf0)
 have tA:=typeOfA
 have aA:=assignableA
 have asA:=at_as
 have uA:=at_unwrap
 have mU:=methodUnwrap
 have hgl:g<w.heap.size:=by
  rcases Nat.lt_or_ge g w.heap.size with h|h
  ·exact h
  ·simp [World.cell?,Array.getElem?_eq_none h] at hc
 have hc2:((w.alloc (.cells #[.pointer (some t)] 133)).alloc (.cells #[.pointer (some ⟨12,133,none⟩),.pointer (some ⟨w.heap.size,0,none⟩),.int .u64 150] 176)).cell? ⟨g,0,none⟩=some (.int .i64 n):=by
  rw [World.cell?_alloc_lt _ _ ⟨g,0,none⟩ (by simp;omega),World.cell?_alloc_lt _ _ ⟨g,0,none⟩ hgl];exact hc
 have hc3:(((w.alloc (.cells #[.pointer (some t)] 133)).alloc (.cells #[.pointer (some ⟨12,133,none⟩),.pointer (some ⟨w.heap.size,0,none⟩),.int .u64 150] 176)).alloc (.cells #[.pointer (some ⟨12,133,none⟩),.pointer (some ⟨w.heap.size,0,none⟩),.int .u64 150] 176)).cell? ⟨g,0,none⟩=some (.int .i64 n):=by
  rw [World.cell?_alloc_lt _ _ ⟨g,0,none⟩ (by simp;omega)];exact hc2
 go_enter Tryz.func64,Tryz.ntmps64
 go_wp2
 refine wp_loop_rounds 2 ?_
 rw [rounds_succ]
 go_wp2
 rw [rounds_succ]
 go_wp2
 go_ret
 exact ⟨rfl,rfl⟩
set_option maxRecDepth 100000 in
set_option maxHeartbeats 400000 in
theorem tell_at (n a:Int) (g:Nat) (W:World) (hE:ErrLaid W) (hb:Blk W g [.int .i64 n,.int .i64 a] 137):Calls Tryz.prog 29 #[.iface 136 (.pointer (some ⟨g,0,none⟩))] W fun e W'=>e=.returned (.int .i64 n)∧Mods None W W':=by
 have hlt:1<W.heap.size:=World.block_lt_of_cell? W _ hE
 have HE:Hid (ErrLaid (W.alloc (.cells #[.int .i64 0] 38))):=hiD (by
  unfold ErrLaid
  rw [World.cell?_alloc_lt _ _ ⟨1,0,none⟩ hlt]
  exact hE)
 have HC:Hid ((W.alloc (.cells #[.int .i64 0] 38)).cell? ⟨g,0,none⟩=some (.int .i64 n)):=hiD (by
  rw [World.cell?_alloc_lt _ _ ⟨g,0,none⟩ hb.lt]
  exact hb.cell (i:=0) rfl)
 clear hE hb
 go_enter Tryz.func29,Tryz.ntmps29
 go_wp2_with fail
 refine (as_at n g ⟨W.heap.size,0,none⟩ (.int .i64 0) _ HE.out (by simp) (by simp) HC.out).mono ?_
 rintro e w' ⟨rfl,rfl⟩
 go_wp2
 go_ret
 refine ⟨rfl,?_⟩
 repeat (first|with_reducible exact Mods.refl _ _|with_reducible refine Mods.alloc ?_ _|(refine Mods.setCell ?_ (fun h=>absurd h (by simp)) _))
end Go.Proofs.YtdgedlhefjmcpaaGreatDoor.ErrP
namespace Go.Proofs.YtdgedlhefjmcpaaGreatDoor.ErrP
open Go.RowKit Go.Proofs.YtdgedlhefjmcpaaGreatDoor.Wo
set_option linter.unusedVariables false
set_option linter.unusedSimpArgs false
theorem assert_at_at (p:Value) (w:World):(Instr.typeAssert (.iface 136 p) 25 136 true).run Tryz.prog w=.ok (.tuple #[p,.bool true]) w:=by
 simp [Instr.typeAssert,run_underlying Tryz.underlying136]
set_option maxRecDepth 100000 in
set_option maxHeartbeats 400000 in
theorem place_at (n a:Int) (g:Nat) (W:World) (hE:ErrLaid W) (hb:Blk W g [.int .i64 n,.int .i64 a] 137):Calls Tryz.prog 48 #[.iface 136 (.pointer (some ⟨g,0,none⟩))] W fun e W'=>e=.returned (.tuple #[.int .i64 n,.int .i64 a])∧Mods None W W':=by
 have HE:=hiD hE
 have HB:=hiD hb
 clear hE hb
 go_enter Tryz.func48,Tryz.ntmps48
 go_wp2_with (go_at_call 29;refine (tell_at n a g _ HE.out HB.out).mono ?_;rintro e w1 ⟨rfl,hm⟩)
 have HM:=hiD hm
 have hb:=HB.out.mods hm (fun f=>f)
 have c0:=hb.cell (i:=0) rfl
 have c1:=hb.cell (i:=1) rfl
 clear hm hb
 refine wp_loop_rounds 1 ?_
 rw [rounds_succ]
 have ta:=assert_at_at (.pointer (some ⟨g,0,none⟩))
 go_wp2
 go_region
 go_wp2
 go_ret2
 exact ⟨rfl,HM.out.drew⟩
set_option maxRecDepth 100000 in
set_option maxHeartbeats 400000 in
theorem is_at (n a:Int) (g:Nat) (W:World) (hE:ErrLaid W) (hb:Blk W g [.int .i64 n,.int .i64 a] 137):Calls Tryz.prog 16 #[.iface 136 (.pointer (some ⟨g,0,none⟩)),.agg #[.int .i64 n,.int .i64 a]] W fun e W'=>e=.returned (.bool true)∧Mods None W W':=by
 obtain ⟨W1,hW1⟩:∃ W1,W1=W.alloc (.cells #[.int .i64 n,.int .i64 a] 40):=⟨_,rfl⟩
 have HB:Hid (Blk W1 W.heap.size [.int .i64 n,.int .i64 a] 40):=hiD (by rw [hW1];exact Blk.new W _ _)
 have HM:Hid (Mods None W W1):=hiD (by rw [hW1];exact (Mods.refl _ _).alloc _)
 have HE:Hid (ErrLaid W1):=hiD (HM.out.cellOf hE (fun f=>f))
 have HG:=hiD (hb.mods HM.out (fun f=>f))
 clear hE hb
 go_enter Tryz.func16,Tryz.ntmps16
 go_wp2_with fail
 rw [← hW1]
 clear hW1
 refine (place_at n a g _ HE.out HG.out).mono ?_
 rintro e w1 ⟨rfl,hm⟩
 have hm1:Mods None W1 w1:=hm
 have hb:=HB.out.mods hm1 (fun f=>f)
 have c0:=hb.cell (i:=0) rfl
 have c1:=hb.cell (i:=1) rfl
 have HM1:=hiD hm1
 clear hm hm1 hb
 go_wp2
 go_ret
 exact ⟨rfl,HM.out.trans HM1.out⟩
end Go.Proofs.YtdgedlhefjmcpaaGreatDoor.ErrP
namespace Go.Proofs.YtdgedlhefjmcpaaGreatDoor.TreeP
set_option linter.unusedVariables false
set_option linter.unusedSimpArgs false
abbrev Nm:=List (List UInt8×Int)
def findN (N:Nm) (s:List UInt8):Int:=match N.find? (fun p=>p.1==s) with
 | some p=>p.2
 | none=>0
def atE:Ex→Int
 | .num a _=>a
 | .var a _=>a
 | .bin a _ _ _=>a
 | .un a _ _=>a
 | .call a _ _=>a
 | .new a _=>a
 | .len a _=>a
 | .item a _ _=>a
 | .input a=>a
abbrev CK (α:Type):=Except (Int×Int) α
def bindK {α β:Type} (x:CK α) (f:α→CK β):CK β:=match x with
 | .ok a=>f a
 | .error e=>.error e
def wantT (e:Ex) (k t:Int):CK Unit:=if t=k then .ok () else .error (1,atE e)
def addN (N:Nm) (m:Nat) (p:List UInt8×Int) (a:Int):CK (Nm×Nat):=if findN N p.1≠0 then .error (9,a) else if m=12 then .error (12,a) else .ok (N++[p],m+1)
def fnOf (L:List Fn) (s:List UInt8):Option Fn:=L.find? (fun f=>f.name==s)
mutual
def exprK (L:List Fn) (N:Nm):Ex→CK Int
 | .num _ _=>.ok 1
 | .var a s=>if findN N s=0 then .error (7,a) else .ok (findN N s)
 | .bin _ _ l r=>bindK (exprK L N l) fun t=>bindK (wantT l 1 t) fun _=>bindK (exprK L N r) fun u=>bindK (wantT r 1 u) fun _=>.ok 1
 | .un _ _ x=>bindK (exprK L N x) fun t=>bindK (wantT x 1 t) fun _=>.ok 1
 | .call a f args=>match fnOf L f with
  | none=>.error (7,a)
  | some g=>if args.length=g.params.length then bindK (argsK L N args (g.params.map (·.2))) fun _=>.ok 1 else .error (2,a)
 | .new _ x=>bindK (exprK L N x) fun t=>bindK (wantT x 1 t) fun _=>.ok 2
 | .len _ x=>bindK (exprK L N x) fun t=>bindK (wantT x 2 t) fun _=>.ok 1
 | .item _ x i=>bindK (exprK L N x) fun t=>bindK (wantT x 2 t) fun _=>bindK (exprK L N i) fun u=>bindK (wantT i 1 u) fun _=>.ok 1
 | .input _=>.ok 1
def argsK (L:List Fn) (N:Nm):List Ex→List Int→CK Unit
 | e::r,k::ks=>bindK (exprK L N e) fun t=>bindK (wantT e k t) fun _=>argsK L N r ks
 | _,_=>.ok ()
end
def wantK (L:List Fn) (N:Nm) (e:Ex) (k:Int):CK Unit:=bindK (exprK L N e) (wantT e k)
mutual
def stmtK (L:List Fn) (N:Nm) (m:Nat):St→CK (Nm×Nat)
 | .var a s v=>bindK (exprK L N v) fun t=>addN N m (s,t) a
 | .set a s v=>if findN N s=0 then .error (7,a) else bindK (wantK L N v (findN N s)) fun _=>.ok (N,m)
 | .put a s i v=>if findN N s=0 then .error (7,a) else if findN N s≠2 then .error (1,a) else bindK (wantK L N i 1) fun _=>bindK (wantK L N v 1) fun _=>.ok (N,m)
 | .cond _ v t e=>bindK (wantK L N v 1) fun _=>bindK (stmtsK L N m t) fun x=>bindK (stmtsK L N x.2 e) fun y=>.ok (N,y.2)
 | .loop _ v t=>bindK (wantK L N v 1) fun _=>bindK (stmtsK L N m t) fun x=>.ok (N,x.2)
 | .ret _ v=>bindK (wantK L N v 1) fun _=>.ok (N,m)
 | .print _ v=>bindK (wantK L N v 1) fun _=>.ok (N,m)
 | .call _ v=>bindK (wantK L N v 1) fun _=>.ok (N,m)
def stmtsK (L:List Fn) (N:Nm) (m:Nat):List St→CK (Nm×Nat)
 | []=>.ok (N,m)
 | s::r=>bindK (stmtK L N m s) fun x=>stmtsK L x.1 x.2 r
end
def paramsK (N:Nm) (m:Nat) (a:Int):List (List UInt8×Int)→CK (Nm×Nat)
 | []=>.ok (N,m)
 | p::r=>bindK (addN N m p a) fun x=>paramsK x.1 x.2 a r
def fnK (L:List Fn) (f:Fn):CK Unit:=bindK (paramsK [] 0 f.at_ f.params) fun x=>bindK (stmtsK L x.1 x.2 f.body) fun _=>.ok ()
def fnsK (L:List Fn):List Fn→CK Unit
 | []=>.ok ()
 | f::r=>bindK (fnK L f) fun _=>fnsK L r
def twiceK:List Fn→List Fn→CK Unit
 | _,[]=>.ok ()
 | ahead,f::r=>if ahead.any (fun g=>g.name==f.name) then .error (9,f.at_) else twiceK (ahead++[f]) r
def mainB (f:Fn):Bool:=f.name==[109,97,105,110] && f.params.length==0
end Go.Proofs.YtdgedlhefjmcpaaGreatDoor.TreeP
namespace Go.Proofs.YtdgedlhefjmcpaaGreatDoor.TreeP
open Go.RowKit Go.Proofs.YtdgedlhefjmcpaaGreatDoor.Wo
set_option linter.unusedVariables false
set_option linter.unusedSimpArgs false
def NmAt (W:World) (S:Nat→Prop) (v:Value) (N:Nm):Prop :=
 ∃ a n c,v=.slice a n c∧n=N.length∧n≤c∧c≤maxLen∧(a=none→n=0)∧∀ i p,N[i]?=some p→∃ g o,a=some ⟨g,o,none⟩∧¬ S g∧W.cell? ⟨g,o+i*2,none⟩=some (str p.1)∧W.cell? ⟨g,o+i*2+1,none⟩=some (.int .i64 p.2)
theorem NmAt.mods {W W':World} {S T:Nat→Prop} {v:Value} {N:Nm} (h:NmAt W S v N) (hm:Mods S W W') (hT:∀ k,k<W.heap.size→T k→S k):NmAt W' T v N:=by
 obtain ⟨a,n,c,h1,h2,h3,h4,h5,h6⟩:=h
 refine ⟨a,n,c,h1,h2,h3,h4,h5,fun i p hp=>?_⟩
 obtain ⟨g,o,e1,e2,e3,e4⟩:=h6 i p hp
 exact ⟨g,o,e1,fun ht=>e2 (hT g (World.block_lt_of_cell? W _ e3) ht),hm.cellOf e3 e2,hm.cellOf e4 e2⟩
def FsAt (W:World) (S:Nat→Prop) (v:Value) (L:List Fn):Prop :=
 ∃ a n c,v=.slice a n c∧n=L.length∧n≤c∧c≤maxLen∧(a=none→n=0)∧∀ i f,L[i]?=some f→∃ g o p q vq,a=some ⟨g,o,none⟩∧¬ S g ∧
  W.cell? ⟨g,o+i*4,none⟩=some (str f.name)∧W.cell? ⟨g,o+i*4+1,none⟩=some (.int .i64 f.at_)∧W.cell? ⟨g,o+i*4+2,none⟩=some p∧W.cell? ⟨g,o+i*4+3,none⟩=some q ∧
  RowAt W S 85 2 p f.params.length (pcells f.params)∧RowAt W S 143 7 q f.body.length vq∧StsAt W S f.body vq
theorem FsAt.mods {W W':World} {S T:Nat→Prop} {v:Value} {L:List Fn} (h:FsAt W S v L) (hm:Mods S W W') (hT:∀ k,k<W.heap.size→T k→S k):FsAt W' T v L:=by
 obtain ⟨a,n,c,h1,h2,h3,h4,h5,h6⟩:=h
 refine ⟨a,n,c,h1,h2,h3,h4,h5,fun i p hp=>?_⟩
 obtain ⟨g,o,p,q,vq,e1,e2,e3,e4,e5,e6,e7,e8,e9⟩:=h6 i p hp
 exact ⟨g,o,p,q,vq,e1,fun ht=>e2 (hT g (World.block_lt_of_cell? W _ e3) ht),hm.cellOf e3 e2,hm.cellOf e4 e2,hm.cellOf e5 e2,hm.cellOf e6 e2,e7.mods hm hT,e8.mods hm hT,StsAt.modsTo hm hT _ _ e9⟩
def idxN:Nm→List UInt8→Option Nat
 | [],_=>none
 | p::r,s=>if p.1==s then some 0 else (idxN r s).map (·+1)
def optI:Option Nat→Int
 | some i=>i
 | none=>-1
theorem idxN_take {N:Nm} {s:List UInt8} {i:Nat} (h:idxN (N.take i) s=none) {p:List UInt8×Int} (hp:N[i]?=some p):idxN (N.take (i+1)) s=if p.1==s then some i else none:=by
 induction N generalizing i with
 | nil=>simp at hp
 | cons a r ih =>
  cases i with
  | zero =>
   simp only [List.getElem?_cons_zero,Option.some.injEq] at hp
   subst hp
   simp [idxN]
  | succ i =>
   simp only [List.take_succ_cons,idxN] at h ⊢
   split at h
   ·cases h
   ·rename_i hn
    rw [if_neg hn]
    simp only [Option.map_eq_none_iff] at h
    rw [ih h (by simpa using hp)]
    split <;> rfl
theorem idxN_more {N:Nm} {s:List UInt8} {i j:Nat} (h:idxN (N.take i) s=some j):idxN N s=some j:=by
 induction N generalizing i j with
 | nil=>simp [idxN] at h
 | cons a r ih =>
  cases i with
  | zero=>simp [idxN] at h
  | succ i =>
   simp only [List.take_succ_cons,idxN] at h ⊢
   split at h
   ·rename_i hy
    rw [if_pos hy]
    exact h
   ·rename_i hn
    rw [if_neg hn]
    obtain ⟨k,hk,rfl⟩:=Option.map_eq_some_iff.1 h
    rw [ih hk]
    rfl
theorem findN_none {N:Nm} {s:List UInt8} (h:idxN N s=none):findN N s=0:=by
 unfold findN
 induction N with
 | nil=>rfl
 | cons a r ih =>
  simp only [idxN] at h
  split at h
  ·cases h
  ·rename_i hn
   rw [Bool.not_eq_true] at hn
   rw [List.find?_cons,hn]
   exact ih (by simpa using h)
theorem findN_some {N:Nm} {s:List UInt8} {i:Nat} (h:idxN N s=some i):∃ p,N[i]?=some p∧findN N s=p.2:=by
 unfold findN
 induction N generalizing i with
 | nil=>simp [idxN] at h
 | cons a r ih =>
  simp only [idxN] at h
  split at h
  ·rename_i hy
   obtain rfl:=Option.some.inj h
   exact ⟨a,rfl,by rw [List.find?_cons,hy]⟩
  ·rename_i hn
   obtain ⟨k,hk,rfl⟩:=Option.map_eq_some_iff.1 h
   obtain ⟨p,h1,h2⟩:=ih hk
   refine ⟨p,by simpa using h1,?_⟩
   rw [Bool.not_eq_true] at hn
   rw [List.find?_cons,hn]
   exact h2
theorem ncells_at:(N:Nm)→(i:Nat)→(p:List UInt8×Int)→N[i]?=some p→(pcells N)[i*2]?=some (str p.1)∧(pcells N)[i*2+1]?=some (.int .i64 p.2)
 | [],i,p,h=>by simp at h
 | a::r,0,p,h=>by
  simp only [List.getElem?_cons_zero,Option.some.injEq] at h
  subst h
  exact ⟨rfl,rfl⟩
 | a::r,i+1,p,h=>by
  have:=ncells_at r i p (by simpa using h)
  rw [show (i+1)*2=i*2+2 by omega]
  exact this
theorem nm_of_row {W:World} {S:Nat→Prop} {v:Value} {N:Nm} {B:Nat} (h:W.ownsRow B 85 2 v N.length (pcells N)) (hS:∀ k,v.ownBlock=some k→¬ S k):NmAt W S v N:=by
 rcases h.2 with ⟨rfl,h0⟩|⟨g,cap,cur,rfl,_,hg,h3,h4,_⟩
 ·have hN:N=[]:=List.eq_nil_of_length_eq_zero h0
  subst hN
  exact ⟨none,0,0,rfl,rfl,Nat.le_refl _,by decide,fun _=>rfl,fun i p hp=>by simp at hp⟩
 ·have hc:=h.cells (g:=g) rfl
  refine ⟨some ⟨g,0,none⟩,N.length,cap,rfl,rfl,h3,h4,(fun h=>by cases h),fun i p hp=>?_⟩
  obtain ⟨h5,h6⟩:=ncells_at N i p hp
  have e1:=hc _ _ h5
  have e2:=hc _ _ h6
  refine ⟨g,0,rfl,hS g rfl,?_,?_⟩
  ·simpa [Addr.add_lit] using e1
  ·simpa [Addr.add_lit,Nat.add_assoc] using e2
theorem NmAt.cells {W:World} {S:Nat→Prop} {a:Option Addr} {n c:Nat} {N:Nm} (h:NmAt W S (.slice a n c) N):∀ p j u,a=some p→(pcells N)[j]?=some u→W.cell? (p.add j)=some u:=by
 obtain ⟨a',n',c',e,h2,h3,h4,h5,h6⟩:=h
 obtain ⟨rfl,rfl,rfl⟩:=Value.slice.inj e
 intro p j u hp hj
 have hlen:(pcells N).length=N.length*2:=by
  clear h2 h6 hj
  induction N with
  | nil=>rfl
  | cons a r ih=>simp only [pcells,List.length_append,List.length_cons,List.length_nil] at ih ⊢;omega
 have hjl:j<N.length*2:=by
  have:=(List.getElem?_eq_some_iff.1 hj).1
  omega
 obtain ⟨i,hi⟩:∃ i,i=j / 2:=⟨_,rfl⟩
 have hil:i<N.length:=by omega
 obtain ⟨g,o,e1,e2,e3,e4⟩:=h6 i N[i] (List.getElem?_eq_getElem hil)
 rw [hp] at e1
 obtain rfl:=Option.some.inj e1
 obtain ⟨p1,p2⟩:=ncells_at N i N[i] (List.getElem?_eq_getElem hil)
 rcases Nat.mod_two_eq_zero_or_one j with h0|h0
 ·have hji:j=i*2:=by omega
  rw [hji] at hj ⊢
  rw [hj] at p1
  rw [Option.some.inj p1]
  simpa [Addr.add_lit] using e3
 ·have hji:j=i*2+1:=by omega
  rw [hji] at hj ⊢
  rw [hj] at p2
  rw [Option.some.inj p2]
  simpa [Addr.add_lit,Nat.add_assoc] using e4
theorem pcells_len (N:Nm):(pcells N).length=N.length*2:=by
 induction N with
 | nil=>rfl
 | cons a r ih=>simp only [pcells,List.length_append,List.length_cons,List.length_nil] at ih ⊢;omega
theorem row_form {W:World} {B:Nat} {e:TypeId} {size n:Nat} {v:Value} {vs:List Value} (h:W.ownsRow B e size v n vs):∃ oa oc,v=.slice oa n oc:=by
 rcases h.2 with ⟨hv,h0⟩|⟨g,cap,cur,hv,_⟩
 ·exact ⟨_,_,by rw [hv,h0]⟩
 ·exact ⟨_,_,hv⟩
theorem no_way {G:Prop} (P:Program) (w:World) (h:G) (_k:wpAny P .any #[] (fun _ _ _=>True) 0 #[] { tmps:=#[],defers:=[] } w):G:=h
theorem bindK_assoc {α β γ:Type} (x:CK α) (f:α→CK β) (g:β→CK γ):bindK (bindK x f) g=bindK x (fun a=>bindK (f a) g):=by cases x <;> rfl
theorem ExAt.at_cell {W:World} {S:Nat→Prop} {e:Ex} {v:Value} (h:ExAt W S e v):∃ g,v=.pointer (some ⟨g,0,none⟩)∧¬ S g∧W.cell? ⟨g,1,none⟩=some (.int .i64 (atE e)):=by
 cases e <;> simp only [ExAt] at h
 case num=>obtain ⟨g,h1,h2,h3⟩:=h;exact ⟨g,h1,h2,h3.cell rfl⟩
 case var=>obtain ⟨g,h1,h2,h3⟩:=h;exact ⟨g,h1,h2,h3.cell rfl⟩
 case bin=>obtain ⟨x,y,⟨g,h1,h2,h3⟩,_⟩:=h;exact ⟨g,h1,h2,h3.cell rfl⟩
 case un=>obtain ⟨x,⟨g,h1,h2,h3⟩,_⟩:=h;exact ⟨g,h1,h2,h3.cell rfl⟩
 case call=>obtain ⟨x,y,⟨g,h1,h2,h3⟩,_⟩:=h;exact ⟨g,h1,h2,h3.cell rfl⟩
 case new=>obtain ⟨x,⟨g,h1,h2,h3⟩,_⟩:=h;exact ⟨g,h1,h2,h3.cell rfl⟩
 case len=>obtain ⟨x,⟨g,h1,h2,h3⟩,_⟩:=h;exact ⟨g,h1,h2,h3.cell rfl⟩
 case item=>obtain ⟨x,y,⟨g,h1,h2,h3⟩,_⟩:=h;exact ⟨g,h1,h2,h3.cell rfl⟩
 case input=>obtain ⟨g,h1,h2,h3⟩:=h;exact ⟨g,h1,h2,h3.cell rfl⟩
def idxF:List Fn→List UInt8→Option Nat
 | [],_=>none
 | p::r,s=>if p.name==s then some 0 else (idxF r s).map (·+1)
theorem idxF_take {N:List Fn} {s:List UInt8} {i:Nat} (h:idxF (N.take i) s=none) {p:Fn} (hp:N[i]?=some p):idxF (N.take (i+1)) s=if p.name==s then some i else none:=by
 induction N generalizing i with
 | nil=>simp at hp
 | cons a r ih =>
  cases i with
  | zero =>
   simp only [List.getElem?_cons_zero,Option.some.injEq] at hp
   subst hp
   simp [idxF]
  | succ i =>
   simp only [List.take_succ_cons,idxF] at h ⊢
   split at h
   ·cases h
   ·rename_i hn
    rw [if_neg hn]
    simp only [Option.map_eq_none_iff] at h
    rw [ih h (by simpa using hp)]
    split <;> rfl
theorem idxF_more {N:List Fn} {s:List UInt8} {i j:Nat} (h:idxF (N.take i) s=some j):idxF N s=some j:=by
 induction N generalizing i j with
 | nil=>simp [idxF] at h
 | cons a r ih =>
  cases i with
  | zero=>simp [idxF] at h
  | succ i =>
   simp only [List.take_succ_cons,idxF] at h ⊢
   split at h
   ·rename_i hy
    rw [if_pos hy]
    exact h
   ·rename_i hn
    rw [if_neg hn]
    obtain ⟨k,hk,rfl⟩:=Option.map_eq_some_iff.1 h
    rw [ih hk]
    rfl
theorem fnOf_none {N:List Fn} {s:List UInt8} (h:idxF N s=none):fnOf N s=none:=by
 unfold fnOf
 induction N with
 | nil=>rfl
 | cons a r ih =>
  simp only [idxF] at h
  split at h
  ·cases h
  ·rename_i hn
   rw [Bool.not_eq_true] at hn
   rw [List.find?_cons,hn]
   exact ih (by simpa using h)
theorem fnOf_some {N:List Fn} {s:List UInt8} {i:Nat} (h:idxF N s=some i):∃ p,N[i]?=some p∧fnOf N s=some p:=by
 unfold fnOf
 induction N generalizing i with
 | nil=>simp [idxF] at h
 | cons a r ih =>
  simp only [idxF] at h
  split at h
  ·rename_i hy
   obtain rfl:=Option.some.inj h
   exact ⟨a,rfl,by rw [List.find?_cons,hy]⟩
  ·rename_i hn
   obtain ⟨k,hk,rfl⟩:=Option.map_eq_some_iff.1 h
   obtain ⟨p,h1,h2⟩:=ih hk
   refine ⟨p,by simpa using h1,?_⟩
   rw [Bool.not_eq_true] at hn
   rw [List.find?_cons,hn]
   exact h2
theorem ownsRow_slice {W:World} {B:Nat} {e:TypeId} {size n:Nat} {v:Value} {vs:List Value} (h:W.ownsRow B e size v n vs):∃ oa oc,v=.slice oa n oc∧n≤oc∧oc≤maxLen∧(∀ j u,vs[j]?=some u→∃ g,oa=some ⟨g,0,none⟩∧v.ownBlock=some g∧W.cell? ⟨g,j,none⟩=some u):=by
 rcases h.2 with ⟨rfl,rfl⟩|⟨g,cap,cur,rfl,_,hg,h3,h4,_⟩
 ·have:vs=[]:=List.eq_nil_of_length_eq_zero (by simpa using h.1)
  subst this
  exact ⟨none,0,rfl,Nat.le_refl _,by decide,fun j u hj=>by simp at hj⟩
 ·refine ⟨_,_,rfl,h3,h4,fun j u hj=>⟨g,rfl,rfl,?_⟩⟩
  have:=h.cells (g:=g) rfl j u hj
  simpa [Addr.add_lit] using this
theorem ExsAt.get {W:World} {S:Nat→Prop}:{l:List Ex}→{vs:List Value}→ExsAt W S l vs→(i:Nat)→(e:Ex)→l[i]?=some e→∃ v,vs[i]?=some v∧ExAt W S e v
 | [],vs,h,i,e,he=>by simp at he
 | a::r,vs,h,i,e,he=>by
  simp only [ExsAt] at h
  obtain ⟨x,r2,rfl,h1,h2⟩:=h
  cases i with
  | zero=>simp only [List.getElem?_cons_zero,Option.some.injEq] at he;subst he;exact ⟨x,rfl,h1⟩
  | succ i=>exact ExsAt.get h2 i e (by simpa using he)
def callK (L:List Fn) (N:Nm) (a:Int) (f:List UInt8) (args:List Ex):CK Unit:=match fnOf L f with
 | none=>.error (7,a)
 | some g=>if args.length=g.params.length then argsK L N args (g.params.map (·.2)) else .error (2,a)
end Go.Proofs.YtdgedlhefjmcpaaGreatDoor.TreeP

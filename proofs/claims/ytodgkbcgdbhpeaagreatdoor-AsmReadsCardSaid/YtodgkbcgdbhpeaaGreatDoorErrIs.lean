/- Errors told: contracts of plain.Place and law.is, of no error and of a bare Errno. Conditions: errors.errorType lies as the program lays it. errors.As at the target *Errno, of an error at a place; api.Tell of it. Conditions: errors.errorType lies as the program lays it. plain.Place and law.is of an error at a place. Conditions: errors.errorType lies as the program lays it. -/
import Derived.Test.YtodgkbcgdbhpeaaGreatDoorErrTell
import Derived.WalkSpells
import Derived.WalkLawsBesides
import Derived.Outline
namespace Go.Proofs.YtodgkbcgdbhpeaaGreatDoor.ErrP
open Go.RowKit Go.Proofs.YtodgkbcgdbhpeaaGreatDoor.Wo
set_option linter.unusedVariables false
set_option linter.unusedSimpArgs false
set_option maxRecDepth 100000 in
set_option maxHeartbeats 400000 in
theorem place_nil (W : World) : Calls Tryz.prog 35 #[.nilIface] W fun e W' => e = .returned (.tuple #[.int .i64 0, .int .i64 (-1)]) ∧ W = W' := by
  go_enter Tryz.func35, Tryz.ntmps35
  go_wp2_with (go_at_call 71; refine (tell_nil _).mono ?_; rintro e w' ⟨rfl, rfl⟩)
  refine wp_loop_rounds 1 ?_
  rw [rounds_succ]
  go_wp2
  go_ret2
  exact ⟨rfl, rfl⟩
set_option maxRecDepth 100000 in
set_option maxHeartbeats 400000 in
theorem place_errno (n : Int) (W : World) (hE : ErrLaid W) : Calls Tryz.prog 35 #[.iface 38 (.int .i64 n)] W fun e W' => e = .returned (.tuple #[.int .i64 n, .int .i64 (-1)]) ∧ Mods None W W' := by
  have HE := Lib.hid hE
  clear hE
  go_enter Tryz.func35, Tryz.ntmps35
  go_wp2_with (go_at_call 71; refine (tell_errno n _ HE.out).mono ?_; rintro e w1 ⟨rfl, hm⟩)
  have HM := Lib.hid hm
  clear hm
  refine wp_loop_rounds 1 ?_
  rw [rounds_succ]
  have ta := assert_at
  have tu := assert_unwrap
  go_wp2
  go_ret2
  exact ⟨rfl, HM.out⟩
theorem fault_bare (a : Int) (W : World) : Calls Tryz.prog 40 #[.int .i64 a] W fun e W' => e = .returned (.agg #[.int .i64 a, .int .i64 (-1)]) ∧ Mods None W W' := by
  go_enter Tryz.func40, Tryz.ntmps40
  go_wp2
  refine bodyPost_ret (v := .agg #[.int .i64 a, .int .i64 (-1)]) (by simp [results, Tryz.results40, go_sem]) rfl ⟨rfl, ?_⟩
  exact (Mods.refl _ _).alloc _
set_option maxRecDepth 100000 in
set_option maxHeartbeats 400000 in
theorem is_nil (a : Int) (W : World) : Calls Tryz.prog 14 #[.nilIface, .agg #[.int .i64 a, .int .i64 (-1)]] W fun e W' => e = .returned (.bool ((0 : Int) == a)) ∧ Mods None W W' := by
  obtain ⟨W1, hW1⟩ : ∃ W1, W1 = W.alloc (.cells #[.int .i64 a, .int .i64 (-1)] 40) := ⟨_, rfl⟩
  have HB : Hid (Blk W1 W.heap.size [.int .i64 a, .int .i64 (-1)] 40) := Lib.hid (by rw [hW1]; exact Blk.new W _ _)
  have HM : Hid (Mods None W W1) := Lib.hid (by rw [hW1]; exact (Mods.refl _ _).alloc _)
  have h0 := HM
  clear h0
  go_enter Tryz.func14, Tryz.ntmps14
  go_wp2_with fail
  rw [← hW1]
  clear hW1
  refine (place_nil _).mono ?_
  rintro e w1 ⟨rfl, hm⟩
  have hm1 : Mods None W1 w1 := by rw [← hm]; exact Mods.refl _ _
  have hb := HB.out.mods hm1 (fun f => f)
  have c0 := hb.cell (i := 0) rfl
  have c1 := hb.cell (i := 1) rfl
  have HM1 := Lib.hid hm1
  clear hm hm1 hb
  rcases hq : ((0 : Int) == a) with _ | _
  all_goals
    go_wp2
    go_ret
    exact ⟨(congrArg (fun b => Ending.returned (Value.bool b)) hq).symm, HM.out.trans HM1.out⟩
set_option maxRecDepth 100000 in
set_option maxHeartbeats 400000 in
theorem is_errno (n a : Int) (W : World) (hE : ErrLaid W) : Calls Tryz.prog 14 #[.iface 38 (.int .i64 n), .agg #[.int .i64 a, .int .i64 (-1)]] W fun e W' => e = .returned (.bool (n == a)) ∧ Mods None W W' := by
  obtain ⟨W1, hW1⟩ : ∃ W1, W1 = W.alloc (.cells #[.int .i64 a, .int .i64 (-1)] 40) := ⟨_, rfl⟩
  have HB : Hid (Blk W1 W.heap.size [.int .i64 a, .int .i64 (-1)] 40) := Lib.hid (by rw [hW1]; exact Blk.new W _ _)
  have HM : Hid (Mods None W W1) := Lib.hid (by rw [hW1]; exact (Mods.refl _ _).alloc _)
  have HE : Hid (ErrLaid W1) := Lib.hid (HM.out.cellOf hE (fun f => f))
  clear hE
  go_enter Tryz.func14, Tryz.ntmps14
  go_wp2_with fail
  rw [← hW1]
  clear hW1
  refine (place_errno n _ HE.out).mono ?_
  rintro e w1 ⟨rfl, hm⟩
  have hm1 : Mods None W1 w1 := hm
  have hb := HB.out.mods hm1 (fun f => f)
  have c0 := hb.cell (i := 0) rfl
  have c1 := hb.cell (i := 1) rfl
  have HM1 := Lib.hid hm1
  clear hm hm1 hb
  rcases hq : (n == a) with _ | _
  all_goals
    go_wp2
    go_ret
    exact ⟨(congrArg (fun b => Ending.returned (Value.bool b)) hq).symm, HM.out.trans HM1.out⟩
end Go.Proofs.YtodgkbcgdbhpeaaGreatDoor.ErrP
namespace Go.Proofs.YtodgkbcgdbhpeaaGreatDoor.ErrP
open Go.RowKit Go.Proofs.YtodgkbcgdbhpeaaGreatDoor.Wo
open Go.Extern.Stop Go.Stop Go.Extern
set_option linter.unusedVariables false
set_option linter.unusedSimpArgs false
theorem typeOfA (v : Value) (w : World) : (ReflectliteType.typeOf #[.iface 71 v]).run Tryz.prog w = .ok (.iface 193 (.agg #[.pointer (some ⟨12, 71, none⟩)])) w := by kernel_rfl
theorem assignableA (w : World) : (ReflectliteType.relation "AssignableTo" ReflectliteType.assignableTo #[.agg #[.pointer (some ⟨12, 71, none⟩)], .iface 193 (.agg #[.pointer (some ⟨12, 38, none⟩)])]).run Tryz.prog w = .ok (.bool false) w := by kernel_rfl
theorem at_as (p : Value) (w : World) : (Instr.typeAssert (.iface 71 p) 26 198 true).run Tryz.prog w = .ok (.tuple #[.nilIface, .bool false]) w :=
  run_typeAssert_lacksB Tryz.underlying198 (by kernel_rfl) (by kernel_rfl) _ _ w
theorem at_unwrap (p : Value) (w : World) : (Instr.typeAssert (.iface 71 p) 26 135 true).run Tryz.prog w = .ok (.tuple #[.iface 71 p, .bool true]) w :=
  run_typeAssert_hasB Tryz.underlying135 (by kernel_rfl) _ _ w
theorem methodUnwrap (p : Value) (w : World) : (Go.method 341 71 p "Unwrap").run Tryz.prog w = .ok (162, p) w := by kernel_rfl
set_option maxRecDepth 100000 in
set_option maxHeartbeats 4000000 in
theorem as_at (n : Int) (g : Nat) (t : Addr) (old : Value) (w : World) (hg : w.cell? ⟨7, 0, none⟩ = some (.iface 193 (.agg #[.pointer (some ⟨12, 26, none⟩)]))) (ht0 : w.cell? t = some old) (hf0 : w.frozen? t = false) (hc : w.cell? ⟨g, 0, none⟩ = some (.int .i64 n)) :
    Calls Tryz.prog 100 #[.iface 71 (.pointer (some ⟨g, 0, none⟩)), .iface 156 (.pointer (some t))] w fun ev w' => ev = .returned (.bool true) ∧ w' = ((((w.alloc (.cells #[.pointer (some t)] 156)).alloc (.cells #[.pointer (some ⟨12, 156, none⟩), .pointer (some ⟨w.heap.size, 0, none⟩), .int .u64 150] 173)).alloc (.cells #[.pointer (some ⟨12, 156, none⟩), .pointer (some ⟨w.heap.size, 0, none⟩), .int .u64 150] 173)).alloc (.cells #[.int .i64 n] 38)).setCell t (.int .i64 n) := by
  have h6 := @run_callFunc_extern Tryz.prog 120 _ (fun args => ReflectliteValue.unpack (args.getD 0 (.tuple #[]))) Tryz.func120 (by kernel_rfl) (by kernel_rfl) (by kernel_rfl) (by kernel_rfl)
  have h7 := @run_callFunc_extern Tryz.prog 121 _ (ReflectliteValue.methodAny (ReflectliteValue.valueError "reflectlite.Value.Type" 0) (fun t _ _ _ => ReflectliteType.toType t)) Tryz.func121 (by kernel_rfl) (by kernel_rfl) (by kernel_rfl) (by kernel_rfl)
  have h8 := @run_callFunc_extern Tryz.prog 122 _ (ReflectliteValue.method (ReflectliteValue.valueError "reflectlite.Value.IsNil" 0) ReflectliteValue.isNil) Tryz.func122 (by kernel_rfl) (by kernel_rfl) (by kernel_rfl) (by kernel_rfl)
  have h27 := @run_callFunc_extern Tryz.prog 157 _ (ReflectliteType.abiMethod fun t => do pure (.int .u8 (← Rtype.kind t))) Tryz.func157 (by kernel_rfl) (by kernel_rfl) (by kernel_rfl) (by kernel_rfl)
  have h37 := @run_callFunc_extern Tryz.prog 173 _ (ReflectliteType.method ReflectliteType.elem) Tryz.func173 (by kernel_rfl) (by kernel_rfl) (by kernel_rfl) (by kernel_rfl)
  have h38 := @run_callFunc_extern Tryz.prog 174 _ (ReflectliteType.relation "Implements" ReflectliteType.implements_) Tryz.func174 (by kernel_rfl) (by kernel_rfl) (by kernel_rfl) (by kernel_rfl)
  have h10 := @run_callFunc_extern Tryz.prog 135 _ ReflectliteType.typeOf Tryz.func135 (by kernel_rfl) (by kernel_rfl) (by kernel_rfl) (by kernel_rfl)
  have h35 := @run_callFunc_extern Tryz.prog 171 _ (ReflectliteType.relation "AssignableTo" ReflectliteType.assignableTo) Tryz.func171 (by kernel_rfl) (by kernel_rfl) (by kernel_rfl) (by kernel_rfl)
  have h11 := @run_callFunc_extern Tryz.prog 136 _ (ReflectliteValue.method (ReflectliteValue.valueError "reflectlite.Value.Elem" 0) ReflectliteValue.elem) Tryz.func136 (by kernel_rfl) (by kernel_rfl) (by kernel_rfl) (by kernel_rfl)
  have h12 := @run_callFunc_extern Tryz.prog 137 _ ReflectliteValue.set Tryz.func137 (by kernel_rfl) (by kernel_rfl) (by kernel_rfl) (by kernel_rfl)
  have tO := typeOfE
  have mA := methodAssignableTo
  have a25 := assignableE
  have v25 := valueOfE
  have f6 := valueOfT
  have f7 := typeT
  have mK := methodKind
  have mE := methodElem
  have mI := methodImplements
  have k27 := kindT
  have k25 := kindE
  have e27 := elemT
  have i25 := implementsE
  have n8 := isNilT ⟨w.heap.size, 0, none⟩ t ((w.alloc (.cells #[.pointer (some t)] 156)).alloc (.cells #[.pointer (some ⟨12, 156, none⟩), .pointer (some ⟨w.heap.size, 0, none⟩), .int .u64 150] 173)) (by simp)
  have hlt : 7 < w.heap.size := by
    rcases Nat.lt_or_ge 7 w.heap.size with h | h
    · exact h
    · simp [World.cell?, Array.getElem?_eq_none h] at hg
  have hg2 : ((w.alloc (.cells #[.pointer (some t)] 156)).alloc (.cells #[.pointer (some ⟨12, 156, none⟩), .pointer (some ⟨w.heap.size, 0, none⟩), .int .u64 150] 173)).cell? ⟨7, 0, none⟩ = some (.iface 193 (.agg #[.pointer (some ⟨12, 26, none⟩)])) := by
    rw [World.cell?_alloc_lt _ _ ⟨7, 0, none⟩ (by first | (simp; done) | (simp; omega)), World.cell?_alloc_lt _ _ ⟨7, 0, none⟩ hlt]; exact hg
  have htl : t.block < w.heap.size := by
    rcases Nat.lt_or_ge t.block w.heap.size with h | h
    · exact h
    · simp [World.cell?, Array.getElem?_eq_none h] at ht0
  have el := elemV ⟨w.heap.size, 0, none⟩ t (((w.alloc (.cells #[.pointer (some t)] 156)).alloc (.cells #[.pointer (some ⟨12, 156, none⟩), .pointer (some ⟨w.heap.size, 0, none⟩), .int .u64 150] 173)).alloc (.cells #[.pointer (some ⟨12, 156, none⟩), .pointer (some ⟨w.heap.size, 0, none⟩), .int .u64 150] 173)) (by rw [World.cell?_alloc_lt _ _ ⟨w.heap.size, 0, none⟩ (by simp; omega), World.cell?_alloc_lt _ _ ⟨w.heap.size, 0, none⟩ (by simp), World.cell?_alloc_at _ _ _ _ (by simp)]; rfl)
  have st := setE t ⟨w.heap.size + 1 + 1 + 1, 0, none⟩ n old ((((w.alloc (.cells #[.pointer (some t)] 156)).alloc (.cells #[.pointer (some ⟨12, 156, none⟩), .pointer (some ⟨w.heap.size, 0, none⟩), .int .u64 150] 173)).alloc (.cells #[.pointer (some ⟨12, 156, none⟩), .pointer (some ⟨w.heap.size, 0, none⟩), .int .u64 150] 173)).alloc (.cells #[.int .i64 n] 38))
    (by rw [World.cell?_alloc_at _ _ _ _ (by simp)]; rfl)
    (by rw [World.cell?_alloc_lt _ _ t (by simp; omega), World.cell?_alloc_lt _ _ t (by simp; omega), World.cell?_alloc_lt _ _ t (by simp; omega), World.cell?_alloc_lt _ _ t htl]; exact ht0)
    (by rw [World.frozen?_alloc_old _ _ t (by simp; omega), World.frozen?_alloc_old _ _ t (by simp; omega), World.frozen?_alloc_old _ _ t (by simp; omega), World.frozen?_alloc_old _ _ t (Nat.ne_of_lt htl)]; exact hf0)
  have tA := typeOfA
  have aA := assignableA
  have asA := at_as
  have uA := at_unwrap
  have mU := methodUnwrap
  have hgl : g < w.heap.size := by
    rcases Nat.lt_or_ge g w.heap.size with h | h
    · exact h
    · simp [World.cell?, Array.getElem?_eq_none h] at hc
  have hc2 : ((w.alloc (.cells #[.pointer (some t)] 156)).alloc (.cells #[.pointer (some ⟨12, 156, none⟩), .pointer (some ⟨w.heap.size, 0, none⟩), .int .u64 150] 173)).cell? ⟨g, 0, none⟩ = some (.int .i64 n) := by
    rw [World.cell?_alloc_lt _ _ ⟨g, 0, none⟩ (by simp; omega), World.cell?_alloc_lt _ _ ⟨g, 0, none⟩ hgl]; exact hc
  have hc3 : (((w.alloc (.cells #[.pointer (some t)] 156)).alloc (.cells #[.pointer (some ⟨12, 156, none⟩), .pointer (some ⟨w.heap.size, 0, none⟩), .int .u64 150] 173)).alloc (.cells #[.pointer (some ⟨12, 156, none⟩), .pointer (some ⟨w.heap.size, 0, none⟩), .int .u64 150] 173)).cell? ⟨g, 0, none⟩ = some (.int .i64 n) := by
    rw [World.cell?_alloc_lt _ _ ⟨g, 0, none⟩ (by simp; omega)]; exact hc2
  go_enter Tryz.func100, Tryz.ntmps100
  go_wp2
  refine wp_loop_rounds 2 ?_
  rw [rounds_succ]
  go_wp2
  rw [rounds_succ]
  go_wp2
  go_ret
  exact ⟨rfl, rfl⟩
set_option maxRecDepth 100000 in
set_option maxHeartbeats 400000 in
theorem tell_at (n a : Int) (g : Nat) (W : World) (hE : ErrLaid W) (hb : Blk W g [.int .i64 n, .int .i64 a] 72) : Calls Tryz.prog 71 #[.iface 71 (.pointer (some ⟨g, 0, none⟩))] W fun e W' => e = .returned (.int .i64 n) ∧ Mods None W W' := by
  have hlt : 7 < W.heap.size := World.block_lt_of_cell? W _ hE
  have HE : Hid (ErrLaid (W.alloc (.cells #[.int .i64 0] 38))) := Lib.hid (by
    unfold ErrLaid
    rw [World.cell?_alloc_lt _ _ ⟨7, 0, none⟩ hlt]
    exact hE)
  have HC : Hid ((W.alloc (.cells #[.int .i64 0] 38)).cell? ⟨g, 0, none⟩ = some (.int .i64 n)) := Lib.hid (by
    rw [World.cell?_alloc_lt _ _ ⟨g, 0, none⟩ hb.lt]
    exact hb.cell (i := 0) rfl)
  clear hE hb
  go_enter Tryz.func71, Tryz.ntmps71
  go_wp2_with fail
  refine (as_at n g ⟨W.heap.size, 0, none⟩ (.int .i64 0) _ HE.out (by simp) (by simp) HC.out).mono ?_
  rintro e w' ⟨rfl, rfl⟩
  go_wp2
  go_ret
  refine ⟨rfl, ?_⟩
  repeat (first | with_reducible exact Mods.refl _ _ | with_reducible refine Mods.alloc ?_ _ | (refine Mods.setCell ?_ (fun h => absurd h (by simp)) _))
end Go.Proofs.YtodgkbcgdbhpeaaGreatDoor.ErrP
namespace Go.Proofs.YtodgkbcgdbhpeaaGreatDoor.ErrP
open Go.RowKit Go.Proofs.YtodgkbcgdbhpeaaGreatDoor.Wo
set_option linter.unusedVariables false
set_option linter.unusedSimpArgs false
theorem assert_at_at (p : Value) (w : World) : (Instr.typeAssert (.iface 71 p) 26 71 true).run Tryz.prog w = .ok (.tuple #[p, .bool true]) w := by
  simp [Instr.typeAssert, run_underlying Tryz.underlying71]
set_option maxRecDepth 100000 in
set_option maxHeartbeats 400000 in
theorem place_at (n a : Int) (g : Nat) (W : World) (hE : ErrLaid W) (hb : Blk W g [.int .i64 n, .int .i64 a] 72) : Calls Tryz.prog 35 #[.iface 71 (.pointer (some ⟨g, 0, none⟩))] W fun e W' => e = .returned (.tuple #[.int .i64 n, .int .i64 a]) ∧ Mods None W W' := by
  have HE := Lib.hid hE
  have HB := Lib.hid hb
  clear hE hb
  go_enter Tryz.func35, Tryz.ntmps35
  go_wp2_with (go_at_call 71; refine (tell_at n a g _ HE.out HB.out).mono ?_; rintro e w1 ⟨rfl, hm⟩)
  have HM := Lib.hid hm
  have hb := HB.out.mods hm (fun f => f)
  have c0 := hb.cell (i := 0) rfl
  have c1 := hb.cell (i := 1) rfl
  clear hm hb
  refine wp_loop_rounds 1 ?_
  rw [rounds_succ]
  have ta := assert_at_at (.pointer (some ⟨g, 0, none⟩))
  go_wp2
  go_region
  go_wp2
  go_ret2
  exact ⟨rfl, HM.out.drew⟩
set_option maxRecDepth 100000 in
set_option maxHeartbeats 400000 in
theorem is_at (n a : Int) (g : Nat) (W : World) (hE : ErrLaid W) (hb : Blk W g [.int .i64 n, .int .i64 a] 72) : Calls Tryz.prog 14 #[.iface 71 (.pointer (some ⟨g, 0, none⟩)), .agg #[.int .i64 n, .int .i64 a]] W fun e W' => e = .returned (.bool true) ∧ Mods None W W' := by
  obtain ⟨W1, hW1⟩ : ∃ W1, W1 = W.alloc (.cells #[.int .i64 n, .int .i64 a] 40) := ⟨_, rfl⟩
  have HB : Hid (Blk W1 W.heap.size [.int .i64 n, .int .i64 a] 40) := Lib.hid (by rw [hW1]; exact Blk.new W _ _)
  have HM : Hid (Mods None W W1) := Lib.hid (by rw [hW1]; exact (Mods.refl _ _).alloc _)
  have HE : Hid (ErrLaid W1) := Lib.hid (HM.out.cellOf hE (fun f => f))
  have HG := Lib.hid (hb.mods HM.out (fun f => f))
  clear hE hb
  go_enter Tryz.func14, Tryz.ntmps14
  go_wp2_with fail
  rw [← hW1]
  clear hW1
  refine (place_at n a g _ HE.out HG.out).mono ?_
  rintro e w1 ⟨rfl, hm⟩
  have hm1 : Mods None W1 w1 := hm
  have hb := HB.out.mods hm1 (fun f => f)
  have c0 := hb.cell (i := 0) rfl
  have c1 := hb.cell (i := 1) rfl
  have HM1 := Lib.hid hm1
  clear hm hm1 hb
  go_wp2
  go_ret
  exact ⟨rfl, HM.out.trans HM1.out⟩
end Go.Proofs.YtodgkbcgdbhpeaaGreatDoor.ErrP

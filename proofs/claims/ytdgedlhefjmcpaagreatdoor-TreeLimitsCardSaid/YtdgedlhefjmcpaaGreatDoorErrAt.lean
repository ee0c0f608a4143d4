/- errors.As at the target *Errno, of an error at a place; api.Tell of it. Conditions: errors.errorType lies as the program lays it. -/
import Derived.Test.YtdgedlhefjmcpaaGreatDoorErrTell
namespace Go.Proofs.YtdgedlhefjmcpaaGreatDoor.ErrP
open Go.RowKit Go.Proofs.YtdgedlhefjmcpaaGreatDoor.Wo
open Go.Extern.Stop Go.Stop Go.Extern
set_option linter.unusedVariables false
set_option linter.unusedSimpArgs false
theorem typeOfA (v : Value) (w : World) : (ReflectliteType.typeOf #[.iface 136 v]).run Tryz.prog w = .ok (.iface 204 (.agg #[.pointer (some ⟨12, 136, none⟩)])) w := by kernel_rfl
theorem assignableA (w : World) : (ReflectliteType.relation "AssignableTo" ReflectliteType.assignableTo #[.agg #[.pointer (some ⟨12, 136, none⟩)], .iface 204 (.agg #[.pointer (some ⟨12, 38, none⟩)])]).run Tryz.prog w = .ok (.bool false) w := by kernel_rfl
theorem at_as (p : Value) (w : World) : (Instr.typeAssert (.iface 136 p) 25 209 true).run Tryz.prog w = .ok (.tuple #[.nilIface, .bool false]) w :=
  run_typeAssert_lacksB Tryz.underlying209 (by kernel_rfl) (by kernel_rfl) _ _ w
theorem at_unwrap (p : Value) (w : World) : (Instr.typeAssert (.iface 136 p) 25 149 true).run Tryz.prog w = .ok (.tuple #[.iface 136 p, .bool true]) w :=
  run_typeAssert_hasB Tryz.underlying149 (by kernel_rfl) _ _ w
theorem methodUnwrap (p : Value) (w : World) : (Go.method 406 136 p "Unwrap").run Tryz.prog w = .ok (214, p) w := by kernel_rfl
set_option maxRecDepth 100000 in
set_option maxHeartbeats 4000000 in
theorem as_at (n : Int) (g : Nat) (t : Addr) (old : Value) (w : World) (hg : w.cell? ⟨1, 0, none⟩ = some (.iface 204 (.agg #[.pointer (some ⟨12, 25, none⟩)]))) (ht0 : w.cell? t = some old) (hf0 : w.frozen? t = false) (hc : w.cell? ⟨g, 0, none⟩ = some (.int .i64 n)) :
    Calls Tryz.prog 64 #[.iface 136 (.pointer (some ⟨g, 0, none⟩)), .iface 133 (.pointer (some t))] w fun ev w' => ev = .returned (.bool true) ∧ w' = ((((w.alloc (.cells #[.pointer (some t)] 133)).alloc (.cells #[.pointer (some ⟨12, 133, none⟩), .pointer (some ⟨w.heap.size, 0, none⟩), .int .u64 150] 176)).alloc (.cells #[.pointer (some ⟨12, 133, none⟩), .pointer (some ⟨w.heap.size, 0, none⟩), .int .u64 150] 176)).alloc (.cells #[.int .i64 n] 38)).setCell t (.int .i64 n) := by
  have h6 := @run_callFunc_extern Tryz.prog 95 _ (fun args => ReflectliteValue.unpack (args.getD 0 (.tuple #[]))) Tryz.func95 (by kernel_rfl) (by kernel_rfl) (by kernel_rfl) (by kernel_rfl)
  have h7 := @run_callFunc_extern Tryz.prog 96 _ (ReflectliteValue.methodAny (ReflectliteValue.valueError "reflectlite.Value.Type" 0) (fun t _ _ _ => ReflectliteType.toType t)) Tryz.func96 (by kernel_rfl) (by kernel_rfl) (by kernel_rfl) (by kernel_rfl)
  have h8 := @run_callFunc_extern Tryz.prog 97 _ (ReflectliteValue.method (ReflectliteValue.valueError "reflectlite.Value.IsNil" 0) ReflectliteValue.isNil) Tryz.func97 (by kernel_rfl) (by kernel_rfl) (by kernel_rfl) (by kernel_rfl)
  have h27 := @run_callFunc_extern Tryz.prog 208 _ (ReflectliteType.abiMethod fun t => do pure (.int .u8 (← Rtype.kind t))) Tryz.func208 (by kernel_rfl) (by kernel_rfl) (by kernel_rfl) (by kernel_rfl)
  have h37 := @run_callFunc_extern Tryz.prog 221 _ (ReflectliteType.method ReflectliteType.elem) Tryz.func221 (by kernel_rfl) (by kernel_rfl) (by kernel_rfl) (by kernel_rfl)
  have h38 := @run_callFunc_extern Tryz.prog 222 _ (ReflectliteType.relation "Implements" ReflectliteType.implements_) Tryz.func222 (by kernel_rfl) (by kernel_rfl) (by kernel_rfl) (by kernel_rfl)
  have h10 := @run_callFunc_extern Tryz.prog 127 _ ReflectliteType.typeOf Tryz.func127 (by kernel_rfl) (by kernel_rfl) (by kernel_rfl) (by kernel_rfl)
  have h35 := @run_callFunc_extern Tryz.prog 219 _ (ReflectliteType.relation "AssignableTo" ReflectliteType.assignableTo) Tryz.func219 (by kernel_rfl) (by kernel_rfl) (by kernel_rfl) (by kernel_rfl)
  have h11 := @run_callFunc_extern Tryz.prog 128 _ (ReflectliteValue.method (ReflectliteValue.valueError "reflectlite.Value.Elem" 0) ReflectliteValue.elem) Tryz.func128 (by kernel_rfl) (by kernel_rfl) (by kernel_rfl) (by kernel_rfl)
  have h12 := @run_callFunc_extern Tryz.prog 129 _ ReflectliteValue.set Tryz.func129 (by kernel_rfl) (by kernel_rfl) (by kernel_rfl) (by kernel_rfl)
  have tO := typeOfE
  have mA := methodAssignableTo
  have a25 := assignableE
  have v25 := valueOfE
  have f6 := valueOfT
  have f7 := typeT
  have mK := methodKind
  have mE := methodElem
  have mI := methodImplements
  have k27 := kindT
  have k25 := kindE
  have e27 := elemT
  have i25 := implementsE
  have n8 := isNilT ⟨w.heap.size, 0, none⟩ t ((w.alloc (.cells #[.pointer (some t)] 133)).alloc (.cells #[.pointer (some ⟨12, 133, none⟩), .pointer (some ⟨w.heap.size, 0, none⟩), .int .u64 150] 176)) (by simp)
  have hlt : 1 < w.heap.size := by
    rcases Nat.lt_or_ge 1 w.heap.size with h | h
    · exact h
    · simp [World.cell?, Array.getElem?_eq_none h] at hg
  have hg2 : ((w.alloc (.cells #[.pointer (some t)] 133)).alloc (.cells #[.pointer (some ⟨12, 133, none⟩), .pointer (some ⟨w.heap.size, 0, none⟩), .int .u64 150] 176)).cell? ⟨1, 0, none⟩ = some (.iface 204 (.agg #[.pointer (some ⟨12, 25, none⟩)])) := by
    rw [World.cell?_alloc_lt _ _ ⟨1, 0, none⟩ (by first | (simp; done) | (simp; omega)), World.cell?_alloc_lt _ _ ⟨1, 0, none⟩ hlt]; exact hg
  have htl : t.block < w.heap.size := by
    rcases Nat.lt_or_ge t.block w.heap.size with h | h
    · exact h
    · simp [World.cell?, Array.getElem?_eq_none h] at ht0
  have el := elemV ⟨w.heap.size, 0, none⟩ t (((w.alloc (.cells #[.pointer (some t)] 133)).alloc (.cells #[.pointer (some ⟨12, 133, none⟩), .pointer (some ⟨w.heap.size, 0, none⟩), .int .u64 150] 176)).alloc (.cells #[.pointer (some ⟨12, 133, none⟩), .pointer (some ⟨w.heap.size, 0, none⟩), .int .u64 150] 176)) (by rw [World.cell?_alloc_lt _ _ ⟨w.heap.size, 0, none⟩ (by simp; omega), World.cell?_alloc_lt _ _ ⟨w.heap.size, 0, none⟩ (by simp), World.cell?_alloc_at _ _ _ _ (by simp)]; rfl)
  have st := setE t ⟨w.heap.size + 1 + 1 + 1, 0, none⟩ n old ((((w.alloc (.cells #[.pointer (some t)] 133)).alloc (.cells #[.pointer (some ⟨12, 133, none⟩), .pointer (some ⟨w.heap.size, 0, none⟩), .int .u64 150] 176)).alloc (.cells #[.pointer (some ⟨12, 133, none⟩), .pointer (some ⟨w.heap.size, 0, none⟩), .int .u64 150] 176)).alloc (.cells #[.int .i64 n] 38))
    (by rw [World.cell?_alloc_at _ _ _ _ (by simp)]; rfl)
    (by rw [World.cell?_alloc_lt _ _ t (by simp; omega), World.cell?_alloc_lt _ _ t (by simp; omega), World.cell?_alloc_lt _ _ t (by simp; omega), World.cell?_alloc_lt _ _ t htl]; exact ht0)
    (by rw [World.frozen?_alloc_old _ _ t (by simp; omega), World.frozen?_alloc_old _ _ t (by simp; omega), World.frozen?_alloc_old _ _ t (by simp; omega), World.frozen?_alloc_old _ _ t (Nat.ne_of_lt htl)]; exact hf0)
  have tA := typeOfA
  have aA := assignableA
  have asA := at_as
  have uA := at_unwrap
  have mU := methodUnwrap
  have hgl : g < w.heap.size := by
    rcases Nat.lt_or_ge g w.heap.size with h | h
    · exact h
    · simp [World.cell?, Array.getElem?_eq_none h] at hc
  have hc2 : ((w.alloc (.cells #[.pointer (some t)] 133)).alloc (.cells #[.pointer (some ⟨12, 133, none⟩), .pointer (some ⟨w.heap.size, 0, none⟩), .int .u64 150] 176)).cell? ⟨g, 0, none⟩ = some (.int .i64 n) := by
    rw [World.cell?_alloc_lt _ _ ⟨g, 0, none⟩ (by simp; omega), World.cell?_alloc_lt _ _ ⟨g, 0, none⟩ hgl]; exact hc
  have hc3 : (((w.alloc (.cells #[.pointer (some t)] 133)).alloc (.cells #[.pointer (some ⟨12, 133, none⟩), .pointer (some ⟨w.heap.size, 0, none⟩), .int .u64 150] 176)).alloc (.cells #[.pointer (some ⟨12, 133, none⟩), .pointer (some ⟨w.heap.size, 0, none⟩), .int .u64 150] 176)).cell? ⟨g, 0, none⟩ = some (.int .i64 n) := by
    rw [World.cell?_alloc_lt _ _ ⟨g, 0, none⟩ (by simp; omega)]; exact hc2
  go_enter Tryz.func64, Tryz.ntmps64
  go_wp2
  refine wp_loop_rounds 2 ?_
  rw [rounds_succ]
  go_wp2
  rw [rounds_succ]
  go_wp2
  go_ret
  exact ⟨rfl, rfl⟩
set_option maxRecDepth 100000 in
set_option maxHeartbeats 400000 in
theorem tell_at (n a : Int) (g : Nat) (W : World) (hE : ErrLaid W) (hb : Blk W g [.int .i64 n, .int .i64 a] 137) : Calls Tryz.prog 29 #[.iface 136 (.pointer (some ⟨g, 0, none⟩))] W fun e W' => e = .returned (.int .i64 n) ∧ Mods None W W' := by
  have hlt : 1 < W.heap.size := World.block_lt_of_cell? W _ hE
  have HE : Hid (ErrLaid (W.alloc (.cells #[.int .i64 0] 38))) := Lib.hid (by
    unfold ErrLaid
    rw [World.cell?_alloc_lt _ _ ⟨1, 0, none⟩ hlt]
    exact hE)
  have HC : Hid ((W.alloc (.cells #[.int .i64 0] 38)).cell? ⟨g, 0, none⟩ = some (.int .i64 n)) := Lib.hid (by
    rw [World.cell?_alloc_lt _ _ ⟨g, 0, none⟩ hb.lt]
    exact hb.cell (i := 0) rfl)
  clear hE hb
  go_enter Tryz.func29, Tryz.ntmps29
  go_wp2_with fail
  refine (as_at n g ⟨W.heap.size, 0, none⟩ (.int .i64 0) _ HE.out (by simp) (by simp) HC.out).mono ?_
  rintro e w' ⟨rfl, rfl⟩
  go_wp2
  go_ret
  refine ⟨rfl, ?_⟩
  repeat (first | with_reducible exact Mods.refl _ _ | with_reducible refine Mods.alloc ?_ _ | (refine Mods.setCell ?_ (fun h => absurd h (by simp)) _))
end Go.Proofs.YtdgedlhefjmcpaaGreatDoor.ErrP

/- plain.Place and law.is of an error at a place. Conditions: errors.errorType lies as the program lays it. -/
import Derived.Test.YtdgedlhefjmcpaaGreatDoorErrAt
import Derived.Test.YtdgedlhefjmcpaaGreatDoorErrPlace
namespace Go.Proofs.YtdgedlhefjmcpaaGreatDoor.ErrP
open Go.RowKit Go.Proofs.YtdgedlhefjmcpaaGreatDoor.Wo
set_option linter.unusedVariables false
set_option linter.unusedSimpArgs false
theorem assert_at_at (p : Value) (w : World) : (Instr.typeAssert (.iface 136 p) 25 136 true).run Tryz.prog w = .ok (.tuple #[p, .bool true]) w := by
  simp [Instr.typeAssert, run_underlying Tryz.underlying136]
set_option maxRecDepth 100000 in
set_option maxHeartbeats 400000 in
theorem place_at (n a : Int) (g : Nat) (W : World) (hE : ErrLaid W) (hb : Blk W g [.int .i64 n, .int .i64 a] 137) : Calls Tryz.prog 48 #[.iface 136 (.pointer (some ⟨g, 0, none⟩))] W fun e W' => e = .returned (.tuple #[.int .i64 n, .int .i64 a]) ∧ Mods None W W' := by
  have HE := Lib.hid hE
  have HB := Lib.hid hb
  clear hE hb
  go_enter Tryz.func48, Tryz.ntmps48
  go_wp2_with (go_at_call 29; refine (tell_at n a g _ HE.out HB.out).mono ?_; rintro e w1 ⟨rfl, hm⟩)
  have HM := Lib.hid hm
  have hb := HB.out.mods hm (fun f => f)
  have c0 := hb.cell (i := 0) rfl
  have c1 := hb.cell (i := 1) rfl
  clear hm hb
  refine wp_loop_rounds 1 ?_
  rw [rounds_succ]
  have ta := assert_at_at (.pointer (some ⟨g, 0, none⟩))
  go_wp2
  go_region
  go_wp2
  go_ret2
  exact ⟨rfl, HM.out.drew⟩
set_option maxRecDepth 100000 in
set_option maxHeartbeats 400000 in
theorem is_at (n a : Int) (g : Nat) (W : World) (hE : ErrLaid W) (hb : Blk W g [.int .i64 n, .int .i64 a] 137) : Calls Tryz.prog 16 #[.iface 136 (.pointer (some ⟨g, 0, none⟩)), .agg #[.int .i64 n, .int .i64 a]] W fun e W' => e = .returned (.bool true) ∧ Mods None W W' := by
  obtain ⟨W1, hW1⟩ : ∃ W1, W1 = W.alloc (.cells #[.int .i64 n, .int .i64 a] 40) := ⟨_, rfl⟩
  have HB : Hid (Blk W1 W.heap.size [.int .i64 n, .int .i64 a] 40) := Lib.hid (by rw [hW1]; exact Blk.new W _ _)
  have HM : Hid (Mods None W W1) := Lib.hid (by rw [hW1]; exact (Mods.refl _ _).alloc _)
  have HE : Hid (ErrLaid W1) := Lib.hid (HM.out.cellOf hE (fun f => f))
  have HG := Lib.hid (hb.mods HM.out (fun f => f))
  clear hE hb
  go_enter Tryz.func16, Tryz.ntmps16
  go_wp2_with fail
  rw [← hW1]
  clear hW1
  refine (place_at n a g _ HE.out HG.out).mono ?_
  rintro e w1 ⟨rfl, hm⟩
  have hm1 : Mods None W1 w1 := hm
  have hb := HB.out.mods hm1 (fun f => f)
  have c0 := hb.cell (i := 0) rfl
  have c1 := hb.cell (i := 1) rfl
  have HM1 := Lib.hid hm1
  clear hm hm1 hb
  go_wp2
  go_ret
  exact ⟨rfl, HM.out.trans HM1.out⟩
end Go.Proofs.YtdgedlhefjmcpaaGreatDoor.ErrP

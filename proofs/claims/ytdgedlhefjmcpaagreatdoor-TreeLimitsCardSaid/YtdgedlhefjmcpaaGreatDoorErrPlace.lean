/- Errors told: contracts of plain.Place and law.is, of no error and of a bare Errno. Conditions: errors.errorType lies as the program lays it. -/
import Derived.Test.YtdgedlhefjmcpaaGreatDoorErrTell
import Derived.WalkSpells
import Derived.WalkLawsBesides
import Derived.Outline
namespace Go.Proofs.YtdgedlhefjmcpaaGreatDoor.ErrP
open Go.RowKit Go.Proofs.YtdgedlhefjmcpaaGreatDoor.Wo
set_option linter.unusedVariables false
set_option linter.unusedSimpArgs false
set_option maxRecDepth 100000 in
set_option maxHeartbeats 400000 in
theorem place_nil (W : World) : Calls Tryz.prog 48 #[.nilIface] W fun e W' => e = .returned (.tuple #[.int .i64 0, .int .i64 (-1)]) ∧ W = W' := by
  go_enter Tryz.func48, Tryz.ntmps48
  go_wp2_with (go_at_call 29; refine (tell_nil _).mono ?_; rintro e w' ⟨rfl, rfl⟩)
  refine wp_loop_rounds 1 ?_
  rw [rounds_succ]
  go_wp2
  go_ret2
  exact ⟨rfl, rfl⟩
set_option maxRecDepth 100000 in
set_option maxHeartbeats 400000 in
theorem place_errno (n : Int) (W : World) (hE : ErrLaid W) : Calls Tryz.prog 48 #[.iface 38 (.int .i64 n)] W fun e W' => e = .returned (.tuple #[.int .i64 n, .int .i64 (-1)]) ∧ Mods None W W' := by
  have HE := Lib.hid hE
  clear hE
  go_enter Tryz.func48, Tryz.ntmps48
  go_wp2_with (go_at_call 29; refine (tell_errno n _ HE.out).mono ?_; rintro e w1 ⟨rfl, hm⟩)
  have HM := Lib.hid hm
  clear hm
  refine wp_loop_rounds 1 ?_
  rw [rounds_succ]
  have ta := assert_at
  have tu := assert_unwrap
  go_wp2
  go_ret2
  exact ⟨rfl, HM.out⟩
theorem fault_bare (a : Int) (W : World) : Calls Tryz.prog 59 #[.int .i64 a] W fun e W' => e = .returned (.agg #[.int .i64 a, .int .i64 (-1)]) ∧ Mods None W W' := by
  go_enter Tryz.func59, Tryz.ntmps59
  go_wp2
  refine bodyPost_ret (v := .agg #[.int .i64 a, .int .i64 (-1)]) (by simp [results, Tryz.results59, go_sem]) rfl ⟨rfl, ?_⟩
  exact (Mods.refl _ _).alloc _
set_option maxRecDepth 100000 in
set_option maxHeartbeats 400000 in
theorem is_nil (a : Int) (W : World) : Calls Tryz.prog 16 #[.nilIface, .agg #[.int .i64 a, .int .i64 (-1)]] W fun e W' => e = .returned (.bool ((0 : Int) == a)) ∧ Mods None W W' := by
  obtain ⟨W1, hW1⟩ : ∃ W1, W1 = W.alloc (.cells #[.int .i64 a, .int .i64 (-1)] 40) := ⟨_, rfl⟩
  have HB : Hid (Blk W1 W.heap.size [.int .i64 a, .int .i64 (-1)] 40) := Lib.hid (by rw [hW1]; exact Blk.new W _ _)
  have HM : Hid (Mods None W W1) := Lib.hid (by rw [hW1]; exact (Mods.refl _ _).alloc _)
  have h0 := HM
  clear h0
  go_enter Tryz.func16, Tryz.ntmps16
  go_wp2_with fail
  rw [← hW1]
  clear hW1
  refine (place_nil _).mono ?_
  rintro e w1 ⟨rfl, hm⟩
  have hm1 : Mods None W1 w1 := by rw [← hm]; exact Mods.refl _ _
  have hb := HB.out.mods hm1 (fun f => f)
  have c0 := hb.cell (i := 0) rfl
  have c1 := hb.cell (i := 1) rfl
  have HM1 := Lib.hid hm1
  clear hm hm1 hb
  rcases hq : ((0 : Int) == a) with _ | _
  all_goals
    go_wp2
    go_ret
    exact ⟨(congrArg (fun b => Ending.returned (Value.bool b)) hq).symm, HM.out.trans HM1.out⟩
set_option maxRecDepth 100000 in
set_option maxHeartbeats 400000 in
theorem is_errno (n a : Int) (W : World) (hE : ErrLaid W) : Calls Tryz.prog 16 #[.iface 38 (.int .i64 n), .agg #[.int .i64 a, .int .i64 (-1)]] W fun e W' => e = .returned (.bool (n == a)) ∧ Mods None W W' := by
  obtain ⟨W1, hW1⟩ : ∃ W1, W1 = W.alloc (.cells #[.int .i64 a, .int .i64 (-1)] 40) := ⟨_, rfl⟩
  have HB : Hid (Blk W1 W.heap.size [.int .i64 a, .int .i64 (-1)] 40) := Lib.hid (by rw [hW1]; exact Blk.new W _ _)
  have HM : Hid (Mods None W W1) := Lib.hid (by rw [hW1]; exact (Mods.refl _ _).alloc _)
  have HE : Hid (ErrLaid W1) := Lib.hid (HM.out.cellOf hE (fun f => f))
  clear hE
  go_enter Tryz.func16, Tryz.ntmps16
  go_wp2_with fail
  rw [← hW1]
  clear hW1
  refine (place_errno n _ HE.out).mono ?_
  rintro e w1 ⟨rfl, hm⟩
  have hm1 : Mods None W1 w1 := hm
  have hb := HB.out.mods hm1 (fun f => f)
  have c0 := hb.cell (i := 0) rfl
  have c1 := hb.cell (i := 1) rfl
  have HM1 := Lib.hid hm1
  clear hm hm1 hb
  rcases hq : (n == a) with _ | _
  all_goals
    go_wp2
    go_ret
    exact ⟨(congrArg (fun b => Ending.returned (Value.bool b)) hq).symm, HM.out.trans HM1.out⟩
end Go.Proofs.YtdgedlhefjmcpaaGreatDoor.ErrP

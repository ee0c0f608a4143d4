/- Errors told: contracts of api.Tell, plain.Place, law.is, law.bare, of no error and of a bare Errno. Conditions: errors.errorType lies as the program lays it. -/
import Derived.Test.YtgeajgdddjjjnaaDoorErr
import Derived.Test.YtgeajgdddjjjnaaDoorMods
import Derived.WalkSpells
import Derived.WalkLawsBesides
import Derived.Outline
namespace Go.Proofs.YtgeajgdddjjjnaaDoor.ErrP
open Go.RowKit Go.Proofs.YtgeajgdddjjjnaaDoor.Wo
set_option linter.unusedVariables false
set_option linter.unusedSimpArgs false

/-- errors.errorType lies as the program lays it. -/
def ErrLaid (W : World) : Prop := W.cell? ⟨2, 0, none⟩ = some (.iface 143 (.agg #[.pointer (some ⟨3, 27, none⟩)]))
theorem assert_at (n : Int) (w : World) : (Instr.typeAssert (.iface 54 (.int .i64 n)) 27 118 true).run Tryd.prog w = .ok (.tuple #[.pointer none, .bool false]) w := by kernel_rfl
theorem assert_unwrap (n : Int) (w : World) : (Instr.typeAssert (.iface 54 (.int .i64 n)) 27 121 true).run Tryd.prog w = .ok (.tuple #[.nilIface, .bool false]) w :=
  run_typeAssert_lacksB Tryd.underlying121 (by kernel_rfl) (by kernel_rfl) _ _ w
theorem tell_nil (W : World) : Calls Tryd.prog 67 #[.nilIface] W fun e W' => e = .returned (.int .i64 0) ∧ W = W' := by
  go_enter Tryd.func67, Tryd.ntmps67
  go_wp2
  go_ret
  exact ⟨rfl, rfl⟩
set_option maxRecDepth 100000 in
set_option maxHeartbeats 400000 in
theorem tell_errno (n : Int) (W : World) (hE : ErrLaid W) : Calls Tryd.prog 67 #[.iface 54 (.int .i64 n)] W fun e W' => e = .returned (.int .i64 n) ∧ Mods None W W' := by
  have hlt : 2 < W.heap.size := World.block_lt_of_cell? W _ hE
  have HE : Hid (ErrLaid (W.alloc (.cells #[.int .i64 0] 54))) := Lib.hid (by
    unfold ErrLaid
    rw [World.cell?_alloc_lt _ _ ⟨2, 0, none⟩ hlt]
    exact hE)
  clear hE
  go_enter Tryd.func67, Tryd.ntmps67
  go_wp2_with fail
  refine (as_errno n ⟨W.heap.size, 0, none⟩ (.int .i64 0) _ HE.out (by simp) (by simp)).mono ?_
  rintro e w' ⟨rfl, rfl⟩
  go_wp2
  go_ret
  refine ⟨rfl, ?_⟩
  repeat (first | with_reducible exact Mods.refl _ _ | with_reducible refine Mods.alloc ?_ _ | (refine Mods.setCell ?_ (fun h => absurd h (by simp)) _))
set_option maxRecDepth 100000 in
set_option maxHeartbeats 400000 in
theorem place_nil (W : World) : Calls Tryd.prog 62 #[.nilIface] W fun e W' => e = .returned (.tuple #[.int .i64 0, .int .i64 (-1)]) ∧ W = W' := by
  go_enter Tryd.func62, Tryd.ntmps62
  go_wp2_with (go_at_call 67; refine (tell_nil _).mono ?_; rintro e w' ⟨rfl, rfl⟩)
  refine wp_loop_rounds 1 ?_
  rw [rounds_succ]
  go_wp2
  go_ret2
  exact ⟨rfl, rfl⟩
set_option maxRecDepth 100000 in
set_option maxHeartbeats 400000 in
theorem place_errno (n : Int) (W : World) (hE : ErrLaid W) : Calls Tryd.prog 62 #[.iface 54 (.int .i64 n)] W fun e W' => e = .returned (.tuple #[.int .i64 n, .int .i64 (-1)]) ∧ Mods None W W' := by
  have HE := Lib.hid hE
  clear hE
  go_enter Tryd.func62, Tryd.ntmps62
  go_wp2_with (go_at_call 67; refine (tell_errno n _ HE.out).mono ?_; rintro e w1 ⟨rfl, hm⟩)
  have HM := Lib.hid hm
  clear hm
  refine wp_loop_rounds 1 ?_
  rw [rounds_succ]
  have ta := assert_at
  have tu := assert_unwrap
  go_wp2
  go_ret2
  exact ⟨rfl, HM.out⟩
theorem fault_bare (a : Int) (W : World) : Calls Tryd.prog 47 #[.int .i64 a] W fun e W' => e = .returned (.agg #[.int .i64 a, .int .i64 (-1)]) ∧ Mods None W W' := by
  go_enter Tryd.func47, Tryd.ntmps47
  go_wp2
  refine bodyPost_ret (v := .agg #[.int .i64 a, .int .i64 (-1)]) (by simp [results, Tryd.results47, go_sem]) rfl ⟨rfl, ?_⟩
  exact (Mods.refl _ _).alloc _
set_option maxRecDepth 100000 in
set_option maxHeartbeats 400000 in
theorem is_nil (a : Int) (W : World) : Calls Tryd.prog 46 #[.nilIface, .agg #[.int .i64 a, .int .i64 (-1)]] W fun e W' => e = .returned (.bool ((0 : Int) == a)) ∧ Mods None W W' := by
  obtain ⟨W1, hW1⟩ : ∃ W1, W1 = W.alloc (.cells #[.int .i64 a, .int .i64 (-1)] 96) := ⟨_, rfl⟩
  have HB : Hid (Blk W1 W.heap.size [.int .i64 a, .int .i64 (-1)] 96) := Lib.hid (by rw [hW1]; exact Blk.new W _ _)
  have HM : Hid (Mods None W W1) := Lib.hid (by rw [hW1]; exact (Mods.refl _ _).alloc _)
  have h0 := HM
  clear h0
  go_enter Tryd.func46, Tryd.ntmps46
  go_wp2_with fail
  rw [← hW1]
  clear hW1
  refine (place_nil _).mono ?_
  rintro e w1 ⟨rfl, hm⟩
  have hm1 : Mods None W1 w1 := by rw [← hm]; exact Mods.refl _ _
  have hb := HB.out.mods hm1 (fun f => f)
  have c0 := hb.cell (i := 0) rfl
  have c1 := hb.cell (i := 1) rfl
  have HM1 := Lib.hid hm1
  clear hm hm1 hb
  rcases hq : ((0 : Int) == a) with _ | _
  all_goals
    go_wp2
    go_ret
    exact ⟨(congrArg (fun b => Ending.returned (Value.bool b)) hq).symm, HM.out.trans HM1.out⟩
set_option maxRecDepth 100000 in
set_option maxHeartbeats 400000 in
theorem is_errno (n a : Int) (W : World) (hE : ErrLaid W) : Calls Tryd.prog 46 #[.iface 54 (.int .i64 n), .agg #[.int .i64 a, .int .i64 (-1)]] W fun e W' => e = .returned (.bool (n == a)) ∧ Mods None W W' := by
  obtain ⟨W1, hW1⟩ : ∃ W1, W1 = W.alloc (.cells #[.int .i64 a, .int .i64 (-1)] 96) := ⟨_, rfl⟩
  have HB : Hid (Blk W1 W.heap.size [.int .i64 a, .int .i64 (-1)] 96) := Lib.hid (by rw [hW1]; exact Blk.new W _ _)
  have HM : Hid (Mods None W W1) := Lib.hid (by rw [hW1]; exact (Mods.refl _ _).alloc _)
  have HE : Hid (ErrLaid W1) := Lib.hid (HM.out.cellOf hE (fun f => f))
  clear hE
  go_enter Tryd.func46, Tryd.ntmps46
  go_wp2_with fail
  rw [← hW1]
  clear hW1
  refine (place_errno n _ HE.out).mono ?_
  rintro e w1 ⟨rfl, hm⟩
  have hm1 : Mods None W1 w1 := hm
  have hb := HB.out.mods hm1 (fun f => f)
  have c0 := hb.cell (i := 0) rfl
  have c1 := hb.cell (i := 1) rfl
  have HM1 := Lib.hid hm1
  clear hm hm1 hb
  rcases hq : (n == a) with _ | _
  all_goals
    go_wp2
    go_ret
    exact ⟨(congrArg (fun b => Ending.returned (Value.bool b)) hq).symm, HM.out.trans HM1.out⟩
set_option maxRecDepth 100000 in
theorem bare_nil (a : Int) (W : World) : Calls Tryd.prog 25 #[.nilIface, .int .i64 a] W fun e W' => e = .returned (.bool ((0 : Int) == a)) ∧ Mods None W W' := by
  have HE := Lib.hid trivial
  skip
  go_enter Tryd.func25, Tryd.ntmps25
  go_wp2_with fail
  refine (fault_bare a W).mono ?_
  rintro e w1 ⟨rfl, hm⟩
  have HM := Lib.hid hm
  skip
  clear hm
  go_wp2_with fail
  refine (is_nil a _).mono ?_
  rintro e w2 ⟨rfl, hm2⟩
  have HM2 := Lib.hid hm2
  clear hm2
  go_wp2
  go_ret
  exact ⟨rfl, HM.out.trans HM2.out⟩
set_option maxRecDepth 100000 in
theorem bare_errno (n a : Int) (W : World) (hE : ErrLaid W) : Calls Tryd.prog 25 #[.iface 54 (.int .i64 n), .int .i64 a] W fun e W' => e = .returned (.bool (n == a)) ∧ Mods None W W' := by
  have HE := Lib.hid hE
  clear hE
  go_enter Tryd.func25, Tryd.ntmps25
  go_wp2_with fail
  refine (fault_bare a W).mono ?_
  rintro e w1 ⟨rfl, hm⟩
  have HM := Lib.hid hm
  have HE1 : Hid (ErrLaid w1) := Lib.hid (hm.cellOf HE.out (fun f => f))
  clear hm
  go_wp2_with fail
  refine (is_errno n a _ HE1.out).mono ?_
  rintro e w2 ⟨rfl, hm2⟩
  have HM2 := Lib.hid hm2
  clear hm2
  go_wp2
  go_ret
  exact ⟨rfl, HM.out.trans HM2.out⟩
end Go.Proofs.YtgeajgdddjjjnaaDoor.ErrP

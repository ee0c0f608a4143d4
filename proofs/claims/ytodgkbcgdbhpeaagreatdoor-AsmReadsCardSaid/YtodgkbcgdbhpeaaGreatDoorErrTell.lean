/- Errors told: contracts of api.Tell, of no error and of a bare Errno. Conditions: errors.errorType lies as the program lays it. -/
import Derived.Test.YtodgkbcgdbhpeaaGreatDoorErr
import Derived.Test.YtodgkbcgdbhpeaaGreatDoorMods
import Derived.WalkSpells
import Derived.WalkLawsBesides
import Derived.Outline
namespace Go.Proofs.YtodgkbcgdbhpeaaGreatDoor.ErrP
open Go.RowKit Go.Proofs.YtodgkbcgdbhpeaaGreatDoor.Wo
set_option linter.unusedVariables false
set_option linter.unusedSimpArgs false

/-- errors.errorType lies as the program lays it. -/
def ErrLaid (W : World) : Prop := W.cell? ⟨7, 0, none⟩ = some (.iface 193 (.agg #[.pointer (some ⟨12, 26, none⟩)]))
theorem assert_at (n : Int) (w : World) : (Instr.typeAssert (.iface 38 (.int .i64 n)) 26 71 true).run Tryz.prog w = .ok (.tuple #[.pointer none, .bool false]) w := by kernel_rfl
theorem assert_unwrap (n : Int) (w : World) : (Instr.typeAssert (.iface 38 (.int .i64 n)) 26 135 true).run Tryz.prog w = .ok (.tuple #[.nilIface, .bool false]) w :=
  run_typeAssert_lacksB Tryz.underlying135 (by kernel_rfl) (by kernel_rfl) _ _ w
theorem tell_nil (W : World) : Calls Tryz.prog 71 #[.nilIface] W fun e W' => e = .returned (.int .i64 0) ∧ W = W' := by
  go_enter Tryz.func71, Tryz.ntmps71
  go_wp2
  go_ret
  exact ⟨rfl, rfl⟩
set_option maxRecDepth 100000 in
set_option maxHeartbeats 400000 in
theorem tell_errno (n : Int) (W : World) (hE : ErrLaid W) : Calls Tryz.prog 71 #[.iface 38 (.int .i64 n)] W fun e W' => e = .returned (.int .i64 n) ∧ Mods None W W' := by
  have hlt : 7 < W.heap.size := World.block_lt_of_cell? W _ hE
  have HE : Hid (ErrLaid (W.alloc (.cells #[.int .i64 0] 38))) := Lib.hid (by
    unfold ErrLaid
    rw [World.cell?_alloc_lt _ _ ⟨7, 0, none⟩ hlt]
    exact hE)
  clear hE
  go_enter Tryz.func71, Tryz.ntmps71
  go_wp2_with fail
  refine (as_errno n ⟨W.heap.size, 0, none⟩ (.int .i64 0) _ HE.out (by simp) (by simp)).mono ?_
  rintro e w' ⟨rfl, rfl⟩
  go_wp2
  go_ret
  refine ⟨rfl, ?_⟩
  repeat (first | with_reducible exact Mods.refl _ _ | with_reducible refine Mods.alloc ?_ _ | (refine Mods.setCell ?_ (fun h => absurd h (by simp)) _))
end Go.Proofs.YtodgkbcgdbhpeaaGreatDoor.ErrP

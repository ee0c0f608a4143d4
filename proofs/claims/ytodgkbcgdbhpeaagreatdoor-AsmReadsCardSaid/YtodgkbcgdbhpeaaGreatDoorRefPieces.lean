/- The pieces of a number by the reference: contracts of ref.pieces, kind by kind. No conditions. -/
import Derived.Test.YtodgkbcgdbhpeaaGreatDoorMods
import Derived.Test.YtodgkbcgdbhpeaaGreatDoorRows
import Derived.WalkKit
import Derived.ProofKit
import Derived.WalkSpells
import Derived.Laws.StandIn
import Derived.Lib.Hide
namespace Go.Proofs.YtodgkbcgdbhpeaaGreatDoor.RefP
open Go.RowKit Go.Proofs.YtodgkbcgdbhpeaaGreatDoor.Wo
set_option linter.unusedVariables false
set_option linter.unusedSimpArgs false
set_option maxRecDepth 100000 in
theorem pieces_82 (W : World) : Calls Tryz.prog 42 #[.int .u8 82] W fun e W' => e = .returned (.slice none 0 0) ∧ W' = W := by
  go_enter Tryz.func42, Tryz.ntmps42
  go_wp2
  go_ret
  exact ⟨rfl, rfl⟩
set_option maxRecDepth 100000 in
theorem pieces_73 (W : World) : Calls Tryz.prog 42 #[.int .u8 73] W fun e W' => e = .returned (.slice (some ⟨W.heap.size, 0, none⟩) 1 1) ∧ W' = W.alloc (.cells #[.int .i64 0, .int .i64 12, .int .i64 20] 94) := by
  go_enter Tryz.func42, Tryz.ntmps42
  go_wp2
  go_ret
  exact ⟨rfl, rfl⟩
set_option maxRecDepth 100000 in
theorem pieces_72 (W : World) : Calls Tryz.prog 42 #[.int .u8 72] W fun e W' => e = .returned (.slice (some ⟨W.heap.size, 0, none⟩) 1 1) ∧ W' = W.alloc (.cells #[.int .i64 0, .int .i64 6, .int .i64 20] 94) := by
  go_enter Tryz.func42, Tryz.ntmps42
  go_wp2
  go_ret
  exact ⟨rfl, rfl⟩
set_option maxRecDepth 100000 in
theorem pieces_83 (W : World) : Calls Tryz.prog 42 #[.int .u8 83] W fun e W' => e = .returned (.slice (some ⟨W.heap.size, 0, none⟩) 2 2) ∧ W' = W.alloc (.cells #[.int .i64 0, .int .i64 5, .int .i64 7, .int .i64 5, .int .i64 7, .int .i64 25] 94) := by
  go_enter Tryz.func42, Tryz.ntmps42
  go_wp2
  go_ret
  exact ⟨rfl, rfl⟩
set_option maxRecDepth 100000 in
theorem pieces_66 (W : World) : Calls Tryz.prog 42 #[.int .u8 66] W fun e W' => e = .returned (.slice (some ⟨W.heap.size, 0, none⟩) 4 4) ∧ W' = W.alloc (.cells #[.int .i64 11, .int .i64 1, .int .i64 7, .int .i64 1, .int .i64 4, .int .i64 8, .int .i64 5, .int .i64 6, .int .i64 25, .int .i64 12, .int .i64 1, .int .i64 31] 94) := by
  go_enter Tryz.func42, Tryz.ntmps42
  go_wp2
  go_ret
  exact ⟨rfl, rfl⟩
set_option maxRecDepth 100000 in
theorem pieces_85 (W : World) : Calls Tryz.prog 42 #[.int .u8 85] W fun e W' => e = .returned (.slice (some ⟨W.heap.size, 0, none⟩) 1 1) ∧ W' = W.alloc (.cells #[.int .i64 12, .int .i64 20, .int .i64 12] 94) := by
  go_enter Tryz.func42, Tryz.ntmps42
  go_wp2
  go_ret
  exact ⟨rfl, rfl⟩
set_option maxRecDepth 100000 in
theorem pieces_74 (W : World) : Calls Tryz.prog 42 #[.int .u8 74] W fun e W' => e = .returned (.slice (some ⟨W.heap.size, 0, none⟩) 4 4) ∧ W' = W.alloc (.cells #[.int .i64 12, .int .i64 8, .int .i64 12, .int .i64 11, .int .i64 1, .int .i64 20, .int .i64 1, .int .i64 10, .int .i64 21, .int .i64 20, .int .i64 1, .int .i64 31] 94) := by
  go_enter Tryz.func42, Tryz.ntmps42
  go_wp2
  go_ret
  exact ⟨rfl, rfl⟩
set_option maxRecDepth 100000 in
theorem pieces_69 (W : World) : Calls Tryz.prog 42 #[.int .u8 69] W fun e W' => e = .returned (.slice none 0 0) ∧ W' = W := by
  go_enter Tryz.func42, Tryz.ntmps42
  go_wp2
  go_ret
  exact ⟨rfl, rfl⟩
end Go.Proofs.YtodgkbcgdbhpeaaGreatDoor.RefP

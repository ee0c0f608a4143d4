/- Small functions of the reference: contracts of ref.in, has, signs, and strings.Contains of what has tells. No conditions. -/
import Derived.Test.YtodgkbcgdbhpeaaGreatDoorMods
import Derived.Test.YtodgkbcgdbhpeaaGreatDoorRows
import Derived.WalkKit
import Derived.ProofKit
import Derived.WalkSpells
import Derived.Laws.StandIn
import Derived.Lib.Hide
namespace Go.Proofs.YtodgkbcgdbhpeaaGreatDoor.RefP
open Go.RowKit Go.Proofs.YtodgkbcgdbhpeaaGreatDoor.Wo
set_option linter.unusedVariables false
set_option linter.unusedSimpArgs false
theorem in_any (n lo hi : Int) (W : World) : Calls Tryz.prog 37 #[.int .i64 n, .int .i64 lo, .int .i64 hi] W fun e W' => e = .returned (.bool (decide (lo ≤ n) && decide (n ≤ hi))) ∧ W = W' := by
  by_cases h1 : lo ≤ n
  · by_cases h2 : n ≤ hi
    all_goals
      go_enter Tryz.func37, Tryz.ntmps37
      go_wp2
      go_ret
      refine ⟨?_, rfl⟩
      simp [h1, h2]
  · go_enter Tryz.func37, Tryz.ntmps37
    go_wp2
    go_ret
    refine ⟨?_, rfl⟩
    simp [h1] <;> omega
theorem has_82 (W : World) : Calls Tryz.prog 41 #[.int .u8 82] W fun e W' => e = .returned (.string ⟨#[100, 97, 98]⟩) ∧ W = W' := by
  go_enter Tryz.func41, Tryz.ntmps41
  go_wp2
  go_ret
  exact ⟨rfl, rfl⟩
theorem signs_82 (W : World) : Calls Tryz.prog 70 #[.int .u8 82] W fun e W' => e = .returned (.tuple #[.int .i64 0, .int .i64 1]) ∧ W = W' := by
  go_enter Tryz.func70, Tryz.ntmps70
  go_wp2
  go_ret2
  exact ⟨rfl, rfl⟩
theorem has_73 (W : World) : Calls Tryz.prog 41 #[.int .u8 73] W fun e W' => e = .returned (.string ⟨#[100, 97]⟩) ∧ W = W' := by
  go_enter Tryz.func41, Tryz.ntmps41
  go_wp2
  go_ret
  exact ⟨rfl, rfl⟩
theorem signs_73 (W : World) : Calls Tryz.prog 70 #[.int .u8 73] W fun e W' => e = .returned (.tuple #[.int .i64 12, .int .i64 1]) ∧ W = W' := by
  go_enter Tryz.func70, Tryz.ntmps70
  go_wp2
  go_ret2
  exact ⟨rfl, rfl⟩
theorem has_72 (W : World) : Calls Tryz.prog 41 #[.int .u8 72] W fun e W' => e = .returned (.string ⟨#[100, 97]⟩) ∧ W = W' := by
  go_enter Tryz.func41, Tryz.ntmps41
  go_wp2
  go_ret
  exact ⟨rfl, rfl⟩
theorem signs_72 (W : World) : Calls Tryz.prog 70 #[.int .u8 72] W fun e W' => e = .returned (.tuple #[.int .i64 0, .int .i64 1]) ∧ W = W' := by
  go_enter Tryz.func70, Tryz.ntmps70
  go_wp2
  go_ret2
  exact ⟨rfl, rfl⟩
theorem has_83 (W : World) : Calls Tryz.prog 41 #[.int .u8 83] W fun e W' => e = .returned (.string ⟨#[97, 98]⟩) ∧ W = W' := by
  go_enter Tryz.func41, Tryz.ntmps41
  go_wp2
  go_ret
  exact ⟨rfl, rfl⟩
theorem signs_83 (W : World) : Calls Tryz.prog 70 #[.int .u8 83] W fun e W' => e = .returned (.tuple #[.int .i64 12, .int .i64 1]) ∧ W = W' := by
  go_enter Tryz.func70, Tryz.ntmps70
  go_wp2
  go_ret2
  exact ⟨rfl, rfl⟩
theorem has_66 (W : World) : Calls Tryz.prog 41 #[.int .u8 66] W fun e W' => e = .returned (.string ⟨#[97, 98]⟩) ∧ W = W' := by
  go_enter Tryz.func41, Tryz.ntmps41
  go_wp2
  go_ret
  exact ⟨rfl, rfl⟩
theorem signs_66 (W : World) : Calls Tryz.prog 70 #[.int .u8 66] W fun e W' => e = .returned (.tuple #[.int .i64 13, .int .i64 2]) ∧ W = W' := by
  go_enter Tryz.func70, Tryz.ntmps70
  go_wp2
  go_ret2
  exact ⟨rfl, rfl⟩
theorem has_85 (W : World) : Calls Tryz.prog 41 #[.int .u8 85] W fun e W' => e = .returned (.string ⟨#[100]⟩) ∧ W = W' := by
  go_enter Tryz.func41, Tryz.ntmps41
  go_wp2
  go_ret
  exact ⟨rfl, rfl⟩
theorem signs_85 (W : World) : Calls Tryz.prog 70 #[.int .u8 85] W fun e W' => e = .returned (.tuple #[.int .i64 32, .int .i64 4096]) ∧ W = W' := by
  go_enter Tryz.func70, Tryz.ntmps70
  go_wp2
  go_ret2
  exact ⟨rfl, rfl⟩
theorem has_74 (W : World) : Calls Tryz.prog 41 #[.int .u8 74] W fun e W' => e = .returned (.string ⟨#[100]⟩) ∧ W = W' := by
  go_enter Tryz.func41, Tryz.ntmps41
  go_wp2
  go_ret
  exact ⟨rfl, rfl⟩
theorem signs_74 (W : World) : Calls Tryz.prog 70 #[.int .u8 74] W fun e W' => e = .returned (.tuple #[.int .i64 21, .int .i64 2]) ∧ W = W' := by
  go_enter Tryz.func70, Tryz.ntmps70
  go_wp2
  go_ret2
  exact ⟨rfl, rfl⟩
theorem has_69 (W : World) : Calls Tryz.prog 41 #[.int .u8 69] W fun e W' => e = .returned (.string ⟨#[]⟩) ∧ W = W' := by
  go_enter Tryz.func41, Tryz.ntmps41
  go_wp2
  go_ret
  exact ⟨rfl, rfl⟩
theorem signs_69 (W : World) : Calls Tryz.prog 70 #[.int .u8 69] W fun e W' => e = .returned (.tuple #[.int .i64 0, .int .i64 1]) ∧ W = W' := by
  go_enter Tryz.func70, Tryz.ntmps70
  go_wp2
  go_ret2
  exact ⟨rfl, rfl⟩
set_option maxRecDepth 100000 in
theorem con_dab_d (W : World) : Calls Tryz.prog 69 #[.string ⟨#[100, 97, 98]⟩, .string ⟨#[100]⟩] W fun e W' => e = .returned (.bool true) ∧ W = W' := by
  have h78 := @run_callFunc_indexByte Tryz.prog 101 _ Tryz.func101 (by kernel_rfl) (by kernel_rfl) (by kernel_rfl) (by kernel_rfl)
  have hix : ∀ w : World, (Extern.BytealgIndexByte.indexByte #[.string ⟨#[100, 97, 98]⟩, .int .u8 ((((⟨#[100]⟩ : ByteArray)[0]'(by decide)).toNat : Nat) : Int)]).run Tryz.prog w = .ok (.int .i64 0) w := fun w => by kernel_rfl
  go_enter Tryz.func69, Tryz.ntmps69
  go_wp2
  go_ret
  exact ⟨rfl, rfl⟩
set_option maxRecDepth 100000 in
theorem con_dab_a (W : World) : Calls Tryz.prog 69 #[.string ⟨#[100, 97, 98]⟩, .string ⟨#[97]⟩] W fun e W' => e = .returned (.bool true) ∧ W = W' := by
  have h78 := @run_callFunc_indexByte Tryz.prog 101 _ Tryz.func101 (by kernel_rfl) (by kernel_rfl) (by kernel_rfl) (by kernel_rfl)
  have hix : ∀ w : World, (Extern.BytealgIndexByte.indexByte #[.string ⟨#[100, 97, 98]⟩, .int .u8 ((((⟨#[97]⟩ : ByteArray)[0]'(by decide)).toNat : Nat) : Int)]).run Tryz.prog w = .ok (.int .i64 1) w := fun w => by kernel_rfl
  go_enter Tryz.func69, Tryz.ntmps69
  go_wp2
  go_ret
  exact ⟨rfl, rfl⟩
set_option maxRecDepth 100000 in
theorem con_dab_b (W : World) : Calls Tryz.prog 69 #[.string ⟨#[100, 97, 98]⟩, .string ⟨#[98]⟩] W fun e W' => e = .returned (.bool true) ∧ W = W' := by
  have h78 := @run_callFunc_indexByte Tryz.prog 101 _ Tryz.func101 (by kernel_rfl) (by kernel_rfl) (by kernel_rfl) (by kernel_rfl)
  have hix : ∀ w : World, (Extern.BytealgIndexByte.indexByte #[.string ⟨#[100, 97, 98]⟩, .int .u8 ((((⟨#[98]⟩ : ByteArray)[0]'(by decide)).toNat : Nat) : Int)]).run Tryz.prog w = .ok (.int .i64 2) w := fun w => by kernel_rfl
  go_enter Tryz.func69, Tryz.ntmps69
  go_wp2
  go_ret
  exact ⟨rfl, rfl⟩
set_option maxRecDepth 100000 in
theorem con_da_d (W : World) : Calls Tryz.prog 69 #[.string ⟨#[100, 97]⟩, .string ⟨#[100]⟩] W fun e W' => e = .returned (.bool true) ∧ W = W' := by
  have h78 := @run_callFunc_indexByte Tryz.prog 101 _ Tryz.func101 (by kernel_rfl) (by kernel_rfl) (by kernel_rfl) (by kernel_rfl)
  have hix : ∀ w : World, (Extern.BytealgIndexByte.indexByte #[.string ⟨#[100, 97]⟩, .int .u8 ((((⟨#[100]⟩ : ByteArray)[0]'(by decide)).toNat : Nat) : Int)]).run Tryz.prog w = .ok (.int .i64 0) w := fun w => by kernel_rfl
  go_enter Tryz.func69, Tryz.ntmps69
  go_wp2
  go_ret
  exact ⟨rfl, rfl⟩
set_option maxRecDepth 100000 in
theorem con_da_a (W : World) : Calls Tryz.prog 69 #[.string ⟨#[100, 97]⟩, .string ⟨#[97]⟩] W fun e W' => e = .returned (.bool true) ∧ W = W' := by
  have h78 := @run_callFunc_indexByte Tryz.prog 101 _ Tryz.func101 (by kernel_rfl) (by kernel_rfl) (by kernel_rfl) (by kernel_rfl)
  have hix : ∀ w : World, (Extern.BytealgIndexByte.indexByte #[.string ⟨#[100, 97]⟩, .int .u8 ((((⟨#[97]⟩ : ByteArray)[0]'(by decide)).toNat : Nat) : Int)]).run Tryz.prog w = .ok (.int .i64 1) w := fun w => by kernel_rfl
  go_enter Tryz.func69, Tryz.ntmps69
  go_wp2
  go_ret
  exact ⟨rfl, rfl⟩
set_option maxRecDepth 100000 in
theorem con_da_b (W : World) : Calls Tryz.prog 69 #[.string ⟨#[100, 97]⟩, .string ⟨#[98]⟩] W fun e W' => e = .returned (.bool false) ∧ W = W' := by
  have h78 := @run_callFunc_indexByte Tryz.prog 101 _ Tryz.func101 (by kernel_rfl) (by kernel_rfl) (by kernel_rfl) (by kernel_rfl)
  have hix : ∀ w : World, (Extern.BytealgIndexByte.indexByte #[.string ⟨#[100, 97]⟩, .int .u8 ((((⟨#[98]⟩ : ByteArray)[0]'(by decide)).toNat : Nat) : Int)]).run Tryz.prog w = .ok (.int .i64 (-1)) w := fun w => by kernel_rfl
  go_enter Tryz.func69, Tryz.ntmps69
  go_wp2
  go_ret
  exact ⟨rfl, rfl⟩
set_option maxRecDepth 100000 in
theorem con_ab_d (W : World) : Calls Tryz.prog 69 #[.string ⟨#[97, 98]⟩, .string ⟨#[100]⟩] W fun e W' => e = .returned (.bool false) ∧ W = W' := by
  have h78 := @run_callFunc_indexByte Tryz.prog 101 _ Tryz.func101 (by kernel_rfl) (by kernel_rfl) (by kernel_rfl) (by kernel_rfl)
  have hix : ∀ w : World, (Extern.BytealgIndexByte.indexByte #[.string ⟨#[97, 98]⟩, .int .u8 ((((⟨#[100]⟩ : ByteArray)[0]'(by decide)).toNat : Nat) : Int)]).run Tryz.prog w = .ok (.int .i64 (-1)) w := fun w => by kernel_rfl
  go_enter Tryz.func69, Tryz.ntmps69
  go_wp2
  go_ret
  exact ⟨rfl, rfl⟩
set_option maxRecDepth 100000 in
theorem con_ab_a (W : World) : Calls Tryz.prog 69 #[.string ⟨#[97, 98]⟩, .string ⟨#[97]⟩] W fun e W' => e = .returned (.bool true) ∧ W = W' := by
  have h78 := @run_callFunc_indexByte Tryz.prog 101 _ Tryz.func101 (by kernel_rfl) (by kernel_rfl) (by kernel_rfl) (by kernel_rfl)
  have hix : ∀ w : World, (Extern.BytealgIndexByte.indexByte #[.string ⟨#[97, 98]⟩, .int .u8 ((((⟨#[97]⟩ : ByteArray)[0]'(by decide)).toNat : Nat) : Int)]).run Tryz.prog w = .ok (.int .i64 0) w := fun w => by kernel_rfl
  go_enter Tryz.func69, Tryz.ntmps69
  go_wp2
  go_ret
  exact ⟨rfl, rfl⟩
set_option maxRecDepth 100000 in
theorem con_ab_b (W : World) : Calls Tryz.prog 69 #[.string ⟨#[97, 98]⟩, .string ⟨#[98]⟩] W fun e W' => e = .returned (.bool true) ∧ W = W' := by
  have h78 := @run_callFunc_indexByte Tryz.prog 101 _ Tryz.func101 (by kernel_rfl) (by kernel_rfl) (by kernel_rfl) (by kernel_rfl)
  have hix : ∀ w : World, (Extern.BytealgIndexByte.indexByte #[.string ⟨#[97, 98]⟩, .int .u8 ((((⟨#[98]⟩ : ByteArray)[0]'(by decide)).toNat : Nat) : Int)]).run Tryz.prog w = .ok (.int .i64 1) w := fun w => by kernel_rfl
  go_enter Tryz.func69, Tryz.ntmps69
  go_wp2
  go_ret
  exact ⟨rfl, rfl⟩
set_option maxRecDepth 100000 in
theorem con_d_d (W : World) : Calls Tryz.prog 69 #[.string ⟨#[100]⟩, .string ⟨#[100]⟩] W fun e W' => e = .returned (.bool true) ∧ W = W' := by
  have h78 := @run_callFunc_indexByte Tryz.prog 101 _ Tryz.func101 (by kernel_rfl) (by kernel_rfl) (by kernel_rfl) (by kernel_rfl)
  have hix : ∀ w : World, (Extern.BytealgIndexByte.indexByte #[.string ⟨#[100]⟩, .int .u8 ((((⟨#[100]⟩ : ByteArray)[0]'(by decide)).toNat : Nat) : Int)]).run Tryz.prog w = .ok (.int .i64 0) w := fun w => by kernel_rfl
  go_enter Tryz.func69, Tryz.ntmps69
  go_wp2
  go_ret
  exact ⟨rfl, rfl⟩
set_option maxRecDepth 100000 in
theorem con_d_a (W : World) : Calls Tryz.prog 69 #[.string ⟨#[100]⟩, .string ⟨#[97]⟩] W fun e W' => e = .returned (.bool false) ∧ W = W' := by
  have h78 := @run_callFunc_indexByte Tryz.prog 101 _ Tryz.func101 (by kernel_rfl) (by kernel_rfl) (by kernel_rfl) (by kernel_rfl)
  have hix : ∀ w : World, (Extern.BytealgIndexByte.indexByte #[.string ⟨#[100]⟩, .int .u8 ((((⟨#[97]⟩ : ByteArray)[0]'(by decide)).toNat : Nat) : Int)]).run Tryz.prog w = .ok (.int .i64 (-1)) w := fun w => by kernel_rfl
  go_enter Tryz.func69, Tryz.ntmps69
  go_wp2
  go_ret
  exact ⟨rfl, rfl⟩
set_option maxRecDepth 100000 in
theorem con_d_b (W : World) : Calls Tryz.prog 69 #[.string ⟨#[100]⟩, .string ⟨#[98]⟩] W fun e W' => e = .returned (.bool false) ∧ W = W' := by
  have h78 := @run_callFunc_indexByte Tryz.prog 101 _ Tryz.func101 (by kernel_rfl) (by kernel_rfl) (by kernel_rfl) (by kernel_rfl)
  have hix : ∀ w : World, (Extern.BytealgIndexByte.indexByte #[.string ⟨#[100]⟩, .int .u8 ((((⟨#[98]⟩ : ByteArray)[0]'(by decide)).toNat : Nat) : Int)]).run Tryz.prog w = .ok (.int .i64 (-1)) w := fun w => by kernel_rfl
  go_enter Tryz.func69, Tryz.ntmps69
  go_wp2
  go_ret
  exact ⟨rfl, rfl⟩
set_option maxRecDepth 100000 in
theorem con__d (W : World) : Calls Tryz.prog 69 #[.string ⟨#[]⟩, .string ⟨#[100]⟩] W fun e W' => e = .returned (.bool false) ∧ W = W' := by
  have h78 := @run_callFunc_indexByte Tryz.prog 101 _ Tryz.func101 (by kernel_rfl) (by kernel_rfl) (by kernel_rfl) (by kernel_rfl)
  have hix : ∀ w : World, (Extern.BytealgIndexByte.indexByte #[.string ⟨#[]⟩, .int .u8 ((((⟨#[100]⟩ : ByteArray)[0]'(by decide)).toNat : Nat) : Int)]).run Tryz.prog w = .ok (.int .i64 (-1)) w := fun w => by kernel_rfl
  go_enter Tryz.func69, Tryz.ntmps69
  go_wp2
  go_ret
  exact ⟨rfl, rfl⟩
set_option maxRecDepth 100000 in
theorem con__a (W : World) : Calls Tryz.prog 69 #[.string ⟨#[]⟩, .string ⟨#[97]⟩] W fun e W' => e = .returned (.bool false) ∧ W = W' := by
  have h78 := @run_callFunc_indexByte Tryz.prog 101 _ Tryz.func101 (by kernel_rfl) (by kernel_rfl) (by kernel_rfl) (by kernel_rfl)
  have hix : ∀ w : World, (Extern.BytealgIndexByte.indexByte #[.string ⟨#[]⟩, .int .u8 ((((⟨#[97]⟩ : ByteArray)[0]'(by decide)).toNat : Nat) : Int)]).run Tryz.prog w = .ok (.int .i64 (-1)) w := fun w => by kernel_rfl
  go_enter Tryz.func69, Tryz.ntmps69
  go_wp2
  go_ret
  exact ⟨rfl, rfl⟩
set_option maxRecDepth 100000 in
theorem con__b (W : World) : Calls Tryz.prog 69 #[.string ⟨#[]⟩, .string ⟨#[98]⟩] W fun e W' => e = .returned (.bool false) ∧ W = W' := by
  have h78 := @run_callFunc_indexByte Tryz.prog 101 _ Tryz.func101 (by kernel_rfl) (by kernel_rfl) (by kernel_rfl) (by kernel_rfl)
  have hix : ∀ w : World, (Extern.BytealgIndexByte.indexByte #[.string ⟨#[]⟩, .int .u8 ((((⟨#[98]⟩ : ByteArray)[0]'(by decide)).toNat : Nat) : Int)]).run Tryz.prog w = .ok (.int .i64 (-1)) w := fun w => by kernel_rfl
  go_enter Tryz.func69, Tryz.ntmps69
  go_wp2
  go_ret
  exact ⟨rfl, rfl⟩
end Go.Proofs.YtodgkbcgdbhpeaaGreatDoor.RefP

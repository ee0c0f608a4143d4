/- The number that pick tells. No conditions. -/
import Derived.Test.YtdgedlhefjmcpaaGreatDoorTreeMem
namespace Go.Proofs.YtdgedlhefjmcpaaGreatDoor.TreeP
open Go.RowKit Go.Proofs.YtdgedlhefjmcpaaGreatDoor.Wo
set_option linter.unusedVariables false
set_option linter.unusedSimpArgs false
/-- The number that is picked. -/
def pkn (a n : Int) : Int := a % 18446744073709551616 % n
theorem pkn_in (a n : Int) (h : 1 ≤ n) : 0 ≤ pkn a n ∧ pkn a n < n := by
  unfold pkn
  exact ⟨Int.emod_nonneg _ (by omega), Int.emod_lt_of_pos _ (by omega)⟩
theorem pick_any (a n : Int) (W : World) (h1 : 1 ≤ n) (h2 : n ≤ 4611686018427387904) :
    Calls Tryz.prog 13 #[.int .i64 a, .int .i64 n] W fun e W' => e = .returned (.int .i64 (pkn a n)) ∧ W = W' := by
  have hn : IntKind.u64.wrap n = n := by rw [IntKind.wrap_u64]; omega
  have hp := pkn_in a n h1
  have h0 : (n == 0) = false := by simp; omega
  have hr : wrap64 ((IntKind.u64.wrap a).tmod n) = pkn a n := by
    rw [IntKind.wrap_u64, Int.tmod_eq_emod_of_nonneg (by omega)]
    show wrap64 (pkn a n) = pkn a n
    unfold wrap64; omega
  have HR := Lib.hid hr
  clear hr hp
  go_enter Tryz.func13, Tryz.ntmps13
  go_wp2
  go_ret
  refine ⟨?_, rfl⟩
  rw [← HR.out]
  rfl
end Go.Proofs.YtdgedlhefjmcpaaGreatDoor.TreeP

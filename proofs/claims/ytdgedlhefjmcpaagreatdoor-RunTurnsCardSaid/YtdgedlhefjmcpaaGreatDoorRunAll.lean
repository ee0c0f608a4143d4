/- The runner, whole. Conditions: what it has lies; functions are right. -/
import Derived.Test.YtdgedlhefjmcpaaGreatDoorRunDo
namespace Go.Proofs.YtdgedlhefjmcpaaGreatDoor.TreeP
open Go.RowKit Go.Proofs.YtdgedlhefjmcpaaGreatDoor.Wo
set_option linter.unusedVariables false
set_option linter.unusedSimpArgs false
theorem call_zero (L : List Fn) : CallC L 0 := by
  intro g vs b mb base P M A s W lv r h hv hgl hfn hr
  simp only [callR] at hr
  cases hr
theorem run_all {L : List Fn} (hL : GoodL L) : ∀ f, EvC L f ∧ CallC L f ∧ StC L f := by
  intro f
  induction f using Nat.strongRecOn with
  | ind f ih =>
    have hblk : ∀ k, k ≤ f → BlkC L k := fun k hk => blk_any (fun j hj => (ih j (by omega)).2.2)
    cases f with
    | zero => exact ⟨expr_zero L, call_zero L, stmt_zero L⟩
    | succ f =>
      have he : ∀ k, k ≤ f → EvC L k := fun k hk => (ih k (by omega)).1
      have hc : CallC L f := (ih f (by omega)).2.1
      exact ⟨expr_any he hc, call_any hL (hblk f (by omega)), stmt_any he (fun k hk => hblk k (by omega))⟩
theorem call_good {L : List Fn} (hL : GoodL L) (f : Nat) : CallC L f := (run_all hL f).2.1
end Go.Proofs.YtdgedlhefjmcpaaGreatDoor.TreeP

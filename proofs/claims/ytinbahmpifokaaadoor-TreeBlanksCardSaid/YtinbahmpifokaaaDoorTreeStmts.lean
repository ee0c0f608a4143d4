/- Statements are read as the plain reader says, with any number of rounds. No conditions beyond the memory's. -/
import Derived.Test.YtinbahmpifokaaaDoorTreeNamed
import Derived.Test.YtinbahmpifokaaaDoorTreeStmt
import Derived.Test.YtinbahmpifokaaaDoorTreeBlock
namespace Go.Proofs.YtinbahmpifokaaaDoor.TreeP
open Go.RowKit Go.Proofs.YtinbahmpifokaaaDoor.Wo
set_option linter.unusedVariables false
set_option linter.unusedSimpArgs false
structure SAllC (f : Nat) : Prop where
  block : BlockC f
  stmt : StmtC f
  named : NamedC f
theorem sall : ∀ f, SAllC f := by
  intro f
  induction f using Nat.strongRecOn with
  | ind f ih =>
    cases f with
    | zero => exact ⟨fun _ _ _ _ _ _ _ _ h => by simp [blockF] at h, fun _ _ _ _ _ _ _ _ h => by simp [stmtF] at h, fun _ _ _ _ _ _ _ _ _ _ h => by simp [namedF] at h⟩
    | succ f =>
      have h := ih f (by omega)
      exact ⟨block_of f (fun g hg => (ih g (by omega)).stmt), stmt_of f (exprs f) h.block h.named, named_of f (exprs f)⟩
end Go.Proofs.YtinbahmpifokaaaDoor.TreeP

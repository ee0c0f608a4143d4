/- Expressions are read as the plain reader says, with any number of rounds. No conditions beyond the memory's. -/
import Derived.Test.YtinbahmpifokaaaDoorTreeAlone
import Derived.Test.YtinbahmpifokaaaDoorTreeLow
import Derived.Test.YtinbahmpifokaaaDoorTreeUnary
import Derived.Test.YtinbahmpifokaaaDoorTreeArgs
import Derived.Test.YtinbahmpifokaaaDoorTreeFirst
import Derived.Test.YtinbahmpifokaaaDoorTreeFirstNum
namespace Go.Proofs.YtinbahmpifokaaaDoor.TreeP
open Go.RowKit Go.Proofs.YtinbahmpifokaaaDoor.Wo
set_option linter.unusedVariables false
set_option linter.unusedSimpArgs false
structure AllC (f : Nat) : Prop where
  expr : ExprC f
  unary : UnaryC f
  first : FirstC f
  alone : AloneC f
  args : ArgsC f
theorem first_of (f : Nat) (hA : AloneC f) (hG : ArgsC f) : FirstC (f + 1) := by
  intro b S deep ts W x hd h hx
  by_cases hn : headKind ts = 2
  · exact first_num h hx hn
  · exact first_word f hA hG hd h hx hn
theorem expr_of (f : Nat) (hU : UnaryC f) (hE : ∀ g, g ≤ f → ExprC g) : ExprC (f + 1) := by
  intro b S level deep ts W x hl hd h hx
  by_cases h6 : level = 6
  · subst h6
    exact six_of hU hd h hx
  · exact low_of hE (by omega) hd h hx
theorem exprs : ∀ f, AllC f := by
  intro f
  induction f using Nat.strongRecOn with
  | ind f ih =>
    cases f with
    | zero => exact ⟨fun _ _ _ _ _ _ _ _ _ _ h => by simp [exprF] at h, fun _ _ _ _ _ _ _ _ h => by simp [unaryF] at h, fun _ _ _ _ _ _ _ _ h => by simp [firstF] at h, fun _ _ _ _ _ _ _ _ h => by simp [aloneF] at h, fun _ _ _ _ _ _ _ _ h => by simp [argsF] at h⟩
    | succ f =>
      have hE : ∀ g, g ≤ f → ExprC g := fun g hg => (ih g (by omega)).expr
      have h := ih f (by omega)
      exact ⟨expr_of f h.unary hE, unary_of f h.unary h.first hE, first_of f h.alone h.args, alone_of f h.expr, args_of f hE⟩
end Go.Proofs.YtinbahmpifokaaaDoor.TreeP

/- What MidRuns' row gives, as the walk wants it. No conditions. -/
import Derived.Test.YtoajcbfejplfbaaDoorMidLaid
import Derived.Test.YtoajcbfejplfbaaDoorNums
import Derived.Test.YtoajcbfejplfbaaDoorMidRunM
import Derived.Test.YtoajcbfejplfbaaDoorAluPlain
import Derived.Test.YtoajcbfejplfbaaDoorShaped
namespace Go.Proofs.YtoajcbfejplfbaaDoor.MidP
set_option linter.unusedSimpArgs false
set_option linter.unusedVariables false
open Go.Joins Go.ChangeShapes Go.WideShapes Go.RowKit Go.Deep
/-- Numbers as the walks of the steps want them. -/
theorem nums_in {W : World} {v : Value} {l : List Int} (h : Wo.NumsAt W v l) : InAt W Wo.None v l ∧ ∀ n c, v = .slice none n c → c = 0 := by
  obtain ⟨a, n, c, rfl, h1, h2, h3, h4, -, h5⟩ := h
  refine ⟨⟨a, n, c, rfl, h1, h2, h3, fun i x hx => ?_⟩, fun n' c' e => ?_⟩
  · obtain ⟨g, o, e1, e2⟩ := h5 i x hx
    exact ⟨g, o, e1, fun f => f, e2⟩
  · obtain ⟨e1, -, e2⟩ := Value.slice.inj e
    rw [← e2]
    exact h4 e1
theorem nums_64 {W : World} {v : Value} {l : List Int} (h : Wo.NumsAt W v l) : ∀ x ∈ l, AluP.I64 x := by
  obtain ⟨a, n, c, rfl, h1, h2, h3, h4, h5, -⟩ := h
  exact h5
theorem i64_wf {a : Int} (h : (Lit.int .i64 a).wf = true) : AluP.I64 a := by
  simp [Lit.wf, IntKind.min, IntKind.max, IntKind.signed, IntKind.bits] at h
  unfold AluP.I64
  omega
end Go.Proofs.YtoajcbfejplfbaaDoor.MidP

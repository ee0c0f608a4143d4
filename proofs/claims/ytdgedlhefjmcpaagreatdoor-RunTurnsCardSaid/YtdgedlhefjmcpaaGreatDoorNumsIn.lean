/- Slices of numbers, and texts, as the walks of the runner want them. No conditions. -/
import Derived.Test.YtdgedlhefjmcpaaGreatDoorRunMem
import Derived.Test.YtdgedlhefjmcpaaGreatDoorNums
namespace Go.Proofs.YtdgedlhefjmcpaaGreatDoor.TreeP
open Go.RowKit Go.Proofs.YtdgedlhefjmcpaaGreatDoor.Wo
set_option linter.unusedVariables false
set_option linter.unusedSimpArgs false
theorem nums_in {W : World} {v : Value} {l : List Int} (h : Wo.NumsAt W v l) : InAt W None v l ∧ ∀ n c, v = .slice none n c → c = 0 := by
  obtain ⟨a, n, c, rfl, h1, h2, h3, h4, -, h5⟩ := h
  refine ⟨⟨a, n, c, rfl, h1, h2, h3, fun i x hx => ?_⟩, fun n' c' e => ?_⟩
  · obtain ⟨g, o, e1, e2⟩ := h5 i x hx
    exact ⟨g, o, e1, fun f => f, e2⟩
  · obtain ⟨e1, -, e2⟩ := Value.slice.inj e
    rw [← e2]
    exact h4 e1
theorem str_fits {s : ByteArray} (h : s.size ≤ maxLen) : s.data.toList.length ≤ 9223372036854775807 := by
  unfold maxLen at h
  simpa using h
end Go.Proofs.YtdgedlhefjmcpaaGreatDoor.TreeP

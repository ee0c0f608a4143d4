/- Both readers, of any short text. Conditions: what both readers read of the package's variables lies (Lies, Laid). -/
import Derived.Test.YtdgedlhefjmcpaaGreatDoorRefParse
import Derived.Test.YtdgedlhefjmcpaaGreatDoorTreePar
import Derived.Test.YtdgedlhefjmcpaaGreatDoorTreeBck
namespace Go.Proofs.YtdgedlhefjmcpaaGreatDoor.TreeP.R
open Go.RowKit Go.Proofs.YtdgedlhefjmcpaaGreatDoor.Wo Go.Proofs.YtdgedlhefjmcpaaGreatDoor.TreeP
set_option linter.unusedVariables false
set_option linter.unusedSimpArgs false
theorem ref_read (s : List UInt8) (x : Except (Int × Int) (List Fn)) (W : World) (hL : Lies W) (hlen : s.length ≤ 10000000) (h : ReadTo s x) : Calls Tryz.prog 15 #[str s] W (Parsed W x) := by
  rcases h with ⟨f, n, a, hx, rfl⟩ | ⟨f, fp, ts, y, hx, hp, rfl⟩
  · exact parse_bad s f n a W hL hlen hx
  · have h := parse_run s f fp ts y W hL hlen hx hp
    cases y <;> exact h
theorem tree_read (s : List UInt8) (x : Except (Int × Int) (List Fn)) (W : World) (hL : Laid W) (hlen : s.length ≤ 10000000) (h : ReadTo s x) : Calls Tryz.prog 11 #[str s] W (TreeP.Parsed W x) := by
  rcases h with ⟨f, n, a, h1, rfl⟩ | ⟨f, fp, ts, y, h1, h2, rfl⟩
  · exact TreeP.parse_bad s f n a W hL hlen h1
  · exact TreeP.parse_run s f fp ts y W hL hlen h1 h2
theorem lies_next {W W' : World} (h : Lies W) (hm : Mods None W W') : Lies W' := by
  refine ⟨?_, ?_, ?_⟩
  · obtain ⟨h1, h2, h3⟩ := h.fine.far hm (fun _ f => f.elim)
    exact ⟨Nat.lt_of_lt_of_le h1 hm.size, h2, h3⟩
  · obtain ⟨h1, m, h2⟩ := h.most.far hm (fun _ f => f.elim)
    exact ⟨Nat.lt_of_lt_of_le h1 hm.size, m, h2⟩
  · obtain ⟨h1, t, p, h2⟩ := h.rng
    exact ⟨Nat.lt_of_lt_of_le h1 hm.size, t, p, hm.cellOf h2 (fun f => f)⟩
end Go.Proofs.YtdgedlhefjmcpaaGreatDoor.TreeP.R

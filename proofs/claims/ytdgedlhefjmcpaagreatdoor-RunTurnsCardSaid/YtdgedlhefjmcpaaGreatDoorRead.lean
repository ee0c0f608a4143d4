/- Texts that are read by reckoning. No program in sight. No conditions. -/
import Derived.Test.YtdgedlhefjmcpaaGreatDoorTreeBck
import Derived.Test.YtdgedlhefjmcpaaGreatDoorChkPlain
import Derived.KernelRfl
namespace Go.Proofs.YtdgedlhefjmcpaaGreatDoor.TreeP
set_option linter.unusedVariables false
set_option linter.unusedSimpArgs false
def tokL (x : Option (Except (Int × Int) (List Tok))) : List Tok := match x with | some (.ok t) => t | _ => []
def fnL (x : PR (List Fn)) : List Fn × List Tok := match x with | some (.ok t) => t | _ => ([], [])
/-- The program of a short text. -/
def progOf (s : List UInt8) : List Fn := (fnL (programF 400 [] (tokL (lexF 200 s 0 0)))).1
def readsB (s : List UInt8) : Bool := match lexF 200 s 0 0 with
  | some (.ok t) => match programF 400 [] t with
    | some (.ok _) => true
    | _ => false
  | _ => false
theorem reads_of {s : List UInt8} (h : readsB s = true) : ReadTo s (.ok (progOf s)) := by
  unfold readsB at h
  split at h
  · rename_i t h1
    split at h
    · rename_i x h2
      refine Or.inr ⟨200, 400, t, .ok x, h1, h2, ?_⟩
      unfold progOf tokL fnL
      rw [h1]
      simp only
      rw [h2]
      obtain ⟨l, r⟩ := x
      rfl
    · cases h
  · cases h
end Go.Proofs.YtdgedlhefjmcpaaGreatDoor.TreeP

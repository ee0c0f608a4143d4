/- What is reached, plainly, step by step. No conditions. -/
import Derived.Test.YtoajcbfejplfbaaDoorFoldP
namespace Go.Proofs.YtoajcbfejplfbaaDoor.MidP
open Go.RowKit Go.Proofs.YtoajcbfejplfbaaDoor.TreeP
set_option linter.unusedVariables false
set_option linter.unusedSimpArgs false
/-- A jump to what comes next. -/
def skipB (s : Stp) : List Stp → Bool
  | [] => false
  | t :: _ => s.code == 4 && t.code == 6 && t.label == s.label
theorem jumpS_cons (s : Stp) (r : List Stp) : jumpS (s :: r) = (if skipB s r then [] else [s]) ++ jumpS r := by
  cases r with
  | nil => rfl
  | cons t r =>
    rw [jumpS]
    unfold skipB
    by_cases h : s.code = 4 ∧ t.code = 6 ∧ t.label = s.label
    · rw [if_pos h, if_pos (by simp [h.1, h.2.1, h.2.2])]
      rfl
    · rw [if_neg h, if_neg (by simpa [and_assoc] using h)]
      rfl
theorem jumpS_len : (l : List Stp) → (jumpS l).length ≤ l.length
  | [] => Nat.le_refl _
  | s :: r => by
    have := jumpS_len r
    rw [jumpS_cons, List.length_append, List.length_cons]
    split <;> simp <;> omega
theorem onS_len : (on : Bool) → (l : List Stp) → (onS on l).length ≤ l.length
  | _, [] => Nat.le_refl _
  | on, s :: r => by
    have := onS_len ((on || s.code == 6) && !(s.code == 4 || s.code == 8)) r
    rw [onS, List.length_append, List.length_cons]
    generalize (onS ((on || s.code == 6) && !(s.code == 4 || s.code == 8)) r).length = k at *
    split
    · rw [List.length_singleton]; omega
    · rw [List.length_nil]; omega
theorem jumpS_mem : (l : List Stp) → ∀ s ∈ jumpS l, s ∈ l
  | [], s, h => h
  | x :: r, s, h => by
    rw [jumpS_cons] at h
    rcases List.mem_append.1 h with h | h
    · split at h
      · cases h
      · simp only [List.mem_singleton] at h
        exact List.mem_cons.2 (Or.inl h)
    · exact List.mem_cons.2 (Or.inr (jumpS_mem r s h))
theorem onS_mem : (on : Bool) → (l : List Stp) → ∀ s ∈ onS on l, s ∈ l
  | _, [], s, h => h
  | on, x :: r, s, h => by
    rw [onS] at h
    rcases List.mem_append.1 h with h | h
    · split at h
      · simp only [List.mem_singleton] at h
        exact List.mem_cons.2 (Or.inl h)
      · cases h
    · exact List.mem_cons.2 (Or.inr (onS_mem _ r s h))
theorem reached_mem {l : List Stp} {s : Stp} (h : s ∈ reachedS l) : s ∈ l := onS_mem _ _ _ (jumpS_mem _ _ (List.mem_filter.1 h).1)
theorem dead_mem (F : Fm) : (i : Nat) → (l : List Stp) → ∀ s ∈ deadS F i l, s ∈ l
  | _, [], s, h => by simp [deadS] at h
  | i, x :: r, s, h => by
    rw [deadS] at h
    split at h
    · rcases List.mem_cons.1 h with h | h
      · exact List.mem_cons.2 (Or.inl h)
      · exact List.mem_cons.2 (Or.inr (dead_mem F (i + 1) r s h))
    · exact List.mem_cons.2 (Or.inr (dead_mem F (i + 1) r s h))
theorem usedB_more (l : List Stp) (s : Stp) (x : Int) : usedB (l ++ [s]) x = (usedB l x || ((s.code == 4 || s.code == 5) && s.label == x)) := by
  unfold usedB
  rw [List.any_append]
  simp
end Go.Proofs.YtoajcbfejplfbaaDoor.MidP

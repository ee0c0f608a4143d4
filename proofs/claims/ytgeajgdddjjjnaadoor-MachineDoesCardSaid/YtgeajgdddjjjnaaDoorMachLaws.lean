/- Plain laws of the machine: steps are steps; what is told is never forgotten; register 0 is 0. No program in sight. No conditions. -/
import Derived.Test.YtgeajgdddjjjnaaDoorMachPlain
namespace Go.Proofs.YtgeajgdddjjjnaaDoor.MachP
open Go.RowKit Go.Proofs.YtgeajgdddjjjnaaDoor.WordP Go.Proofs.YtgeajgdddjjjnaaDoor.AluP
set_option linter.unusedVariables false
set_option linter.unusedSimpArgs false
theorem step_end {M : Mac} (h : ¬ M.way = 0) : M.step = M := by simp [Mac.step, h]
theorem run_stay {M : Mac} {k : Nat} (h : ¬ M.way = 0) : M.run k = M := by cases k <;> simp [Mac.run, h]
theorem run_add : ∀ (a b : Nat) (M : Mac), M.run (a + b) = (M.run a).run b
  | 0, b, M => by rw [Nat.zero_add]; rfl
  | a + 1, b, M => by
    by_cases h : M.way = 0
    · rw [show a + 1 + b = (a + b) + 1 by omega]
      simp only [Mac.run, h, if_true]
      exact run_add a b M.step
    · rw [run_stay h, run_stay h, run_stay h]
theorem out_call (M : Mac) : ∃ r, M.call.1.out = M.out ++ r := by
  unfold Mac.call
  repeat' split
  all_goals first | exact ⟨_, rfl⟩ | exact ⟨[], by simp [Mac.put, Mac.fault]⟩
theorem out_act (M : Mac) (x : Ins) : ∃ r, (M.act x).out = M.out ++ r := by
  obtain ⟨r, hr⟩ := out_call M
  unfold Mac.act
  dsimp only
  repeat' split
  all_goals first | exact ⟨r, hr⟩ | exact ⟨[], by simp [Mac.put, Mac.fault, Mac.goto, Mac.store]⟩
theorem out_step (M : Mac) : ∃ r, M.step.out = M.out ++ r := by
  unfold Mac.step
  repeat' split
  · obtain ⟨r, hr⟩ := out_act M _
    exact ⟨r, hr⟩
  all_goals exact ⟨[], by simp [Mac.fault]⟩
theorem out_run : ∀ (k : Nat) (M : Mac), ∃ r, (M.run k).out = M.out ++ r
  | 0, M => ⟨[], by simp [Mac.run]⟩
  | k + 1, M => by
    unfold Mac.run
    split
    · obtain ⟨r, hr⟩ := out_step M
      obtain ⟨s, hs⟩ := out_run k M.step
      exact ⟨r ++ s, by rw [hs, hr, List.append_assoc]⟩
    · exact ⟨[], by simp⟩
theorem reg0_put (M : Mac) (h : M.Ok) : (M.put 0 0).reg 0 = 0 := by
  have := h.regs
  unfold Mac.put Mac.reg
  simp [List.getElem?_set, this]
theorem reg0_step {M : Mac} (hok : M.Ok) (h : M.reg 0 = 0) : M.step.reg 0 = 0 := by
  unfold Mac.step
  repeat' split
  · exact reg0_put _ (hok.act _)
  all_goals exact h
theorem reg0_run : ∀ (k : Nat) {M : Mac}, M.Ok → M.reg 0 = 0 → (M.run k).reg 0 = 0
  | 0, M, _, h => h
  | k + 1, M, hok, h => by
    unfold Mac.run
    split
    · exact reg0_run k hok.step (reg0_step hok h)
    · exact h
end Go.Proofs.YtgeajgdddjjjnaaDoor.MachP

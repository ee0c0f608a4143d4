/- Instructions as words: contracts of word.register and word.fits; the table of forms as it lies in memory. Conditions: the table lies as the program lays it. -/
import Derived.Test.YtodgkbcgdbhpeaaGreatDoorRows
import Derived.WalkKit
import Derived.ProofKit
import Derived.WalkSpells
import Derived.WalkLawsBesides
import Derived.Lib.Hide
import Derived.Deep.QuietTactic
import Derived.BigQuiet
import Derived.Deep.RegionHeld3
import Derived.Deep.RegionWith
import Derived.Deep.DeepCutAuto
import Derived.StillTailTactics
namespace Go.Proofs.YtodgkbcgdbhpeaaGreatDoor.WordP
set_option linter.unusedSimpArgs false
open Go.RowKit
set_option linter.unusedVariables false

def regB (n : Int) : Bool := decide (0 ≤ n) && decide (n < 32)
theorem register_any (n : Int) (w : World) :
    Calls Tryz.prog 44 #[.int .i64 n] w fun e w' => e = .returned (.bool (regB n)) ∧ w = w' := by
  by_cases h1 : 0 ≤ n <;> by_cases h2 : n < 32
  all_goals
    go_enter Tryz.func44, Tryz.ntmps44
    go_wp2
    go_ret
    refine ⟨?_, rfl⟩
    simp [regB]
    omega
/-- A number of so many bits, with a sign, and a multiple. -/
def fitB (n half of : Int) : Bool := decide (-half ≤ n) && decide (n < half) && decide (n % of = 0)
theorem tmod_zero (n k : Int) : (n.tmod k == 0) = decide (n % k = 0) := by
  rw [Bool.eq_iff_iff]
  simp only [beq_iff_eq, decide_eq_true_eq, ← Int.dvd_iff_tmod_eq_zero, ← Int.dvd_iff_emod_eq_zero]
theorem fits_12 (n : Int) (w : World) :
    Calls Tryz.prog 45 #[.int .i64 n, .int .i64 12, .int .i64 1] w fun e w' => e = .returned (.bool (fitB n 2048 1)) ∧ w = w' := by
  have ht := tmod_zero n 1
  by_cases h1 : -2048 ≤ n
  · by_cases h2 : n < 2048
    · go_enter Tryz.func45, Tryz.ntmps45
      go_wp2
      go_ret
      refine ⟨?_, rfl⟩
      simp [fitB, h1, h2]
    · go_enter Tryz.func45, Tryz.ntmps45
      go_wp2
      go_ret
      refine ⟨?_, rfl⟩
      simp [fitB]
      omega
  · go_enter Tryz.func45, Tryz.ntmps45
    go_wp2
    go_ret
    refine ⟨?_, rfl⟩
    simp [fitB]
    omega
theorem fits_13 (n : Int) (w : World) :
    Calls Tryz.prog 45 #[.int .i64 n, .int .i64 13, .int .i64 2] w fun e w' => e = .returned (.bool (fitB n 4096 2)) ∧ w = w' := by
  have ht := tmod_zero n 2
  by_cases h1 : -4096 ≤ n
  · by_cases h2 : n < 4096
    · go_enter Tryz.func45, Tryz.ntmps45
      go_wp2
      go_ret
      refine ⟨?_, rfl⟩
      simp [fitB, h1, h2, ht]
    · go_enter Tryz.func45, Tryz.ntmps45
      go_wp2
      go_ret
      refine ⟨?_, rfl⟩
      simp [fitB]
      omega
  · go_enter Tryz.func45, Tryz.ntmps45
    go_wp2
    go_ret
    refine ⟨?_, rfl⟩
    simp [fitB]
    omega
theorem fits_32 (n : Int) (w : World) :
    Calls Tryz.prog 45 #[.int .i64 n, .int .i64 32, .int .i64 4096] w fun e w' => e = .returned (.bool (fitB n 2147483648 4096)) ∧ w = w' := by
  have ht := tmod_zero n 4096
  by_cases h1 : -2147483648 ≤ n
  · by_cases h2 : n < 2147483648
    · go_enter Tryz.func45, Tryz.ntmps45
      go_wp2
      go_ret
      refine ⟨?_, rfl⟩
      simp [fitB, h1, h2, ht]
    · go_enter Tryz.func45, Tryz.ntmps45
      go_wp2
      go_ret
      refine ⟨?_, rfl⟩
      simp [fitB]
      omega
  · go_enter Tryz.func45, Tryz.ntmps45
    go_wp2
    go_ret
    refine ⟨?_, rfl⟩
    simp [fitB]
    omega
theorem fits_21 (n : Int) (w : World) :
    Calls Tryz.prog 45 #[.int .i64 n, .int .i64 21, .int .i64 2] w fun e w' => e = .returned (.bool (fitB n 1048576 2)) ∧ w = w' := by
  have ht := tmod_zero n 2
  by_cases h1 : -1048576 ≤ n
  · by_cases h2 : n < 1048576
    · go_enter Tryz.func45, Tryz.ntmps45
      go_wp2
      go_ret
      refine ⟨?_, rfl⟩
      simp [fitB, h1, h2, ht]
    · go_enter Tryz.func45, Tryz.ntmps45
      go_wp2
      go_ret
      refine ⟨?_, rfl⟩
      simp [fitB]
      omega
  · go_enter Tryz.func45, Tryz.ntmps45
    go_wp2
    go_ret
    refine ⟨?_, rfl⟩
    simp [fitB]
    omega
end Go.Proofs.YtodgkbcgdbhpeaaGreatDoor.WordP

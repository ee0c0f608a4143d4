/- Letters and digits. No conditions. -/
import Derived.Test.YtinbahmpifokaaaDoorRows
import Derived.Test.YtinbahmpifokaaaDoorMods
import Derived.Test.YtinbahmpifokaaaDoorTreePlain
import Derived.WalkKit
import Derived.ProofKit
import Derived.WalkSpells
import Derived.WalkLawsBesides
import Derived.Lib.Hide
import Derived.RegionTactic
import Derived.Outline
import Derived.IntWalk
namespace Go.Proofs.YtinbahmpifokaaaDoor.TreeP
open Go.RowKit Go.Proofs.YtinbahmpifokaaaDoor.Wo
set_option linter.unusedVariables false
set_option linter.unusedSimpArgs false
set_option maxRecDepth 100000 in
theorem letter_any (c : UInt8) (W : World) :
    Calls Tryd.prog 32 #[.int .u8 c.toNat] W fun e W' => e = .returned (.bool (letterB c)) ∧ W = W' := by
  obtain ⟨x, hx⟩ : ∃ x : Int, x = c.toNat := ⟨_, rfl⟩
  have h0 : 0 ≤ x ∧ x < 256 := by rw [hx]; have := c.toNat_lt; omega
  have HL : letterB c = ((decide (97 ≤ x) && decide (x ≤ 122)) || x == 95) := by
    unfold letterB
    rw [hx]
    congr 1
    · congr 1 <;> (apply decide_eq_decide.2; omega)
    · rw [Bool.eq_iff_iff]; simp; omega
  rw [HL, ← hx]
  clear HL hx
  by_cases h1 : 97 ≤ x <;> by_cases h2 : x ≤ 122 <;> by_cases h3 : x = 95
  all_goals first
    | omega
    | skip
  all_goals
    go_enter Tryd.func32, Tryd.ntmps32
    go_wp2
    go_ret
    refine ⟨?_, rfl⟩
    simp [h1, h2, h3]
set_option maxRecDepth 100000 in
theorem digit_any (c : UInt8) (W : World) :
    Calls Tryd.prog 33 #[.int .u8 c.toNat] W fun e W' => e = .returned (.bool (digitB c)) ∧ W = W' := by
  obtain ⟨x, hx⟩ : ∃ x : Int, x = c.toNat := ⟨_, rfl⟩
  have h0 : 0 ≤ x ∧ x < 256 := by rw [hx]; have := c.toNat_lt; omega
  have HL : digitB c = (decide (48 ≤ x) && decide (x ≤ 57)) := by
    unfold digitB
    rw [hx]
    congr 1 <;> (apply decide_eq_decide.2; omega)
  rw [HL, ← hx]
  clear HL hx
  by_cases h1 : 48 ≤ x <;> by_cases h2 : x ≤ 57
  all_goals
    go_enter Tryd.func33, Tryd.ntmps33
    go_wp2
    go_ret
    refine ⟨?_, rfl⟩
    simp [h1, h2]
theorem strT : Tryd.prog.underlying 9 = some .string := by kernel_rfl
/-- A byte of a text. -/
theorem str_at {l : List UInt8} {n : Nat} {c : UInt8} (h : l[n]? = some c) (W : World) : Sem.run Tryd.prog (Instr.index 9 (.string ⟨l.toArray⟩) (.int .i64 (n : Int))) W = .ok (.int .u8 c.toNat) W := by
  have hn : n < l.length := (List.getElem?_eq_some_iff.1 h).1
  have hc : l[n] = c := (List.getElem?_eq_some_iff.1 h).2
  have h2 : (0 : Int) ≤ (n : Int) ∧ (n : Int) < ((⟨l.toArray⟩ : ByteArray).size : Int) := by
    simp only [ByteArray.size, List.size_toArray]
    omega
  have := run_index_string (P := Tryd.prog) W 9 ⟨l.toArray⟩ .i64 (n : Int) strT
  rw [dif_pos h2] at this
  refine this.trans ?_
  have e : (⟨l.toArray⟩ : ByteArray)[(n : Int).toNat]'(by simpa [ByteArray.size] using hn) = c := by
    rw [← hc]; rfl
  rw [e]
theorem str_at0 {c : UInt8} {r : List UInt8} (W : World) : Sem.run Tryd.prog (Instr.index 9 (.string ⟨(c :: r).toArray⟩) (.int .i64 0)) W = .ok (.int .u8 c.toNat) W := str_at (l := c :: r) (n := 0) rfl W
end Go.Proofs.YtinbahmpifokaaaDoor.TreeP

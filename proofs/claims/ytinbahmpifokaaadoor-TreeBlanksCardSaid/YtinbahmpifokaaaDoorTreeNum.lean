/- A number of digits, read by strconv.ParseInt. No program in sight. No conditions. -/
import Derived.Test.YtinbahmpifokaaaDoorTreePlain
import Derived.Lib.ParseIntBTie
namespace Go.Proofs.YtinbahmpifokaaaDoor.TreeP
set_option linter.unusedVariables false
set_option linter.unusedSimpArgs false
def foldN (acc : Nat) (l : List UInt8) : Nat := l.foldl (fun n c => n * 10 + (c.toNat - 48)) acc
theorem numP_eq (l : List UInt8) : numP l = foldN 0 l := rfl
theorem foldN_le : (l : List UInt8) → (acc : Nat) → acc ≤ foldN acc l
  | [], acc => Nat.le_refl _
  | c :: r, acc => Nat.le_trans (by omega) (foldN_le r (acc * 10 + (c.toNat - 48)))
theorem uint_digits : (l : List UInt8) → (acc : Nat) → l.all digitB = true → acc < 18446744073709551616 → Lib.parseUint10 acc l = if foldN acc l < 18446744073709551616 then .ok (foldN acc l) else .range
  | [], acc, _, ha => by
    have h : foldN acc [] = acc := rfl
    rw [h, if_pos ha]
    rfl
  | c :: r, acc, hd, ha => by
    simp only [List.all_cons, Bool.and_eq_true, digitB, decide_eq_true_eq] at hd
    simp only [Lib.parseUint10]
    have hf : foldN acc (c :: r) = foldN (acc * 10 + (c.toNat - 48)) r := rfl
    rw [if_pos ⟨hd.1.1, hd.1.2⟩, hf]
    have hle := foldN_le r (acc * 10 + (c.toNat - 48))
    by_cases h1 : 1844674407370955162 ≤ acc
    · rw [if_pos h1, if_neg (by omega)]
    · rw [if_neg h1]
      by_cases h2 : 18446744073709551616 ≤ acc * 10 + (c.toNat - 48)
      · rw [if_pos h2, if_neg (by omega)]
      · rw [if_neg h2]
        exact uint_digits r _ hd.2 (by omega)
theorem int_digits {l : List UInt8} (hne : l ≠ []) (hd : l.all digitB = true) : Lib.parseIntB 64 l = if numP l < 9223372036854775808 then .ok (numP l : Int) else .range := by
  rw [Lib.parseIntB_64, numP_eq]
  cases l with
  | nil => exact absurd rfl hne
  | cons c r =>
    have hc : 48 ≤ c.toNat ∧ c.toNat ≤ 57 := by
      simp only [List.all_cons, Bool.and_eq_true, digitB, decide_eq_true_eq] at hd
      exact hd.1
    have h43 : ¬ c.toNat = 43 := by omega
    have h45 : ¬ c.toNat = 45 := by omega
    simp only [Lib.atoiAll, h43, h45, or_self, if_false, Lib.parseMag, reduceCtorEq, not_false_eq_true, true_and, false_and]
    rw [uint_digits _ 0 hd (by omega)]
    by_cases h1 : foldN 0 (c :: r) < 18446744073709551616
    · rw [if_pos h1]
      simp only
      by_cases h2 : foldN 0 (c :: r) < 9223372036854775808
      · rw [if_pos h2, if_neg (by omega)]
      · rw [if_neg h2, if_pos (by omega)]
    · rw [if_neg h1, if_neg (by omega)]
end Go.Proofs.YtinbahmpifokaaaDoor.TreeP

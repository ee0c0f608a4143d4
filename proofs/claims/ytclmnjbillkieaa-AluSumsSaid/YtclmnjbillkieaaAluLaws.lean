/- Plain laws of ops: a quotient as often as its divisor, and what is left; less; what is moved there and back; and, or, xor. No program in sight. -/
import Derived.Test.YtclmnjbillkieaaAluPlain
namespace Go.Proofs.Ytclmnjbillkieaa.AluP
open Go.RowKit
set_option linter.unusedVariables false

theorem nat_and_or : ∀ (n x y : Nat), x < n → (x &&& y) + (x ||| y) = x + y := by
  intro n
  induction n with
  | zero => intro x y h; omega
  | succ n ih =>
    intro x y h
    by_cases hx : x = 0
    · subst hx; simp
    have h1 := ih (x / 2) (y / 2) (by omega)
    have a1 : (x &&& y) / 2 = x / 2 &&& y / 2 := by
      have := @Nat.and_div_two_pow x y 1; simpa using this
    have a2 : (x ||| y) / 2 = x / 2 ||| y / 2 := by
      have := @Nat.or_div_two_pow x y 1; simpa using this
    have m1 : (x &&& y) % 2 = (x % 2) &&& (y % 2) := by
      have := @Nat.and_mod_two_pow x y 1; simpa using this
    have m2 : (x ||| y) % 2 = (x % 2) ||| (y % 2) := by
      have := @Nat.or_mod_two_pow x y 1; simpa using this
    have hx2 : x % 2 = 0 ∨ x % 2 = 1 := by omega
    have hy2 : y % 2 = 0 ∨ y % 2 = 1 := by omega
    have c : (x % 2 &&& y % 2) + (x % 2 ||| y % 2) = x % 2 + y % 2 := by
      rcases hx2 with e | e <;> rcases hy2 with f | f <;> rw [e, f] <;> rfl
    omega
theorem bv_and_or (x y : BitVec 64) : (x &&& y) + (x ||| y) = x + y := by
  apply BitVec.eq_of_toNat_eq
  rw [BitVec.toNat_add, BitVec.toNat_add, BitVec.toNat_and, BitVec.toNat_or, nat_and_or (x.toNat + 1) _ _ (by omega)]

theorem alu_add (a b : Int) : alu 1 a b = IntKind.i64.wrap (a + b) := by simp [alu]
theorem alu_sub (a b : Int) : alu 2 a b = IntKind.i64.wrap (a - b) := by simp [alu]
theorem alu_mul (a b : Int) : alu 3 a b = IntKind.i64.wrap (a * b) := by simp [alu]
theorem alu_div (a b : Int) : alu 4 a b = if b = 0 then -1 else IntKind.i64.wrap (a.tdiv b) := by simp [alu]
theorem alu_rem (a b : Int) : alu 5 a b = if b = 0 then a else a.tmod b := by simp [alu]
theorem alu_and (a b : Int) : alu 6 a b = bits .and .i64 a b := by simp [alu]
theorem alu_or (a b : Int) : alu 7 a b = bits .or .i64 a b := by simp [alu]
theorem alu_xor (a b : Int) : alu 8 a b = bits .xor .i64 a b := by simp [alu]
theorem alu_slt (a b : Int) : alu 9 a b = if a < b then 1 else 0 := by simp [alu]
theorem alu_sll (a b : Int) : alu 11 a b = IntKind.i64.wrap (a * 2 ^ sh b) := by simp [alu]
theorem alu_srl (a b : Int) : alu 12 a b = IntKind.i64.wrap (IntKind.u64.wrap a / 2 ^ sh b) := by simp [alu]
theorem alu_sra (a b : Int) : alu 13 a b = a / 2 ^ sh b := by simp [alu]

theorem wrap_add_left (a c : Int) : IntKind.i64.wrap (IntKind.i64.wrap a + c) = IntKind.i64.wrap (a + c) := by
  apply wrap_congr; rw [wrap_eq]; omega
theorem wrap_sub_left (a c : Int) : IntKind.i64.wrap (IntKind.i64.wrap a - c) = IntKind.i64.wrap (a - c) := by
  apply wrap_congr; rw [wrap_eq]; omega
theorem law_quo (a b : Int) (ha : I64 a) (hb : ¬ b = 0) : alu 1 (alu 3 (alu 4 a b) b) (alu 5 a b) = a := by
  rw [alu_add, alu_mul, alu_div, alu_rem, if_neg hb, if_neg hb, wrap_wrap_mul, wrap_add_left, Int.tdiv_mul_add_tmod, i64_in ha]
theorem law_sign (a b : Int) (hb : ¬ b = 0) (hr : ¬ alu 5 a b = 0) : (alu 5 a b < 0) ↔ a < 0 := by
  rw [alu_rem, if_neg hb] at *
  have e := tmod_abs a b
  have h := nat_tmod_le a.natAbs b.natAbs
  split at e <;> omega
theorem law_back (a b : Int) (ha : I64 a) : alu 2 (alu 1 a b) b = a := by
  rw [alu_sub, alu_add, wrap_sub_left, show a + b - b = a from by omega, i64_in ha]
theorem u64_toNat (y : Int) : ((BitVec.ofInt 64 y).toNat : Int) = IntKind.u64.wrap y := by
  rw [IntKind.wrap_u64, BitVec.toNat_ofInt]; omega
theorem srl_bv (y : Int) (n : Nat) : IntKind.i64.wrap (IntKind.u64.wrap y / 2 ^ n) = (BitVec.ofInt 64 y >>> n).toInt := by
  rw [← wrap_toInt, BitVec.toNat_ushiftRight, Nat.shiftRight_eq_div_pow, ← u64_toNat]
  congr 1
theorem ofInt_wrap (y : Int) : BitVec.ofInt 64 (IntKind.i64.wrap y) = BitVec.ofInt 64 y := by
  rw [← wrap_ofInt, BitVec.ofInt_toInt]
theorem ofInt_shl (a : Int) (n : Nat) : BitVec.ofInt 64 (a * 2 ^ n) = BitVec.ofInt 64 a <<< n := by
  rw [BitVec.ofInt_mul, BitVec.shiftLeft_eq_mul_twoPow]
  congr 1
  apply BitVec.eq_of_toNat_eq
  rw [BitVec.toNat_twoPow, BitVec.toNat_ofInt]
  have : ((2 : Int) ^ n) = ((2 ^ n : Nat) : Int) := by simp
  rw [this]
  omega
theorem bv_shl_shr (x : BitVec 64) (n : Nat) : (x <<< n) >>> n = x &&& (BitVec.allOnes 64 >>> n) := by
  apply BitVec.eq_of_getLsbD_eq
  intro i hi
  rw [BitVec.getLsbD_and, BitVec.getLsbD_ushiftRight, BitVec.getLsbD_ushiftRight, BitVec.getLsbD_shiftLeft, BitVec.getLsbD_allOnes]
  by_cases h : n + i < 64
  · simp [h]
  · simp [h]
theorem law_srl (a k : Int) : alu 12 (alu 11 a k) k = alu 6 a (alu 12 (-1) k) := by
  rw [alu_srl, alu_sll, alu_and, alu_srl, srl_bv, srl_bv, ofInt_wrap, ofInt_shl, bv_shl_shr, and_toInt, BitVec.ofInt_toInt]
  rfl
theorem law_sra (a k : Int) : alu 13 a (k + 64) = alu 13 a k := by
  rw [alu_sra, alu_sra, show sh (k + 64) = sh k from by unfold sh; omega]
theorem law_sra_sign (a k : Int) : (alu 13 a k < 0) ↔ a < 0 := by
  rw [alu_sra]
  have : (0 : Int) < 2 ^ sh k := Int.pow_pos (by decide)
  constructor
  · intro h; by_cases h0 : 0 ≤ a
    · have := Int.ediv_nonneg h0 (Int.le_of_lt this); omega
    · omega
  · intro h; exact Int.ediv_neg_of_neg_of_pos h this
theorem law_and_or (a b : Int) : alu 1 (alu 6 a b) (alu 7 a b) = wrap64 (a + b) := by
  rw [alu_add, alu_and, alu_or, and_toInt, or_toInt, wrap_bmod, ← BitVec.toInt_add, bv_and_or, BitVec.toInt_add, BitVec.toInt_ofInt, BitVec.toInt_ofInt, ← IntWalk.i64_left, wrap_bmod]
  simp
theorem law_or_and (a b : Int) : alu 2 (alu 7 a b) (alu 6 a b) = alu 8 a b := by
  rw [alu_sub, alu_and, alu_or, alu_xor, xor_eq]
theorem law_xor (a b : Int) (ha : I64 a) : alu 8 (alu 8 a b) b = a := by
  rw [alu_xor, alu_xor, xor_toInt, xor_toInt, BitVec.ofInt_toInt, BitVec.xor_assoc, BitVec.xor_self, BitVec.xor_zero, ofInt_toInt ha]
end Go.Proofs.Ytclmnjbillkieaa.AluP

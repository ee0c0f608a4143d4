/- The plain law of the machine's ops: what an op comes to, as a function of integers, and the equalities between the two ways of saying it. No program in sight. No conditions but that numbers fit their kinds. -/
import Derived.WalkKit
namespace Go.Proofs.YtodgkbcgdbhpeaaGreatDoor.AluP
open Go.RowKit

/-- A number of 64 bits with its sign. -/
def I64 (a : Int) : Prop := -9223372036854775808 ≤ a ∧ a ≤ 9223372036854775807

theorem i64_in {a : Int} (h : I64 a) : IntKind.i64.wrap a = a := IntWalk.i64_in a h
theorem i64_wrap (a : Int) : I64 (IntKind.i64.wrap a) := by
  unfold I64; rw [IntKind.wrap_i64]; omega
theorem wrap_eq (a : Int) : IntKind.i64.wrap a = (a + 9223372036854775808) % 18446744073709551616 - 9223372036854775808 := IntKind.wrap_i64 a
theorem wrap_congr {a b : Int} (h : a % 18446744073709551616 = b % 18446744073709551616) : IntKind.i64.wrap a = IntKind.i64.wrap b := by
  rw [wrap_eq, wrap_eq]; omega
theorem wrap_bmod (a : Int) : IntKind.i64.wrap a = a.bmod (2 ^ 64) := by
  rw [wrap_eq, Int.bmod_def]; simp only [Nat.reducePow]; split <;> omega
theorem wrap_toInt (v : BitVec 64) : IntKind.i64.wrap (v.toNat : Int) = v.toInt := by
  rw [wrap_bmod, BitVec.toInt_eq_toNat_bmod]
theorem ofInt_toInt {a : Int} (h : I64 a) : (BitVec.ofInt 64 a).toInt = a := by
  rw [BitVec.toInt_ofInt, ← wrap_bmod, i64_in h]
theorem wrap_ofInt (a : Int) : (BitVec.ofInt 64 a).toInt = IntKind.i64.wrap a := by
  rw [BitVec.toInt_ofInt, ← wrap_bmod]

theorem and_toInt (a b : Int) : bits .and .i64 a b = (BitVec.ofInt 64 a &&& BitVec.ofInt 64 b).toInt := wrap_toInt _
theorem or_toInt (a b : Int) : bits .or .i64 a b = (BitVec.ofInt 64 a ||| BitVec.ofInt 64 b).toInt := wrap_toInt _
theorem xor_toInt (a b : Int) : bits .xor .i64 a b = (BitVec.ofInt 64 a ^^^ BitVec.ofInt 64 b).toInt := wrap_toInt _

theorem bv_or_split (x y : BitVec 64) : (x ^^^ y) + (x &&& y) = x ||| y := by
  rw [BitVec.add_eq_or_of_and_eq_zero]
  · ext i; simp; cases x[i] <;> cases y[i] <;> rfl
  · ext i; simp; cases x[i] <;> cases y[i] <;> simp
theorem bv_xor (x y : BitVec 64) : (x ||| y) - (x &&& y) = x ^^^ y := by
  rw [← bv_or_split, BitVec.add_sub_cancel]
theorem xor_eq (a b : Int) : IntKind.i64.wrap (bits .or .i64 a b - bits .and .i64 a b) = bits .xor .i64 a b := by
  rw [or_toInt, and_toInt, xor_toInt, wrap_bmod, ← BitVec.toInt_sub, bv_xor]

/-- The last six bits of a number. -/
def sh (b : Int) : Nat := (b % 64).toNat
theorem sh_lt (b : Int) : sh b < 64 := by unfold sh; omega

/-- What an op comes to. -/
def alu (op a b : Int) : Int :=
  if op = 1 ∨ op = 14 then IntKind.i64.wrap (a + b)
  else if op = 2 then IntKind.i64.wrap (a - b)
  else if op = 3 then IntKind.i64.wrap (a * b)
  else if op = 4 then (if b = 0 then -1 else IntKind.i64.wrap (a.tdiv b))
  else if op = 5 then (if b = 0 then a else a.tmod b)
  else if op = 6 ∨ op = 15 then bits .and .i64 a b
  else if op = 7 ∨ op = 16 then bits .or .i64 a b
  else if op = 8 ∨ op = 17 then bits .xor .i64 a b
  else if op = 9 ∨ op = 18 then (if a < b then 1 else 0)
  else if op = 10 then (if IntKind.u64.wrap a < IntKind.u64.wrap b then 1 else 0)
  else if op = 11 ∨ op = 19 then IntKind.i64.wrap (a * 2 ^ sh b)
  else if op = 12 ∨ op = 20 then IntKind.i64.wrap (IntKind.u64.wrap a / 2 ^ sh b)
  else if op = 13 ∨ op = 21 then a / 2 ^ sh b
  else 0

/-! ### Shifts, round by round -/
/-- Doubled so often. -/
def dbl : Nat → Int → Int
  | 0, a => a
  | n + 1, a => dbl n (IntKind.i64.wrap (a * 2))
theorem wrap_wrap_mul (a c : Int) : IntKind.i64.wrap (IntKind.i64.wrap a * c) = IntKind.i64.wrap (a * c) := by
  apply wrap_congr
  rw [wrap_eq]
  have : ((a + 9223372036854775808) % 18446744073709551616 - 9223372036854775808) % 18446744073709551616 = a % 18446744073709551616 := by omega
  rw [Int.mul_emod, this, ← Int.mul_emod]
theorem dbl_eq (n : Nat) : ∀ a, I64 a → dbl n a = IntKind.i64.wrap (a * 2 ^ n) := by
  induction n with
  | zero => intro a h; simp [dbl, i64_in h]
  | succ n ih =>
    intro a h
    rw [dbl, ih _ (i64_wrap _), wrap_wrap_mul]
    congr 1
    rw [Int.pow_succ, Int.mul_comm (2 ^ n) 2, Int.mul_assoc]
theorem dbl_snoc (n : Nat) : ∀ a, dbl (n + 1) a = IntKind.i64.wrap (dbl n a * 2) := by
  induction n with
  | zero => intro a; rfl
  | succ n ih => intro a; rw [dbl, ih]; rfl

/-- a & 1. -/
theorem and_one (a : Int) : bits .and .i64 a 1 = a % 2 := by
  rw [and_toInt]
  have h1 : (BitVec.ofInt 64 a &&& BitVec.ofInt 64 1).toNat = (a % 2).toNat := by
    rw [BitVec.toNat_and]
    have : (BitVec.ofInt 64 1).toNat = 2 ^ 1 - 1 := by decide
    rw [this, Nat.and_two_pow_sub_one_eq_mod, BitVec.toNat_ofInt]
    omega
  rw [← wrap_toInt, h1]
  rw [IntWalk.i64_in _ (by omega)]
  omega
/-- Halved so often, down to the next less one. -/
def hlv : Nat → Int → Int
  | 0, a => a
  | n + 1, a => hlv n (a / 2)
theorem hlv_eq (n : Nat) : ∀ a, hlv n a = a / 2 ^ n := by
  induction n with
  | zero => intro a; simp [hlv]
  | succ n ih =>
    intro a
    rw [hlv, ih, Int.pow_succ, Int.mul_comm, Int.ediv_ediv_of_nonneg (by decide)]
theorem hlv_snoc (n : Nat) (a : Int) : hlv (n + 1) a = hlv n a / 2 := by
  rw [hlv_eq, hlv_eq, Int.pow_succ, Int.ediv_ediv_of_nonneg (Int.le_of_lt (Int.pow_pos (by decide)))]
theorem hlv_in (n : Nat) : ∀ a, I64 a → I64 (hlv n a) := by
  induction n with
  | zero => intro a h; exact h
  | succ n ih => intro a h; exact ih _ (by unfold I64 at *; omega)
theorem half (a : Int) (h : I64 a) : IntKind.i64.wrap ((IntKind.i64.wrap (a - bits .and .i64 a 1)).tdiv 2) = a / 2 := by
  rw [and_one a]
  unfold I64 at h
  rw [IntWalk.i64_in (a - a % 2) (by omega)]
  have : (a - a % 2).tdiv 2 = a / 2 := by
    rw [Int.tdiv_eq_ediv_of_dvd (by omega)]; omega
  rw [this, IntWalk.i64_in _ (by omega)]

/-! ### The quotient, and what is left, by numbers without signs -/
def ab (a : Int) : Int := if a < 0 then IntKind.u64.wrap (-(IntKind.u64.wrap a)) else IntKind.u64.wrap a
theorem ab_eq (a : Int) (h : I64 a) : ab a = a.natAbs := by
  unfold ab I64 at *; rw [IntKind.wrap_u64, IntKind.wrap_u64]; split <;> omega
def qq (a b : Int) : Int :=
  if (decide (a < 0) != decide (b < 0)) then IntKind.i64.wrap (-(IntKind.i64.wrap (IntKind.u64.wrap ((ab a).tdiv (ab b))))) else IntKind.i64.wrap (IntKind.u64.wrap ((ab a).tdiv (ab b)))
def rr (a b : Int) : Int :=
  if a < 0 then IntKind.i64.wrap (-(IntKind.i64.wrap ((ab a).tmod (ab b)))) else IntKind.i64.wrap ((ab a).tmod (ab b))
theorem wrap_neg_wrap (a : Int) : IntKind.i64.wrap (-(IntKind.i64.wrap a)) = IntKind.i64.wrap (-a) := by
  apply wrap_congr; rw [wrap_eq]; omega
theorem tdiv_abs (a b : Int) : a.tdiv b = if (decide (a < 0) != decide (b < 0)) then -((a.natAbs : Int).tdiv b.natAbs) else (a.natAbs : Int).tdiv b.natAbs := by
  rcases Int.lt_or_le a 0 with ha | ha <;> rcases Int.lt_or_le b 0 with hb | hb
  · have e1 : (a.natAbs : Int) = -a := by omega
    have e2 : (b.natAbs : Int) = -b := by omega
    rw [e1, e2, Int.neg_tdiv, Int.tdiv_neg]; simp [ha, hb]
  · have e1 : (a.natAbs : Int) = -a := by omega
    have e2 : (b.natAbs : Int) = b := by omega
    rw [e1, e2, Int.neg_tdiv]; simp [ha, Int.not_lt.2 hb]
  · have e1 : (a.natAbs : Int) = a := by omega
    have e2 : (b.natAbs : Int) = -b := by omega
    rw [e1, e2, Int.tdiv_neg]; simp [hb, Int.not_lt.2 ha]
  · have e1 : (a.natAbs : Int) = a := by omega
    have e2 : (b.natAbs : Int) = b := by omega
    rw [e1, e2]; simp [Int.not_lt.2 ha, Int.not_lt.2 hb]
theorem tmod_abs (a b : Int) : a.tmod b = if a < 0 then -((a.natAbs : Int).tmod b.natAbs) else (a.natAbs : Int).tmod b.natAbs := by
  have hb : ∀ x : Int, x.tmod b.natAbs = x.tmod b := by
    intro x
    rcases Int.natAbs_eq b with h | h
    · rw [← h]
    · have : (b.natAbs : Int) = -b := by omega
      rw [this, Int.tmod_neg]
  rw [hb]
  split
  · rename_i h
    have : (a.natAbs : Int) = -a := by omega
    rw [this, Int.neg_tmod]; simp
  · have : (a.natAbs : Int) = a := by omega
    rw [this]
theorem nat_tdiv_le (x y : Nat) : 0 ≤ ((x : Int).tdiv y) ∧ ((x : Int).tdiv y) ≤ x := by
  have := Nat.div_le_self x y
  exact ⟨Int.natCast_nonneg (x / y), Int.ofNat_le.2 this⟩
theorem nat_tmod_le (x y : Nat) : 0 ≤ ((x : Int).tmod y) ∧ ((x : Int).tmod y) ≤ x := by
  have := Nat.mod_le x y
  exact ⟨Int.natCast_nonneg (x % y), Int.ofNat_le.2 this⟩
theorem qq_eq (a b : Int) (ha : I64 a) (hb : I64 b) : qq a b = IntKind.i64.wrap (a.tdiv b) := by
  unfold qq
  rw [ab_eq a ha, ab_eq b hb, tdiv_abs a b, wrap_neg_wrap]
  have hq := nat_tdiv_le a.natAbs b.natAbs
  have : IntKind.u64.wrap ((a.natAbs : Int).tdiv b.natAbs) = (a.natAbs : Int).tdiv b.natAbs := by
    rw [IntKind.wrap_u64]; unfold I64 at ha; omega
  rw [this]
  split <;> rfl
theorem tmod_in (a b : Int) (ha : I64 a) : I64 (a.tmod b) := by
  rw [tmod_abs]
  have hr := nat_tmod_le a.natAbs b.natAbs
  unfold I64 at *
  split <;> omega
theorem rr_eq (a b : Int) (ha : I64 a) (hb : I64 b) : rr a b = a.tmod b := by
  unfold rr
  rw [ab_eq a ha, ab_eq b hb, wrap_neg_wrap]
  have := tmod_in a b ha
  have e := tmod_abs a b
  have hr := nat_tmod_le a.natAbs b.natAbs
  split
  · rename_i h; rw [if_pos h] at e; rw [← e, i64_in this]
  · rename_i h; rw [if_neg h] at e; rw [← e, i64_in this]


end Go.Proofs.YtodgkbcgdbhpeaaGreatDoor.AluP

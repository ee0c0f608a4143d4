/- Parts of numbers as bits of words: contracts of word.part, word.bits and word.sign at the places at which the program calls them. Conditions: the numbers fit their kinds. -/
import Derived.Test.YtodgkbcgdbhpeaaGreatDoorWordRight
namespace Go.Proofs.YtodgkbcgdbhpeaaGreatDoor.WordP
set_option linter.unusedSimpArgs false
open Go.RowKit
set_option linter.unusedVariables false

def Drew (w w' : World) : Prop := ∃ n, w' = w.drewN n
/-- A quiet call behind draws: the draws add up. -/
theorem quiet_more {P : Program} {f : FuncId} {args : Array Value} {w : World} {a n : Nat} {v : Value}
    (h : ∀ W, Calls P f args W fun e w' => e = .returned v ∧ Drew W w') : Calls P f args (w.drewN (a + n)) fun e w' => e = .returned v ∧ ∃ m, w' = w.drewN (a + m) :=
  (h _).mono fun _ _ ⟨he, m, hm⟩ => ⟨he, n + m, by rw [hm, World.drewN_drewN, Nat.add_assoc]⟩
theorem u32_eq (x : Int) : IntKind.u32.wrap x = x % 4294967296 := IntKind.wrap_u32' x
theorem pow_dvd (m : Nat) (hm : m ≤ 32) : (2 : Int) ^ m ∣ 4294967296 := by
  have h := Int.ofNat_dvd.2 (Nat.pow_dvd_pow 2 hm)
  simpa using h
theorem and_mask (x : Int) (m : Nat) (hm : m ≤ 32) (M : Int) (hM : M = 2 ^ m - 1) : bits .and .u32 x M = x % 2 ^ m := by
  have h0 : (BitVec.ofInt 32 M).toNat = 2 ^ m - 1 := by
    subst hM
    rw [BitVec.toNat_ofInt]
    have h1 : (2 : Int) ^ m = ((2 ^ m : Nat) : Int) := by simp
    have h2 : 2 ^ m ≤ 2 ^ 32 := Nat.pow_le_pow_right (by decide) hm
    have h3 : 0 < 2 ^ m := Nat.two_pow_pos m
    rw [h1]
    omega
  have h1 : (BitVec.ofInt 32 x &&& BitVec.ofInt 32 M).toNat = (x % 2 ^ m).toNat := by
    rw [BitVec.toNat_and, h0, Nat.and_two_pow_sub_one_eq_mod, BitVec.toNat_ofInt]
    have h3 := pow_dvd m hm
    have h4 : (x % 4294967296) % 2 ^ m = x % 2 ^ m := Int.emod_emod_of_dvd x h3
    have h5 : (2 : Int) ^ m = ((2 ^ m : Nat) : Int) := by simp
    rw [← h4, h5]
    have h6 : 0 ≤ x % 4294967296 := Int.emod_nonneg _ (by decide)
    obtain ⟨y, hy⟩ := Int.eq_ofNat_of_zero_le h6
    show (x % (4294967296 : Nat)).toNat % 2 ^ m = _
    have hy' : x % ((4294967296 : Nat) : Int) = (y : Int) := hy
    rw [hy', hy]
    rfl
  show IntKind.u32.wrap ((BitVec.ofInt 32 x &&& BitVec.ofInt 32 M).toNat : Int) = _
  rw [h1, u32_eq]
  have h2 : (2 : Int) ^ m ≤ 2 ^ 32 := by
    have := Nat.pow_le_pow_right (n := 2) (by decide) hm
    have h1 : (2 : Int) ^ m = ((2 ^ m : Nat) : Int) := by simp
    rw [h1]; omega
  have h3 : (0 : Int) < 2 ^ m := Int.pow_pos (by decide)
  have h4 := Int.emod_nonneg x (show (2 : Int) ^ m ≠ 0 by omega)
  have h5 := Int.emod_lt_of_pos x h3
  generalize x % 2 ^ m = z at *
  omega
theorem u32_mod (x : Int) (m : Nat) (hm : m ≤ 32) : IntKind.u32.wrap x % 2 ^ m = x % 2 ^ m := by
  rw [u32_eq]
  have h3 := pow_dvd m hm
  exact Int.emod_emod_of_dvd x h3
theorem part_0_12_20 (n : Int) (w : World) :
    Calls Tryz.prog 77 #[.int .i64 n, .int .i64 0, .int .i64 12, .int .i64 20] w fun e w' => e = .returned (.int .u32 (n % 4096 * 1048576)) ∧ Drew w w' := by
  have h1 : bits .and .u32 ((n) % 4294967296) 4095 = n % 4096 := (and_mask _ 12 (by decide) _ (by decide)).trans (by rw [← u32_eq]; exact u32_mod _ 12 (by decide))
  have h2 : (n % 4096 * 1048576) % 4294967296 = n % 4096 * 1048576 := by omega
  go_enter Tryz.func77, Tryz.ntmps77
  go_wp2
  go_quiet (fail)
  go_wp2
  go_ret
  exact ⟨rfl, _, rfl⟩
theorem part_0_6_20 (n : Int) (w : World) :
    Calls Tryz.prog 77 #[.int .i64 n, .int .i64 0, .int .i64 6, .int .i64 20] w fun e w' => e = .returned (.int .u32 (n % 64 * 1048576)) ∧ Drew w w' := by
  have h1 : bits .and .u32 ((n) % 4294967296) 63 = n % 64 := (and_mask _ 6 (by decide) _ (by decide)).trans (by rw [← u32_eq]; exact u32_mod _ 6 (by decide))
  have h2 : (n % 64 * 1048576) % 4294967296 = n % 64 * 1048576 := by omega
  go_enter Tryz.func77, Tryz.ntmps77
  go_wp2
  go_quiet (fail)
  go_wp2
  go_ret
  exact ⟨rfl, _, rfl⟩
theorem part_0_5_7 (n : Int) (w : World) :
    Calls Tryz.prog 77 #[.int .i64 n, .int .i64 0, .int .i64 5, .int .i64 7] w fun e w' => e = .returned (.int .u32 (n % 32 * 128)) ∧ Drew w w' := by
  have h1 : bits .and .u32 ((n) % 4294967296) 31 = n % 32 := (and_mask _ 5 (by decide) _ (by decide)).trans (by rw [← u32_eq]; exact u32_mod _ 5 (by decide))
  have h2 : (n % 32 * 128) % 4294967296 = n % 32 * 128 := by omega
  go_enter Tryz.func77, Tryz.ntmps77
  go_wp2
  go_quiet (fail)
  go_wp2
  go_ret
  exact ⟨rfl, _, rfl⟩
theorem part_5_7_25 (n : Int) (w : World) :
    Calls Tryz.prog 77 #[.int .i64 n, .int .i64 5, .int .i64 7, .int .i64 25] w fun e w' => e = .returned (.int .u32 (n / 32 % 128 * 33554432)) ∧ Drew w w' := by
  have h1 : bits .and .u32 ((n / 32) % 4294967296) 127 = n / 32 % 128 := (and_mask _ 7 (by decide) _ (by decide)).trans (by rw [← u32_eq]; exact u32_mod _ 7 (by decide))
  have h2 : (n / 32 % 128 * 33554432) % 4294967296 = n / 32 % 128 * 33554432 := by omega
  go_enter Tryz.func77, Tryz.ntmps77
  go_wp2
  go_quiet (fail)
  go_wp2
  go_ret
  exact ⟨rfl, _, rfl⟩
theorem part_11_1_7 (n : Int) (w : World) :
    Calls Tryz.prog 77 #[.int .i64 n, .int .i64 11, .int .i64 1, .int .i64 7] w fun e w' => e = .returned (.int .u32 (n / 2048 % 2 * 128)) ∧ Drew w w' := by
  have h1 : bits .and .u32 ((n / 2048) % 4294967296) 1 = n / 2048 % 2 := (and_mask _ 1 (by decide) _ (by decide)).trans (by rw [← u32_eq]; exact u32_mod _ 1 (by decide))
  have h2 : (n / 2048 % 2 * 128) % 4294967296 = n / 2048 % 2 * 128 := by omega
  go_enter Tryz.func77, Tryz.ntmps77
  go_wp2
  go_quiet (fail)
  go_wp2
  go_ret
  exact ⟨rfl, _, rfl⟩
theorem part_1_4_8 (n : Int) (w : World) :
    Calls Tryz.prog 77 #[.int .i64 n, .int .i64 1, .int .i64 4, .int .i64 8] w fun e w' => e = .returned (.int .u32 (n / 2 % 16 * 256)) ∧ Drew w w' := by
  have h1 : bits .and .u32 ((n / 2) % 4294967296) 15 = n / 2 % 16 := (and_mask _ 4 (by decide) _ (by decide)).trans (by rw [← u32_eq]; exact u32_mod _ 4 (by decide))
  have h2 : (n / 2 % 16 * 256) % 4294967296 = n / 2 % 16 * 256 := by omega
  go_enter Tryz.func77, Tryz.ntmps77
  go_wp2
  go_quiet (fail)
  go_wp2
  go_ret
  exact ⟨rfl, _, rfl⟩
theorem part_5_6_25 (n : Int) (w : World) :
    Calls Tryz.prog 77 #[.int .i64 n, .int .i64 5, .int .i64 6, .int .i64 25] w fun e w' => e = .returned (.int .u32 (n / 32 % 64 * 33554432)) ∧ Drew w w' := by
  have h1 : bits .and .u32 ((n / 32) % 4294967296) 63 = n / 32 % 64 := (and_mask _ 6 (by decide) _ (by decide)).trans (by rw [← u32_eq]; exact u32_mod _ 6 (by decide))
  have h2 : (n / 32 % 64 * 33554432) % 4294967296 = n / 32 % 64 * 33554432 := by omega
  go_enter Tryz.func77, Tryz.ntmps77
  go_wp2
  go_quiet (fail)
  go_wp2
  go_ret
  exact ⟨rfl, _, rfl⟩
theorem part_12_1_31 (n : Int) (w : World) :
    Calls Tryz.prog 77 #[.int .i64 n, .int .i64 12, .int .i64 1, .int .i64 31] w fun e w' => e = .returned (.int .u32 (n / 4096 % 2 * 2147483648)) ∧ Drew w w' := by
  have h1 : bits .and .u32 ((n / 4096) % 4294967296) 1 = n / 4096 % 2 := (and_mask _ 1 (by decide) _ (by decide)).trans (by rw [← u32_eq]; exact u32_mod _ 1 (by decide))
  have h2 : (n / 4096 % 2 * 2147483648) % 4294967296 = n / 4096 % 2 * 2147483648 := by omega
  go_enter Tryz.func77, Tryz.ntmps77
  go_wp2
  go_quiet (fail)
  go_wp2
  go_ret
  exact ⟨rfl, _, rfl⟩
theorem part_12_20_12 (n : Int) (w : World) :
    Calls Tryz.prog 77 #[.int .i64 n, .int .i64 12, .int .i64 20, .int .i64 12] w fun e w' => e = .returned (.int .u32 (n / 4096 % 1048576 * 4096)) ∧ Drew w w' := by
  have h1 : bits .and .u32 ((n / 4096) % 4294967296) 1048575 = n / 4096 % 1048576 := (and_mask _ 20 (by decide) _ (by decide)).trans (by rw [← u32_eq]; exact u32_mod _ 20 (by decide))
  have h2 : (n / 4096 % 1048576 * 4096) % 4294967296 = n / 4096 % 1048576 * 4096 := by omega
  go_enter Tryz.func77, Tryz.ntmps77
  go_wp2
  go_quiet (fail)
  go_wp2
  go_ret
  exact ⟨rfl, _, rfl⟩
theorem part_12_8_12 (n : Int) (w : World) :
    Calls Tryz.prog 77 #[.int .i64 n, .int .i64 12, .int .i64 8, .int .i64 12] w fun e w' => e = .returned (.int .u32 (n / 4096 % 256 * 4096)) ∧ Drew w w' := by
  have h1 : bits .and .u32 ((n / 4096) % 4294967296) 255 = n / 4096 % 256 := (and_mask _ 8 (by decide) _ (by decide)).trans (by rw [← u32_eq]; exact u32_mod _ 8 (by decide))
  have h2 : (n / 4096 % 256 * 4096) % 4294967296 = n / 4096 % 256 * 4096 := by omega
  go_enter Tryz.func77, Tryz.ntmps77
  go_wp2
  go_quiet (fail)
  go_wp2
  go_ret
  exact ⟨rfl, _, rfl⟩
theorem part_11_1_20 (n : Int) (w : World) :
    Calls Tryz.prog 77 #[.int .i64 n, .int .i64 11, .int .i64 1, .int .i64 20] w fun e w' => e = .returned (.int .u32 (n / 2048 % 2 * 1048576)) ∧ Drew w w' := by
  have h1 : bits .and .u32 ((n / 2048) % 4294967296) 1 = n / 2048 % 2 := (and_mask _ 1 (by decide) _ (by decide)).trans (by rw [← u32_eq]; exact u32_mod _ 1 (by decide))
  have h2 : (n / 2048 % 2 * 1048576) % 4294967296 = n / 2048 % 2 * 1048576 := by omega
  go_enter Tryz.func77, Tryz.ntmps77
  go_wp2
  go_quiet (fail)
  go_wp2
  go_ret
  exact ⟨rfl, _, rfl⟩
theorem part_1_10_21 (n : Int) (w : World) :
    Calls Tryz.prog 77 #[.int .i64 n, .int .i64 1, .int .i64 10, .int .i64 21] w fun e w' => e = .returned (.int .u32 (n / 2 % 1024 * 2097152)) ∧ Drew w w' := by
  have h1 : bits .and .u32 ((n / 2) % 4294967296) 1023 = n / 2 % 1024 := (and_mask _ 10 (by decide) _ (by decide)).trans (by rw [← u32_eq]; exact u32_mod _ 10 (by decide))
  have h2 : (n / 2 % 1024 * 2097152) % 4294967296 = n / 2 % 1024 * 2097152 := by omega
  go_enter Tryz.func77, Tryz.ntmps77
  go_wp2
  go_quiet (fail)
  go_wp2
  go_ret
  exact ⟨rfl, _, rfl⟩
theorem part_20_1_31 (n : Int) (w : World) :
    Calls Tryz.prog 77 #[.int .i64 n, .int .i64 20, .int .i64 1, .int .i64 31] w fun e w' => e = .returned (.int .u32 (n / 1048576 % 2 * 2147483648)) ∧ Drew w w' := by
  have h1 : bits .and .u32 ((n / 1048576) % 4294967296) 1 = n / 1048576 % 2 := (and_mask _ 1 (by decide) _ (by decide)).trans (by rw [← u32_eq]; exact u32_mod _ 1 (by decide))
  have h2 : (n / 1048576 % 2 * 2147483648) % 4294967296 = n / 1048576 % 2 * 2147483648 := by omega
  go_enter Tryz.func77, Tryz.ntmps77
  go_wp2
  go_quiet (fail)
  go_wp2
  go_ret
  exact ⟨rfl, _, rfl⟩
end Go.Proofs.YtodgkbcgdbhpeaaGreatDoor.WordP

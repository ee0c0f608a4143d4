/- What a word says, as an op: a contract of word.with, of any word. Conditions: the table of forms lies as the program lays it. -/
import Derived.Test.YtgeajgdddjjjnaaDoorWordEnc
namespace Go.Proofs.YtgeajgdddjjjnaaDoor.WordP
set_option linter.unusedSimpArgs false
open Go.RowKit
set_option linter.unusedVariables false

theorem or64_nat (a b : Nat) (ha : a < 9223372036854775808) (hb : b < 9223372036854775808) : bits .or .i64 (a : Int) (b : Int) = ((a ||| b : Nat) : Int) := by
  have h1 : ∀ x : Nat, x < 9223372036854775808 → (BitVec.ofInt 64 (x : Int)).toNat = x := by
    intro x hx; rw [BitVec.ofInt_natCast, BitVec.toNat_ofNat]; exact Nat.mod_eq_of_lt (by omega)
  have h2 : a ||| b < 2 ^ 63 := Nat.or_lt_two_pow ha hb
  show IntKind.i64.wrap ((BitVec.ofInt 64 (a : Int) ||| BitVec.ofInt 64 (b : Int)).toNat : Int) = _
  rw [BitVec.toNat_or, h1 a ha, h1 b hb]
  exact IntWalk.i64_in _ (by omega)
theorem nat_or_add (a b k : Nat) (ha : a % 2 ^ k = 0) (hb : b < 2 ^ k) : a ||| b = a + b := by
  obtain ⟨c, rfl⟩ := Nat.dvd_of_mod_eq_zero ha
  exact (Nat.two_pow_add_eq_or_of_lt hb c).symm
theorem or64 (a b : Int) (k : Nat) (h0 : 0 ≤ a ∧ a < 9223372036854775808) (h1 : 0 ≤ b) (hk : k ≤ 62) (ha : a % 2 ^ k = 0) (hb : b < 2 ^ k) : bits .or .i64 a b = a + b := by
  obtain ⟨A, rfl⟩ := Int.eq_ofNat_of_zero_le h0.1
  obtain ⟨B, rfl⟩ := Int.eq_ofNat_of_zero_le h1
  have e : (2 : Int) ^ k = ((2 ^ k : Nat) : Int) := by simp
  have hle : 2 ^ k ≤ 2 ^ 62 := Nat.pow_le_pow_right (by decide) hk
  rw [e] at ha hb
  rw [or64_nat A B (by omega) (by omega), nat_or_add A B k (by omega) (by omega)]
  rfl

/-- What the bits of N are, by the kind. -/
def nOf (k w : Int) : Int :=
  if k = 73 then sgn (w / 1048576 % 4096) 2048
  else if k = 72 then w / 1048576 % 64
  else if k = 83 then sgn (w / 33554432 % 128 * 32 + w / 128 % 32) 2048
  else if k = 66 then sgn (w / 2147483648 % 2 * 4096 + w / 128 % 2 * 2048 + w / 33554432 % 64 * 32 + w / 256 % 16 * 2) 4096
  else if k = 85 then sgn (w / 4096 % 1048576 * 4096) 2147483648
  else if k = 74 then sgn (w / 2147483648 % 2 * 1048576 + w / 4096 % 256 * 4096 + w / 1048576 % 2 * 2048 + w / 2097152 % 1024 * 2) 1048576
  else 0
def rdOf (k w : Int) : Int := if k = 82 ∨ k = 73 ∨ k = 72 ∨ k = 85 ∨ k = 74 then w / 128 % 32 else 0
def raOf (k w : Int) : Int := if k = 82 ∨ k = 73 ∨ k = 72 ∨ k = 83 ∨ k = 66 then w / 32768 % 32 else 0
def rbOf (k w : Int) : Int := if k = 82 ∨ k = 83 ∨ k = 66 then w / 1048576 % 32 else 0
theorem ret_inst {a b c d e a' b' c' d' e' : Int} (h1 : a = a') (h2 : b = b') (h3 : c = c') (h4 : d = d') (h5 : e = e') : Ending.returned (inst a b c d e) = .returned (inst a' b' c' d' e') := by
  rw [h1, h2, h3, h4, h5]
set_option maxRecDepth 100000 in
set_option maxHeartbeats 400000 in
theorem with_R (w op l m h : Int) (W : World) (hx : 0 ≤ w ∧ w < 4294967296) (h1 : 1 ≤ op) (h2 : op ≤ 31) (hf : FormAt W op 82 l m h) :
    Calls Tryd.prog 36 #[.int .u32 w, .int .i64 op] W fun e W' => e = .returned (inst op (rdOf 82 w) (raOf 82 w) (rbOf 82 w) (nOf 82 w)) ∧ Grown W W' := by
  obtain ⟨c0, c1, c2, c3⟩ := hf
  have hz := zero_lt c0
  have hp := past
  clear c1 c2 c3
  go_enter Tryd.func36, Tryd.ntmps36
  go_wp2_with (first | (go_at_call_of 54 (Value.int IntKind.i64 15); refine (bits_15_5 _ hx _).mono ?_; rintro e _ ⟨rfl, nq, rfl⟩) | (go_at_call_of 54 (Value.int IntKind.i64 20); refine (bits_20_5 _ hx _).mono ?_; rintro e _ ⟨rfl, nq, rfl⟩) | (go_at_call_of 54 (Value.int IntKind.i64 5); refine (bits_7_5 _ hx _).mono ?_; rintro e _ ⟨rfl, nq, rfl⟩))
  all_goals
    refine bodyPost_ret (v := inst op _ _ _ _) (by simp [results, Tryd.results36, go_sem]; exact ⟨rfl, rfl, rfl, rfl⟩) rfl ⟨ret_inst rfl ?_ ?_ ?_ ?_, ?_⟩
    · simp [rdOf]
    · simp [raOf]
    · simp [rbOf]
    · simp [nOf]
    · repeat (first | (with_reducible refine Grown.setCell ?_ (by first | exact Nat.le_add_right _ _ | exact Nat.le_refl _) _) | with_reducible apply Grown.alloc | with_reducible apply grown_drewN | with_reducible apply Grown.drew | with_reducible exact Grown.refl _)
set_option maxRecDepth 100000 in
set_option maxHeartbeats 400000 in
theorem with_I (w op l m h : Int) (W : World) (hx : 0 ≤ w ∧ w < 4294967296) (h1 : 1 ≤ op) (h2 : op ≤ 31) (hf : FormAt W op 73 l m h) :
    Calls Tryd.prog 36 #[.int .u32 w, .int .i64 op] W fun e W' => e = .returned (inst op (rdOf 73 w) (raOf 73 w) (rbOf 73 w) (nOf 73 w)) ∧ Grown W W' := by
  obtain ⟨c0, c1, c2, c3⟩ := hf
  have hz := zero_lt c0
  have hp := past
  clear c1 c2 c3
  go_enter Tryd.func36, Tryd.ntmps36
  go_wp2_with (first | (go_at_call_of 54 (Value.int IntKind.i64 12); refine (bits_20_12 _ hx _).mono ?_; rintro e _ ⟨rfl, nq, rfl⟩) | (go_at_call_of 54 (Value.int IntKind.i64 15); refine (bits_15_5 _ hx _).mono ?_; rintro e _ ⟨rfl, nq, rfl⟩) | (go_at_call_of 54 (Value.int IntKind.i64 20); refine (bits_20_5 _ hx _).mono ?_; rintro e _ ⟨rfl, nq, rfl⟩) | (go_at_call_of 54 (Value.int IntKind.i64 5); refine (bits_7_5 _ hx _).mono ?_; rintro e _ ⟨rfl, nq, rfl⟩) | (go_at_call 55; refine (sign_12 _ (by omega) _).mono ?_; rintro e _ ⟨rfl, rfl⟩))
  all_goals
    refine bodyPost_ret (v := inst op _ _ _ _) (by simp [results, Tryd.results36, go_sem]; exact ⟨rfl, rfl, rfl, rfl⟩) rfl ⟨ret_inst rfl ?_ ?_ ?_ ?_, ?_⟩
    · simp [rdOf]
    · simp [raOf]
    · simp [rbOf]
    · simp [nOf]
    · repeat (first | (with_reducible refine Grown.setCell ?_ (by first | exact Nat.le_add_right _ _ | exact Nat.le_refl _) _) | with_reducible apply Grown.alloc | with_reducible apply grown_drewN | with_reducible apply Grown.drew | with_reducible exact Grown.refl _)
set_option maxRecDepth 100000 in
set_option maxHeartbeats 400000 in
theorem with_H (w op l m h : Int) (W : World) (hx : 0 ≤ w ∧ w < 4294967296) (h1 : 1 ≤ op) (h2 : op ≤ 31) (hf : FormAt W op 72 l m h) :
    Calls Tryd.prog 36 #[.int .u32 w, .int .i64 op] W fun e W' => e = .returned (inst op (rdOf 72 w) (raOf 72 w) (rbOf 72 w) (nOf 72 w)) ∧ Grown W W' := by
  obtain ⟨c0, c1, c2, c3⟩ := hf
  have hz := zero_lt c0
  have hp := past
  clear c1 c2 c3
  go_enter Tryd.func36, Tryd.ntmps36
  go_wp2_with (first | (go_at_call_of 54 (Value.int IntKind.i64 6); refine (bits_20_6 _ hx _).mono ?_; rintro e _ ⟨rfl, nq, rfl⟩) | (go_at_call_of 54 (Value.int IntKind.i64 15); refine (bits_15_5 _ hx _).mono ?_; rintro e _ ⟨rfl, nq, rfl⟩) | (go_at_call_of 54 (Value.int IntKind.i64 20); refine (bits_20_5 _ hx _).mono ?_; rintro e _ ⟨rfl, nq, rfl⟩) | (go_at_call_of 54 (Value.int IntKind.i64 5); refine (bits_7_5 _ hx _).mono ?_; rintro e _ ⟨rfl, nq, rfl⟩))
  all_goals
    refine bodyPost_ret (v := inst op _ _ _ _) (by simp [results, Tryd.results36, go_sem]; exact ⟨rfl, rfl, rfl, rfl⟩) rfl ⟨ret_inst rfl ?_ ?_ ?_ ?_, ?_⟩
    · simp [rdOf]
    · simp [raOf]
    · simp [rbOf]
    · simp [nOf]
    · repeat (first | (with_reducible refine Grown.setCell ?_ (by first | exact Nat.le_add_right _ _ | exact Nat.le_refl _) _) | with_reducible apply Grown.alloc | with_reducible apply grown_drewN | with_reducible apply Grown.drew | with_reducible exact Grown.refl _)
set_option maxRecDepth 100000 in
set_option maxHeartbeats 400000 in
theorem with_S (w op l m h : Int) (W : World) (hx : 0 ≤ w ∧ w < 4294967296) (h1 : 1 ≤ op) (h2 : op ≤ 31) (hf : FormAt W op 83 l m h) :
    Calls Tryd.prog 36 #[.int .u32 w, .int .i64 op] W fun e W' => e = .returned (inst op (rdOf 83 w) (raOf 83 w) (rbOf 83 w) (nOf 83 w)) ∧ Grown W W' := by
  obtain ⟨c0, c1, c2, c3⟩ := hf
  have hz := zero_lt c0
  have hp := past
  clear c1 c2 c3
  have o0 : bits .or .i64 (w / 33554432 % 128 * 32) (w / 128 % 32) = w / 33554432 % 128 * 32 + w / 128 % 32 := or64 _ _ 5 (by omega) (by omega) (by decide) (by omega) (by omega)
  go_enter Tryd.func36, Tryd.ntmps36
  go_wp2_with (first | (go_at_call_of 54 (Value.int IntKind.i64 25); refine (bits_25_7 _ hx _).mono ?_; rintro e _ ⟨rfl, nq, rfl⟩) | (go_at_call_of 54 (Value.int IntKind.i64 15); refine (bits_15_5 _ hx _).mono ?_; rintro e _ ⟨rfl, nq, rfl⟩) | (go_at_call_of 54 (Value.int IntKind.i64 20); refine (bits_20_5 _ hx _).mono ?_; rintro e _ ⟨rfl, nq, rfl⟩) | (go_at_call_of 54 (Value.int IntKind.i64 5); refine (bits_7_5 _ hx _).mono ?_; rintro e _ ⟨rfl, nq, rfl⟩) | (go_at_call 55; refine (sign_12 _ (by omega) _).mono ?_; rintro e _ ⟨rfl, rfl⟩))
  all_goals
    refine bodyPost_ret (v := inst op _ _ _ _) (by simp [results, Tryd.results36, go_sem]; exact ⟨rfl, rfl, rfl, rfl⟩) rfl ⟨ret_inst rfl ?_ ?_ ?_ ?_, ?_⟩
    · simp [rdOf]
    · simp [raOf]
    · simp [rbOf]
    · simp [nOf]
    · repeat (first | (with_reducible refine Grown.setCell ?_ (by first | exact Nat.le_add_right _ _ | exact Nat.le_refl _) _) | with_reducible apply Grown.alloc | with_reducible apply grown_drewN | with_reducible apply Grown.drew | with_reducible exact Grown.refl _)
set_option maxRecDepth 100000 in
set_option maxHeartbeats 400000 in
theorem with_B (w op l m h : Int) (W : World) (hx : 0 ≤ w ∧ w < 4294967296) (h1 : 1 ≤ op) (h2 : op ≤ 31) (hf : FormAt W op 66 l m h) :
    Calls Tryd.prog 36 #[.int .u32 w, .int .i64 op] W fun e W' => e = .returned (inst op (rdOf 66 w) (raOf 66 w) (rbOf 66 w) (nOf 66 w)) ∧ Grown W W' := by
  obtain ⟨c0, c1, c2, c3⟩ := hf
  have hz := zero_lt c0
  have hp := past
  clear c1 c2 c3
  have o0 : bits .or .i64 (w / 2147483648 % 2 * 4096) (w / 128 % 2 * 2048) = w / 2147483648 % 2 * 4096 + w / 128 % 2 * 2048 := or64 _ _ 12 (by omega) (by omega) (by decide) (by omega) (by omega)
  have o1 : bits .or .i64 (w / 2147483648 % 2 * 4096 + w / 128 % 2 * 2048) (w / 33554432 % 64 * 32) = w / 2147483648 % 2 * 4096 + w / 128 % 2 * 2048 + w / 33554432 % 64 * 32 := or64 _ _ 11 (by omega) (by omega) (by decide) (by omega) (by omega)
  have o2 : bits .or .i64 (w / 2147483648 % 2 * 4096 + w / 128 % 2 * 2048 + w / 33554432 % 64 * 32) (w / 256 % 16 * 2) = w / 2147483648 % 2 * 4096 + w / 128 % 2 * 2048 + w / 33554432 % 64 * 32 + w / 256 % 16 * 2 := or64 _ _ 5 (by omega) (by omega) (by decide) (by omega) (by omega)
  go_enter Tryd.func36, Tryd.ntmps36
  go_wp2_with (first | (go_at_call_of 54 (Value.int IntKind.i64 31); refine (bits_31_1 _ hx _).mono ?_; rintro e _ ⟨rfl, nq, rfl⟩) | (go_at_call_of 54 (Value.int IntKind.i64 25); refine (bits_25_6 _ hx _).mono ?_; rintro e _ ⟨rfl, nq, rfl⟩) | (go_at_call_of 54 (Value.int IntKind.i64 8); refine (bits_8_4 _ hx _).mono ?_; rintro e _ ⟨rfl, nq, rfl⟩) | (go_at_call_of 54 (Value.int IntKind.i64 15); refine (bits_15_5 _ hx _).mono ?_; rintro e _ ⟨rfl, nq, rfl⟩) | (go_at_call_of 54 (Value.int IntKind.i64 20); refine (bits_20_5 _ hx _).mono ?_; rintro e _ ⟨rfl, nq, rfl⟩) | (go_at_call_of 54 (Value.int IntKind.i64 1); refine (bits_7_1 _ hx _).mono ?_; rintro e _ ⟨rfl, nq, rfl⟩) | (go_at_call_of 54 (Value.int IntKind.i64 5); refine (bits_7_5 _ hx _).mono ?_; rintro e _ ⟨rfl, nq, rfl⟩) | (go_at_call 55; refine (sign_13 _ (by omega) _).mono ?_; rintro e _ ⟨rfl, rfl⟩))
  all_goals
    refine bodyPost_ret (v := inst op _ _ _ _) (by simp [results, Tryd.results36, go_sem]; exact ⟨rfl, rfl, rfl, rfl⟩) rfl ⟨ret_inst rfl ?_ ?_ ?_ ?_, ?_⟩
    · simp [rdOf]
    · simp [raOf]
    · simp [rbOf]
    · simp [nOf]
    · repeat (first | (with_reducible refine Grown.setCell ?_ (by first | exact Nat.le_add_right _ _ | exact Nat.le_refl _) _) | with_reducible apply Grown.alloc | with_reducible apply grown_drewN | with_reducible apply Grown.drew | with_reducible exact Grown.refl _)
set_option maxRecDepth 100000 in
set_option maxHeartbeats 400000 in
theorem with_U (w op l m h : Int) (W : World) (hx : 0 ≤ w ∧ w < 4294967296) (h1 : 1 ≤ op) (h2 : op ≤ 31) (hf : FormAt W op 85 l m h) :
    Calls Tryd.prog 36 #[.int .u32 w, .int .i64 op] W fun e W' => e = .returned (inst op (rdOf 85 w) (raOf 85 w) (rbOf 85 w) (nOf 85 w)) ∧ Grown W W' := by
  obtain ⟨c0, c1, c2, c3⟩ := hf
  have hz := zero_lt c0
  have hp := past
  clear c1 c2 c3
  go_enter Tryd.func36, Tryd.ntmps36
  go_wp2_with (first | (go_at_call_of 54 (Value.int IntKind.i64 12); refine (bits_12_20 _ hx _).mono ?_; rintro e _ ⟨rfl, nq, rfl⟩) | (go_at_call_of 54 (Value.int IntKind.i64 15); refine (bits_15_5 _ hx _).mono ?_; rintro e _ ⟨rfl, nq, rfl⟩) | (go_at_call_of 54 (Value.int IntKind.i64 20); refine (bits_20_5 _ hx _).mono ?_; rintro e _ ⟨rfl, nq, rfl⟩) | (go_at_call_of 54 (Value.int IntKind.i64 5); refine (bits_7_5 _ hx _).mono ?_; rintro e _ ⟨rfl, nq, rfl⟩) | (go_at_call 55; refine (sign_32 _ (by omega) _).mono ?_; rintro e _ ⟨rfl, rfl⟩))
  all_goals
    refine bodyPost_ret (v := inst op _ _ _ _) (by simp [results, Tryd.results36, go_sem]; exact ⟨rfl, rfl, rfl, rfl⟩) rfl ⟨ret_inst rfl ?_ ?_ ?_ ?_, ?_⟩
    · simp [rdOf]
    · simp [raOf]
    · simp [rbOf]
    · simp [nOf]
    · repeat (first | (with_reducible refine Grown.setCell ?_ (by first | exact Nat.le_add_right _ _ | exact Nat.le_refl _) _) | with_reducible apply Grown.alloc | with_reducible apply grown_drewN | with_reducible apply Grown.drew | with_reducible exact Grown.refl _)
set_option maxRecDepth 100000 in
set_option maxHeartbeats 400000 in
theorem with_J (w op l m h : Int) (W : World) (hx : 0 ≤ w ∧ w < 4294967296) (h1 : 1 ≤ op) (h2 : op ≤ 31) (hf : FormAt W op 74 l m h) :
    Calls Tryd.prog 36 #[.int .u32 w, .int .i64 op] W fun e W' => e = .returned (inst op (rdOf 74 w) (raOf 74 w) (rbOf 74 w) (nOf 74 w)) ∧ Grown W W' := by
  obtain ⟨c0, c1, c2, c3⟩ := hf
  have hz := zero_lt c0
  have hp := past
  clear c1 c2 c3
  have o0 : bits .or .i64 (w / 2147483648 % 2 * 1048576) (w / 4096 % 256 * 4096) = w / 2147483648 % 2 * 1048576 + w / 4096 % 256 * 4096 := or64 _ _ 20 (by omega) (by omega) (by decide) (by omega) (by omega)
  have o1 : bits .or .i64 (w / 2147483648 % 2 * 1048576 + w / 4096 % 256 * 4096) (w / 1048576 % 2 * 2048) = w / 2147483648 % 2 * 1048576 + w / 4096 % 256 * 4096 + w / 1048576 % 2 * 2048 := or64 _ _ 12 (by omega) (by omega) (by decide) (by omega) (by omega)
  have o2 : bits .or .i64 (w / 2147483648 % 2 * 1048576 + w / 4096 % 256 * 4096 + w / 1048576 % 2 * 2048) (w / 2097152 % 1024 * 2) = w / 2147483648 % 2 * 1048576 + w / 4096 % 256 * 4096 + w / 1048576 % 2 * 2048 + w / 2097152 % 1024 * 2 := or64 _ _ 11 (by omega) (by omega) (by decide) (by omega) (by omega)
  go_enter Tryd.func36, Tryd.ntmps36
  go_wp2_with (first | (go_at_call_of 54 (Value.int IntKind.i64 31); refine (bits_31_1 _ hx _).mono ?_; rintro e _ ⟨rfl, nq, rfl⟩) | (go_at_call_of 54 (Value.int IntKind.i64 8); refine (bits_12_8 _ hx _).mono ?_; rintro e _ ⟨rfl, nq, rfl⟩) | (go_at_call_of 54 (Value.int IntKind.i64 10); refine (bits_21_10 _ hx _).mono ?_; rintro e _ ⟨rfl, nq, rfl⟩) | (go_at_call_of 54 (Value.int IntKind.i64 15); refine (bits_15_5 _ hx _).mono ?_; rintro e _ ⟨rfl, nq, rfl⟩) | (go_at_call_of 54 (Value.int IntKind.i64 1); refine (bits_20_1 _ hx _).mono ?_; rintro e _ ⟨rfl, nq, rfl⟩) | (go_at_call_of 54 (Value.int IntKind.i64 20); refine (bits_20_5 _ hx _).mono ?_; rintro e _ ⟨rfl, nq, rfl⟩) | (go_at_call_of 54 (Value.int IntKind.i64 5); refine (bits_7_5 _ hx _).mono ?_; rintro e _ ⟨rfl, nq, rfl⟩) | (go_at_call 55; refine (sign_21 _ (by omega) _).mono ?_; rintro e _ ⟨rfl, rfl⟩))
  all_goals
    refine bodyPost_ret (v := inst op _ _ _ _) (by simp [results, Tryd.results36, go_sem]; exact ⟨rfl, rfl, rfl, rfl⟩) rfl ⟨ret_inst rfl ?_ ?_ ?_ ?_, ?_⟩
    · simp [rdOf]
    · simp [raOf]
    · simp [rbOf]
    · simp [nOf]
    · repeat (first | (with_reducible refine Grown.setCell ?_ (by first | exact Nat.le_add_right _ _ | exact Nat.le_refl _) _) | with_reducible apply Grown.alloc | with_reducible apply grown_drewN | with_reducible apply Grown.drew | with_reducible exact Grown.refl _)
set_option maxRecDepth 100000 in
set_option maxHeartbeats 400000 in
theorem with_E (w op l m h : Int) (W : World) (hx : 0 ≤ w ∧ w < 4294967296) (h1 : 1 ≤ op) (h2 : op ≤ 31) (hf : FormAt W op 69 l m h) :
    Calls Tryd.prog 36 #[.int .u32 w, .int .i64 op] W fun e W' => e = .returned (inst op (rdOf 69 w) (raOf 69 w) (rbOf 69 w) (nOf 69 w)) ∧ Grown W W' := by
  obtain ⟨c0, c1, c2, c3⟩ := hf
  have hz := zero_lt c0
  have hp := past
  clear c1 c2 c3
  go_enter Tryd.func36, Tryd.ntmps36
  go_wp2_with (first | (go_at_call_of 54 (Value.int IntKind.i64 15); refine (bits_15_5 _ hx _).mono ?_; rintro e _ ⟨rfl, nq, rfl⟩) | (go_at_call_of 54 (Value.int IntKind.i64 20); refine (bits_20_5 _ hx _).mono ?_; rintro e _ ⟨rfl, nq, rfl⟩) | (go_at_call_of 54 (Value.int IntKind.i64 5); refine (bits_7_5 _ hx _).mono ?_; rintro e _ ⟨rfl, nq, rfl⟩))
  all_goals
    refine bodyPost_ret (v := inst op _ _ _ _) (by simp [results, Tryd.results36, go_sem]; exact ⟨rfl, rfl, rfl, rfl⟩) rfl ⟨ret_inst rfl ?_ ?_ ?_ ?_, ?_⟩
    · simp [rdOf]
    · simp [raOf]
    · simp [rbOf]
    · simp [nOf]
    · repeat (first | (with_reducible refine Grown.setCell ?_ (by first | exact Nat.le_add_right _ _ | exact Nat.le_refl _) _) | with_reducible apply Grown.alloc | with_reducible apply grown_drewN | with_reducible apply Grown.drew | with_reducible exact Grown.refl _)
end Go.Proofs.YtgeajgdddjjjnaaDoor.WordP

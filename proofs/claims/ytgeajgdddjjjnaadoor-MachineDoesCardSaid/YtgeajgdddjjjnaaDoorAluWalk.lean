/- What the machine's Alu comes to, whatever op and numbers it is given: a contract of machine.Alu. No conditions. -/
import Derived.Test.YtgeajgdddjjjnaaDoorRows
import Derived.Test.YtgeajgdddjjjnaaDoorAluPlain
import Derived.WalkKit
import Derived.ProofKit
namespace Go.Proofs.YtgeajgdddjjjnaaDoor.AluP
open Go.RowKit
set_option linter.unusedVariables false

theorem shr_run {P : Program} (k k' : IntKind) (x y : Int) (hy : 0 ≤ y) (w : World) :
    Sem.run P (Op.shift .shr k x k' y) w = .ok (.int k (x / 2 ^ (min y.toNat k.bits))) w := by
  have h2 : (0 : Int) ≤ 2 ^ (min y.toNat k.bits) := Int.le_of_lt (Int.pow_pos (by decide))
  simp only [Op.shift, if_neg (Int.not_lt.2 hy), pure, Sem.run, Int.fdiv_eq_ediv_of_nonneg _ h2]
theorem shl_run {P : Program} (k k' : IntKind) (x y : Int) (hy : 0 ≤ y) (w : World) :
    Sem.run P (Op.shift .shl k x k' y) w = .ok (.int k (k.wrap (x * 2 ^ (min y.toNat k.bits)))) w := by
  simp only [Op.shift, if_neg (Int.not_lt.2 hy), pure, Sem.run]
theorem and63 (b : Int) : bits .and .u64 (IntKind.u64.wrap b) 63 = b % 64 := by
  have h1 : (BitVec.ofInt 64 (IntKind.u64.wrap b) &&& BitVec.ofInt 64 63).toNat = (b % 64).toNat := by
    rw [BitVec.toNat_and]
    have : (BitVec.ofInt 64 63).toNat = 2 ^ 6 - 1 := by decide
    rw [this, Nat.and_two_pow_sub_one_eq_mod, BitVec.toNat_ofInt, IntKind.wrap_u64]
    omega
  show IntKind.u64.wrap ((BitVec.ofInt 64 (IntKind.u64.wrap b) &&& BitVec.ofInt 64 63).toNat : Int) = _
  rw [h1, IntKind.wrap_u64]
  omega
theorem sh_min (b : Int) : min (b % 64).toNat (IntKind.i64.bits) = sh b := by
  unfold sh; have : IntKind.i64.bits = 64 := rfl; omega
theorem sh_minu (b : Int) : min (b % 64).toNat (IntKind.u64.bits) = sh b := by
  unfold sh; have : IntKind.u64.bits = 64 := rfl; omega
theorem go_shl (P : Program) (k' : IntKind) (a b : Int) (w : World) :
    Sem.run P (Op.shift .shl .i64 a k' (bits .and .u64 (IntKind.u64.wrap b) 63)) w = .ok (.int .i64 (IntKind.i64.wrap (a * 2 ^ sh b))) w := by
  rw [and63, shl_run _ _ _ _ (by omega), sh_min]
theorem go_sra (P : Program) (k' : IntKind) (a b : Int) (w : World) :
    Sem.run P (Op.shift .shr .i64 a k' (bits .and .u64 (IntKind.u64.wrap b) 63)) w = .ok (.int .i64 (a / 2 ^ sh b)) w := by
  rw [and63, shr_run _ _ _ _ (by omega), sh_min]
theorem go_srl (P : Program) (k' : IntKind) (a b : Int) (w : World) :
    Sem.run P (Op.shift .shr .u64 a k' (bits .and .u64 (IntKind.u64.wrap b) 63)) w = .ok (.int .u64 (a / 2 ^ sh b)) w := by
  rw [and63, shr_run _ _ _ _ (by omega), sh_minu]

theorem ret_int {k : IntKind} {a b : Int} (h : a = b) : Ending.returned (.int k a) = .returned (.int k b) := by rw [h]
theorem op_cases (op : Int) : op = 1 ∨ op = 2 ∨ op = 3 ∨ op = 4 ∨ op = 5 ∨ op = 6 ∨ op = 7 ∨ op = 8 ∨ op = 9 ∨ op = 10 ∨ op = 11 ∨ op = 12 ∨ op = 13 ∨ op = 14 ∨ op = 15 ∨ op = 16 ∨ op = 17 ∨ op = 18 ∨ op = 19 ∨ op = 20 ∨ op = 21 ∨
    ((op == 1) = false ∧ (op == 2) = false ∧ (op == 3) = false ∧ (op == 4) = false ∧ (op == 5) = false ∧ (op == 6) = false ∧ (op == 7) = false ∧ (op == 8) = false ∧ (op == 9) = false ∧ (op == 10) = false ∧ (op == 11) = false ∧ (op == 12) = false ∧ (op == 13) = false ∧ (op == 14) = false ∧ (op == 15) = false ∧ (op == 16) = false ∧ (op == 17) = false ∧ (op == 18) = false ∧ (op == 19) = false ∧ (op == 20) = false ∧ (op == 21) = false) := by
  simp only [beq_eq_false_iff_ne]; omega

set_option maxRecDepth 100000 in
set_option maxHeartbeats 4000000 in
theorem alu_any (op a b : Int) (w : World) :
    Calls Tryd.prog 56 #[.int .i64 op, .int .i64 a, .int .i64 b] w fun e w' => e = .returned (.int .i64 (alu op a b)) ∧ w = w' := by
  have s1 := go_shl Tryd.prog .u64 a b w
  have s2 := go_sra Tryd.prog .u64 a b w
  have s3 := go_srl Tryd.prog .u64 (IntKind.u64.wrap a) b w
  rcases op_cases op with rfl | rfl | rfl | rfl | rfl | rfl | rfl | rfl | rfl | rfl | rfl | rfl | rfl | rfl | rfl | rfl | rfl | rfl | rfl | rfl | rfl | h
  case inr.inr.inr.inr.inr.inr.inr.inr.inr.inr.inr.inr.inr.inr.inr.inr.inr.inr.inr.inr.inr =>
    obtain ⟨h1, h2, h3, h4, h5, h6, h7, h8, h9, h10, h11, h12, h13, h14, h15, h16, h17, h18, h19, h20, h21⟩ := h
    go_enter Tryd.func56, Tryd.ntmps56
    go_wp2
    go_ret
    refine ⟨ret_int ?_, rfl⟩
    simp only [beq_eq_false_iff_ne] at h1 h2 h3 h4 h5 h6 h7 h8 h9 h10 h11 h12 h13 h14 h15 h16 h17 h18 h19 h20 h21
    simp [alu, h1, h2, h3, h4, h5, h6, h7, h8, h9, h10, h11, h12, h13, h14, h15, h16, h17, h18, h19, h20, h21]
  case inr.inr.inr.inl =>
    by_cases hz : b = 0
    · subst hz
      go_enter Tryd.func56, Tryd.ntmps56
      go_wp2
      go_ret
      exact ⟨ret_int (by simp [alu]), rfl⟩
    · have hz' : (b == 0) = false := by simpa using hz
      go_enter Tryd.func56, Tryd.ntmps56
      go_wp2
      go_ret
      exact ⟨ret_int (by simp [alu, hz, IntWalk.i64_left]), rfl⟩
  case inr.inr.inr.inr.inl =>
    by_cases hz : b = 0
    · subst hz
      go_enter Tryd.func56, Tryd.ntmps56
      go_wp2
      go_ret
      exact ⟨ret_int (by simp [alu]), rfl⟩
    · have hz' : (b == 0) = false := by simpa using hz
      go_enter Tryd.func56, Tryd.ntmps56
      go_wp2
      go_ret
      exact ⟨ret_int (by simp [alu, hz]), rfl⟩
  all_goals
    go_enter Tryd.func56, Tryd.ntmps56
    go_wp2
    all_goals go_ret
    all_goals refine ⟨ret_int ?_, rfl⟩
    all_goals first
      | (simp [alu, IntWalk.i64_left]; done)
      | (have hx := ‹a < b›; simp [alu, hx]; done)
      | (have hx := Int.not_lt.2 ‹b ≤ a›; simp [alu, hx]; done)
      | (have hx := ‹IntKind.u64.wrap a < IntKind.u64.wrap b›; simp [alu, hx]; done)
      | (have hx := Int.not_lt.2 ‹IntKind.u64.wrap b ≤ IntKind.u64.wrap a›; simp [alu, hx]; done)
end Go.Proofs.YtgeajgdddjjjnaaDoor.AluP

/- What the document's Alu and Quo come to, whatever op and numbers they are given: contracts of bloomeryref.Quo and bloomeryref.Alu. Conditions: the numbers have 64 bits. -/
import Derived.Test.YtgeajgdddjjjnaaDoorRows
import Derived.Test.YtgeajgdddjjjnaaDoorAluPlain
import Derived.Test.YtgeajgdddjjjnaaDoorAluWalk
import Derived.WalkKit
import Derived.ProofKit
import Derived.Deep.QuietTactic
import Derived.BigQuiet
import Derived.Lib.Hide
namespace Go.Proofs.YtgeajgdddjjjnaaDoor.AluP
open Go.RowKit
set_option linter.unusedVariables false

def Drew (w w' : World) : Prop := ∃ n, w' = w.drewN n
theorem Drew.refl (w : World) : Drew w w := ⟨0, rfl⟩
theorem Drew.mk (w : World) (n : Nat) : Drew w (w.drewN n) := ⟨n, rfl⟩
theorem ret_two {k k' : IntKind} {a b a' b' : Int} (h : a = b) (h' : a' = b') : Ending.returned (.tuple #[.int k a, .int k' a']) = .returned (.tuple #[.int k b, .int k' b']) := by rw [h, h']

theorem ab_ne (b : Int) (hb : I64 b) (h : ¬ b = 0) : ¬ ab b = 0 := by rw [ab_eq b hb]; omega
theorem quo_zero (a : Int) (w : World) :
    Calls Tryd.prog 65 #[.int .i64 a, .int .i64 0] w fun e w' => e = .returned (.tuple #[.int .i64 (-1), .int .i64 a]) ∧ Drew w w' := by
  go_enter Tryd.func65, Tryd.ntmps65
  go_wp2
  go_ret2
  exact ⟨rfl, Drew.refl _⟩
set_option maxRecDepth 100000 in
set_option maxHeartbeats 4000000 in
theorem quo_any (a b : Int) (ha : I64 a) (hb : I64 b) (h : ¬ b = 0) (w : World) :
    Calls Tryd.prog 65 #[.int .i64 a, .int .i64 b] w fun e w' => e = .returned (.tuple #[.int .i64 (qq a b), .int .i64 (rr a b)]) ∧ Drew w w' := by
  have hz : (b == 0) = false := by simpa using h
  have hy := ab_ne b hb h
  clear ha hb h
  unfold ab at hy
  by_cases h1 : a < 0 <;> by_cases h2 : b < 0 <;> simp only [h2, if_true, if_false] at hy
  all_goals
    first | (have d1 : decide (a < 0) = true := decide_eq_true h1) | (have d1 : decide (a < 0) = false := decide_eq_false h1)
    first | (have d2 : decide (b < 0) = true := decide_eq_true h2) | (have d2 : decide (b < 0) = false := decide_eq_false h2)
    go_enter Tryd.func65, Tryd.ntmps65
    go_wp2
    go_quiet (fail)
    go_wp2
    go_ret2
    refine ⟨ret_two ?_ ?_, Drew.mk _ _⟩
    · simp only [qq, ab, d1, d2, IntWalk.i64_left, bne_self_eq_false, Bool.true_bne, Bool.false_bne, Bool.not_false, if_true, Bool.false_eq_true, if_false]
      (repeat' split) <;> first | rfl | (exfalso; omega)
    · simp only [rr, ab, IntWalk.i64_left]
      (repeat' split) <;> first | rfl | (exfalso; omega)

theorem tmod64 (b : Int) : (IntKind.u64.wrap b).tmod 64 = ((sh b : Nat) : Int) := by
  unfold sh
  rw [IntKind.wrap_u64, Int.tmod_eq_emod_of_nonneg (by omega)]; omega
theorem rshr_run (P : Program) (k k' : IntKind) (hk : k.bits = 64) (x b : Int) (w : World) :
    Sem.run P (Op.shift .shr k x k' ((sh b : Nat) : Int)) w = .ok (.int k (x / 2 ^ sh b)) w := by
  have := sh_lt b
  rw [shr_run _ _ _ _ (by omega), show min ((sh b : Nat) : Int).toNat k.bits = sh b from by omega]
theorem u64_tonat (x n : Int) (h : x = n) : IntKind.u64.wrap x = IntKind.u64.wrap n := by rw [h]

/-- What the document's op comes to, by its own road. -/
def ralu (op a b : Int) : Int :=
  if op = 4 then (if b = 0 then -1 else qq a b)
  else if op = 5 then (if b = 0 then a else rr a b)
  else if op = 8 ∨ op = 17 then IntKind.i64.wrap (bits .or .i64 a b - bits .and .i64 a b)
  else if op = 11 ∨ op = 19 then dbl (sh b) a
  else if op = 13 ∨ op = 21 then hlv (sh b) a
  else alu op a b
theorem ralu_eq (op a b : Int) (ha : I64 a) (hb : I64 b) : ralu op a b = alu op a b := by
  unfold ralu
  split
  · rename_i h; subst h; simp only [alu]; simp [qq_eq a b ha hb]
  split
  · rename_i h; subst h; simp only [alu]; simp [rr_eq a b ha hb]
  split
  · rename_i h; rw [xor_eq]; rcases h with h | h <;> subst h <;> simp [alu]
  split
  · rename_i h; rw [dbl_eq _ _ ha]; rcases h with h | h <;> subst h <;> simp [alu]
  split
  · rename_i h; rw [hlv_eq]; rcases h with h | h <;> subst h <;> simp [alu]
  rfl

set_option maxRecDepth 100000 in
set_option maxHeartbeats 8000000 in
theorem ralu_any (op a b : Int) (ha : I64 a) (hb : I64 b) (w : World) :
    Calls Tryd.prog 51 #[.int .i64 op, .int .i64 a, .int .i64 b] w fun e w' => e = .returned (.int .i64 (ralu op a b)) ∧ Drew w w' := by
  have s0 := tmod64 b
  have s2 : min (sh b) 64 = sh b := by have := sh_lt b; omega
  rcases op_cases op with rfl | rfl | rfl | rfl | rfl | rfl | rfl | rfl | rfl | rfl | rfl | rfl | rfl | rfl | rfl | rfl | rfl | rfl | rfl | rfl | rfl | h
  case inr.inr.inr.inr.inr.inr.inr.inr.inr.inr.inr.inr.inr.inr.inr.inr.inr.inr.inr.inr.inr =>
    obtain ⟨h1, h2, h3, h4, h5, h6, h7, h8, h9, h10, h11, h12, h13, h14, h15, h16, h17, h18, h19, h20, h21⟩ := h
    go_enter Tryd.func51, Tryd.ntmps51
    go_wp2
    go_ret
    refine ⟨ret_int ?_, Drew.refl _⟩
    simp only [beq_eq_false_iff_ne] at h1 h2 h3 h4 h5 h6 h7 h8 h9 h10 h11 h12 h13 h14 h15 h16 h17 h18 h19 h20 h21
    simp [ralu, alu, h1, h2, h3, h4, h5, h6, h7, h8, h9, h10, h11, h12, h13, h14, h15, h16, h17, h18, h19, h20, h21]
  case inr.inr.inr.inl =>
    by_cases hz : b = 0
    · subst hz
      go_enter Tryd.func51, Tryd.ntmps51
      go_wp2_with (go_at_call 65; refine (quo_zero _ _).mono ?_; rintro e w' ⟨rfl, nq, rfl⟩)
      go_ret
      exact ⟨rfl, Drew.mk _ _⟩
    · go_enter Tryd.func51, Tryd.ntmps51
      go_wp2_with (go_at_call 65; refine (quo_any _ _ ha hb hz _).mono ?_; rintro e w' ⟨rfl, nq, rfl⟩)
      go_ret
      exact ⟨ret_int (by simp [ralu, hz]), Drew.mk _ _⟩
  case inr.inr.inr.inr.inl =>
    by_cases hz : b = 0
    · subst hz
      go_enter Tryd.func51, Tryd.ntmps51
      go_wp2_with (go_at_call 65; refine (quo_zero _ _).mono ?_; rintro e w' ⟨rfl, nq, rfl⟩)
      go_ret
      exact ⟨rfl, Drew.mk _ _⟩
    · go_enter Tryd.func51, Tryd.ntmps51
      go_wp2_with (go_at_call 65; refine (quo_any _ _ ha hb hz _).mono ?_; rintro e w' ⟨rfl, nq, rfl⟩)
      go_ret
      exact ⟨ret_int (by simp [ralu, hz]), Drew.mk _ _⟩
  case inr.inr.inr.inr.inr.inr.inr.inr.inr.inr.inl =>
    have hlt := sh_lt b
    generalize hs : sh b = n at *
    have HS := Lib.hid hs
    clear hs s2
    go_enter Tryd.func51, Tryd.ntmps51
    go_wp2
    go_loop [1, 87] (fun x i => ∃ k : Nat, k ≤ n ∧ i = .int .u64 k ∧ x = .int .i64 (dbl k a)) (fun _ i => n - (intOf i).toNat)
    case atStart => exact ⟨0, Nat.zero_le _, rfl, rfl⟩
    case round =>
      obtain ⟨k, hk, rfl, rfl⟩ := hrel
      by_cases hl : k < n
      · have hd : Hid (dbl (k + 1) a = wrap64 (dbl k a * 2)) := Lib.hid (by rw [dbl_snoc, IntWalk.i64_left])
        go_wp2
        go_round
        case rel => exact ⟨k + 1, by omega, by go_num, by rw [hd.out]⟩
        case measure => simp [intOf]; omega
      · obtain rfl : k = n := by omega
        go_wp2
        go_ret
        exact ⟨ret_int (by simp [ralu, HS.out]), Drew.refl _⟩
  case inr.inr.inr.inr.inr.inr.inr.inr.inr.inr.inr.inr.inr.inr.inr.inr.inr.inr.inl =>
    have hlt := sh_lt b
    generalize hs : sh b = n at *
    have HS := Lib.hid hs
    clear hs s2
    go_enter Tryd.func51, Tryd.ntmps51
    go_wp2
    go_loop [1, 87] (fun x i => ∃ k : Nat, k ≤ n ∧ i = .int .u64 k ∧ x = .int .i64 (dbl k a)) (fun _ i => n - (intOf i).toNat)
    case atStart => exact ⟨0, Nat.zero_le _, rfl, rfl⟩
    case round =>
      obtain ⟨k, hk, rfl, rfl⟩ := hrel
      by_cases hl : k < n
      · have hd : Hid (dbl (k + 1) a = wrap64 (dbl k a * 2)) := Lib.hid (by rw [dbl_snoc, IntWalk.i64_left])
        go_wp2
        go_round
        case rel => exact ⟨k + 1, by omega, by go_num, by rw [hd.out]⟩
        case measure => simp [intOf]; omega
      · obtain rfl : k = n := by omega
        go_wp2
        go_ret
        exact ⟨ret_int (by simp [ralu, HS.out]), Drew.refl _⟩
  case inr.inr.inr.inr.inr.inr.inr.inr.inr.inr.inr.inr.inl =>
    have hlt := sh_lt b
    generalize hs : sh b = n at *
    have HS := Lib.hid hs
    clear hs s2
    go_enter Tryd.func51, Tryd.ntmps51
    go_wp2
    go_loop [1, 105] (fun x i => ∃ k : Nat, k ≤ n ∧ i = .int .u64 k ∧ x = .int .i64 (hlv k a)) (fun _ i => n - (intOf i).toNat)
    case atStart => exact ⟨0, Nat.zero_le _, rfl, rfl⟩
    case round =>
      obtain ⟨k, hk, rfl, rfl⟩ := hrel
      by_cases hl : k < n
      · have hd : Hid (hlv (k + 1) a = wrap64 ((wrap64 (hlv k a - bits .and .i64 (hlv k a) 1)).tdiv 2)) := Lib.hid (by rw [hlv_snoc, ← half _ (hlv_in k a ha), IntWalk.i64_left, IntWalk.i64_left])
        go_wp2
        go_round
        case rel => exact ⟨k + 1, by omega, by go_num, by rw [hd.out]⟩
        case measure => simp [intOf]; omega
      · obtain rfl : k = n := by omega
        go_wp2
        go_ret
        exact ⟨ret_int (by simp [ralu, HS.out]), Drew.refl _⟩
  case inr.inr.inr.inr.inr.inr.inr.inr.inr.inr.inr.inr.inr.inr.inr.inr.inr.inr.inr.inr.inl =>
    have hlt := sh_lt b
    generalize hs : sh b = n at *
    have HS := Lib.hid hs
    clear hs s2
    go_enter Tryd.func51, Tryd.ntmps51
    go_wp2
    go_loop [1, 105] (fun x i => ∃ k : Nat, k ≤ n ∧ i = .int .u64 k ∧ x = .int .i64 (hlv k a)) (fun _ i => n - (intOf i).toNat)
    case atStart => exact ⟨0, Nat.zero_le _, rfl, rfl⟩
    case round =>
      obtain ⟨k, hk, rfl, rfl⟩ := hrel
      by_cases hl : k < n
      · have hd : Hid (hlv (k + 1) a = wrap64 ((wrap64 (hlv k a - bits .and .i64 (hlv k a) 1)).tdiv 2)) := Lib.hid (by rw [hlv_snoc, ← half _ (hlv_in k a ha), IntWalk.i64_left, IntWalk.i64_left])
        go_wp2
        go_round
        case rel => exact ⟨k + 1, by omega, by go_num, by rw [hd.out]⟩
        case measure => simp [intOf]; omega
      · obtain rfl : k = n := by omega
        go_wp2
        go_ret
        exact ⟨ret_int (by simp [ralu, HS.out]), Drew.refl _⟩
  all_goals
    go_enter Tryd.func51, Tryd.ntmps51
    go_wp2
    all_goals go_ret
    all_goals refine ⟨ret_int ?_, Drew.refl _⟩
    all_goals first
      | (simp [ralu, alu, IntWalk.i64_left]; done)
      | (have hx := ‹a < b›; simp [ralu, alu, hx]; done)
      | (have hx := Int.not_lt.2 ‹b ≤ a›; simp [ralu, alu, hx]; done)
      | (have hx := ‹IntKind.u64.wrap a < IntKind.u64.wrap b›; simp [ralu, alu, hx]; done)
      | (have hx := Int.not_lt.2 ‹IntKind.u64.wrap b ≤ IntKind.u64.wrap a›; simp [ralu, alu, hx]; done)
theorem ralu_is (op a b : Int) (ha : I64 a) (hb : I64 b) (w : World) :
    Calls Tryd.prog 51 #[.int .i64 op, .int .i64 a, .int .i64 b] w fun e w' => e = .returned (.int .i64 (alu op a b)) ∧ Drew w w' := by
  rw [← ralu_eq op a b ha hb]; exact ralu_any op a b ha hb w
theorem wf_i64 {a : Int} (h : (Lit.int .i64 a).wf = true) : I64 a := by
  simp only [Lit.wf, IntKind.min, IntKind.max, IntKind.signed, IntKind.bits, Bool.and_eq_true, decide_eq_true_eq, if_true] at h
  unfold I64; omega
end Go.Proofs.YtgeajgdddjjjnaaDoor.AluP

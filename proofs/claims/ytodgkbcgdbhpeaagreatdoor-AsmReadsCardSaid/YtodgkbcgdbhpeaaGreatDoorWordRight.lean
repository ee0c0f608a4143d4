/- Which instructions may be: a contract of word.Right, of any instruction. Conditions: the table of forms lies as the program lays it. -/
import Derived.Test.YtodgkbcgdbhpeaaGreatDoorWord
namespace Go.Proofs.YtodgkbcgdbhpeaaGreatDoor.WordP
set_option linter.unusedSimpArgs false
open Go.RowKit
set_option linter.unusedVariables false

/-- The form of an op as it lies in memory: its kind, its low seven bits, three more, seven more. -/
structure FormAt (w : World) (op k l m h : Int) : Prop where
  c0 : w.cell? ⟨2, op.toNat * 4, none⟩ = some (.int .u8 k)
  c1 : w.cell? ⟨2, op.toNat * 4 + 1, none⟩ = some (.int .u32 l)
  c2 : w.cell? ⟨2, op.toNat * 4 + 2, none⟩ = some (.int .u32 m)
  c3 : w.cell? ⟨2, op.toNat * 4 + 3, none⟩ = some (.int .u32 h)

theorem zero_lt {w : World} {i : Nat} {v : Value} (h : w.cell? ⟨2, i, none⟩ = some v) : 2 < w.heap.size := World.block_lt_of_cell? w _ h
theorem past (W : World) (o : Obj) (i : Nat) (h : 2 < W.heap.size) : (W.alloc o).cell? ⟨2, i, none⟩ = W.cell? ⟨2, i, none⟩ := World.cell?_alloc_past o 2 i h

/-- What else must be, by the kind. -/
def bodyB (k rd ra rb n : Int) : Bool :=
  if k = 82 then n == 0
  else if k = 73 then rb == 0 && fitB n 2048 1
  else if k = 72 then rb == 0 && decide (0 ≤ n) && decide (n < 64)
  else if k = 83 then rd == 0 && fitB n 2048 1
  else if k = 66 then rd == 0 && fitB n 4096 2
  else if k = 85 then ra == 0 && rb == 0 && fitB n 2147483648 4096
  else if k = 74 then ra == 0 && rb == 0 && fitB n 1048576 2
  else rd == 0 && ra == 0 && rb == 0 && n == 0

theorem ret_bool {a b : Bool} (h : a = b) : Ending.returned (.bool a) = .returned (.bool b) := by rw [h]
set_option maxRecDepth 100000 in
set_option maxHeartbeats 1000000 in
theorem right_low (op rd ra rb n k l m h : Int) (w : World) (h1 : op < 1) :
    Calls Tryz.prog 22 #[.agg #[.int .i64 op, .int .i64 rd, .int .i64 ra, .int .i64 rb, .int .i64 n]] w fun e w' => e = .returned (.bool false) ∧ w' = w.alloc (.cells #[.int .i64 op, .int .i64 rd, .int .i64 ra, .int .i64 rb, .int .i64 n] 30) := by
  go_enter Tryz.func22, Tryz.ntmps22
  go_wp2_with (first | (go_at_call 44; refine (register_any _ _).mono ?_; rintro e _ ⟨rfl, rfl⟩) | (go_at_call 45; (first | (with_reducible refine (fits_12 _ _).mono ?_) | (with_reducible refine (fits_13 _ _).mono ?_) | (with_reducible refine (fits_32 _ _).mono ?_) | (with_reducible refine (fits_21 _ _).mono ?_)); rintro e _ ⟨rfl, rfl⟩))
  all_goals
    go_ret
    refine ⟨ret_bool ?_, ?_⟩
    · rfl
    · first | rfl | (simp [*]; done)
set_option maxRecDepth 100000 in
set_option maxHeartbeats 1000000 in
theorem right_high (op rd ra rb n k l m h : Int) (w : World) (h1 : 31 < op) (h2 : 1 ≤ op) :
    Calls Tryz.prog 22 #[.agg #[.int .i64 op, .int .i64 rd, .int .i64 ra, .int .i64 rb, .int .i64 n]] w fun e w' => e = .returned (.bool false) ∧ w' = w.alloc (.cells #[.int .i64 op, .int .i64 rd, .int .i64 ra, .int .i64 rb, .int .i64 n] 30) := by
  go_enter Tryz.func22, Tryz.ntmps22
  go_wp2_with (first | (go_at_call 44; refine (register_any _ _).mono ?_; rintro e _ ⟨rfl, rfl⟩) | (go_at_call 45; (first | (with_reducible refine (fits_12 _ _).mono ?_) | (with_reducible refine (fits_13 _ _).mono ?_) | (with_reducible refine (fits_32 _ _).mono ?_) | (with_reducible refine (fits_21 _ _).mono ?_)); rintro e _ ⟨rfl, rfl⟩))
  all_goals
    go_ret
    refine ⟨ret_bool ?_, ?_⟩
    · rfl
    · first | rfl | (simp [*]; done)
set_option maxRecDepth 100000 in
set_option maxHeartbeats 1000000 in
theorem right_rd (op rd ra rb n k l m h : Int) (w : World) (h1 : 1 ≤ op) (h2 : op ≤ 31) (r1 : regB rd = false) :
    Calls Tryz.prog 22 #[.agg #[.int .i64 op, .int .i64 rd, .int .i64 ra, .int .i64 rb, .int .i64 n]] w fun e w' => e = .returned (.bool false) ∧ w' = w.alloc (.cells #[.int .i64 op, .int .i64 rd, .int .i64 ra, .int .i64 rb, .int .i64 n] 30) := by
  go_enter Tryz.func22, Tryz.ntmps22
  go_wp2_with (first | (go_at_call 44; refine (register_any _ _).mono ?_; rintro e _ ⟨rfl, rfl⟩) | (go_at_call 45; (first | (with_reducible refine (fits_12 _ _).mono ?_) | (with_reducible refine (fits_13 _ _).mono ?_) | (with_reducible refine (fits_32 _ _).mono ?_) | (with_reducible refine (fits_21 _ _).mono ?_)); rintro e _ ⟨rfl, rfl⟩))
  all_goals
    go_ret
    refine ⟨ret_bool ?_, ?_⟩
    · rfl
    · first | rfl | (simp [*]; done)
set_option maxRecDepth 100000 in
set_option maxHeartbeats 1000000 in
theorem right_ra (op rd ra rb n k l m h : Int) (w : World) (h1 : 1 ≤ op) (h2 : op ≤ 31) (r1 : regB rd = true) (r2 : regB ra = false) :
    Calls Tryz.prog 22 #[.agg #[.int .i64 op, .int .i64 rd, .int .i64 ra, .int .i64 rb, .int .i64 n]] w fun e w' => e = .returned (.bool false) ∧ w' = w.alloc (.cells #[.int .i64 op, .int .i64 rd, .int .i64 ra, .int .i64 rb, .int .i64 n] 30) := by
  go_enter Tryz.func22, Tryz.ntmps22
  go_wp2_with (first | (go_at_call 44; refine (register_any _ _).mono ?_; rintro e _ ⟨rfl, rfl⟩) | (go_at_call 45; (first | (with_reducible refine (fits_12 _ _).mono ?_) | (with_reducible refine (fits_13 _ _).mono ?_) | (with_reducible refine (fits_32 _ _).mono ?_) | (with_reducible refine (fits_21 _ _).mono ?_)); rintro e _ ⟨rfl, rfl⟩))
  all_goals
    go_ret
    refine ⟨ret_bool ?_, ?_⟩
    · rfl
    · first | rfl | (simp [*]; done)
set_option maxRecDepth 100000 in
set_option maxHeartbeats 1000000 in
theorem right_rb (op rd ra rb n k l m h : Int) (w : World) (h1 : 1 ≤ op) (h2 : op ≤ 31) (r1 : regB rd = true) (r2 : regB ra = true) (r3 : regB rb = false) :
    Calls Tryz.prog 22 #[.agg #[.int .i64 op, .int .i64 rd, .int .i64 ra, .int .i64 rb, .int .i64 n]] w fun e w' => e = .returned (.bool false) ∧ w' = w.alloc (.cells #[.int .i64 op, .int .i64 rd, .int .i64 ra, .int .i64 rb, .int .i64 n] 30) := by
  go_enter Tryz.func22, Tryz.ntmps22
  go_wp2_with (first | (go_at_call 44; refine (register_any _ _).mono ?_; rintro e _ ⟨rfl, rfl⟩) | (go_at_call 45; (first | (with_reducible refine (fits_12 _ _).mono ?_) | (with_reducible refine (fits_13 _ _).mono ?_) | (with_reducible refine (fits_32 _ _).mono ?_) | (with_reducible refine (fits_21 _ _).mono ?_)); rintro e _ ⟨rfl, rfl⟩))
  all_goals
    go_ret
    refine ⟨ret_bool ?_, ?_⟩
    · rfl
    · first | rfl | (simp [*]; done)
set_option maxRecDepth 100000 in
set_option maxHeartbeats 1000000 in
theorem right_R (op rd ra rb n k l m h : Int) (w : World) (h1 : 1 ≤ op) (h2 : op ≤ 31) (r1 : regB rd = true) (r2 : regB ra = true) (r3 : regB rb = true) (c0 : w.cell? ⟨2, op.toNat * 4, none⟩ = some (.int .u8 82)) :
    Calls Tryz.prog 22 #[.agg #[.int .i64 op, .int .i64 rd, .int .i64 ra, .int .i64 rb, .int .i64 n]] w fun e w' => e = .returned (.bool (bodyB 82 rd ra rb n)) ∧ w' = w.alloc (.cells #[.int .i64 op, .int .i64 rd, .int .i64 ra, .int .i64 rb, .int .i64 n] 30) := by
  have hz := zero_lt c0
  have hp := past
  go_enter Tryz.func22, Tryz.ntmps22
  go_wp2_with (first | (go_at_call 44; refine (register_any _ _).mono ?_; rintro e _ ⟨rfl, rfl⟩) | (go_at_call 45; (first | (with_reducible refine (fits_12 _ _).mono ?_) | (with_reducible refine (fits_13 _ _).mono ?_) | (with_reducible refine (fits_32 _ _).mono ?_) | (with_reducible refine (fits_21 _ _).mono ?_)); rintro e _ ⟨rfl, rfl⟩))
  all_goals
    go_ret
    refine ⟨ret_bool ?_, ?_⟩
    · first | (simp [bodyB]; done) | (simp [bodyB, *]; done) | (simp [bodyB]; omega)
    · first | rfl | (simp [*]; done)
set_option maxRecDepth 100000 in
set_option maxHeartbeats 1000000 in
theorem right_I (op rd ra rb n k l m h : Int) (w : World) (h1 : 1 ≤ op) (h2 : op ≤ 31) (r1 : regB rd = true) (r2 : regB ra = true) (r3 : regB rb = true) (c0 : w.cell? ⟨2, op.toNat * 4, none⟩ = some (.int .u8 73)) :
    Calls Tryz.prog 22 #[.agg #[.int .i64 op, .int .i64 rd, .int .i64 ra, .int .i64 rb, .int .i64 n]] w fun e w' => e = .returned (.bool (bodyB 73 rd ra rb n)) ∧ w' = w.alloc (.cells #[.int .i64 op, .int .i64 rd, .int .i64 ra, .int .i64 rb, .int .i64 n] 30) := by
  have hz := zero_lt c0
  have hp := past
  go_enter Tryz.func22, Tryz.ntmps22
  go_wp2_with (first | (go_at_call 44; refine (register_any _ _).mono ?_; rintro e _ ⟨rfl, rfl⟩) | (go_at_call 45; (first | (with_reducible refine (fits_12 _ _).mono ?_) | (with_reducible refine (fits_13 _ _).mono ?_) | (with_reducible refine (fits_32 _ _).mono ?_) | (with_reducible refine (fits_21 _ _).mono ?_)); rintro e _ ⟨rfl, rfl⟩))
  all_goals
    go_ret
    refine ⟨ret_bool ?_, ?_⟩
    · first | (simp [bodyB]; done) | (simp [bodyB, *]; done) | (simp [bodyB]; omega)
    · first | rfl | (simp [*]; done)
set_option maxRecDepth 100000 in
set_option maxHeartbeats 1000000 in
theorem right_H (op rd ra rb n k l m h : Int) (w : World) (h1 : 1 ≤ op) (h2 : op ≤ 31) (r1 : regB rd = true) (r2 : regB ra = true) (r3 : regB rb = true) (c0 : w.cell? ⟨2, op.toNat * 4, none⟩ = some (.int .u8 72)) :
    Calls Tryz.prog 22 #[.agg #[.int .i64 op, .int .i64 rd, .int .i64 ra, .int .i64 rb, .int .i64 n]] w fun e w' => e = .returned (.bool (bodyB 72 rd ra rb n)) ∧ w' = w.alloc (.cells #[.int .i64 op, .int .i64 rd, .int .i64 ra, .int .i64 rb, .int .i64 n] 30) := by
  have hz := zero_lt c0
  have hp := past
  go_enter Tryz.func22, Tryz.ntmps22
  go_wp2_with (first | (go_at_call 44; refine (register_any _ _).mono ?_; rintro e _ ⟨rfl, rfl⟩) | (go_at_call 45; (first | (with_reducible refine (fits_12 _ _).mono ?_) | (with_reducible refine (fits_13 _ _).mono ?_) | (with_reducible refine (fits_32 _ _).mono ?_) | (with_reducible refine (fits_21 _ _).mono ?_)); rintro e _ ⟨rfl, rfl⟩))
  all_goals
    go_ret
    refine ⟨ret_bool ?_, ?_⟩
    · first | (simp [bodyB]; done) | (simp [bodyB, *]; done) | (simp [bodyB]; omega)
    · first | rfl | (simp [*]; done)
set_option maxRecDepth 100000 in
set_option maxHeartbeats 1000000 in
theorem right_S (op rd ra rb n k l m h : Int) (w : World) (h1 : 1 ≤ op) (h2 : op ≤ 31) (r1 : regB rd = true) (r2 : regB ra = true) (r3 : regB rb = true) (c0 : w.cell? ⟨2, op.toNat * 4, none⟩ = some (.int .u8 83)) :
    Calls Tryz.prog 22 #[.agg #[.int .i64 op, .int .i64 rd, .int .i64 ra, .int .i64 rb, .int .i64 n]] w fun e w' => e = .returned (.bool (bodyB 83 rd ra rb n)) ∧ w' = w.alloc (.cells #[.int .i64 op, .int .i64 rd, .int .i64 ra, .int .i64 rb, .int .i64 n] 30) := by
  have hz := zero_lt c0
  have hp := past
  go_enter Tryz.func22, Tryz.ntmps22
  go_wp2_with (first | (go_at_call 44; refine (register_any _ _).mono ?_; rintro e _ ⟨rfl, rfl⟩) | (go_at_call 45; (first | (with_reducible refine (fits_12 _ _).mono ?_) | (with_reducible refine (fits_13 _ _).mono ?_) | (with_reducible refine (fits_32 _ _).mono ?_) | (with_reducible refine (fits_21 _ _).mono ?_)); rintro e _ ⟨rfl, rfl⟩))
  all_goals
    go_ret
    refine ⟨ret_bool ?_, ?_⟩
    · first | (simp [bodyB]; done) | (simp [bodyB, *]; done) | (simp [bodyB]; omega)
    · first | rfl | (simp [*]; done)
set_option maxRecDepth 100000 in
set_option maxHeartbeats 1000000 in
theorem right_B (op rd ra rb n k l m h : Int) (w : World) (h1 : 1 ≤ op) (h2 : op ≤ 31) (r1 : regB rd = true) (r2 : regB ra = true) (r3 : regB rb = true) (c0 : w.cell? ⟨2, op.toNat * 4, none⟩ = some (.int .u8 66)) :
    Calls Tryz.prog 22 #[.agg #[.int .i64 op, .int .i64 rd, .int .i64 ra, .int .i64 rb, .int .i64 n]] w fun e w' => e = .returned (.bool (bodyB 66 rd ra rb n)) ∧ w' = w.alloc (.cells #[.int .i64 op, .int .i64 rd, .int .i64 ra, .int .i64 rb, .int .i64 n] 30) := by
  have hz := zero_lt c0
  have hp := past
  go_enter Tryz.func22, Tryz.ntmps22
  go_wp2_with (first | (go_at_call 44; refine (register_any _ _).mono ?_; rintro e _ ⟨rfl, rfl⟩) | (go_at_call 45; (first | (with_reducible refine (fits_12 _ _).mono ?_) | (with_reducible refine (fits_13 _ _).mono ?_) | (with_reducible refine (fits_32 _ _).mono ?_) | (with_reducible refine (fits_21 _ _).mono ?_)); rintro e _ ⟨rfl, rfl⟩))
  all_goals
    go_ret
    refine ⟨ret_bool ?_, ?_⟩
    · first | (simp [bodyB]; done) | (simp [bodyB, *]; done) | (simp [bodyB]; omega)
    · first | rfl | (simp [*]; done)
set_option maxRecDepth 100000 in
set_option maxHeartbeats 1000000 in
theorem right_U (op rd ra rb n k l m h : Int) (w : World) (h1 : 1 ≤ op) (h2 : op ≤ 31) (r1 : regB rd = true) (r2 : regB ra = true) (r3 : regB rb = true) (c0 : w.cell? ⟨2, op.toNat * 4, none⟩ = some (.int .u8 85)) :
    Calls Tryz.prog 22 #[.agg #[.int .i64 op, .int .i64 rd, .int .i64 ra, .int .i64 rb, .int .i64 n]] w fun e w' => e = .returned (.bool (bodyB 85 rd ra rb n)) ∧ w' = w.alloc (.cells #[.int .i64 op, .int .i64 rd, .int .i64 ra, .int .i64 rb, .int .i64 n] 30) := by
  have hz := zero_lt c0
  have hp := past
  go_enter Tryz.func22, Tryz.ntmps22
  go_wp2_with (first | (go_at_call 44; refine (register_any _ _).mono ?_; rintro e _ ⟨rfl, rfl⟩) | (go_at_call 45; (first | (with_reducible refine (fits_12 _ _).mono ?_) | (with_reducible refine (fits_13 _ _).mono ?_) | (with_reducible refine (fits_32 _ _).mono ?_) | (with_reducible refine (fits_21 _ _).mono ?_)); rintro e _ ⟨rfl, rfl⟩))
  all_goals
    go_ret
    refine ⟨ret_bool ?_, ?_⟩
    · first | (simp [bodyB]; done) | (simp [bodyB, *]; done) | (simp [bodyB]; omega)
    · first | rfl | (simp [*]; done)
set_option maxRecDepth 100000 in
set_option maxHeartbeats 1000000 in
theorem right_J (op rd ra rb n k l m h : Int) (w : World) (h1 : 1 ≤ op) (h2 : op ≤ 31) (r1 : regB rd = true) (r2 : regB ra = true) (r3 : regB rb = true) (c0 : w.cell? ⟨2, op.toNat * 4, none⟩ = some (.int .u8 74)) :
    Calls Tryz.prog 22 #[.agg #[.int .i64 op, .int .i64 rd, .int .i64 ra, .int .i64 rb, .int .i64 n]] w fun e w' => e = .returned (.bool (bodyB 74 rd ra rb n)) ∧ w' = w.alloc (.cells #[.int .i64 op, .int .i64 rd, .int .i64 ra, .int .i64 rb, .int .i64 n] 30) := by
  have hz := zero_lt c0
  have hp := past
  go_enter Tryz.func22, Tryz.ntmps22
  go_wp2_with (first | (go_at_call 44; refine (register_any _ _).mono ?_; rintro e _ ⟨rfl, rfl⟩) | (go_at_call 45; (first | (with_reducible refine (fits_12 _ _).mono ?_) | (with_reducible refine (fits_13 _ _).mono ?_) | (with_reducible refine (fits_32 _ _).mono ?_) | (with_reducible refine (fits_21 _ _).mono ?_)); rintro e _ ⟨rfl, rfl⟩))
  all_goals
    go_ret
    refine ⟨ret_bool ?_, ?_⟩
    · first | (simp [bodyB]; done) | (simp [bodyB, *]; done) | (simp [bodyB]; omega)
    · first | rfl | (simp [*]; done)
set_option maxRecDepth 100000 in
set_option maxHeartbeats 1000000 in
theorem right_E (op rd ra rb n k l m h : Int) (w : World) (h1 : op = 31) (r1 : regB rd = true) (r2 : regB ra = true) (r3 : regB rb = true) (c0 : w.cell? ⟨2, op.toNat * 4, none⟩ = some (.int .u8 69)) :
    Calls Tryz.prog 22 #[.agg #[.int .i64 op, .int .i64 rd, .int .i64 ra, .int .i64 rb, .int .i64 n]] w fun e w' => e = .returned (.bool (bodyB 69 rd ra rb n)) ∧ w' = w.alloc (.cells #[.int .i64 op, .int .i64 rd, .int .i64 ra, .int .i64 rb, .int .i64 n] 30) := by
  subst h1
  replace c0 : w.cell? ⟨2, 124, none⟩ = some (.int .u8 69) := c0
  have hz := zero_lt c0
  have hp := past
  go_enter Tryz.func22, Tryz.ntmps22
  go_wp2_with (first | (go_at_call 44; refine (register_any _ _).mono ?_; rintro e _ ⟨rfl, rfl⟩) | (go_at_call 45; (first | (with_reducible refine (fits_12 _ _).mono ?_) | (with_reducible refine (fits_13 _ _).mono ?_) | (with_reducible refine (fits_32 _ _).mono ?_) | (with_reducible refine (fits_21 _ _).mono ?_)); rintro e _ ⟨rfl, rfl⟩))
  all_goals
    go_ret
    refine ⟨ret_bool ?_, ?_⟩
    · first | (simp [bodyB]; done) | (simp [bodyB, *]; done)
    · first | rfl | (simp [*]; done)

/-- What may be: of an op with a kind. -/
def rightB (k op rd ra rb n : Int) : Bool := decide (1 ≤ op) && decide (op ≤ 31) && regB rd && regB ra && regB rb && bodyB k rd ra rb n
/-- The kind of an op that is none of the others' is that of the last one alone. -/
def KindOk (op k : Int) : Prop := k = 82 ∨ k = 73 ∨ k = 72 ∨ k = 83 ∨ k = 66 ∨ k = 85 ∨ k = 74 ∨ (k = 69 ∧ op = 31)
theorem right_any (op rd ra rb n k l m h : Int) (w : World) (hf : 1 ≤ op → op ≤ 31 → FormAt w op k l m h ∧ KindOk op k) :
    Calls Tryz.prog 22 #[.agg #[.int .i64 op, .int .i64 rd, .int .i64 ra, .int .i64 rb, .int .i64 n]] w fun e w' => e = .returned (.bool (rightB k op rd ra rb n)) ∧ w' = w.alloc (.cells #[.int .i64 op, .int .i64 rd, .int .i64 ra, .int .i64 rb, .int .i64 n] 30) := by
  by_cases h1 : 1 ≤ op
  case neg => exact (right_low op rd ra rb n k l m h w (by omega)).mono fun e w' ⟨a, b⟩ => ⟨by rw [a]; simp [rightB, h1], b⟩
  by_cases h2 : op ≤ 31
  case neg => exact (right_high op rd ra rb n k l m h w (by omega) h1).mono fun e w' ⟨a, b⟩ => ⟨by rw [a]; simp [rightB, h2], b⟩
  cases r1 : regB rd
  · exact (right_rd op rd ra rb n k l m h w h1 h2 r1).mono fun e w' ⟨a, b⟩ => ⟨by rw [a]; simp [rightB, r1], b⟩
  cases r2 : regB ra
  · exact (right_ra op rd ra rb n k l m h w h1 h2 r1 r2).mono fun e w' ⟨a, b⟩ => ⟨by rw [a]; simp [rightB, r2], b⟩
  cases r3 : regB rb
  · exact (right_rb op rd ra rb n k l m h w h1 h2 r1 r2 r3).mono fun e w' ⟨a, b⟩ => ⟨by rw [a]; simp [rightB, r3], b⟩
  obtain ⟨⟨c0, _, _, _⟩, hk⟩ := hf h1 h2
  have hb : rightB k op rd ra rb n = bodyB k rd ra rb n := by simp [rightB, h1, h2, r1, r2, r3]
  rw [hb]
  rcases hk with rfl | rfl | rfl | rfl | rfl | rfl | rfl | ⟨rfl, h3⟩
  · exact right_R op rd ra rb n 0 l m h w h1 h2 r1 r2 r3 c0
  · exact right_I op rd ra rb n 0 l m h w h1 h2 r1 r2 r3 c0
  · exact right_H op rd ra rb n 0 l m h w h1 h2 r1 r2 r3 c0
  · exact right_S op rd ra rb n 0 l m h w h1 h2 r1 r2 r3 c0
  · exact right_B op rd ra rb n 0 l m h w h1 h2 r1 r2 r3 c0
  · exact right_U op rd ra rb n 0 l m h w h1 h2 r1 r2 r3 c0
  · exact right_J op rd ra rb n 0 l m h w h1 h2 r1 r2 r3 c0
  · exact right_E op rd ra rb n 0 l m h w h3 r1 r2 r3 c0
end Go.Proofs.YtodgkbcgdbhpeaaGreatDoor.WordP

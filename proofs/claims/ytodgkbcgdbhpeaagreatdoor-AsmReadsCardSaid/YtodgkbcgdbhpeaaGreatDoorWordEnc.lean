/- Which word an instruction is: a contract of word.Encode, of any instruction. Conditions: the table of forms lies as the program lays it. -/
import Derived.Test.YtodgkbcgdbhpeaaGreatDoorWordParts
namespace Go.Proofs.YtodgkbcgdbhpeaaGreatDoor.WordP
set_option linter.unusedSimpArgs false
open Go.RowKit
set_option linter.unusedVariables false

abbrev bor (a b : Int) : Int := bits .or .u32 a b
/-- The word, as the program puts it together. -/
def rawE (k rd ra rb n l m h : Int) : Int :=
  if k = 82 then bor (bor l (m * 4096)) (bor (bor (bor (rd * 128) (ra * 32768)) (rb * 1048576)) (h * 33554432))
  else if k = 73 then bor (bor l (m * 4096)) (bor (bor (rd * 128) (ra * 32768)) (n % 4096 * 1048576))
  else if k = 72 then bor (bor l (m * 4096)) (bor (bor (bor (rd * 128) (ra * 32768)) (n % 64 * 1048576)) (h * 33554432))
  else if k = 83 then bor (bor l (m * 4096)) (bor (bor (bor (n % 32 * 128) (ra * 32768)) (rb * 1048576)) (n / 32 % 128 * 33554432))
  else if k = 66 then bor (bor l (m * 4096)) (bor (bor (bor (bor (bor (n / 2048 % 2 * 128) (n / 2 % 16 * 256)) (ra * 32768)) (rb * 1048576)) (n / 32 % 64 * 33554432)) (n / 4096 % 2 * 2147483648))
  else if k = 85 then bor (bor l (m * 4096)) (bor (rd * 128) (n / 4096 % 1048576 * 4096))
  else if k = 74 then bor (bor l (m * 4096)) (bor (bor (bor (bor (rd * 128) (n / 4096 % 256 * 4096)) (n / 2048 % 2 * 1048576)) (n / 2 % 1024 * 2097152)) (n / 1048576 % 2 * 2147483648))
  else bor l (m * 4096)
theorem ret_enc {a b : Int} (h : a = b) : Ending.returned (.tuple #[.int .u32 a, .nilIface]) = .returned (.tuple #[.int .u32 b, .nilIface]) := by rw [h]
/-- An instruction as a value. -/
abbrev inst (op rd ra rb n : Int) : Value := .agg #[.int .i64 op, .int .i64 rd, .int .i64 ra, .int .i64 rb, .int .i64 n]
abbrev instCells (op rd ra rb n : Int) : Array Value := #[.int .i64 op, .int .i64 rd, .int .i64 ra, .int .i64 rb, .int .i64 n]

theorem grown_drewN {w w' : World} (h : Grown w w') (n : Nat) : Grown w (w'.drewN n) := h
set_option maxHeartbeats 1000000 in
theorem encode_not (op rd ra rb n : Int) (w : World)
    (hr : Calls Tryz.prog 22 #[inst op rd ra rb n] (w.alloc (.cells (instCells op rd ra rb n) 30)) fun e w' => e = .returned (.bool false) ∧ w' = (w.alloc (.cells (instCells op rd ra rb n) 30)).alloc (.cells (instCells op rd ra rb n) 30)) :
    Calls Tryz.prog 43 #[inst op rd ra rb n] w fun e w' => e = .returned (.tuple #[.int .u32 0, .iface 38 (.int .i64 1)]) ∧ Grown w w' := by
  have HR := Lib.hid hr
  clear hr
  go_enter Tryz.func43, Tryz.ntmps43
  go_wp2_with (go_at_call 22; refine (HR.out).mono ?_; rintro e _ ⟨rfl, rfl⟩)
  go_ret2
  exact ⟨rfl, by repeat (first | exact Grown.refl _ | apply Grown.alloc)⟩
set_option maxRecDepth 100000 in
set_option maxHeartbeats 4000000 in
theorem encode_R (op rd ra rb n l m h : Int) (w : World) (h1 : 1 ≤ op) (h2 : op ≤ 31)
    (hrd : 0 ≤ rd ∧ rd < 32) (hra : 0 ≤ ra ∧ ra < 32) (hrb : 0 ≤ rb ∧ rb < 32) (hl : 0 ≤ l ∧ l < 128) (hm : 0 ≤ m ∧ m < 8) (hh : 0 ≤ h ∧ h < 128) (hf : FormAt w op 82 l m h)
    (hr : Calls Tryz.prog 22 #[inst op rd ra rb n] (w.alloc (.cells (instCells op rd ra rb n) 30)) fun e w' => e = .returned (.bool true) ∧ w' = (w.alloc (.cells (instCells op rd ra rb n) 30)).alloc (.cells (instCells op rd ra rb n) 30)) :
    Calls Tryz.prog 43 #[inst op rd ra rb n] w fun e w' => e = .returned (.tuple #[.int .u32 (rawE 82 rd ra rb n l m h), .nilIface]) ∧ Grown w w' := by
  obtain ⟨c0, c1, c2, c3⟩ := hf
  have hz := zero_lt c0
  have hp := past
  have HR := Lib.hid hr
  clear hr
  go_enter Tryz.func43, Tryz.ntmps43
  go_wp2_with (go_at_call 22; refine (HR.out).mono ?_; rintro e _ ⟨rfl, rfl⟩)
  go_quiet (fail)
  go_wp2
  go_ret2
  refine ⟨ret_enc (by simp [rawE, bor]), ?_⟩
  repeat (first | with_reducible apply Grown.alloc | with_reducible apply grown_drewN | with_reducible apply Grown.drew | with_reducible exact Grown.refl _)
set_option maxRecDepth 100000 in
set_option maxHeartbeats 4000000 in
theorem encode_I (op rd ra rb n l m h : Int) (w : World) (h1 : 1 ≤ op) (h2 : op ≤ 31)
    (hrd : 0 ≤ rd ∧ rd < 32) (hra : 0 ≤ ra ∧ ra < 32) (hrb : 0 ≤ rb ∧ rb < 32) (hl : 0 ≤ l ∧ l < 128) (hm : 0 ≤ m ∧ m < 8) (hh : 0 ≤ h ∧ h < 128) (hf : FormAt w op 73 l m h)
    (hr : Calls Tryz.prog 22 #[inst op rd ra rb n] (w.alloc (.cells (instCells op rd ra rb n) 30)) fun e w' => e = .returned (.bool true) ∧ w' = (w.alloc (.cells (instCells op rd ra rb n) 30)).alloc (.cells (instCells op rd ra rb n) 30)) :
    Calls Tryz.prog 43 #[inst op rd ra rb n] w fun e w' => e = .returned (.tuple #[.int .u32 (rawE 73 rd ra rb n l m h), .nilIface]) ∧ Grown w w' := by
  obtain ⟨c0, c1, c2, c3⟩ := hf
  have hz := zero_lt c0
  have hp := past
  have HR := Lib.hid hr
  clear hr
  go_enter Tryz.func43, Tryz.ntmps43
  go_wp2_with (go_at_call 22; refine (HR.out).mono ?_; rintro e _ ⟨rfl, rfl⟩)
  go_quiet (fail)
  go_wp2_with (go_at_call 77; refine (part_0_12_20 _ _).mono ?_; rintro e _ ⟨rfl, nq2, rfl⟩)
  go_ret2
  refine ⟨ret_enc (by simp [rawE, bor]), ?_⟩
  repeat (first | with_reducible apply Grown.alloc | with_reducible apply grown_drewN | with_reducible apply Grown.drew | with_reducible exact Grown.refl _)
set_option maxRecDepth 100000 in
set_option maxHeartbeats 4000000 in
theorem encode_H (op rd ra rb n l m h : Int) (w : World) (h1 : 1 ≤ op) (h2 : op ≤ 31)
    (hrd : 0 ≤ rd ∧ rd < 32) (hra : 0 ≤ ra ∧ ra < 32) (hrb : 0 ≤ rb ∧ rb < 32) (hl : 0 ≤ l ∧ l < 128) (hm : 0 ≤ m ∧ m < 8) (hh : 0 ≤ h ∧ h < 128) (hf : FormAt w op 72 l m h)
    (hr : Calls Tryz.prog 22 #[inst op rd ra rb n] (w.alloc (.cells (instCells op rd ra rb n) 30)) fun e w' => e = .returned (.bool true) ∧ w' = (w.alloc (.cells (instCells op rd ra rb n) 30)).alloc (.cells (instCells op rd ra rb n) 30)) :
    Calls Tryz.prog 43 #[inst op rd ra rb n] w fun e w' => e = .returned (.tuple #[.int .u32 (rawE 72 rd ra rb n l m h), .nilIface]) ∧ Grown w w' := by
  obtain ⟨c0, c1, c2, c3⟩ := hf
  have hz := zero_lt c0
  have hp := past
  have HR := Lib.hid hr
  clear hr
  go_enter Tryz.func43, Tryz.ntmps43
  go_wp2_with (go_at_call 22; refine (HR.out).mono ?_; rintro e _ ⟨rfl, rfl⟩)
  go_quiet (fail)
  go_wp2
  go_quiet ((first | (go_at_call_of 77 (Value.int IntKind.i64 6); exact quiet_more (part_0_6_20 _))))
  go_wp2
  go_ret2
  refine ⟨ret_enc (by simp [rawE, bor]), ?_⟩
  repeat (first | with_reducible apply Grown.alloc | with_reducible apply grown_drewN | with_reducible apply Grown.drew | with_reducible exact Grown.refl _)
set_option maxRecDepth 100000 in
set_option maxHeartbeats 4000000 in
theorem encode_S (op rd ra rb n l m h : Int) (w : World) (h1 : 1 ≤ op) (h2 : op ≤ 31)
    (hrd : 0 ≤ rd ∧ rd < 32) (hra : 0 ≤ ra ∧ ra < 32) (hrb : 0 ≤ rb ∧ rb < 32) (hl : 0 ≤ l ∧ l < 128) (hm : 0 ≤ m ∧ m < 8) (hh : 0 ≤ h ∧ h < 128) (hf : FormAt w op 83 l m h)
    (hr : Calls Tryz.prog 22 #[inst op rd ra rb n] (w.alloc (.cells (instCells op rd ra rb n) 30)) fun e w' => e = .returned (.bool true) ∧ w' = (w.alloc (.cells (instCells op rd ra rb n) 30)).alloc (.cells (instCells op rd ra rb n) 30)) :
    Calls Tryz.prog 43 #[inst op rd ra rb n] w fun e w' => e = .returned (.tuple #[.int .u32 (rawE 83 rd ra rb n l m h), .nilIface]) ∧ Grown w w' := by
  obtain ⟨c0, c1, c2, c3⟩ := hf
  have hz := zero_lt c0
  have hp := past
  have HR := Lib.hid hr
  clear hr
  go_enter Tryz.func43, Tryz.ntmps43
  go_wp2_with (go_at_call 22; refine (HR.out).mono ?_; rintro e _ ⟨rfl, rfl⟩)
  go_quiet (fail)
  go_wp2
  go_quiet ((first | (go_at_call_of 77 (Value.int IntKind.i64 0); exact quiet_more (part_0_5_7 _)) | (go_at_call_of 77 (Value.int IntKind.i64 25); exact quiet_more (part_5_7_25 _))))
  go_wp2
  go_ret2
  refine ⟨ret_enc (by simp [rawE, bor]), ?_⟩
  repeat (first | with_reducible apply Grown.alloc | with_reducible apply grown_drewN | with_reducible apply Grown.drew | with_reducible exact Grown.refl _)
set_option maxRecDepth 100000 in
set_option maxHeartbeats 4000000 in
theorem encode_B (op rd ra rb n l m h : Int) (w : World) (h1 : 1 ≤ op) (h2 : op ≤ 31)
    (hrd : 0 ≤ rd ∧ rd < 32) (hra : 0 ≤ ra ∧ ra < 32) (hrb : 0 ≤ rb ∧ rb < 32) (hl : 0 ≤ l ∧ l < 128) (hm : 0 ≤ m ∧ m < 8) (hh : 0 ≤ h ∧ h < 128) (hf : FormAt w op 66 l m h)
    (hr : Calls Tryz.prog 22 #[inst op rd ra rb n] (w.alloc (.cells (instCells op rd ra rb n) 30)) fun e w' => e = .returned (.bool true) ∧ w' = (w.alloc (.cells (instCells op rd ra rb n) 30)).alloc (.cells (instCells op rd ra rb n) 30)) :
    Calls Tryz.prog 43 #[inst op rd ra rb n] w fun e w' => e = .returned (.tuple #[.int .u32 (rawE 66 rd ra rb n l m h), .nilIface]) ∧ Grown w w' := by
  obtain ⟨c0, c1, c2, c3⟩ := hf
  have hz := zero_lt c0
  have hp := past
  have HR := Lib.hid hr
  clear hr
  go_enter Tryz.func43, Tryz.ntmps43
  go_wp2_with (go_at_call 22; refine (HR.out).mono ?_; rintro e _ ⟨rfl, rfl⟩)
  go_quiet (fail)
  go_wp2
  go_quiet ((first | (go_at_call_of 77 (Value.int IntKind.i64 11); exact quiet_more (part_11_1_7 _)) | (go_at_call_of 77 (Value.int IntKind.i64 4); exact quiet_more (part_1_4_8 _)) | (go_at_call_of 77 (Value.int IntKind.i64 25); exact quiet_more (part_5_6_25 _)) | (go_at_call_of 77 (Value.int IntKind.i64 31); exact quiet_more (part_12_1_31 _))))
  go_wp2
  go_ret2
  refine ⟨ret_enc (by simp [rawE, bor]), ?_⟩
  repeat (first | with_reducible apply Grown.alloc | with_reducible apply grown_drewN | with_reducible apply Grown.drew | with_reducible exact Grown.refl _)
set_option maxRecDepth 100000 in
set_option maxHeartbeats 4000000 in
theorem encode_U (op rd ra rb n l m h : Int) (w : World) (h1 : 1 ≤ op) (h2 : op ≤ 31)
    (hrd : 0 ≤ rd ∧ rd < 32) (hra : 0 ≤ ra ∧ ra < 32) (hrb : 0 ≤ rb ∧ rb < 32) (hl : 0 ≤ l ∧ l < 128) (hm : 0 ≤ m ∧ m < 8) (hh : 0 ≤ h ∧ h < 128) (hf : FormAt w op 85 l m h)
    (hr : Calls Tryz.prog 22 #[inst op rd ra rb n] (w.alloc (.cells (instCells op rd ra rb n) 30)) fun e w' => e = .returned (.bool true) ∧ w' = (w.alloc (.cells (instCells op rd ra rb n) 30)).alloc (.cells (instCells op rd ra rb n) 30)) :
    Calls Tryz.prog 43 #[inst op rd ra rb n] w fun e w' => e = .returned (.tuple #[.int .u32 (rawE 85 rd ra rb n l m h), .nilIface]) ∧ Grown w w' := by
  obtain ⟨c0, c1, c2, c3⟩ := hf
  have hz := zero_lt c0
  have hp := past
  have HR := Lib.hid hr
  clear hr
  go_enter Tryz.func43, Tryz.ntmps43
  go_wp2_with (go_at_call 22; refine (HR.out).mono ?_; rintro e _ ⟨rfl, rfl⟩)
  go_quiet (fail)
  go_wp2_with (go_at_call 77; refine (part_12_20_12 _ _).mono ?_; rintro e _ ⟨rfl, nq2, rfl⟩)
  go_ret2
  refine ⟨ret_enc (by simp [rawE, bor]), ?_⟩
  repeat (first | with_reducible apply Grown.alloc | with_reducible apply grown_drewN | with_reducible apply Grown.drew | with_reducible exact Grown.refl _)
set_option maxRecDepth 100000 in
set_option maxHeartbeats 4000000 in
theorem encode_J (op rd ra rb n l m h : Int) (w : World) (h1 : 1 ≤ op) (h2 : op ≤ 31)
    (hrd : 0 ≤ rd ∧ rd < 32) (hra : 0 ≤ ra ∧ ra < 32) (hrb : 0 ≤ rb ∧ rb < 32) (hl : 0 ≤ l ∧ l < 128) (hm : 0 ≤ m ∧ m < 8) (hh : 0 ≤ h ∧ h < 128) (hf : FormAt w op 74 l m h)
    (hr : Calls Tryz.prog 22 #[inst op rd ra rb n] (w.alloc (.cells (instCells op rd ra rb n) 30)) fun e w' => e = .returned (.bool true) ∧ w' = (w.alloc (.cells (instCells op rd ra rb n) 30)).alloc (.cells (instCells op rd ra rb n) 30)) :
    Calls Tryz.prog 43 #[inst op rd ra rb n] w fun e w' => e = .returned (.tuple #[.int .u32 (rawE 74 rd ra rb n l m h), .nilIface]) ∧ Grown w w' := by
  obtain ⟨c0, c1, c2, c3⟩ := hf
  have hz := zero_lt c0
  have hp := past
  have HR := Lib.hid hr
  clear hr
  go_enter Tryz.func43, Tryz.ntmps43
  go_wp2_with (go_at_call 22; refine (HR.out).mono ?_; rintro e _ ⟨rfl, rfl⟩)
  go_quiet (fail)
  go_wp2
  go_quiet ((first | (go_at_call_of 77 (Value.int IntKind.i64 8); exact quiet_more (part_12_8_12 _)) | (go_at_call_of 77 (Value.int IntKind.i64 11); exact quiet_more (part_11_1_20 _)) | (go_at_call_of 77 (Value.int IntKind.i64 10); exact quiet_more (part_1_10_21 _)) | (go_at_call_of 77 (Value.int IntKind.i64 31); exact quiet_more (part_20_1_31 _))))
  go_wp2
  go_ret2
  refine ⟨ret_enc (by simp [rawE, bor]), ?_⟩
  repeat (first | with_reducible apply Grown.alloc | with_reducible apply grown_drewN | with_reducible apply Grown.drew | with_reducible exact Grown.refl _)
set_option maxRecDepth 100000 in
set_option maxHeartbeats 4000000 in
theorem encode_E (op rd ra rb n l m h : Int) (w : World) (h1 : 1 ≤ op) (h2 : op ≤ 31)
    (hrd : 0 ≤ rd ∧ rd < 32) (hra : 0 ≤ ra ∧ ra < 32) (hrb : 0 ≤ rb ∧ rb < 32) (hl : 0 ≤ l ∧ l < 128) (hm : 0 ≤ m ∧ m < 8) (hh : 0 ≤ h ∧ h < 128) (hf : FormAt w op 69 l m h)
    (hr : Calls Tryz.prog 22 #[inst op rd ra rb n] (w.alloc (.cells (instCells op rd ra rb n) 30)) fun e w' => e = .returned (.bool true) ∧ w' = (w.alloc (.cells (instCells op rd ra rb n) 30)).alloc (.cells (instCells op rd ra rb n) 30)) :
    Calls Tryz.prog 43 #[inst op rd ra rb n] w fun e w' => e = .returned (.tuple #[.int .u32 (rawE 69 rd ra rb n l m h), .nilIface]) ∧ Grown w w' := by
  obtain ⟨c0, c1, c2, c3⟩ := hf
  have hz := zero_lt c0
  have hp := past
  have HR := Lib.hid hr
  clear hr
  go_enter Tryz.func43, Tryz.ntmps43
  go_wp2_with (go_at_call 22; refine (HR.out).mono ?_; rintro e _ ⟨rfl, rfl⟩)
  go_quiet (fail)
  go_wp2
  go_ret2
  refine ⟨ret_enc (by simp [rawE, bor]), ?_⟩
  repeat (first | with_reducible apply Grown.alloc | with_reducible apply grown_drewN | with_reducible apply Grown.drew | with_reducible exact Grown.refl _)
end Go.Proofs.YtodgkbcgdbhpeaaGreatDoor.WordP

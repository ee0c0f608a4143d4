/- Which instructions may be, by the reference: a contract of ref.RightInst, of any instruction. No conditions. -/
import Derived.Test.YtodgkbcgdbhpeaaGreatDoorRefSmall
import Derived.Test.YtodgkbcgdbhpeaaGreatDoorRefForm
import Derived.Test.YtodgkbcgdbhpeaaGreatDoorWordIns
import Derived.Test.YtodgkbcgdbhpeaaGreatDoorWordFive
import Derived.Deep.RegionWith
import Derived.Deep.QuietTactic
import Derived.BigQuiet
namespace Go.Proofs.YtodgkbcgdbhpeaaGreatDoor.RefP
open Go.RowKit Go.Proofs.YtodgkbcgdbhpeaaGreatDoor.Wo Go.Proofs.YtodgkbcgdbhpeaaGreatDoor.WordP
set_option linter.unusedVariables false
set_option linter.unusedSimpArgs false
/-- A form's value. -/
def formV (k l m h : Int) (nm : ByteArray) : Value := .agg #[.int .u8 k, .int .u32 l, .int .u32 m, .int .u32 h, .string nm]
theorem form_parts (op : Int) (h1 : 1 ≤ op) (h2 : op ≤ 31) (W : World) : Calls Tryz.prog 38 #[.int .i64 op] W fun e W' => e = .returned (.tuple #[.agg #[.int .u8 (kindOf op), .int .u32 (lowOf op), .int .u32 (midOf op), .int .u32 (highOf op), .string (nameOf op)], .bool true]) ∧ Mods None W W' := form_yes op h1 h2 W
/-- A register may be where it stands. -/
def regOk (there : Bool) (n : Int) : Bool := decide (0 ≤ n) && decide (n ≤ 31) && (there || n == 0)
theorem ret_bool {a b : Bool} (h : a = b) : Ending.returned (.bool a) = .returned (.bool b) := by rw [h]
theorem quiet_left {P : Program} {f : FuncId} {args : Array Value} {w : World} {n : Nat} {v : Value}
    (h : Calls P f args (w.drewN n) fun e w' => e = .returned v ∧ w.drewN n = w') : Calls P f args (w.drewN n) fun e w'' => e = .returned v ∧ ∃ m, w'' = w.drewN m :=
  h.mono fun _ _ ⟨he, hm⟩ => ⟨he, n, hm.symm⟩
/-- What its number must be. -/
def restB (k n : Int) : Bool :=
  if k = 82 then n == 0 else if k = 73 then fitB n 2048 1 else if k = 72 then decide (0 ≤ n) && decide (n < 64) else if k = 83 then fitB n 2048 1
  else if k = 66 then fitB n 4096 2 else if k = 85 then fitB n 2147483648 4096 else if k = 74 then fitB n 1048576 2 else n == 0
theorem right_eq_82 (p rd ra rb n : Int) (h1 : 1 ≤ p) (h2 : p ≤ 31) (hk : kindOf p = 82) : (Ins.mk p rd ra rb n).right = (regOk true rd && regOk true ra && regOk true rb && restB 82 n) := by
  simp only [Ins.right, hk]
  rw [Bool.eq_iff_iff]
  simp [rightB, bodyB, regOk, restB, regB, h1, h2] <;> omega
theorem right_eq_73 (p rd ra rb n : Int) (h1 : 1 ≤ p) (h2 : p ≤ 31) (hk : kindOf p = 73) : (Ins.mk p rd ra rb n).right = (regOk true rd && regOk true ra && regOk false rb && restB 73 n) := by
  simp only [Ins.right, hk]
  rw [Bool.eq_iff_iff]
  cases hf : fitB n 2048 1 <;> simp [rightB, bodyB, regOk, restB, regB, h1, h2, hf] <;> omega
theorem right_eq_72 (p rd ra rb n : Int) (h1 : 1 ≤ p) (h2 : p ≤ 31) (hk : kindOf p = 72) : (Ins.mk p rd ra rb n).right = (regOk true rd && regOk true ra && regOk false rb && restB 72 n) := by
  simp only [Ins.right, hk]
  rw [Bool.eq_iff_iff]
  simp [rightB, bodyB, regOk, restB, regB, h1, h2] <;> omega
theorem right_eq_83 (p rd ra rb n : Int) (h1 : 1 ≤ p) (h2 : p ≤ 31) (hk : kindOf p = 83) : (Ins.mk p rd ra rb n).right = (regOk false rd && regOk true ra && regOk true rb && restB 83 n) := by
  simp only [Ins.right, hk]
  rw [Bool.eq_iff_iff]
  cases hf : fitB n 2048 1 <;> simp [rightB, bodyB, regOk, restB, regB, h1, h2, hf] <;> omega
theorem right_eq_66 (p rd ra rb n : Int) (h1 : 1 ≤ p) (h2 : p ≤ 31) (hk : kindOf p = 66) : (Ins.mk p rd ra rb n).right = (regOk false rd && regOk true ra && regOk true rb && restB 66 n) := by
  simp only [Ins.right, hk]
  rw [Bool.eq_iff_iff]
  cases hf : fitB n 4096 2 <;> simp [rightB, bodyB, regOk, restB, regB, h1, h2, hf] <;> omega
theorem right_eq_85 (p rd ra rb n : Int) (h1 : 1 ≤ p) (h2 : p ≤ 31) (hk : kindOf p = 85) : (Ins.mk p rd ra rb n).right = (regOk true rd && regOk false ra && regOk false rb && restB 85 n) := by
  simp only [Ins.right, hk]
  rw [Bool.eq_iff_iff]
  cases hf : fitB n 2147483648 4096 <;> simp [rightB, bodyB, regOk, restB, regB, h1, h2, hf] <;> omega
theorem right_eq_74 (p rd ra rb n : Int) (h1 : 1 ≤ p) (h2 : p ≤ 31) (hk : kindOf p = 74) : (Ins.mk p rd ra rb n).right = (regOk true rd && regOk false ra && regOk false rb && restB 74 n) := by
  simp only [Ins.right, hk]
  rw [Bool.eq_iff_iff]
  cases hf : fitB n 1048576 2 <;> simp [rightB, bodyB, regOk, restB, regB, h1, h2, hf] <;> omega
theorem right_eq_69 (p rd ra rb n : Int) (h1 : 1 ≤ p) (h2 : p ≤ 31) (hk : kindOf p = 69) : (Ins.mk p rd ra rb n).right = (regOk false rd && regOk false ra && regOk false rb && restB 69 n) := by
  simp only [Ins.right, hk]
  rw [Bool.eq_iff_iff]
  simp [rightB, bodyB, regOk, restB, regB, h1, h2] <;> omega
set_option maxRecDepth 100000 in
set_option maxHeartbeats 1000000 in
theorem right_82_ok (x : Ins) (W : World) (h1 : 1 ≤ x.op) (h2 : x.op ≤ 31) (hk : kindOf x.op = 82) : Calls Tryz.prog 34 #[x.val] W fun e W' => e = .returned (.bool x.right) ∧ Mods None W W' := by
  obtain ⟨p, rd, ra, rb, n⟩ := x
  simp only at h1 h2 hk
  obtain ⟨W1, hW1⟩ : ∃ W1, W1 = W.alloc (.cells (instCells p rd ra rb n) 30) := ⟨_, rfl⟩
  have F1 : Hid (Five W1 W.heap.size p rd ra rb n) := Lib.hid (by rw [hW1]; exact five_new W _ _ _ _ _ 30)
  have HM : Hid (Mods None W W1) := Lib.hid (by rw [hW1]; exact (Mods.refl _ _).alloc _)
  have HRIGHT : Hid ((Ins.mk p rd ra rb n).right = (regOk true rd && regOk true ra && regOk true rb && restB 82 n)) := Lib.hid (right_eq_82 p rd ra rb n h1 h2 hk)
  simp only [Ins.val]
  have HF := form_parts p h1 h2 W1
  rw [hk] at HF
  obtain ⟨l, hl⟩ : ∃ l, l = lowOf p := ⟨_, rfl⟩
  obtain ⟨m, hm⟩ : ∃ m, m = midOf p := ⟨_, rfl⟩
  obtain ⟨hi, hh⟩ : ∃ hi, hi = highOf p := ⟨_, rfl⟩
  obtain ⟨nm, hn⟩ : ∃ nm, nm = nameOf p := ⟨_, rfl⟩
  rw [← hl, ← hm, ← hh, ← hn] at HF
  have HFF := Lib.hid HF
  clear HF hl hm hh hn hk
  have c0 := F1.out.c0
  go_enter Tryz.func34, Tryz.ntmps34
  go_wp2_with fail
  rw [← hW1]
  clear hW1
  clear c0
  refine HFF.out.mono ?_
  rintro e w2 ⟨rfl, hm2⟩
  obtain ⟨W3, hW3⟩ : ∃ W3, W3 = w2.alloc (.cells #[.int .u8 82, .int .u32 l, .int .u32 m, .int .u32 hi, .string nm] 87) := ⟨_, rfl⟩
  have HM3 : Hid (Mods None W1 W3) := Lib.hid (by rw [hW3]; exact hm2.alloc _)
  have HB3 : Hid (Blk W3 w2.heap.size [.int .u8 82, .int .u32 l, .int .u32 m, .int .u32 hi, .string nm] 87) := Lib.hid (by rw [hW3]; exact Blk.new w2 _ _)
  go_upto_region 2 with (fail)
  rw [← hW3]
  clear hW3 hm2
  obtain ⟨c0, c1, c2, c3, c4, cf⟩ := F1.out
  have c1 := HM3.out.cellOf c1 (fun f => f)
  have c2 := HM3.out.cellOf c2 (fun f => f)
  have c3 := HM3.out.cellOf c3 (fun f => f)
  clear c0 c4 cf
  go_wp2_with fail
  clear c1 c2 c3
  go_loopw [26] (fun v wr => ∃ i : Nat, i ≤ 3 ∧ v = .int .i64 i ∧ Hid ((1 ≤ i → regOk true rd = true) ∧ (2 ≤ i → regOk true ra = true) ∧ (3 ≤ i → regOk true rb = true)) ∧ Hid (Mods None W3 wr)) (fun v _ => (3 - intOf v).toNat)
  case atStart => exact ⟨0, by omega, rfl, Lib.hid ⟨fun h => by omega, fun h => by omega, fun h => by omega⟩, Lib.hid (Mods.refl _ _)⟩
  case round =>
    obtain ⟨i, hi3, rfl, hok, hmw⟩ := hrel
    have f0 : wr.cell? ⟨w2.heap.size, 0, none⟩ = some (.int .u8 82) := (HB3.out.mods hmw.out (fun f => f)).cell rfl
    have HALL : Hid (Mods None W wr) := Lib.hid ((HM.out.trans HM3.out).trans hmw.out)
    have hcase : i = 0 ∨ i = 1 ∨ i = 2 ∨ i = 3 := by omega
    rcases hcase with rfl | rfl | rfl | rfl
    · have hix : ∀ (a b c : Int) (w : World), (Instr.index 94 (.agg #[.int .i64 a, .int .i64 b, .int .i64 c]) (.int .i64 0)).run Tryz.prog w = .ok (.int .i64 a) w := fun _ _ _ _ => by kernel_rfl
      have hsl : ∀ w : World, (Instr.slice 9 (.string ⟨#[100, 97, 98]⟩) (some (.int .i64 0)) (some (.int .i64 1)) none).run Tryz.prog w = .ok (.string ⟨#[100]⟩) w := fun _ => by kernel_rfl
      by_cases hlo : 0 ≤ rd
      · by_cases hhi : rd ≤ 31
        · have hb : (decide (0 ≤ rd) && decide (rd ≤ 31)) = true := by simp; omega
          go_wp2_with fail
          go_quiet ((first | (go_at_call 41; with_reducible exact quiet_left (has_82 _)) | (go_at_call 69; with_reducible exact quiet_left (con_dab_d _))))
          go_wp2_with (go_at_call 37; refine (in_any _ _ _ _).mono ?_; rintro e w' ⟨rfl, rfl⟩)
          go_roundw
          case rel => exact ⟨1, by omega, rfl, Lib.hid ⟨fun _ => by simp [regOk]; omega, fun h => by omega, fun h => by omega⟩, Lib.hid (hmw.out.drewN _)⟩
          case measure => simp [intOf]
        · have hb : (decide (0 ≤ rd) && decide (rd ≤ 31)) = false := by simp; omega
          go_wp2_with fail
          go_quiet ((first | (go_at_call 41; with_reducible exact quiet_left (has_82 _)) | (go_at_call 69; with_reducible exact quiet_left (con_dab_d _))))
          go_wp2_with (go_at_call 37; refine (in_any _ _ _ _).mono ?_; rintro e w' ⟨rfl, rfl⟩)
          go_ret
          refine ⟨ret_bool ?_, HALL.out.drewN _⟩
          have hk := HRIGHT.out
          rw [hk]
          simp only [regOk, Bool.and_eq_false_iff, Bool.or_eq_false_iff, decide_eq_false_iff_not, beq_eq_false_iff_ne]
          simp
          omega
      · have hb : (decide (0 ≤ rd) && decide (rd ≤ 31)) = false := by simp; omega
        go_wp2_with fail
        go_quiet ((first | (go_at_call 41; with_reducible exact quiet_left (has_82 _)) | (go_at_call 69; with_reducible exact quiet_left (con_dab_d _))))
        go_wp2_with (go_at_call 37; refine (in_any _ _ _ _).mono ?_; rintro e w' ⟨rfl, rfl⟩)
        go_ret
        refine ⟨ret_bool ?_, HALL.out.drewN _⟩
        have hk := HRIGHT.out
        rw [hk]
        simp only [regOk, Bool.and_eq_false_iff, Bool.or_eq_false_iff, decide_eq_false_iff_not, beq_eq_false_iff_ne]
        simp
        omega
    · have hix : ∀ (a b c : Int) (w : World), (Instr.index 94 (.agg #[.int .i64 a, .int .i64 b, .int .i64 c]) (.int .i64 1)).run Tryz.prog w = .ok (.int .i64 b) w := fun _ _ _ _ => by kernel_rfl
      have hsl : ∀ w : World, (Instr.slice 9 (.string ⟨#[100, 97, 98]⟩) (some (.int .i64 1)) (some (.int .i64 2)) none).run Tryz.prog w = .ok (.string ⟨#[97]⟩) w := fun _ => by kernel_rfl
      by_cases hlo : 0 ≤ ra
      · by_cases hhi : ra ≤ 31
        · have hb : (decide (0 ≤ ra) && decide (ra ≤ 31)) = true := by simp; omega
          go_wp2_with fail
          go_quiet ((first | (go_at_call 41; with_reducible exact quiet_left (has_82 _)) | (go_at_call 69; with_reducible exact quiet_left (con_dab_a _))))
          go_wp2_with (go_at_call 37; refine (in_any _ _ _ _).mono ?_; rintro e w' ⟨rfl, rfl⟩)
          go_roundw
          case rel => exact ⟨2, by omega, rfl, Lib.hid ⟨fun _ => hok.out.1 (by decide), fun _ => by simp [regOk]; omega, fun h => by omega⟩, Lib.hid (hmw.out.drewN _)⟩
          case measure => simp [intOf]
        · have hb : (decide (0 ≤ ra) && decide (ra ≤ 31)) = false := by simp; omega
          go_wp2_with fail
          go_quiet ((first | (go_at_call 41; with_reducible exact quiet_left (has_82 _)) | (go_at_call 69; with_reducible exact quiet_left (con_dab_a _))))
          go_wp2_with (go_at_call 37; refine (in_any _ _ _ _).mono ?_; rintro e w' ⟨rfl, rfl⟩)
          go_ret
          refine ⟨ret_bool ?_, HALL.out.drewN _⟩
          have hk := HRIGHT.out
          rw [hk]
          simp only [regOk, Bool.and_eq_false_iff, Bool.or_eq_false_iff, decide_eq_false_iff_not, beq_eq_false_iff_ne]
          simp
          omega
      · have hb : (decide (0 ≤ ra) && decide (ra ≤ 31)) = false := by simp; omega
        go_wp2_with fail
        go_quiet ((first | (go_at_call 41; with_reducible exact quiet_left (has_82 _)) | (go_at_call 69; with_reducible exact quiet_left (con_dab_a _))))
        go_wp2_with (go_at_call 37; refine (in_any _ _ _ _).mono ?_; rintro e w' ⟨rfl, rfl⟩)
        go_ret
        refine ⟨ret_bool ?_, HALL.out.drewN _⟩
        have hk := HRIGHT.out
        rw [hk]
        simp only [regOk, Bool.and_eq_false_iff, Bool.or_eq_false_iff, decide_eq_false_iff_not, beq_eq_false_iff_ne]
        simp
        omega
    · have hix : ∀ (a b c : Int) (w : World), (Instr.index 94 (.agg #[.int .i64 a, .int .i64 b, .int .i64 c]) (.int .i64 2)).run Tryz.prog w = .ok (.int .i64 c) w := fun _ _ _ _ => by kernel_rfl
      have hsl : ∀ w : World, (Instr.slice 9 (.string ⟨#[100, 97, 98]⟩) (some (.int .i64 2)) (some (.int .i64 3)) none).run Tryz.prog w = .ok (.string ⟨#[98]⟩) w := fun _ => by kernel_rfl
      by_cases hlo : 0 ≤ rb
      · by_cases hhi : rb ≤ 31
        · have hb : (decide (0 ≤ rb) && decide (rb ≤ 31)) = true := by simp; omega
          go_wp2_with fail
          go_quiet ((first | (go_at_call 41; with_reducible exact quiet_left (has_82 _)) | (go_at_call 69; with_reducible exact quiet_left (con_dab_b _))))
          go_wp2_with (go_at_call 37; refine (in_any _ _ _ _).mono ?_; rintro e w' ⟨rfl, rfl⟩)
          go_roundw
          case rel => exact ⟨3, by omega, rfl, Lib.hid ⟨fun _ => hok.out.1 (by decide), fun _ => hok.out.2.1 (by decide), fun _ => by simp [regOk]; omega⟩, Lib.hid (hmw.out.drewN _)⟩
          case measure => simp [intOf]
        · have hb : (decide (0 ≤ rb) && decide (rb ≤ 31)) = false := by simp; omega
          go_wp2_with fail
          go_quiet ((first | (go_at_call 41; with_reducible exact quiet_left (has_82 _)) | (go_at_call 69; with_reducible exact quiet_left (con_dab_b _))))
          go_wp2_with (go_at_call 37; refine (in_any _ _ _ _).mono ?_; rintro e w' ⟨rfl, rfl⟩)
          go_ret
          refine ⟨ret_bool ?_, HALL.out.drewN _⟩
          have hk := HRIGHT.out
          rw [hk]
          simp only [regOk, Bool.and_eq_false_iff, Bool.or_eq_false_iff, decide_eq_false_iff_not, beq_eq_false_iff_ne]
          simp
          omega
      · have hb : (decide (0 ≤ rb) && decide (rb ≤ 31)) = false := by simp; omega
        go_wp2_with fail
        go_quiet ((first | (go_at_call 41; with_reducible exact quiet_left (has_82 _)) | (go_at_call 69; with_reducible exact quiet_left (con_dab_b _))))
        go_wp2_with (go_at_call 37; refine (in_any _ _ _ _).mono ?_; rintro e w' ⟨rfl, rfl⟩)
        go_ret
        refine ⟨ret_bool ?_, HALL.out.drewN _⟩
        have hk := HRIGHT.out
        rw [hk]
        simp only [regOk, Bool.and_eq_false_iff, Bool.or_eq_false_iff, decide_eq_false_iff_not, beq_eq_false_iff_ne]
        simp
        omega
    · have HR : Hid (regOk true rd = true ∧ regOk true ra = true ∧ regOk true rb = true) := Lib.hid ⟨hok.out.1 (by decide), hok.out.2.1 (by decide), hok.out.2.2 (by decide)⟩
      have hx := F1.out
      have c4 := ((HM3.out.trans hmw.out)).cellOf F1.out.c4 (fun f => f)
      clear hx
      go_wp2_with (first | (go_at_call 70; refine (signs_82 _).mono ?_; rintro e w' ⟨rfl, rfl⟩) | (go_at_call 37; refine (in_any _ _ _ _).mono ?_; rintro e w' ⟨rfl, rfl⟩))
      go_ret
      refine ⟨ret_bool ?_, HALL.out⟩
      have hk := HRIGHT.out
      rw [hk, HR.out.1, HR.out.2.1, HR.out.2.2]
      simp [restB]
set_option maxRecDepth 100000 in
set_option maxHeartbeats 1000000 in
theorem right_73_ok (x : Ins) (W : World) (h1 : 1 ≤ x.op) (h2 : x.op ≤ 31) (hk : kindOf x.op = 73) : Calls Tryz.prog 34 #[x.val] W fun e W' => e = .returned (.bool x.right) ∧ Mods None W W' := by
  obtain ⟨p, rd, ra, rb, n⟩ := x
  simp only at h1 h2 hk
  obtain ⟨W1, hW1⟩ : ∃ W1, W1 = W.alloc (.cells (instCells p rd ra rb n) 30) := ⟨_, rfl⟩
  have F1 : Hid (Five W1 W.heap.size p rd ra rb n) := Lib.hid (by rw [hW1]; exact five_new W _ _ _ _ _ 30)
  have HM : Hid (Mods None W W1) := Lib.hid (by rw [hW1]; exact (Mods.refl _ _).alloc _)
  have HRIGHT : Hid ((Ins.mk p rd ra rb n).right = (regOk true rd && regOk true ra && regOk false rb && restB 73 n)) := Lib.hid (right_eq_73 p rd ra rb n h1 h2 hk)
  simp only [Ins.val]
  have HF := form_parts p h1 h2 W1
  rw [hk] at HF
  obtain ⟨l, hl⟩ : ∃ l, l = lowOf p := ⟨_, rfl⟩
  obtain ⟨m, hm⟩ : ∃ m, m = midOf p := ⟨_, rfl⟩
  obtain ⟨hi, hh⟩ : ∃ hi, hi = highOf p := ⟨_, rfl⟩
  obtain ⟨nm, hn⟩ : ∃ nm, nm = nameOf p := ⟨_, rfl⟩
  rw [← hl, ← hm, ← hh, ← hn] at HF
  have HFF := Lib.hid HF
  clear HF hl hm hh hn hk
  have c0 := F1.out.c0
  go_enter Tryz.func34, Tryz.ntmps34
  go_wp2_with fail
  rw [← hW1]
  clear hW1
  clear c0
  refine HFF.out.mono ?_
  rintro e w2 ⟨rfl, hm2⟩
  obtain ⟨W3, hW3⟩ : ∃ W3, W3 = w2.alloc (.cells #[.int .u8 73, .int .u32 l, .int .u32 m, .int .u32 hi, .string nm] 87) := ⟨_, rfl⟩
  have HM3 : Hid (Mods None W1 W3) := Lib.hid (by rw [hW3]; exact hm2.alloc _)
  have HB3 : Hid (Blk W3 w2.heap.size [.int .u8 73, .int .u32 l, .int .u32 m, .int .u32 hi, .string nm] 87) := Lib.hid (by rw [hW3]; exact Blk.new w2 _ _)
  go_upto_region 2 with (fail)
  rw [← hW3]
  clear hW3 hm2
  obtain ⟨c0, c1, c2, c3, c4, cf⟩ := F1.out
  have c1 := HM3.out.cellOf c1 (fun f => f)
  have c2 := HM3.out.cellOf c2 (fun f => f)
  have c3 := HM3.out.cellOf c3 (fun f => f)
  clear c0 c4 cf
  go_wp2_with fail
  clear c1 c2 c3
  go_loopw [26] (fun v wr => ∃ i : Nat, i ≤ 3 ∧ v = .int .i64 i ∧ Hid ((1 ≤ i → regOk true rd = true) ∧ (2 ≤ i → regOk true ra = true) ∧ (3 ≤ i → regOk false rb = true)) ∧ Hid (Mods None W3 wr)) (fun v _ => (3 - intOf v).toNat)
  case atStart => exact ⟨0, by omega, rfl, Lib.hid ⟨fun h => by omega, fun h => by omega, fun h => by omega⟩, Lib.hid (Mods.refl _ _)⟩
  case round =>
    obtain ⟨i, hi3, rfl, hok, hmw⟩ := hrel
    have f0 : wr.cell? ⟨w2.heap.size, 0, none⟩ = some (.int .u8 73) := (HB3.out.mods hmw.out (fun f => f)).cell rfl
    have HALL : Hid (Mods None W wr) := Lib.hid ((HM.out.trans HM3.out).trans hmw.out)
    have hcase : i = 0 ∨ i = 1 ∨ i = 2 ∨ i = 3 := by omega
    rcases hcase with rfl | rfl | rfl | rfl
    · have hix : ∀ (a b c : Int) (w : World), (Instr.index 94 (.agg #[.int .i64 a, .int .i64 b, .int .i64 c]) (.int .i64 0)).run Tryz.prog w = .ok (.int .i64 a) w := fun _ _ _ _ => by kernel_rfl
      have hsl : ∀ w : World, (Instr.slice 9 (.string ⟨#[100, 97, 98]⟩) (some (.int .i64 0)) (some (.int .i64 1)) none).run Tryz.prog w = .ok (.string ⟨#[100]⟩) w := fun _ => by kernel_rfl
      by_cases hlo : 0 ≤ rd
      · by_cases hhi : rd ≤ 31
        · have hb : (decide (0 ≤ rd) && decide (rd ≤ 31)) = true := by simp; omega
          go_wp2_with fail
          go_quiet ((first | (go_at_call 41; with_reducible exact quiet_left (has_73 _)) | (go_at_call 69; with_reducible exact quiet_left (con_da_d _))))
          go_wp2_with (go_at_call 37; refine (in_any _ _ _ _).mono ?_; rintro e w' ⟨rfl, rfl⟩)
          go_roundw
          case rel => exact ⟨1, by omega, rfl, Lib.hid ⟨fun _ => by simp [regOk]; omega, fun h => by omega, fun h => by omega⟩, Lib.hid (hmw.out.drewN _)⟩
          case measure => simp [intOf]
        · have hb : (decide (0 ≤ rd) && decide (rd ≤ 31)) = false := by simp; omega
          go_wp2_with fail
          go_quiet ((first | (go_at_call 41; with_reducible exact quiet_left (has_73 _)) | (go_at_call 69; with_reducible exact quiet_left (con_da_d _))))
          go_wp2_with (go_at_call 37; refine (in_any _ _ _ _).mono ?_; rintro e w' ⟨rfl, rfl⟩)
          go_ret
          refine ⟨ret_bool ?_, HALL.out.drewN _⟩
          have hk := HRIGHT.out
          rw [hk]
          simp only [regOk, Bool.and_eq_false_iff, Bool.or_eq_false_iff, decide_eq_false_iff_not, beq_eq_false_iff_ne]
          simp
          omega
      · have hb : (decide (0 ≤ rd) && decide (rd ≤ 31)) = false := by simp; omega
        go_wp2_with fail
        go_quiet ((first | (go_at_call 41; with_reducible exact quiet_left (has_73 _)) | (go_at_call 69; with_reducible exact quiet_left (con_da_d _))))
        go_wp2_with (go_at_call 37; refine (in_any _ _ _ _).mono ?_; rintro e w' ⟨rfl, rfl⟩)
        go_ret
        refine ⟨ret_bool ?_, HALL.out.drewN _⟩
        have hk := HRIGHT.out
        rw [hk]
        simp only [regOk, Bool.and_eq_false_iff, Bool.or_eq_false_iff, decide_eq_false_iff_not, beq_eq_false_iff_ne]
        simp
        omega
    · have hix : ∀ (a b c : Int) (w : World), (Instr.index 94 (.agg #[.int .i64 a, .int .i64 b, .int .i64 c]) (.int .i64 1)).run Tryz.prog w = .ok (.int .i64 b) w := fun _ _ _ _ => by kernel_rfl
      have hsl : ∀ w : World, (Instr.slice 9 (.string ⟨#[100, 97, 98]⟩) (some (.int .i64 1)) (some (.int .i64 2)) none).run Tryz.prog w = .ok (.string ⟨#[97]⟩) w := fun _ => by kernel_rfl
      by_cases hlo : 0 ≤ ra
      · by_cases hhi : ra ≤ 31
        · have hb : (decide (0 ≤ ra) && decide (ra ≤ 31)) = true := by simp; omega
          go_wp2_with fail
          go_quiet ((first | (go_at_call 41; with_reducible exact quiet_left (has_73 _)) | (go_at_call 69; with_reducible exact quiet_left (con_da_a _))))
          go_wp2_with (go_at_call 37; refine (in_any _ _ _ _).mono ?_; rintro e w' ⟨rfl, rfl⟩)
          go_roundw
          case rel => exact ⟨2, by omega, rfl, Lib.hid ⟨fun _ => hok.out.1 (by decide), fun _ => by simp [regOk]; omega, fun h => by omega⟩, Lib.hid (hmw.out.drewN _)⟩
          case measure => simp [intOf]
        · have hb : (decide (0 ≤ ra) && decide (ra ≤ 31)) = false := by simp; omega
          go_wp2_with fail
          go_quiet ((first | (go_at_call 41; with_reducible exact quiet_left (has_73 _)) | (go_at_call 69; with_reducible exact quiet_left (con_da_a _))))
          go_wp2_with (go_at_call 37; refine (in_any _ _ _ _).mono ?_; rintro e w' ⟨rfl, rfl⟩)
          go_ret
          refine ⟨ret_bool ?_, HALL.out.drewN _⟩
          have hk := HRIGHT.out
          rw [hk]
          simp only [regOk, Bool.and_eq_false_iff, Bool.or_eq_false_iff, decide_eq_false_iff_not, beq_eq_false_iff_ne]
          simp
          omega
      · have hb : (decide (0 ≤ ra) && decide (ra ≤ 31)) = false := by simp; omega
        go_wp2_with fail
        go_quiet ((first | (go_at_call 41; with_reducible exact quiet_left (has_73 _)) | (go_at_call 69; with_reducible exact quiet_left (con_da_a _))))
        go_wp2_with (go_at_call 37; refine (in_any _ _ _ _).mono ?_; rintro e w' ⟨rfl, rfl⟩)
        go_ret
        refine ⟨ret_bool ?_, HALL.out.drewN _⟩
        have hk := HRIGHT.out
        rw [hk]
        simp only [regOk, Bool.and_eq_false_iff, Bool.or_eq_false_iff, decide_eq_false_iff_not, beq_eq_false_iff_ne]
        simp
        omega
    · have hix : ∀ (a b c : Int) (w : World), (Instr.index 94 (.agg #[.int .i64 a, .int .i64 b, .int .i64 c]) (.int .i64 2)).run Tryz.prog w = .ok (.int .i64 c) w := fun _ _ _ _ => by kernel_rfl
      have hsl : ∀ w : World, (Instr.slice 9 (.string ⟨#[100, 97, 98]⟩) (some (.int .i64 2)) (some (.int .i64 3)) none).run Tryz.prog w = .ok (.string ⟨#[98]⟩) w := fun _ => by kernel_rfl
      by_cases hlo : 0 ≤ rb
      · by_cases hhi : rb ≤ 31
        · have hb : (decide (0 ≤ rb) && decide (rb ≤ 31)) = true := by simp; omega
          by_cases hz : rb = 0
          · have hzb : (rb != 0) = false := by simpa using hz
            have HZ := Lib.hid hz
            clear hz
            go_wp2_with fail
            go_quiet ((first | (go_at_call 41; with_reducible exact quiet_left (has_73 _)) | (go_at_call 69; with_reducible exact quiet_left (con_da_b _))))
            go_wp2_with (go_at_call 37; refine (in_any _ _ _ _).mono ?_; rintro e w' ⟨rfl, rfl⟩)
            go_roundw
            case rel => exact ⟨3, by omega, rfl, Lib.hid ⟨fun _ => hok.out.1 (by decide), fun _ => hok.out.2.1 (by decide), fun _ => by have hz := HZ.out; simp [regOk]; omega⟩, Lib.hid (hmw.out.drewN _)⟩
            case measure => simp [intOf]
          · have hzb : (rb != 0) = true := by simpa using hz
            go_wp2_with fail
            go_quiet ((first | (go_at_call 41; with_reducible exact quiet_left (has_73 _)) | (go_at_call 69; with_reducible exact quiet_left (con_da_b _))))
            go_wp2_with (go_at_call 37; refine (in_any _ _ _ _).mono ?_; rintro e w' ⟨rfl, rfl⟩)
            go_ret
            refine ⟨ret_bool ?_, HALL.out.drewN _⟩
            have hk := HRIGHT.out
            rw [hk]
            simp only [regOk, Bool.and_eq_false_iff, Bool.or_eq_false_iff, decide_eq_false_iff_not, beq_eq_false_iff_ne]
            simp
            omega
        · have hb : (decide (0 ≤ rb) && decide (rb ≤ 31)) = false := by simp; omega
          go_wp2_with fail
          go_quiet ((first | (go_at_call 41; with_reducible exact quiet_left (has_73 _)) | (go_at_call 69; with_reducible exact quiet_left (con_da_b _))))
          go_wp2_with (go_at_call 37; refine (in_any _ _ _ _).mono ?_; rintro e w' ⟨rfl, rfl⟩)
          go_ret
          refine ⟨ret_bool ?_, HALL.out.drewN _⟩
          have hk := HRIGHT.out
          rw [hk]
          simp only [regOk, Bool.and_eq_false_iff, Bool.or_eq_false_iff, decide_eq_false_iff_not, beq_eq_false_iff_ne]
          simp
          omega
      · have hb : (decide (0 ≤ rb) && decide (rb ≤ 31)) = false := by simp; omega
        go_wp2_with fail
        go_quiet ((first | (go_at_call 41; with_reducible exact quiet_left (has_73 _)) | (go_at_call 69; with_reducible exact quiet_left (con_da_b _))))
        go_wp2_with (go_at_call 37; refine (in_any _ _ _ _).mono ?_; rintro e w' ⟨rfl, rfl⟩)
        go_ret
        refine ⟨ret_bool ?_, HALL.out.drewN _⟩
        have hk := HRIGHT.out
        rw [hk]
        simp only [regOk, Bool.and_eq_false_iff, Bool.or_eq_false_iff, decide_eq_false_iff_not, beq_eq_false_iff_ne]
        simp
        omega
    · have HR : Hid (regOk true rd = true ∧ regOk true ra = true ∧ regOk false rb = true) := Lib.hid ⟨hok.out.1 (by decide), hok.out.2.1 (by decide), hok.out.2.2 (by decide)⟩
      have hx := F1.out
      have c4 := ((HM3.out.trans hmw.out)).cellOf F1.out.c4 (fun f => f)
      clear hx
      have ht := tmod_zero n 1
      by_cases hlo : -2048 ≤ n
      · by_cases hhi : n ≤ 2047
        · have hb : (decide (-2048 ≤ n) && decide (n ≤ 2047)) = true := by simp; omega
          go_wp2_with (first | (go_at_call 70; refine (signs_73 _).mono ?_; rintro e w' ⟨rfl, rfl⟩) | (go_at_call 37; refine (in_any _ _ _ _).mono ?_; rintro e w' ⟨rfl, rfl⟩))
          go_ret
          refine ⟨ret_bool ?_, HALL.out⟩
          have hk := HRIGHT.out
          rw [hk, HR.out.1, HR.out.2.1, HR.out.2.2]
          simp [restB, fitB]
          try omega
        · have hb : (decide (-2048 ≤ n) && decide (n ≤ 2047)) = false := by simp; omega
          go_wp2_with (first | (go_at_call 70; refine (signs_73 _).mono ?_; rintro e w' ⟨rfl, rfl⟩) | (go_at_call 37; refine (in_any _ _ _ _).mono ?_; rintro e w' ⟨rfl, rfl⟩))
          go_ret
          refine ⟨ret_bool ?_, HALL.out⟩
          have hk := HRIGHT.out
          rw [hk, HR.out.1, HR.out.2.1, HR.out.2.2]
          simp [restB, fitB]
          try omega
      · have hb : (decide (-2048 ≤ n) && decide (n ≤ 2047)) = false := by simp; omega
        go_wp2_with (first | (go_at_call 70; refine (signs_73 _).mono ?_; rintro e w' ⟨rfl, rfl⟩) | (go_at_call 37; refine (in_any _ _ _ _).mono ?_; rintro e w' ⟨rfl, rfl⟩))
        go_ret
        refine ⟨ret_bool ?_, HALL.out⟩
        have hk := HRIGHT.out
        rw [hk, HR.out.1, HR.out.2.1, HR.out.2.2]
        simp [restB, fitB]
        try omega
set_option maxRecDepth 100000 in
set_option maxHeartbeats 1000000 in
theorem right_72_ok (x : Ins) (W : World) (h1 : 1 ≤ x.op) (h2 : x.op ≤ 31) (hk : kindOf x.op = 72) : Calls Tryz.prog 34 #[x.val] W fun e W' => e = .returned (.bool x.right) ∧ Mods None W W' := by
  obtain ⟨p, rd, ra, rb, n⟩ := x
  simp only at h1 h2 hk
  obtain ⟨W1, hW1⟩ : ∃ W1, W1 = W.alloc (.cells (instCells p rd ra rb n) 30) := ⟨_, rfl⟩
  have F1 : Hid (Five W1 W.heap.size p rd ra rb n) := Lib.hid (by rw [hW1]; exact five_new W _ _ _ _ _ 30)
  have HM : Hid (Mods None W W1) := Lib.hid (by rw [hW1]; exact (Mods.refl _ _).alloc _)
  have HRIGHT : Hid ((Ins.mk p rd ra rb n).right = (regOk true rd && regOk true ra && regOk false rb && restB 72 n)) := Lib.hid (right_eq_72 p rd ra rb n h1 h2 hk)
  simp only [Ins.val]
  have HF := form_parts p h1 h2 W1
  rw [hk] at HF
  obtain ⟨l, hl⟩ : ∃ l, l = lowOf p := ⟨_, rfl⟩
  obtain ⟨m, hm⟩ : ∃ m, m = midOf p := ⟨_, rfl⟩
  obtain ⟨hi, hh⟩ : ∃ hi, hi = highOf p := ⟨_, rfl⟩
  obtain ⟨nm, hn⟩ : ∃ nm, nm = nameOf p := ⟨_, rfl⟩
  rw [← hl, ← hm, ← hh, ← hn] at HF
  have HFF := Lib.hid HF
  clear HF hl hm hh hn hk
  have c0 := F1.out.c0
  go_enter Tryz.func34, Tryz.ntmps34
  go_wp2_with fail
  rw [← hW1]
  clear hW1
  clear c0
  refine HFF.out.mono ?_
  rintro e w2 ⟨rfl, hm2⟩
  obtain ⟨W3, hW3⟩ : ∃ W3, W3 = w2.alloc (.cells #[.int .u8 72, .int .u32 l, .int .u32 m, .int .u32 hi, .string nm] 87) := ⟨_, rfl⟩
  have HM3 : Hid (Mods None W1 W3) := Lib.hid (by rw [hW3]; exact hm2.alloc _)
  have HB3 : Hid (Blk W3 w2.heap.size [.int .u8 72, .int .u32 l, .int .u32 m, .int .u32 hi, .string nm] 87) := Lib.hid (by rw [hW3]; exact Blk.new w2 _ _)
  go_upto_region 2 with (fail)
  rw [← hW3]
  clear hW3 hm2
  obtain ⟨c0, c1, c2, c3, c4, cf⟩ := F1.out
  have c1 := HM3.out.cellOf c1 (fun f => f)
  have c2 := HM3.out.cellOf c2 (fun f => f)
  have c3 := HM3.out.cellOf c3 (fun f => f)
  clear c0 c4 cf
  go_wp2_with fail
  clear c1 c2 c3
  go_loopw [26] (fun v wr => ∃ i : Nat, i ≤ 3 ∧ v = .int .i64 i ∧ Hid ((1 ≤ i → regOk true rd = true) ∧ (2 ≤ i → regOk true ra = true) ∧ (3 ≤ i → regOk false rb = true)) ∧ Hid (Mods None W3 wr)) (fun v _ => (3 - intOf v).toNat)
  case atStart => exact ⟨0, by omega, rfl, Lib.hid ⟨fun h => by omega, fun h => by omega, fun h => by omega⟩, Lib.hid (Mods.refl _ _)⟩
  case round =>
    obtain ⟨i, hi3, rfl, hok, hmw⟩ := hrel
    have f0 : wr.cell? ⟨w2.heap.size, 0, none⟩ = some (.int .u8 72) := (HB3.out.mods hmw.out (fun f => f)).cell rfl
    have HALL : Hid (Mods None W wr) := Lib.hid ((HM.out.trans HM3.out).trans hmw.out)
    have hcase : i = 0 ∨ i = 1 ∨ i = 2 ∨ i = 3 := by omega
    rcases hcase with rfl | rfl | rfl | rfl
    · have hix : ∀ (a b c : Int) (w : World), (Instr.index 94 (.agg #[.int .i64 a, .int .i64 b, .int .i64 c]) (.int .i64 0)).run Tryz.prog w = .ok (.int .i64 a) w := fun _ _ _ _ => by kernel_rfl
      have hsl : ∀ w : World, (Instr.slice 9 (.string ⟨#[100, 97, 98]⟩) (some (.int .i64 0)) (some (.int .i64 1)) none).run Tryz.prog w = .ok (.string ⟨#[100]⟩) w := fun _ => by kernel_rfl
      by_cases hlo : 0 ≤ rd
      · by_cases hhi : rd ≤ 31
        · have hb : (decide (0 ≤ rd) && decide (rd ≤ 31)) = true := by simp; omega
          go_wp2_with fail
          go_quiet ((first | (go_at_call 41; with_reducible exact quiet_left (has_72 _)) | (go_at_call 69; with_reducible exact quiet_left (con_da_d _))))
          go_wp2_with (go_at_call 37; refine (in_any _ _ _ _).mono ?_; rintro e w' ⟨rfl, rfl⟩)
          go_roundw
          case rel => exact ⟨1, by omega, rfl, Lib.hid ⟨fun _ => by simp [regOk]; omega, fun h => by omega, fun h => by omega⟩, Lib.hid (hmw.out.drewN _)⟩
          case measure => simp [intOf]
        · have hb : (decide (0 ≤ rd) && decide (rd ≤ 31)) = false := by simp; omega
          go_wp2_with fail
          go_quiet ((first | (go_at_call 41; with_reducible exact quiet_left (has_72 _)) | (go_at_call 69; with_reducible exact quiet_left (con_da_d _))))
          go_wp2_with (go_at_call 37; refine (in_any _ _ _ _).mono ?_; rintro e w' ⟨rfl, rfl⟩)
          go_ret
          refine ⟨ret_bool ?_, HALL.out.drewN _⟩
          have hk := HRIGHT.out
          rw [hk]
          simp only [regOk, Bool.and_eq_false_iff, Bool.or_eq_false_iff, decide_eq_false_iff_not, beq_eq_false_iff_ne]
          simp
          omega
      · have hb : (decide (0 ≤ rd) && decide (rd ≤ 31)) = false := by simp; omega
        go_wp2_with fail
        go_quiet ((first | (go_at_call 41; with_reducible exact quiet_left (has_72 _)) | (go_at_call 69; with_reducible exact quiet_left (con_da_d _))))
        go_wp2_with (go_at_call 37; refine (in_any _ _ _ _).mono ?_; rintro e w' ⟨rfl, rfl⟩)
        go_ret
        refine ⟨ret_bool ?_, HALL.out.drewN _⟩
        have hk := HRIGHT.out
        rw [hk]
        simp only [regOk, Bool.and_eq_false_iff, Bool.or_eq_false_iff, decide_eq_false_iff_not, beq_eq_false_iff_ne]
        simp
        omega
    · have hix : ∀ (a b c : Int) (w : World), (Instr.index 94 (.agg #[.int .i64 a, .int .i64 b, .int .i64 c]) (.int .i64 1)).run Tryz.prog w = .ok (.int .i64 b) w := fun _ _ _ _ => by kernel_rfl
      have hsl : ∀ w : World, (Instr.slice 9 (.string ⟨#[100, 97, 98]⟩) (some (.int .i64 1)) (some (.int .i64 2)) none).run Tryz.prog w = .ok (.string ⟨#[97]⟩) w := fun _ => by kernel_rfl
      by_cases hlo : 0 ≤ ra
      · by_cases hhi : ra ≤ 31
        · have hb : (decide (0 ≤ ra) && decide (ra ≤ 31)) = true := by simp; omega
          go_wp2_with fail
          go_quiet ((first | (go_at_call 41; with_reducible exact quiet_left (has_72 _)) | (go_at_call 69; with_reducible exact quiet_left (con_da_a _))))
          go_wp2_with (go_at_call 37; refine (in_any _ _ _ _).mono ?_; rintro e w' ⟨rfl, rfl⟩)
          go_roundw
          case rel => exact ⟨2, by omega, rfl, Lib.hid ⟨fun _ => hok.out.1 (by decide), fun _ => by simp [regOk]; omega, fun h => by omega⟩, Lib.hid (hmw.out.drewN _)⟩
          case measure => simp [intOf]
        · have hb : (decide (0 ≤ ra) && decide (ra ≤ 31)) = false := by simp; omega
          go_wp2_with fail
          go_quiet ((first | (go_at_call 41; with_reducible exact quiet_left (has_72 _)) | (go_at_call 69; with_reducible exact quiet_left (con_da_a _))))
          go_wp2_with (go_at_call 37; refine (in_any _ _ _ _).mono ?_; rintro e w' ⟨rfl, rfl⟩)
          go_ret
          refine ⟨ret_bool ?_, HALL.out.drewN _⟩
          have hk := HRIGHT.out
          rw [hk]
          simp only [regOk, Bool.and_eq_false_iff, Bool.or_eq_false_iff, decide_eq_false_iff_not, beq_eq_false_iff_ne]
          simp
          omega
      · have hb : (decide (0 ≤ ra) && decide (ra ≤ 31)) = false := by simp; omega
        go_wp2_with fail
        go_quiet ((first | (go_at_call 41; with_reducible exact quiet_left (has_72 _)) | (go_at_call 69; with_reducible exact quiet_left (con_da_a _))))
        go_wp2_with (go_at_call 37; refine (in_any _ _ _ _).mono ?_; rintro e w' ⟨rfl, rfl⟩)
        go_ret
        refine ⟨ret_bool ?_, HALL.out.drewN _⟩
        have hk := HRIGHT.out
        rw [hk]
        simp only [regOk, Bool.and_eq_false_iff, Bool.or_eq_false_iff, decide_eq_false_iff_not, beq_eq_false_iff_ne]
        simp
        omega
    · have hix : ∀ (a b c : Int) (w : World), (Instr.index 94 (.agg #[.int .i64 a, .int .i64 b, .int .i64 c]) (.int .i64 2)).run Tryz.prog w = .ok (.int .i64 c) w := fun _ _ _ _ => by kernel_rfl
      have hsl : ∀ w : World, (Instr.slice 9 (.string ⟨#[100, 97, 98]⟩) (some (.int .i64 2)) (some (.int .i64 3)) none).run Tryz.prog w = .ok (.string ⟨#[98]⟩) w := fun _ => by kernel_rfl
      by_cases hlo : 0 ≤ rb
      · by_cases hhi : rb ≤ 31
        · have hb : (decide (0 ≤ rb) && decide (rb ≤ 31)) = true := by simp; omega
          by_cases hz : rb = 0
          · have hzb : (rb != 0) = false := by simpa using hz
            have HZ := Lib.hid hz
            clear hz
            go_wp2_with fail
            go_quiet ((first | (go_at_call 41; with_reducible exact quiet_left (has_72 _)) | (go_at_call 69; with_reducible exact quiet_left (con_da_b _))))
            go_wp2_with (go_at_call 37; refine (in_any _ _ _ _).mono ?_; rintro e w' ⟨rfl, rfl⟩)
            go_roundw
            case rel => exact ⟨3, by omega, rfl, Lib.hid ⟨fun _ => hok.out.1 (by decide), fun _ => hok.out.2.1 (by decide), fun _ => by have hz := HZ.out; simp [regOk]; omega⟩, Lib.hid (hmw.out.drewN _)⟩
            case measure => simp [intOf]
          · have hzb : (rb != 0) = true := by simpa using hz
            go_wp2_with fail
            go_quiet ((first | (go_at_call 41; with_reducible exact quiet_left (has_72 _)) | (go_at_call 69; with_reducible exact quiet_left (con_da_b _))))
            go_wp2_with (go_at_call 37; refine (in_any _ _ _ _).mono ?_; rintro e w' ⟨rfl, rfl⟩)
            go_ret
            refine ⟨ret_bool ?_, HALL.out.drewN _⟩
            have hk := HRIGHT.out
            rw [hk]
            simp only [regOk, Bool.and_eq_false_iff, Bool.or_eq_false_iff, decide_eq_false_iff_not, beq_eq_false_iff_ne]
            simp
            omega
        · have hb : (decide (0 ≤ rb) && decide (rb ≤ 31)) = false := by simp; omega
          go_wp2_with fail
          go_quiet ((first | (go_at_call 41; with_reducible exact quiet_left (has_72 _)) | (go_at_call 69; with_reducible exact quiet_left (con_da_b _))))
          go_wp2_with (go_at_call 37; refine (in_any _ _ _ _).mono ?_; rintro e w' ⟨rfl, rfl⟩)
          go_ret
          refine ⟨ret_bool ?_, HALL.out.drewN _⟩
          have hk := HRIGHT.out
          rw [hk]
          simp only [regOk, Bool.and_eq_false_iff, Bool.or_eq_false_iff, decide_eq_false_iff_not, beq_eq_false_iff_ne]
          simp
          omega
      · have hb : (decide (0 ≤ rb) && decide (rb ≤ 31)) = false := by simp; omega
        go_wp2_with fail
        go_quiet ((first | (go_at_call 41; with_reducible exact quiet_left (has_72 _)) | (go_at_call 69; with_reducible exact quiet_left (con_da_b _))))
        go_wp2_with (go_at_call 37; refine (in_any _ _ _ _).mono ?_; rintro e w' ⟨rfl, rfl⟩)
        go_ret
        refine ⟨ret_bool ?_, HALL.out.drewN _⟩
        have hk := HRIGHT.out
        rw [hk]
        simp only [regOk, Bool.and_eq_false_iff, Bool.or_eq_false_iff, decide_eq_false_iff_not, beq_eq_false_iff_ne]
        simp
        omega
    · have HR : Hid (regOk true rd = true ∧ regOk true ra = true ∧ regOk false rb = true) := Lib.hid ⟨hok.out.1 (by decide), hok.out.2.1 (by decide), hok.out.2.2 (by decide)⟩
      have hx := F1.out
      have c4 := ((HM3.out.trans hmw.out)).cellOf F1.out.c4 (fun f => f)
      clear hx
      go_wp2_with (first | (go_at_call 70; refine (signs_72 _).mono ?_; rintro e w' ⟨rfl, rfl⟩) | (go_at_call 37; refine (in_any _ _ _ _).mono ?_; rintro e w' ⟨rfl, rfl⟩))
      go_ret
      refine ⟨ret_bool ?_, HALL.out⟩
      have hk := HRIGHT.out
      rw [hk, HR.out.1, HR.out.2.1, HR.out.2.2]
      simp [restB]
      rw [Bool.eq_iff_iff]
      simp
      omega
set_option maxRecDepth 100000 in
set_option maxHeartbeats 1000000 in
theorem right_83_ok (x : Ins) (W : World) (h1 : 1 ≤ x.op) (h2 : x.op ≤ 31) (hk : kindOf x.op = 83) : Calls Tryz.prog 34 #[x.val] W fun e W' => e = .returned (.bool x.right) ∧ Mods None W W' := by
  obtain ⟨p, rd, ra, rb, n⟩ := x
  simp only at h1 h2 hk
  obtain ⟨W1, hW1⟩ : ∃ W1, W1 = W.alloc (.cells (instCells p rd ra rb n) 30) := ⟨_, rfl⟩
  have F1 : Hid (Five W1 W.heap.size p rd ra rb n) := Lib.hid (by rw [hW1]; exact five_new W _ _ _ _ _ 30)
  have HM : Hid (Mods None W W1) := Lib.hid (by rw [hW1]; exact (Mods.refl _ _).alloc _)
  have HRIGHT : Hid ((Ins.mk p rd ra rb n).right = (regOk false rd && regOk true ra && regOk true rb && restB 83 n)) := Lib.hid (right_eq_83 p rd ra rb n h1 h2 hk)
  simp only [Ins.val]
  have HF := form_parts p h1 h2 W1
  rw [hk] at HF
  obtain ⟨l, hl⟩ : ∃ l, l = lowOf p := ⟨_, rfl⟩
  obtain ⟨m, hm⟩ : ∃ m, m = midOf p := ⟨_, rfl⟩
  obtain ⟨hi, hh⟩ : ∃ hi, hi = highOf p := ⟨_, rfl⟩
  obtain ⟨nm, hn⟩ : ∃ nm, nm = nameOf p := ⟨_, rfl⟩
  rw [← hl, ← hm, ← hh, ← hn] at HF
  have HFF := Lib.hid HF
  clear HF hl hm hh hn hk
  have c0 := F1.out.c0
  go_enter Tryz.func34, Tryz.ntmps34
  go_wp2_with fail
  rw [← hW1]
  clear hW1
  clear c0
  refine HFF.out.mono ?_
  rintro e w2 ⟨rfl, hm2⟩
  obtain ⟨W3, hW3⟩ : ∃ W3, W3 = w2.alloc (.cells #[.int .u8 83, .int .u32 l, .int .u32 m, .int .u32 hi, .string nm] 87) := ⟨_, rfl⟩
  have HM3 : Hid (Mods None W1 W3) := Lib.hid (by rw [hW3]; exact hm2.alloc _)
  have HB3 : Hid (Blk W3 w2.heap.size [.int .u8 83, .int .u32 l, .int .u32 m, .int .u32 hi, .string nm] 87) := Lib.hid (by rw [hW3]; exact Blk.new w2 _ _)
  go_upto_region 2 with (fail)
  rw [← hW3]
  clear hW3 hm2
  obtain ⟨c0, c1, c2, c3, c4, cf⟩ := F1.out
  have c1 := HM3.out.cellOf c1 (fun f => f)
  have c2 := HM3.out.cellOf c2 (fun f => f)
  have c3 := HM3.out.cellOf c3 (fun f => f)
  clear c0 c4 cf
  go_wp2_with fail
  clear c1 c2 c3
  go_loopw [26] (fun v wr => ∃ i : Nat, i ≤ 3 ∧ v = .int .i64 i ∧ Hid ((1 ≤ i → regOk false rd = true) ∧ (2 ≤ i → regOk true ra = true) ∧ (3 ≤ i → regOk true rb = true)) ∧ Hid (Mods None W3 wr)) (fun v _ => (3 - intOf v).toNat)
  case atStart => exact ⟨0, by omega, rfl, Lib.hid ⟨fun h => by omega, fun h => by omega, fun h => by omega⟩, Lib.hid (Mods.refl _ _)⟩
  case round =>
    obtain ⟨i, hi3, rfl, hok, hmw⟩ := hrel
    have f0 : wr.cell? ⟨w2.heap.size, 0, none⟩ = some (.int .u8 83) := (HB3.out.mods hmw.out (fun f => f)).cell rfl
    have HALL : Hid (Mods None W wr) := Lib.hid ((HM.out.trans HM3.out).trans hmw.out)
    have hcase : i = 0 ∨ i = 1 ∨ i = 2 ∨ i = 3 := by omega
    rcases hcase with rfl | rfl | rfl | rfl
    · have hix : ∀ (a b c : Int) (w : World), (Instr.index 94 (.agg #[.int .i64 a, .int .i64 b, .int .i64 c]) (.int .i64 0)).run Tryz.prog w = .ok (.int .i64 a) w := fun _ _ _ _ => by kernel_rfl
      have hsl : ∀ w : World, (Instr.slice 9 (.string ⟨#[100, 97, 98]⟩) (some (.int .i64 0)) (some (.int .i64 1)) none).run Tryz.prog w = .ok (.string ⟨#[100]⟩) w := fun _ => by kernel_rfl
      by_cases hlo : 0 ≤ rd
      · by_cases hhi : rd ≤ 31
        · have hb : (decide (0 ≤ rd) && decide (rd ≤ 31)) = true := by simp; omega
          by_cases hz : rd = 0
          · have hzb : (rd != 0) = false := by simpa using hz
            have HZ := Lib.hid hz
            clear hz
            go_wp2_with fail
            go_quiet ((first | (go_at_call 41; with_reducible exact quiet_left (has_83 _)) | (go_at_call 69; with_reducible exact quiet_left (con_ab_d _))))
            go_wp2_with (go_at_call 37; refine (in_any _ _ _ _).mono ?_; rintro e w' ⟨rfl, rfl⟩)
            go_roundw
            case rel => exact ⟨1, by omega, rfl, Lib.hid ⟨fun _ => by have hz := HZ.out; simp [regOk]; omega, fun h => by omega, fun h => by omega⟩, Lib.hid (hmw.out.drewN _)⟩
            case measure => simp [intOf]
          · have hzb : (rd != 0) = true := by simpa using hz
            go_wp2_with fail
            go_quiet ((first | (go_at_call 41; with_reducible exact quiet_left (has_83 _)) | (go_at_call 69; with_reducible exact quiet_left (con_ab_d _))))
            go_wp2_with (go_at_call 37; refine (in_any _ _ _ _).mono ?_; rintro e w' ⟨rfl, rfl⟩)
            go_ret
            refine ⟨ret_bool ?_, HALL.out.drewN _⟩
            have hk := HRIGHT.out
            rw [hk]
            simp only [regOk, Bool.and_eq_false_iff, Bool.or_eq_false_iff, decide_eq_false_iff_not, beq_eq_false_iff_ne]
            simp
            omega
        · have hb : (decide (0 ≤ rd) && decide (rd ≤ 31)) = false := by simp; omega
          go_wp2_with fail
          go_quiet ((first | (go_at_call 41; with_reducible exact quiet_left (has_83 _)) | (go_at_call 69; with_reducible exact quiet_left (con_ab_d _))))
          go_wp2_with (go_at_call 37; refine (in_any _ _ _ _).mono ?_; rintro e w' ⟨rfl, rfl⟩)
          go_ret
          refine ⟨ret_bool ?_, HALL.out.drewN _⟩
          have hk := HRIGHT.out
          rw [hk]
          simp only [regOk, Bool.and_eq_false_iff, Bool.or_eq_false_iff, decide_eq_false_iff_not, beq_eq_false_iff_ne]
          simp
          omega
      · have hb : (decide (0 ≤ rd) && decide (rd ≤ 31)) = false := by simp; omega
        go_wp2_with fail
        go_quiet ((first | (go_at_call 41; with_reducible exact quiet_left (has_83 _)) | (go_at_call 69; with_reducible exact quiet_left (con_ab_d _))))
        go_wp2_with (go_at_call 37; refine (in_any _ _ _ _).mono ?_; rintro e w' ⟨rfl, rfl⟩)
        go_ret
        refine ⟨ret_bool ?_, HALL.out.drewN _⟩
        have hk := HRIGHT.out
        rw [hk]
        simp only [regOk, Bool.and_eq_false_iff, Bool.or_eq_false_iff, decide_eq_false_iff_not, beq_eq_false_iff_ne]
        simp
        omega
    · have hix : ∀ (a b c : Int) (w : World), (Instr.index 94 (.agg #[.int .i64 a, .int .i64 b, .int .i64 c]) (.int .i64 1)).run Tryz.prog w = .ok (.int .i64 b) w := fun _ _ _ _ => by kernel_rfl
      have hsl : ∀ w : World, (Instr.slice 9 (.string ⟨#[100, 97, 98]⟩) (some (.int .i64 1)) (some (.int .i64 2)) none).run Tryz.prog w = .ok (.string ⟨#[97]⟩) w := fun _ => by kernel_rfl
      by_cases hlo : 0 ≤ ra
      · by_cases hhi : ra ≤ 31
        · have hb : (decide (0 ≤ ra) && decide (ra ≤ 31)) = true := by simp; omega
          go_wp2_with fail
          go_quiet ((first | (go_at_call 41; with_reducible exact quiet_left (has_83 _)) | (go_at_call 69; with_reducible exact quiet_left (con_ab_a _))))
          go_wp2_with (go_at_call 37; refine (in_any _ _ _ _).mono ?_; rintro e w' ⟨rfl, rfl⟩)
          go_roundw
          case rel => exact ⟨2, by omega, rfl, Lib.hid ⟨fun _ => hok.out.1 (by decide), fun _ => by simp [regOk]; omega, fun h => by omega⟩, Lib.hid (hmw.out.drewN _)⟩
          case measure => simp [intOf]
        · have hb : (decide (0 ≤ ra) && decide (ra ≤ 31)) = false := by simp; omega
          go_wp2_with fail
          go_quiet ((first | (go_at_call 41; with_reducible exact quiet_left (has_83 _)) | (go_at_call 69; with_reducible exact quiet_left (con_ab_a _))))
          go_wp2_with (go_at_call 37; refine (in_any _ _ _ _).mono ?_; rintro e w' ⟨rfl, rfl⟩)
          go_ret
          refine ⟨ret_bool ?_, HALL.out.drewN _⟩
          have hk := HRIGHT.out
          rw [hk]
          simp only [regOk, Bool.and_eq_false_iff, Bool.or_eq_false_iff, decide_eq_false_iff_not, beq_eq_false_iff_ne]
          simp
          omega
      · have hb : (decide (0 ≤ ra) && decide (ra ≤ 31)) = false := by simp; omega
        go_wp2_with fail
        go_quiet ((first | (go_at_call 41; with_reducible exact quiet_left (has_83 _)) | (go_at_call 69; with_reducible exact quiet_left (con_ab_a _))))
        go_wp2_with (go_at_call 37; refine (in_any _ _ _ _).mono ?_; rintro e w' ⟨rfl, rfl⟩)
        go_ret
        refine ⟨ret_bool ?_, HALL.out.drewN _⟩
        have hk := HRIGHT.out
        rw [hk]
        simp only [regOk, Bool.and_eq_false_iff, Bool.or_eq_false_iff, decide_eq_false_iff_not, beq_eq_false_iff_ne]
        simp
        omega
    · have hix : ∀ (a b c : Int) (w : World), (Instr.index 94 (.agg #[.int .i64 a, .int .i64 b, .int .i64 c]) (.int .i64 2)).run Tryz.prog w = .ok (.int .i64 c) w := fun _ _ _ _ => by kernel_rfl
      have hsl : ∀ w : World, (Instr.slice 9 (.string ⟨#[100, 97, 98]⟩) (some (.int .i64 2)) (some (.int .i64 3)) none).run Tryz.prog w = .ok (.string ⟨#[98]⟩) w := fun _ => by kernel_rfl
      by_cases hlo : 0 ≤ rb
      · by_cases hhi : rb ≤ 31
        · have hb : (decide (0 ≤ rb) && decide (rb ≤ 31)) = true := by simp; omega
          go_wp2_with fail
          go_quiet ((first | (go_at_call 41; with_reducible exact quiet_left (has_83 _)) | (go_at_call 69; with_reducible exact quiet_left (con_ab_b _))))
          go_wp2_with (go_at_call 37; refine (in_any _ _ _ _).mono ?_; rintro e w' ⟨rfl, rfl⟩)
          go_roundw
          case rel => exact ⟨3, by omega, rfl, Lib.hid ⟨fun _ => hok.out.1 (by decide), fun _ => hok.out.2.1 (by decide), fun _ => by simp [regOk]; omega⟩, Lib.hid (hmw.out.drewN _)⟩
          case measure => simp [intOf]
        · have hb : (decide (0 ≤ rb) && decide (rb ≤ 31)) = false := by simp; omega
          go_wp2_with fail
          go_quiet ((first | (go_at_call 41; with_reducible exact quiet_left (has_83 _)) | (go_at_call 69; with_reducible exact quiet_left (con_ab_b _))))
          go_wp2_with (go_at_call 37; refine (in_any _ _ _ _).mono ?_; rintro e w' ⟨rfl, rfl⟩)
          go_ret
          refine ⟨ret_bool ?_, HALL.out.drewN _⟩
          have hk := HRIGHT.out
          rw [hk]
          simp only [regOk, Bool.and_eq_false_iff, Bool.or_eq_false_iff, decide_eq_false_iff_not, beq_eq_false_iff_ne]
          simp
          omega
      · have hb : (decide (0 ≤ rb) && decide (rb ≤ 31)) = false := by simp; omega
        go_wp2_with fail
        go_quiet ((first | (go_at_call 41; with_reducible exact quiet_left (has_83 _)) | (go_at_call 69; with_reducible exact quiet_left (con_ab_b _))))
        go_wp2_with (go_at_call 37; refine (in_any _ _ _ _).mono ?_; rintro e w' ⟨rfl, rfl⟩)
        go_ret
        refine ⟨ret_bool ?_, HALL.out.drewN _⟩
        have hk := HRIGHT.out
        rw [hk]
        simp only [regOk, Bool.and_eq_false_iff, Bool.or_eq_false_iff, decide_eq_false_iff_not, beq_eq_false_iff_ne]
        simp
        omega
    · have HR : Hid (regOk false rd = true ∧ regOk true ra = true ∧ regOk true rb = true) := Lib.hid ⟨hok.out.1 (by decide), hok.out.2.1 (by decide), hok.out.2.2 (by decide)⟩
      have hx := F1.out
      have c4 := ((HM3.out.trans hmw.out)).cellOf F1.out.c4 (fun f => f)
      clear hx
      have ht := tmod_zero n 1
      by_cases hlo : -2048 ≤ n
      · by_cases hhi : n ≤ 2047
        · have hb : (decide (-2048 ≤ n) && decide (n ≤ 2047)) = true := by simp; omega
          go_wp2_with (first | (go_at_call 70; refine (signs_83 _).mono ?_; rintro e w' ⟨rfl, rfl⟩) | (go_at_call 37; refine (in_any _ _ _ _).mono ?_; rintro e w' ⟨rfl, rfl⟩))
          go_ret
          refine ⟨ret_bool ?_, HALL.out⟩
          have hk := HRIGHT.out
          rw [hk, HR.out.1, HR.out.2.1, HR.out.2.2]
          simp [restB, fitB]
          try omega
        · have hb : (decide (-2048 ≤ n) && decide (n ≤ 2047)) = false := by simp; omega
          go_wp2_with (first | (go_at_call 70; refine (signs_83 _).mono ?_; rintro e w' ⟨rfl, rfl⟩) | (go_at_call 37; refine (in_any _ _ _ _).mono ?_; rintro e w' ⟨rfl, rfl⟩))
          go_ret
          refine ⟨ret_bool ?_, HALL.out⟩
          have hk := HRIGHT.out
          rw [hk, HR.out.1, HR.out.2.1, HR.out.2.2]
          simp [restB, fitB]
          try omega
      · have hb : (decide (-2048 ≤ n) && decide (n ≤ 2047)) = false := by simp; omega
        go_wp2_with (first | (go_at_call 70; refine (signs_83 _).mono ?_; rintro e w' ⟨rfl, rfl⟩) | (go_at_call 37; refine (in_any _ _ _ _).mono ?_; rintro e w' ⟨rfl, rfl⟩))
        go_ret
        refine ⟨ret_bool ?_, HALL.out⟩
        have hk := HRIGHT.out
        rw [hk, HR.out.1, HR.out.2.1, HR.out.2.2]
        simp [restB, fitB]
        try omega
set_option maxRecDepth 100000 in
set_option maxHeartbeats 1000000 in
theorem right_66_ok (x : Ins) (W : World) (h1 : 1 ≤ x.op) (h2 : x.op ≤ 31) (hk : kindOf x.op = 66) : Calls Tryz.prog 34 #[x.val] W fun e W' => e = .returned (.bool x.right) ∧ Mods None W W' := by
  obtain ⟨p, rd, ra, rb, n⟩ := x
  simp only at h1 h2 hk
  obtain ⟨W1, hW1⟩ : ∃ W1, W1 = W.alloc (.cells (instCells p rd ra rb n) 30) := ⟨_, rfl⟩
  have F1 : Hid (Five W1 W.heap.size p rd ra rb n) := Lib.hid (by rw [hW1]; exact five_new W _ _ _ _ _ 30)
  have HM : Hid (Mods None W W1) := Lib.hid (by rw [hW1]; exact (Mods.refl _ _).alloc _)
  have HRIGHT : Hid ((Ins.mk p rd ra rb n).right = (regOk false rd && regOk true ra && regOk true rb && restB 66 n)) := Lib.hid (right_eq_66 p rd ra rb n h1 h2 hk)
  simp only [Ins.val]
  have HF := form_parts p h1 h2 W1
  rw [hk] at HF
  obtain ⟨l, hl⟩ : ∃ l, l = lowOf p := ⟨_, rfl⟩
  obtain ⟨m, hm⟩ : ∃ m, m = midOf p := ⟨_, rfl⟩
  obtain ⟨hi, hh⟩ : ∃ hi, hi = highOf p := ⟨_, rfl⟩
  obtain ⟨nm, hn⟩ : ∃ nm, nm = nameOf p := ⟨_, rfl⟩
  rw [← hl, ← hm, ← hh, ← hn] at HF
  have HFF := Lib.hid HF
  clear HF hl hm hh hn hk
  have c0 := F1.out.c0
  go_enter Tryz.func34, Tryz.ntmps34
  go_wp2_with fail
  rw [← hW1]
  clear hW1
  clear c0
  refine HFF.out.mono ?_
  rintro e w2 ⟨rfl, hm2⟩
  obtain ⟨W3, hW3⟩ : ∃ W3, W3 = w2.alloc (.cells #[.int .u8 66, .int .u32 l, .int .u32 m, .int .u32 hi, .string nm] 87) := ⟨_, rfl⟩
  have HM3 : Hid (Mods None W1 W3) := Lib.hid (by rw [hW3]; exact hm2.alloc _)
  have HB3 : Hid (Blk W3 w2.heap.size [.int .u8 66, .int .u32 l, .int .u32 m, .int .u32 hi, .string nm] 87) := Lib.hid (by rw [hW3]; exact Blk.new w2 _ _)
  go_upto_region 2 with (fail)
  rw [← hW3]
  clear hW3 hm2
  obtain ⟨c0, c1, c2, c3, c4, cf⟩ := F1.out
  have c1 := HM3.out.cellOf c1 (fun f => f)
  have c2 := HM3.out.cellOf c2 (fun f => f)
  have c3 := HM3.out.cellOf c3 (fun f => f)
  clear c0 c4 cf
  go_wp2_with fail
  clear c1 c2 c3
  go_loopw [26] (fun v wr => ∃ i : Nat, i ≤ 3 ∧ v = .int .i64 i ∧ Hid ((1 ≤ i → regOk false rd = true) ∧ (2 ≤ i → regOk true ra = true) ∧ (3 ≤ i → regOk true rb = true)) ∧ Hid (Mods None W3 wr)) (fun v _ => (3 - intOf v).toNat)
  case atStart => exact ⟨0, by omega, rfl, Lib.hid ⟨fun h => by omega, fun h => by omega, fun h => by omega⟩, Lib.hid (Mods.refl _ _)⟩
  case round =>
    obtain ⟨i, hi3, rfl, hok, hmw⟩ := hrel
    have f0 : wr.cell? ⟨w2.heap.size, 0, none⟩ = some (.int .u8 66) := (HB3.out.mods hmw.out (fun f => f)).cell rfl
    have HALL : Hid (Mods None W wr) := Lib.hid ((HM.out.trans HM3.out).trans hmw.out)
    have hcase : i = 0 ∨ i = 1 ∨ i = 2 ∨ i = 3 := by omega
    rcases hcase with rfl | rfl | rfl | rfl
    · have hix : ∀ (a b c : Int) (w : World), (Instr.index 94 (.agg #[.int .i64 a, .int .i64 b, .int .i64 c]) (.int .i64 0)).run Tryz.prog w = .ok (.int .i64 a) w := fun _ _ _ _ => by kernel_rfl
      have hsl : ∀ w : World, (Instr.slice 9 (.string ⟨#[100, 97, 98]⟩) (some (.int .i64 0)) (some (.int .i64 1)) none).run Tryz.prog w = .ok (.string ⟨#[100]⟩) w := fun _ => by kernel_rfl
      by_cases hlo : 0 ≤ rd
      · by_cases hhi : rd ≤ 31
        · have hb : (decide (0 ≤ rd) && decide (rd ≤ 31)) = true := by simp; omega
          by_cases hz : rd = 0
          · have hzb : (rd != 0) = false := by simpa using hz
            have HZ := Lib.hid hz
            clear hz
            go_wp2_with fail
            go_quiet ((first | (go_at_call 41; with_reducible exact quiet_left (has_66 _)) | (go_at_call 69; with_reducible exact quiet_left (con_ab_d _))))
            go_wp2_with (go_at_call 37; refine (in_any _ _ _ _).mono ?_; rintro e w' ⟨rfl, rfl⟩)
            go_roundw
            case rel => exact ⟨1, by omega, rfl, Lib.hid ⟨fun _ => by have hz := HZ.out; simp [regOk]; omega, fun h => by omega, fun h => by omega⟩, Lib.hid (hmw.out.drewN _)⟩
            case measure => simp [intOf]
          · have hzb : (rd != 0) = true := by simpa using hz
            go_wp2_with fail
            go_quiet ((first | (go_at_call 41; with_reducible exact quiet_left (has_66 _)) | (go_at_call 69; with_reducible exact quiet_left (con_ab_d _))))
            go_wp2_with (go_at_call 37; refine (in_any _ _ _ _).mono ?_; rintro e w' ⟨rfl, rfl⟩)
            go_ret
            refine ⟨ret_bool ?_, HALL.out.drewN _⟩
            have hk := HRIGHT.out
            rw [hk]
            simp only [regOk, Bool.and_eq_false_iff, Bool.or_eq_false_iff, decide_eq_false_iff_not, beq_eq_false_iff_ne]
            simp
            omega
        · have hb : (decide (0 ≤ rd) && decide (rd ≤ 31)) = false := by simp; omega
          go_wp2_with fail
          go_quiet ((first | (go_at_call 41; with_reducible exact quiet_left (has_66 _)) | (go_at_call 69; with_reducible exact quiet_left (con_ab_d _))))
          go_wp2_with (go_at_call 37; refine (in_any _ _ _ _).mono ?_; rintro e w' ⟨rfl, rfl⟩)
          go_ret
          refine ⟨ret_bool ?_, HALL.out.drewN _⟩
          have hk := HRIGHT.out
          rw [hk]
          simp only [regOk, Bool.and_eq_false_iff, Bool.or_eq_false_iff, decide_eq_false_iff_not, beq_eq_false_iff_ne]
          simp
          omega
      · have hb : (decide (0 ≤ rd) && decide (rd ≤ 31)) = false := by simp; omega
        go_wp2_with fail
        go_quiet ((first | (go_at_call 41; with_reducible exact quiet_left (has_66 _)) | (go_at_call 69; with_reducible exact quiet_left (con_ab_d _))))
        go_wp2_with (go_at_call 37; refine (in_any _ _ _ _).mono ?_; rintro e w' ⟨rfl, rfl⟩)
        go_ret
        refine ⟨ret_bool ?_, HALL.out.drewN _⟩
        have hk := HRIGHT.out
        rw [hk]
        simp only [regOk, Bool.and_eq_false_iff, Bool.or_eq_false_iff, decide_eq_false_iff_not, beq_eq_false_iff_ne]
        simp
        omega
    · have hix : ∀ (a b c : Int) (w : World), (Instr.index 94 (.agg #[.int .i64 a, .int .i64 b, .int .i64 c]) (.int .i64 1)).run Tryz.prog w = .ok (.int .i64 b) w := fun _ _ _ _ => by kernel_rfl
      have hsl : ∀ w : World, (Instr.slice 9 (.string ⟨#[100, 97, 98]⟩) (some (.int .i64 1)) (some (.int .i64 2)) none).run Tryz.prog w = .ok (.string ⟨#[97]⟩) w := fun _ => by kernel_rfl
      by_cases hlo : 0 ≤ ra
      · by_cases hhi : ra ≤ 31
        · have hb : (decide (0 ≤ ra) && decide (ra ≤ 31)) = true := by simp; omega
          go_wp2_with fail
          go_quiet ((first | (go_at_call 41; with_reducible exact quiet_left (has_66 _)) | (go_at_call 69; with_reducible exact quiet_left (con_ab_a _))))
          go_wp2_with (go_at_call 37; refine (in_any _ _ _ _).mono ?_; rintro e w' ⟨rfl, rfl⟩)
          go_roundw
          case rel => exact ⟨2, by omega, rfl, Lib.hid ⟨fun _ => hok.out.1 (by decide), fun _ => by simp [regOk]; omega, fun h => by omega⟩, Lib.hid (hmw.out.drewN _)⟩
          case measure => simp [intOf]
        · have hb : (decide (0 ≤ ra) && decide (ra ≤ 31)) = false := by simp; omega
          go_wp2_with fail
          go_quiet ((first | (go_at_call 41; with_reducible exact quiet_left (has_66 _)) | (go_at_call 69; with_reducible exact quiet_left (con_ab_a _))))
          go_wp2_with (go_at_call 37; refine (in_any _ _ _ _).mono ?_; rintro e w' ⟨rfl, rfl⟩)
          go_ret
          refine ⟨ret_bool ?_, HALL.out.drewN _⟩
          have hk := HRIGHT.out
          rw [hk]
          simp only [regOk, Bool.and_eq_false_iff, Bool.or_eq_false_iff, decide_eq_false_iff_not, beq_eq_false_iff_ne]
          simp
          omega
      · have hb : (decide (0 ≤ ra) && decide (ra ≤ 31)) = false := by simp; omega
        go_wp2_with fail
        go_quiet ((first | (go_at_call 41; with_reducible exact quiet_left (has_66 _)) | (go_at_call 69; with_reducible exact quiet_left (con_ab_a _))))
        go_wp2_with (go_at_call 37; refine (in_any _ _ _ _).mono ?_; rintro e w' ⟨rfl, rfl⟩)
        go_ret
        refine ⟨ret_bool ?_, HALL.out.drewN _⟩
        have hk := HRIGHT.out
        rw [hk]
        simp only [regOk, Bool.and_eq_false_iff, Bool.or_eq_false_iff, decide_eq_false_iff_not, beq_eq_false_iff_ne]
        simp
        omega
    · have hix : ∀ (a b c : Int) (w : World), (Instr.index 94 (.agg #[.int .i64 a, .int .i64 b, .int .i64 c]) (.int .i64 2)).run Tryz.prog w = .ok (.int .i64 c) w := fun _ _ _ _ => by kernel_rfl
      have hsl : ∀ w : World, (Instr.slice 9 (.string ⟨#[100, 97, 98]⟩) (some (.int .i64 2)) (some (.int .i64 3)) none).run Tryz.prog w = .ok (.string ⟨#[98]⟩) w := fun _ => by kernel_rfl
      by_cases hlo : 0 ≤ rb
      · by_cases hhi : rb ≤ 31
        · have hb : (decide (0 ≤ rb) && decide (rb ≤ 31)) = true := by simp; omega
          go_wp2_with fail
          go_quiet ((first | (go_at_call 41; with_reducible exact quiet_left (has_66 _)) | (go_at_call 69; with_reducible exact quiet_left (con_ab_b _))))
          go_wp2_with (go_at_call 37; refine (in_any _ _ _ _).mono ?_; rintro e w' ⟨rfl, rfl⟩)
          go_roundw
          case rel => exact ⟨3, by omega, rfl, Lib.hid ⟨fun _ => hok.out.1 (by decide), fun _ => hok.out.2.1 (by decide), fun _ => by simp [regOk]; omega⟩, Lib.hid (hmw.out.drewN _)⟩
          case measure => simp [intOf]
        · have hb : (decide (0 ≤ rb) && decide (rb ≤ 31)) = false := by simp; omega
          go_wp2_with fail
          go_quiet ((first | (go_at_call 41; with_reducible exact quiet_left (has_66 _)) | (go_at_call 69; with_reducible exact quiet_left (con_ab_b _))))
          go_wp2_with (go_at_call 37; refine (in_any _ _ _ _).mono ?_; rintro e w' ⟨rfl, rfl⟩)
          go_ret
          refine ⟨ret_bool ?_, HALL.out.drewN _⟩
          have hk := HRIGHT.out
          rw [hk]
          simp only [regOk, Bool.and_eq_false_iff, Bool.or_eq_false_iff, decide_eq_false_iff_not, beq_eq_false_iff_ne]
          simp
          omega
      · have hb : (decide (0 ≤ rb) && decide (rb ≤ 31)) = false := by simp; omega
        go_wp2_with fail
        go_quiet ((first | (go_at_call 41; with_reducible exact quiet_left (has_66 _)) | (go_at_call 69; with_reducible exact quiet_left (con_ab_b _))))
        go_wp2_with (go_at_call 37; refine (in_any _ _ _ _).mono ?_; rintro e w' ⟨rfl, rfl⟩)
        go_ret
        refine ⟨ret_bool ?_, HALL.out.drewN _⟩
        have hk := HRIGHT.out
        rw [hk]
        simp only [regOk, Bool.and_eq_false_iff, Bool.or_eq_false_iff, decide_eq_false_iff_not, beq_eq_false_iff_ne]
        simp
        omega
    · have HR : Hid (regOk false rd = true ∧ regOk true ra = true ∧ regOk true rb = true) := Lib.hid ⟨hok.out.1 (by decide), hok.out.2.1 (by decide), hok.out.2.2 (by decide)⟩
      have hx := F1.out
      have c4 := ((HM3.out.trans hmw.out)).cellOf F1.out.c4 (fun f => f)
      clear hx
      have ht := tmod_zero n 2
      by_cases hlo : -4096 ≤ n
      · by_cases hhi : n ≤ 4095
        · have hb : (decide (-4096 ≤ n) && decide (n ≤ 4095)) = true := by simp; omega
          go_wp2_with (first | (go_at_call 70; refine (signs_66 _).mono ?_; rintro e w' ⟨rfl, rfl⟩) | (go_at_call 37; refine (in_any _ _ _ _).mono ?_; rintro e w' ⟨rfl, rfl⟩))
          go_ret
          refine ⟨ret_bool ?_, HALL.out⟩
          have hk := HRIGHT.out
          rw [hk, HR.out.1, HR.out.2.1, HR.out.2.2]
          simp [restB, fitB]
          try omega
        · have hb : (decide (-4096 ≤ n) && decide (n ≤ 4095)) = false := by simp; omega
          go_wp2_with (first | (go_at_call 70; refine (signs_66 _).mono ?_; rintro e w' ⟨rfl, rfl⟩) | (go_at_call 37; refine (in_any _ _ _ _).mono ?_; rintro e w' ⟨rfl, rfl⟩))
          go_ret
          refine ⟨ret_bool ?_, HALL.out⟩
          have hk := HRIGHT.out
          rw [hk, HR.out.1, HR.out.2.1, HR.out.2.2]
          simp [restB, fitB]
          try omega
      · have hb : (decide (-4096 ≤ n) && decide (n ≤ 4095)) = false := by simp; omega
        go_wp2_with (first | (go_at_call 70; refine (signs_66 _).mono ?_; rintro e w' ⟨rfl, rfl⟩) | (go_at_call 37; refine (in_any _ _ _ _).mono ?_; rintro e w' ⟨rfl, rfl⟩))
        go_ret
        refine ⟨ret_bool ?_, HALL.out⟩
        have hk := HRIGHT.out
        rw [hk, HR.out.1, HR.out.2.1, HR.out.2.2]
        simp [restB, fitB]
        try omega
set_option maxRecDepth 100000 in
set_option maxHeartbeats 1000000 in
theorem right_85_ok (x : Ins) (W : World) (h1 : 1 ≤ x.op) (h2 : x.op ≤ 31) (hk : kindOf x.op = 85) : Calls Tryz.prog 34 #[x.val] W fun e W' => e = .returned (.bool x.right) ∧ Mods None W W' := by
  obtain ⟨p, rd, ra, rb, n⟩ := x
  simp only at h1 h2 hk
  obtain ⟨W1, hW1⟩ : ∃ W1, W1 = W.alloc (.cells (instCells p rd ra rb n) 30) := ⟨_, rfl⟩
  have F1 : Hid (Five W1 W.heap.size p rd ra rb n) := Lib.hid (by rw [hW1]; exact five_new W _ _ _ _ _ 30)
  have HM : Hid (Mods None W W1) := Lib.hid (by rw [hW1]; exact (Mods.refl _ _).alloc _)
  have HRIGHT : Hid ((Ins.mk p rd ra rb n).right = (regOk true rd && regOk false ra && regOk false rb && restB 85 n)) := Lib.hid (right_eq_85 p rd ra rb n h1 h2 hk)
  simp only [Ins.val]
  have HF := form_parts p h1 h2 W1
  rw [hk] at HF
  obtain ⟨l, hl⟩ : ∃ l, l = lowOf p := ⟨_, rfl⟩
  obtain ⟨m, hm⟩ : ∃ m, m = midOf p := ⟨_, rfl⟩
  obtain ⟨hi, hh⟩ : ∃ hi, hi = highOf p := ⟨_, rfl⟩
  obtain ⟨nm, hn⟩ : ∃ nm, nm = nameOf p := ⟨_, rfl⟩
  rw [← hl, ← hm, ← hh, ← hn] at HF
  have HFF := Lib.hid HF
  clear HF hl hm hh hn hk
  have c0 := F1.out.c0
  go_enter Tryz.func34, Tryz.ntmps34
  go_wp2_with fail
  rw [← hW1]
  clear hW1
  clear c0
  refine HFF.out.mono ?_
  rintro e w2 ⟨rfl, hm2⟩
  obtain ⟨W3, hW3⟩ : ∃ W3, W3 = w2.alloc (.cells #[.int .u8 85, .int .u32 l, .int .u32 m, .int .u32 hi, .string nm] 87) := ⟨_, rfl⟩
  have HM3 : Hid (Mods None W1 W3) := Lib.hid (by rw [hW3]; exact hm2.alloc _)
  have HB3 : Hid (Blk W3 w2.heap.size [.int .u8 85, .int .u32 l, .int .u32 m, .int .u32 hi, .string nm] 87) := Lib.hid (by rw [hW3]; exact Blk.new w2 _ _)
  go_upto_region 2 with (fail)
  rw [← hW3]
  clear hW3 hm2
  obtain ⟨c0, c1, c2, c3, c4, cf⟩ := F1.out
  have c1 := HM3.out.cellOf c1 (fun f => f)
  have c2 := HM3.out.cellOf c2 (fun f => f)
  have c3 := HM3.out.cellOf c3 (fun f => f)
  clear c0 c4 cf
  go_wp2_with fail
  clear c1 c2 c3
  go_loopw [26] (fun v wr => ∃ i : Nat, i ≤ 3 ∧ v = .int .i64 i ∧ Hid ((1 ≤ i → regOk true rd = true) ∧ (2 ≤ i → regOk false ra = true) ∧ (3 ≤ i → regOk false rb = true)) ∧ Hid (Mods None W3 wr)) (fun v _ => (3 - intOf v).toNat)
  case atStart => exact ⟨0, by omega, rfl, Lib.hid ⟨fun h => by omega, fun h => by omega, fun h => by omega⟩, Lib.hid (Mods.refl _ _)⟩
  case round =>
    obtain ⟨i, hi3, rfl, hok, hmw⟩ := hrel
    have f0 : wr.cell? ⟨w2.heap.size, 0, none⟩ = some (.int .u8 85) := (HB3.out.mods hmw.out (fun f => f)).cell rfl
    have HALL : Hid (Mods None W wr) := Lib.hid ((HM.out.trans HM3.out).trans hmw.out)
    have hcase : i = 0 ∨ i = 1 ∨ i = 2 ∨ i = 3 := by omega
    rcases hcase with rfl | rfl | rfl | rfl
    · have hix : ∀ (a b c : Int) (w : World), (Instr.index 94 (.agg #[.int .i64 a, .int .i64 b, .int .i64 c]) (.int .i64 0)).run Tryz.prog w = .ok (.int .i64 a) w := fun _ _ _ _ => by kernel_rfl
      have hsl : ∀ w : World, (Instr.slice 9 (.string ⟨#[100, 97, 98]⟩) (some (.int .i64 0)) (some (.int .i64 1)) none).run Tryz.prog w = .ok (.string ⟨#[100]⟩) w := fun _ => by kernel_rfl
      by_cases hlo : 0 ≤ rd
      · by_cases hhi : rd ≤ 31
        · have hb : (decide (0 ≤ rd) && decide (rd ≤ 31)) = true := by simp; omega
          go_wp2_with fail
          go_quiet ((first | (go_at_call 41; with_reducible exact quiet_left (has_85 _)) | (go_at_call 69; with_reducible exact quiet_left (con_d_d _))))
          go_wp2_with (go_at_call 37; refine (in_any _ _ _ _).mono ?_; rintro e w' ⟨rfl, rfl⟩)
          go_roundw
          case rel => exact ⟨1, by omega, rfl, Lib.hid ⟨fun _ => by simp [regOk]; omega, fun h => by omega, fun h => by omega⟩, Lib.hid (hmw.out.drewN _)⟩
          case measure => simp [intOf]
        · have hb : (decide (0 ≤ rd) && decide (rd ≤ 31)) = false := by simp; omega
          go_wp2_with fail
          go_quiet ((first | (go_at_call 41; with_reducible exact quiet_left (has_85 _)) | (go_at_call 69; with_reducible exact quiet_left (con_d_d _))))
          go_wp2_with (go_at_call 37; refine (in_any _ _ _ _).mono ?_; rintro e w' ⟨rfl, rfl⟩)
          go_ret
          refine ⟨ret_bool ?_, HALL.out.drewN _⟩
          have hk := HRIGHT.out
          rw [hk]
          simp only [regOk, Bool.and_eq_false_iff, Bool.or_eq_false_iff, decide_eq_false_iff_not, beq_eq_false_iff_ne]
          simp
          omega
      · have hb : (decide (0 ≤ rd) && decide (rd ≤ 31)) = false := by simp; omega
        go_wp2_with fail
        go_quiet ((first | (go_at_call 41; with_reducible exact quiet_left (has_85 _)) | (go_at_call 69; with_reducible exact quiet_left (con_d_d _))))
        go_wp2_with (go_at_call 37; refine (in_any _ _ _ _).mono ?_; rintro e w' ⟨rfl, rfl⟩)
        go_ret
        refine ⟨ret_bool ?_, HALL.out.drewN _⟩
        have hk := HRIGHT.out
        rw [hk]
        simp only [regOk, Bool.and_eq_false_iff, Bool.or_eq_false_iff, decide_eq_false_iff_not, beq_eq_false_iff_ne]
        simp
        omega
    · have hix : ∀ (a b c : Int) (w : World), (Instr.index 94 (.agg #[.int .i64 a, .int .i64 b, .int .i64 c]) (.int .i64 1)).run Tryz.prog w = .ok (.int .i64 b) w := fun _ _ _ _ => by kernel_rfl
      have hsl : ∀ w : World, (Instr.slice 9 (.string ⟨#[100, 97, 98]⟩) (some (.int .i64 1)) (some (.int .i64 2)) none).run Tryz.prog w = .ok (.string ⟨#[97]⟩) w := fun _ => by kernel_rfl
      by_cases hlo : 0 ≤ ra
      · by_cases hhi : ra ≤ 31
        · have hb : (decide (0 ≤ ra) && decide (ra ≤ 31)) = true := by simp; omega
          by_cases hz : ra = 0
          · have hzb : (ra != 0) = false := by simpa using hz
            have HZ := Lib.hid hz
            clear hz
            go_wp2_with fail
            go_quiet ((first | (go_at_call 41; with_reducible exact quiet_left (has_85 _)) | (go_at_call 69; with_reducible exact quiet_left (con_d_a _))))
            go_wp2_with (go_at_call 37; refine (in_any _ _ _ _).mono ?_; rintro e w' ⟨rfl, rfl⟩)
            go_roundw
            case rel => exact ⟨2, by omega, rfl, Lib.hid ⟨fun _ => hok.out.1 (by decide), fun _ => by have hz := HZ.out; simp [regOk]; omega, fun h => by omega⟩, Lib.hid (hmw.out.drewN _)⟩
            case measure => simp [intOf]
          · have hzb : (ra != 0) = true := by simpa using hz
            go_wp2_with fail
            go_quiet ((first | (go_at_call 41; with_reducible exact quiet_left (has_85 _)) | (go_at_call 69; with_reducible exact quiet_left (con_d_a _))))
            go_wp2_with (go_at_call 37; refine (in_any _ _ _ _).mono ?_; rintro e w' ⟨rfl, rfl⟩)
            go_ret
            refine ⟨ret_bool ?_, HALL.out.drewN _⟩
            have hk := HRIGHT.out
            rw [hk]
            simp only [regOk, Bool.and_eq_false_iff, Bool.or_eq_false_iff, decide_eq_false_iff_not, beq_eq_false_iff_ne]
            simp
            omega
        · have hb : (decide (0 ≤ ra) && decide (ra ≤ 31)) = false := by simp; omega
          go_wp2_with fail
          go_quiet ((first | (go_at_call 41; with_reducible exact quiet_left (has_85 _)) | (go_at_call 69; with_reducible exact quiet_left (con_d_a _))))
          go_wp2_with (go_at_call 37; refine (in_any _ _ _ _).mono ?_; rintro e w' ⟨rfl, rfl⟩)
          go_ret
          refine ⟨ret_bool ?_, HALL.out.drewN _⟩
          have hk := HRIGHT.out
          rw [hk]
          simp only [regOk, Bool.and_eq_false_iff, Bool.or_eq_false_iff, decide_eq_false_iff_not, beq_eq_false_iff_ne]
          simp
          omega
      · have hb : (decide (0 ≤ ra) && decide (ra ≤ 31)) = false := by simp; omega
        go_wp2_with fail
        go_quiet ((first | (go_at_call 41; with_reducible exact quiet_left (has_85 _)) | (go_at_call 69; with_reducible exact quiet_left (con_d_a _))))
        go_wp2_with (go_at_call 37; refine (in_any _ _ _ _).mono ?_; rintro e w' ⟨rfl, rfl⟩)
        go_ret
        refine ⟨ret_bool ?_, HALL.out.drewN _⟩
        have hk := HRIGHT.out
        rw [hk]
        simp only [regOk, Bool.and_eq_false_iff, Bool.or_eq_false_iff, decide_eq_false_iff_not, beq_eq_false_iff_ne]
        simp
        omega
    · have hix : ∀ (a b c : Int) (w : World), (Instr.index 94 (.agg #[.int .i64 a, .int .i64 b, .int .i64 c]) (.int .i64 2)).run Tryz.prog w = .ok (.int .i64 c) w := fun _ _ _ _ => by kernel_rfl
      have hsl : ∀ w : World, (Instr.slice 9 (.string ⟨#[100, 97, 98]⟩) (some (.int .i64 2)) (some (.int .i64 3)) none).run Tryz.prog w = .ok (.string ⟨#[98]⟩) w := fun _ => by kernel_rfl
      by_cases hlo : 0 ≤ rb
      · by_cases hhi : rb ≤ 31
        · have hb : (decide (0 ≤ rb) && decide (rb ≤ 31)) = true := by simp; omega
          by_cases hz : rb = 0
          · have hzb : (rb != 0) = false := by simpa using hz
            have HZ := Lib.hid hz
            clear hz
            go_wp2_with fail
            go_quiet ((first | (go_at_call 41; with_reducible exact quiet_left (has_85 _)) | (go_at_call 69; with_reducible exact quiet_left (con_d_b _))))
            go_wp2_with (go_at_call 37; refine (in_any _ _ _ _).mono ?_; rintro e w' ⟨rfl, rfl⟩)
            go_roundw
            case rel => exact ⟨3, by omega, rfl, Lib.hid ⟨fun _ => hok.out.1 (by decide), fun _ => hok.out.2.1 (by decide), fun _ => by have hz := HZ.out; simp [regOk]; omega⟩, Lib.hid (hmw.out.drewN _)⟩
            case measure => simp [intOf]
          · have hzb : (rb != 0) = true := by simpa using hz
            go_wp2_with fail
            go_quiet ((first | (go_at_call 41; with_reducible exact quiet_left (has_85 _)) | (go_at_call 69; with_reducible exact quiet_left (con_d_b _))))
            go_wp2_with (go_at_call 37; refine (in_any _ _ _ _).mono ?_; rintro e w' ⟨rfl, rfl⟩)
            go_ret
            refine ⟨ret_bool ?_, HALL.out.drewN _⟩
            have hk := HRIGHT.out
            rw [hk]
            simp only [regOk, Bool.and_eq_false_iff, Bool.or_eq_false_iff, decide_eq_false_iff_not, beq_eq_false_iff_ne]
            simp
            omega
        · have hb : (decide (0 ≤ rb) && decide (rb ≤ 31)) = false := by simp; omega
          go_wp2_with fail
          go_quiet ((first | (go_at_call 41; with_reducible exact quiet_left (has_85 _)) | (go_at_call 69; with_reducible exact quiet_left (con_d_b _))))
          go_wp2_with (go_at_call 37; refine (in_any _ _ _ _).mono ?_; rintro e w' ⟨rfl, rfl⟩)
          go_ret
          refine ⟨ret_bool ?_, HALL.out.drewN _⟩
          have hk := HRIGHT.out
          rw [hk]
          simp only [regOk, Bool.and_eq_false_iff, Bool.or_eq_false_iff, decide_eq_false_iff_not, beq_eq_false_iff_ne]
          simp
          omega
      · have hb : (decide (0 ≤ rb) && decide (rb ≤ 31)) = false := by simp; omega
        go_wp2_with fail
        go_quiet ((first | (go_at_call 41; with_reducible exact quiet_left (has_85 _)) | (go_at_call 69; with_reducible exact quiet_left (con_d_b _))))
        go_wp2_with (go_at_call 37; refine (in_any _ _ _ _).mono ?_; rintro e w' ⟨rfl, rfl⟩)
        go_ret
        refine ⟨ret_bool ?_, HALL.out.drewN _⟩
        have hk := HRIGHT.out
        rw [hk]
        simp only [regOk, Bool.and_eq_false_iff, Bool.or_eq_false_iff, decide_eq_false_iff_not, beq_eq_false_iff_ne]
        simp
        omega
    · have HR : Hid (regOk true rd = true ∧ regOk false ra = true ∧ regOk false rb = true) := Lib.hid ⟨hok.out.1 (by decide), hok.out.2.1 (by decide), hok.out.2.2 (by decide)⟩
      have hx := F1.out
      have c4 := ((HM3.out.trans hmw.out)).cellOf F1.out.c4 (fun f => f)
      clear hx
      have ht := tmod_zero n 4096
      by_cases hlo : -2147483648 ≤ n
      · by_cases hhi : n ≤ 2147483647
        · have hb : (decide (-2147483648 ≤ n) && decide (n ≤ 2147483647)) = true := by simp; omega
          go_wp2_with (first | (go_at_call 70; refine (signs_85 _).mono ?_; rintro e w' ⟨rfl, rfl⟩) | (go_at_call 37; refine (in_any _ _ _ _).mono ?_; rintro e w' ⟨rfl, rfl⟩))
          go_ret
          refine ⟨ret_bool ?_, HALL.out⟩
          have hk := HRIGHT.out
          rw [hk, HR.out.1, HR.out.2.1, HR.out.2.2]
          simp [restB, fitB]
          try omega
        · have hb : (decide (-2147483648 ≤ n) && decide (n ≤ 2147483647)) = false := by simp; omega
          go_wp2_with (first | (go_at_call 70; refine (signs_85 _).mono ?_; rintro e w' ⟨rfl, rfl⟩) | (go_at_call 37; refine (in_any _ _ _ _).mono ?_; rintro e w' ⟨rfl, rfl⟩))
          go_ret
          refine ⟨ret_bool ?_, HALL.out⟩
          have hk := HRIGHT.out
          rw [hk, HR.out.1, HR.out.2.1, HR.out.2.2]
          simp [restB, fitB]
          try omega
      · have hb : (decide (-2147483648 ≤ n) && decide (n ≤ 2147483647)) = false := by simp; omega
        go_wp2_with (first | (go_at_call 70; refine (signs_85 _).mono ?_; rintro e w' ⟨rfl, rfl⟩) | (go_at_call 37; refine (in_any _ _ _ _).mono ?_; rintro e w' ⟨rfl, rfl⟩))
        go_ret
        refine ⟨ret_bool ?_, HALL.out⟩
        have hk := HRIGHT.out
        rw [hk, HR.out.1, HR.out.2.1, HR.out.2.2]
        simp [restB, fitB]
        try omega
set_option maxRecDepth 100000 in
set_option maxHeartbeats 1000000 in
theorem right_74_ok (x : Ins) (W : World) (h1 : 1 ≤ x.op) (h2 : x.op ≤ 31) (hk : kindOf x.op = 74) : Calls Tryz.prog 34 #[x.val] W fun e W' => e = .returned (.bool x.right) ∧ Mods None W W' := by
  obtain ⟨p, rd, ra, rb, n⟩ := x
  simp only at h1 h2 hk
  obtain ⟨W1, hW1⟩ : ∃ W1, W1 = W.alloc (.cells (instCells p rd ra rb n) 30) := ⟨_, rfl⟩
  have F1 : Hid (Five W1 W.heap.size p rd ra rb n) := Lib.hid (by rw [hW1]; exact five_new W _ _ _ _ _ 30)
  have HM : Hid (Mods None W W1) := Lib.hid (by rw [hW1]; exact (Mods.refl _ _).alloc _)
  have HRIGHT : Hid ((Ins.mk p rd ra rb n).right = (regOk true rd && regOk false ra && regOk false rb && restB 74 n)) := Lib.hid (right_eq_74 p rd ra rb n h1 h2 hk)
  simp only [Ins.val]
  have HF := form_parts p h1 h2 W1
  rw [hk] at HF
  obtain ⟨l, hl⟩ : ∃ l, l = lowOf p := ⟨_, rfl⟩
  obtain ⟨m, hm⟩ : ∃ m, m = midOf p := ⟨_, rfl⟩
  obtain ⟨hi, hh⟩ : ∃ hi, hi = highOf p := ⟨_, rfl⟩
  obtain ⟨nm, hn⟩ : ∃ nm, nm = nameOf p := ⟨_, rfl⟩
  rw [← hl, ← hm, ← hh, ← hn] at HF
  have HFF := Lib.hid HF
  clear HF hl hm hh hn hk
  have c0 := F1.out.c0
  go_enter Tryz.func34, Tryz.ntmps34
  go_wp2_with fail
  rw [← hW1]
  clear hW1
  clear c0
  refine HFF.out.mono ?_
  rintro e w2 ⟨rfl, hm2⟩
  obtain ⟨W3, hW3⟩ : ∃ W3, W3 = w2.alloc (.cells #[.int .u8 74, .int .u32 l, .int .u32 m, .int .u32 hi, .string nm] 87) := ⟨_, rfl⟩
  have HM3 : Hid (Mods None W1 W3) := Lib.hid (by rw [hW3]; exact hm2.alloc _)
  have HB3 : Hid (Blk W3 w2.heap.size [.int .u8 74, .int .u32 l, .int .u32 m, .int .u32 hi, .string nm] 87) := Lib.hid (by rw [hW3]; exact Blk.new w2 _ _)
  go_upto_region 2 with (fail)
  rw [← hW3]
  clear hW3 hm2
  obtain ⟨c0, c1, c2, c3, c4, cf⟩ := F1.out
  have c1 := HM3.out.cellOf c1 (fun f => f)
  have c2 := HM3.out.cellOf c2 (fun f => f)
  have c3 := HM3.out.cellOf c3 (fun f => f)
  clear c0 c4 cf
  go_wp2_with fail
  clear c1 c2 c3
  go_loopw [26] (fun v wr => ∃ i : Nat, i ≤ 3 ∧ v = .int .i64 i ∧ Hid ((1 ≤ i → regOk true rd = true) ∧ (2 ≤ i → regOk false ra = true) ∧ (3 ≤ i → regOk false rb = true)) ∧ Hid (Mods None W3 wr)) (fun v _ => (3 - intOf v).toNat)
  case atStart => exact ⟨0, by omega, rfl, Lib.hid ⟨fun h => by omega, fun h => by omega, fun h => by omega⟩, Lib.hid (Mods.refl _ _)⟩
  case round =>
    obtain ⟨i, hi3, rfl, hok, hmw⟩ := hrel
    have f0 : wr.cell? ⟨w2.heap.size, 0, none⟩ = some (.int .u8 74) := (HB3.out.mods hmw.out (fun f => f)).cell rfl
    have HALL : Hid (Mods None W wr) := Lib.hid ((HM.out.trans HM3.out).trans hmw.out)
    have hcase : i = 0 ∨ i = 1 ∨ i = 2 ∨ i = 3 := by omega
    rcases hcase with rfl | rfl | rfl | rfl
    · have hix : ∀ (a b c : Int) (w : World), (Instr.index 94 (.agg #[.int .i64 a, .int .i64 b, .int .i64 c]) (.int .i64 0)).run Tryz.prog w = .ok (.int .i64 a) w := fun _ _ _ _ => by kernel_rfl
      have hsl : ∀ w : World, (Instr.slice 9 (.string ⟨#[100, 97, 98]⟩) (some (.int .i64 0)) (some (.int .i64 1)) none).run Tryz.prog w = .ok (.string ⟨#[100]⟩) w := fun _ => by kernel_rfl
      by_cases hlo : 0 ≤ rd
      · by_cases hhi : rd ≤ 31
        · have hb : (decide (0 ≤ rd) && decide (rd ≤ 31)) = true := by simp; omega
          go_wp2_with fail
          go_quiet ((first | (go_at_call 41; with_reducible exact quiet_left (has_74 _)) | (go_at_call 69; with_reducible exact quiet_left (con_d_d _))))
          go_wp2_with (go_at_call 37; refine (in_any _ _ _ _).mono ?_; rintro e w' ⟨rfl, rfl⟩)
          go_roundw
          case rel => exact ⟨1, by omega, rfl, Lib.hid ⟨fun _ => by simp [regOk]; omega, fun h => by omega, fun h => by omega⟩, Lib.hid (hmw.out.drewN _)⟩
          case measure => simp [intOf]
        · have hb : (decide (0 ≤ rd) && decide (rd ≤ 31)) = false := by simp; omega
          go_wp2_with fail
          go_quiet ((first | (go_at_call 41; with_reducible exact quiet_left (has_74 _)) | (go_at_call 69; with_reducible exact quiet_left (con_d_d _))))
          go_wp2_with (go_at_call 37; refine (in_any _ _ _ _).mono ?_; rintro e w' ⟨rfl, rfl⟩)
          go_ret
          refine ⟨ret_bool ?_, HALL.out.drewN _⟩
          have hk := HRIGHT.out
          rw [hk]
          simp only [regOk, Bool.and_eq_false_iff, Bool.or_eq_false_iff, decide_eq_false_iff_not, beq_eq_false_iff_ne]
          simp
          omega
      · have hb : (decide (0 ≤ rd) && decide (rd ≤ 31)) = false := by simp; omega
        go_wp2_with fail
        go_quiet ((first | (go_at_call 41; with_reducible exact quiet_left (has_74 _)) | (go_at_call 69; with_reducible exact quiet_left (con_d_d _))))
        go_wp2_with (go_at_call 37; refine (in_any _ _ _ _).mono ?_; rintro e w' ⟨rfl, rfl⟩)
        go_ret
        refine ⟨ret_bool ?_, HALL.out.drewN _⟩
        have hk := HRIGHT.out
        rw [hk]
        simp only [regOk, Bool.and_eq_false_iff, Bool.or_eq_false_iff, decide_eq_false_iff_not, beq_eq_false_iff_ne]
        simp
        omega
    · have hix : ∀ (a b c : Int) (w : World), (Instr.index 94 (.agg #[.int .i64 a, .int .i64 b, .int .i64 c]) (.int .i64 1)).run Tryz.prog w = .ok (.int .i64 b) w := fun _ _ _ _ => by kernel_rfl
      have hsl : ∀ w : World, (Instr.slice 9 (.string ⟨#[100, 97, 98]⟩) (some (.int .i64 1)) (some (.int .i64 2)) none).run Tryz.prog w = .ok (.string ⟨#[97]⟩) w := fun _ => by kernel_rfl
      by_cases hlo : 0 ≤ ra
      · by_cases hhi : ra ≤ 31
        · have hb : (decide (0 ≤ ra) && decide (ra ≤ 31)) = true := by simp; omega
          by_cases hz : ra = 0
          · have hzb : (ra != 0) = false := by simpa using hz
            have HZ := Lib.hid hz
            clear hz
            go_wp2_with fail
            go_quiet ((first | (go_at_call 41; with_reducible exact quiet_left (has_74 _)) | (go_at_call 69; with_reducible exact quiet_left (con_d_a _))))
            go_wp2_with (go_at_call 37; refine (in_any _ _ _ _).mono ?_; rintro e w' ⟨rfl, rfl⟩)
            go_roundw
            case rel => exact ⟨2, by omega, rfl, Lib.hid ⟨fun _ => hok.out.1 (by decide), fun _ => by have hz := HZ.out; simp [regOk]; omega, fun h => by omega⟩, Lib.hid (hmw.out.drewN _)⟩
            case measure => simp [intOf]
          · have hzb : (ra != 0) = true := by simpa using hz
            go_wp2_with fail
            go_quiet ((first | (go_at_call 41; with_reducible exact quiet_left (has_74 _)) | (go_at_call 69; with_reducible exact quiet_left (con_d_a _))))
            go_wp2_with (go_at_call 37; refine (in_any _ _ _ _).mono ?_; rintro e w' ⟨rfl, rfl⟩)
            go_ret
            refine ⟨ret_bool ?_, HALL.out.drewN _⟩
            have hk := HRIGHT.out
            rw [hk]
            simp only [regOk, Bool.and_eq_false_iff, Bool.or_eq_false_iff, decide_eq_false_iff_not, beq_eq_false_iff_ne]
            simp
            omega
        · have hb : (decide (0 ≤ ra) && decide (ra ≤ 31)) = false := by simp; omega
          go_wp2_with fail
          go_quiet ((first | (go_at_call 41; with_reducible exact quiet_left (has_74 _)) | (go_at_call 69; with_reducible exact quiet_left (con_d_a _))))
          go_wp2_with (go_at_call 37; refine (in_any _ _ _ _).mono ?_; rintro e w' ⟨rfl, rfl⟩)
          go_ret
          refine ⟨ret_bool ?_, HALL.out.drewN _⟩
          have hk := HRIGHT.out
          rw [hk]
          simp only [regOk, Bool.and_eq_false_iff, Bool.or_eq_false_iff, decide_eq_false_iff_not, beq_eq_false_iff_ne]
          simp
          omega
      · have hb : (decide (0 ≤ ra) && decide (ra ≤ 31)) = false := by simp; omega
        go_wp2_with fail
        go_quiet ((first | (go_at_call 41; with_reducible exact quiet_left (has_74 _)) | (go_at_call 69; with_reducible exact quiet_left (con_d_a _))))
        go_wp2_with (go_at_call 37; refine (in_any _ _ _ _).mono ?_; rintro e w' ⟨rfl, rfl⟩)
        go_ret
        refine ⟨ret_bool ?_, HALL.out.drewN _⟩
        have hk := HRIGHT.out
        rw [hk]
        simp only [regOk, Bool.and_eq_false_iff, Bool.or_eq_false_iff, decide_eq_false_iff_not, beq_eq_false_iff_ne]
        simp
        omega
    · have hix : ∀ (a b c : Int) (w : World), (Instr.index 94 (.agg #[.int .i64 a, .int .i64 b, .int .i64 c]) (.int .i64 2)).run Tryz.prog w = .ok (.int .i64 c) w := fun _ _ _ _ => by kernel_rfl
      have hsl : ∀ w : World, (Instr.slice 9 (.string ⟨#[100, 97, 98]⟩) (some (.int .i64 2)) (some (.int .i64 3)) none).run Tryz.prog w = .ok (.string ⟨#[98]⟩) w := fun _ => by kernel_rfl
      by_cases hlo : 0 ≤ rb
      · by_cases hhi : rb ≤ 31
        · have hb : (decide (0 ≤ rb) && decide (rb ≤ 31)) = true := by simp; omega
          by_cases hz : rb = 0
          · have hzb : (rb != 0) = false := by simpa using hz
            have HZ := Lib.hid hz
            clear hz
            go_wp2_with fail
            go_quiet ((first | (go_at_call 41; with_reducible exact quiet_left (has_74 _)) | (go_at_call 69; with_reducible exact quiet_left (con_d_b _))))
            go_wp2_with (go_at_call 37; refine (in_any _ _ _ _).mono ?_; rintro e w' ⟨rfl, rfl⟩)
            go_roundw
            case rel => exact ⟨3, by omega, rfl, Lib.hid ⟨fun _ => hok.out.1 (by decide), fun _ => hok.out.2.1 (by decide), fun _ => by have hz := HZ.out; simp [regOk]; omega⟩, Lib.hid (hmw.out.drewN _)⟩
            case measure => simp [intOf]
          · have hzb : (rb != 0) = true := by simpa using hz
            go_wp2_with fail
            go_quiet ((first | (go_at_call 41; with_reducible exact quiet_left (has_74 _)) | (go_at_call 69; with_reducible exact quiet_left (con_d_b _))))
            go_wp2_with (go_at_call 37; refine (in_any _ _ _ _).mono ?_; rintro e w' ⟨rfl, rfl⟩)
            go_ret
            refine ⟨ret_bool ?_, HALL.out.drewN _⟩
            have hk := HRIGHT.out
            rw [hk]
            simp only [regOk, Bool.and_eq_false_iff, Bool.or_eq_false_iff, decide_eq_false_iff_not, beq_eq_false_iff_ne]
            simp
            omega
        · have hb : (decide (0 ≤ rb) && decide (rb ≤ 31)) = false := by simp; omega
          go_wp2_with fail
          go_quiet ((first | (go_at_call 41; with_reducible exact quiet_left (has_74 _)) | (go_at_call 69; with_reducible exact quiet_left (con_d_b _))))
          go_wp2_with (go_at_call 37; refine (in_any _ _ _ _).mono ?_; rintro e w' ⟨rfl, rfl⟩)
          go_ret
          refine ⟨ret_bool ?_, HALL.out.drewN _⟩
          have hk := HRIGHT.out
          rw [hk]
          simp only [regOk, Bool.and_eq_false_iff, Bool.or_eq_false_iff, decide_eq_false_iff_not, beq_eq_false_iff_ne]
          simp
          omega
      · have hb : (decide (0 ≤ rb) && decide (rb ≤ 31)) = false := by simp; omega
        go_wp2_with fail
        go_quiet ((first | (go_at_call 41; with_reducible exact quiet_left (has_74 _)) | (go_at_call 69; with_reducible exact quiet_left (con_d_b _))))
        go_wp2_with (go_at_call 37; refine (in_any _ _ _ _).mono ?_; rintro e w' ⟨rfl, rfl⟩)
        go_ret
        refine ⟨ret_bool ?_, HALL.out.drewN _⟩
        have hk := HRIGHT.out
        rw [hk]
        simp only [regOk, Bool.and_eq_false_iff, Bool.or_eq_false_iff, decide_eq_false_iff_not, beq_eq_false_iff_ne]
        simp
        omega
    · have HR : Hid (regOk true rd = true ∧ regOk false ra = true ∧ regOk false rb = true) := Lib.hid ⟨hok.out.1 (by decide), hok.out.2.1 (by decide), hok.out.2.2 (by decide)⟩
      have hx := F1.out
      have c4 := ((HM3.out.trans hmw.out)).cellOf F1.out.c4 (fun f => f)
      clear hx
      have ht := tmod_zero n 2
      by_cases hlo : -1048576 ≤ n
      · by_cases hhi : n ≤ 1048575
        · have hb : (decide (-1048576 ≤ n) && decide (n ≤ 1048575)) = true := by simp; omega
          go_wp2_with (first | (go_at_call 70; refine (signs_74 _).mono ?_; rintro e w' ⟨rfl, rfl⟩) | (go_at_call 37; refine (in_any _ _ _ _).mono ?_; rintro e w' ⟨rfl, rfl⟩))
          go_ret
          refine ⟨ret_bool ?_, HALL.out⟩
          have hk := HRIGHT.out
          rw [hk, HR.out.1, HR.out.2.1, HR.out.2.2]
          simp [restB, fitB]
          try omega
        · have hb : (decide (-1048576 ≤ n) && decide (n ≤ 1048575)) = false := by simp; omega
          go_wp2_with (first | (go_at_call 70; refine (signs_74 _).mono ?_; rintro e w' ⟨rfl, rfl⟩) | (go_at_call 37; refine (in_any _ _ _ _).mono ?_; rintro e w' ⟨rfl, rfl⟩))
          go_ret
          refine ⟨ret_bool ?_, HALL.out⟩
          have hk := HRIGHT.out
          rw [hk, HR.out.1, HR.out.2.1, HR.out.2.2]
          simp [restB, fitB]
          try omega
      · have hb : (decide (-1048576 ≤ n) && decide (n ≤ 1048575)) = false := by simp; omega
        go_wp2_with (first | (go_at_call 70; refine (signs_74 _).mono ?_; rintro e w' ⟨rfl, rfl⟩) | (go_at_call 37; refine (in_any _ _ _ _).mono ?_; rintro e w' ⟨rfl, rfl⟩))
        go_ret
        refine ⟨ret_bool ?_, HALL.out⟩
        have hk := HRIGHT.out
        rw [hk, HR.out.1, HR.out.2.1, HR.out.2.2]
        simp [restB, fitB]
        try omega
set_option maxRecDepth 100000 in
set_option maxHeartbeats 1000000 in
theorem right_69_ok (x : Ins) (W : World) (h1 : 1 ≤ x.op) (h2 : x.op ≤ 31) (hk : kindOf x.op = 69) : Calls Tryz.prog 34 #[x.val] W fun e W' => e = .returned (.bool x.right) ∧ Mods None W W' := by
  obtain ⟨p, rd, ra, rb, n⟩ := x
  simp only at h1 h2 hk
  obtain ⟨W1, hW1⟩ : ∃ W1, W1 = W.alloc (.cells (instCells p rd ra rb n) 30) := ⟨_, rfl⟩
  have F1 : Hid (Five W1 W.heap.size p rd ra rb n) := Lib.hid (by rw [hW1]; exact five_new W _ _ _ _ _ 30)
  have HM : Hid (Mods None W W1) := Lib.hid (by rw [hW1]; exact (Mods.refl _ _).alloc _)
  have HRIGHT : Hid ((Ins.mk p rd ra rb n).right = (regOk false rd && regOk false ra && regOk false rb && restB 69 n)) := Lib.hid (right_eq_69 p rd ra rb n h1 h2 hk)
  simp only [Ins.val]
  have HF := form_parts p h1 h2 W1
  rw [hk] at HF
  obtain ⟨l, hl⟩ : ∃ l, l = lowOf p := ⟨_, rfl⟩
  obtain ⟨m, hm⟩ : ∃ m, m = midOf p := ⟨_, rfl⟩
  obtain ⟨hi, hh⟩ : ∃ hi, hi = highOf p := ⟨_, rfl⟩
  obtain ⟨nm, hn⟩ : ∃ nm, nm = nameOf p := ⟨_, rfl⟩
  rw [← hl, ← hm, ← hh, ← hn] at HF
  have HFF := Lib.hid HF
  clear HF hl hm hh hn hk
  have c0 := F1.out.c0
  go_enter Tryz.func34, Tryz.ntmps34
  go_wp2_with fail
  rw [← hW1]
  clear hW1
  clear c0
  refine HFF.out.mono ?_
  rintro e w2 ⟨rfl, hm2⟩
  obtain ⟨W3, hW3⟩ : ∃ W3, W3 = w2.alloc (.cells #[.int .u8 69, .int .u32 l, .int .u32 m, .int .u32 hi, .string nm] 87) := ⟨_, rfl⟩
  have HM3 : Hid (Mods None W1 W3) := Lib.hid (by rw [hW3]; exact hm2.alloc _)
  have HB3 : Hid (Blk W3 w2.heap.size [.int .u8 69, .int .u32 l, .int .u32 m, .int .u32 hi, .string nm] 87) := Lib.hid (by rw [hW3]; exact Blk.new w2 _ _)
  go_upto_region 2 with (fail)
  rw [← hW3]
  clear hW3 hm2
  obtain ⟨c0, c1, c2, c3, c4, cf⟩ := F1.out
  have c1 := HM3.out.cellOf c1 (fun f => f)
  have c2 := HM3.out.cellOf c2 (fun f => f)
  have c3 := HM3.out.cellOf c3 (fun f => f)
  clear c0 c4 cf
  go_wp2_with fail
  clear c1 c2 c3
  go_loopw [26] (fun v wr => ∃ i : Nat, i ≤ 3 ∧ v = .int .i64 i ∧ Hid ((1 ≤ i → regOk false rd = true) ∧ (2 ≤ i → regOk false ra = true) ∧ (3 ≤ i → regOk false rb = true)) ∧ Hid (Mods None W3 wr)) (fun v _ => (3 - intOf v).toNat)
  case atStart => exact ⟨0, by omega, rfl, Lib.hid ⟨fun h => by omega, fun h => by omega, fun h => by omega⟩, Lib.hid (Mods.refl _ _)⟩
  case round =>
    obtain ⟨i, hi3, rfl, hok, hmw⟩ := hrel
    have f0 : wr.cell? ⟨w2.heap.size, 0, none⟩ = some (.int .u8 69) := (HB3.out.mods hmw.out (fun f => f)).cell rfl
    have HALL : Hid (Mods None W wr) := Lib.hid ((HM.out.trans HM3.out).trans hmw.out)
    have hcase : i = 0 ∨ i = 1 ∨ i = 2 ∨ i = 3 := by omega
    rcases hcase with rfl | rfl | rfl | rfl
    · have hix : ∀ (a b c : Int) (w : World), (Instr.index 94 (.agg #[.int .i64 a, .int .i64 b, .int .i64 c]) (.int .i64 0)).run Tryz.prog w = .ok (.int .i64 a) w := fun _ _ _ _ => by kernel_rfl
      have hsl : ∀ w : World, (Instr.slice 9 (.string ⟨#[100, 97, 98]⟩) (some (.int .i64 0)) (some (.int .i64 1)) none).run Tryz.prog w = .ok (.string ⟨#[100]⟩) w := fun _ => by kernel_rfl
      by_cases hlo : 0 ≤ rd
      · by_cases hhi : rd ≤ 31
        · have hb : (decide (0 ≤ rd) && decide (rd ≤ 31)) = true := by simp; omega
          by_cases hz : rd = 0
          · have hzb : (rd != 0) = false := by simpa using hz
            have HZ := Lib.hid hz
            clear hz
            go_wp2_with fail
            go_quiet ((first | (go_at_call 41; with_reducible exact quiet_left (has_69 _)) | (go_at_call 69; with_reducible exact quiet_left (con__d _))))
            go_wp2_with (go_at_call 37; refine (in_any _ _ _ _).mono ?_; rintro e w' ⟨rfl, rfl⟩)
            go_roundw
            case rel => exact ⟨1, by omega, rfl, Lib.hid ⟨fun _ => by have hz := HZ.out; simp [regOk]; omega, fun h => by omega, fun h => by omega⟩, Lib.hid (hmw.out.drewN _)⟩
            case measure => simp [intOf]
          · have hzb : (rd != 0) = true := by simpa using hz
            go_wp2_with fail
            go_quiet ((first | (go_at_call 41; with_reducible exact quiet_left (has_69 _)) | (go_at_call 69; with_reducible exact quiet_left (con__d _))))
            go_wp2_with (go_at_call 37; refine (in_any _ _ _ _).mono ?_; rintro e w' ⟨rfl, rfl⟩)
            go_ret
            refine ⟨ret_bool ?_, HALL.out.drewN _⟩
            have hk := HRIGHT.out
            rw [hk]
            simp only [regOk, Bool.and_eq_false_iff, Bool.or_eq_false_iff, decide_eq_false_iff_not, beq_eq_false_iff_ne]
            simp
            omega
        · have hb : (decide (0 ≤ rd) && decide (rd ≤ 31)) = false := by simp; omega
          go_wp2_with fail
          go_quiet ((first | (go_at_call 41; with_reducible exact quiet_left (has_69 _)) | (go_at_call 69; with_reducible exact quiet_left (con__d _))))
          go_wp2_with (go_at_call 37; refine (in_any _ _ _ _).mono ?_; rintro e w' ⟨rfl, rfl⟩)
          go_ret
          refine ⟨ret_bool ?_, HALL.out.drewN _⟩
          have hk := HRIGHT.out
          rw [hk]
          simp only [regOk, Bool.and_eq_false_iff, Bool.or_eq_false_iff, decide_eq_false_iff_not, beq_eq_false_iff_ne]
          simp
          omega
      · have hb : (decide (0 ≤ rd) && decide (rd ≤ 31)) = false := by simp; omega
        go_wp2_with fail
        go_quiet ((first | (go_at_call 41; with_reducible exact quiet_left (has_69 _)) | (go_at_call 69; with_reducible exact quiet_left (con__d _))))
        go_wp2_with (go_at_call 37; refine (in_any _ _ _ _).mono ?_; rintro e w' ⟨rfl, rfl⟩)
        go_ret
        refine ⟨ret_bool ?_, HALL.out.drewN _⟩
        have hk := HRIGHT.out
        rw [hk]
        simp only [regOk, Bool.and_eq_false_iff, Bool.or_eq_false_iff, decide_eq_false_iff_not, beq_eq_false_iff_ne]
        simp
        omega
    · have hix : ∀ (a b c : Int) (w : World), (Instr.index 94 (.agg #[.int .i64 a, .int .i64 b, .int .i64 c]) (.int .i64 1)).run Tryz.prog w = .ok (.int .i64 b) w := fun _ _ _ _ => by kernel_rfl
      have hsl : ∀ w : World, (Instr.slice 9 (.string ⟨#[100, 97, 98]⟩) (some (.int .i64 1)) (some (.int .i64 2)) none).run Tryz.prog w = .ok (.string ⟨#[97]⟩) w := fun _ => by kernel_rfl
      by_cases hlo : 0 ≤ ra
      · by_cases hhi : ra ≤ 31
        · have hb : (decide (0 ≤ ra) && decide (ra ≤ 31)) = true := by simp; omega
          by_cases hz : ra = 0
          · have hzb : (ra != 0) = false := by simpa using hz
            have HZ := Lib.hid hz
            clear hz
            go_wp2_with fail
            go_quiet ((first | (go_at_call 41; with_reducible exact quiet_left (has_69 _)) | (go_at_call 69; with_reducible exact quiet_left (con__a _))))
            go_wp2_with (go_at_call 37; refine (in_any _ _ _ _).mono ?_; rintro e w' ⟨rfl, rfl⟩)
            go_roundw
            case rel => exact ⟨2, by omega, rfl, Lib.hid ⟨fun _ => hok.out.1 (by decide), fun _ => by have hz := HZ.out; simp [regOk]; omega, fun h => by omega⟩, Lib.hid (hmw.out.drewN _)⟩
            case measure => simp [intOf]
          · have hzb : (ra != 0) = true := by simpa using hz
            go_wp2_with fail
            go_quiet ((first | (go_at_call 41; with_reducible exact quiet_left (has_69 _)) | (go_at_call 69; with_reducible exact quiet_left (con__a _))))
            go_wp2_with (go_at_call 37; refine (in_any _ _ _ _).mono ?_; rintro e w' ⟨rfl, rfl⟩)
            go_ret
            refine ⟨ret_bool ?_, HALL.out.drewN _⟩
            have hk := HRIGHT.out
            rw [hk]
            simp only [regOk, Bool.and_eq_false_iff, Bool.or_eq_false_iff, decide_eq_false_iff_not, beq_eq_false_iff_ne]
            simp
            omega
        · have hb : (decide (0 ≤ ra) && decide (ra ≤ 31)) = false := by simp; omega
          go_wp2_with fail
          go_quiet ((first | (go_at_call 41; with_reducible exact quiet_left (has_69 _)) | (go_at_call 69; with_reducible exact quiet_left (con__a _))))
          go_wp2_with (go_at_call 37; refine (in_any _ _ _ _).mono ?_; rintro e w' ⟨rfl, rfl⟩)
          go_ret
          refine ⟨ret_bool ?_, HALL.out.drewN _⟩
          have hk := HRIGHT.out
          rw [hk]
          simp only [regOk, Bool.and_eq_false_iff, Bool.or_eq_false_iff, decide_eq_false_iff_not, beq_eq_false_iff_ne]
          simp
          omega
      · have hb : (decide (0 ≤ ra) && decide (ra ≤ 31)) = false := by simp; omega
        go_wp2_with fail
        go_quiet ((first | (go_at_call 41; with_reducible exact quiet_left (has_69 _)) | (go_at_call 69; with_reducible exact quiet_left (con__a _))))
        go_wp2_with (go_at_call 37; refine (in_any _ _ _ _).mono ?_; rintro e w' ⟨rfl, rfl⟩)
        go_ret
        refine ⟨ret_bool ?_, HALL.out.drewN _⟩
        have hk := HRIGHT.out
        rw [hk]
        simp only [regOk, Bool.and_eq_false_iff, Bool.or_eq_false_iff, decide_eq_false_iff_not, beq_eq_false_iff_ne]
        simp
        omega
    · have hix : ∀ (a b c : Int) (w : World), (Instr.index 94 (.agg #[.int .i64 a, .int .i64 b, .int .i64 c]) (.int .i64 2)).run Tryz.prog w = .ok (.int .i64 c) w := fun _ _ _ _ => by kernel_rfl
      have hsl : ∀ w : World, (Instr.slice 9 (.string ⟨#[100, 97, 98]⟩) (some (.int .i64 2)) (some (.int .i64 3)) none).run Tryz.prog w = .ok (.string ⟨#[98]⟩) w := fun _ => by kernel_rfl
      by_cases hlo : 0 ≤ rb
      · by_cases hhi : rb ≤ 31
        · have hb : (decide (0 ≤ rb) && decide (rb ≤ 31)) = true := by simp; omega
          by_cases hz : rb = 0
          · have hzb : (rb != 0) = false := by simpa using hz
            have HZ := Lib.hid hz
            clear hz
            go_wp2_with fail
            go_quiet ((first | (go_at_call 41; with_reducible exact quiet_left (has_69 _)) | (go_at_call 69; with_reducible exact quiet_left (con__b _))))
            go_wp2_with (go_at_call 37; refine (in_any _ _ _ _).mono ?_; rintro e w' ⟨rfl, rfl⟩)
            go_roundw
            case rel => exact ⟨3, by omega, rfl, Lib.hid ⟨fun _ => hok.out.1 (by decide), fun _ => hok.out.2.1 (by decide), fun _ => by have hz := HZ.out; simp [regOk]; omega⟩, Lib.hid (hmw.out.drewN _)⟩
            case measure => simp [intOf]
          · have hzb : (rb != 0) = true := by simpa using hz
            go_wp2_with fail
            go_quiet ((first | (go_at_call 41; with_reducible exact quiet_left (has_69 _)) | (go_at_call 69; with_reducible exact quiet_left (con__b _))))
            go_wp2_with (go_at_call 37; refine (in_any _ _ _ _).mono ?_; rintro e w' ⟨rfl, rfl⟩)
            go_ret
            refine ⟨ret_bool ?_, HALL.out.drewN _⟩
            have hk := HRIGHT.out
            rw [hk]
            simp only [regOk, Bool.and_eq_false_iff, Bool.or_eq_false_iff, decide_eq_false_iff_not, beq_eq_false_iff_ne]
            simp
            omega
        · have hb : (decide (0 ≤ rb) && decide (rb ≤ 31)) = false := by simp; omega
          go_wp2_with fail
          go_quiet ((first | (go_at_call 41; with_reducible exact quiet_left (has_69 _)) | (go_at_call 69; with_reducible exact quiet_left (con__b _))))
          go_wp2_with (go_at_call 37; refine (in_any _ _ _ _).mono ?_; rintro e w' ⟨rfl, rfl⟩)
          go_ret
          refine ⟨ret_bool ?_, HALL.out.drewN _⟩
          have hk := HRIGHT.out
          rw [hk]
          simp only [regOk, Bool.and_eq_false_iff, Bool.or_eq_false_iff, decide_eq_false_iff_not, beq_eq_false_iff_ne]
          simp
          omega
      · have hb : (decide (0 ≤ rb) && decide (rb ≤ 31)) = false := by simp; omega
        go_wp2_with fail
        go_quiet ((first | (go_at_call 41; with_reducible exact quiet_left (has_69 _)) | (go_at_call 69; with_reducible exact quiet_left (con__b _))))
        go_wp2_with (go_at_call 37; refine (in_any _ _ _ _).mono ?_; rintro e w' ⟨rfl, rfl⟩)
        go_ret
        refine ⟨ret_bool ?_, HALL.out.drewN _⟩
        have hk := HRIGHT.out
        rw [hk]
        simp only [regOk, Bool.and_eq_false_iff, Bool.or_eq_false_iff, decide_eq_false_iff_not, beq_eq_false_iff_ne]
        simp
        omega
    · have HR : Hid (regOk false rd = true ∧ regOk false ra = true ∧ regOk false rb = true) := Lib.hid ⟨hok.out.1 (by decide), hok.out.2.1 (by decide), hok.out.2.2 (by decide)⟩
      have hx := F1.out
      have c4 := ((HM3.out.trans hmw.out)).cellOf F1.out.c4 (fun f => f)
      clear hx
      go_wp2_with (first | (go_at_call 70; refine (signs_69 _).mono ?_; rintro e w' ⟨rfl, rfl⟩) | (go_at_call 37; refine (in_any _ _ _ _).mono ?_; rintro e w' ⟨rfl, rfl⟩))
      go_ret
      refine ⟨ret_bool ?_, HALL.out⟩
      have hk := HRIGHT.out
      rw [hk, HR.out.1, HR.out.2.1, HR.out.2.2]
      simp [restB]
set_option maxRecDepth 100000 in
theorem right_no (x : Ins) (W : World) (h : x.op < 1 ∨ 31 < x.op) : Calls Tryz.prog 34 #[x.val] W fun e W' => e = .returned (.bool x.right) ∧ Mods None W W' := by
  obtain ⟨p, rd, ra, rb, n⟩ := x
  simp only at h
  have hr : (Ins.mk p rd ra rb n).right = false := by
    simp only [Ins.right, rightB]
    rcases h with h | h
    · rw [show decide (1 ≤ p) = false by simp; omega]; rfl
    · rw [show decide (p ≤ 31) = false by simp; omega]; simp
  rw [hr]
  obtain ⟨W1, hW1⟩ : ∃ W1, W1 = W.alloc (.cells (instCells p rd ra rb n) 30) := ⟨_, rfl⟩
  have F1 : Hid (Five W1 W.heap.size p rd ra rb n) := Lib.hid (by rw [hW1]; exact five_new W _ _ _ _ _ 30)
  have HM : Hid (Mods None W W1) := Lib.hid (by rw [hW1]; exact (Mods.refl _ _).alloc _)
  simp only [Ins.val]
  have HFF := Lib.hid (form_no p h W1)
  have c0 := F1.out.c0
  clear h hr
  go_enter Tryz.func34, Tryz.ntmps34
  go_wp2_with fail
  rw [← hW1]
  clear hW1
  clear c0
  refine HFF.out.mono ?_
  rintro e w2 ⟨rfl, hm2⟩
  have HM2 := Lib.hid hm2
  clear hm2
  go_wp2_with fail
  go_ret
  exact ⟨rfl, (HM.out.trans HM2.out).alloc _⟩
theorem right_ref (x : Ins) (W : World) : Calls Tryz.prog 34 #[x.val] W fun e W' => e = .returned (.bool x.right) ∧ Mods None W W' := by
  by_cases h1 : 1 ≤ x.op
  · by_cases h2 : x.op ≤ 31
    · rcases (tab_ok x.op h1 h2).2 with k | k | k | k | k | k | k | ⟨k, _⟩
      · exact right_82_ok x W h1 h2 k
      · exact right_73_ok x W h1 h2 k
      · exact right_72_ok x W h1 h2 k
      · exact right_83_ok x W h1 h2 k
      · exact right_66_ok x W h1 h2 k
      · exact right_85_ok x W h1 h2 k
      · exact right_74_ok x W h1 h2 k
      · exact right_69_ok x W h1 h2 k
    · exact right_no x W (by omega)
  · exact right_no x W (by omega)
end Go.Proofs.YtodgkbcgdbhpeaaGreatDoor.RefP

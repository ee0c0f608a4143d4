/- The word of an instruction, by the reference: a contract of ref.Encode. No conditions. -/
import Derived.Test.YtodgkbcgdbhpeaaGreatDoorRefRight
import Derived.Test.YtodgkbcgdbhpeaaGreatDoorWordFive
import Derived.Test.YtodgkbcgdbhpeaaGreatDoorRefPieces
import Derived.Test.YtodgkbcgdbhpeaaGreatDoorAluPlain
import Derived.Lib.OthersKept
import Derived.Laws.RangeAny
namespace Go.Proofs.YtodgkbcgdbhpeaaGreatDoor.RefP
open Go.RowKit Go.Proofs.YtodgkbcgdbhpeaaGreatDoor.Wo Go.Proofs.YtodgkbcgdbhpeaaGreatDoor.WordP Go.Proofs.YtodgkbcgdbhpeaaGreatDoor.AluP
set_option linter.unusedVariables false
set_option linter.unusedSimpArgs false
theorem high_tab : ∀ i : Fin 32, kindOf i.val = 82 ∨ kindOf i.val = 72 ∨ highOf i.val = 0 := by decide +kernel
theorem high_zero (p : Int) (h1 : 1 ≤ p) (h2 : p ≤ 31) (ha : kindOf p ≠ 82) (hb : kindOf p ≠ 72) : highOf p = 0 := by
  obtain ⟨i, rfl⟩ := Int.eq_ofNat_of_zero_le (show 0 ≤ p by omega)
  rcases high_tab ⟨i, by omega⟩ with h | h | h
  · exact absurd h ha
  · exact absurd h hb
  · exact h
theorem ret_word {a b : Int} (h : a = b) : Ending.returned (.tuple #[.int .u32 a, .int .i64 0]) = .returned (.tuple #[.int .u32 b, .int .i64 0]) := by rw [h]
theorem word_82 (p rd ra rb n l m hi : Int) (h1 : 1 ≤ p) (h2 : p ≤ 31) (hk : kindOf p = 82) (hr : (Ins.mk p rd ra rb n).right = true) (hl : l = lowOf p) (hm : m = midOf p) (hh : hi = highOf p) :
    (Ins.mk p rd ra rb n).word = (l + m * 4096 + rd * 128 + ra * 32768 + rb * 1048576 + hi * 33554432) % 4294967296 := by
  have tab := (tab_ok p h1 h2).1
  rw [hk, ← hl, ← hm, ← hh] at tab
  simp [Ins.right, hk, rightB, bodyB, regB, h1, h2] at hr
  obtain ⟨t1, t2⟩ := tab.hl
  obtain ⟨t3, t4⟩ := tab.hm
  obtain ⟨t5, t6⟩ := tab.hh
  have t7 := tab.he
  have t8 := tab.hz
  have t9 := trivial
  simp only [Ins.word]
  rw [hk, ← hl, ← hm, ← hh, raw_82 l m rd ra rb n hi tab.hl tab.hm (by omega) (by omega) (by omega) tab.hh]
  omega
set_option maxRecDepth 100000 in
set_option maxHeartbeats 1000000 in
theorem enc_82 (x : Ins) (W : World) (hr : x.right = true) (h1 : 1 ≤ x.op) (h2 : x.op ≤ 31) (hk : kindOf x.op = 82) : Calls Tryz.prog 20 #[x.val] W fun e W' => e = .returned (.tuple #[.int .u32 x.word, .int .i64 0]) ∧ Mods None W W' := by
  obtain ⟨p, rd, ra, rb, n⟩ := x
  simp only at h1 h2 hk
  obtain ⟨W1, hW1⟩ : ∃ W1, W1 = W.alloc (.cells (instCells p rd ra rb n) 30) := ⟨_, rfl⟩
  have F1 : Hid (Five W1 W.heap.size p rd ra rb n) := Lib.hid (by rw [hW1]; exact five_new W _ _ _ _ _ 30)
  have HM : Hid (Mods None W W1) := Lib.hid (by rw [hW1]; exact (Mods.refl _ _).alloc _)
  have HRR := right_ref ⟨p, rd, ra, rb, n⟩ W1
  rw [hr] at HRR
  have HR := Lib.hid HRR
  clear HRR
  simp only [Ins.val] at HR ⊢
  obtain ⟨l, hl⟩ : ∃ l, l = lowOf p := ⟨_, rfl⟩
  obtain ⟨m, hm⟩ : ∃ m, m = midOf p := ⟨_, rfl⟩
  obtain ⟨hi, hh⟩ : ∃ hi, hi = highOf p := ⟨_, rfl⟩
  obtain ⟨nm, hn⟩ : ∃ nm, nm = nameOf p := ⟨_, rfl⟩
  have HF : ∀ W, Hid (Calls Tryz.prog 38 #[.int .i64 p] W fun e W' => e = .returned (.tuple #[.agg #[.int .u8 82, .int .u32 l, .int .u32 m, .int .u32 hi, .string nm], .bool true]) ∧ Mods None W W') := fun W => Lib.hid (by
    have := form_parts p h1 h2 W
    rw [hk, ← hl, ← hm, ← hh, ← hn] at this
    exact this)
  obtain ⟨v, hv⟩ : ∃ v, v = Ins.word ⟨p, rd, ra, rb, n⟩ := ⟨_, rfl⟩
  have HV : Hid (v = (l + m * 4096 + rd * 128 + ra * 32768 + rb * 1048576 + hi * 33554432) % 4294967296) := Lib.hid (by
    rw [hv]
    exact word_82 p rd ra rb n l m hi h1 h2 hk hr hl hm hh)
  rw [← hv]
  have HL : Hid (0 ≤ l ∧ l < 128) := Lib.hid (by have t := (tab_ok p h1 h2).1.hl; rw [← hl] at t; exact t)
  clear hl hm hh hn hk hv h1 h2 hr
  obtain ⟨c0, c1, c2, c3, c4, cf⟩ := F1.out
  go_enter Tryz.func20, Tryz.ntmps20
  go_wp2_with fail
  rw [← hW1]
  clear hW1
  refine HR.out.mono ?_
  rintro e w2 ⟨rfl, hm2⟩
  have HM2 := Lib.hid hm2
  have c0 := hm2.cellOf c0 (fun f => f)
  have c1 := hm2.cellOf c1 (fun f => f)
  have c2 := hm2.cellOf c2 (fun f => f)
  have c3 := hm2.cellOf c3 (fun f => f)
  have c4 := hm2.cellOf c4 (fun f => f)
  clear hm2 cf
  go_wp2_with fail
  refine (HF w2).out.mono ?_
  rintro e w3 ⟨rfl, hm3⟩
  obtain ⟨W4, hW4⟩ : ∃ W4, W4 = w3.alloc (.cells #[.int .u8 82, .int .u32 l, .int .u32 m, .int .u32 hi, .string nm] 87) := ⟨_, rfl⟩
  have HM4 : Hid (Mods None w2 W4) := Lib.hid (by rw [hW4]; exact hm3.alloc _)
  have HB4 : Hid (Blk W4 w3.heap.size [.int .u8 82, .int .u32 l, .int .u32 m, .int .u32 hi, .string nm] 87) := Lib.hid (by rw [hW4]; exact Blk.new w3 _ _)
  clear c0
  go_wp2_with fail
  rw [← hW4]
  clear hW4 hm3
  have f0 : W4.cell? ⟨w3.heap.size, 0, none⟩ = some (.int .u8 82) := HB4.out.cell rfl
  have f1 : W4.cell? ⟨w3.heap.size, 1, none⟩ = some (.int .u32 l) := HB4.out.cell rfl
  have f2 : W4.cell? ⟨w3.heap.size, 2, none⟩ = some (.int .u32 m) := HB4.out.cell rfl
  have f3 : W4.cell? ⟨w3.heap.size, 3, none⟩ = some (.int .u32 hi) := HB4.out.cell rfl
  have c1 := HM4.out.cellOf c1 (fun f => f)
  have c2 := HM4.out.cellOf c2 (fun f => f)
  have c3 := HM4.out.cellOf c3 (fun f => f)
  have c4 := HM4.out.cellOf c4 (fun f => f)
  go_wp2_with (go_at_call 41; refine (has_82 _).mono ?_; rintro e w' ⟨rfl, rfl⟩)
  go_loopw [6] (fun v wr => ∃ i : Nat, i ≤ 3 ∧ v = .int .u32 ((l + m * 4096 + (if 1 ≤ i then rd * 128 else 0) + (if 2 ≤ i then ra * 32768 else 0) + (if 3 ≤ i then rb * 1048576 else 0)) % 4294967296) ∧ wr = W4.iter ⟨#[100, 97, 98]⟩ i) (fun _ wr => 3 - wr.iterPos W4.heap.size)
  case atStart => exact ⟨0, by omega, by simp, rfl⟩
  case round =>
    obtain ⟨i, hi3, rfl, rfl⟩ := hrel
    have HI : ∀ i, Hid (Mods None W4 (W4.iter ⟨#[100, 97, 98]⟩ i)) := fun i => Lib.hid ((Mods.refl _ _).alloc _)
    have hcase : i = 0 ∨ i = 1 ∨ i = 2 ∨ i = 3 := by omega
    rcases hcase with rfl | rfl | rfl | rfl
    · have c1 := (HI 1).out.cellOf c1 (fun f => f)
      have hnx : ∀ ty, (Instr.next (.pointer (some ⟨W4.heap.size, 0, none⟩)) true ty).run Tryz.prog (W4.iter ⟨#[100, 97, 98]⟩ 0) = .ok (.tuple #[.bool true, .int .i64 0, .int .i32 100]) (W4.iter ⟨#[100, 97, 98]⟩ 1) := fun _ => by rw [run_next_ascii W4 _ 0 _ (by decide) (by decide)]; rfl
      go_wp2_with fail
      go_roundw
      case rel => exact ⟨1, by omega, by simp; omega, rfl⟩
      case measure => simp
    · have c2 := (HI 2).out.cellOf c2 (fun f => f)
      have hnx : ∀ ty, (Instr.next (.pointer (some ⟨W4.heap.size, 0, none⟩)) true ty).run Tryz.prog (W4.iter ⟨#[100, 97, 98]⟩ 1) = .ok (.tuple #[.bool true, .int .i64 1, .int .i32 97]) (W4.iter ⟨#[100, 97, 98]⟩ 2) := fun _ => by rw [run_next_ascii W4 _ 1 _ (by decide) (by decide)]; rfl
      go_wp2_with fail
      go_roundw
      case rel => exact ⟨2, by omega, by simp; omega, rfl⟩
      case measure => simp
    · have c3 := (HI 3).out.cellOf c3 (fun f => f)
      have hnx : ∀ ty, (Instr.next (.pointer (some ⟨W4.heap.size, 0, none⟩)) true ty).run Tryz.prog (W4.iter ⟨#[100, 97, 98]⟩ 2) = .ok (.tuple #[.bool true, .int .i64 2, .int .i32 98]) (W4.iter ⟨#[100, 97, 98]⟩ 3) := fun _ => by rw [run_next_ascii W4 _ 2 _ (by decide) (by decide)]; rfl
      go_wp2_with fail
      go_roundw
      case rel => exact ⟨3, by omega, by simp; omega, rfl⟩
      case measure => simp
    · have hnx : ∀ ty, (Instr.next (.pointer (some ⟨W4.heap.size, 0, none⟩)) true ty).run Tryz.prog (W4.iter ⟨#[100, 97, 98]⟩ 3) = .ok (.tuple #[.bool false]) (W4.iter ⟨#[100, 97, 98]⟩ 3) := fun _ => run_next_end W4 _ 3 _ (by decide)
      have f0 := (HI 3).out.cellOf f0 (fun f => f)
      have f3 := (HI 3).out.cellOf f3 (fun f => f)
      have c4 := (HI 3).out.cellOf c4 (fun f => f)
      go_wp2_with (go_at_call 42; refine (pieces_82 _).mono ?_; rintro e w' ⟨rfl, rfl⟩)
      go_loopw [6, 80] (fun u v wr => v = .int .i64 0 ∧ u = .int .u32 ((l + m * 4096 + rd * 128 + ra * 32768 + rb * 1048576 + hi * 33554432) % 4294967296) ∧ wr = W4.iter ⟨#[100, 97, 98]⟩ 3) (fun _ _ _ => 0)
      case atStart => exact ⟨rfl, by simp, rfl⟩
      case round =>
        obtain ⟨rfl, rfl, rfl⟩ := hrel
        have HALL : Hid (Mods None W (W4.iter ⟨#[100, 97, 98]⟩ 3)) := Lib.hid (((HM.out.trans HM2.out).trans HM4.out).trans (HI 3).out)
        go_wp2_with fail
        go_ret2
        refine ⟨ret_word ?_, HALL.out⟩
        have hvo := HV.out
        omega
theorem word_73 (p rd ra rb n l m hi : Int) (h1 : 1 ≤ p) (h2 : p ≤ 31) (hk : kindOf p = 73) (hr : (Ins.mk p rd ra rb n).right = true) (hl : l = lowOf p) (hm : m = midOf p) (hh : hi = highOf p) :
    (Ins.mk p rd ra rb n).word = (l + m * 4096 + rd * 128 + ra * 32768 + hi * 33554432 + n / 1 % 4096 * 1048576) % 4294967296 := by
  have tab := (tab_ok p h1 h2).1
  rw [hk, ← hl, ← hm, ← hh] at tab
  simp [Ins.right, hk, rightB, bodyB, regB, h1, h2] at hr
  obtain ⟨t1, t2⟩ := tab.hl
  obtain ⟨t3, t4⟩ := tab.hm
  obtain ⟨t5, t6⟩ := tab.hh
  have t7 := tab.he
  have t8 := tab.hz
  have t9 : hi = 0 := by rw [hh]; exact high_zero p h1 h2 (by omega) (by omega)
  simp only [Ins.word]
  rw [hk, ← hl, ← hm, ← hh, raw_73 l m rd ra rb n hi tab.hl tab.hm (by omega) (by omega) (by omega) tab.hh]
  omega
set_option maxRecDepth 100000 in
set_option maxHeartbeats 1000000 in
theorem enc_73 (x : Ins) (W : World) (hr : x.right = true) (h1 : 1 ≤ x.op) (h2 : x.op ≤ 31) (hk : kindOf x.op = 73) : Calls Tryz.prog 20 #[x.val] W fun e W' => e = .returned (.tuple #[.int .u32 x.word, .int .i64 0]) ∧ Mods None W W' := by
  obtain ⟨p, rd, ra, rb, n⟩ := x
  simp only at h1 h2 hk
  obtain ⟨W1, hW1⟩ : ∃ W1, W1 = W.alloc (.cells (instCells p rd ra rb n) 30) := ⟨_, rfl⟩
  have F1 : Hid (Five W1 W.heap.size p rd ra rb n) := Lib.hid (by rw [hW1]; exact five_new W _ _ _ _ _ 30)
  have HM : Hid (Mods None W W1) := Lib.hid (by rw [hW1]; exact (Mods.refl _ _).alloc _)
  have HRR := right_ref ⟨p, rd, ra, rb, n⟩ W1
  rw [hr] at HRR
  have HR := Lib.hid HRR
  clear HRR
  simp only [Ins.val] at HR ⊢
  obtain ⟨l, hl⟩ : ∃ l, l = lowOf p := ⟨_, rfl⟩
  obtain ⟨m, hm⟩ : ∃ m, m = midOf p := ⟨_, rfl⟩
  obtain ⟨hi, hh⟩ : ∃ hi, hi = highOf p := ⟨_, rfl⟩
  obtain ⟨nm, hn⟩ : ∃ nm, nm = nameOf p := ⟨_, rfl⟩
  have HF : ∀ W, Hid (Calls Tryz.prog 38 #[.int .i64 p] W fun e W' => e = .returned (.tuple #[.agg #[.int .u8 73, .int .u32 l, .int .u32 m, .int .u32 hi, .string nm], .bool true]) ∧ Mods None W W') := fun W => Lib.hid (by
    have := form_parts p h1 h2 W
    rw [hk, ← hl, ← hm, ← hh, ← hn] at this
    exact this)
  obtain ⟨v, hv⟩ : ∃ v, v = Ins.word ⟨p, rd, ra, rb, n⟩ := ⟨_, rfl⟩
  have HV : Hid (v = (l + m * 4096 + rd * 128 + ra * 32768 + hi * 33554432 + n / 1 % 4096 * 1048576) % 4294967296) := Lib.hid (by
    rw [hv]
    exact word_73 p rd ra rb n l m hi h1 h2 hk hr hl hm hh)
  rw [← hv]
  have HL : Hid (0 ≤ l ∧ l < 128) := Lib.hid (by have t := (tab_ok p h1 h2).1.hl; rw [← hl] at t; exact t)
  clear hl hm hh hn hk hv h1 h2 hr
  obtain ⟨c0, c1, c2, c3, c4, cf⟩ := F1.out
  go_enter Tryz.func20, Tryz.ntmps20
  go_wp2_with fail
  rw [← hW1]
  clear hW1
  refine HR.out.mono ?_
  rintro e w2 ⟨rfl, hm2⟩
  have HM2 := Lib.hid hm2
  have c0 := hm2.cellOf c0 (fun f => f)
  have c1 := hm2.cellOf c1 (fun f => f)
  have c2 := hm2.cellOf c2 (fun f => f)
  have c3 := hm2.cellOf c3 (fun f => f)
  have c4 := hm2.cellOf c4 (fun f => f)
  clear hm2 cf
  go_wp2_with fail
  refine (HF w2).out.mono ?_
  rintro e w3 ⟨rfl, hm3⟩
  obtain ⟨W4, hW4⟩ : ∃ W4, W4 = w3.alloc (.cells #[.int .u8 73, .int .u32 l, .int .u32 m, .int .u32 hi, .string nm] 87) := ⟨_, rfl⟩
  have HM4 : Hid (Mods None w2 W4) := Lib.hid (by rw [hW4]; exact hm3.alloc _)
  have HB4 : Hid (Blk W4 w3.heap.size [.int .u8 73, .int .u32 l, .int .u32 m, .int .u32 hi, .string nm] 87) := Lib.hid (by rw [hW4]; exact Blk.new w3 _ _)
  clear c0
  go_wp2_with fail
  rw [← hW4]
  clear hW4 hm3
  have f0 : W4.cell? ⟨w3.heap.size, 0, none⟩ = some (.int .u8 73) := HB4.out.cell rfl
  have f1 : W4.cell? ⟨w3.heap.size, 1, none⟩ = some (.int .u32 l) := HB4.out.cell rfl
  have f2 : W4.cell? ⟨w3.heap.size, 2, none⟩ = some (.int .u32 m) := HB4.out.cell rfl
  have f3 : W4.cell? ⟨w3.heap.size, 3, none⟩ = some (.int .u32 hi) := HB4.out.cell rfl
  have c1 := HM4.out.cellOf c1 (fun f => f)
  have c2 := HM4.out.cellOf c2 (fun f => f)
  have c3 := HM4.out.cellOf c3 (fun f => f)
  have c4 := HM4.out.cellOf c4 (fun f => f)
  go_wp2_with (go_at_call 41; refine (has_73 _).mono ?_; rintro e w' ⟨rfl, rfl⟩)
  go_loopw [6] (fun v wr => ∃ i : Nat, i ≤ 2 ∧ v = .int .u32 ((l + m * 4096 + (if 1 ≤ i then rd * 128 else 0) + (if 2 ≤ i then ra * 32768 else 0)) % 4294967296) ∧ wr = W4.iter ⟨#[100, 97]⟩ i) (fun _ wr => 2 - wr.iterPos W4.heap.size)
  case atStart => exact ⟨0, by omega, by simp, rfl⟩
  case round =>
    obtain ⟨i, hi3, rfl, rfl⟩ := hrel
    have HI : ∀ i, Hid (Mods None W4 (W4.iter ⟨#[100, 97]⟩ i)) := fun i => Lib.hid ((Mods.refl _ _).alloc _)
    have hcase : i = 0 ∨ i = 1 ∨ i = 2 := by omega
    rcases hcase with rfl | rfl | rfl
    · have c1 := (HI 1).out.cellOf c1 (fun f => f)
      have hnx : ∀ ty, (Instr.next (.pointer (some ⟨W4.heap.size, 0, none⟩)) true ty).run Tryz.prog (W4.iter ⟨#[100, 97]⟩ 0) = .ok (.tuple #[.bool true, .int .i64 0, .int .i32 100]) (W4.iter ⟨#[100, 97]⟩ 1) := fun _ => by rw [run_next_ascii W4 _ 0 _ (by decide) (by decide)]; rfl
      go_wp2_with fail
      go_roundw
      case rel => exact ⟨1, by omega, by simp; omega, rfl⟩
      case measure => simp
    · have c2 := (HI 2).out.cellOf c2 (fun f => f)
      have hnx : ∀ ty, (Instr.next (.pointer (some ⟨W4.heap.size, 0, none⟩)) true ty).run Tryz.prog (W4.iter ⟨#[100, 97]⟩ 1) = .ok (.tuple #[.bool true, .int .i64 1, .int .i32 97]) (W4.iter ⟨#[100, 97]⟩ 2) := fun _ => by rw [run_next_ascii W4 _ 1 _ (by decide) (by decide)]; rfl
      go_wp2_with fail
      go_roundw
      case rel => exact ⟨2, by omega, by simp; omega, rfl⟩
      case measure => simp
    · have hnx : ∀ ty, (Instr.next (.pointer (some ⟨W4.heap.size, 0, none⟩)) true ty).run Tryz.prog (W4.iter ⟨#[100, 97]⟩ 2) = .ok (.tuple #[.bool false]) (W4.iter ⟨#[100, 97]⟩ 2) := fun _ => run_next_end W4 _ 2 _ (by decide)
      have f0 := (HI 2).out.cellOf f0 (fun f => f)
      have f3 := (HI 2).out.cellOf f3 (fun f => f)
      have c4 := (HI 2).out.cellOf c4 (fun f => f)
      have HALL0 : Hid (Mods None W (W4.iter ⟨#[100, 97]⟩ 2)) := Lib.hid (((HM.out.trans HM2.out).trans HM4.out).trans (HI 2).out)
      obtain ⟨W5, hW5⟩ : ∃ W5, W5 = (W4.iter ⟨#[100, 97]⟩ 2).alloc (.cells #[.int .i64 0, .int .i64 12, .int .i64 20] 94) := ⟨_, rfl⟩
      have HM5 : Hid (Mods None (W4.iter ⟨#[100, 97]⟩ 2) W5) := Lib.hid (by rw [hW5]; exact (Mods.refl _ _).alloc _)
      have HP : Hid (Blk W5 (W4.iter ⟨#[100, 97]⟩ 2).heap.size [.int .i64 0, .int .i64 12, .int .i64 20] 94) := Lib.hid (by rw [hW5]; exact Blk.new _ _ _)
      go_wp2_with (go_at_call 42; refine (pieces_73 _).mono ?_; rintro e w' ⟨rfl, rfl⟩)
      rw [← hW5]
      clear hW5 hnx
      have c4 := HM5.out.cellOf c4 (fun f => f)
      go_loopw [6, 80] (fun u v wr => ∃ j : Nat, j ≤ 1 ∧ v = .int .i64 j ∧ u = .int .u32 ((l + m * 4096 + rd * 128 + ra * 32768 + hi * 33554432 + (if 1 ≤ j then n / 1 % 4096 * 1048576 else 0)) % 4294967296) ∧ Hid (Mods None W5 wr)) (fun _ v _ => (1 - intOf v).toNat)
      case atStart => exact ⟨0, by omega, rfl, by simp, Lib.hid (Mods.refl _ _)⟩
      case round =>
        obtain ⟨j, hj, rfl, rfl, hmw⟩ := hrel
        have c4 := hmw.out.cellOf c4 (fun f => f)
        have HALL : Hid (Mods None W wr) := Lib.hid ((HALL0.out.trans HM5.out).trans hmw.out)
        have hcase : j = 0 ∨ j = 1 := by omega
        rcases hcase with rfl | rfl
        · have p0 : wr.cell? ⟨(W4.iter ⟨#[100, 97]⟩ 2).heap.size, 0, none⟩ = some (.int .i64 0) := (HP.out.mods hmw.out (fun f => f)).cell rfl
          have p1 : wr.cell? ⟨(W4.iter ⟨#[100, 97]⟩ 2).heap.size, 1, none⟩ = some (.int .i64 12) := (HP.out.mods hmw.out (fun f => f)).cell rfl
          have p2 : wr.cell? ⟨(W4.iter ⟨#[100, 97]⟩ 2).heap.size, 2, none⟩ = some (.int .i64 20) := (HP.out.mods hmw.out (fun f => f)).cell rfl
          obtain ⟨W7, hW7⟩ : ∃ W7, W7 = wr.alloc (.cells #[.int .i64 0, .int .i64 12, .int .i64 20] 94) := ⟨_, rfl⟩
          have HB7 : Hid (Blk W7 wr.heap.size [.int .i64 0, .int .i64 12, .int .i64 20] 94) := Lib.hid (by rw [hW7]; exact Blk.new wr _ _)
          have HM7 : Hid (Mods None wr W7) := Lib.hid (by rw [hW7]; exact (Mods.refl _ _).alloc _)
          go_wp2_with fail
          rw [← hW7]
          have c4 := HM7.out.cellOf c4 (fun f => f)
          clear p0 p1 p2 hW7
          have q0 : W7.cell? ⟨wr.heap.size, 0, none⟩ = some (.int .i64 0) := HB7.out.cell rfl
          have q1 : W7.cell? ⟨wr.heap.size, 1, none⟩ = some (.int .i64 12) := HB7.out.cell rfl
          have q2 : W7.cell? ⟨wr.heap.size, 2, none⟩ = some (.int .i64 20) := HB7.out.cell rfl
          go_wp2_with fail
          go_loopw [6, 86] (fun u v w8 => ∃ i : Nat, i ≤ 12 ∧ v = .int .i64 i ∧ u = .int .u32 ((l + m * 4096 + rd * 128 + ra * 32768 + hi * 33554432 + n / 1 % 2 ^ i * 1048576) % 4294967296) ∧ w8 = W7) (fun _ v _ => (12 - intOf v).toNat)
          case atStart => exact ⟨0, by omega, rfl, by simp, rfl⟩
          case round =>
            obtain ⟨i, hi, rfl, rfl, rfl⟩ := hrel
            have hcase : i = 0 ∨ i = 1 ∨ i = 2 ∨ i = 3 ∨ i = 4 ∨ i = 5 ∨ i = 6 ∨ i = 7 ∨ i = 8 ∨ i = 9 ∨ i = 10 ∨ i = 11 ∨ i = 12 := by omega
            rcases hcase with rfl | rfl | rfl | rfl | rfl | rfl | rfl | rfl | rfl | rfl | rfl | rfl | rfl
            · by_cases hb : n % 2 = 1
              · have hbt : (bits BinOp.and IntKind.i64 n 1 == 1) = true := by rw [and_one]; simpa using hb
                go_wp2_with fail
                go_roundw
                case rel => exact ⟨1, by omega, rfl, by simp; omega, by trivial⟩
                case measure => simp [intOf]
              · have hbt : (bits BinOp.and IntKind.i64 n 1 == 1) = false := by rw [and_one]; simpa using hb
                go_wp2_with fail
                go_roundw
                case rel => exact ⟨1, by omega, rfl, by simp; omega, by trivial⟩
                case measure => simp [intOf]
            · by_cases hb : (n / 2) % 2 = 1
              · have hbt : (bits BinOp.and IntKind.i64 (n / 2) 1 == 1) = true := by rw [and_one]; simpa using hb
                go_wp2_with fail
                go_roundw
                case rel => exact ⟨2, by omega, rfl, by simp; omega, by trivial⟩
                case measure => simp [intOf]
              · have hbt : (bits BinOp.and IntKind.i64 (n / 2) 1 == 1) = false := by rw [and_one]; simpa using hb
                go_wp2_with fail
                go_roundw
                case rel => exact ⟨2, by omega, rfl, by simp; omega, by trivial⟩
                case measure => simp [intOf]
            · by_cases hb : (n / 4) % 2 = 1
              · have hbt : (bits BinOp.and IntKind.i64 (n / 4) 1 == 1) = true := by rw [and_one]; simpa using hb
                go_wp2_with fail
                go_roundw
                case rel => exact ⟨3, by omega, rfl, by simp; omega, by trivial⟩
                case measure => simp [intOf]
              · have hbt : (bits BinOp.and IntKind.i64 (n / 4) 1 == 1) = false := by rw [and_one]; simpa using hb
                go_wp2_with fail
                go_roundw
                case rel => exact ⟨3, by omega, rfl, by simp; omega, by trivial⟩
                case measure => simp [intOf]
            · by_cases hb : (n / 8) % 2 = 1
              · have hbt : (bits BinOp.and IntKind.i64 (n / 8) 1 == 1) = true := by rw [and_one]; simpa using hb
                go_wp2_with fail
                go_roundw
                case rel => exact ⟨4, by omega, rfl, by simp; omega, by trivial⟩
                case measure => simp [intOf]
              · have hbt : (bits BinOp.and IntKind.i64 (n / 8) 1 == 1) = false := by rw [and_one]; simpa using hb
                go_wp2_with fail
                go_roundw
                case rel => exact ⟨4, by omega, rfl, by simp; omega, by trivial⟩
                case measure => simp [intOf]
            · by_cases hb : (n / 16) % 2 = 1
              · have hbt : (bits BinOp.and IntKind.i64 (n / 16) 1 == 1) = true := by rw [and_one]; simpa using hb
                go_wp2_with fail
                go_roundw
                case rel => exact ⟨5, by omega, rfl, by simp; omega, by trivial⟩
                case measure => simp [intOf]
              · have hbt : (bits BinOp.and IntKind.i64 (n / 16) 1 == 1) = false := by rw [and_one]; simpa using hb
                go_wp2_with fail
                go_roundw
                case rel => exact ⟨5, by omega, rfl, by simp; omega, by trivial⟩
                case measure => simp [intOf]
            · by_cases hb : (n / 32) % 2 = 1
              · have hbt : (bits BinOp.and IntKind.i64 (n / 32) 1 == 1) = true := by rw [and_one]; simpa using hb
                go_wp2_with fail
                go_roundw
                case rel => exact ⟨6, by omega, rfl, by simp; omega, by trivial⟩
                case measure => simp [intOf]
              · have hbt : (bits BinOp.and IntKind.i64 (n / 32) 1 == 1) = false := by rw [and_one]; simpa using hb
                go_wp2_with fail
                go_roundw
                case rel => exact ⟨6, by omega, rfl, by simp; omega, by trivial⟩
                case measure => simp [intOf]
            · by_cases hb : (n / 64) % 2 = 1
              · have hbt : (bits BinOp.and IntKind.i64 (n / 64) 1 == 1) = true := by rw [and_one]; simpa using hb
                go_wp2_with fail
                go_roundw
                case rel => exact ⟨7, by omega, rfl, by simp; omega, by trivial⟩
                case measure => simp [intOf]
              · have hbt : (bits BinOp.and IntKind.i64 (n / 64) 1 == 1) = false := by rw [and_one]; simpa using hb
                go_wp2_with fail
                go_roundw
                case rel => exact ⟨7, by omega, rfl, by simp; omega, by trivial⟩
                case measure => simp [intOf]
            · by_cases hb : (n / 128) % 2 = 1
              · have hbt : (bits BinOp.and IntKind.i64 (n / 128) 1 == 1) = true := by rw [and_one]; simpa using hb
                go_wp2_with fail
                go_roundw
                case rel => exact ⟨8, by omega, rfl, by simp; omega, by trivial⟩
                case measure => simp [intOf]
              · have hbt : (bits BinOp.and IntKind.i64 (n / 128) 1 == 1) = false := by rw [and_one]; simpa using hb
                go_wp2_with fail
                go_roundw
                case rel => exact ⟨8, by omega, rfl, by simp; omega, by trivial⟩
                case measure => simp [intOf]
            · by_cases hb : (n / 256) % 2 = 1
              · have hbt : (bits BinOp.and IntKind.i64 (n / 256) 1 == 1) = true := by rw [and_one]; simpa using hb
                go_wp2_with fail
                go_roundw
                case rel => exact ⟨9, by omega, rfl, by simp; omega, by trivial⟩
                case measure => simp [intOf]
              · have hbt : (bits BinOp.and IntKind.i64 (n / 256) 1 == 1) = false := by rw [and_one]; simpa using hb
                go_wp2_with fail
                go_roundw
                case rel => exact ⟨9, by omega, rfl, by simp; omega, by trivial⟩
                case measure => simp [intOf]
            · by_cases hb : (n / 512) % 2 = 1
              · have hbt : (bits BinOp.and IntKind.i64 (n / 512) 1 == 1) = true := by rw [and_one]; simpa using hb
                go_wp2_with fail
                go_roundw
                case rel => exact ⟨10, by omega, rfl, by simp; omega, by trivial⟩
                case measure => simp [intOf]
              · have hbt : (bits BinOp.and IntKind.i64 (n / 512) 1 == 1) = false := by rw [and_one]; simpa using hb
                go_wp2_with fail
                go_roundw
                case rel => exact ⟨10, by omega, rfl, by simp; omega, by trivial⟩
                case measure => simp [intOf]
            · by_cases hb : (n / 1024) % 2 = 1
              · have hbt : (bits BinOp.and IntKind.i64 (n / 1024) 1 == 1) = true := by rw [and_one]; simpa using hb
                go_wp2_with fail
                go_roundw
                case rel => exact ⟨11, by omega, rfl, by simp; omega, by trivial⟩
                case measure => simp [intOf]
              · have hbt : (bits BinOp.and IntKind.i64 (n / 1024) 1 == 1) = false := by rw [and_one]; simpa using hb
                go_wp2_with fail
                go_roundw
                case rel => exact ⟨11, by omega, rfl, by simp; omega, by trivial⟩
                case measure => simp [intOf]
            · by_cases hb : (n / 2048) % 2 = 1
              · have hbt : (bits BinOp.and IntKind.i64 (n / 2048) 1 == 1) = true := by rw [and_one]; simpa using hb
                go_wp2_with fail
                go_roundw
                case rel => exact ⟨12, by omega, rfl, by simp; omega, by trivial⟩
                case measure => simp [intOf]
              · have hbt : (bits BinOp.and IntKind.i64 (n / 2048) 1 == 1) = false := by rw [and_one]; simpa using hb
                go_wp2_with fail
                go_roundw
                case rel => exact ⟨12, by omega, rfl, by simp; omega, by trivial⟩
                case measure => simp [intOf]
            · go_wp2_with fail
              go_roundw
              case rel => exact ⟨1, by omega, rfl, by simp, Lib.hid (hmw.out.trans HM7.out)⟩
              case measure => simp [intOf]
        · go_wp2_with fail
          go_ret2
          refine ⟨ret_word ?_, HALL.out⟩
          have hvo := HV.out
          omega
theorem word_72 (p rd ra rb n l m hi : Int) (h1 : 1 ≤ p) (h2 : p ≤ 31) (hk : kindOf p = 72) (hr : (Ins.mk p rd ra rb n).right = true) (hl : l = lowOf p) (hm : m = midOf p) (hh : hi = highOf p) :
    (Ins.mk p rd ra rb n).word = (l + m * 4096 + rd * 128 + ra * 32768 + hi * 33554432 + n / 1 % 64 * 1048576) % 4294967296 := by
  have tab := (tab_ok p h1 h2).1
  rw [hk, ← hl, ← hm, ← hh] at tab
  simp [Ins.right, hk, rightB, bodyB, regB, h1, h2] at hr
  obtain ⟨t1, t2⟩ := tab.hl
  obtain ⟨t3, t4⟩ := tab.hm
  obtain ⟨t5, t6⟩ := tab.hh
  have t7 := tab.he
  have t8 := tab.hz
  have t9 := trivial
  simp only [Ins.word]
  rw [hk, ← hl, ← hm, ← hh, raw_72 l m rd ra rb n hi (hi / 2) tab.hl tab.hm (by omega) (by omega) (by omega) (by omega) (by omega)]
  omega
set_option maxRecDepth 100000 in
set_option maxHeartbeats 1000000 in
theorem enc_72 (x : Ins) (W : World) (hr : x.right = true) (h1 : 1 ≤ x.op) (h2 : x.op ≤ 31) (hk : kindOf x.op = 72) : Calls Tryz.prog 20 #[x.val] W fun e W' => e = .returned (.tuple #[.int .u32 x.word, .int .i64 0]) ∧ Mods None W W' := by
  obtain ⟨p, rd, ra, rb, n⟩ := x
  simp only at h1 h2 hk
  obtain ⟨W1, hW1⟩ : ∃ W1, W1 = W.alloc (.cells (instCells p rd ra rb n) 30) := ⟨_, rfl⟩
  have F1 : Hid (Five W1 W.heap.size p rd ra rb n) := Lib.hid (by rw [hW1]; exact five_new W _ _ _ _ _ 30)
  have HM : Hid (Mods None W W1) := Lib.hid (by rw [hW1]; exact (Mods.refl _ _).alloc _)
  have HRR := right_ref ⟨p, rd, ra, rb, n⟩ W1
  rw [hr] at HRR
  have HR := Lib.hid HRR
  clear HRR
  simp only [Ins.val] at HR ⊢
  obtain ⟨l, hl⟩ : ∃ l, l = lowOf p := ⟨_, rfl⟩
  obtain ⟨m, hm⟩ : ∃ m, m = midOf p := ⟨_, rfl⟩
  obtain ⟨hi, hh⟩ : ∃ hi, hi = highOf p := ⟨_, rfl⟩
  obtain ⟨nm, hn⟩ : ∃ nm, nm = nameOf p := ⟨_, rfl⟩
  have HF : ∀ W, Hid (Calls Tryz.prog 38 #[.int .i64 p] W fun e W' => e = .returned (.tuple #[.agg #[.int .u8 72, .int .u32 l, .int .u32 m, .int .u32 hi, .string nm], .bool true]) ∧ Mods None W W') := fun W => Lib.hid (by
    have := form_parts p h1 h2 W
    rw [hk, ← hl, ← hm, ← hh, ← hn] at this
    exact this)
  obtain ⟨v, hv⟩ : ∃ v, v = Ins.word ⟨p, rd, ra, rb, n⟩ := ⟨_, rfl⟩
  have HV : Hid (v = (l + m * 4096 + rd * 128 + ra * 32768 + hi * 33554432 + n / 1 % 64 * 1048576) % 4294967296) := Lib.hid (by
    rw [hv]
    exact word_72 p rd ra rb n l m hi h1 h2 hk hr hl hm hh)
  rw [← hv]
  have HL : Hid (0 ≤ l ∧ l < 128) := Lib.hid (by have t := (tab_ok p h1 h2).1.hl; rw [← hl] at t; exact t)
  clear hl hm hh hn hk hv h1 h2 hr
  obtain ⟨c0, c1, c2, c3, c4, cf⟩ := F1.out
  go_enter Tryz.func20, Tryz.ntmps20
  go_wp2_with fail
  rw [← hW1]
  clear hW1
  refine HR.out.mono ?_
  rintro e w2 ⟨rfl, hm2⟩
  have HM2 := Lib.hid hm2
  have c0 := hm2.cellOf c0 (fun f => f)
  have c1 := hm2.cellOf c1 (fun f => f)
  have c2 := hm2.cellOf c2 (fun f => f)
  have c3 := hm2.cellOf c3 (fun f => f)
  have c4 := hm2.cellOf c4 (fun f => f)
  clear hm2 cf
  go_wp2_with fail
  refine (HF w2).out.mono ?_
  rintro e w3 ⟨rfl, hm3⟩
  obtain ⟨W4, hW4⟩ : ∃ W4, W4 = w3.alloc (.cells #[.int .u8 72, .int .u32 l, .int .u32 m, .int .u32 hi, .string nm] 87) := ⟨_, rfl⟩
  have HM4 : Hid (Mods None w2 W4) := Lib.hid (by rw [hW4]; exact hm3.alloc _)
  have HB4 : Hid (Blk W4 w3.heap.size [.int .u8 72, .int .u32 l, .int .u32 m, .int .u32 hi, .string nm] 87) := Lib.hid (by rw [hW4]; exact Blk.new w3 _ _)
  clear c0
  go_wp2_with fail
  rw [← hW4]
  clear hW4 hm3
  have f0 : W4.cell? ⟨w3.heap.size, 0, none⟩ = some (.int .u8 72) := HB4.out.cell rfl
  have f1 : W4.cell? ⟨w3.heap.size, 1, none⟩ = some (.int .u32 l) := HB4.out.cell rfl
  have f2 : W4.cell? ⟨w3.heap.size, 2, none⟩ = some (.int .u32 m) := HB4.out.cell rfl
  have f3 : W4.cell? ⟨w3.heap.size, 3, none⟩ = some (.int .u32 hi) := HB4.out.cell rfl
  have c1 := HM4.out.cellOf c1 (fun f => f)
  have c2 := HM4.out.cellOf c2 (fun f => f)
  have c3 := HM4.out.cellOf c3 (fun f => f)
  have c4 := HM4.out.cellOf c4 (fun f => f)
  go_wp2_with (go_at_call 41; refine (has_72 _).mono ?_; rintro e w' ⟨rfl, rfl⟩)
  go_loopw [6] (fun v wr => ∃ i : Nat, i ≤ 2 ∧ v = .int .u32 ((l + m * 4096 + (if 1 ≤ i then rd * 128 else 0) + (if 2 ≤ i then ra * 32768 else 0)) % 4294967296) ∧ wr = W4.iter ⟨#[100, 97]⟩ i) (fun _ wr => 2 - wr.iterPos W4.heap.size)
  case atStart => exact ⟨0, by omega, by simp, rfl⟩
  case round =>
    obtain ⟨i, hi3, rfl, rfl⟩ := hrel
    have HI : ∀ i, Hid (Mods None W4 (W4.iter ⟨#[100, 97]⟩ i)) := fun i => Lib.hid ((Mods.refl _ _).alloc _)
    have hcase : i = 0 ∨ i = 1 ∨ i = 2 := by omega
    rcases hcase with rfl | rfl | rfl
    · have c1 := (HI 1).out.cellOf c1 (fun f => f)
      have hnx : ∀ ty, (Instr.next (.pointer (some ⟨W4.heap.size, 0, none⟩)) true ty).run Tryz.prog (W4.iter ⟨#[100, 97]⟩ 0) = .ok (.tuple #[.bool true, .int .i64 0, .int .i32 100]) (W4.iter ⟨#[100, 97]⟩ 1) := fun _ => by rw [run_next_ascii W4 _ 0 _ (by decide) (by decide)]; rfl
      go_wp2_with fail
      go_roundw
      case rel => exact ⟨1, by omega, by simp; omega, rfl⟩
      case measure => simp
    · have c2 := (HI 2).out.cellOf c2 (fun f => f)
      have hnx : ∀ ty, (Instr.next (.pointer (some ⟨W4.heap.size, 0, none⟩)) true ty).run Tryz.prog (W4.iter ⟨#[100, 97]⟩ 1) = .ok (.tuple #[.bool true, .int .i64 1, .int .i32 97]) (W4.iter ⟨#[100, 97]⟩ 2) := fun _ => by rw [run_next_ascii W4 _ 1 _ (by decide) (by decide)]; rfl
      go_wp2_with fail
      go_roundw
      case rel => exact ⟨2, by omega, by simp; omega, rfl⟩
      case measure => simp
    · have hnx : ∀ ty, (Instr.next (.pointer (some ⟨W4.heap.size, 0, none⟩)) true ty).run Tryz.prog (W4.iter ⟨#[100, 97]⟩ 2) = .ok (.tuple #[.bool false]) (W4.iter ⟨#[100, 97]⟩ 2) := fun _ => run_next_end W4 _ 2 _ (by decide)
      have f0 := (HI 2).out.cellOf f0 (fun f => f)
      have f3 := (HI 2).out.cellOf f3 (fun f => f)
      have c4 := (HI 2).out.cellOf c4 (fun f => f)
      have HALL0 : Hid (Mods None W (W4.iter ⟨#[100, 97]⟩ 2)) := Lib.hid (((HM.out.trans HM2.out).trans HM4.out).trans (HI 2).out)
      obtain ⟨W5, hW5⟩ : ∃ W5, W5 = (W4.iter ⟨#[100, 97]⟩ 2).alloc (.cells #[.int .i64 0, .int .i64 6, .int .i64 20] 94) := ⟨_, rfl⟩
      have HM5 : Hid (Mods None (W4.iter ⟨#[100, 97]⟩ 2) W5) := Lib.hid (by rw [hW5]; exact (Mods.refl _ _).alloc _)
      have HP : Hid (Blk W5 (W4.iter ⟨#[100, 97]⟩ 2).heap.size [.int .i64 0, .int .i64 6, .int .i64 20] 94) := Lib.hid (by rw [hW5]; exact Blk.new _ _ _)
      go_wp2_with (go_at_call 42; refine (pieces_72 _).mono ?_; rintro e w' ⟨rfl, rfl⟩)
      rw [← hW5]
      clear hW5 hnx
      have c4 := HM5.out.cellOf c4 (fun f => f)
      go_loopw [6, 80] (fun u v wr => ∃ j : Nat, j ≤ 1 ∧ v = .int .i64 j ∧ u = .int .u32 ((l + m * 4096 + rd * 128 + ra * 32768 + hi * 33554432 + (if 1 ≤ j then n / 1 % 64 * 1048576 else 0)) % 4294967296) ∧ Hid (Mods None W5 wr)) (fun _ v _ => (1 - intOf v).toNat)
      case atStart => exact ⟨0, by omega, rfl, by simp, Lib.hid (Mods.refl _ _)⟩
      case round =>
        obtain ⟨j, hj, rfl, rfl, hmw⟩ := hrel
        have c4 := hmw.out.cellOf c4 (fun f => f)
        have HALL : Hid (Mods None W wr) := Lib.hid ((HALL0.out.trans HM5.out).trans hmw.out)
        have hcase : j = 0 ∨ j = 1 := by omega
        rcases hcase with rfl | rfl
        · have p0 : wr.cell? ⟨(W4.iter ⟨#[100, 97]⟩ 2).heap.size, 0, none⟩ = some (.int .i64 0) := (HP.out.mods hmw.out (fun f => f)).cell rfl
          have p1 : wr.cell? ⟨(W4.iter ⟨#[100, 97]⟩ 2).heap.size, 1, none⟩ = some (.int .i64 6) := (HP.out.mods hmw.out (fun f => f)).cell rfl
          have p2 : wr.cell? ⟨(W4.iter ⟨#[100, 97]⟩ 2).heap.size, 2, none⟩ = some (.int .i64 20) := (HP.out.mods hmw.out (fun f => f)).cell rfl
          obtain ⟨W7, hW7⟩ : ∃ W7, W7 = wr.alloc (.cells #[.int .i64 0, .int .i64 6, .int .i64 20] 94) := ⟨_, rfl⟩
          have HB7 : Hid (Blk W7 wr.heap.size [.int .i64 0, .int .i64 6, .int .i64 20] 94) := Lib.hid (by rw [hW7]; exact Blk.new wr _ _)
          have HM7 : Hid (Mods None wr W7) := Lib.hid (by rw [hW7]; exact (Mods.refl _ _).alloc _)
          go_wp2_with fail
          rw [← hW7]
          have c4 := HM7.out.cellOf c4 (fun f => f)
          clear p0 p1 p2 hW7
          have q0 : W7.cell? ⟨wr.heap.size, 0, none⟩ = some (.int .i64 0) := HB7.out.cell rfl
          have q1 : W7.cell? ⟨wr.heap.size, 1, none⟩ = some (.int .i64 6) := HB7.out.cell rfl
          have q2 : W7.cell? ⟨wr.heap.size, 2, none⟩ = some (.int .i64 20) := HB7.out.cell rfl
          go_wp2_with fail
          go_loopw [6, 86] (fun u v w8 => ∃ i : Nat, i ≤ 6 ∧ v = .int .i64 i ∧ u = .int .u32 ((l + m * 4096 + rd * 128 + ra * 32768 + hi * 33554432 + n / 1 % 2 ^ i * 1048576) % 4294967296) ∧ w8 = W7) (fun _ v _ => (6 - intOf v).toNat)
          case atStart => exact ⟨0, by omega, rfl, by simp, rfl⟩
          case round =>
            obtain ⟨i, hi, rfl, rfl, rfl⟩ := hrel
            have hcase : i = 0 ∨ i = 1 ∨ i = 2 ∨ i = 3 ∨ i = 4 ∨ i = 5 ∨ i = 6 := by omega
            rcases hcase with rfl | rfl | rfl | rfl | rfl | rfl | rfl
            · by_cases hb : n % 2 = 1
              · have hbt : (bits BinOp.and IntKind.i64 n 1 == 1) = true := by rw [and_one]; simpa using hb
                go_wp2_with fail
                go_roundw
                case rel => exact ⟨1, by omega, rfl, by simp; omega, by trivial⟩
                case measure => simp [intOf]
              · have hbt : (bits BinOp.and IntKind.i64 n 1 == 1) = false := by rw [and_one]; simpa using hb
                go_wp2_with fail
                go_roundw
                case rel => exact ⟨1, by omega, rfl, by simp; omega, by trivial⟩
                case measure => simp [intOf]
            · by_cases hb : (n / 2) % 2 = 1
              · have hbt : (bits BinOp.and IntKind.i64 (n / 2) 1 == 1) = true := by rw [and_one]; simpa using hb
                go_wp2_with fail
                go_roundw
                case rel => exact ⟨2, by omega, rfl, by simp; omega, by trivial⟩
                case measure => simp [intOf]
              · have hbt : (bits BinOp.and IntKind.i64 (n / 2) 1 == 1) = false := by rw [and_one]; simpa using hb
                go_wp2_with fail
                go_roundw
                case rel => exact ⟨2, by omega, rfl, by simp; omega, by trivial⟩
                case measure => simp [intOf]
            · by_cases hb : (n / 4) % 2 = 1
              · have hbt : (bits BinOp.and IntKind.i64 (n / 4) 1 == 1) = true := by rw [and_one]; simpa using hb
                go_wp2_with fail
                go_roundw
                case rel => exact ⟨3, by omega, rfl, by simp; omega, by trivial⟩
                case measure => simp [intOf]
              · have hbt : (bits BinOp.and IntKind.i64 (n / 4) 1 == 1) = false := by rw [and_one]; simpa using hb
                go_wp2_with fail
                go_roundw
                case rel => exact ⟨3, by omega, rfl, by simp; omega, by trivial⟩
                case measure => simp [intOf]
            · by_cases hb : (n / 8) % 2 = 1
              · have hbt : (bits BinOp.and IntKind.i64 (n / 8) 1 == 1) = true := by rw [and_one]; simpa using hb
                go_wp2_with fail
                go_roundw
                case rel => exact ⟨4, by omega, rfl, by simp; omega, by trivial⟩
                case measure => simp [intOf]
              · have hbt : (bits BinOp.and IntKind.i64 (n / 8) 1 == 1) = false := by rw [and_one]; simpa using hb
                go_wp2_with fail
                go_roundw
                case rel => exact ⟨4, by omega, rfl, by simp; omega, by trivial⟩
                case measure => simp [intOf]
            · by_cases hb : (n / 16) % 2 = 1
              · have hbt : (bits BinOp.and IntKind.i64 (n / 16) 1 == 1) = true := by rw [and_one]; simpa using hb
                go_wp2_with fail
                go_roundw
                case rel => exact ⟨5, by omega, rfl, by simp; omega, by trivial⟩
                case measure => simp [intOf]
              · have hbt : (bits BinOp.and IntKind.i64 (n / 16) 1 == 1) = false := by rw [and_one]; simpa using hb
                go_wp2_with fail
                go_roundw
                case rel => exact ⟨5, by omega, rfl, by simp; omega, by trivial⟩
                case measure => simp [intOf]
            · by_cases hb : (n / 32) % 2 = 1
              · have hbt : (bits BinOp.and IntKind.i64 (n / 32) 1 == 1) = true := by rw [and_one]; simpa using hb
                go_wp2_with fail
                go_roundw
                case rel => exact ⟨6, by omega, rfl, by simp; omega, by trivial⟩
                case measure => simp [intOf]
              · have hbt : (bits BinOp.and IntKind.i64 (n / 32) 1 == 1) = false := by rw [and_one]; simpa using hb
                go_wp2_with fail
                go_roundw
                case rel => exact ⟨6, by omega, rfl, by simp; omega, by trivial⟩
                case measure => simp [intOf]
            · go_wp2_with fail
              go_roundw
              case rel => exact ⟨1, by omega, rfl, by simp, Lib.hid (hmw.out.trans HM7.out)⟩
              case measure => simp [intOf]
        · go_wp2_with fail
          go_ret2
          refine ⟨ret_word ?_, HALL.out⟩
          have hvo := HV.out
          omega
theorem word_83 (p rd ra rb n l m hi : Int) (h1 : 1 ≤ p) (h2 : p ≤ 31) (hk : kindOf p = 83) (hr : (Ins.mk p rd ra rb n).right = true) (hl : l = lowOf p) (hm : m = midOf p) (hh : hi = highOf p) :
    (Ins.mk p rd ra rb n).word = (l + m * 4096 + ra * 32768 + rb * 1048576 + hi * 33554432 + n / 1 % 32 * 128 + n / 32 % 128 * 33554432) % 4294967296 := by
  have tab := (tab_ok p h1 h2).1
  rw [hk, ← hl, ← hm, ← hh] at tab
  simp [Ins.right, hk, rightB, bodyB, regB, h1, h2] at hr
  obtain ⟨t1, t2⟩ := tab.hl
  obtain ⟨t3, t4⟩ := tab.hm
  obtain ⟨t5, t6⟩ := tab.hh
  have t7 := tab.he
  have t8 := tab.hz
  have t9 : hi = 0 := by rw [hh]; exact high_zero p h1 h2 (by omega) (by omega)
  simp only [Ins.word]
  rw [hk, ← hl, ← hm, ← hh, raw_83 l m rd ra rb n hi tab.hl tab.hm (by omega) (by omega) (by omega) tab.hh]
  omega
set_option maxRecDepth 100000 in
set_option maxHeartbeats 1000000 in
theorem enc_83 (x : Ins) (W : World) (hr : x.right = true) (h1 : 1 ≤ x.op) (h2 : x.op ≤ 31) (hk : kindOf x.op = 83) : Calls Tryz.prog 20 #[x.val] W fun e W' => e = .returned (.tuple #[.int .u32 x.word, .int .i64 0]) ∧ Mods None W W' := by
  obtain ⟨p, rd, ra, rb, n⟩ := x
  simp only at h1 h2 hk
  obtain ⟨W1, hW1⟩ : ∃ W1, W1 = W.alloc (.cells (instCells p rd ra rb n) 30) := ⟨_, rfl⟩
  have F1 : Hid (Five W1 W.heap.size p rd ra rb n) := Lib.hid (by rw [hW1]; exact five_new W _ _ _ _ _ 30)
  have HM : Hid (Mods None W W1) := Lib.hid (by rw [hW1]; exact (Mods.refl _ _).alloc _)
  have HRR := right_ref ⟨p, rd, ra, rb, n⟩ W1
  rw [hr] at HRR
  have HR := Lib.hid HRR
  clear HRR
  simp only [Ins.val] at HR ⊢
  obtain ⟨l, hl⟩ : ∃ l, l = lowOf p := ⟨_, rfl⟩
  obtain ⟨m, hm⟩ : ∃ m, m = midOf p := ⟨_, rfl⟩
  obtain ⟨hi, hh⟩ : ∃ hi, hi = highOf p := ⟨_, rfl⟩
  obtain ⟨nm, hn⟩ : ∃ nm, nm = nameOf p := ⟨_, rfl⟩
  have HF : ∀ W, Hid (Calls Tryz.prog 38 #[.int .i64 p] W fun e W' => e = .returned (.tuple #[.agg #[.int .u8 83, .int .u32 l, .int .u32 m, .int .u32 hi, .string nm], .bool true]) ∧ Mods None W W') := fun W => Lib.hid (by
    have := form_parts p h1 h2 W
    rw [hk, ← hl, ← hm, ← hh, ← hn] at this
    exact this)
  obtain ⟨v, hv⟩ : ∃ v, v = Ins.word ⟨p, rd, ra, rb, n⟩ := ⟨_, rfl⟩
  have HV : Hid (v = (l + m * 4096 + ra * 32768 + rb * 1048576 + hi * 33554432 + n / 1 % 32 * 128 + n / 32 % 128 * 33554432) % 4294967296) := Lib.hid (by
    rw [hv]
    exact word_83 p rd ra rb n l m hi h1 h2 hk hr hl hm hh)
  rw [← hv]
  have HL : Hid (0 ≤ l ∧ l < 128) := Lib.hid (by have t := (tab_ok p h1 h2).1.hl; rw [← hl] at t; exact t)
  clear hl hm hh hn hk hv h1 h2 hr
  obtain ⟨c0, c1, c2, c3, c4, cf⟩ := F1.out
  go_enter Tryz.func20, Tryz.ntmps20
  go_wp2_with fail
  rw [← hW1]
  clear hW1
  refine HR.out.mono ?_
  rintro e w2 ⟨rfl, hm2⟩
  have HM2 := Lib.hid hm2
  have c0 := hm2.cellOf c0 (fun f => f)
  have c1 := hm2.cellOf c1 (fun f => f)
  have c2 := hm2.cellOf c2 (fun f => f)
  have c3 := hm2.cellOf c3 (fun f => f)
  have c4 := hm2.cellOf c4 (fun f => f)
  clear hm2 cf
  go_wp2_with fail
  refine (HF w2).out.mono ?_
  rintro e w3 ⟨rfl, hm3⟩
  obtain ⟨W4, hW4⟩ : ∃ W4, W4 = w3.alloc (.cells #[.int .u8 83, .int .u32 l, .int .u32 m, .int .u32 hi, .string nm] 87) := ⟨_, rfl⟩
  have HM4 : Hid (Mods None w2 W4) := Lib.hid (by rw [hW4]; exact hm3.alloc _)
  have HB4 : Hid (Blk W4 w3.heap.size [.int .u8 83, .int .u32 l, .int .u32 m, .int .u32 hi, .string nm] 87) := Lib.hid (by rw [hW4]; exact Blk.new w3 _ _)
  clear c0
  go_wp2_with fail
  rw [← hW4]
  clear hW4 hm3
  have f0 : W4.cell? ⟨w3.heap.size, 0, none⟩ = some (.int .u8 83) := HB4.out.cell rfl
  have f1 : W4.cell? ⟨w3.heap.size, 1, none⟩ = some (.int .u32 l) := HB4.out.cell rfl
  have f2 : W4.cell? ⟨w3.heap.size, 2, none⟩ = some (.int .u32 m) := HB4.out.cell rfl
  have f3 : W4.cell? ⟨w3.heap.size, 3, none⟩ = some (.int .u32 hi) := HB4.out.cell rfl
  have c1 := HM4.out.cellOf c1 (fun f => f)
  have c2 := HM4.out.cellOf c2 (fun f => f)
  have c3 := HM4.out.cellOf c3 (fun f => f)
  have c4 := HM4.out.cellOf c4 (fun f => f)
  go_wp2_with (go_at_call 41; refine (has_83 _).mono ?_; rintro e w' ⟨rfl, rfl⟩)
  go_loopw [6] (fun v wr => ∃ i : Nat, i ≤ 2 ∧ v = .int .u32 ((l + m * 4096 + (if 1 ≤ i then ra * 32768 else 0) + (if 2 ≤ i then rb * 1048576 else 0)) % 4294967296) ∧ wr = W4.iter ⟨#[97, 98]⟩ i) (fun _ wr => 2 - wr.iterPos W4.heap.size)
  case atStart => exact ⟨0, by omega, by simp, rfl⟩
  case round =>
    obtain ⟨i, hi3, rfl, rfl⟩ := hrel
    have HI : ∀ i, Hid (Mods None W4 (W4.iter ⟨#[97, 98]⟩ i)) := fun i => Lib.hid ((Mods.refl _ _).alloc _)
    have hcase : i = 0 ∨ i = 1 ∨ i = 2 := by omega
    rcases hcase with rfl | rfl | rfl
    · have c2 := (HI 1).out.cellOf c2 (fun f => f)
      have hnx : ∀ ty, (Instr.next (.pointer (some ⟨W4.heap.size, 0, none⟩)) true ty).run Tryz.prog (W4.iter ⟨#[97, 98]⟩ 0) = .ok (.tuple #[.bool true, .int .i64 0, .int .i32 97]) (W4.iter ⟨#[97, 98]⟩ 1) := fun _ => by rw [run_next_ascii W4 _ 0 _ (by decide) (by decide)]; rfl
      go_wp2_with fail
      go_roundw
      case rel => exact ⟨1, by omega, by simp; omega, rfl⟩
      case measure => simp
    · have c3 := (HI 2).out.cellOf c3 (fun f => f)
      have hnx : ∀ ty, (Instr.next (.pointer (some ⟨W4.heap.size, 0, none⟩)) true ty).run Tryz.prog (W4.iter ⟨#[97, 98]⟩ 1) = .ok (.tuple #[.bool true, .int .i64 1, .int .i32 98]) (W4.iter ⟨#[97, 98]⟩ 2) := fun _ => by rw [run_next_ascii W4 _ 1 _ (by decide) (by decide)]; rfl
      go_wp2_with fail
      go_roundw
      case rel => exact ⟨2, by omega, by simp; omega, rfl⟩
      case measure => simp
    · have hnx : ∀ ty, (Instr.next (.pointer (some ⟨W4.heap.size, 0, none⟩)) true ty).run Tryz.prog (W4.iter ⟨#[97, 98]⟩ 2) = .ok (.tuple #[.bool false]) (W4.iter ⟨#[97, 98]⟩ 2) := fun _ => run_next_end W4 _ 2 _ (by decide)
      have f0 := (HI 2).out.cellOf f0 (fun f => f)
      have f3 := (HI 2).out.cellOf f3 (fun f => f)
      have c4 := (HI 2).out.cellOf c4 (fun f => f)
      have HALL0 : Hid (Mods None W (W4.iter ⟨#[97, 98]⟩ 2)) := Lib.hid (((HM.out.trans HM2.out).trans HM4.out).trans (HI 2).out)
      obtain ⟨W5, hW5⟩ : ∃ W5, W5 = (W4.iter ⟨#[97, 98]⟩ 2).alloc (.cells #[.int .i64 0, .int .i64 5, .int .i64 7, .int .i64 5, .int .i64 7, .int .i64 25] 94) := ⟨_, rfl⟩
      have HM5 : Hid (Mods None (W4.iter ⟨#[97, 98]⟩ 2) W5) := Lib.hid (by rw [hW5]; exact (Mods.refl _ _).alloc _)
      have HP : Hid (Blk W5 (W4.iter ⟨#[97, 98]⟩ 2).heap.size [.int .i64 0, .int .i64 5, .int .i64 7, .int .i64 5, .int .i64 7, .int .i64 25] 94) := Lib.hid (by rw [hW5]; exact Blk.new _ _ _)
      go_wp2_with (go_at_call 42; refine (pieces_83 _).mono ?_; rintro e w' ⟨rfl, rfl⟩)
      rw [← hW5]
      clear hW5 hnx
      have c4 := HM5.out.cellOf c4 (fun f => f)
      go_loopw [6, 80] (fun u v wr => ∃ j : Nat, j ≤ 2 ∧ v = .int .i64 j ∧ u = .int .u32 ((l + m * 4096 + ra * 32768 + rb * 1048576 + hi * 33554432 + (if 1 ≤ j then n / 1 % 32 * 128 else 0) + (if 2 ≤ j then n / 32 % 128 * 33554432 else 0)) % 4294967296) ∧ Hid (Mods None W5 wr)) (fun _ v _ => (2 - intOf v).toNat)
      case atStart => exact ⟨0, by omega, rfl, by simp, Lib.hid (Mods.refl _ _)⟩
      case round =>
        obtain ⟨j, hj, rfl, rfl, hmw⟩ := hrel
        have c4 := hmw.out.cellOf c4 (fun f => f)
        have HALL : Hid (Mods None W wr) := Lib.hid ((HALL0.out.trans HM5.out).trans hmw.out)
        have hcase : j = 0 ∨ j = 1 ∨ j = 2 := by omega
        rcases hcase with rfl | rfl | rfl
        · have p0 : wr.cell? ⟨(W4.iter ⟨#[97, 98]⟩ 2).heap.size, 0, none⟩ = some (.int .i64 0) := (HP.out.mods hmw.out (fun f => f)).cell rfl
          have p1 : wr.cell? ⟨(W4.iter ⟨#[97, 98]⟩ 2).heap.size, 1, none⟩ = some (.int .i64 5) := (HP.out.mods hmw.out (fun f => f)).cell rfl
          have p2 : wr.cell? ⟨(W4.iter ⟨#[97, 98]⟩ 2).heap.size, 2, none⟩ = some (.int .i64 7) := (HP.out.mods hmw.out (fun f => f)).cell rfl
          obtain ⟨W7, hW7⟩ : ∃ W7, W7 = wr.alloc (.cells #[.int .i64 0, .int .i64 5, .int .i64 7] 94) := ⟨_, rfl⟩
          have HB7 : Hid (Blk W7 wr.heap.size [.int .i64 0, .int .i64 5, .int .i64 7] 94) := Lib.hid (by rw [hW7]; exact Blk.new wr _ _)
          have HM7 : Hid (Mods None wr W7) := Lib.hid (by rw [hW7]; exact (Mods.refl _ _).alloc _)
          go_wp2_with fail
          rw [← hW7]
          have c4 := HM7.out.cellOf c4 (fun f => f)
          clear p0 p1 p2 hW7
          have q0 : W7.cell? ⟨wr.heap.size, 0, none⟩ = some (.int .i64 0) := HB7.out.cell rfl
          have q1 : W7.cell? ⟨wr.heap.size, 1, none⟩ = some (.int .i64 5) := HB7.out.cell rfl
          have q2 : W7.cell? ⟨wr.heap.size, 2, none⟩ = some (.int .i64 7) := HB7.out.cell rfl
          go_wp2_with fail
          go_loopw [6, 86] (fun u v w8 => ∃ i : Nat, i ≤ 5 ∧ v = .int .i64 i ∧ u = .int .u32 ((l + m * 4096 + ra * 32768 + rb * 1048576 + hi * 33554432 + n / 1 % 2 ^ i * 128) % 4294967296) ∧ w8 = W7) (fun _ v _ => (5 - intOf v).toNat)
          case atStart => exact ⟨0, by omega, rfl, by simp, rfl⟩
          case round =>
            obtain ⟨i, hi, rfl, rfl, rfl⟩ := hrel
            have hcase : i = 0 ∨ i = 1 ∨ i = 2 ∨ i = 3 ∨ i = 4 ∨ i = 5 := by omega
            rcases hcase with rfl | rfl | rfl | rfl | rfl | rfl
            · by_cases hb : n % 2 = 1
              · have hbt : (bits BinOp.and IntKind.i64 n 1 == 1) = true := by rw [and_one]; simpa using hb
                go_wp2_with fail
                go_roundw
                case rel => exact ⟨1, by omega, rfl, by simp; omega, by trivial⟩
                case measure => simp [intOf]
              · have hbt : (bits BinOp.and IntKind.i64 n 1 == 1) = false := by rw [and_one]; simpa using hb
                go_wp2_with fail
                go_roundw
                case rel => exact ⟨1, by omega, rfl, by simp; omega, by trivial⟩
                case measure => simp [intOf]
            · by_cases hb : (n / 2) % 2 = 1
              · have hbt : (bits BinOp.and IntKind.i64 (n / 2) 1 == 1) = true := by rw [and_one]; simpa using hb
                go_wp2_with fail
                go_roundw
                case rel => exact ⟨2, by omega, rfl, by simp; omega, by trivial⟩
                case measure => simp [intOf]
              · have hbt : (bits BinOp.and IntKind.i64 (n / 2) 1 == 1) = false := by rw [and_one]; simpa using hb
                go_wp2_with fail
                go_roundw
                case rel => exact ⟨2, by omega, rfl, by simp; omega, by trivial⟩
                case measure => simp [intOf]
            · by_cases hb : (n / 4) % 2 = 1
              · have hbt : (bits BinOp.and IntKind.i64 (n / 4) 1 == 1) = true := by rw [and_one]; simpa using hb
                go_wp2_with fail
                go_roundw
                case rel => exact ⟨3, by omega, rfl, by simp; omega, by trivial⟩
                case measure => simp [intOf]
              · have hbt : (bits BinOp.and IntKind.i64 (n / 4) 1 == 1) = false := by rw [and_one]; simpa using hb
                go_wp2_with fail
                go_roundw
                case rel => exact ⟨3, by omega, rfl, by simp; omega, by trivial⟩
                case measure => simp [intOf]
            · by_cases hb : (n / 8) % 2 = 1
              · have hbt : (bits BinOp.and IntKind.i64 (n / 8) 1 == 1) = true := by rw [and_one]; simpa using hb
                go_wp2_with fail
                go_roundw
                case rel => exact ⟨4, by omega, rfl, by simp; omega, by trivial⟩
                case measure => simp [intOf]
              · have hbt : (bits BinOp.and IntKind.i64 (n / 8) 1 == 1) = false := by rw [and_one]; simpa using hb
                go_wp2_with fail
                go_roundw
                case rel => exact ⟨4, by omega, rfl, by simp; omega, by trivial⟩
                case measure => simp [intOf]
            · by_cases hb : (n / 16) % 2 = 1
              · have hbt : (bits BinOp.and IntKind.i64 (n / 16) 1 == 1) = true := by rw [and_one]; simpa using hb
                go_wp2_with fail
                go_roundw
                case rel => exact ⟨5, by omega, rfl, by simp; omega, by trivial⟩
                case measure => simp [intOf]
              · have hbt : (bits BinOp.and IntKind.i64 (n / 16) 1 == 1) = false := by rw [and_one]; simpa using hb
                go_wp2_with fail
                go_roundw
                case rel => exact ⟨5, by omega, rfl, by simp; omega, by trivial⟩
                case measure => simp [intOf]
            · go_wp2_with fail
              go_roundw
              case rel => exact ⟨1, by omega, rfl, by simp, Lib.hid (hmw.out.trans HM7.out)⟩
              case measure => simp [intOf]
        · have p0 : wr.cell? ⟨(W4.iter ⟨#[97, 98]⟩ 2).heap.size, 3, none⟩ = some (.int .i64 5) := (HP.out.mods hmw.out (fun f => f)).cell rfl
          have p1 : wr.cell? ⟨(W4.iter ⟨#[97, 98]⟩ 2).heap.size, 4, none⟩ = some (.int .i64 7) := (HP.out.mods hmw.out (fun f => f)).cell rfl
          have p2 : wr.cell? ⟨(W4.iter ⟨#[97, 98]⟩ 2).heap.size, 5, none⟩ = some (.int .i64 25) := (HP.out.mods hmw.out (fun f => f)).cell rfl
          obtain ⟨W7, hW7⟩ : ∃ W7, W7 = wr.alloc (.cells #[.int .i64 5, .int .i64 7, .int .i64 25] 94) := ⟨_, rfl⟩
          have HB7 : Hid (Blk W7 wr.heap.size [.int .i64 5, .int .i64 7, .int .i64 25] 94) := Lib.hid (by rw [hW7]; exact Blk.new wr _ _)
          have HM7 : Hid (Mods None wr W7) := Lib.hid (by rw [hW7]; exact (Mods.refl _ _).alloc _)
          go_wp2_with fail
          rw [← hW7]
          have c4 := HM7.out.cellOf c4 (fun f => f)
          clear p0 p1 p2 hW7
          have q0 : W7.cell? ⟨wr.heap.size, 0, none⟩ = some (.int .i64 5) := HB7.out.cell rfl
          have q1 : W7.cell? ⟨wr.heap.size, 1, none⟩ = some (.int .i64 7) := HB7.out.cell rfl
          have q2 : W7.cell? ⟨wr.heap.size, 2, none⟩ = some (.int .i64 25) := HB7.out.cell rfl
          go_wp2_with fail
          go_loopw [6, 86] (fun u v w8 => ∃ i : Nat, i ≤ 7 ∧ v = .int .i64 i ∧ u = .int .u32 ((l + m * 4096 + ra * 32768 + rb * 1048576 + hi * 33554432 + n / 1 % 32 * 128 + n / 32 % 2 ^ i * 33554432) % 4294967296) ∧ w8 = W7) (fun _ v _ => (7 - intOf v).toNat)
          case atStart => exact ⟨0, by omega, rfl, by simp, rfl⟩
          case round =>
            obtain ⟨i, hi, rfl, rfl, rfl⟩ := hrel
            have hcase : i = 0 ∨ i = 1 ∨ i = 2 ∨ i = 3 ∨ i = 4 ∨ i = 5 ∨ i = 6 ∨ i = 7 := by omega
            rcases hcase with rfl | rfl | rfl | rfl | rfl | rfl | rfl | rfl
            · by_cases hb : (n / 32) % 2 = 1
              · have hbt : (bits BinOp.and IntKind.i64 (n / 32) 1 == 1) = true := by rw [and_one]; simpa using hb
                go_wp2_with fail
                go_roundw
                case rel => exact ⟨1, by omega, rfl, by simp; omega, by trivial⟩
                case measure => simp [intOf]
              · have hbt : (bits BinOp.and IntKind.i64 (n / 32) 1 == 1) = false := by rw [and_one]; simpa using hb
                go_wp2_with fail
                go_roundw
                case rel => exact ⟨1, by omega, rfl, by simp; omega, by trivial⟩
                case measure => simp [intOf]
            · by_cases hb : (n / 64) % 2 = 1
              · have hbt : (bits BinOp.and IntKind.i64 (n / 64) 1 == 1) = true := by rw [and_one]; simpa using hb
                go_wp2_with fail
                go_roundw
                case rel => exact ⟨2, by omega, rfl, by simp; omega, by trivial⟩
                case measure => simp [intOf]
              · have hbt : (bits BinOp.and IntKind.i64 (n / 64) 1 == 1) = false := by rw [and_one]; simpa using hb
                go_wp2_with fail
                go_roundw
                case rel => exact ⟨2, by omega, rfl, by simp; omega, by trivial⟩
                case measure => simp [intOf]
            · by_cases hb : (n / 128) % 2 = 1
              · have hbt : (bits BinOp.and IntKind.i64 (n / 128) 1 == 1) = true := by rw [and_one]; simpa using hb
                go_wp2_with fail
                go_roundw
                case rel => exact ⟨3, by omega, rfl, by simp; omega, by trivial⟩
                case measure => simp [intOf]
              · have hbt : (bits BinOp.and IntKind.i64 (n / 128) 1 == 1) = false := by rw [and_one]; simpa using hb
                go_wp2_with fail
                go_roundw
                case rel => exact ⟨3, by omega, rfl, by simp; omega, by trivial⟩
                case measure => simp [intOf]
            · by_cases hb : (n / 256) % 2 = 1
              · have hbt : (bits BinOp.and IntKind.i64 (n / 256) 1 == 1) = true := by rw [and_one]; simpa using hb
                go_wp2_with fail
                go_roundw
                case rel => exact ⟨4, by omega, rfl, by simp; omega, by trivial⟩
                case measure => simp [intOf]
              · have hbt : (bits BinOp.and IntKind.i64 (n / 256) 1 == 1) = false := by rw [and_one]; simpa using hb
                go_wp2_with fail
                go_roundw
                case rel => exact ⟨4, by omega, rfl, by simp; omega, by trivial⟩
                case measure => simp [intOf]
            · by_cases hb : (n / 512) % 2 = 1
              · have hbt : (bits BinOp.and IntKind.i64 (n / 512) 1 == 1) = true := by rw [and_one]; simpa using hb
                go_wp2_with fail
                go_roundw
                case rel => exact ⟨5, by omega, rfl, by simp; omega, by trivial⟩
                case measure => simp [intOf]
              · have hbt : (bits BinOp.and IntKind.i64 (n / 512) 1 == 1) = false := by rw [and_one]; simpa using hb
                go_wp2_with fail
                go_roundw
                case rel => exact ⟨5, by omega, rfl, by simp; omega, by trivial⟩
                case measure => simp [intOf]
            · by_cases hb : (n / 1024) % 2 = 1
              · have hbt : (bits BinOp.and IntKind.i64 (n / 1024) 1 == 1) = true := by rw [and_one]; simpa using hb
                go_wp2_with fail
                go_roundw
                case rel => exact ⟨6, by omega, rfl, by simp; omega, by trivial⟩
                case measure => simp [intOf]
              · have hbt : (bits BinOp.and IntKind.i64 (n / 1024) 1 == 1) = false := by rw [and_one]; simpa using hb
                go_wp2_with fail
                go_roundw
                case rel => exact ⟨6, by omega, rfl, by simp; omega, by trivial⟩
                case measure => simp [intOf]
            · by_cases hb : (n / 2048) % 2 = 1
              · have hbt : (bits BinOp.and IntKind.i64 (n / 2048) 1 == 1) = true := by rw [and_one]; simpa using hb
                go_wp2_with fail
                go_roundw
                case rel => exact ⟨7, by omega, rfl, by simp; omega, by trivial⟩
                case measure => simp [intOf]
              · have hbt : (bits BinOp.and IntKind.i64 (n / 2048) 1 == 1) = false := by rw [and_one]; simpa using hb
                go_wp2_with fail
                go_roundw
                case rel => exact ⟨7, by omega, rfl, by simp; omega, by trivial⟩
                case measure => simp [intOf]
            · go_wp2_with fail
              go_roundw
              case rel => exact ⟨2, by omega, rfl, by simp, Lib.hid (hmw.out.trans HM7.out)⟩
              case measure => simp [intOf]
        · go_wp2_with fail
          go_ret2
          refine ⟨ret_word ?_, HALL.out⟩
          have hvo := HV.out
          omega
theorem word_66 (p rd ra rb n l m hi : Int) (h1 : 1 ≤ p) (h2 : p ≤ 31) (hk : kindOf p = 66) (hr : (Ins.mk p rd ra rb n).right = true) (hl : l = lowOf p) (hm : m = midOf p) (hh : hi = highOf p) :
    (Ins.mk p rd ra rb n).word = (l + m * 4096 + ra * 32768 + rb * 1048576 + hi * 33554432 + n / 2048 % 2 * 128 + n / 2 % 16 * 256 + n / 32 % 64 * 33554432 + n / 4096 % 2 * 2147483648) % 4294967296 := by
  have tab := (tab_ok p h1 h2).1
  rw [hk, ← hl, ← hm, ← hh] at tab
  simp [Ins.right, hk, rightB, bodyB, regB, h1, h2] at hr
  obtain ⟨t1, t2⟩ := tab.hl
  obtain ⟨t3, t4⟩ := tab.hm
  obtain ⟨t5, t6⟩ := tab.hh
  have t7 := tab.he
  have t8 := tab.hz
  have t9 : hi = 0 := by rw [hh]; exact high_zero p h1 h2 (by omega) (by omega)
  simp only [Ins.word]
  rw [hk, ← hl, ← hm, ← hh, raw_66 l m rd ra rb n hi tab.hl tab.hm (by omega) (by omega) (by omega) tab.hh]
  omega
set_option maxRecDepth 100000 in
set_option maxHeartbeats 1000000 in
theorem enc_66 (x : Ins) (W : World) (hr : x.right = true) (h1 : 1 ≤ x.op) (h2 : x.op ≤ 31) (hk : kindOf x.op = 66) : Calls Tryz.prog 20 #[x.val] W fun e W' => e = .returned (.tuple #[.int .u32 x.word, .int .i64 0]) ∧ Mods None W W' := by
  obtain ⟨p, rd, ra, rb, n⟩ := x
  simp only at h1 h2 hk
  obtain ⟨W1, hW1⟩ : ∃ W1, W1 = W.alloc (.cells (instCells p rd ra rb n) 30) := ⟨_, rfl⟩
  have F1 : Hid (Five W1 W.heap.size p rd ra rb n) := Lib.hid (by rw [hW1]; exact five_new W _ _ _ _ _ 30)
  have HM : Hid (Mods None W W1) := Lib.hid (by rw [hW1]; exact (Mods.refl _ _).alloc _)
  have HRR := right_ref ⟨p, rd, ra, rb, n⟩ W1
  rw [hr] at HRR
  have HR := Lib.hid HRR
  clear HRR
  simp only [Ins.val] at HR ⊢
  obtain ⟨l, hl⟩ : ∃ l, l = lowOf p := ⟨_, rfl⟩
  obtain ⟨m, hm⟩ : ∃ m, m = midOf p := ⟨_, rfl⟩
  obtain ⟨hi, hh⟩ : ∃ hi, hi = highOf p := ⟨_, rfl⟩
  obtain ⟨nm, hn⟩ : ∃ nm, nm = nameOf p := ⟨_, rfl⟩
  have HF : ∀ W, Hid (Calls Tryz.prog 38 #[.int .i64 p] W fun e W' => e = .returned (.tuple #[.agg #[.int .u8 66, .int .u32 l, .int .u32 m, .int .u32 hi, .string nm], .bool true]) ∧ Mods None W W') := fun W => Lib.hid (by
    have := form_parts p h1 h2 W
    rw [hk, ← hl, ← hm, ← hh, ← hn] at this
    exact this)
  obtain ⟨v, hv⟩ : ∃ v, v = Ins.word ⟨p, rd, ra, rb, n⟩ := ⟨_, rfl⟩
  have HV : Hid (v = (l + m * 4096 + ra * 32768 + rb * 1048576 + hi * 33554432 + n / 2048 % 2 * 128 + n / 2 % 16 * 256 + n / 32 % 64 * 33554432 + n / 4096 % 2 * 2147483648) % 4294967296) := Lib.hid (by
    rw [hv]
    exact word_66 p rd ra rb n l m hi h1 h2 hk hr hl hm hh)
  rw [← hv]
  have HL : Hid (0 ≤ l ∧ l < 128) := Lib.hid (by have t := (tab_ok p h1 h2).1.hl; rw [← hl] at t; exact t)
  clear hl hm hh hn hk hv h1 h2 hr
  obtain ⟨c0, c1, c2, c3, c4, cf⟩ := F1.out
  go_enter Tryz.func20, Tryz.ntmps20
  go_wp2_with fail
  rw [← hW1]
  clear hW1
  refine HR.out.mono ?_
  rintro e w2 ⟨rfl, hm2⟩
  have HM2 := Lib.hid hm2
  have c0 := hm2.cellOf c0 (fun f => f)
  have c1 := hm2.cellOf c1 (fun f => f)
  have c2 := hm2.cellOf c2 (fun f => f)
  have c3 := hm2.cellOf c3 (fun f => f)
  have c4 := hm2.cellOf c4 (fun f => f)
  clear hm2 cf
  go_wp2_with fail
  refine (HF w2).out.mono ?_
  rintro e w3 ⟨rfl, hm3⟩
  obtain ⟨W4, hW4⟩ : ∃ W4, W4 = w3.alloc (.cells #[.int .u8 66, .int .u32 l, .int .u32 m, .int .u32 hi, .string nm] 87) := ⟨_, rfl⟩
  have HM4 : Hid (Mods None w2 W4) := Lib.hid (by rw [hW4]; exact hm3.alloc _)
  have HB4 : Hid (Blk W4 w3.heap.size [.int .u8 66, .int .u32 l, .int .u32 m, .int .u32 hi, .string nm] 87) := Lib.hid (by rw [hW4]; exact Blk.new w3 _ _)
  clear c0
  go_wp2_with fail
  rw [← hW4]
  clear hW4 hm3
  have f0 : W4.cell? ⟨w3.heap.size, 0, none⟩ = some (.int .u8 66) := HB4.out.cell rfl
  have f1 : W4.cell? ⟨w3.heap.size, 1, none⟩ = some (.int .u32 l) := HB4.out.cell rfl
  have f2 : W4.cell? ⟨w3.heap.size, 2, none⟩ = some (.int .u32 m) := HB4.out.cell rfl
  have f3 : W4.cell? ⟨w3.heap.size, 3, none⟩ = some (.int .u32 hi) := HB4.out.cell rfl
  have c1 := HM4.out.cellOf c1 (fun f => f)
  have c2 := HM4.out.cellOf c2 (fun f => f)
  have c3 := HM4.out.cellOf c3 (fun f => f)
  have c4 := HM4.out.cellOf c4 (fun f => f)
  go_wp2_with (go_at_call 41; refine (has_66 _).mono ?_; rintro e w' ⟨rfl, rfl⟩)
  go_loopw [6] (fun v wr => ∃ i : Nat, i ≤ 2 ∧ v = .int .u32 ((l + m * 4096 + (if 1 ≤ i then ra * 32768 else 0) + (if 2 ≤ i then rb * 1048576 else 0)) % 4294967296) ∧ wr = W4.iter ⟨#[97, 98]⟩ i) (fun _ wr => 2 - wr.iterPos W4.heap.size)
  case atStart => exact ⟨0, by omega, by simp, rfl⟩
  case round =>
    obtain ⟨i, hi3, rfl, rfl⟩ := hrel
    have HI : ∀ i, Hid (Mods None W4 (W4.iter ⟨#[97, 98]⟩ i)) := fun i => Lib.hid ((Mods.refl _ _).alloc _)
    have hcase : i = 0 ∨ i = 1 ∨ i = 2 := by omega
    rcases hcase with rfl | rfl | rfl
    · have c2 := (HI 1).out.cellOf c2 (fun f => f)
      have hnx : ∀ ty, (Instr.next (.pointer (some ⟨W4.heap.size, 0, none⟩)) true ty).run Tryz.prog (W4.iter ⟨#[97, 98]⟩ 0) = .ok (.tuple #[.bool true, .int .i64 0, .int .i32 97]) (W4.iter ⟨#[97, 98]⟩ 1) := fun _ => by rw [run_next_ascii W4 _ 0 _ (by decide) (by decide)]; rfl
      go_wp2_with fail
      go_roundw
      case rel => exact ⟨1, by omega, by simp; omega, rfl⟩
      case measure => simp
    · have c3 := (HI 2).out.cellOf c3 (fun f => f)
      have hnx : ∀ ty, (Instr.next (.pointer (some ⟨W4.heap.size, 0, none⟩)) true ty).run Tryz.prog (W4.iter ⟨#[97, 98]⟩ 1) = .ok (.tuple #[.bool true, .int .i64 1, .int .i32 98]) (W4.iter ⟨#[97, 98]⟩ 2) := fun _ => by rw [run_next_ascii W4 _ 1 _ (by decide) (by decide)]; rfl
      go_wp2_with fail
      go_roundw
      case rel => exact ⟨2, by omega, by simp; omega, rfl⟩
      case measure => simp
    · have hnx : ∀ ty, (Instr.next (.pointer (some ⟨W4.heap.size, 0, none⟩)) true ty).run Tryz.prog (W4.iter ⟨#[97, 98]⟩ 2) = .ok (.tuple #[.bool false]) (W4.iter ⟨#[97, 98]⟩ 2) := fun _ => run_next_end W4 _ 2 _ (by decide)
      have f0 := (HI 2).out.cellOf f0 (fun f => f)
      have f3 := (HI 2).out.cellOf f3 (fun f => f)
      have c4 := (HI 2).out.cellOf c4 (fun f => f)
      have HALL0 : Hid (Mods None W (W4.iter ⟨#[97, 98]⟩ 2)) := Lib.hid (((HM.out.trans HM2.out).trans HM4.out).trans (HI 2).out)
      obtain ⟨W5, hW5⟩ : ∃ W5, W5 = (W4.iter ⟨#[97, 98]⟩ 2).alloc (.cells #[.int .i64 11, .int .i64 1, .int .i64 7, .int .i64 1, .int .i64 4, .int .i64 8, .int .i64 5, .int .i64 6, .int .i64 25, .int .i64 12, .int .i64 1, .int .i64 31] 94) := ⟨_, rfl⟩
      have HM5 : Hid (Mods None (W4.iter ⟨#[97, 98]⟩ 2) W5) := Lib.hid (by rw [hW5]; exact (Mods.refl _ _).alloc _)
      have HP : Hid (Blk W5 (W4.iter ⟨#[97, 98]⟩ 2).heap.size [.int .i64 11, .int .i64 1, .int .i64 7, .int .i64 1, .int .i64 4, .int .i64 8, .int .i64 5, .int .i64 6, .int .i64 25, .int .i64 12, .int .i64 1, .int .i64 31] 94) := Lib.hid (by rw [hW5]; exact Blk.new _ _ _)
      go_wp2_with (go_at_call 42; refine (pieces_66 _).mono ?_; rintro e w' ⟨rfl, rfl⟩)
      rw [← hW5]
      clear hW5 hnx
      have c4 := HM5.out.cellOf c4 (fun f => f)
      go_loopw [6, 80] (fun u v wr => ∃ j : Nat, j ≤ 4 ∧ v = .int .i64 j ∧ u = .int .u32 ((l + m * 4096 + ra * 32768 + rb * 1048576 + hi * 33554432 + (if 1 ≤ j then n / 2048 % 2 * 128 else 0) + (if 2 ≤ j then n / 2 % 16 * 256 else 0) + (if 3 ≤ j then n / 32 % 64 * 33554432 else 0) + (if 4 ≤ j then n / 4096 % 2 * 2147483648 else 0)) % 4294967296) ∧ Hid (Mods None W5 wr)) (fun _ v _ => (4 - intOf v).toNat)
      case atStart => exact ⟨0, by omega, rfl, by simp, Lib.hid (Mods.refl _ _)⟩
      case round =>
        obtain ⟨j, hj, rfl, rfl, hmw⟩ := hrel
        have c4 := hmw.out.cellOf c4 (fun f => f)
        have HALL : Hid (Mods None W wr) := Lib.hid ((HALL0.out.trans HM5.out).trans hmw.out)
        have hcase : j = 0 ∨ j = 1 ∨ j = 2 ∨ j = 3 ∨ j = 4 := by omega
        rcases hcase with rfl | rfl | rfl | rfl | rfl
        · have p0 : wr.cell? ⟨(W4.iter ⟨#[97, 98]⟩ 2).heap.size, 0, none⟩ = some (.int .i64 11) := (HP.out.mods hmw.out (fun f => f)).cell rfl
          have p1 : wr.cell? ⟨(W4.iter ⟨#[97, 98]⟩ 2).heap.size, 1, none⟩ = some (.int .i64 1) := (HP.out.mods hmw.out (fun f => f)).cell rfl
          have p2 : wr.cell? ⟨(W4.iter ⟨#[97, 98]⟩ 2).heap.size, 2, none⟩ = some (.int .i64 7) := (HP.out.mods hmw.out (fun f => f)).cell rfl
          obtain ⟨W7, hW7⟩ : ∃ W7, W7 = wr.alloc (.cells #[.int .i64 11, .int .i64 1, .int .i64 7] 94) := ⟨_, rfl⟩
          have HB7 : Hid (Blk W7 wr.heap.size [.int .i64 11, .int .i64 1, .int .i64 7] 94) := Lib.hid (by rw [hW7]; exact Blk.new wr _ _)
          have HM7 : Hid (Mods None wr W7) := Lib.hid (by rw [hW7]; exact (Mods.refl _ _).alloc _)
          go_wp2_with fail
          rw [← hW7]
          have c4 := HM7.out.cellOf c4 (fun f => f)
          clear p0 p1 p2 hW7
          have q0 : W7.cell? ⟨wr.heap.size, 0, none⟩ = some (.int .i64 11) := HB7.out.cell rfl
          have q1 : W7.cell? ⟨wr.heap.size, 1, none⟩ = some (.int .i64 1) := HB7.out.cell rfl
          have q2 : W7.cell? ⟨wr.heap.size, 2, none⟩ = some (.int .i64 7) := HB7.out.cell rfl
          go_wp2_with fail
          go_loopw [6, 86] (fun u v w8 => ∃ i : Nat, i ≤ 1 ∧ v = .int .i64 i ∧ u = .int .u32 ((l + m * 4096 + ra * 32768 + rb * 1048576 + hi * 33554432 + n / 2048 % 2 ^ i * 128) % 4294967296) ∧ w8 = W7) (fun _ v _ => (1 - intOf v).toNat)
          case atStart => exact ⟨0, by omega, rfl, by simp, rfl⟩
          case round =>
            obtain ⟨i, hi, rfl, rfl, rfl⟩ := hrel
            have hcase : i = 0 ∨ i = 1 := by omega
            rcases hcase with rfl | rfl
            · by_cases hb : (n / 2048) % 2 = 1
              · have hbt : (bits BinOp.and IntKind.i64 (n / 2048) 1 == 1) = true := by rw [and_one]; simpa using hb
                go_wp2_with fail
                go_roundw
                case rel => exact ⟨1, by omega, rfl, by simp; omega, by trivial⟩
                case measure => simp [intOf]
              · have hbt : (bits BinOp.and IntKind.i64 (n / 2048) 1 == 1) = false := by rw [and_one]; simpa using hb
                go_wp2_with fail
                go_roundw
                case rel => exact ⟨1, by omega, rfl, by simp; omega, by trivial⟩
                case measure => simp [intOf]
            · go_wp2_with fail
              go_roundw
              case rel => exact ⟨1, by omega, rfl, by simp, Lib.hid (hmw.out.trans HM7.out)⟩
              case measure => simp [intOf]
        · have p0 : wr.cell? ⟨(W4.iter ⟨#[97, 98]⟩ 2).heap.size, 3, none⟩ = some (.int .i64 1) := (HP.out.mods hmw.out (fun f => f)).cell rfl
          have p1 : wr.cell? ⟨(W4.iter ⟨#[97, 98]⟩ 2).heap.size, 4, none⟩ = some (.int .i64 4) := (HP.out.mods hmw.out (fun f => f)).cell rfl
          have p2 : wr.cell? ⟨(W4.iter ⟨#[97, 98]⟩ 2).heap.size, 5, none⟩ = some (.int .i64 8) := (HP.out.mods hmw.out (fun f => f)).cell rfl
          obtain ⟨W7, hW7⟩ : ∃ W7, W7 = wr.alloc (.cells #[.int .i64 1, .int .i64 4, .int .i64 8] 94) := ⟨_, rfl⟩
          have HB7 : Hid (Blk W7 wr.heap.size [.int .i64 1, .int .i64 4, .int .i64 8] 94) := Lib.hid (by rw [hW7]; exact Blk.new wr _ _)
          have HM7 : Hid (Mods None wr W7) := Lib.hid (by rw [hW7]; exact (Mods.refl _ _).alloc _)
          go_wp2_with fail
          rw [← hW7]
          have c4 := HM7.out.cellOf c4 (fun f => f)
          clear p0 p1 p2 hW7
          have q0 : W7.cell? ⟨wr.heap.size, 0, none⟩ = some (.int .i64 1) := HB7.out.cell rfl
          have q1 : W7.cell? ⟨wr.heap.size, 1, none⟩ = some (.int .i64 4) := HB7.out.cell rfl
          have q2 : W7.cell? ⟨wr.heap.size, 2, none⟩ = some (.int .i64 8) := HB7.out.cell rfl
          go_wp2_with fail
          go_loopw [6, 86] (fun u v w8 => ∃ i : Nat, i ≤ 4 ∧ v = .int .i64 i ∧ u = .int .u32 ((l + m * 4096 + ra * 32768 + rb * 1048576 + hi * 33554432 + n / 2048 % 2 * 128 + n / 2 % 2 ^ i * 256) % 4294967296) ∧ w8 = W7) (fun _ v _ => (4 - intOf v).toNat)
          case atStart => exact ⟨0, by omega, rfl, by simp, rfl⟩
          case round =>
            obtain ⟨i, hi, rfl, rfl, rfl⟩ := hrel
            have hcase : i = 0 ∨ i = 1 ∨ i = 2 ∨ i = 3 ∨ i = 4 := by omega
            rcases hcase with rfl | rfl | rfl | rfl | rfl
            · by_cases hb : (n / 2) % 2 = 1
              · have hbt : (bits BinOp.and IntKind.i64 (n / 2) 1 == 1) = true := by rw [and_one]; simpa using hb
                go_wp2_with fail
                go_roundw
                case rel => exact ⟨1, by omega, rfl, by simp; omega, by trivial⟩
                case measure => simp [intOf]
              · have hbt : (bits BinOp.and IntKind.i64 (n / 2) 1 == 1) = false := by rw [and_one]; simpa using hb
                go_wp2_with fail
                go_roundw
                case rel => exact ⟨1, by omega, rfl, by simp; omega, by trivial⟩
                case measure => simp [intOf]
            · by_cases hb : (n / 4) % 2 = 1
              · have hbt : (bits BinOp.and IntKind.i64 (n / 4) 1 == 1) = true := by rw [and_one]; simpa using hb
                go_wp2_with fail
                go_roundw
                case rel => exact ⟨2, by omega, rfl, by simp; omega, by trivial⟩
                case measure => simp [intOf]
              · have hbt : (bits BinOp.and IntKind.i64 (n / 4) 1 == 1) = false := by rw [and_one]; simpa using hb
                go_wp2_with fail
                go_roundw
                case rel => exact ⟨2, by omega, rfl, by simp; omega, by trivial⟩
                case measure => simp [intOf]
            · by_cases hb : (n / 8) % 2 = 1
              · have hbt : (bits BinOp.and IntKind.i64 (n / 8) 1 == 1) = true := by rw [and_one]; simpa using hb
                go_wp2_with fail
                go_roundw
                case rel => exact ⟨3, by omega, rfl, by simp; omega, by trivial⟩
                case measure => simp [intOf]
              · have hbt : (bits BinOp.and IntKind.i64 (n / 8) 1 == 1) = false := by rw [and_one]; simpa using hb
                go_wp2_with fail
                go_roundw
                case rel => exact ⟨3, by omega, rfl, by simp; omega, by trivial⟩
                case measure => simp [intOf]
            · by_cases hb : (n / 16) % 2 = 1
              · have hbt : (bits BinOp.and IntKind.i64 (n / 16) 1 == 1) = true := by rw [and_one]; simpa using hb
                go_wp2_with fail
                go_roundw
                case rel => exact ⟨4, by omega, rfl, by simp; omega, by trivial⟩
                case measure => simp [intOf]
              · have hbt : (bits BinOp.and IntKind.i64 (n / 16) 1 == 1) = false := by rw [and_one]; simpa using hb
                go_wp2_with fail
                go_roundw
                case rel => exact ⟨4, by omega, rfl, by simp; omega, by trivial⟩
                case measure => simp [intOf]
            · go_wp2_with fail
              go_roundw
              case rel => exact ⟨2, by omega, rfl, by simp, Lib.hid (hmw.out.trans HM7.out)⟩
              case measure => simp [intOf]
        · have p0 : wr.cell? ⟨(W4.iter ⟨#[97, 98]⟩ 2).heap.size, 6, none⟩ = some (.int .i64 5) := (HP.out.mods hmw.out (fun f => f)).cell rfl
          have p1 : wr.cell? ⟨(W4.iter ⟨#[97, 98]⟩ 2).heap.size, 7, none⟩ = some (.int .i64 6) := (HP.out.mods hmw.out (fun f => f)).cell rfl
          have p2 : wr.cell? ⟨(W4.iter ⟨#[97, 98]⟩ 2).heap.size, 8, none⟩ = some (.int .i64 25) := (HP.out.mods hmw.out (fun f => f)).cell rfl
          obtain ⟨W7, hW7⟩ : ∃ W7, W7 = wr.alloc (.cells #[.int .i64 5, .int .i64 6, .int .i64 25] 94) := ⟨_, rfl⟩
          have HB7 : Hid (Blk W7 wr.heap.size [.int .i64 5, .int .i64 6, .int .i64 25] 94) := Lib.hid (by rw [hW7]; exact Blk.new wr _ _)
          have HM7 : Hid (Mods None wr W7) := Lib.hid (by rw [hW7]; exact (Mods.refl _ _).alloc _)
          go_wp2_with fail
          rw [← hW7]
          have c4 := HM7.out.cellOf c4 (fun f => f)
          clear p0 p1 p2 hW7
          have q0 : W7.cell? ⟨wr.heap.size, 0, none⟩ = some (.int .i64 5) := HB7.out.cell rfl
          have q1 : W7.cell? ⟨wr.heap.size, 1, none⟩ = some (.int .i64 6) := HB7.out.cell rfl
          have q2 : W7.cell? ⟨wr.heap.size, 2, none⟩ = some (.int .i64 25) := HB7.out.cell rfl
          go_wp2_with fail
          go_loopw [6, 86] (fun u v w8 => ∃ i : Nat, i ≤ 6 ∧ v = .int .i64 i ∧ u = .int .u32 ((l + m * 4096 + ra * 32768 + rb * 1048576 + hi * 33554432 + n / 2048 % 2 * 128 + n / 2 % 16 * 256 + n / 32 % 2 ^ i * 33554432) % 4294967296) ∧ w8 = W7) (fun _ v _ => (6 - intOf v).toNat)
          case atStart => exact ⟨0, by omega, rfl, by simp, rfl⟩
          case round =>
            obtain ⟨i, hi, rfl, rfl, rfl⟩ := hrel
            have hcase : i = 0 ∨ i = 1 ∨ i = 2 ∨ i = 3 ∨ i = 4 ∨ i = 5 ∨ i = 6 := by omega
            rcases hcase with rfl | rfl | rfl | rfl | rfl | rfl | rfl
            · by_cases hb : (n / 32) % 2 = 1
              · have hbt : (bits BinOp.and IntKind.i64 (n / 32) 1 == 1) = true := by rw [and_one]; simpa using hb
                go_wp2_with fail
                go_roundw
                case rel => exact ⟨1, by omega, rfl, by simp; omega, by trivial⟩
                case measure => simp [intOf]
              · have hbt : (bits BinOp.and IntKind.i64 (n / 32) 1 == 1) = false := by rw [and_one]; simpa using hb
                go_wp2_with fail
                go_roundw
                case rel => exact ⟨1, by omega, rfl, by simp; omega, by trivial⟩
                case measure => simp [intOf]
            · by_cases hb : (n / 64) % 2 = 1
              · have hbt : (bits BinOp.and IntKind.i64 (n / 64) 1 == 1) = true := by rw [and_one]; simpa using hb
                go_wp2_with fail
                go_roundw
                case rel => exact ⟨2, by omega, rfl, by simp; omega, by trivial⟩
                case measure => simp [intOf]
              · have hbt : (bits BinOp.and IntKind.i64 (n / 64) 1 == 1) = false := by rw [and_one]; simpa using hb
                go_wp2_with fail
                go_roundw
                case rel => exact ⟨2, by omega, rfl, by simp; omega, by trivial⟩
                case measure => simp [intOf]
            · by_cases hb : (n / 128) % 2 = 1
              · have hbt : (bits BinOp.and IntKind.i64 (n / 128) 1 == 1) = true := by rw [and_one]; simpa using hb
                go_wp2_with fail
                go_roundw
                case rel => exact ⟨3, by omega, rfl, by simp; omega, by trivial⟩
                case measure => simp [intOf]
              · have hbt : (bits BinOp.and IntKind.i64 (n / 128) 1 == 1) = false := by rw [and_one]; simpa using hb
                go_wp2_with fail
                go_roundw
                case rel => exact ⟨3, by omega, rfl, by simp; omega, by trivial⟩
                case measure => simp [intOf]
            · by_cases hb : (n / 256) % 2 = 1
              · have hbt : (bits BinOp.and IntKind.i64 (n / 256) 1 == 1) = true := by rw [and_one]; simpa using hb
                go_wp2_with fail
                go_roundw
                case rel => exact ⟨4, by omega, rfl, by simp; omega, by trivial⟩
                case measure => simp [intOf]
              · have hbt : (bits BinOp.and IntKind.i64 (n / 256) 1 == 1) = false := by rw [and_one]; simpa using hb
                go_wp2_with fail
                go_roundw
                case rel => exact ⟨4, by omega, rfl, by simp; omega, by trivial⟩
                case measure => simp [intOf]
            · by_cases hb : (n / 512) % 2 = 1
              · have hbt : (bits BinOp.and IntKind.i64 (n / 512) 1 == 1) = true := by rw [and_one]; simpa using hb
                go_wp2_with fail
                go_roundw
                case rel => exact ⟨5, by omega, rfl, by simp; omega, by trivial⟩
                case measure => simp [intOf]
              · have hbt : (bits BinOp.and IntKind.i64 (n / 512) 1 == 1) = false := by rw [and_one]; simpa using hb
                go_wp2_with fail
                go_roundw
                case rel => exact ⟨5, by omega, rfl, by simp; omega, by trivial⟩
                case measure => simp [intOf]
            · by_cases hb : (n / 1024) % 2 = 1
              · have hbt : (bits BinOp.and IntKind.i64 (n / 1024) 1 == 1) = true := by rw [and_one]; simpa using hb
                go_wp2_with fail
                go_roundw
                case rel => exact ⟨6, by omega, rfl, by simp; omega, by trivial⟩
                case measure => simp [intOf]
              · have hbt : (bits BinOp.and IntKind.i64 (n / 1024) 1 == 1) = false := by rw [and_one]; simpa using hb
                go_wp2_with fail
                go_roundw
                case rel => exact ⟨6, by omega, rfl, by simp; omega, by trivial⟩
                case measure => simp [intOf]
            · go_wp2_with fail
              go_roundw
              case rel => exact ⟨3, by omega, rfl, by simp, Lib.hid (hmw.out.trans HM7.out)⟩
              case measure => simp [intOf]
        · have p0 : wr.cell? ⟨(W4.iter ⟨#[97, 98]⟩ 2).heap.size, 9, none⟩ = some (.int .i64 12) := (HP.out.mods hmw.out (fun f => f)).cell rfl
          have p1 : wr.cell? ⟨(W4.iter ⟨#[97, 98]⟩ 2).heap.size, 10, none⟩ = some (.int .i64 1) := (HP.out.mods hmw.out (fun f => f)).cell rfl
          have p2 : wr.cell? ⟨(W4.iter ⟨#[97, 98]⟩ 2).heap.size, 11, none⟩ = some (.int .i64 31) := (HP.out.mods hmw.out (fun f => f)).cell rfl
          obtain ⟨W7, hW7⟩ : ∃ W7, W7 = wr.alloc (.cells #[.int .i64 12, .int .i64 1, .int .i64 31] 94) := ⟨_, rfl⟩
          have HB7 : Hid (Blk W7 wr.heap.size [.int .i64 12, .int .i64 1, .int .i64 31] 94) := Lib.hid (by rw [hW7]; exact Blk.new wr _ _)
          have HM7 : Hid (Mods None wr W7) := Lib.hid (by rw [hW7]; exact (Mods.refl _ _).alloc _)
          go_wp2_with fail
          rw [← hW7]
          have c4 := HM7.out.cellOf c4 (fun f => f)
          clear p0 p1 p2 hW7
          have q0 : W7.cell? ⟨wr.heap.size, 0, none⟩ = some (.int .i64 12) := HB7.out.cell rfl
          have q1 : W7.cell? ⟨wr.heap.size, 1, none⟩ = some (.int .i64 1) := HB7.out.cell rfl
          have q2 : W7.cell? ⟨wr.heap.size, 2, none⟩ = some (.int .i64 31) := HB7.out.cell rfl
          go_wp2_with fail
          go_loopw [6, 86] (fun u v w8 => ∃ i : Nat, i ≤ 1 ∧ v = .int .i64 i ∧ u = .int .u32 ((l + m * 4096 + ra * 32768 + rb * 1048576 + hi * 33554432 + n / 2048 % 2 * 128 + n / 2 % 16 * 256 + n / 32 % 64 * 33554432 + n / 4096 % 2 ^ i * 2147483648) % 4294967296) ∧ w8 = W7) (fun _ v _ => (1 - intOf v).toNat)
          case atStart => exact ⟨0, by omega, rfl, by simp, rfl⟩
          case round =>
            obtain ⟨i, hi, rfl, rfl, rfl⟩ := hrel
            have hcase : i = 0 ∨ i = 1 := by omega
            rcases hcase with rfl | rfl
            · by_cases hb : (n / 4096) % 2 = 1
              · have hbt : (bits BinOp.and IntKind.i64 (n / 4096) 1 == 1) = true := by rw [and_one]; simpa using hb
                go_wp2_with fail
                go_roundw
                case rel => exact ⟨1, by omega, rfl, by simp; omega, by trivial⟩
                case measure => simp [intOf]
              · have hbt : (bits BinOp.and IntKind.i64 (n / 4096) 1 == 1) = false := by rw [and_one]; simpa using hb
                go_wp2_with fail
                go_roundw
                case rel => exact ⟨1, by omega, rfl, by simp; omega, by trivial⟩
                case measure => simp [intOf]
            · go_wp2_with fail
              go_roundw
              case rel => exact ⟨4, by omega, rfl, by simp, Lib.hid (hmw.out.trans HM7.out)⟩
              case measure => simp [intOf]
        · go_wp2_with fail
          go_ret2
          refine ⟨ret_word ?_, HALL.out⟩
          have hvo := HV.out
          omega
theorem word_85 (p rd ra rb n l m hi : Int) (h1 : 1 ≤ p) (h2 : p ≤ 31) (hk : kindOf p = 85) (hr : (Ins.mk p rd ra rb n).right = true) (hl : l = lowOf p) (hm : m = midOf p) (hh : hi = highOf p) :
    (Ins.mk p rd ra rb n).word = (l + rd * 128 + hi * 33554432 + n / 4096 % 1048576 * 4096) % 4294967296 := by
  have tab := (tab_ok p h1 h2).1
  rw [hk, ← hl, ← hm, ← hh] at tab
  simp [Ins.right, hk, rightB, bodyB, regB, h1, h2] at hr
  obtain ⟨t1, t2⟩ := tab.hl
  obtain ⟨t3, t4⟩ := tab.hm
  obtain ⟨t5, t6⟩ := tab.hh
  have t7 := tab.he
  have t8 := tab.hz
  have t9 : hi = 0 := by rw [hh]; exact high_zero p h1 h2 (by omega) (by omega)
  simp only [Ins.word]
  rw [hk, ← hl, ← hm, ← hh, raw_85 l m rd ra rb n hi tab.hl tab.hm (by omega) (by omega) (by omega) tab.hh (tab.hz (by decide))]
  omega
set_option maxRecDepth 100000 in
set_option maxHeartbeats 1000000 in
theorem enc_85 (x : Ins) (W : World) (hr : x.right = true) (h1 : 1 ≤ x.op) (h2 : x.op ≤ 31) (hk : kindOf x.op = 85) : Calls Tryz.prog 20 #[x.val] W fun e W' => e = .returned (.tuple #[.int .u32 x.word, .int .i64 0]) ∧ Mods None W W' := by
  obtain ⟨p, rd, ra, rb, n⟩ := x
  simp only at h1 h2 hk
  obtain ⟨W1, hW1⟩ : ∃ W1, W1 = W.alloc (.cells (instCells p rd ra rb n) 30) := ⟨_, rfl⟩
  have F1 : Hid (Five W1 W.heap.size p rd ra rb n) := Lib.hid (by rw [hW1]; exact five_new W _ _ _ _ _ 30)
  have HM : Hid (Mods None W W1) := Lib.hid (by rw [hW1]; exact (Mods.refl _ _).alloc _)
  have HRR := right_ref ⟨p, rd, ra, rb, n⟩ W1
  rw [hr] at HRR
  have HR := Lib.hid HRR
  clear HRR
  simp only [Ins.val] at HR ⊢
  obtain ⟨l, hl⟩ : ∃ l, l = lowOf p := ⟨_, rfl⟩
  obtain ⟨m, hm⟩ : ∃ m, m = midOf p := ⟨_, rfl⟩
  obtain ⟨hi, hh⟩ : ∃ hi, hi = highOf p := ⟨_, rfl⟩
  obtain ⟨nm, hn⟩ : ∃ nm, nm = nameOf p := ⟨_, rfl⟩
  have HF : ∀ W, Hid (Calls Tryz.prog 38 #[.int .i64 p] W fun e W' => e = .returned (.tuple #[.agg #[.int .u8 85, .int .u32 l, .int .u32 m, .int .u32 hi, .string nm], .bool true]) ∧ Mods None W W') := fun W => Lib.hid (by
    have := form_parts p h1 h2 W
    rw [hk, ← hl, ← hm, ← hh, ← hn] at this
    exact this)
  obtain ⟨v, hv⟩ : ∃ v, v = Ins.word ⟨p, rd, ra, rb, n⟩ := ⟨_, rfl⟩
  have HV : Hid (v = (l + rd * 128 + hi * 33554432 + n / 4096 % 1048576 * 4096) % 4294967296) := Lib.hid (by
    rw [hv]
    exact word_85 p rd ra rb n l m hi h1 h2 hk hr hl hm hh)
  rw [← hv]
  have HL : Hid (0 ≤ l ∧ l < 128) := Lib.hid (by have t := (tab_ok p h1 h2).1.hl; rw [← hl] at t; exact t)
  clear hl hm hh hn hk hv h1 h2 hr
  obtain ⟨c0, c1, c2, c3, c4, cf⟩ := F1.out
  go_enter Tryz.func20, Tryz.ntmps20
  go_wp2_with fail
  rw [← hW1]
  clear hW1
  refine HR.out.mono ?_
  rintro e w2 ⟨rfl, hm2⟩
  have HM2 := Lib.hid hm2
  have c0 := hm2.cellOf c0 (fun f => f)
  have c1 := hm2.cellOf c1 (fun f => f)
  have c2 := hm2.cellOf c2 (fun f => f)
  have c3 := hm2.cellOf c3 (fun f => f)
  have c4 := hm2.cellOf c4 (fun f => f)
  clear hm2 cf
  go_wp2_with fail
  refine (HF w2).out.mono ?_
  rintro e w3 ⟨rfl, hm3⟩
  obtain ⟨W4, hW4⟩ : ∃ W4, W4 = w3.alloc (.cells #[.int .u8 85, .int .u32 l, .int .u32 m, .int .u32 hi, .string nm] 87) := ⟨_, rfl⟩
  have HM4 : Hid (Mods None w2 W4) := Lib.hid (by rw [hW4]; exact hm3.alloc _)
  have HB4 : Hid (Blk W4 w3.heap.size [.int .u8 85, .int .u32 l, .int .u32 m, .int .u32 hi, .string nm] 87) := Lib.hid (by rw [hW4]; exact Blk.new w3 _ _)
  clear c0
  go_wp2_with fail
  rw [← hW4]
  clear hW4 hm3
  have f0 : W4.cell? ⟨w3.heap.size, 0, none⟩ = some (.int .u8 85) := HB4.out.cell rfl
  have f1 : W4.cell? ⟨w3.heap.size, 1, none⟩ = some (.int .u32 l) := HB4.out.cell rfl
  have f2 : W4.cell? ⟨w3.heap.size, 2, none⟩ = some (.int .u32 m) := HB4.out.cell rfl
  have f3 : W4.cell? ⟨w3.heap.size, 3, none⟩ = some (.int .u32 hi) := HB4.out.cell rfl
  have c1 := HM4.out.cellOf c1 (fun f => f)
  have c2 := HM4.out.cellOf c2 (fun f => f)
  have c3 := HM4.out.cellOf c3 (fun f => f)
  have c4 := HM4.out.cellOf c4 (fun f => f)
  go_wp2_with (go_at_call 41; refine (has_85 _).mono ?_; rintro e w' ⟨rfl, rfl⟩)
  go_loopw [6] (fun v wr => ∃ i : Nat, i ≤ 1 ∧ v = .int .u32 ((l + (if 1 ≤ i then rd * 128 else 0)) % 4294967296) ∧ wr = W4.iter ⟨#[100]⟩ i) (fun _ wr => 1 - wr.iterPos W4.heap.size)
  case atStart => exact ⟨0, by omega, by have hl := HL.out; simp; omega, rfl⟩
  case round =>
    obtain ⟨i, hi3, rfl, rfl⟩ := hrel
    have HI : ∀ i, Hid (Mods None W4 (W4.iter ⟨#[100]⟩ i)) := fun i => Lib.hid ((Mods.refl _ _).alloc _)
    have hcase : i = 0 ∨ i = 1 := by omega
    rcases hcase with rfl | rfl
    · have c1 := (HI 1).out.cellOf c1 (fun f => f)
      have hnx : ∀ ty, (Instr.next (.pointer (some ⟨W4.heap.size, 0, none⟩)) true ty).run Tryz.prog (W4.iter ⟨#[100]⟩ 0) = .ok (.tuple #[.bool true, .int .i64 0, .int .i32 100]) (W4.iter ⟨#[100]⟩ 1) := fun _ => by rw [run_next_ascii W4 _ 0 _ (by decide) (by decide)]; rfl
      go_wp2_with fail
      go_roundw
      case rel => exact ⟨1, by omega, by simp; omega, rfl⟩
      case measure => simp
    · have hnx : ∀ ty, (Instr.next (.pointer (some ⟨W4.heap.size, 0, none⟩)) true ty).run Tryz.prog (W4.iter ⟨#[100]⟩ 1) = .ok (.tuple #[.bool false]) (W4.iter ⟨#[100]⟩ 1) := fun _ => run_next_end W4 _ 1 _ (by decide)
      have f0 := (HI 1).out.cellOf f0 (fun f => f)
      have f3 := (HI 1).out.cellOf f3 (fun f => f)
      have c4 := (HI 1).out.cellOf c4 (fun f => f)
      have HALL0 : Hid (Mods None W (W4.iter ⟨#[100]⟩ 1)) := Lib.hid (((HM.out.trans HM2.out).trans HM4.out).trans (HI 1).out)
      obtain ⟨W5, hW5⟩ : ∃ W5, W5 = (W4.iter ⟨#[100]⟩ 1).alloc (.cells #[.int .i64 12, .int .i64 20, .int .i64 12] 94) := ⟨_, rfl⟩
      have HM5 : Hid (Mods None (W4.iter ⟨#[100]⟩ 1) W5) := Lib.hid (by rw [hW5]; exact (Mods.refl _ _).alloc _)
      have HP : Hid (Blk W5 (W4.iter ⟨#[100]⟩ 1).heap.size [.int .i64 12, .int .i64 20, .int .i64 12] 94) := Lib.hid (by rw [hW5]; exact Blk.new _ _ _)
      go_wp2_with (go_at_call 42; refine (pieces_85 _).mono ?_; rintro e w' ⟨rfl, rfl⟩)
      rw [← hW5]
      clear hW5 hnx
      have c4 := HM5.out.cellOf c4 (fun f => f)
      go_loopw [6, 80] (fun u v wr => ∃ j : Nat, j ≤ 1 ∧ v = .int .i64 j ∧ u = .int .u32 ((l + rd * 128 + hi * 33554432 + (if 1 ≤ j then n / 4096 % 1048576 * 4096 else 0)) % 4294967296) ∧ Hid (Mods None W5 wr)) (fun _ v _ => (1 - intOf v).toNat)
      case atStart => exact ⟨0, by omega, rfl, by simp, Lib.hid (Mods.refl _ _)⟩
      case round =>
        obtain ⟨j, hj, rfl, rfl, hmw⟩ := hrel
        have c4 := hmw.out.cellOf c4 (fun f => f)
        have HALL : Hid (Mods None W wr) := Lib.hid ((HALL0.out.trans HM5.out).trans hmw.out)
        have hcase : j = 0 ∨ j = 1 := by omega
        rcases hcase with rfl | rfl
        · have p0 : wr.cell? ⟨(W4.iter ⟨#[100]⟩ 1).heap.size, 0, none⟩ = some (.int .i64 12) := (HP.out.mods hmw.out (fun f => f)).cell rfl
          have p1 : wr.cell? ⟨(W4.iter ⟨#[100]⟩ 1).heap.size, 1, none⟩ = some (.int .i64 20) := (HP.out.mods hmw.out (fun f => f)).cell rfl
          have p2 : wr.cell? ⟨(W4.iter ⟨#[100]⟩ 1).heap.size, 2, none⟩ = some (.int .i64 12) := (HP.out.mods hmw.out (fun f => f)).cell rfl
          obtain ⟨W7, hW7⟩ : ∃ W7, W7 = wr.alloc (.cells #[.int .i64 12, .int .i64 20, .int .i64 12] 94) := ⟨_, rfl⟩
          have HB7 : Hid (Blk W7 wr.heap.size [.int .i64 12, .int .i64 20, .int .i64 12] 94) := Lib.hid (by rw [hW7]; exact Blk.new wr _ _)
          have HM7 : Hid (Mods None wr W7) := Lib.hid (by rw [hW7]; exact (Mods.refl _ _).alloc _)
          go_wp2_with fail
          rw [← hW7]
          have c4 := HM7.out.cellOf c4 (fun f => f)
          clear p0 p1 p2 hW7
          have q0 : W7.cell? ⟨wr.heap.size, 0, none⟩ = some (.int .i64 12) := HB7.out.cell rfl
          have q1 : W7.cell? ⟨wr.heap.size, 1, none⟩ = some (.int .i64 20) := HB7.out.cell rfl
          have q2 : W7.cell? ⟨wr.heap.size, 2, none⟩ = some (.int .i64 12) := HB7.out.cell rfl
          go_wp2_with fail
          go_loopw [6, 86] (fun u v w8 => ∃ i : Nat, i ≤ 20 ∧ v = .int .i64 i ∧ u = .int .u32 ((l + rd * 128 + hi * 33554432 + n / 4096 % 2 ^ i * 4096) % 4294967296) ∧ w8 = W7) (fun _ v _ => (20 - intOf v).toNat)
          case atStart => exact ⟨0, by omega, rfl, by simp, rfl⟩
          case round =>
            obtain ⟨i, hi, rfl, rfl, rfl⟩ := hrel
            have hcase : i = 0 ∨ i = 1 ∨ i = 2 ∨ i = 3 ∨ i = 4 ∨ i = 5 ∨ i = 6 ∨ i = 7 ∨ i = 8 ∨ i = 9 ∨ i = 10 ∨ i = 11 ∨ i = 12 ∨ i = 13 ∨ i = 14 ∨ i = 15 ∨ i = 16 ∨ i = 17 ∨ i = 18 ∨ i = 19 ∨ i = 20 := by omega
            rcases hcase with rfl | rfl | rfl | rfl | rfl | rfl | rfl | rfl | rfl | rfl | rfl | rfl | rfl | rfl | rfl | rfl | rfl | rfl | rfl | rfl | rfl
            · by_cases hb : (n / 4096) % 2 = 1
              · have hbt : (bits BinOp.and IntKind.i64 (n / 4096) 1 == 1) = true := by rw [and_one]; simpa using hb
                go_wp2_with fail
                go_roundw
                case rel => exact ⟨1, by omega, rfl, by simp; omega, by trivial⟩
                case measure => simp [intOf]
              · have hbt : (bits BinOp.and IntKind.i64 (n / 4096) 1 == 1) = false := by rw [and_one]; simpa using hb
                go_wp2_with fail
                go_roundw
                case rel => exact ⟨1, by omega, rfl, by simp; omega, by trivial⟩
                case measure => simp [intOf]
            · by_cases hb : (n / 8192) % 2 = 1
              · have hbt : (bits BinOp.and IntKind.i64 (n / 8192) 1 == 1) = true := by rw [and_one]; simpa using hb
                go_wp2_with fail
                go_roundw
                case rel => exact ⟨2, by omega, rfl, by simp; omega, by trivial⟩
                case measure => simp [intOf]
              · have hbt : (bits BinOp.and IntKind.i64 (n / 8192) 1 == 1) = false := by rw [and_one]; simpa using hb
                go_wp2_with fail
                go_roundw
                case rel => exact ⟨2, by omega, rfl, by simp; omega, by trivial⟩
                case measure => simp [intOf]
            · by_cases hb : (n / 16384) % 2 = 1
              · have hbt : (bits BinOp.and IntKind.i64 (n / 16384) 1 == 1) = true := by rw [and_one]; simpa using hb
                go_wp2_with fail
                go_roundw
                case rel => exact ⟨3, by omega, rfl, by simp; omega, by trivial⟩
                case measure => simp [intOf]
              · have hbt : (bits BinOp.and IntKind.i64 (n / 16384) 1 == 1) = false := by rw [and_one]; simpa using hb
                go_wp2_with fail
                go_roundw
                case rel => exact ⟨3, by omega, rfl, by simp; omega, by trivial⟩
                case measure => simp [intOf]
            · by_cases hb : (n / 32768) % 2 = 1
              · have hbt : (bits BinOp.and IntKind.i64 (n / 32768) 1 == 1) = true := by rw [and_one]; simpa using hb
                go_wp2_with fail
                go_roundw
                case rel => exact ⟨4, by omega, rfl, by simp; omega, by trivial⟩
                case measure => simp [intOf]
              · have hbt : (bits BinOp.and IntKind.i64 (n / 32768) 1 == 1) = false := by rw [and_one]; simpa using hb
                go_wp2_with fail
                go_roundw
                case rel => exact ⟨4, by omega, rfl, by simp; omega, by trivial⟩
                case measure => simp [intOf]
            · by_cases hb : (n / 65536) % 2 = 1
              · have hbt : (bits BinOp.and IntKind.i64 (n / 65536) 1 == 1) = true := by rw [and_one]; simpa using hb
                go_wp2_with fail
                go_roundw
                case rel => exact ⟨5, by omega, rfl, by simp; omega, by trivial⟩
                case measure => simp [intOf]
              · have hbt : (bits BinOp.and IntKind.i64 (n / 65536) 1 == 1) = false := by rw [and_one]; simpa using hb
                go_wp2_with fail
                go_roundw
                case rel => exact ⟨5, by omega, rfl, by simp; omega, by trivial⟩
                case measure => simp [intOf]
            · by_cases hb : (n / 131072) % 2 = 1
              · have hbt : (bits BinOp.and IntKind.i64 (n / 131072) 1 == 1) = true := by rw [and_one]; simpa using hb
                go_wp2_with fail
                go_roundw
                case rel => exact ⟨6, by omega, rfl, by simp; omega, by trivial⟩
                case measure => simp [intOf]
              · have hbt : (bits BinOp.and IntKind.i64 (n / 131072) 1 == 1) = false := by rw [and_one]; simpa using hb
                go_wp2_with fail
                go_roundw
                case rel => exact ⟨6, by omega, rfl, by simp; omega, by trivial⟩
                case measure => simp [intOf]
            · by_cases hb : (n / 262144) % 2 = 1
              · have hbt : (bits BinOp.and IntKind.i64 (n / 262144) 1 == 1) = true := by rw [and_one]; simpa using hb
                go_wp2_with fail
                go_roundw
                case rel => exact ⟨7, by omega, rfl, by simp; omega, by trivial⟩
                case measure => simp [intOf]
              · have hbt : (bits BinOp.and IntKind.i64 (n / 262144) 1 == 1) = false := by rw [and_one]; simpa using hb
                go_wp2_with fail
                go_roundw
                case rel => exact ⟨7, by omega, rfl, by simp; omega, by trivial⟩
                case measure => simp [intOf]
            · by_cases hb : (n / 524288) % 2 = 1
              · have hbt : (bits BinOp.and IntKind.i64 (n / 524288) 1 == 1) = true := by rw [and_one]; simpa using hb
                go_wp2_with fail
                go_roundw
                case rel => exact ⟨8, by omega, rfl, by simp; omega, by trivial⟩
                case measure => simp [intOf]
              · have hbt : (bits BinOp.and IntKind.i64 (n / 524288) 1 == 1) = false := by rw [and_one]; simpa using hb
                go_wp2_with fail
                go_roundw
                case rel => exact ⟨8, by omega, rfl, by simp; omega, by trivial⟩
                case measure => simp [intOf]
            · by_cases hb : (n / 1048576) % 2 = 1
              · have hbt : (bits BinOp.and IntKind.i64 (n / 1048576) 1 == 1) = true := by rw [and_one]; simpa using hb
                go_wp2_with fail
                go_roundw
                case rel => exact ⟨9, by omega, rfl, by simp; omega, by trivial⟩
                case measure => simp [intOf]
              · have hbt : (bits BinOp.and IntKind.i64 (n / 1048576) 1 == 1) = false := by rw [and_one]; simpa using hb
                go_wp2_with fail
                go_roundw
                case rel => exact ⟨9, by omega, rfl, by simp; omega, by trivial⟩
                case measure => simp [intOf]
            · by_cases hb : (n / 2097152) % 2 = 1
              · have hbt : (bits BinOp.and IntKind.i64 (n / 2097152) 1 == 1) = true := by rw [and_one]; simpa using hb
                go_wp2_with fail
                go_roundw
                case rel => exact ⟨10, by omega, rfl, by simp; omega, by trivial⟩
                case measure => simp [intOf]
              · have hbt : (bits BinOp.and IntKind.i64 (n / 2097152) 1 == 1) = false := by rw [and_one]; simpa using hb
                go_wp2_with fail
                go_roundw
                case rel => exact ⟨10, by omega, rfl, by simp; omega, by trivial⟩
                case measure => simp [intOf]
            · by_cases hb : (n / 4194304) % 2 = 1
              · have hbt : (bits BinOp.and IntKind.i64 (n / 4194304) 1 == 1) = true := by rw [and_one]; simpa using hb
                go_wp2_with fail
                go_roundw
                case rel => exact ⟨11, by omega, rfl, by simp; omega, by trivial⟩
                case measure => simp [intOf]
              · have hbt : (bits BinOp.and IntKind.i64 (n / 4194304) 1 == 1) = false := by rw [and_one]; simpa using hb
                go_wp2_with fail
                go_roundw
                case rel => exact ⟨11, by omega, rfl, by simp; omega, by trivial⟩
                case measure => simp [intOf]
            · by_cases hb : (n / 8388608) % 2 = 1
              · have hbt : (bits BinOp.and IntKind.i64 (n / 8388608) 1 == 1) = true := by rw [and_one]; simpa using hb
                go_wp2_with fail
                go_roundw
                case rel => exact ⟨12, by omega, rfl, by simp; omega, by trivial⟩
                case measure => simp [intOf]
              · have hbt : (bits BinOp.and IntKind.i64 (n / 8388608) 1 == 1) = false := by rw [and_one]; simpa using hb
                go_wp2_with fail
                go_roundw
                case rel => exact ⟨12, by omega, rfl, by simp; omega, by trivial⟩
                case measure => simp [intOf]
            · by_cases hb : (n / 16777216) % 2 = 1
              · have hbt : (bits BinOp.and IntKind.i64 (n / 16777216) 1 == 1) = true := by rw [and_one]; simpa using hb
                go_wp2_with fail
                go_roundw
                case rel => exact ⟨13, by omega, rfl, by simp; omega, by trivial⟩
                case measure => simp [intOf]
              · have hbt : (bits BinOp.and IntKind.i64 (n / 16777216) 1 == 1) = false := by rw [and_one]; simpa using hb
                go_wp2_with fail
                go_roundw
                case rel => exact ⟨13, by omega, rfl, by simp; omega, by trivial⟩
                case measure => simp [intOf]
            · by_cases hb : (n / 33554432) % 2 = 1
              · have hbt : (bits BinOp.and IntKind.i64 (n / 33554432) 1 == 1) = true := by rw [and_one]; simpa using hb
                go_wp2_with fail
                go_roundw
                case rel => exact ⟨14, by omega, rfl, by simp; omega, by trivial⟩
                case measure => simp [intOf]
              · have hbt : (bits BinOp.and IntKind.i64 (n / 33554432) 1 == 1) = false := by rw [and_one]; simpa using hb
                go_wp2_with fail
                go_roundw
                case rel => exact ⟨14, by omega, rfl, by simp; omega, by trivial⟩
                case measure => simp [intOf]
            · by_cases hb : (n / 67108864) % 2 = 1
              · have hbt : (bits BinOp.and IntKind.i64 (n / 67108864) 1 == 1) = true := by rw [and_one]; simpa using hb
                go_wp2_with fail
                go_roundw
                case rel => exact ⟨15, by omega, rfl, by simp; omega, by trivial⟩
                case measure => simp [intOf]
              · have hbt : (bits BinOp.and IntKind.i64 (n / 67108864) 1 == 1) = false := by rw [and_one]; simpa using hb
                go_wp2_with fail
                go_roundw
                case rel => exact ⟨15, by omega, rfl, by simp; omega, by trivial⟩
                case measure => simp [intOf]
            · by_cases hb : (n / 134217728) % 2 = 1
              · have hbt : (bits BinOp.and IntKind.i64 (n / 134217728) 1 == 1) = true := by rw [and_one]; simpa using hb
                go_wp2_with fail
                go_roundw
                case rel => exact ⟨16, by omega, rfl, by simp; omega, by trivial⟩
                case measure => simp [intOf]
              · have hbt : (bits BinOp.and IntKind.i64 (n / 134217728) 1 == 1) = false := by rw [and_one]; simpa using hb
                go_wp2_with fail
                go_roundw
                case rel => exact ⟨16, by omega, rfl, by simp; omega, by trivial⟩
                case measure => simp [intOf]
            · by_cases hb : (n / 268435456) % 2 = 1
              · have hbt : (bits BinOp.and IntKind.i64 (n / 268435456) 1 == 1) = true := by rw [and_one]; simpa using hb
                go_wp2_with fail
                go_roundw
                case rel => exact ⟨17, by omega, rfl, by simp; omega, by trivial⟩
                case measure => simp [intOf]
              · have hbt : (bits BinOp.and IntKind.i64 (n / 268435456) 1 == 1) = false := by rw [and_one]; simpa using hb
                go_wp2_with fail
                go_roundw
                case rel => exact ⟨17, by omega, rfl, by simp; omega, by trivial⟩
                case measure => simp [intOf]
            · by_cases hb : (n / 536870912) % 2 = 1
              · have hbt : (bits BinOp.and IntKind.i64 (n / 536870912) 1 == 1) = true := by rw [and_one]; simpa using hb
                go_wp2_with fail
                go_roundw
                case rel => exact ⟨18, by omega, rfl, by simp; omega, by trivial⟩
                case measure => simp [intOf]
              · have hbt : (bits BinOp.and IntKind.i64 (n / 536870912) 1 == 1) = false := by rw [and_one]; simpa using hb
                go_wp2_with fail
                go_roundw
                case rel => exact ⟨18, by omega, rfl, by simp; omega, by trivial⟩
                case measure => simp [intOf]
            · by_cases hb : (n / 1073741824) % 2 = 1
              · have hbt : (bits BinOp.and IntKind.i64 (n / 1073741824) 1 == 1) = true := by rw [and_one]; simpa using hb
                go_wp2_with fail
                go_roundw
                case rel => exact ⟨19, by omega, rfl, by simp; omega, by trivial⟩
                case measure => simp [intOf]
              · have hbt : (bits BinOp.and IntKind.i64 (n / 1073741824) 1 == 1) = false := by rw [and_one]; simpa using hb
                go_wp2_with fail
                go_roundw
                case rel => exact ⟨19, by omega, rfl, by simp; omega, by trivial⟩
                case measure => simp [intOf]
            · by_cases hb : (n / 2147483648) % 2 = 1
              · have hbt : (bits BinOp.and IntKind.i64 (n / 2147483648) 1 == 1) = true := by rw [and_one]; simpa using hb
                go_wp2_with fail
                go_roundw
                case rel => exact ⟨20, by omega, rfl, by simp; omega, by trivial⟩
                case measure => simp [intOf]
              · have hbt : (bits BinOp.and IntKind.i64 (n / 2147483648) 1 == 1) = false := by rw [and_one]; simpa using hb
                go_wp2_with fail
                go_roundw
                case rel => exact ⟨20, by omega, rfl, by simp; omega, by trivial⟩
                case measure => simp [intOf]
            · go_wp2_with fail
              go_roundw
              case rel => exact ⟨1, by omega, rfl, by simp, Lib.hid (hmw.out.trans HM7.out)⟩
              case measure => simp [intOf]
        · go_wp2_with fail
          go_ret2
          refine ⟨ret_word ?_, HALL.out⟩
          have hvo := HV.out
          omega
theorem word_74 (p rd ra rb n l m hi : Int) (h1 : 1 ≤ p) (h2 : p ≤ 31) (hk : kindOf p = 74) (hr : (Ins.mk p rd ra rb n).right = true) (hl : l = lowOf p) (hm : m = midOf p) (hh : hi = highOf p) :
    (Ins.mk p rd ra rb n).word = (l + rd * 128 + hi * 33554432 + n / 4096 % 256 * 4096 + n / 2048 % 2 * 1048576 + n / 2 % 1024 * 2097152 + n / 1048576 % 2 * 2147483648) % 4294967296 := by
  have tab := (tab_ok p h1 h2).1
  rw [hk, ← hl, ← hm, ← hh] at tab
  simp [Ins.right, hk, rightB, bodyB, regB, h1, h2] at hr
  obtain ⟨t1, t2⟩ := tab.hl
  obtain ⟨t3, t4⟩ := tab.hm
  obtain ⟨t5, t6⟩ := tab.hh
  have t7 := tab.he
  have t8 := tab.hz
  have t9 : hi = 0 := by rw [hh]; exact high_zero p h1 h2 (by omega) (by omega)
  simp only [Ins.word]
  rw [hk, ← hl, ← hm, ← hh, raw_74 l m rd ra rb n hi tab.hl tab.hm (by omega) (by omega) (by omega) tab.hh (tab.hz (by decide))]
  omega
set_option maxRecDepth 100000 in
set_option maxHeartbeats 1000000 in
theorem enc_74 (x : Ins) (W : World) (hr : x.right = true) (h1 : 1 ≤ x.op) (h2 : x.op ≤ 31) (hk : kindOf x.op = 74) : Calls Tryz.prog 20 #[x.val] W fun e W' => e = .returned (.tuple #[.int .u32 x.word, .int .i64 0]) ∧ Mods None W W' := by
  obtain ⟨p, rd, ra, rb, n⟩ := x
  simp only at h1 h2 hk
  obtain ⟨W1, hW1⟩ : ∃ W1, W1 = W.alloc (.cells (instCells p rd ra rb n) 30) := ⟨_, rfl⟩
  have F1 : Hid (Five W1 W.heap.size p rd ra rb n) := Lib.hid (by rw [hW1]; exact five_new W _ _ _ _ _ 30)
  have HM : Hid (Mods None W W1) := Lib.hid (by rw [hW1]; exact (Mods.refl _ _).alloc _)
  have HRR := right_ref ⟨p, rd, ra, rb, n⟩ W1
  rw [hr] at HRR
  have HR := Lib.hid HRR
  clear HRR
  simp only [Ins.val] at HR ⊢
  obtain ⟨l, hl⟩ : ∃ l, l = lowOf p := ⟨_, rfl⟩
  obtain ⟨m, hm⟩ : ∃ m, m = midOf p := ⟨_, rfl⟩
  obtain ⟨hi, hh⟩ : ∃ hi, hi = highOf p := ⟨_, rfl⟩
  obtain ⟨nm, hn⟩ : ∃ nm, nm = nameOf p := ⟨_, rfl⟩
  have HF : ∀ W, Hid (Calls Tryz.prog 38 #[.int .i64 p] W fun e W' => e = .returned (.tuple #[.agg #[.int .u8 74, .int .u32 l, .int .u32 m, .int .u32 hi, .string nm], .bool true]) ∧ Mods None W W') := fun W => Lib.hid (by
    have := form_parts p h1 h2 W
    rw [hk, ← hl, ← hm, ← hh, ← hn] at this
    exact this)
  obtain ⟨v, hv⟩ : ∃ v, v = Ins.word ⟨p, rd, ra, rb, n⟩ := ⟨_, rfl⟩
  have HV : Hid (v = (l + rd * 128 + hi * 33554432 + n / 4096 % 256 * 4096 + n / 2048 % 2 * 1048576 + n / 2 % 1024 * 2097152 + n / 1048576 % 2 * 2147483648) % 4294967296) := Lib.hid (by
    rw [hv]
    exact word_74 p rd ra rb n l m hi h1 h2 hk hr hl hm hh)
  rw [← hv]
  have HL : Hid (0 ≤ l ∧ l < 128) := Lib.hid (by have t := (tab_ok p h1 h2).1.hl; rw [← hl] at t; exact t)
  clear hl hm hh hn hk hv h1 h2 hr
  obtain ⟨c0, c1, c2, c3, c4, cf⟩ := F1.out
  go_enter Tryz.func20, Tryz.ntmps20
  go_wp2_with fail
  rw [← hW1]
  clear hW1
  refine HR.out.mono ?_
  rintro e w2 ⟨rfl, hm2⟩
  have HM2 := Lib.hid hm2
  have c0 := hm2.cellOf c0 (fun f => f)
  have c1 := hm2.cellOf c1 (fun f => f)
  have c2 := hm2.cellOf c2 (fun f => f)
  have c3 := hm2.cellOf c3 (fun f => f)
  have c4 := hm2.cellOf c4 (fun f => f)
  clear hm2 cf
  go_wp2_with fail
  refine (HF w2).out.mono ?_
  rintro e w3 ⟨rfl, hm3⟩
  obtain ⟨W4, hW4⟩ : ∃ W4, W4 = w3.alloc (.cells #[.int .u8 74, .int .u32 l, .int .u32 m, .int .u32 hi, .string nm] 87) := ⟨_, rfl⟩
  have HM4 : Hid (Mods None w2 W4) := Lib.hid (by rw [hW4]; exact hm3.alloc _)
  have HB4 : Hid (Blk W4 w3.heap.size [.int .u8 74, .int .u32 l, .int .u32 m, .int .u32 hi, .string nm] 87) := Lib.hid (by rw [hW4]; exact Blk.new w3 _ _)
  clear c0
  go_wp2_with fail
  rw [← hW4]
  clear hW4 hm3
  have f0 : W4.cell? ⟨w3.heap.size, 0, none⟩ = some (.int .u8 74) := HB4.out.cell rfl
  have f1 : W4.cell? ⟨w3.heap.size, 1, none⟩ = some (.int .u32 l) := HB4.out.cell rfl
  have f2 : W4.cell? ⟨w3.heap.size, 2, none⟩ = some (.int .u32 m) := HB4.out.cell rfl
  have f3 : W4.cell? ⟨w3.heap.size, 3, none⟩ = some (.int .u32 hi) := HB4.out.cell rfl
  have c1 := HM4.out.cellOf c1 (fun f => f)
  have c2 := HM4.out.cellOf c2 (fun f => f)
  have c3 := HM4.out.cellOf c3 (fun f => f)
  have c4 := HM4.out.cellOf c4 (fun f => f)
  go_wp2_with (go_at_call 41; refine (has_74 _).mono ?_; rintro e w' ⟨rfl, rfl⟩)
  go_loopw [6] (fun v wr => ∃ i : Nat, i ≤ 1 ∧ v = .int .u32 ((l + (if 1 ≤ i then rd * 128 else 0)) % 4294967296) ∧ wr = W4.iter ⟨#[100]⟩ i) (fun _ wr => 1 - wr.iterPos W4.heap.size)
  case atStart => exact ⟨0, by omega, by have hl := HL.out; simp; omega, rfl⟩
  case round =>
    obtain ⟨i, hi3, rfl, rfl⟩ := hrel
    have HI : ∀ i, Hid (Mods None W4 (W4.iter ⟨#[100]⟩ i)) := fun i => Lib.hid ((Mods.refl _ _).alloc _)
    have hcase : i = 0 ∨ i = 1 := by omega
    rcases hcase with rfl | rfl
    · have c1 := (HI 1).out.cellOf c1 (fun f => f)
      have hnx : ∀ ty, (Instr.next (.pointer (some ⟨W4.heap.size, 0, none⟩)) true ty).run Tryz.prog (W4.iter ⟨#[100]⟩ 0) = .ok (.tuple #[.bool true, .int .i64 0, .int .i32 100]) (W4.iter ⟨#[100]⟩ 1) := fun _ => by rw [run_next_ascii W4 _ 0 _ (by decide) (by decide)]; rfl
      go_wp2_with fail
      go_roundw
      case rel => exact ⟨1, by omega, by simp; omega, rfl⟩
      case measure => simp
    · have hnx : ∀ ty, (Instr.next (.pointer (some ⟨W4.heap.size, 0, none⟩)) true ty).run Tryz.prog (W4.iter ⟨#[100]⟩ 1) = .ok (.tuple #[.bool false]) (W4.iter ⟨#[100]⟩ 1) := fun _ => run_next_end W4 _ 1 _ (by decide)
      have f0 := (HI 1).out.cellOf f0 (fun f => f)
      have f3 := (HI 1).out.cellOf f3 (fun f => f)
      have c4 := (HI 1).out.cellOf c4 (fun f => f)
      have HALL0 : Hid (Mods None W (W4.iter ⟨#[100]⟩ 1)) := Lib.hid (((HM.out.trans HM2.out).trans HM4.out).trans (HI 1).out)
      obtain ⟨W5, hW5⟩ : ∃ W5, W5 = (W4.iter ⟨#[100]⟩ 1).alloc (.cells #[.int .i64 12, .int .i64 8, .int .i64 12, .int .i64 11, .int .i64 1, .int .i64 20, .int .i64 1, .int .i64 10, .int .i64 21, .int .i64 20, .int .i64 1, .int .i64 31] 94) := ⟨_, rfl⟩
      have HM5 : Hid (Mods None (W4.iter ⟨#[100]⟩ 1) W5) := Lib.hid (by rw [hW5]; exact (Mods.refl _ _).alloc _)
      have HP : Hid (Blk W5 (W4.iter ⟨#[100]⟩ 1).heap.size [.int .i64 12, .int .i64 8, .int .i64 12, .int .i64 11, .int .i64 1, .int .i64 20, .int .i64 1, .int .i64 10, .int .i64 21, .int .i64 20, .int .i64 1, .int .i64 31] 94) := Lib.hid (by rw [hW5]; exact Blk.new _ _ _)
      go_wp2_with (go_at_call 42; refine (pieces_74 _).mono ?_; rintro e w' ⟨rfl, rfl⟩)
      rw [← hW5]
      clear hW5 hnx
      have c4 := HM5.out.cellOf c4 (fun f => f)
      go_loopw [6, 80] (fun u v wr => ∃ j : Nat, j ≤ 4 ∧ v = .int .i64 j ∧ u = .int .u32 ((l + rd * 128 + hi * 33554432 + (if 1 ≤ j then n / 4096 % 256 * 4096 else 0) + (if 2 ≤ j then n / 2048 % 2 * 1048576 else 0) + (if 3 ≤ j then n / 2 % 1024 * 2097152 else 0) + (if 4 ≤ j then n / 1048576 % 2 * 2147483648 else 0)) % 4294967296) ∧ Hid (Mods None W5 wr)) (fun _ v _ => (4 - intOf v).toNat)
      case atStart => exact ⟨0, by omega, rfl, by simp, Lib.hid (Mods.refl _ _)⟩
      case round =>
        obtain ⟨j, hj, rfl, rfl, hmw⟩ := hrel
        have c4 := hmw.out.cellOf c4 (fun f => f)
        have HALL : Hid (Mods None W wr) := Lib.hid ((HALL0.out.trans HM5.out).trans hmw.out)
        have hcase : j = 0 ∨ j = 1 ∨ j = 2 ∨ j = 3 ∨ j = 4 := by omega
        rcases hcase with rfl | rfl | rfl | rfl | rfl
        · have p0 : wr.cell? ⟨(W4.iter ⟨#[100]⟩ 1).heap.size, 0, none⟩ = some (.int .i64 12) := (HP.out.mods hmw.out (fun f => f)).cell rfl
          have p1 : wr.cell? ⟨(W4.iter ⟨#[100]⟩ 1).heap.size, 1, none⟩ = some (.int .i64 8) := (HP.out.mods hmw.out (fun f => f)).cell rfl
          have p2 : wr.cell? ⟨(W4.iter ⟨#[100]⟩ 1).heap.size, 2, none⟩ = some (.int .i64 12) := (HP.out.mods hmw.out (fun f => f)).cell rfl
          obtain ⟨W7, hW7⟩ : ∃ W7, W7 = wr.alloc (.cells #[.int .i64 12, .int .i64 8, .int .i64 12] 94) := ⟨_, rfl⟩
          have HB7 : Hid (Blk W7 wr.heap.size [.int .i64 12, .int .i64 8, .int .i64 12] 94) := Lib.hid (by rw [hW7]; exact Blk.new wr _ _)
          have HM7 : Hid (Mods None wr W7) := Lib.hid (by rw [hW7]; exact (Mods.refl _ _).alloc _)
          go_wp2_with fail
          rw [← hW7]
          have c4 := HM7.out.cellOf c4 (fun f => f)
          clear p0 p1 p2 hW7
          have q0 : W7.cell? ⟨wr.heap.size, 0, none⟩ = some (.int .i64 12) := HB7.out.cell rfl
          have q1 : W7.cell? ⟨wr.heap.size, 1, none⟩ = some (.int .i64 8) := HB7.out.cell rfl
          have q2 : W7.cell? ⟨wr.heap.size, 2, none⟩ = some (.int .i64 12) := HB7.out.cell rfl
          go_wp2_with fail
          go_loopw [6, 86] (fun u v w8 => ∃ i : Nat, i ≤ 8 ∧ v = .int .i64 i ∧ u = .int .u32 ((l + rd * 128 + hi * 33554432 + n / 4096 % 2 ^ i * 4096) % 4294967296) ∧ w8 = W7) (fun _ v _ => (8 - intOf v).toNat)
          case atStart => exact ⟨0, by omega, rfl, by simp, rfl⟩
          case round =>
            obtain ⟨i, hi, rfl, rfl, rfl⟩ := hrel
            have hcase : i = 0 ∨ i = 1 ∨ i = 2 ∨ i = 3 ∨ i = 4 ∨ i = 5 ∨ i = 6 ∨ i = 7 ∨ i = 8 := by omega
            rcases hcase with rfl | rfl | rfl | rfl | rfl | rfl | rfl | rfl | rfl
            · by_cases hb : (n / 4096) % 2 = 1
              · have hbt : (bits BinOp.and IntKind.i64 (n / 4096) 1 == 1) = true := by rw [and_one]; simpa using hb
                go_wp2_with fail
                go_roundw
                case rel => exact ⟨1, by omega, rfl, by simp; omega, by trivial⟩
                case measure => simp [intOf]
              · have hbt : (bits BinOp.and IntKind.i64 (n / 4096) 1 == 1) = false := by rw [and_one]; simpa using hb
                go_wp2_with fail
                go_roundw
                case rel => exact ⟨1, by omega, rfl, by simp; omega, by trivial⟩
                case measure => simp [intOf]
            · by_cases hb : (n / 8192) % 2 = 1
              · have hbt : (bits BinOp.and IntKind.i64 (n / 8192) 1 == 1) = true := by rw [and_one]; simpa using hb
                go_wp2_with fail
                go_roundw
                case rel => exact ⟨2, by omega, rfl, by simp; omega, by trivial⟩
                case measure => simp [intOf]
              · have hbt : (bits BinOp.and IntKind.i64 (n / 8192) 1 == 1) = false := by rw [and_one]; simpa using hb
                go_wp2_with fail
                go_roundw
                case rel => exact ⟨2, by omega, rfl, by simp; omega, by trivial⟩
                case measure => simp [intOf]
            · by_cases hb : (n / 16384) % 2 = 1
              · have hbt : (bits BinOp.and IntKind.i64 (n / 16384) 1 == 1) = true := by rw [and_one]; simpa using hb
                go_wp2_with fail
                go_roundw
                case rel => exact ⟨3, by omega, rfl, by simp; omega, by trivial⟩
                case measure => simp [intOf]
              · have hbt : (bits BinOp.and IntKind.i64 (n / 16384) 1 == 1) = false := by rw [and_one]; simpa using hb
                go_wp2_with fail
                go_roundw
                case rel => exact ⟨3, by omega, rfl, by simp; omega, by trivial⟩
                case measure => simp [intOf]
            · by_cases hb : (n / 32768) % 2 = 1
              · have hbt : (bits BinOp.and IntKind.i64 (n / 32768) 1 == 1) = true := by rw [and_one]; simpa using hb
                go_wp2_with fail
                go_roundw
                case rel => exact ⟨4, by omega, rfl, by simp; omega, by trivial⟩
                case measure => simp [intOf]
              · have hbt : (bits BinOp.and IntKind.i64 (n / 32768) 1 == 1) = false := by rw [and_one]; simpa using hb
                go_wp2_with fail
                go_roundw
                case rel => exact ⟨4, by omega, rfl, by simp; omega, by trivial⟩
                case measure => simp [intOf]
            · by_cases hb : (n / 65536) % 2 = 1
              · have hbt : (bits BinOp.and IntKind.i64 (n / 65536) 1 == 1) = true := by rw [and_one]; simpa using hb
                go_wp2_with fail
                go_roundw
                case rel => exact ⟨5, by omega, rfl, by simp; omega, by trivial⟩
                case measure => simp [intOf]
              · have hbt : (bits BinOp.and IntKind.i64 (n / 65536) 1 == 1) = false := by rw [and_one]; simpa using hb
                go_wp2_with fail
                go_roundw
                case rel => exact ⟨5, by omega, rfl, by simp; omega, by trivial⟩
                case measure => simp [intOf]
            · by_cases hb : (n / 131072) % 2 = 1
              · have hbt : (bits BinOp.and IntKind.i64 (n / 131072) 1 == 1) = true := by rw [and_one]; simpa using hb
                go_wp2_with fail
                go_roundw
                case rel => exact ⟨6, by omega, rfl, by simp; omega, by trivial⟩
                case measure => simp [intOf]
              · have hbt : (bits BinOp.and IntKind.i64 (n / 131072) 1 == 1) = false := by rw [and_one]; simpa using hb
                go_wp2_with fail
                go_roundw
                case rel => exact ⟨6, by omega, rfl, by simp; omega, by trivial⟩
                case measure => simp [intOf]
            · by_cases hb : (n / 262144) % 2 = 1
              · have hbt : (bits BinOp.and IntKind.i64 (n / 262144) 1 == 1) = true := by rw [and_one]; simpa using hb
                go_wp2_with fail
                go_roundw
                case rel => exact ⟨7, by omega, rfl, by simp; omega, by trivial⟩
                case measure => simp [intOf]
              · have hbt : (bits BinOp.and IntKind.i64 (n / 262144) 1 == 1) = false := by rw [and_one]; simpa using hb
                go_wp2_with fail
                go_roundw
                case rel => exact ⟨7, by omega, rfl, by simp; omega, by trivial⟩
                case measure => simp [intOf]
            · by_cases hb : (n / 524288) % 2 = 1
              · have hbt : (bits BinOp.and IntKind.i64 (n / 524288) 1 == 1) = true := by rw [and_one]; simpa using hb
                go_wp2_with fail
                go_roundw
                case rel => exact ⟨8, by omega, rfl, by simp; omega, by trivial⟩
                case measure => simp [intOf]
              · have hbt : (bits BinOp.and IntKind.i64 (n / 524288) 1 == 1) = false := by rw [and_one]; simpa using hb
                go_wp2_with fail
                go_roundw
                case rel => exact ⟨8, by omega, rfl, by simp; omega, by trivial⟩
                case measure => simp [intOf]
            · go_wp2_with fail
              go_roundw
              case rel => exact ⟨1, by omega, rfl, by simp, Lib.hid (hmw.out.trans HM7.out)⟩
              case measure => simp [intOf]
        · have p0 : wr.cell? ⟨(W4.iter ⟨#[100]⟩ 1).heap.size, 3, none⟩ = some (.int .i64 11) := (HP.out.mods hmw.out (fun f => f)).cell rfl
          have p1 : wr.cell? ⟨(W4.iter ⟨#[100]⟩ 1).heap.size, 4, none⟩ = some (.int .i64 1) := (HP.out.mods hmw.out (fun f => f)).cell rfl
          have p2 : wr.cell? ⟨(W4.iter ⟨#[100]⟩ 1).heap.size, 5, none⟩ = some (.int .i64 20) := (HP.out.mods hmw.out (fun f => f)).cell rfl
          obtain ⟨W7, hW7⟩ : ∃ W7, W7 = wr.alloc (.cells #[.int .i64 11, .int .i64 1, .int .i64 20] 94) := ⟨_, rfl⟩
          have HB7 : Hid (Blk W7 wr.heap.size [.int .i64 11, .int .i64 1, .int .i64 20] 94) := Lib.hid (by rw [hW7]; exact Blk.new wr _ _)
          have HM7 : Hid (Mods None wr W7) := Lib.hid (by rw [hW7]; exact (Mods.refl _ _).alloc _)
          go_wp2_with fail
          rw [← hW7]
          have c4 := HM7.out.cellOf c4 (fun f => f)
          clear p0 p1 p2 hW7
          have q0 : W7.cell? ⟨wr.heap.size, 0, none⟩ = some (.int .i64 11) := HB7.out.cell rfl
          have q1 : W7.cell? ⟨wr.heap.size, 1, none⟩ = some (.int .i64 1) := HB7.out.cell rfl
          have q2 : W7.cell? ⟨wr.heap.size, 2, none⟩ = some (.int .i64 20) := HB7.out.cell rfl
          go_wp2_with fail
          go_loopw [6, 86] (fun u v w8 => ∃ i : Nat, i ≤ 1 ∧ v = .int .i64 i ∧ u = .int .u32 ((l + rd * 128 + hi * 33554432 + n / 4096 % 256 * 4096 + n / 2048 % 2 ^ i * 1048576) % 4294967296) ∧ w8 = W7) (fun _ v _ => (1 - intOf v).toNat)
          case atStart => exact ⟨0, by omega, rfl, by simp, rfl⟩
          case round =>
            obtain ⟨i, hi, rfl, rfl, rfl⟩ := hrel
            have hcase : i = 0 ∨ i = 1 := by omega
            rcases hcase with rfl | rfl
            · by_cases hb : (n / 2048) % 2 = 1
              · have hbt : (bits BinOp.and IntKind.i64 (n / 2048) 1 == 1) = true := by rw [and_one]; simpa using hb
                go_wp2_with fail
                go_roundw
                case rel => exact ⟨1, by omega, rfl, by simp; omega, by trivial⟩
                case measure => simp [intOf]
              · have hbt : (bits BinOp.and IntKind.i64 (n / 2048) 1 == 1) = false := by rw [and_one]; simpa using hb
                go_wp2_with fail
                go_roundw
                case rel => exact ⟨1, by omega, rfl, by simp; omega, by trivial⟩
                case measure => simp [intOf]
            · go_wp2_with fail
              go_roundw
              case rel => exact ⟨2, by omega, rfl, by simp, Lib.hid (hmw.out.trans HM7.out)⟩
              case measure => simp [intOf]
        · have p0 : wr.cell? ⟨(W4.iter ⟨#[100]⟩ 1).heap.size, 6, none⟩ = some (.int .i64 1) := (HP.out.mods hmw.out (fun f => f)).cell rfl
          have p1 : wr.cell? ⟨(W4.iter ⟨#[100]⟩ 1).heap.size, 7, none⟩ = some (.int .i64 10) := (HP.out.mods hmw.out (fun f => f)).cell rfl
          have p2 : wr.cell? ⟨(W4.iter ⟨#[100]⟩ 1).heap.size, 8, none⟩ = some (.int .i64 21) := (HP.out.mods hmw.out (fun f => f)).cell rfl
          obtain ⟨W7, hW7⟩ : ∃ W7, W7 = wr.alloc (.cells #[.int .i64 1, .int .i64 10, .int .i64 21] 94) := ⟨_, rfl⟩
          have HB7 : Hid (Blk W7 wr.heap.size [.int .i64 1, .int .i64 10, .int .i64 21] 94) := Lib.hid (by rw [hW7]; exact Blk.new wr _ _)
          have HM7 : Hid (Mods None wr W7) := Lib.hid (by rw [hW7]; exact (Mods.refl _ _).alloc _)
          go_wp2_with fail
          rw [← hW7]
          have c4 := HM7.out.cellOf c4 (fun f => f)
          clear p0 p1 p2 hW7
          have q0 : W7.cell? ⟨wr.heap.size, 0, none⟩ = some (.int .i64 1) := HB7.out.cell rfl
          have q1 : W7.cell? ⟨wr.heap.size, 1, none⟩ = some (.int .i64 10) := HB7.out.cell rfl
          have q2 : W7.cell? ⟨wr.heap.size, 2, none⟩ = some (.int .i64 21) := HB7.out.cell rfl
          go_wp2_with fail
          go_loopw [6, 86] (fun u v w8 => ∃ i : Nat, i ≤ 10 ∧ v = .int .i64 i ∧ u = .int .u32 ((l + rd * 128 + hi * 33554432 + n / 4096 % 256 * 4096 + n / 2048 % 2 * 1048576 + n / 2 % 2 ^ i * 2097152) % 4294967296) ∧ w8 = W7) (fun _ v _ => (10 - intOf v).toNat)
          case atStart => exact ⟨0, by omega, rfl, by simp, rfl⟩
          case round =>
            obtain ⟨i, hi, rfl, rfl, rfl⟩ := hrel
            have hcase : i = 0 ∨ i = 1 ∨ i = 2 ∨ i = 3 ∨ i = 4 ∨ i = 5 ∨ i = 6 ∨ i = 7 ∨ i = 8 ∨ i = 9 ∨ i = 10 := by omega
            rcases hcase with rfl | rfl | rfl | rfl | rfl | rfl | rfl | rfl | rfl | rfl | rfl
            · by_cases hb : (n / 2) % 2 = 1
              · have hbt : (bits BinOp.and IntKind.i64 (n / 2) 1 == 1) = true := by rw [and_one]; simpa using hb
                go_wp2_with fail
                go_roundw
                case rel => exact ⟨1, by omega, rfl, by simp; omega, by trivial⟩
                case measure => simp [intOf]
              · have hbt : (bits BinOp.and IntKind.i64 (n / 2) 1 == 1) = false := by rw [and_one]; simpa using hb
                go_wp2_with fail
                go_roundw
                case rel => exact ⟨1, by omega, rfl, by simp; omega, by trivial⟩
                case measure => simp [intOf]
            · by_cases hb : (n / 4) % 2 = 1
              · have hbt : (bits BinOp.and IntKind.i64 (n / 4) 1 == 1) = true := by rw [and_one]; simpa using hb
                go_wp2_with fail
                go_roundw
                case rel => exact ⟨2, by omega, rfl, by simp; omega, by trivial⟩
                case measure => simp [intOf]
              · have hbt : (bits BinOp.and IntKind.i64 (n / 4) 1 == 1) = false := by rw [and_one]; simpa using hb
                go_wp2_with fail
                go_roundw
                case rel => exact ⟨2, by omega, rfl, by simp; omega, by trivial⟩
                case measure => simp [intOf]
            · by_cases hb : (n / 8) % 2 = 1
              · have hbt : (bits BinOp.and IntKind.i64 (n / 8) 1 == 1) = true := by rw [and_one]; simpa using hb
                go_wp2_with fail
                go_roundw
                case rel => exact ⟨3, by omega, rfl, by simp; omega, by trivial⟩
                case measure => simp [intOf]
              · have hbt : (bits BinOp.and IntKind.i64 (n / 8) 1 == 1) = false := by rw [and_one]; simpa using hb
                go_wp2_with fail
                go_roundw
                case rel => exact ⟨3, by omega, rfl, by simp; omega, by trivial⟩
                case measure => simp [intOf]
            · by_cases hb : (n / 16) % 2 = 1
              · have hbt : (bits BinOp.and IntKind.i64 (n / 16) 1 == 1) = true := by rw [and_one]; simpa using hb
                go_wp2_with fail
                go_roundw
                case rel => exact ⟨4, by omega, rfl, by simp; omega, by trivial⟩
                case measure => simp [intOf]
              · have hbt : (bits BinOp.and IntKind.i64 (n / 16) 1 == 1) = false := by rw [and_one]; simpa using hb
                go_wp2_with fail
                go_roundw
                case rel => exact ⟨4, by omega, rfl, by simp; omega, by trivial⟩
                case measure => simp [intOf]
            · by_cases hb : (n / 32) % 2 = 1
              · have hbt : (bits BinOp.and IntKind.i64 (n / 32) 1 == 1) = true := by rw [and_one]; simpa using hb
                go_wp2_with fail
                go_roundw
                case rel => exact ⟨5, by omega, rfl, by simp; omega, by trivial⟩
                case measure => simp [intOf]
              · have hbt : (bits BinOp.and IntKind.i64 (n / 32) 1 == 1) = false := by rw [and_one]; simpa using hb
                go_wp2_with fail
                go_roundw
                case rel => exact ⟨5, by omega, rfl, by simp; omega, by trivial⟩
                case measure => simp [intOf]
            · by_cases hb : (n / 64) % 2 = 1
              · have hbt : (bits BinOp.and IntKind.i64 (n / 64) 1 == 1) = true := by rw [and_one]; simpa using hb
                go_wp2_with fail
                go_roundw
                case rel => exact ⟨6, by omega, rfl, by simp; omega, by trivial⟩
                case measure => simp [intOf]
              · have hbt : (bits BinOp.and IntKind.i64 (n / 64) 1 == 1) = false := by rw [and_one]; simpa using hb
                go_wp2_with fail
                go_roundw
                case rel => exact ⟨6, by omega, rfl, by simp; omega, by trivial⟩
                case measure => simp [intOf]
            · by_cases hb : (n / 128) % 2 = 1
              · have hbt : (bits BinOp.and IntKind.i64 (n / 128) 1 == 1) = true := by rw [and_one]; simpa using hb
                go_wp2_with fail
                go_roundw
                case rel => exact ⟨7, by omega, rfl, by simp; omega, by trivial⟩
                case measure => simp [intOf]
              · have hbt : (bits BinOp.and IntKind.i64 (n / 128) 1 == 1) = false := by rw [and_one]; simpa using hb
                go_wp2_with fail
                go_roundw
                case rel => exact ⟨7, by omega, rfl, by simp; omega, by trivial⟩
                case measure => simp [intOf]
            · by_cases hb : (n / 256) % 2 = 1
              · have hbt : (bits BinOp.and IntKind.i64 (n / 256) 1 == 1) = true := by rw [and_one]; simpa using hb
                go_wp2_with fail
                go_roundw
                case rel => exact ⟨8, by omega, rfl, by simp; omega, by trivial⟩
                case measure => simp [intOf]
              · have hbt : (bits BinOp.and IntKind.i64 (n / 256) 1 == 1) = false := by rw [and_one]; simpa using hb
                go_wp2_with fail
                go_roundw
                case rel => exact ⟨8, by omega, rfl, by simp; omega, by trivial⟩
                case measure => simp [intOf]
            · by_cases hb : (n / 512) % 2 = 1
              · have hbt : (bits BinOp.and IntKind.i64 (n / 512) 1 == 1) = true := by rw [and_one]; simpa using hb
                go_wp2_with fail
                go_roundw
                case rel => exact ⟨9, by omega, rfl, by simp; omega, by trivial⟩
                case measure => simp [intOf]
              · have hbt : (bits BinOp.and IntKind.i64 (n / 512) 1 == 1) = false := by rw [and_one]; simpa using hb
                go_wp2_with fail
                go_roundw
                case rel => exact ⟨9, by omega, rfl, by simp; omega, by trivial⟩
                case measure => simp [intOf]
            · by_cases hb : (n / 1024) % 2 = 1
              · have hbt : (bits BinOp.and IntKind.i64 (n / 1024) 1 == 1) = true := by rw [and_one]; simpa using hb
                go_wp2_with fail
                go_roundw
                case rel => exact ⟨10, by omega, rfl, by simp; omega, by trivial⟩
                case measure => simp [intOf]
              · have hbt : (bits BinOp.and IntKind.i64 (n / 1024) 1 == 1) = false := by rw [and_one]; simpa using hb
                go_wp2_with fail
                go_roundw
                case rel => exact ⟨10, by omega, rfl, by simp; omega, by trivial⟩
                case measure => simp [intOf]
            · go_wp2_with fail
              go_roundw
              case rel => exact ⟨3, by omega, rfl, by simp, Lib.hid (hmw.out.trans HM7.out)⟩
              case measure => simp [intOf]
        · have p0 : wr.cell? ⟨(W4.iter ⟨#[100]⟩ 1).heap.size, 9, none⟩ = some (.int .i64 20) := (HP.out.mods hmw.out (fun f => f)).cell rfl
          have p1 : wr.cell? ⟨(W4.iter ⟨#[100]⟩ 1).heap.size, 10, none⟩ = some (.int .i64 1) := (HP.out.mods hmw.out (fun f => f)).cell rfl
          have p2 : wr.cell? ⟨(W4.iter ⟨#[100]⟩ 1).heap.size, 11, none⟩ = some (.int .i64 31) := (HP.out.mods hmw.out (fun f => f)).cell rfl
          obtain ⟨W7, hW7⟩ : ∃ W7, W7 = wr.alloc (.cells #[.int .i64 20, .int .i64 1, .int .i64 31] 94) := ⟨_, rfl⟩
          have HB7 : Hid (Blk W7 wr.heap.size [.int .i64 20, .int .i64 1, .int .i64 31] 94) := Lib.hid (by rw [hW7]; exact Blk.new wr _ _)
          have HM7 : Hid (Mods None wr W7) := Lib.hid (by rw [hW7]; exact (Mods.refl _ _).alloc _)
          go_wp2_with fail
          rw [← hW7]
          have c4 := HM7.out.cellOf c4 (fun f => f)
          clear p0 p1 p2 hW7
          have q0 : W7.cell? ⟨wr.heap.size, 0, none⟩ = some (.int .i64 20) := HB7.out.cell rfl
          have q1 : W7.cell? ⟨wr.heap.size, 1, none⟩ = some (.int .i64 1) := HB7.out.cell rfl
          have q2 : W7.cell? ⟨wr.heap.size, 2, none⟩ = some (.int .i64 31) := HB7.out.cell rfl
          go_wp2_with fail
          go_loopw [6, 86] (fun u v w8 => ∃ i : Nat, i ≤ 1 ∧ v = .int .i64 i ∧ u = .int .u32 ((l + rd * 128 + hi * 33554432 + n / 4096 % 256 * 4096 + n / 2048 % 2 * 1048576 + n / 2 % 1024 * 2097152 + n / 1048576 % 2 ^ i * 2147483648) % 4294967296) ∧ w8 = W7) (fun _ v _ => (1 - intOf v).toNat)
          case atStart => exact ⟨0, by omega, rfl, by simp, rfl⟩
          case round =>
            obtain ⟨i, hi, rfl, rfl, rfl⟩ := hrel
            have hcase : i = 0 ∨ i = 1 := by omega
            rcases hcase with rfl | rfl
            · by_cases hb : (n / 1048576) % 2 = 1
              · have hbt : (bits BinOp.and IntKind.i64 (n / 1048576) 1 == 1) = true := by rw [and_one]; simpa using hb
                go_wp2_with fail
                go_roundw
                case rel => exact ⟨1, by omega, rfl, by simp; omega, by trivial⟩
                case measure => simp [intOf]
              · have hbt : (bits BinOp.and IntKind.i64 (n / 1048576) 1 == 1) = false := by rw [and_one]; simpa using hb
                go_wp2_with fail
                go_roundw
                case rel => exact ⟨1, by omega, rfl, by simp; omega, by trivial⟩
                case measure => simp [intOf]
            · go_wp2_with fail
              go_roundw
              case rel => exact ⟨4, by omega, rfl, by simp, Lib.hid (hmw.out.trans HM7.out)⟩
              case measure => simp [intOf]
        · go_wp2_with fail
          go_ret2
          refine ⟨ret_word ?_, HALL.out⟩
          have hvo := HV.out
          omega
theorem word_69 (p rd ra rb n l m hi : Int) (h1 : 1 ≤ p) (h2 : p ≤ 31) (hk : kindOf p = 69) (hr : (Ins.mk p rd ra rb n).right = true) (hl : l = lowOf p) (hm : m = midOf p) (hh : hi = highOf p) :
    (Ins.mk p rd ra rb n).word = (l + hi * 33554432) % 4294967296 := by
  have tab := (tab_ok p h1 h2).1
  rw [hk, ← hl, ← hm, ← hh] at tab
  simp [Ins.right, hk, rightB, bodyB, regB, h1, h2] at hr
  obtain ⟨t1, t2⟩ := tab.hl
  obtain ⟨t3, t4⟩ := tab.hm
  obtain ⟨t5, t6⟩ := tab.hh
  have t7 := tab.he
  have t8 := tab.hz
  have t9 : hi = 0 := by rw [hh]; exact high_zero p h1 h2 (by omega) (by omega)
  simp only [Ins.word]
  rw [hk, ← hl, ← hm, ← hh, raw_69 l m rd ra rb n hi tab.hl tab.hm (by omega) (by omega) (by omega) tab.hh]
  omega
set_option maxRecDepth 100000 in
set_option maxHeartbeats 1000000 in
theorem enc_69 (x : Ins) (W : World) (hr : x.right = true) (h1 : 1 ≤ x.op) (h2 : x.op ≤ 31) (hk : kindOf x.op = 69) : Calls Tryz.prog 20 #[x.val] W fun e W' => e = .returned (.tuple #[.int .u32 x.word, .int .i64 0]) ∧ Mods None W W' := by
  obtain ⟨p, rd, ra, rb, n⟩ := x
  simp only at h1 h2 hk
  obtain ⟨W1, hW1⟩ : ∃ W1, W1 = W.alloc (.cells (instCells p rd ra rb n) 30) := ⟨_, rfl⟩
  have F1 : Hid (Five W1 W.heap.size p rd ra rb n) := Lib.hid (by rw [hW1]; exact five_new W _ _ _ _ _ 30)
  have HM : Hid (Mods None W W1) := Lib.hid (by rw [hW1]; exact (Mods.refl _ _).alloc _)
  have HRR := right_ref ⟨p, rd, ra, rb, n⟩ W1
  rw [hr] at HRR
  have HR := Lib.hid HRR
  clear HRR
  simp only [Ins.val] at HR ⊢
  obtain ⟨l, hl⟩ : ∃ l, l = lowOf p := ⟨_, rfl⟩
  obtain ⟨m, hm⟩ : ∃ m, m = midOf p := ⟨_, rfl⟩
  obtain ⟨hi, hh⟩ : ∃ hi, hi = highOf p := ⟨_, rfl⟩
  obtain ⟨nm, hn⟩ : ∃ nm, nm = nameOf p := ⟨_, rfl⟩
  have HF : ∀ W, Hid (Calls Tryz.prog 38 #[.int .i64 p] W fun e W' => e = .returned (.tuple #[.agg #[.int .u8 69, .int .u32 l, .int .u32 m, .int .u32 hi, .string nm], .bool true]) ∧ Mods None W W') := fun W => Lib.hid (by
    have := form_parts p h1 h2 W
    rw [hk, ← hl, ← hm, ← hh, ← hn] at this
    exact this)
  obtain ⟨v, hv⟩ : ∃ v, v = Ins.word ⟨p, rd, ra, rb, n⟩ := ⟨_, rfl⟩
  have HV : Hid (v = (l + hi * 33554432) % 4294967296) := Lib.hid (by
    rw [hv]
    exact word_69 p rd ra rb n l m hi h1 h2 hk hr hl hm hh)
  rw [← hv]
  have HL : Hid (0 ≤ l ∧ l < 128) := Lib.hid (by have t := (tab_ok p h1 h2).1.hl; rw [← hl] at t; exact t)
  clear hl hm hh hn hk hv h1 h2 hr
  obtain ⟨c0, c1, c2, c3, c4, cf⟩ := F1.out
  go_enter Tryz.func20, Tryz.ntmps20
  go_wp2_with fail
  rw [← hW1]
  clear hW1
  refine HR.out.mono ?_
  rintro e w2 ⟨rfl, hm2⟩
  have HM2 := Lib.hid hm2
  have c0 := hm2.cellOf c0 (fun f => f)
  have c1 := hm2.cellOf c1 (fun f => f)
  have c2 := hm2.cellOf c2 (fun f => f)
  have c3 := hm2.cellOf c3 (fun f => f)
  have c4 := hm2.cellOf c4 (fun f => f)
  clear hm2 cf
  go_wp2_with fail
  refine (HF w2).out.mono ?_
  rintro e w3 ⟨rfl, hm3⟩
  obtain ⟨W4, hW4⟩ : ∃ W4, W4 = w3.alloc (.cells #[.int .u8 69, .int .u32 l, .int .u32 m, .int .u32 hi, .string nm] 87) := ⟨_, rfl⟩
  have HM4 : Hid (Mods None w2 W4) := Lib.hid (by rw [hW4]; exact hm3.alloc _)
  have HB4 : Hid (Blk W4 w3.heap.size [.int .u8 69, .int .u32 l, .int .u32 m, .int .u32 hi, .string nm] 87) := Lib.hid (by rw [hW4]; exact Blk.new w3 _ _)
  clear c0
  go_wp2_with fail
  rw [← hW4]
  clear hW4 hm3
  have f0 : W4.cell? ⟨w3.heap.size, 0, none⟩ = some (.int .u8 69) := HB4.out.cell rfl
  have f1 : W4.cell? ⟨w3.heap.size, 1, none⟩ = some (.int .u32 l) := HB4.out.cell rfl
  have f2 : W4.cell? ⟨w3.heap.size, 2, none⟩ = some (.int .u32 m) := HB4.out.cell rfl
  have f3 : W4.cell? ⟨w3.heap.size, 3, none⟩ = some (.int .u32 hi) := HB4.out.cell rfl
  have c1 := HM4.out.cellOf c1 (fun f => f)
  have c2 := HM4.out.cellOf c2 (fun f => f)
  have c3 := HM4.out.cellOf c3 (fun f => f)
  have c4 := HM4.out.cellOf c4 (fun f => f)
  go_wp2_with (go_at_call 41; refine (has_69 _).mono ?_; rintro e w' ⟨rfl, rfl⟩)
  go_loopw [6] (fun v wr => ∃ i : Nat, i ≤ 0 ∧ v = .int .u32 ((l) % 4294967296) ∧ wr = W4.iter ⟨#[]⟩ i) (fun _ wr => 0 - wr.iterPos W4.heap.size)
  case atStart => exact ⟨0, by omega, by have hl := HL.out; simp; omega, rfl⟩
  case round =>
    obtain ⟨i, hi3, rfl, rfl⟩ := hrel
    have HI : ∀ i, Hid (Mods None W4 (W4.iter ⟨#[]⟩ i)) := fun i => Lib.hid ((Mods.refl _ _).alloc _)
    have hcase : i = 0 := by omega
    rcases hcase with rfl
    · have hnx : ∀ ty, (Instr.next (.pointer (some ⟨W4.heap.size, 0, none⟩)) true ty).run Tryz.prog (W4.iter ⟨#[]⟩ 0) = .ok (.tuple #[.bool false]) (W4.iter ⟨#[]⟩ 0) := fun _ => run_next_end W4 _ 0 _ (by decide)
      have f0 := (HI 0).out.cellOf f0 (fun f => f)
      have f3 := (HI 0).out.cellOf f3 (fun f => f)
      have c4 := (HI 0).out.cellOf c4 (fun f => f)
      go_wp2_with (go_at_call 42; refine (pieces_69 _).mono ?_; rintro e w' ⟨rfl, rfl⟩)
      go_loopw [6, 80] (fun u v wr => v = .int .i64 0 ∧ u = .int .u32 ((l + hi * 33554432) % 4294967296) ∧ wr = W4.iter ⟨#[]⟩ 0) (fun _ _ _ => 0)
      case atStart => exact ⟨rfl, by simp, rfl⟩
      case round =>
        obtain ⟨rfl, rfl, rfl⟩ := hrel
        have HALL : Hid (Mods None W (W4.iter ⟨#[]⟩ 0)) := Lib.hid (((HM.out.trans HM2.out).trans HM4.out).trans (HI 0).out)
        go_wp2_with fail
        go_ret2
        refine ⟨ret_word ?_, HALL.out⟩
        have hvo := HV.out
        omega
set_option maxRecDepth 100000 in
theorem enc_not (x : Ins) (W : World) (hr : x.right = false) : Calls Tryz.prog 20 #[x.val] W fun e W' => e = .returned (.tuple #[.int .u32 0, .int .i64 1]) ∧ Mods None W W' := by
  obtain ⟨p, rd, ra, rb, n⟩ := x
  obtain ⟨W1, hW1⟩ : ∃ W1, W1 = W.alloc (.cells (instCells p rd ra rb n) 30) := ⟨_, rfl⟩
  have F1 : Hid (Five W1 W.heap.size p rd ra rb n) := Lib.hid (by rw [hW1]; exact five_new W _ _ _ _ _ 30)
  have HM : Hid (Mods None W W1) := Lib.hid (by rw [hW1]; exact (Mods.refl _ _).alloc _)
  have HRR := right_ref ⟨p, rd, ra, rb, n⟩ W1
  rw [hr] at HRR
  have HR := Lib.hid HRR
  clear HRR
  simp only [Ins.val] at HR ⊢
  clear hr
  obtain ⟨c0, c1, c2, c3, c4, cf⟩ := F1.out
  go_enter Tryz.func20, Tryz.ntmps20
  go_wp2_with fail
  rw [← hW1]
  clear hW1
  refine HR.out.mono ?_
  rintro e w2 ⟨rfl, hm2⟩
  have HM2 := Lib.hid hm2
  clear hm2 c0 c1 c2 c3 c4 cf
  go_wp2_with fail
  go_ret2
  exact ⟨rfl, HM.out.trans HM2.out⟩
theorem enc_ref (x : Ins) (W : World) (hr : x.right = true) : Calls Tryz.prog 20 #[x.val] W fun e W' => e = .returned (.tuple #[.int .u32 x.word, .int .i64 0]) ∧ Mods None W W' := by
  have h : 1 ≤ x.op ∧ x.op ≤ 31 := by
    simp [Ins.right, rightB] at hr
    omega
  rcases (tab_ok x.op h.1 h.2).2 with k | k | k | k | k | k | k | ⟨k, _⟩
  · exact enc_82 x W hr h.1 h.2 k
  · exact enc_73 x W hr h.1 h.2 k
  · exact enc_72 x W hr h.1 h.2 k
  · exact enc_83 x W hr h.1 h.2 k
  · exact enc_66 x W hr h.1 h.2 k
  · exact enc_85 x W hr h.1 h.2 k
  · exact enc_74 x W hr h.1 h.2 k
  · exact enc_69 x W hr h.1 h.2 k
end Go.Proofs.YtodgkbcgdbhpeaaGreatDoor.RefP

/- The machine's bytes: contracts of machine.right, fault, Load, of any machine that lies in memory. Conditions: that it does. -/
import Derived.Test.YtgeajgdddjjjnaaDoorRows
import Derived.Test.YtgeajgdddjjjnaaDoorMods
import Derived.Test.YtgeajgdddjjjnaaDoorMachBytes
import Derived.WalkKit
import Derived.ProofKit
import Derived.WalkSpells
import Derived.WalkLawsBesides
import Derived.Lib.Hide
import Derived.Deep.QuietTactic
import Derived.BigQuiet
import Derived.BigRegion
import Derived.RegionTactic
import Derived.Deep.RegionHeld3
import Derived.Deep.RegionWith
import Derived.Deep.DeepCutAuto
import Derived.StillTailTactics
import Derived.Outline
import Derived.IntWalk
namespace Go.Proofs.YtgeajgdddjjjnaaDoor.MachP
open Go.RowKit Go.Proofs.YtgeajgdddjjjnaaDoor.Wo
set_option linter.unusedVariables false
set_option linter.unusedSimpArgs false

theorem ret_bool {a b : Bool} (h : a = b) : Ending.returned (.bool a) = .returned (.bool b) := by rw [h]
set_option maxHeartbeats 400000 in
theorem right_any (b bm len : Nat) (p n : Int) (W : World) (hc : W.cell? ⟨b, 32, none⟩ = some (.slice (some ⟨bm, 0, none⟩) len len)) (hlen : len ≤ 65536) (hn : n = 4 ∨ n = 8) :
    Calls Tryd.prog 40 #[.pointer (some ⟨b, 0, none⟩), .int .i64 p, .int .i64 n] W fun e w' => e = .returned (.bool (rightM len p n)) ∧ W = w' := by
  by_cases h1 : 0 ≤ p
  · by_cases h2 : p ≤ (len : Int) - n
    all_goals
      rcases hn with rfl | rfl
      all_goals
        go_enter Tryd.func40, Tryd.ntmps40
        go_wp2
        go_ret
        refine ⟨ret_bool ?_, rfl⟩
        simp [rightM, h1, h2] <;> (intros; omega)
  · rcases hn with rfl | rfl
    all_goals
      go_enter Tryd.func40, Tryd.ntmps40
      go_wp2
      go_ret
      refine ⟨ret_bool ?_, rfl⟩
      simp [rightM, h1] <;> (intros; omega)
theorem fault_any (b : Nat) (v : Value) (W : World) (hc : W.cell? ⟨b, 35, none⟩ = some v) (hf : W.frozen? ⟨b, 35, none⟩ = false) :
    Calls Tryd.prog 41 #[.pointer (some ⟨b, 0, none⟩)] W fun e w' => e = .returned (.tuple #[]) ∧ w' = W.setCell ⟨b, 35, none⟩ (.int .i64 9) := by
  go_enter Tryd.func41, Tryd.ntmps41
  go_wp2
  go_end0
  exact ⟨rfl, rfl⟩
set_option maxHeartbeats 400000 in
theorem load_no (b bm len : Nat) (p : Int) (W : World) (hc : W.cell? ⟨b, 32, none⟩ = some (.slice (some ⟨bm, 0, none⟩) len len)) (hlen : len ≤ 65536) (hr : rightM len p 8 = false) :
    Calls Tryd.prog 16 #[.pointer (some ⟨b, 0, none⟩), .int .i64 p] W fun e w' => e = .returned (.tuple #[.int .i64 0, .iface 54 (.int .i64 2)]) ∧ W = w' := by
  have H := right_any b bm len p 8 W hc hlen (.inr rfl)
  rw [hr] at H
  go_enter Tryd.func16, Tryd.ntmps16
  go_wp2_with (go_at_call 40; refine H.mono ?_; rintro e w' ⟨rfl, rfl⟩)
  go_ret2
  exact ⟨rfl, rfl⟩
set_option maxHeartbeats 400000 in
theorem load_yes (b bm len : Nat) (mem : List Int) (p : Int) (W : World) (hc : W.cell? ⟨b, 32, none⟩ = some (.slice (some ⟨bm, 0, none⟩) len len)) (hlen : len ≤ 65536) (hr : rightM len p 8 = true)
    (hm : Blk W bm (mem.map (.int .u8)) 5) (hl : mem.length = len) (hb : ∀ x ∈ mem, 0 ≤ x ∧ x < 256) :
    Calls Tryd.prog 16 #[.pointer (some ⟨b, 0, none⟩), .int .i64 p] W fun e w' => e = .returned (.tuple #[.int .i64 (wrap64 (le ((mem.drop p.toNat).take 8))), .nilIface]) ∧ W = w' := by
  have H := right_any b bm len p 8 W hc hlen (.inr rfl)
  rw [hr] at H
  obtain ⟨hp0, hp1, _⟩ := rightM_parts hr
  obtain ⟨q, rfl⟩ := Int.eq_ofNat_of_zero_le hp0
  have HL := Lib.hid hl
  have HB := Lib.hid hb
  have HM := Lib.hid hm
  clear hl hb hm hr
  rw [Int.toNat_natCast]
  obtain ⟨bs, hbs⟩ : ∃ bs, bs = (mem.drop q).take 8 := ⟨_, rfl⟩
  have HBS := Lib.hid hbs
  rw [← hbs]
  clear hbs
  go_enter Tryd.func16, Tryd.ntmps16
  go_wp2_with (go_at_call 40; refine H.mono ?_; rintro e w' ⟨rfl, rfl⟩)
  have hlen8 : bs.length = 8 := by rw [HBS.out]; exact part_length (by rw [HL.out]; omega)
  have HN : Hid (bs.length = 8) := Lib.hid hlen8
  have HBB : Hid (∀ x ∈ bs, 0 ≤ x ∧ x < 256) := Lib.hid (by rw [HBS.out]; exact mem_part HB.out)
  clear hlen8
  go_loop [6, 7] (fun u i => ∃ j : Nat, j ≤ 8 ∧ i = .int .i64 ((j : Int) - 1) ∧ u = .int .u64 (le (bs.drop j))) (fun _ i => (intOf i + 1).toNat)
  case atStart => exact ⟨8, by omega, rfl, by rw [List.drop_of_length_le (by rw [HN.out]; exact Nat.le_refl _)]; rfl⟩
  case round =>
    obtain ⟨j, hj, rfl, rfl⟩ := hrel
    by_cases h0 : 1 ≤ j
    · have hcell : W.cell? ⟨bm, q + (j - 1), none⟩ = some (.int .u8 (mem.getD (q + (j - 1)) 0)) := HM.out.cell (by rw [List.getElem?_map, getD_some (by rw [HL.out]; omega)]; rfl)
      have hx := HB.out _ (getD_mem (l := mem) (i := q + (j - 1)) (by rw [HL.out]; omega))
      have hs := le_small (l := bs.drop j) (fun x hx => HBB.out x (List.mem_of_mem_drop hx)) (k := 7) (by rw [List.length_drop, HN.out]; omega)
      have HD : Hid (le (bs.drop (j - 1)) = bits .or .u64 (IntKind.u64.wrap (le (bs.drop j) * 256)) (mem.getD (q + (j - 1)) 0)) := Lib.hid (by
        rw [or_byte hs.1 hs.2 hx, le_drop h0 (by rw [HN.out]; exact hj)]
        congr 1
        have := part_getD (l := mem) (q := q) (n := 8) (j := j - 1) (by omega)
        rw [← HBS.out] at this
        exact this)
      have HW : Hid (IntKind.u64.wrap (mem[q + (j - 1)]?.getD 0) = mem[q + (j - 1)]?.getD 0) := Lib.hid (by rw [← List.getD_eq_getElem?_getD, IntKind.wrap_u64]; omega)
      clear hx hs
      go_wp2
      go_round
      case rel => exact ⟨j - 1, by omega, by go_num, by rw [HD.out, HW.out, List.getD_eq_getElem?_getD]⟩
      case measure => simp [intOf]; omega
    · obtain rfl : j = 0 := by omega
      go_wp2
      go_ret2
      exact ⟨rfl, rfl⟩
end Go.Proofs.YtgeajgdddjjjnaaDoor.MachP

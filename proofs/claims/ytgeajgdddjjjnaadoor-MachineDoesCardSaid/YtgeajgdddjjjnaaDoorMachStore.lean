/- The machine's bytes: a contract of machine.Store, of any machine that lies in memory. Conditions: that it does. -/
import Derived.Test.YtgeajgdddjjjnaaDoorMachLow
namespace Go.Proofs.YtgeajgdddjjjnaaDoor.MachP
open Go.RowKit Go.Proofs.YtgeajgdddjjjnaaDoor.Wo
set_option linter.unusedVariables false
set_option linter.unusedSimpArgs false

set_option maxHeartbeats 400000 in
theorem store_no (b bm len : Nat) (p v : Int) (W : World) (hc : W.cell? ⟨b, 32, none⟩ = some (.slice (some ⟨bm, 0, none⟩) len len)) (hlen : len ≤ 65536) (hr : rightM len p 8 = false) :
    Calls Tryd.prog 17 #[.pointer (some ⟨b, 0, none⟩), .int .i64 p, .int .i64 v] W fun e w' => e = .returned (.iface 54 (.int .i64 2)) ∧ W = w' := by
  have H := right_any b bm len p 8 W hc hlen (.inr rfl)
  rw [hr] at H
  go_enter Tryd.func17, Tryd.ntmps17
  go_wp2_with (go_at_call 40; refine H.mono ?_; rintro e w' ⟨rfl, rfl⟩)
  go_ret
  exact ⟨rfl, rfl⟩
theorem over_step {l : List Int} {q : Nat} {s : List Int} {j : Nat} (h : q + s.length ≤ l.length) (hj : j < s.length) : over l q (s.take (j + 1)) = (over l q (s.take j)).set (q + j) (s.getD j 0) := by
  have e1 : (s.take j).length = j := by rw [List.length_take]; omega
  have e2 : (s.take (j + 1)).length = j + 1 := by rw [List.length_take]; omega
  have e3 : (l.take q).length = q := by rw [List.length_take]; omega
  unfold over
  rw [e1, e2, List.append_assoc, List.append_assoc, List.set_append_right _ _ (by rw [e3]; omega), e3, Nat.add_sub_cancel_left, List.set_append_right _ _ (by rw [e1]; exact Nat.le_refl _), e1, Nat.sub_self,
    List.drop_eq_getElem_cons (show q + j < l.length by omega), List.set_cons_zero, List.take_succ_eq_append_getElem hj, List.append_assoc, List.getD_eq_getElem?_getD, List.getElem?_eq_getElem hj]
  rfl
theorem digits_getD : ∀ (k : Nat) (v : Int) (j : Nat), j < k → (digits k v).getD j 0 = v / 2 ^ (8 * j) % 256
  | 0, v, j, h => by omega
  | k + 1, v, 0, h => by simp [digits]
  | k + 1, v, j + 1, h => by
    have := digits_getD k (v / 256) j (by omega)
    simp only [digits, List.getD_cons_succ]
    rw [this, Int.ediv_ediv_of_nonneg (by decide)]
    congr 2
    rw [show 8 * (j + 1) = 8 + 8 * j by omega, Int.pow_add]
    rfl
set_option maxHeartbeats 400000 in
theorem store_yes (b bm len : Nat) (mem : List Int) (p v : Int) (W : World) (hc : W.cell? ⟨b, 32, none⟩ = some (.slice (some ⟨bm, 0, none⟩) len len)) (hlen : len ≤ 65536) (hr : rightM len p 8 = true)
    (hm : Blk W bm (mem.map (.int .u8)) 5) (hl : mem.length = len) (hne : b ≠ bm) :
    Calls Tryd.prog 17 #[.pointer (some ⟨b, 0, none⟩), .int .i64 p, .int .i64 v] W fun e w' => e = .returned .nilIface ∧
      Blk w' bm ((over mem p.toNat (digits 8 (v % 18446744073709551616))).map (.int .u8)) 5 ∧ Mods (· = bm) W w' := by
  have H := right_any b bm len p 8 W hc hlen (.inr rfl)
  rw [hr] at H
  obtain ⟨hp0, hp1, _⟩ := rightM_parts hr
  obtain ⟨q, rfl⟩ := Int.eq_ofNat_of_zero_le hp0
  have HL := Lib.hid hl
  have HM := Lib.hid hm
  have HC := Lib.hid hc
  clear hl hm hr
  rw [Int.toNat_natCast]
  obtain ⟨ds, hds⟩ : ∃ ds, ds = digits 8 (v % 18446744073709551616) := ⟨_, rfl⟩
  have HDS := Lib.hid hds
  rw [← hds]
  clear hds
  have HN : Hid (ds.length = 8) := Lib.hid (by rw [HDS.out, digits_length])
  go_enter Tryd.func17, Tryd.ntmps17
  go_wp2_with (go_at_call 40; refine H.mono ?_; rintro e w' ⟨rfl, rfl⟩)
  clear hc
  go_loopw [13] (fun i wr => ∃ j : Nat, j ≤ 8 ∧ i = .int .i64 j ∧ Hid (Blk wr bm ((over mem q (ds.take j)).map (.int .u8)) 5) ∧ Hid (Mods (· = bm) W wr)) (fun i _ => (8 - intOf i).toNat)
  case atStart => exact ⟨0, by omega, rfl, Lib.hid (by simpa [over] using HM.out), Lib.hid (Mods.refl _ _)⟩
  case round =>
    obtain ⟨j, hj, rfl, hblk, hmods⟩ := hrel
    by_cases h0 : j < 8
    · have hc : wr.cell? ⟨b, 32, none⟩ = some (.slice (some ⟨bm, 0, none⟩) len len) := hmods.out.cellOf HC.out hne
      have hcell : ∃ x, wr.cell? ⟨bm, q + j, none⟩ = some x := by
        have h1 : q + j < ((over mem q (ds.take j)).map (Value.int .u8)).length := by
          rw [List.length_map, over_length _ _ _ (by rw [List.length_take, HN.out, HL.out]; omega), HL.out]; omega
        exact ⟨_, hblk.out.cell (List.getElem?_eq_getElem h1)⟩
      obtain ⟨x, hcell⟩ := hcell
      have hfree := hblk.out.free (q + j)
      go_wp2
      go_region
      go_wp2
      have hx : ds.getD j 0 = IntKind.u64.wrap v / 2 ^ (8 * j) % 256 := by rw [HDS.out, digits_getD _ _ _ h0, IntKind.wrap_u64]
      go_roundw
      case rel =>
        refine ⟨j + 1, by omega, by go_num, Lib.hid ?_, Lib.hid ((hmods.out.setCell (fun _ => rfl) _).drew)⟩
        rw [over_step (by rw [HL.out, HN.out]; omega) (by rw [HN.out]; exact h0), hx, List.map_set]
        exact (hblk.out.set (q + j) _).drew
      case measure => simp [intOf]; omega
    · obtain rfl : j = 8 := by omega
      go_wp2
      go_ret
      exact ⟨rfl, by have := hblk.out; rw [List.take_of_length_le (by rw [HN.out]; exact Nat.le_refl _)] at this; exact this, hmods.out⟩
end Go.Proofs.YtgeajgdddjjjnaaDoor.MachP

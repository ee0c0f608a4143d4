/- What a new machine's memory says, word by word. No program in sight. No conditions. The reference's machine is made: contracts of bloomeryref.NewMachine. Conditions: that the words and what is given lie in memory. -/
import Derived.Test.YtgeajgdddjjjnaaDoorMachNew
import Derived.Test.YtgeajgdddjjjnaaDoorDoesSt
import Derived.Test.YtgeajgdddjjjnaaDoorDoesAt
namespace Go.Proofs.YtgeajgdddjjjnaaDoor.RMachP
open Go.RowKit Go.Proofs.YtgeajgdddjjjnaaDoor.WordP Go.Proofs.YtgeajgdddjjjnaaDoor.AluP Go.Proofs.YtgeajgdddjjjnaaDoor.MachP
set_option linter.unusedVariables false
set_option linter.unusedSimpArgs false
theorem wordBytes_drop : ∀ (ws : List Int) (j : Nat), (wordBytes ws).drop (4 * j) = wordBytes (ws.drop j)
  | [], j => by simp [wordBytes]
  | x :: ws, 0 => by simp
  | x :: ws, j + 1 => by
    have h := wordBytes_drop ws j
    have e : wordBytes (x :: ws) = digits 4 x ++ wordBytes ws := by simp [wordBytes]
    rw [e, List.drop_append, digits_length, List.drop_of_length_le (by rw [digits_length]; omega), List.nil_append, show 4 * (j + 1) - 4 = 4 * j by omega, h]
    rfl
theorem le_zeros : ∀ n, le (List.replicate n 0) = 0
  | 0 => rfl
  | n + 1 => by simp [List.replicate_succ, le, le_zeros n]
theorem le_word {x : Int} (h : 0 ≤ x ∧ x < 4294967296) : le (digits 4 x) = x := le_digits 4 x h.1 (by simpa using h.2)
theorem new_bytes (ws : List Int) (z : Nat) (hw : ∀ x ∈ ws, 0 ≤ x ∧ x < 4294967296) (hz : 8 ≤ 4 * ws.length + z) :
    le ((wordBytes ws ++ List.replicate z 0).take 8) = ws.getD 0 0 + 4294967296 * ws.getD 1 0 := by
  match ws with
  | [] =>
    simp only [wordBytes, List.flatMap_nil, List.nil_append, List.take_replicate, le_zeros]
    simp
  | [x] =>
    have hx := hw x (by simp)
    have e : (wordBytes [x] ++ List.replicate z 0).take 8 = digits 4 x ++ List.replicate 4 0 := by
      simp only [wordBytes, List.flatMap_cons, List.flatMap_nil, List.append_nil]
      rw [List.take_append, digits_length, List.take_of_length_le (by rw [digits_length]; omega), List.take_replicate]
      congr 2
      simp at hz
      omega
    rw [e, le_append, digits_length, le_word hx, le_zeros]
    simp
  | x :: y :: r =>
    have hx := hw x (by simp)
    have hy := hw y (by simp)
    have e : (wordBytes (x :: y :: r) ++ List.replicate z 0).take 8 = digits 4 x ++ digits 4 y := by
      simp only [wordBytes, List.flatMap_cons, List.append_assoc]
      rw [← List.append_assoc, List.take_append_of_le_length (by simp [digits_length]), List.take_of_length_le (by simp [digits_length])]
    rw [e, le_append, digits_length, le_word hx, le_word hy]
    simp
theorem new_load (ws l : List Int) (B : Nat) (hw : ∀ x ∈ ws, 0 ≤ x ∧ x < 4294967296) (hws : 4 * ws.length ≤ B) (a : Int) (h0 : 0 ≤ a) (h8 : a % 8 = 0) (ha : a + 8 ≤ B) :
    (Mac.new ws B l).load a = wrap64 (ws.getD (a.toNat / 4) 0 + 4294967296 * ws.getD (a.toNat / 4 + 1) 0) := by
  obtain ⟨q, rfl⟩ := Int.eq_ofNat_of_zero_le h0
  obtain ⟨j, rfl⟩ : ∃ j, q = 4 * j := ⟨q / 4, by omega⟩
  unfold Mac.load Mac.bytes
  simp only [Mac.new, Int.toNat_natCast]
  congr 1
  rw [List.drop_append, wordBytes_drop, wordBytes_length, List.drop_replicate, show 4 * j / 4 = j by omega]
  rw [new_bytes (ws.drop j) _ (fun x hx => hw x (List.mem_of_mem_drop hx)) (by rw [List.length_drop]; omega)]
  simp only [List.getD_eq_getElem?_getD, List.getElem?_drop, Nat.add_zero]
/-- The number that the reference keeps at a word's place. -/
theorem or_low {x : Int} (h : 0 ≤ x ∧ x < 4294967296) : bits .or .i64 0 (wrap64 (IntKind.u64.wrap x)) = x := by
  have e : wrap64 (IntKind.u64.wrap x) = x := by rw [IntKind.wrap_u64]; unfold wrap64; omega
  rw [e]
  show IntKind.i64.wrap ((BitVec.ofInt 64 0 ||| BitVec.ofInt 64 x).toNat : Int) = _
  have e1 : BitVec.ofInt 64 0 ||| BitVec.ofInt 64 x = BitVec.ofInt 64 x := by simp
  rw [e1, wrap_toInt, ofInt_toInt (by unfold I64; omega)]
theorem take_getD (ws : List Int) (i j : Nat) : (ws.take i).getD j 0 = if j < i then ws.getD j 0 else 0 := by
  simp only [List.getD_eq_getElem?_getD, List.getElem?_take]
  split <;> rfl
theorem or_high {x y : Int} (hx : 0 ≤ x ∧ x < 4294967296) (hy : 0 ≤ y ∧ y < 4294967296) : bits .or .i64 y (wrap64 (IntKind.u64.wrap (x * 4294967296))) = wrap64 (y + 4294967296 * x) := by
  obtain ⟨X, rfl⟩ := Int.eq_ofNat_of_zero_le hx.1
  obtain ⟨Y, rfl⟩ := Int.eq_ofNat_of_zero_le hy.1
  show IntKind.i64.wrap ((BitVec.ofInt 64 (Y : Int) ||| BitVec.ofInt 64 (wrap64 (IntKind.u64.wrap ((X : Int) * 4294967296)))).toNat : Int) = _
  have e0 : BitVec.ofInt 64 (wrap64 (IntKind.u64.wrap ((X : Int) * 4294967296))) = BitVec.ofNat 64 (X * 4294967296) := by
    apply BitVec.eq_of_toNat_eq
    rw [BitVec.toNat_ofInt, BitVec.toNat_ofNat, IntKind.wrap_u64]
    unfold wrap64
    omega
  have e1 : BitVec.ofInt 64 (Y : Int) = BitVec.ofNat 64 Y := BitVec.ofInt_natCast ..
  rw [e0, e1, BitVec.toNat_or, BitVec.toNat_ofNat, BitVec.toNat_ofNat, Nat.mod_eq_of_lt (by omega), Nat.mod_eq_of_lt (by omega)]
  have h := Nat.two_pow_add_eq_or_of_lt (i := 32) (b := Y) (by omega) X
  rw [Nat.or_comm, Nat.mul_comm X 4294967296, show (4294967296 : Nat) = 2 ^ 32 from rfl, ← h, wrap_i64]
  congr 1
  simp
  omega
theorem new_step (ws l : List Int) (B i : Nat) (x : Int) (hw : ∀ x ∈ ws, 0 ≤ x ∧ x < 4294967296) (hws : 4 * ws.length ≤ B) (hx : ws[i]? = some x) (a : Int) (h0 : 0 ≤ a) (h8 : a % 8 = 0) (ha : a + 8 ≤ B) (hK : 4 * (i : Int) / 8 * 8 + 8 ≤ B) :
    (if a = 4 * (i : Int) / 8 * 8 then bits .or .i64 ((Mac.new (ws.take i) B l).load (4 * (i : Int) / 8 * 8)) (wrap64 (IntKind.u64.wrap (x * 2 ^ (32 * (i % 2))))) else (Mac.new (ws.take i) B l).load a) = (Mac.new (ws.take (i + 1)) B l).load a := by
  have hil : i < ws.length := by
    rcases Nat.lt_or_ge i ws.length with h | h
    · exact h
    · rw [List.getElem?_eq_none h] at hx; cases hx
  have hxb := hw x (List.mem_of_getElem? hx)
  have hxi : ws.getD i 0 = x := by simp [hx]
  have hwt : ∀ k, ∀ x ∈ ws.take k, 0 ≤ x ∧ x < 4294967296 := fun k x h => hw x (List.mem_of_mem_take h)
  have hlt : ∀ k, 4 * (ws.take k).length ≤ B := fun k => by rw [List.length_take]; omega
  have hgb : ∀ j, 0 ≤ ws.getD j 0 ∧ ws.getD j 0 < 4294967296 := fun j => by
    rcases Nat.lt_or_ge j ws.length with h | h
    · exact hw _ (getD_mem h)
    · simp [List.getD_eq_getElem?_getD, List.getElem?_eq_none h]
  rw [new_load _ l B (hwt (i + 1)) (hlt (i + 1)) a h0 h8 ha]
  by_cases haK : a = 4 * (i : Int) / 8 * 8
  · rw [if_pos haK, new_load _ l B (hwt i) (hlt i) _ (by omega) (by omega) hK]
    rw [take_getD, take_getD, take_getD, take_getD]
    have hc : i % 2 = 0 ∨ i % 2 = 1 := by omega
    rcases hc with h | h
    · have e1 : (4 * (i : Int) / 8 * 8).toNat / 4 = i := by omega
      have e2 : a.toNat / 4 = i := by omega
      rw [e1, e2, h]
      simp only [Nat.lt_irrefl, if_false, show ¬ i + 1 < i by omega, show i < i + 1 by omega, if_true, hxi]
      have : wrap64 (0 + 4294967296 * 0) = 0 := by unfold wrap64; omega
      rw [this, show x * 2 ^ (32 * 0) = x by simp, or_low hxb]
      unfold wrap64; omega
    · have e1 : (4 * (i : Int) / 8 * 8).toNat / 4 = i - 1 := by omega
      have e2 : a.toNat / 4 = i - 1 := by omega
      rw [e1, e2, h, show i - 1 + 1 = i by omega]
      simp only [Nat.lt_irrefl, if_false, show i - 1 < i by omega, show i - 1 < i + 1 by omega, show i < i + 1 by omega, if_true, hxi]
      have hy := hgb (i - 1)
      generalize ws.getD (i - 1) 0 = y at *
      have : wrap64 (y + 4294967296 * 0) = y := by unfold wrap64; omega
      rw [this, show x * 2 ^ (32 * 1) = x * 4294967296 by simp, or_high hxb hy]
  · rw [if_neg haK, new_load _ l B (hwt i) (hlt i) a h0 h8 ha]
    have n1 : a.toNat / 4 ≠ i := by omega
    have n2 : a.toNat / 4 + 1 ≠ i := by omega
    rw [take_getD, take_getD, take_getD, take_getD]
    have t1 : (a.toNat / 4 < i) = (a.toNat / 4 < i + 1) := by apply propext; omega
    have t2 : (a.toNat / 4 + 1 < i) = (a.toNat / 4 + 1 < i + 1) := by apply propext; omega
    simp only [t1, t2]
end Go.Proofs.YtgeajgdddjjjnaaDoor.RMachP
namespace Go.Proofs.YtgeajgdddjjjnaaDoor.RMachP
open Go.RowKit Go.Proofs.YtgeajgdddjjjnaaDoor.Wo Go.Proofs.YtgeajgdddjjjnaaDoor.WordP Go.Proofs.YtgeajgdddjjjnaaDoor.AluP Go.Proofs.YtgeajgdddjjjnaaDoor.MachP
set_option linter.unusedVariables false
set_option linter.unusedSimpArgs false
theorem rnew_range (v0 v2 : Value) (bytes : Int) (W : World) (h : bytes < 8 ∨ 65536 < bytes ∨ bytes % 8 ≠ 0) :
    Calls Tryd.prog 28 #[v0, .int .i64 bytes, v2] W fun e W' => e = .returned (.tuple #[.pointer none, .int .i64 2]) ∧ W = W' := by
  by_cases h1 : bytes < 8
  · clear h
    go_enter Tryd.func28, Tryd.ntmps28
    go_wp2
    go_ret2
    exact ⟨rfl, rfl⟩
  by_cases h2 : 65536 < bytes
  · clear h
    go_enter Tryd.func28, Tryd.ntmps28
    go_wp2
    go_ret2
    exact ⟨rfl, rfl⟩
  have h3 : (bytes % 8 != 0) = true := by simp; omega
  clear h
  go_enter Tryd.func28, Tryd.ntmps28
  go_wp2
  go_ret2
  exact ⟨rfl, rfl⟩
theorem rnew_limit (a : Option Addr) (n c : Nat) (v2 : Value) (bytes : Int) (W : World) (h1 : 8 ≤ bytes) (h2 : bytes ≤ 65536) (h3 : bytes % 8 = 0) (h4 : bytes < 4 * n) (hn : n ≤ 1000000) :
    Calls Tryd.prog 28 #[.slice a n c, .int .i64 bytes, v2] W fun e W' => e = .returned (.tuple #[.pointer none, .int .i64 4]) ∧ W = W' := by
  have h5 : (bytes % 8 != 0) = false := by simp; omega
  clear h3
  go_enter Tryd.func28, Tryd.ntmps28
  go_wp2
  go_ret2
  exact ⟨rfl, rfl⟩
/-- What the machine is before its words are there. -/
def bare0 (B : Nat) (l : List Int) : Mac := ⟨List.replicate 32 0, List.replicate B 0, 0, l, 0, 0, []⟩
theorem rnew_cells (B bm : Nat) (inv : Value) (l : List Int) : rCells (bare0 B l) bm inv (.slice none 0 0) =
    [.int .i64 0, .int .i64 0, .int .i64 0, .int .i64 0, .int .i64 0, .int .i64 0, .int .i64 0, .int .i64 0, .int .i64 0, .int .i64 0, .int .i64 0, .int .i64 0, .int .i64 0, .int .i64 0, .int .i64 0, .int .i64 0, .int .i64 0, .int .i64 0, .int .i64 0, .int .i64 0, .int .i64 0, .int .i64 0, .int .i64 0, .int .i64 0, .int .i64 0, .int .i64 0, .int .i64 0, .int .i64 0, .int .i64 0, .int .i64 0, .int .i64 0, .int .i64 0, .map (some bm), .int .i64 B, .int .i64 0, inv, .int .i64 0, .int .i64 0, .slice none 0 0] := by
  simp [rCells, rTail, bare0, List.replicate]
set_option maxRecDepth 100000 in
set_option maxHeartbeats 1000000 in
theorem rnew_made (v0 : Value) (ia : Option Addr) (im ic : Nat) (ws l : List Int) (B : Nat) (W : World) (hB8 : 8 ≤ B) (hB : B ≤ 65536) (hB0 : B % 8 = 0) (hw : WordsAt W v0 ws) (hws : 4 * ws.length ≤ B) (hl : IntsAt W (.slice ia im ic) l) (hil : ∀ k, (Value.slice ia im ic).ownBlock = some k → k < W.heap.size) (hn60 : ws.length ≤ 60) :
    Calls Tryd.prog 28 #[v0, .int .i64 B, .slice ia im ic] W fun e W' => ∃ b : Nat, e = .returned (.tuple #[.pointer (some ⟨b, 0, none⟩), .int .i64 0]) ∧ ∃ O, RMach 60 W' b O (Mac.new ws B l) ∧ (∀ k, O k → W.heap.size ≤ k ∨ (Value.slice ia im ic).ownBlock = some k) ∧ Mods None W W' := by
  have h5 : (((B : Int)) % 8 != 0) = false := by simp; omega
  obtain ⟨a0, n0, c0, rfl, hn0, hnc0, hcm0, hcell0⟩ := hw
  have h6 : 4 * (n0 : Int) ≤ (B : Int) := by omega
  have HN0 := Lib.hid hn0
  have HC0 := Lib.hid hcell0
  have HL := Lib.hid hl
  have HIL := Lib.hid hil
  have hn0' : n0 ≤ 60 := by omega
  obtain ⟨Q, hQ⟩ : ∃ Q : Ending → World → Prop, Q = fun e W' => ∃ b : Nat, e = .returned (.tuple #[.pointer (some ⟨b, 0, none⟩), .int .i64 0]) ∧ ∃ O, RMach 60 W' b O (Mac.new ws B l) ∧ (∀ k, O k → W.heap.size ≤ k ∨ (Value.slice ia im ic).ownBlock = some k) ∧ Mods None W W' := ⟨_, rfl⟩
  rw [← hQ]
  have HQ := Lib.hid hQ
  have hmm := @run_makeMap Tryd.prog
  unfold maxLen at hcm0
  have HB0 := Lib.hid hB0
  have HWS := Lib.hid hws
  have HW32 : Hid (∀ x ∈ ws, 0 ≤ x ∧ x < 4294967296) := Lib.hid (fun x hx => by
    obtain ⟨j, hj⟩ := List.getElem?_of_mem hx
    exact (hcell0 j x hj).1)
  clear hn0 hcell0 hB0 hQ hl hil hws hn60
  go_enter Tryd.func28, Tryd.ntmps28
  go_wp2_with fail
  obtain ⟨W1, hW1⟩ : ∃ W1, W1 = (W.alloc (.map #[] 0)).alloc (.cells #[.int .i64 0, .int .i64 0, .int .i64 0, .int .i64 0, .int .i64 0, .int .i64 0, .int .i64 0, .int .i64 0, .int .i64 0, .int .i64 0, .int .i64 0, .int .i64 0, .int .i64 0, .int .i64 0, .int .i64 0, .int .i64 0, .int .i64 0, .int .i64 0, .int .i64 0, .int .i64 0, .int .i64 0, .int .i64 0, .int .i64 0, .int .i64 0, .int .i64 0, .int .i64 0, .int .i64 0, .int .i64 0, .int .i64 0, .int .i64 0, .int .i64 0, .int .i64 0, .map (some W.heap.size), .int .i64 B, .int .i64 0, .slice ia im ic, .int .i64 0, .int .i64 0, .slice none 0 0] 104) := ⟨_, rfl⟩
  have HB1 : Hid (Blk W1 (W.heap.size + 1) (rCells (bare0 B l) W.heap.size (.slice ia im ic) (.slice none 0 0)) 104) := Lib.hid (by
    rw [rnew_cells, hW1]
    have := Blk.new (W.alloc (.map #[] 0)) #[.int .i64 0, .int .i64 0, .int .i64 0, .int .i64 0, .int .i64 0, .int .i64 0, .int .i64 0, .int .i64 0, .int .i64 0, .int .i64 0, .int .i64 0, .int .i64 0, .int .i64 0, .int .i64 0, .int .i64 0, .int .i64 0, .int .i64 0, .int .i64 0, .int .i64 0, .int .i64 0, .int .i64 0, .int .i64 0, .int .i64 0, .int .i64 0, .int .i64 0, .int .i64 0, .int .i64 0, .int .i64 0, .int .i64 0, .int .i64 0, .int .i64 0, .int .i64 0, .map (some W.heap.size), .int .i64 B, .int .i64 0, .slice ia im ic, .int .i64 0, .int .i64 0, .slice none 0 0] 104
    rw [show (W.alloc (.map #[] 0)).heap.size = W.heap.size + 1 by simp] at this
    exact this)
  have HMP : Hid (MapIs W1 W.heap.size 0 (fun _ => 0) B) := Lib.hid (by
    rw [hW1]
    exact (MapIs.new W B).mods ((Mods.refl None _).alloc _) (fun f => f))
  have HM1 : Hid (Mods None W W1) := Lib.hid (by rw [hW1]; exact ((Mods.refl _ _).alloc _).alloc _)
  have HS1 : Hid (W1.heap.size = W.heap.size + 2) := Lib.hid (by rw [hW1]; simp)
  rw [← hW1]
  clear hW1 hmm
  obtain ⟨bm, hbm⟩ : ∃ bm, bm = W.heap.size := ⟨_, rfl⟩
  have HBM := Lib.hid hbm
  rw [← hbm] at HB1 HMP HS1 ⊢
  clear hbm
  go_loopw [35] (fun v wr => ∃ i : Nat, i ≤ n0 ∧ v = .int .i64 i ∧ Hid (MapIs wr bm i (Mac.new (ws.take i) B l).load B) ∧ Hid (Mods (· = bm) W1 wr)) (fun v _ => (n0 - intOf v).toNat)
  case atStart =>
    refine ⟨0, Nat.zero_le _, rfl, Lib.hid (HMP.out.ext fun a h0 h8 hl => ?_), Lib.hid (Mods.refl _ _)⟩
    rw [new_load _ l B (by simp) (by simp) a h0 h8 hl]
    simp [wrap64]
  case round =>
    obtain ⟨i, hi2, rfl, hmap, hmods⟩ := hrel
    obtain ⟨wo, hwo⟩ : ∃ wo : World, wo = wr := ⟨_, rfl⟩
    subst hwo
    by_cases hin : i < n0
    · have hx := getD_some (l := ws) (i := i) (by rw [← HN0.out]; exact hin)
      obtain ⟨x, hx'⟩ : ∃ x, x = ws.getD i 0 := ⟨_, rfl⟩
      rw [← hx'] at hx
      obtain ⟨hxb, g, o, he, hc⟩ := HC0.out i x hx
      have hc' : wo.cell? ⟨g, o + i, none⟩ = some (.int .u32 x) := hmods.out.cellOf (HM1.out.cellOf hc (fun f => f)) (fun e => by
        have h1 : g < W.heap.size := World.block_lt_of_cell? W _ hc
        have h2 := HBM.out
        have : g = bm := e
        omega)
      have hb1 := HB1.out.mods hmods.out (fun e => absurd e (by omega))
      have hcm : wo.cell? ⟨bm + 1, 32, none⟩ = some (.map (some bm)) := hb1.cell (by rw [rnew_cells]; rfl)
      have HX := Lib.hid hx
      subst he
      clear hc hx hx' hb1
      have hKb : 4 * (i : Int) / 8 * 8 + 8 ≤ B := by have := HB0.out; omega
      obtain ⟨old, hold⟩ : ∃ old, old = (Mac.new (ws.take i) B l).load (4 * (i : Int) / 8 * 8) := ⟨_, rfl⟩
      have hk2 : (Instr.lookup 102 (.map (some bm)) (.int .i64 (4 * (i : Int) / 8 * 8)) false).run Tryd.prog wo.drew = .ok (.int .i64 old) wo.drew := by
        rw [hold]
        exact (hmap.out.mods ((Mods.refl None _).drew) (fun f => f)).look (by unfold I64; omega) (by omega) (by omega) hKb
      obtain ⟨w9, hupd, hmap9, hmods9⟩ := (hmap.out.mods (W' := wo.drew) ((Mods.refl None _).drew) (fun f => f)).put (a := 4 * (i : Int) / 8 * 8) (v := bits BinOp.or IntKind.i64 old (wrap64 (IntKind.u64.wrap (x * 2 ^ (32 * (i % 2)))))) (by unfold I64; omega) (bits_in _ _ _) (by unfold maxLen; omega)
      have HOLD := Lib.hid hold
      have HM9 := Lib.hid hmap9
      have HD9 := Lib.hid hmods9
      have HKB := Lib.hid hKb
      clear hold hmap9 hmods9 hKb
      go_wp2
      go_region
      go_wp2
      go_roundw
      case rel =>
        refine ⟨i + 1, by omega, by go_num, Lib.hid (HM9.out.ext fun a h0 h8 hl => ?_), Lib.hid ((hmods.out.drew).trans HD9.out)⟩
        rw [HOLD.out]
        exact new_step ws l B i x HW32.out HWS.out HX.out a h0 h8 hl HKB.out
      case measure => simp [intOf]; omega
    · obtain rfl : i = n0 := by omega
      have hms : Mods None W wo := (HM1.out).trans' hmods.out (fun k hk hlt => by have := HBM.out; omega)
      have hb1 := HB1.out.mods hmods.out (fun e => absurd e (by omega))
      have hc2 : wo.cell? ⟨bm + 1, 2, none⟩ = some (.int .i64 0) := hb1.cell (by rw [rnew_cells]; rfl)
      have hc33 : wo.cell? ⟨bm + 1, 33, none⟩ = some (.int .i64 B) := hb1.cell (by rw [rnew_cells]; rfl)
      have hf2 := hb1.free 2
      have HBL := Lib.hid hb1
      have HMS := Lib.hid hms
      clear hb1 hms
      go_wp2
      go_region
      go_wp2
      rw [HQ.out]
      have hmem : (Mac.new ws B l).mem.length = B := by
        have := HWS.out
        simp only [Mac.new, List.length_append, wordBytes_length, List.length_replicate]; omega
      have hmp : MapIs wo bm 60 (Mac.new ws B l).load B := by
        have h := hmap.out
        rw [HN0.out, List.take_length] at h
        obtain ⟨D, hD, hf⟩ := h
        exact ⟨D, hD.mono (by have := HN0.out; omega), hf⟩
      have hat : RAt 60 ((wo.setCell ⟨bm + 1, 2, none⟩ (.int .i64 B)).drew) (bm + 1) bm (.slice ia im ic) (.slice none 0 0) (Mac.new ws B l) := by
        have hm2 : Mods (· = bm + 1) wo (wo.setCell ⟨bm + 1, 2, none⟩ (.int .i64 B)).drew := (Mods.setCell (S := (· = bm + 1)) (p := ⟨bm + 1, 2, none⟩) (Mods.refl _ _) (fun _ => rfl) _).drew
        have hold : ∀ k, (Value.slice ia im ic).ownBlock = some k → k < bm := fun k hk => by have h := HIL.out k hk; have := HBM.out; omega
        refine ⟨new_ok ws l B hB HWS.out, by rw [hmem]; exact HB0.out, ?_, ?_, ?_, World.ownsRow_nil _ _ _ _, by omega, fun k hk => by simp [Value.ownBlock] at hk, fun k hk => ⟨by have := hold k hk; omega, by have := hold k hk; omega, by simp [Value.ownBlock]⟩, by simp [Mac.new]⟩
        · have h := HBL.out.set 2 (.int .i64 B)
          have e : (rCells (bare0 B l) bm (.slice ia im ic) (.slice none 0 0)).set 2 (.int .i64 B) = rCells (Mac.new ws B l) bm (.slice ia im ic) (.slice none 0 0) := by
            rw [rnew_cells]
            simp only [rCells, rTail, hmem]
            rfl
          rw [e] at h
          exact h
        · rw [hmem]
          exact hmp.mods hm2 (by omega)
        · exact ((HL.out.mods HMS.out (fun _ _ f => f)).mods hm2 (fun k hk e => by have := hold k hk; omega))
      refine ⟨bm + 1, rfl, fun k => k = bm + 1 ∨ k = bm ∨ (Value.slice ia im ic).ownBlock = some k, ⟨bm, _, _, hat, ?_, .inl rfl, .inr (.inl rfl), fun k hk => .inr (.inr hk), fun k hk => by simp [Value.ownBlock] at hk⟩, fun k hk => ?_, ?_⟩
      · intro k hk
        have h2 := hmods.out.size
        have h3 : (wo.setCell ⟨bm + 1, 2, none⟩ (.int .i64 B)).drew.heap.size = wo.heap.size := by simp [World.drew]
        rw [h3]
        have h4 := HS1.out
        rcases hk with rfl | rfl | hk
        · omega
        · omega
        · have := HIL.out k hk; have := HBM.out; omega
      · have := HBM.out
        rcases hk with rfl | rfl | hk
        · exact .inl (by omega)
        · exact .inl (by omega)
        · exact .inr hk
      · exact (HMS.out.setCell (p := ⟨bm + 1, 2, none⟩) (fun hlt => by have := HBM.out; exact absurd hlt (by show ¬ bm + 1 < _; omega)) _).drew
end Go.Proofs.YtgeajgdddjjjnaaDoor.RMachP

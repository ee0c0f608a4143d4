/- A machine as it lies in memory: its block, its bytes, what it is given, what it told; and how that goes on. No conditions. -/
import Derived.Test.YtgeajgdddjjjnaaDoorMachStore
import Derived.Test.YtgeajgdddjjjnaaDoorMachPlain
namespace Go.Proofs.YtgeajgdddjjjnaaDoor.MachP
open Go.RowKit Go.Proofs.YtgeajgdddjjjnaaDoor.Wo Go.Proofs.YtgeajgdddjjjnaaDoor.WordP
set_option linter.unusedVariables false
set_option linter.unusedSimpArgs false

/-- The cells of a machine's block. -/
def tailCells (M : Mac) (bm : Nat) (inv outv : Value) : List Value :=
  [.slice (some ⟨bm, 0, none⟩) M.mem.length M.mem.length, .int .i64 M.pc, inv, .int .i64 M.way, .int .i64 M.code, outv]
def macCells (M : Mac) (bm : Nat) (inv outv : Value) : List Value := M.regs.map (.int .i64) ++ tailCells M bm inv outv
/-- A slice of numbers that reads as a list. -/
def IntsAt (W : World) (v : Value) (l : List Int) : Prop :=
  ∃ a n c, v = .slice a n c ∧ n = l.length ∧ n ≤ c ∧ c ≤ maxLen ∧ (∀ i x, l[i]? = some x → ∃ g o, a = some ⟨g, o, none⟩ ∧ W.cell? ⟨g, o + i, none⟩ = some (.int .i64 x))
theorem IntsAt.mods {S : Nat → Prop} {a w : World} (h : Mods S a w) {v : Value} {l : List Int} (hi : IntsAt a v l) (hn : ∀ k, v.ownBlock = some k → ¬ S k) : IntsAt w v l := by
  obtain ⟨p, n, c, rfl, h1, h2, h3, h4⟩ := hi
  refine ⟨p, n, c, rfl, h1, h2, h3, fun i x hx => ?_⟩
  obtain ⟨g, o, rfl, hc⟩ := h4 i x hx
  exact ⟨g, o, rfl, h.cellOf hc (hn g rfl)⟩
structure MacAt (W : World) (b bm : Nat) (inv outv : Value) (M : Mac) : Prop where
  ok : M.Ok
  blk : Blk W b (macCells M bm inv outv) 82
  mem : Blk W bm (M.mem.map (.int .u8)) 5
  ins : IntsAt W inv M.ins
  out : W.ownsRow 0 2 1 outv M.out.length (M.out.map (.int .i64))
  a1 : bm ≠ b
  a2 : ∀ k, outv.ownBlock = some k → k ≠ b ∧ k ≠ bm
  a3 : ∀ k, inv.ownBlock = some k → k ≠ b ∧ k ≠ bm ∧ outv.ownBlock ≠ some k
  many : M.out.length ≤ 200

section
variable {W : World} {b bm : Nat} {inv outv : Value} {M : Mac}
theorem cells_reg (h : M.Ok) {i : Nat} (hi : i < 32) : (macCells M bm inv outv)[i]? = some (.int .i64 (M.reg i)) := by
  have := h.regs
  unfold macCells Mac.reg
  rw [List.getElem?_append_left (by rw [List.length_map]; omega), List.getElem?_map, getD_some (by omega)]
  rfl
theorem cells_tail (h : M.Ok) (i : Nat) : (macCells M bm inv outv)[32 + i]? = (tailCells M bm inv outv)[i]? := by
  have := h.regs
  unfold macCells
  rw [List.getElem?_append_right (by rw [List.length_map]; omega), List.length_map, h.regs, Nat.add_sub_cancel_left]
theorem MacAt.reg (h : MacAt W b bm inv outv M) {n : Int} (h0 : 0 ≤ n) (h1 : n < 32) : W.cell? ⟨b, n.toNat, none⟩ = some (.int .i64 (M.reg n)) := by
  have := h.blk.cell (cells_reg (bm := bm) (inv := inv) (outv := outv) h.ok (i := n.toNat) (by omega))
  rwa [Int.toNat_of_nonneg h0] at this
theorem MacAt.cmem (h : MacAt W b bm inv outv M) : W.cell? ⟨b, 32, none⟩ = some (.slice (some ⟨bm, 0, none⟩) M.mem.length M.mem.length) := h.blk.cell (cells_tail h.ok 0)
theorem MacAt.cpc (h : MacAt W b bm inv outv M) : W.cell? ⟨b, 33, none⟩ = some (.int .i64 M.pc) := h.blk.cell (cells_tail h.ok 1)
theorem MacAt.cins (h : MacAt W b bm inv outv M) : W.cell? ⟨b, 34, none⟩ = some inv := h.blk.cell (cells_tail h.ok 2)
theorem MacAt.cway (h : MacAt W b bm inv outv M) : W.cell? ⟨b, 35, none⟩ = some (.int .i64 M.way) := h.blk.cell (cells_tail h.ok 3)
theorem MacAt.ccode (h : MacAt W b bm inv outv M) : W.cell? ⟨b, 36, none⟩ = some (.int .i64 M.code) := h.blk.cell (cells_tail h.ok 4)
theorem MacAt.cout (h : MacAt W b bm inv outv M) : W.cell? ⟨b, 37, none⟩ = some outv := h.blk.cell (cells_tail h.ok 5)
theorem MacAt.free (h : MacAt W b bm inv outv M) (i : Nat) : W.frozen? ⟨b, i, none⟩ = false := h.blk.free i
theorem MacAt.outlt (h : MacAt W b bm inv outv M) : ∀ k, outv.ownBlock = some k → k < W.heap.size := fun k hk => (h.out.lt k hk).2
theorem ins_lt {W : World} {v : Value} {l : List Int} (h : IntsAt W v l) (hl : 0 < l.length) : ∃ g o n c, v = .slice (some ⟨g, o, none⟩) n c ∧ g < W.heap.size := by
  obtain ⟨p, n, c, rfl, h1, h2, h3, h4⟩ := h
  obtain ⟨g, o, rfl, hc⟩ := h4 0 _ (getD_some hl)
  exact ⟨g, o, n, c, rfl, World.block_lt_of_cell? W _ hc⟩
/-- Elsewhere things turn: the machine lies as it did. -/
theorem MacAt.mods {S : Nat → Prop} {w : World} (h : MacAt W b bm inv outv M) (hm : Mods S W w) (hb : ¬ S b) (hbm : ¬ S bm) (hi : ∀ k, inv.ownBlock = some k → ¬ S k) (ho : ∀ k, outv.ownBlock = some k → ¬ S k) : MacAt w b bm inv outv M :=
  ⟨h.ok, h.blk.mods hm hb, h.mem.mods hm hbm, h.ins.mods hm hi, hm.ownsRow h.out ho, h.a1, h.a2, h.a3, h.many⟩
/-- A cell of the machine's own block is written. -/
theorem MacAt.cellSet (h : MacAt W b bm inv outv M) {i : Nat} {v inv' outv' : Value} {M' : Mac} (hok : M'.Ok) (hc : (macCells M bm inv outv).set i v = macCells M' bm inv' outv')
    (hmem : M'.mem = M.mem) (hins : IntsAt W inv' M'.ins) (hout : W.ownsRow 0 2 1 outv' M'.out.length (M'.out.map (.int .i64))) (a2 : ∀ k, outv'.ownBlock = some k → k ≠ b ∧ k ≠ bm)
    (a3 : ∀ k, inv'.ownBlock = some k → k ≠ b ∧ k ≠ bm ∧ outv'.ownBlock ≠ some k) (hmany : M'.out.length ≤ 200) : MacAt (W.setCell ⟨b, i, none⟩ v) b bm inv' outv' M' := by
  have hmods : Mods (· = b) W (W.setCell ⟨b, i, none⟩ v) := Mods.setCell (S := (· = b)) (p := ⟨b, i, none⟩) (Mods.refl _ _) (fun _ => rfl) v
  refine ⟨hok, ?_, ?_, hins.mods hmods (fun k hk => (a3 k hk).1), hmods.ownsRow hout (fun k hk => (a2 k hk).1), h.a1, a2, a3, hmany⟩
  · rw [← hc]; exact h.blk.set i v
  · rw [hmem]; exact h.mem.mods hmods h.a1
theorem set_reg (h : M.Ok) {n : Int} (h0 : 0 ≤ n) (h1 : n < 32) (v : Int) : (macCells M bm inv outv).set n.toNat (.int .i64 v) = macCells (M.put n v) bm inv outv := by
  have := h.regs
  unfold macCells Mac.put
  rw [List.set_append_left _ _ (by rw [List.length_map]; omega), List.map_set]
  rfl
theorem set_tail (h : M.Ok) (i : Nat) (v : Value) {M' : Mac} {inv' outv' : Value} (hr : M'.regs = M.regs) (ht : (tailCells M bm inv outv).set i v = tailCells M' bm inv' outv') : (macCells M bm inv outv).set (32 + i) v = macCells M' bm inv' outv' := by
  have := h.regs
  unfold macCells
  rw [List.set_append_right _ _ (by rw [List.length_map]; omega), List.length_map, h.regs, Nat.add_sub_cancel_left, ht, hr]
theorem MacAt.setReg (h : MacAt W b bm inv outv M) {n : Int} (h0 : 0 ≤ n) (h1 : n < 32) (v : Int) : MacAt (W.setCell ⟨b, n.toNat, none⟩ (.int .i64 v)) b bm inv outv (M.put n v) :=
  h.cellSet (h.ok.put n v) (set_reg h.ok h0 h1 v) rfl h.ins h.out h.a2 h.a3 h.many
theorem MacAt.setPc (h : MacAt W b bm inv outv M) (v : Int) : MacAt (W.setCell ⟨b, 33, none⟩ (.int .i64 v)) b bm inv outv (M.goto v) :=
  h.cellSet (h.ok.goto v) (set_tail h.ok 1 _ rfl rfl) rfl h.ins h.out h.a2 h.a3 h.many
theorem MacAt.setWay (h : MacAt W b bm inv outv M) (v : Int) : MacAt (W.setCell ⟨b, 35, none⟩ (.int .i64 v)) b bm inv outv { M with way := v } :=
  h.cellSet ⟨h.ok.regs, h.ok.byte, h.ok.size⟩ (set_tail h.ok 3 _ rfl rfl) rfl h.ins h.out h.a2 h.a3 h.many
theorem MacAt.setCode (h : MacAt W b bm inv outv M) (v : Int) : MacAt (W.setCell ⟨b, 36, none⟩ (.int .i64 v)) b bm inv outv { M with code := v } :=
  h.cellSet ⟨h.ok.regs, h.ok.byte, h.ok.size⟩ (set_tail h.ok 4 _ rfl rfl) rfl h.ins h.out h.a2 h.a3 h.many
theorem MacAt.setIns (h : MacAt W b bm inv outv M) {inv' : Value} {l : List Int} (hi : IntsAt W inv' l) (ho : ∀ k, inv'.ownBlock = some k → inv.ownBlock = some k) : MacAt (W.setCell ⟨b, 34, none⟩ inv') b bm inv' outv { M with ins := l } :=
  h.cellSet ⟨h.ok.regs, h.ok.byte, h.ok.size⟩ (set_tail h.ok 2 _ rfl rfl) rfl hi h.out h.a2 (fun k hk => h.a3 k (ho k hk)) h.many
theorem MacAt.setOut (h : MacAt W b bm inv outv M) {outv' : Value} {l : List Int} (hi : W.ownsRow 0 2 1 outv' l.length (l.map (.int .i64))) (ho : ∀ k, outv'.ownBlock = some k → k ≠ b ∧ k ≠ bm ∧ inv.ownBlock ≠ some k) (hm : l.length ≤ 200) :
    MacAt (W.setCell ⟨b, 37, none⟩ outv') b bm inv outv' { M with out := l } :=
  h.cellSet ⟨h.ok.regs, h.ok.byte, h.ok.size⟩ (set_tail h.ok 5 _ rfl rfl) rfl h.ins hi (fun k hk => ⟨(ho k hk).1, (ho k hk).2.1⟩) (fun k hk => ⟨(h.a3 k hk).1, (h.a3 k hk).2.1, fun e => (ho k e).2.2 hk⟩) hm
theorem put_put (M : Mac) (n a c : Int) : (M.put n a).put n c = M.put n c := by simp [Mac.put]
theorem MacAt.drew (h : MacAt W b bm inv outv M) : MacAt W.drew b bm inv outv M := h.mods ((Mods.refl None W).drew) (fun f => f) (fun f => f) (fun _ _ f => f) (fun _ _ f => f)
theorem MacAt.drewN (h : MacAt W b bm inv outv M) (n : Nat) : MacAt (W.drewN n) b bm inv outv M := h.mods ((Mods.refl None W).drewN n) (fun f => f) (fun f => f) (fun _ _ f => f) (fun _ _ f => f)
theorem MacAt.alloc (h : MacAt W b bm inv outv M) (o : Obj) : MacAt (W.alloc o) b bm inv outv M := h.mods ((Mods.refl None W).alloc o) (fun f => f) (fun f => f) (fun _ _ f => f) (fun _ _ f => f)
/-- The machine's bytes are turned. -/
theorem MacAt.setMem {w : World} (h : MacAt W b bm inv outv M) (hm : Mods (· = bm) W w) {p v : Int} (hp : M.right p 8 = true) (hb : Blk w bm ((over M.mem p.toNat (digits 8 (v % 18446744073709551616))).map (.int .u8)) 5) : MacAt w b bm inv outv (M.store p v) := by
  have hl : (M.store p v).mem.length = M.mem.length := by
    have h1 := rightM_parts hp
    exact over_length _ _ _ (by rw [digits_length]; omega)
  refine ⟨h.ok.store v hp, ?_, hb, h.ins.mods hm (fun k hk => (h.a3 k hk).2.1), hm.ownsRow h.out (fun k hk => (h.a2 k hk).2), h.a1, h.a2, h.a3, h.many⟩
  have : macCells (M.store p v) bm inv outv = macCells M bm inv outv := by
    unfold macCells tailCells
    rw [hl]
    rfl
  rw [this]
  exact h.blk.mods hm (fun e => h.a1 e.symm)
end
/-- A machine that lies at b, all of it in blocks of O. -/
structure Own (W : World) (b : Nat) (O : Nat → Prop) (bm : Nat) (inv outv : Value) : Prop where
  lt : ∀ k, O k → k < W.heap.size
  b : O b
  bm : O bm
  inv : ∀ k, inv.ownBlock = some k → O k
  outv : ∀ k, outv.ownBlock = some k → O k
def Mach (W : World) (b : Nat) (O : Nat → Prop) (M : Mac) : Prop := ∃ bm inv outv, MacAt W b bm inv outv M ∧ Own W b O bm inv outv
/-- What a call made of a machine: it is M' now; only blocks of O, and new ones, have turned; it lies in these. -/
def Went (O : Nat → Prop) (b : Nat) (M' : Mac) (W W' : World) : Prop := ∃ O' : Nat → Prop, Mach W' b O' M' ∧ (∀ k, O' k → O k ∨ W.heap.size ≤ k) ∧ Mods O W W'
theorem Mach.mods {W W' : World} {b : Nat} {O S : Nat → Prop} {M : Mac} (h : Mach W b O M) (hm : Mods S W W') (hs : ∀ k, O k → ¬ S k) : Mach W' b O M := by
  obtain ⟨bm, inv, outv, h1, h2⟩ := h
  exact ⟨bm, inv, outv, h1.mods hm (hs _ h2.b) (hs _ h2.bm) (fun k hk => hs _ (h2.inv k hk)) (fun k hk => hs _ (h2.outv k hk)), ⟨fun k hk => Nat.lt_of_lt_of_le (h2.lt k hk) hm.size, h2.b, h2.bm, h2.inv, h2.outv⟩⟩
theorem Mach.lt {W : World} {b : Nat} {O : Nat → Prop} {M : Mac} (h : Mach W b O M) : ∀ k, O k → k < W.heap.size := by
  obtain ⟨bm, inv, outv, h1, h2⟩ := h; exact h2.lt
theorem Mach.ok {W : World} {b : Nat} {O : Nat → Prop} {M : Mac} (h : Mach W b O M) : M.Ok := by
  obtain ⟨bm, inv, outv, h1, h2⟩ := h; exact h1.ok
theorem Went.refl {W : World} {b : Nat} {O : Nat → Prop} {M : Mac} (h : Mach W b O M) : Went O b M W W := ⟨O, h, fun _ h => .inl h, Mods.refl _ _⟩
theorem Went.trans {O : Nat → Prop} {b : Nat} {M1 M2 : Mac} {W W1 W2 : World} (h : Went O b M1 W W1) (h2 : ∀ O1, Mach W1 b O1 M1 → Went O1 b M2 W1 W2) : Went O b M2 W W2 := by
  obtain ⟨O1, a1, a2, a3⟩ := h
  obtain ⟨O2, b1, b2, b3⟩ := h2 O1 a1
  refine ⟨O2, b1, fun k hk => ?_, a3.trans' b3 (fun k hk hlt => ?_)⟩
  · rcases b2 k hk with h | h
    · exact a2 k h
    · exact .inr (Nat.le_trans a3.size h)
  · rcases a2 k hk with h | h
    · exact h
    · omega
/-- Elsewhere things turn ahead of it, and behind it. -/
theorem Went.after {O : Nat → Prop} {b : Nat} {M : Mac} {W W1 W2 : World} (h : Went O b M W W1) (hm : Mods None W1 W2) : Went O b M W W2 :=
  h.trans fun O1 h1 => ⟨O1, h1.mods hm (fun _ _ f => f), fun _ h => .inl h, hm.mono fun _ _ f => f.elim⟩
theorem Went.before {O : Nat → Prop} {b : Nat} {M : Mac} {W W1 W2 : World} (hm : Mods None W W1) (h : Went O b M W1 W2) : Went O b M W W2 := by
  obtain ⟨O1, a1, a2, a3⟩ := h
  refine ⟨O1, a1, fun k hk => ?_, (hm.mono (T := O) fun _ _ f => f.elim).trans a3⟩
  rcases a2 k hk with h | h
  · exact .inl h
  · exact .inr (Nat.le_trans hm.size h)
end Go.Proofs.YtgeajgdddjjjnaaDoor.MachP

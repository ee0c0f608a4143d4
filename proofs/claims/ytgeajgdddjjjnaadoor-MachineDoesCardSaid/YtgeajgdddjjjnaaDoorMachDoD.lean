/- The machine does an instruction that goes on elsewhere, or asks: machine.do. Conditions: that the machine lies in memory. -/
import Derived.Test.YtgeajgdddjjjnaaDoorMachDoHead
namespace Go.Proofs.YtgeajgdddjjjnaaDoor.MachP
open Go.RowKit Go.Proofs.YtgeajgdddjjjnaaDoor.Wo Go.Proofs.YtgeajgdddjjjnaaDoor.WordP Go.Proofs.YtgeajgdddjjjnaaDoor.AluP
set_option linter.unusedVariables false
set_option linter.unusedSimpArgs false

set_option maxRecDepth 100000 in
set_option maxHeartbeats 1000000 in
theorem do_br25_yes (x : Ins) (hx : Regs x) (hop : x.op = 25) : ∀ (b : Nat) (O : Nat → Prop) (M : Mac) (W : World), Mach W b O M → (M.reg x.ra == M.reg x.rb) = true →
    Calls Tryd.prog 42 #[.pointer (some ⟨b, 0, none⟩), x.val] W fun e w' => e = .returned (.tuple #[]) ∧ Went O b (M.act x) W w' := by
  intro b O M W h ht
  have ht0 := ht
  try simp only [beq_iff_eq, bne_iff_ne, decide_eq_true_eq, decide_eq_false_iff_not, beq_eq_false_iff_ne, bne_eq_false_iff_eq, ne_eq] at ht
  have e : M.act x = M.goto (wrap64 (M.pc + x.n)) := by
    simp [Mac.act, hop, takes, ht]
  rw [e]
  clear e ht
  have ht := ht0
  clear ht0
  obtain ⟨W1, hW1⟩ : ∃ W1, W1 = W.alloc (.cells (instCells x.op x.rd x.ra x.rb x.n) 23) := ⟨_, rfl⟩
  have F1 : Hid (Five W1 W.heap.size x.op x.rd x.ra x.rb x.n) := Lib.hid (by rw [hW1]; exact five_new W _ _ _ _ _ 23)
  have hM : Mods None W W1 := by rw [hW1]; exact (Mods.refl _ _).alloc _
  have hgt : b ≠ W.heap.size := by
    obtain ⟨bm, inv, outv, h1, h2⟩ := h
    have := h1.blk.lt
    omega
  have h1 := h.mods hM (fun _ _ f => f)
  clear h
  have H0 := Lib.hid h1
  obtain ⟨bm, inv, outv, h1, h2⟩ := h1
  have HM := Lib.hid hM
  have H1 := Lib.hid h1
  have hra : W1.cell? ⟨b, x.ra.toNat, none⟩ = some (.int .i64 (M.reg x.ra)) := h1.reg hx.a0 hx.a1
  have hrb : W1.cell? ⟨b, x.rb.toNat, none⟩ = some (.int .i64 (M.reg x.rb)) := h1.reg hx.b0 hx.b1
  have hrd : W1.cell? ⟨b, x.rd.toNat, none⟩ = some (.int .i64 (M.reg x.rd)) := h1.reg hx.d0 hx.d1
  have hpc := h1.cpc
  have hf := h1.free
  obtain ⟨c0, c1, c2, c3, c4, cf⟩ := F1.out
  obtain ⟨p, rd, ra, rb, n⟩ := x
  obtain ⟨d0, d1, a0, a1, b0, b1⟩ := hx
  simp only at *
  simp only [Ins.val]
  have hix : ∀ (b0 b1 b2 b3 : Bool) (w : World), (Instr.index 108 (.agg #[.bool b0, .bool b1, .bool b2, .bool b3]) (.int .i64 0)).run Tryd.prog w = .ok (.bool b0) w := fun _ _ _ _ _ => by kernel_rfl
  subst hop
  clear hM h1 cf F1
  go_enter Tryd.func42, Tryd.ntmps42
  go_wp2_with fail
  rw [← hW1]
  clear hW1
  go_region
  go_wp2_with fail
  go_region
  all_goals
    go_wp2
    go_end0
    exact ⟨rfl, did HM.out h2 (by repeat (first | with_reducible exact H1.out | with_reducible refine MacAt.drew ?_ | with_reducible refine MacAt.setPc ?_ _ | with_reducible refine MacAt.setWay ?_ _ | with_reducible refine MacAt.setReg ?_ d0 d1 _)) (by repeat (first | with_reducible exact Mods.refl _ _ | with_reducible refine Mods.drew ?_ | with_reducible refine Mods.setCell ?_ (fun _ => .inl rfl) _))⟩
set_option maxRecDepth 100000 in
set_option maxHeartbeats 1000000 in
theorem do_br25_no (x : Ins) (hx : Regs x) (hop : x.op = 25) : ∀ (b : Nat) (O : Nat → Prop) (M : Mac) (W : World), Mach W b O M → (M.reg x.ra == M.reg x.rb) = false →
    Calls Tryd.prog 42 #[.pointer (some ⟨b, 0, none⟩), x.val] W fun e w' => e = .returned (.tuple #[]) ∧ Went O b (M.act x) W w' := by
  intro b O M W h ht
  have ht0 := ht
  try simp only [beq_iff_eq, bne_iff_ne, decide_eq_true_eq, decide_eq_false_iff_not, beq_eq_false_iff_ne, bne_eq_false_iff_eq, ne_eq] at ht
  have e : M.act x = M.goto (wrap64 (M.pc + 4)) := by
    simp [Mac.act, hop, takes, ht]
  rw [e]
  clear e ht
  have ht := ht0
  clear ht0
  obtain ⟨W1, hW1⟩ : ∃ W1, W1 = W.alloc (.cells (instCells x.op x.rd x.ra x.rb x.n) 23) := ⟨_, rfl⟩
  have F1 : Hid (Five W1 W.heap.size x.op x.rd x.ra x.rb x.n) := Lib.hid (by rw [hW1]; exact five_new W _ _ _ _ _ 23)
  have hM : Mods None W W1 := by rw [hW1]; exact (Mods.refl _ _).alloc _
  have hgt : b ≠ W.heap.size := by
    obtain ⟨bm, inv, outv, h1, h2⟩ := h
    have := h1.blk.lt
    omega
  have h1 := h.mods hM (fun _ _ f => f)
  clear h
  have H0 := Lib.hid h1
  obtain ⟨bm, inv, outv, h1, h2⟩ := h1
  have HM := Lib.hid hM
  have H1 := Lib.hid h1
  have hra : W1.cell? ⟨b, x.ra.toNat, none⟩ = some (.int .i64 (M.reg x.ra)) := h1.reg hx.a0 hx.a1
  have hrb : W1.cell? ⟨b, x.rb.toNat, none⟩ = some (.int .i64 (M.reg x.rb)) := h1.reg hx.b0 hx.b1
  have hrd : W1.cell? ⟨b, x.rd.toNat, none⟩ = some (.int .i64 (M.reg x.rd)) := h1.reg hx.d0 hx.d1
  have hpc := h1.cpc
  have hf := h1.free
  obtain ⟨c0, c1, c2, c3, c4, cf⟩ := F1.out
  obtain ⟨p, rd, ra, rb, n⟩ := x
  obtain ⟨d0, d1, a0, a1, b0, b1⟩ := hx
  simp only at *
  simp only [Ins.val]
  have hix : ∀ (b0 b1 b2 b3 : Bool) (w : World), (Instr.index 108 (.agg #[.bool b0, .bool b1, .bool b2, .bool b3]) (.int .i64 0)).run Tryd.prog w = .ok (.bool b0) w := fun _ _ _ _ _ => by kernel_rfl
  subst hop
  clear hM h1 cf F1
  go_enter Tryd.func42, Tryd.ntmps42
  go_wp2_with fail
  rw [← hW1]
  clear hW1
  go_region
  go_wp2_with fail
  all_goals
    go_wp2
    go_end0
    exact ⟨rfl, did HM.out h2 (by repeat (first | with_reducible exact H1.out | with_reducible refine MacAt.drew ?_ | with_reducible refine MacAt.setPc ?_ _ | with_reducible refine MacAt.setWay ?_ _ | with_reducible refine MacAt.setReg ?_ d0 d1 _)) (by repeat (first | with_reducible exact Mods.refl _ _ | with_reducible refine Mods.drew ?_ | with_reducible refine Mods.setCell ?_ (fun _ => .inl rfl) _))⟩
set_option maxRecDepth 100000 in
set_option maxHeartbeats 1000000 in
theorem do_br26_yes (x : Ins) (hx : Regs x) (hop : x.op = 26) : ∀ (b : Nat) (O : Nat → Prop) (M : Mac) (W : World), Mach W b O M → (M.reg x.ra != M.reg x.rb) = true →
    Calls Tryd.prog 42 #[.pointer (some ⟨b, 0, none⟩), x.val] W fun e w' => e = .returned (.tuple #[]) ∧ Went O b (M.act x) W w' := by
  intro b O M W h ht
  have ht0 := ht
  try simp only [beq_iff_eq, bne_iff_ne, decide_eq_true_eq, decide_eq_false_iff_not, beq_eq_false_iff_ne, bne_eq_false_iff_eq, ne_eq] at ht
  have e : M.act x = M.goto (wrap64 (M.pc + x.n)) := by
    simp [Mac.act, hop, takes, ht]
  rw [e]
  clear e ht
  have ht := ht0
  clear ht0
  obtain ⟨W1, hW1⟩ : ∃ W1, W1 = W.alloc (.cells (instCells x.op x.rd x.ra x.rb x.n) 23) := ⟨_, rfl⟩
  have F1 : Hid (Five W1 W.heap.size x.op x.rd x.ra x.rb x.n) := Lib.hid (by rw [hW1]; exact five_new W _ _ _ _ _ 23)
  have hM : Mods None W W1 := by rw [hW1]; exact (Mods.refl _ _).alloc _
  have hgt : b ≠ W.heap.size := by
    obtain ⟨bm, inv, outv, h1, h2⟩ := h
    have := h1.blk.lt
    omega
  have h1 := h.mods hM (fun _ _ f => f)
  clear h
  have H0 := Lib.hid h1
  obtain ⟨bm, inv, outv, h1, h2⟩ := h1
  have HM := Lib.hid hM
  have H1 := Lib.hid h1
  have hra : W1.cell? ⟨b, x.ra.toNat, none⟩ = some (.int .i64 (M.reg x.ra)) := h1.reg hx.a0 hx.a1
  have hrb : W1.cell? ⟨b, x.rb.toNat, none⟩ = some (.int .i64 (M.reg x.rb)) := h1.reg hx.b0 hx.b1
  have hrd : W1.cell? ⟨b, x.rd.toNat, none⟩ = some (.int .i64 (M.reg x.rd)) := h1.reg hx.d0 hx.d1
  have hpc := h1.cpc
  have hf := h1.free
  obtain ⟨c0, c1, c2, c3, c4, cf⟩ := F1.out
  obtain ⟨p, rd, ra, rb, n⟩ := x
  obtain ⟨d0, d1, a0, a1, b0, b1⟩ := hx
  simp only at *
  simp only [Ins.val]
  have hix : ∀ (b0 b1 b2 b3 : Bool) (w : World), (Instr.index 108 (.agg #[.bool b0, .bool b1, .bool b2, .bool b3]) (.int .i64 1)).run Tryd.prog w = .ok (.bool b1) w := fun _ _ _ _ _ => by kernel_rfl
  subst hop
  clear hM h1 cf F1
  go_enter Tryd.func42, Tryd.ntmps42
  go_wp2_with fail
  rw [← hW1]
  clear hW1
  go_region
  go_wp2_with fail
  go_region
  all_goals
    go_wp2
    go_end0
    exact ⟨rfl, did HM.out h2 (by repeat (first | with_reducible exact H1.out | with_reducible refine MacAt.drew ?_ | with_reducible refine MacAt.setPc ?_ _ | with_reducible refine MacAt.setWay ?_ _ | with_reducible refine MacAt.setReg ?_ d0 d1 _)) (by repeat (first | with_reducible exact Mods.refl _ _ | with_reducible refine Mods.drew ?_ | with_reducible refine Mods.setCell ?_ (fun _ => .inl rfl) _))⟩
set_option maxRecDepth 100000 in
set_option maxHeartbeats 1000000 in
theorem do_br26_no (x : Ins) (hx : Regs x) (hop : x.op = 26) : ∀ (b : Nat) (O : Nat → Prop) (M : Mac) (W : World), Mach W b O M → (M.reg x.ra != M.reg x.rb) = false →
    Calls Tryd.prog 42 #[.pointer (some ⟨b, 0, none⟩), x.val] W fun e w' => e = .returned (.tuple #[]) ∧ Went O b (M.act x) W w' := by
  intro b O M W h ht
  have ht0 := ht
  try simp only [beq_iff_eq, bne_iff_ne, decide_eq_true_eq, decide_eq_false_iff_not, beq_eq_false_iff_ne, bne_eq_false_iff_eq, ne_eq] at ht
  have e : M.act x = M.goto (wrap64 (M.pc + 4)) := by
    simp [Mac.act, hop, takes, ht]
  rw [e]
  clear e ht
  have ht := ht0
  clear ht0
  obtain ⟨W1, hW1⟩ : ∃ W1, W1 = W.alloc (.cells (instCells x.op x.rd x.ra x.rb x.n) 23) := ⟨_, rfl⟩
  have F1 : Hid (Five W1 W.heap.size x.op x.rd x.ra x.rb x.n) := Lib.hid (by rw [hW1]; exact five_new W _ _ _ _ _ 23)
  have hM : Mods None W W1 := by rw [hW1]; exact (Mods.refl _ _).alloc _
  have hgt : b ≠ W.heap.size := by
    obtain ⟨bm, inv, outv, h1, h2⟩ := h
    have := h1.blk.lt
    omega
  have h1 := h.mods hM (fun _ _ f => f)
  clear h
  have H0 := Lib.hid h1
  obtain ⟨bm, inv, outv, h1, h2⟩ := h1
  have HM := Lib.hid hM
  have H1 := Lib.hid h1
  have hra : W1.cell? ⟨b, x.ra.toNat, none⟩ = some (.int .i64 (M.reg x.ra)) := h1.reg hx.a0 hx.a1
  have hrb : W1.cell? ⟨b, x.rb.toNat, none⟩ = some (.int .i64 (M.reg x.rb)) := h1.reg hx.b0 hx.b1
  have hrd : W1.cell? ⟨b, x.rd.toNat, none⟩ = some (.int .i64 (M.reg x.rd)) := h1.reg hx.d0 hx.d1
  have hpc := h1.cpc
  have hf := h1.free
  obtain ⟨c0, c1, c2, c3, c4, cf⟩ := F1.out
  obtain ⟨p, rd, ra, rb, n⟩ := x
  obtain ⟨d0, d1, a0, a1, b0, b1⟩ := hx
  simp only at *
  simp only [Ins.val]
  have hix : ∀ (b0 b1 b2 b3 : Bool) (w : World), (Instr.index 108 (.agg #[.bool b0, .bool b1, .bool b2, .bool b3]) (.int .i64 1)).run Tryd.prog w = .ok (.bool b1) w := fun _ _ _ _ _ => by kernel_rfl
  subst hop
  clear hM h1 cf F1
  go_enter Tryd.func42, Tryd.ntmps42
  go_wp2_with fail
  rw [← hW1]
  clear hW1
  go_region
  go_wp2_with fail
  all_goals
    go_wp2
    go_end0
    exact ⟨rfl, did HM.out h2 (by repeat (first | with_reducible exact H1.out | with_reducible refine MacAt.drew ?_ | with_reducible refine MacAt.setPc ?_ _ | with_reducible refine MacAt.setWay ?_ _ | with_reducible refine MacAt.setReg ?_ d0 d1 _)) (by repeat (first | with_reducible exact Mods.refl _ _ | with_reducible refine Mods.drew ?_ | with_reducible refine Mods.setCell ?_ (fun _ => .inl rfl) _))⟩
set_option maxRecDepth 100000 in
set_option maxHeartbeats 1000000 in
theorem do_br27_yes (x : Ins) (hx : Regs x) (hop : x.op = 27) : ∀ (b : Nat) (O : Nat → Prop) (M : Mac) (W : World), Mach W b O M → decide (M.reg x.ra < M.reg x.rb) = true →
    Calls Tryd.prog 42 #[.pointer (some ⟨b, 0, none⟩), x.val] W fun e w' => e = .returned (.tuple #[]) ∧ Went O b (M.act x) W w' := by
  intro b O M W h ht
  have ht0 := ht
  try simp only [beq_iff_eq, bne_iff_ne, decide_eq_true_eq, decide_eq_false_iff_not, beq_eq_false_iff_ne, bne_eq_false_iff_eq, ne_eq] at ht
  have e : M.act x = M.goto (wrap64 (M.pc + x.n)) := by
    simp [Mac.act, hop, takes, ht]
  rw [e]
  clear e ht
  have ht := ht0
  clear ht0
  obtain ⟨W1, hW1⟩ : ∃ W1, W1 = W.alloc (.cells (instCells x.op x.rd x.ra x.rb x.n) 23) := ⟨_, rfl⟩
  have F1 : Hid (Five W1 W.heap.size x.op x.rd x.ra x.rb x.n) := Lib.hid (by rw [hW1]; exact five_new W _ _ _ _ _ 23)
  have hM : Mods None W W1 := by rw [hW1]; exact (Mods.refl _ _).alloc _
  have hgt : b ≠ W.heap.size := by
    obtain ⟨bm, inv, outv, h1, h2⟩ := h
    have := h1.blk.lt
    omega
  have h1 := h.mods hM (fun _ _ f => f)
  clear h
  have H0 := Lib.hid h1
  obtain ⟨bm, inv, outv, h1, h2⟩ := h1
  have HM := Lib.hid hM
  have H1 := Lib.hid h1
  have hra : W1.cell? ⟨b, x.ra.toNat, none⟩ = some (.int .i64 (M.reg x.ra)) := h1.reg hx.a0 hx.a1
  have hrb : W1.cell? ⟨b, x.rb.toNat, none⟩ = some (.int .i64 (M.reg x.rb)) := h1.reg hx.b0 hx.b1
  have hrd : W1.cell? ⟨b, x.rd.toNat, none⟩ = some (.int .i64 (M.reg x.rd)) := h1.reg hx.d0 hx.d1
  have hpc := h1.cpc
  have hf := h1.free
  obtain ⟨c0, c1, c2, c3, c4, cf⟩ := F1.out
  obtain ⟨p, rd, ra, rb, n⟩ := x
  obtain ⟨d0, d1, a0, a1, b0, b1⟩ := hx
  simp only at *
  simp only [Ins.val]
  have hix : ∀ (b0 b1 b2 b3 : Bool) (w : World), (Instr.index 108 (.agg #[.bool b0, .bool b1, .bool b2, .bool b3]) (.int .i64 2)).run Tryd.prog w = .ok (.bool b2) w := fun _ _ _ _ _ => by kernel_rfl
  subst hop
  clear hM h1 cf F1
  go_enter Tryd.func42, Tryd.ntmps42
  go_wp2_with fail
  rw [← hW1]
  clear hW1
  go_region
  go_wp2_with fail
  go_region
  all_goals
    go_wp2
    go_end0
    exact ⟨rfl, did HM.out h2 (by repeat (first | with_reducible exact H1.out | with_reducible refine MacAt.drew ?_ | with_reducible refine MacAt.setPc ?_ _ | with_reducible refine MacAt.setWay ?_ _ | with_reducible refine MacAt.setReg ?_ d0 d1 _)) (by repeat (first | with_reducible exact Mods.refl _ _ | with_reducible refine Mods.drew ?_ | with_reducible refine Mods.setCell ?_ (fun _ => .inl rfl) _))⟩
set_option maxRecDepth 100000 in
set_option maxHeartbeats 1000000 in
theorem do_br27_no (x : Ins) (hx : Regs x) (hop : x.op = 27) : ∀ (b : Nat) (O : Nat → Prop) (M : Mac) (W : World), Mach W b O M → decide (M.reg x.ra < M.reg x.rb) = false →
    Calls Tryd.prog 42 #[.pointer (some ⟨b, 0, none⟩), x.val] W fun e w' => e = .returned (.tuple #[]) ∧ Went O b (M.act x) W w' := by
  intro b O M W h ht
  have ht0 := ht
  try simp only [beq_iff_eq, bne_iff_ne, decide_eq_true_eq, decide_eq_false_iff_not, beq_eq_false_iff_ne, bne_eq_false_iff_eq, ne_eq] at ht
  have e : M.act x = M.goto (wrap64 (M.pc + 4)) := by
    simp [Mac.act, hop, takes, ht]
  rw [e]
  clear e ht
  have ht := ht0
  clear ht0
  obtain ⟨W1, hW1⟩ : ∃ W1, W1 = W.alloc (.cells (instCells x.op x.rd x.ra x.rb x.n) 23) := ⟨_, rfl⟩
  have F1 : Hid (Five W1 W.heap.size x.op x.rd x.ra x.rb x.n) := Lib.hid (by rw [hW1]; exact five_new W _ _ _ _ _ 23)
  have hM : Mods None W W1 := by rw [hW1]; exact (Mods.refl _ _).alloc _
  have hgt : b ≠ W.heap.size := by
    obtain ⟨bm, inv, outv, h1, h2⟩ := h
    have := h1.blk.lt
    omega
  have h1 := h.mods hM (fun _ _ f => f)
  clear h
  have H0 := Lib.hid h1
  obtain ⟨bm, inv, outv, h1, h2⟩ := h1
  have HM := Lib.hid hM
  have H1 := Lib.hid h1
  have hra : W1.cell? ⟨b, x.ra.toNat, none⟩ = some (.int .i64 (M.reg x.ra)) := h1.reg hx.a0 hx.a1
  have hrb : W1.cell? ⟨b, x.rb.toNat, none⟩ = some (.int .i64 (M.reg x.rb)) := h1.reg hx.b0 hx.b1
  have hrd : W1.cell? ⟨b, x.rd.toNat, none⟩ = some (.int .i64 (M.reg x.rd)) := h1.reg hx.d0 hx.d1
  have hpc := h1.cpc
  have hf := h1.free
  obtain ⟨c0, c1, c2, c3, c4, cf⟩ := F1.out
  obtain ⟨p, rd, ra, rb, n⟩ := x
  obtain ⟨d0, d1, a0, a1, b0, b1⟩ := hx
  simp only at *
  simp only [Ins.val]
  have hix : ∀ (b0 b1 b2 b3 : Bool) (w : World), (Instr.index 108 (.agg #[.bool b0, .bool b1, .bool b2, .bool b3]) (.int .i64 2)).run Tryd.prog w = .ok (.bool b2) w := fun _ _ _ _ _ => by kernel_rfl
  subst hop
  clear hM h1 cf F1
  go_enter Tryd.func42, Tryd.ntmps42
  go_wp2_with fail
  rw [← hW1]
  clear hW1
  go_region
  go_wp2_with fail
  all_goals
    go_wp2
    go_end0
    exact ⟨rfl, did HM.out h2 (by repeat (first | with_reducible exact H1.out | with_reducible refine MacAt.drew ?_ | with_reducible refine MacAt.setPc ?_ _ | with_reducible refine MacAt.setWay ?_ _ | with_reducible refine MacAt.setReg ?_ d0 d1 _)) (by repeat (first | with_reducible exact Mods.refl _ _ | with_reducible refine Mods.drew ?_ | with_reducible refine Mods.setCell ?_ (fun _ => .inl rfl) _))⟩
set_option maxRecDepth 100000 in
set_option maxHeartbeats 1000000 in
theorem do_br28_yes (x : Ins) (hx : Regs x) (hop : x.op = 28) : ∀ (b : Nat) (O : Nat → Prop) (M : Mac) (W : World), Mach W b O M → decide (M.reg x.rb ≤ M.reg x.ra) = true →
    Calls Tryd.prog 42 #[.pointer (some ⟨b, 0, none⟩), x.val] W fun e w' => e = .returned (.tuple #[]) ∧ Went O b (M.act x) W w' := by
  intro b O M W h ht
  have ht0 := ht
  try simp only [beq_iff_eq, bne_iff_ne, decide_eq_true_eq, decide_eq_false_iff_not, beq_eq_false_iff_ne, bne_eq_false_iff_eq, ne_eq] at ht
  have e : M.act x = M.goto (wrap64 (M.pc + x.n)) := by
    simp [Mac.act, hop, takes, ht]
  rw [e]
  clear e ht
  have ht := ht0
  clear ht0
  obtain ⟨W1, hW1⟩ : ∃ W1, W1 = W.alloc (.cells (instCells x.op x.rd x.ra x.rb x.n) 23) := ⟨_, rfl⟩
  have F1 : Hid (Five W1 W.heap.size x.op x.rd x.ra x.rb x.n) := Lib.hid (by rw [hW1]; exact five_new W _ _ _ _ _ 23)
  have hM : Mods None W W1 := by rw [hW1]; exact (Mods.refl _ _).alloc _
  have hgt : b ≠ W.heap.size := by
    obtain ⟨bm, inv, outv, h1, h2⟩ := h
    have := h1.blk.lt
    omega
  have h1 := h.mods hM (fun _ _ f => f)
  clear h
  have H0 := Lib.hid h1
  obtain ⟨bm, inv, outv, h1, h2⟩ := h1
  have HM := Lib.hid hM
  have H1 := Lib.hid h1
  have hra : W1.cell? ⟨b, x.ra.toNat, none⟩ = some (.int .i64 (M.reg x.ra)) := h1.reg hx.a0 hx.a1
  have hrb : W1.cell? ⟨b, x.rb.toNat, none⟩ = some (.int .i64 (M.reg x.rb)) := h1.reg hx.b0 hx.b1
  have hrd : W1.cell? ⟨b, x.rd.toNat, none⟩ = some (.int .i64 (M.reg x.rd)) := h1.reg hx.d0 hx.d1
  have hpc := h1.cpc
  have hf := h1.free
  obtain ⟨c0, c1, c2, c3, c4, cf⟩ := F1.out
  obtain ⟨p, rd, ra, rb, n⟩ := x
  obtain ⟨d0, d1, a0, a1, b0, b1⟩ := hx
  simp only at *
  simp only [Ins.val]
  have hix : ∀ (b0 b1 b2 b3 : Bool) (w : World), (Instr.index 108 (.agg #[.bool b0, .bool b1, .bool b2, .bool b3]) (.int .i64 3)).run Tryd.prog w = .ok (.bool b3) w := fun _ _ _ _ _ => by kernel_rfl
  subst hop
  clear hM h1 cf F1
  go_enter Tryd.func42, Tryd.ntmps42
  go_wp2_with fail
  rw [← hW1]
  clear hW1
  go_region
  go_wp2_with fail
  go_region
  all_goals
    go_wp2
    go_end0
    exact ⟨rfl, did HM.out h2 (by repeat (first | with_reducible exact H1.out | with_reducible refine MacAt.drew ?_ | with_reducible refine MacAt.setPc ?_ _ | with_reducible refine MacAt.setWay ?_ _ | with_reducible refine MacAt.setReg ?_ d0 d1 _)) (by repeat (first | with_reducible exact Mods.refl _ _ | with_reducible refine Mods.drew ?_ | with_reducible refine Mods.setCell ?_ (fun _ => .inl rfl) _))⟩
set_option maxRecDepth 100000 in
set_option maxHeartbeats 1000000 in
theorem do_br28_no (x : Ins) (hx : Regs x) (hop : x.op = 28) : ∀ (b : Nat) (O : Nat → Prop) (M : Mac) (W : World), Mach W b O M → decide (M.reg x.rb ≤ M.reg x.ra) = false →
    Calls Tryd.prog 42 #[.pointer (some ⟨b, 0, none⟩), x.val] W fun e w' => e = .returned (.tuple #[]) ∧ Went O b (M.act x) W w' := by
  intro b O M W h ht
  have ht0 := ht
  try simp only [beq_iff_eq, bne_iff_ne, decide_eq_true_eq, decide_eq_false_iff_not, beq_eq_false_iff_ne, bne_eq_false_iff_eq, ne_eq] at ht
  have e : M.act x = M.goto (wrap64 (M.pc + 4)) := by
    simp [Mac.act, hop, takes, ht]
  rw [e]
  clear e ht
  have ht := ht0
  clear ht0
  obtain ⟨W1, hW1⟩ : ∃ W1, W1 = W.alloc (.cells (instCells x.op x.rd x.ra x.rb x.n) 23) := ⟨_, rfl⟩
  have F1 : Hid (Five W1 W.heap.size x.op x.rd x.ra x.rb x.n) := Lib.hid (by rw [hW1]; exact five_new W _ _ _ _ _ 23)
  have hM : Mods None W W1 := by rw [hW1]; exact (Mods.refl _ _).alloc _
  have hgt : b ≠ W.heap.size := by
    obtain ⟨bm, inv, outv, h1, h2⟩ := h
    have := h1.blk.lt
    omega
  have h1 := h.mods hM (fun _ _ f => f)
  clear h
  have H0 := Lib.hid h1
  obtain ⟨bm, inv, outv, h1, h2⟩ := h1
  have HM := Lib.hid hM
  have H1 := Lib.hid h1
  have hra : W1.cell? ⟨b, x.ra.toNat, none⟩ = some (.int .i64 (M.reg x.ra)) := h1.reg hx.a0 hx.a1
  have hrb : W1.cell? ⟨b, x.rb.toNat, none⟩ = some (.int .i64 (M.reg x.rb)) := h1.reg hx.b0 hx.b1
  have hrd : W1.cell? ⟨b, x.rd.toNat, none⟩ = some (.int .i64 (M.reg x.rd)) := h1.reg hx.d0 hx.d1
  have hpc := h1.cpc
  have hf := h1.free
  obtain ⟨c0, c1, c2, c3, c4, cf⟩ := F1.out
  obtain ⟨p, rd, ra, rb, n⟩ := x
  obtain ⟨d0, d1, a0, a1, b0, b1⟩ := hx
  simp only at *
  simp only [Ins.val]
  have hix : ∀ (b0 b1 b2 b3 : Bool) (w : World), (Instr.index 108 (.agg #[.bool b0, .bool b1, .bool b2, .bool b3]) (.int .i64 3)).run Tryd.prog w = .ok (.bool b3) w := fun _ _ _ _ _ => by kernel_rfl
  subst hop
  clear hM h1 cf F1
  go_enter Tryd.func42, Tryd.ntmps42
  go_wp2_with fail
  rw [← hW1]
  clear hW1
  go_region
  go_wp2_with fail
  all_goals
    go_wp2
    go_end0
    exact ⟨rfl, did HM.out h2 (by repeat (first | with_reducible exact H1.out | with_reducible refine MacAt.drew ?_ | with_reducible refine MacAt.setPc ?_ _ | with_reducible refine MacAt.setWay ?_ _ | with_reducible refine MacAt.setReg ?_ d0 d1 _)) (by repeat (first | with_reducible exact Mods.refl _ _ | with_reducible refine Mods.drew ?_ | with_reducible refine Mods.setCell ?_ (fun _ => .inl rfl) _))⟩
set_option maxRecDepth 100000 in
set_option maxHeartbeats 1000000 in
theorem do_ec_yes (x : Ins) (hx : Regs x) (hop : x.op = 31) : ∀ (b : Nat) (O : Nat → Prop) (M : Mac) (W : World), Mach W b O M → M.call.2 = true →
    Calls Tryd.prog 42 #[.pointer (some ⟨b, 0, none⟩), x.val] W fun e w' => e = .returned (.tuple #[]) ∧ Went O b (M.act x) W w' := by
  intro b O M W h hr
  have e : M.act x = M.call.1.goto (wrap64 (M.pc + 4)) := by
    simp [Mac.act, hop, hr]
  rw [e]
  clear e
  obtain ⟨W1, hW1⟩ : ∃ W1, W1 = W.alloc (.cells (instCells x.op x.rd x.ra x.rb x.n) 23) := ⟨_, rfl⟩
  have F1 : Hid (Five W1 W.heap.size x.op x.rd x.ra x.rb x.n) := Lib.hid (by rw [hW1]; exact five_new W _ _ _ _ _ 23)
  have hM : Mods None W W1 := by rw [hW1]; exact (Mods.refl _ _).alloc _
  have hgt : b ≠ W.heap.size := by
    obtain ⟨bm, inv, outv, h1, h2⟩ := h
    have := h1.blk.lt
    omega
  have h1 := h.mods hM (fun _ _ f => f)
  clear h
  have H0 := Lib.hid h1
  obtain ⟨bm, inv, outv, h1, h2⟩ := h1
  have HM := Lib.hid hM
  have H1 := Lib.hid h1
  have hra : W1.cell? ⟨b, x.ra.toNat, none⟩ = some (.int .i64 (M.reg x.ra)) := h1.reg hx.a0 hx.a1
  have hrb : W1.cell? ⟨b, x.rb.toNat, none⟩ = some (.int .i64 (M.reg x.rb)) := h1.reg hx.b0 hx.b1
  have hrd : W1.cell? ⟨b, x.rd.toNat, none⟩ = some (.int .i64 (M.reg x.rd)) := h1.reg hx.d0 hx.d1
  have hpc := h1.cpc
  have hf := h1.free
  obtain ⟨c0, c1, c2, c3, c4, cf⟩ := F1.out
  obtain ⟨p, rd, ra, rb, n⟩ := x
  obtain ⟨d0, d1, a0, a1, b0, b1⟩ := hx
  simp only at *
  simp only [Ins.val]
  subst hop
  clear hM h1 cf F1
  go_enter Tryd.func42, Tryd.ntmps42
  go_wp2_with fail
  rw [← hW1]
  clear hW1
  go_region
  go_wp2_with fail
  refine (call_any b O M _ (H0.out.mods ((Mods.refl None _).drew) (fun _ _ f => f))).mono ?_
  rintro e w1 ⟨rfl, hw⟩
  rw [hr]
  obtain ⟨O1, ⟨bm1, inv1, outv1, h3, h4⟩, h5, h6⟩ := hw
  have hpc1 := h3.cpc
  have hf1 := h3.free
  have H3 := Lib.hid h3
  clear h3
  go_wp2
  go_end0
  exact ⟨rfl, Went.before HM.out (Went.before ((Mods.refl None _).drew) (went_next h5 h6 (went_of (H3.out.setPc _) h4 (fun _ h => h) (fun _ h => .inl h) ((Mods.refl _ _).setCell (fun _ => .inl rfl) _))))⟩
set_option maxRecDepth 100000 in
set_option maxHeartbeats 1000000 in
theorem do_ec_no (x : Ins) (hx : Regs x) (hop : x.op = 31) : ∀ (b : Nat) (O : Nat → Prop) (M : Mac) (W : World), Mach W b O M → M.call.2 = false →
    Calls Tryd.prog 42 #[.pointer (some ⟨b, 0, none⟩), x.val] W fun e w' => e = .returned (.tuple #[]) ∧ Went O b (M.act x) W w' := by
  intro b O M W h hr
  have e : M.act x = M.call.1 := by
    simp [Mac.act, hop, hr]
  rw [e]
  clear e
  obtain ⟨W1, hW1⟩ : ∃ W1, W1 = W.alloc (.cells (instCells x.op x.rd x.ra x.rb x.n) 23) := ⟨_, rfl⟩
  have F1 : Hid (Five W1 W.heap.size x.op x.rd x.ra x.rb x.n) := Lib.hid (by rw [hW1]; exact five_new W _ _ _ _ _ 23)
  have hM : Mods None W W1 := by rw [hW1]; exact (Mods.refl _ _).alloc _
  have hgt : b ≠ W.heap.size := by
    obtain ⟨bm, inv, outv, h1, h2⟩ := h
    have := h1.blk.lt
    omega
  have h1 := h.mods hM (fun _ _ f => f)
  clear h
  have H0 := Lib.hid h1
  obtain ⟨bm, inv, outv, h1, h2⟩ := h1
  have HM := Lib.hid hM
  have H1 := Lib.hid h1
  have hra : W1.cell? ⟨b, x.ra.toNat, none⟩ = some (.int .i64 (M.reg x.ra)) := h1.reg hx.a0 hx.a1
  have hrb : W1.cell? ⟨b, x.rb.toNat, none⟩ = some (.int .i64 (M.reg x.rb)) := h1.reg hx.b0 hx.b1
  have hrd : W1.cell? ⟨b, x.rd.toNat, none⟩ = some (.int .i64 (M.reg x.rd)) := h1.reg hx.d0 hx.d1
  have hpc := h1.cpc
  have hf := h1.free
  obtain ⟨c0, c1, c2, c3, c4, cf⟩ := F1.out
  obtain ⟨p, rd, ra, rb, n⟩ := x
  obtain ⟨d0, d1, a0, a1, b0, b1⟩ := hx
  simp only at *
  simp only [Ins.val]
  subst hop
  clear hM h1 cf F1
  go_enter Tryd.func42, Tryd.ntmps42
  go_wp2_with fail
  rw [← hW1]
  clear hW1
  go_region
  go_wp2_with fail
  refine (call_any b O M _ (H0.out.mods ((Mods.refl None _).drew) (fun _ _ f => f))).mono ?_
  rintro e w1 ⟨rfl, hw⟩
  rw [hr]
  go_wp2
  refine bodyPost_ret (results_none rfl _ _ _) rfl ?_
  exact ⟨rfl, Went.before HM.out (Went.before ((Mods.refl None _).drew) hw)⟩
end Go.Proofs.YtgeajgdddjjjnaaDoor.MachP

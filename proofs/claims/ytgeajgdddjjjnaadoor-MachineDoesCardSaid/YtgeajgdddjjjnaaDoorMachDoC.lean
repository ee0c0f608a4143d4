/- The machine does an instruction that loads, stores, or goes far: machine.do. Conditions: that the machine lies in memory. -/
import Derived.Test.YtgeajgdddjjjnaaDoorMachDoHead
namespace Go.Proofs.YtgeajgdddjjjnaaDoor.MachP
open Go.RowKit Go.Proofs.YtgeajgdddjjjnaaDoor.Wo Go.Proofs.YtgeajgdddjjjnaaDoor.WordP Go.Proofs.YtgeajgdddjjjnaaDoor.AluP
set_option linter.unusedVariables false
set_option linter.unusedSimpArgs false

set_option maxRecDepth 100000 in
set_option maxHeartbeats 1000000 in
theorem do_lui (x : Ins) (hx : Regs x) (hop : x.op = 29) : DoSaid x := by
  intro b O M W h
  have e : M.act x = (M.put x.rd x.n).goto (wrap64 (M.pc + 4)) := by
    simp [Mac.act, hop]
  rw [e]
  clear e
  obtain ⟨W1, hW1⟩ : ∃ W1, W1 = W.alloc (.cells (instCells x.op x.rd x.ra x.rb x.n) 23) := ⟨_, rfl⟩
  have F1 : Hid (Five W1 W.heap.size x.op x.rd x.ra x.rb x.n) := Lib.hid (by rw [hW1]; exact five_new W _ _ _ _ _ 23)
  have hM : Mods None W W1 := by rw [hW1]; exact (Mods.refl _ _).alloc _
  have hgt : b ≠ W.heap.size := by
    obtain ⟨bm, inv, outv, h1, h2⟩ := h
    have := h1.blk.lt
    omega
  have h1 := h.mods hM (fun _ _ f => f)
  clear h
  have H0 := Lib.hid h1
  obtain ⟨bm, inv, outv, h1, h2⟩ := h1
  have HM := Lib.hid hM
  have H1 := Lib.hid h1
  have hra : W1.cell? ⟨b, x.ra.toNat, none⟩ = some (.int .i64 (M.reg x.ra)) := h1.reg hx.a0 hx.a1
  have hrb : W1.cell? ⟨b, x.rb.toNat, none⟩ = some (.int .i64 (M.reg x.rb)) := h1.reg hx.b0 hx.b1
  have hrd : W1.cell? ⟨b, x.rd.toNat, none⟩ = some (.int .i64 (M.reg x.rd)) := h1.reg hx.d0 hx.d1
  have hpc := h1.cpc
  have hf := h1.free
  obtain ⟨c0, c1, c2, c3, c4, cf⟩ := F1.out
  obtain ⟨p, rd, ra, rb, n⟩ := x
  obtain ⟨d0, d1, a0, a1, b0, b1⟩ := hx
  simp only at *
  simp only [Ins.val]
  subst hop
  clear hM h1 cf F1
  go_enter Tryd.func42, Tryd.ntmps42
  go_wp2_with fail
  rw [← hW1]
  clear hW1
  go_region
  go_wp2_with fail
  go_region
  all_goals
    go_wp2
    go_end0
    exact ⟨rfl, did HM.out h2 (by repeat (first | with_reducible exact H1.out | with_reducible refine MacAt.drew ?_ | with_reducible refine MacAt.setPc ?_ _ | with_reducible refine MacAt.setWay ?_ _ | with_reducible refine MacAt.setReg ?_ d0 d1 _)) (by repeat (first | with_reducible exact Mods.refl _ _ | with_reducible refine Mods.drew ?_ | with_reducible refine Mods.setCell ?_ (fun _ => .inl rfl) _))⟩
set_option maxRecDepth 100000 in
set_option maxHeartbeats 1000000 in
theorem do_jal (x : Ins) (hx : Regs x) (hop : x.op = 30) : DoSaid x := by
  intro b O M W h
  have e : M.act x = (M.put x.rd (wrap64 (M.pc + 4))).goto (wrap64 (M.pc + x.n)) := by
    simp [Mac.act, hop]
  rw [e]
  clear e
  obtain ⟨W1, hW1⟩ : ∃ W1, W1 = W.alloc (.cells (instCells x.op x.rd x.ra x.rb x.n) 23) := ⟨_, rfl⟩
  have F1 : Hid (Five W1 W.heap.size x.op x.rd x.ra x.rb x.n) := Lib.hid (by rw [hW1]; exact five_new W _ _ _ _ _ 23)
  have hM : Mods None W W1 := by rw [hW1]; exact (Mods.refl _ _).alloc _
  have hgt : b ≠ W.heap.size := by
    obtain ⟨bm, inv, outv, h1, h2⟩ := h
    have := h1.blk.lt
    omega
  have h1 := h.mods hM (fun _ _ f => f)
  clear h
  have H0 := Lib.hid h1
  obtain ⟨bm, inv, outv, h1, h2⟩ := h1
  have HM := Lib.hid hM
  have H1 := Lib.hid h1
  have hra : W1.cell? ⟨b, x.ra.toNat, none⟩ = some (.int .i64 (M.reg x.ra)) := h1.reg hx.a0 hx.a1
  have hrb : W1.cell? ⟨b, x.rb.toNat, none⟩ = some (.int .i64 (M.reg x.rb)) := h1.reg hx.b0 hx.b1
  have hrd : W1.cell? ⟨b, x.rd.toNat, none⟩ = some (.int .i64 (M.reg x.rd)) := h1.reg hx.d0 hx.d1
  have hpc := h1.cpc
  have hf := h1.free
  obtain ⟨c0, c1, c2, c3, c4, cf⟩ := F1.out
  obtain ⟨p, rd, ra, rb, n⟩ := x
  obtain ⟨d0, d1, a0, a1, b0, b1⟩ := hx
  simp only at *
  simp only [Ins.val]
  subst hop
  clear hM h1 cf F1
  go_enter Tryd.func42, Tryd.ntmps42
  go_wp2_with fail
  rw [← hW1]
  clear hW1
  go_region
  go_wp2_with fail
  go_region
  all_goals
    go_wp2
    go_end0
    exact ⟨rfl, did HM.out h2 (by repeat (first | with_reducible exact H1.out | with_reducible refine MacAt.drew ?_ | with_reducible refine MacAt.setPc ?_ _ | with_reducible refine MacAt.setWay ?_ _ | with_reducible refine MacAt.setReg ?_ d0 d1 _)) (by repeat (first | with_reducible exact Mods.refl _ _ | with_reducible refine Mods.drew ?_ | with_reducible refine Mods.setCell ?_ (fun _ => .inl rfl) _))⟩
set_option maxRecDepth 100000 in
set_option maxHeartbeats 1000000 in
theorem do_jalr (x : Ins) (hx : Regs x) (hop : x.op = 23) : DoSaid x := by
  intro b O M W h
  have e : M.act x = (M.put x.rd (wrap64 (M.pc + 4))).goto (even (wrap64 (M.reg x.ra + x.n))) := by
    simp [Mac.act, hop]
  rw [e]
  clear e
  have HA : Hid (bits .andNot .i64 (wrap64 (M.reg x.ra + x.n)) 1 = even (wrap64 (M.reg x.ra + x.n))) := Lib.hid (andNot_one _ (wrap64_bd _))
  obtain ⟨W1, hW1⟩ : ∃ W1, W1 = W.alloc (.cells (instCells x.op x.rd x.ra x.rb x.n) 23) := ⟨_, rfl⟩
  have F1 : Hid (Five W1 W.heap.size x.op x.rd x.ra x.rb x.n) := Lib.hid (by rw [hW1]; exact five_new W _ _ _ _ _ 23)
  have hM : Mods None W W1 := by rw [hW1]; exact (Mods.refl _ _).alloc _
  have hgt : b ≠ W.heap.size := by
    obtain ⟨bm, inv, outv, h1, h2⟩ := h
    have := h1.blk.lt
    omega
  have h1 := h.mods hM (fun _ _ f => f)
  clear h
  have H0 := Lib.hid h1
  obtain ⟨bm, inv, outv, h1, h2⟩ := h1
  have HM := Lib.hid hM
  have H1 := Lib.hid h1
  have hra : W1.cell? ⟨b, x.ra.toNat, none⟩ = some (.int .i64 (M.reg x.ra)) := h1.reg hx.a0 hx.a1
  have hrb : W1.cell? ⟨b, x.rb.toNat, none⟩ = some (.int .i64 (M.reg x.rb)) := h1.reg hx.b0 hx.b1
  have hrd : W1.cell? ⟨b, x.rd.toNat, none⟩ = some (.int .i64 (M.reg x.rd)) := h1.reg hx.d0 hx.d1
  have hpc := h1.cpc
  have hf := h1.free
  obtain ⟨c0, c1, c2, c3, c4, cf⟩ := F1.out
  obtain ⟨p, rd, ra, rb, n⟩ := x
  obtain ⟨d0, d1, a0, a1, b0, b1⟩ := hx
  simp only at *
  simp only [Ins.val]
  subst hop
  clear hM h1 cf F1
  go_enter Tryd.func42, Tryd.ntmps42
  go_wp2_with fail
  rw [← hW1]
  clear hW1
  go_region
  go_wp2_with fail
  go_region
  all_goals
    go_wp2
    go_end0
    rw [← HA.out]
    exact ⟨rfl, did HM.out h2 (by repeat (first | with_reducible exact H1.out | with_reducible refine MacAt.drew ?_ | with_reducible refine MacAt.setPc ?_ _ | with_reducible refine MacAt.setWay ?_ _ | with_reducible refine MacAt.setReg ?_ d0 d1 _)) (by repeat (first | with_reducible exact Mods.refl _ _ | with_reducible refine Mods.drew ?_ | with_reducible refine Mods.setCell ?_ (fun _ => .inl rfl) _))⟩
set_option maxRecDepth 100000 in
set_option maxHeartbeats 1000000 in
theorem do_ld_yes (x : Ins) (hx : Regs x) (hop : x.op = 22) : ∀ (b : Nat) (O : Nat → Prop) (M : Mac) (W : World), Mach W b O M → M.right (wrap64 (M.reg x.ra + x.n)) 8 = true →
    Calls Tryd.prog 42 #[.pointer (some ⟨b, 0, none⟩), x.val] W fun e w' => e = .returned (.tuple #[]) ∧ Went O b (M.act x) W w' := by
  intro b O M W h hr
  have e : M.act x = (M.put x.rd (M.load (wrap64 (M.reg x.ra + x.n)))).goto (wrap64 (M.pc + 4)) := by
    simp [Mac.act, hop, hr]
  rw [e]
  clear e
  obtain ⟨W1, hW1⟩ : ∃ W1, W1 = W.alloc (.cells (instCells x.op x.rd x.ra x.rb x.n) 23) := ⟨_, rfl⟩
  have F1 : Hid (Five W1 W.heap.size x.op x.rd x.ra x.rb x.n) := Lib.hid (by rw [hW1]; exact five_new W _ _ _ _ _ 23)
  have hM : Mods None W W1 := by rw [hW1]; exact (Mods.refl _ _).alloc _
  have hgt : b ≠ W.heap.size := by
    obtain ⟨bm, inv, outv, h1, h2⟩ := h
    have := h1.blk.lt
    omega
  have h1 := h.mods hM (fun _ _ f => f)
  clear h
  have H0 := Lib.hid h1
  obtain ⟨bm, inv, outv, h1, h2⟩ := h1
  have HM := Lib.hid hM
  have H1 := Lib.hid h1
  have hra : W1.cell? ⟨b, x.ra.toNat, none⟩ = some (.int .i64 (M.reg x.ra)) := h1.reg hx.a0 hx.a1
  have hrb : W1.cell? ⟨b, x.rb.toNat, none⟩ = some (.int .i64 (M.reg x.rb)) := h1.reg hx.b0 hx.b1
  have hrd : W1.cell? ⟨b, x.rd.toNat, none⟩ = some (.int .i64 (M.reg x.rd)) := h1.reg hx.d0 hx.d1
  have hpc := h1.cpc
  have hf := h1.free
  obtain ⟨c0, c1, c2, c3, c4, cf⟩ := F1.out
  obtain ⟨p, rd, ra, rb, n⟩ := x
  obtain ⟨d0, d1, a0, a1, b0, b1⟩ := hx
  simp only at *
  simp only [Ins.val]
  subst hop
  clear hM h1 cf F1
  go_enter Tryd.func42, Tryd.ntmps42
  go_wp2_with fail
  rw [← hW1]
  clear hW1
  go_region
  go_wp2_with (go_at_call 16; refine (load_at H1.out.drew hr).mono ?_; rintro e w' ⟨rfl, rfl⟩)
  go_region
  all_goals
    go_wp2
    go_end0
    exact ⟨rfl, did HM.out h2 (by repeat (first | with_reducible exact H1.out | with_reducible refine MacAt.drew ?_ | with_reducible refine MacAt.setPc ?_ _ | with_reducible refine MacAt.setWay ?_ _ | with_reducible refine MacAt.setReg ?_ d0 d1 _)) (by repeat (first | with_reducible exact Mods.refl _ _ | with_reducible refine Mods.drew ?_ | with_reducible refine Mods.setCell ?_ (fun _ => .inl rfl) _))⟩
set_option maxRecDepth 100000 in
set_option maxHeartbeats 1000000 in
theorem do_ld_no (x : Ins) (hx : Regs x) (hop : x.op = 22) : ∀ (b : Nat) (O : Nat → Prop) (M : Mac) (W : World), Mach W b O M → M.right (wrap64 (M.reg x.ra + x.n)) 8 = false →
    Calls Tryd.prog 42 #[.pointer (some ⟨b, 0, none⟩), x.val] W fun e w' => e = .returned (.tuple #[]) ∧ Went O b (M.act x) W w' := by
  intro b O M W h hr
  have e : M.act x = M.fault := by
    simp [Mac.act, hop, hr]
  rw [e]
  clear e
  obtain ⟨W1, hW1⟩ : ∃ W1, W1 = W.alloc (.cells (instCells x.op x.rd x.ra x.rb x.n) 23) := ⟨_, rfl⟩
  have F1 : Hid (Five W1 W.heap.size x.op x.rd x.ra x.rb x.n) := Lib.hid (by rw [hW1]; exact five_new W _ _ _ _ _ 23)
  have hM : Mods None W W1 := by rw [hW1]; exact (Mods.refl _ _).alloc _
  have hgt : b ≠ W.heap.size := by
    obtain ⟨bm, inv, outv, h1, h2⟩ := h
    have := h1.blk.lt
    omega
  have h1 := h.mods hM (fun _ _ f => f)
  clear h
  have H0 := Lib.hid h1
  obtain ⟨bm, inv, outv, h1, h2⟩ := h1
  have HM := Lib.hid hM
  have H1 := Lib.hid h1
  have hra : W1.cell? ⟨b, x.ra.toNat, none⟩ = some (.int .i64 (M.reg x.ra)) := h1.reg hx.a0 hx.a1
  have hrb : W1.cell? ⟨b, x.rb.toNat, none⟩ = some (.int .i64 (M.reg x.rb)) := h1.reg hx.b0 hx.b1
  have hrd : W1.cell? ⟨b, x.rd.toNat, none⟩ = some (.int .i64 (M.reg x.rd)) := h1.reg hx.d0 hx.d1
  have hpc := h1.cpc
  have hf := h1.free
  obtain ⟨c0, c1, c2, c3, c4, cf⟩ := F1.out
  obtain ⟨p, rd, ra, rb, n⟩ := x
  obtain ⟨d0, d1, a0, a1, b0, b1⟩ := hx
  simp only at *
  simp only [Ins.val]
  subst hop
  clear hM h1 cf F1
  go_enter Tryd.func42, Tryd.ntmps42
  go_wp2_with fail
  rw [← hW1]
  clear hW1
  go_region
  go_wp2_with (first | (go_at_call 16; refine (load_not H1.out.drew hr).mono ?_; rintro e w' ⟨rfl, rfl⟩) | (go_at_call 41; refine (fault_mach b O M _ (H0.out.mods ((Mods.refl None _).drew) (fun _ _ f => f))).mono ?_; rintro e w' ⟨rfl, hw⟩))
  refine bodyPost_ret (results_none rfl _ _ _) rfl ?_
  exact ⟨rfl, Went.before HM.out (Went.before ((Mods.refl None _).drew) hw)⟩
set_option maxRecDepth 100000 in
set_option maxHeartbeats 1000000 in
theorem do_sd_yes (x : Ins) (hx : Regs x) (hop : x.op = 24) : ∀ (b : Nat) (O : Nat → Prop) (M : Mac) (W : World), Mach W b O M → M.right (wrap64 (M.reg x.ra + x.n)) 8 = true →
    Calls Tryd.prog 42 #[.pointer (some ⟨b, 0, none⟩), x.val] W fun e w' => e = .returned (.tuple #[]) ∧ Went O b (M.act x) W w' := by
  intro b O M W h hr
  have e : M.act x = (M.store (wrap64 (M.reg x.ra + x.n)) (M.reg x.rb)).goto (wrap64 (M.pc + 4)) := by
    simp [Mac.act, hop, hr]
  rw [e]
  clear e
  obtain ⟨W1, hW1⟩ : ∃ W1, W1 = W.alloc (.cells (instCells x.op x.rd x.ra x.rb x.n) 23) := ⟨_, rfl⟩
  have F1 : Hid (Five W1 W.heap.size x.op x.rd x.ra x.rb x.n) := Lib.hid (by rw [hW1]; exact five_new W _ _ _ _ _ 23)
  have hM : Mods None W W1 := by rw [hW1]; exact (Mods.refl _ _).alloc _
  have hgt : b ≠ W.heap.size := by
    obtain ⟨bm, inv, outv, h1, h2⟩ := h
    have := h1.blk.lt
    omega
  have h1 := h.mods hM (fun _ _ f => f)
  clear h
  have H0 := Lib.hid h1
  obtain ⟨bm, inv, outv, h1, h2⟩ := h1
  have HM := Lib.hid hM
  have H1 := Lib.hid h1
  have hra : W1.cell? ⟨b, x.ra.toNat, none⟩ = some (.int .i64 (M.reg x.ra)) := h1.reg hx.a0 hx.a1
  have hrb : W1.cell? ⟨b, x.rb.toNat, none⟩ = some (.int .i64 (M.reg x.rb)) := h1.reg hx.b0 hx.b1
  have hrd : W1.cell? ⟨b, x.rd.toNat, none⟩ = some (.int .i64 (M.reg x.rd)) := h1.reg hx.d0 hx.d1
  have hpc := h1.cpc
  have hf := h1.free
  obtain ⟨c0, c1, c2, c3, c4, cf⟩ := F1.out
  obtain ⟨p, rd, ra, rb, n⟩ := x
  obtain ⟨d0, d1, a0, a1, b0, b1⟩ := hx
  simp only at *
  simp only [Ins.val]
  subst hop
  clear hM h1 cf F1
  go_enter Tryd.func42, Tryd.ntmps42
  go_wp2_with fail
  rw [← hW1]
  clear hW1
  go_region
  go_wp2_with fail
  refine (store_at H1.out.drew _ hr).mono ?_
  rintro e w1 ⟨rfl, h3, hm3⟩
  have hpc1 := h3.cpc
  have hf1 := h3.free
  have H3 := Lib.hid h3
  clear h3
  go_wp2
  go_end0
  exact ⟨rfl, did HM.out h2 (H3.out.setPc _) ((((Mods.refl _ _).drew).trans (hm3.mono fun k _ hk => .inr (.inl hk))).setCell (fun _ => .inl rfl) _)⟩
set_option maxRecDepth 100000 in
set_option maxHeartbeats 1000000 in
theorem do_sd_no (x : Ins) (hx : Regs x) (hop : x.op = 24) : ∀ (b : Nat) (O : Nat → Prop) (M : Mac) (W : World), Mach W b O M → M.right (wrap64 (M.reg x.ra + x.n)) 8 = false →
    Calls Tryd.prog 42 #[.pointer (some ⟨b, 0, none⟩), x.val] W fun e w' => e = .returned (.tuple #[]) ∧ Went O b (M.act x) W w' := by
  intro b O M W h hr
  have e : M.act x = M.fault := by
    simp [Mac.act, hop, hr]
  rw [e]
  clear e
  obtain ⟨W1, hW1⟩ : ∃ W1, W1 = W.alloc (.cells (instCells x.op x.rd x.ra x.rb x.n) 23) := ⟨_, rfl⟩
  have F1 : Hid (Five W1 W.heap.size x.op x.rd x.ra x.rb x.n) := Lib.hid (by rw [hW1]; exact five_new W _ _ _ _ _ 23)
  have hM : Mods None W W1 := by rw [hW1]; exact (Mods.refl _ _).alloc _
  have hgt : b ≠ W.heap.size := by
    obtain ⟨bm, inv, outv, h1, h2⟩ := h
    have := h1.blk.lt
    omega
  have h1 := h.mods hM (fun _ _ f => f)
  clear h
  have H0 := Lib.hid h1
  obtain ⟨bm, inv, outv, h1, h2⟩ := h1
  have HM := Lib.hid hM
  have H1 := Lib.hid h1
  have hra : W1.cell? ⟨b, x.ra.toNat, none⟩ = some (.int .i64 (M.reg x.ra)) := h1.reg hx.a0 hx.a1
  have hrb : W1.cell? ⟨b, x.rb.toNat, none⟩ = some (.int .i64 (M.reg x.rb)) := h1.reg hx.b0 hx.b1
  have hrd : W1.cell? ⟨b, x.rd.toNat, none⟩ = some (.int .i64 (M.reg x.rd)) := h1.reg hx.d0 hx.d1
  have hpc := h1.cpc
  have hf := h1.free
  obtain ⟨c0, c1, c2, c3, c4, cf⟩ := F1.out
  obtain ⟨p, rd, ra, rb, n⟩ := x
  obtain ⟨d0, d1, a0, a1, b0, b1⟩ := hx
  simp only at *
  simp only [Ins.val]
  subst hop
  clear hM h1 cf F1
  go_enter Tryd.func42, Tryd.ntmps42
  go_wp2_with fail
  rw [← hW1]
  clear hW1
  go_region
  go_wp2_with (first | (go_at_call 17; refine (store_not H1.out.drew _ hr).mono ?_; rintro e w' ⟨rfl, rfl⟩) | (go_at_call 41; refine (fault_mach b O M _ (H0.out.mods ((Mods.refl None _).drew) (fun _ _ f => f))).mono ?_; rintro e w' ⟨rfl, hw⟩))
  refine bodyPost_ret (results_none rfl _ _ _) rfl ?_
  exact ⟨rfl, Went.before HM.out (Went.before ((Mods.refl None _).drew) hw)⟩
end Go.Proofs.YtgeajgdddjjjnaaDoor.MachP

/- The machine does an instruction of two registers: machine.do. Conditions: that the machine lies in memory. -/
import Derived.Test.YtgeajgdddjjjnaaDoorMachDoHead
namespace Go.Proofs.YtgeajgdddjjjnaaDoor.MachP
open Go.RowKit Go.Proofs.YtgeajgdddjjjnaaDoor.Wo Go.Proofs.YtgeajgdddjjjnaaDoor.WordP Go.Proofs.YtgeajgdddjjjnaaDoor.AluP
set_option linter.unusedVariables false
set_option linter.unusedSimpArgs false

set_option maxRecDepth 100000 in
set_option maxHeartbeats 1000000 in
theorem do_alu (x : Ins) (hx : Regs x) (h13 : x.op ≤ 13) : DoSaid x := by
  intro b O M W h
  have e : M.act x = (M.put x.rd (alu x.op (M.reg x.ra) (M.reg x.rb))).goto (wrap64 (M.pc + 4)) := by
    simp [Mac.act, h13]
  rw [e]
  clear e
  obtain ⟨W1, hW1⟩ : ∃ W1, W1 = W.alloc (.cells (instCells x.op x.rd x.ra x.rb x.n) 23) := ⟨_, rfl⟩
  have F1 : Hid (Five W1 W.heap.size x.op x.rd x.ra x.rb x.n) := Lib.hid (by rw [hW1]; exact five_new W _ _ _ _ _ 23)
  have hM : Mods None W W1 := by rw [hW1]; exact (Mods.refl _ _).alloc _
  have hgt : b ≠ W.heap.size := by
    obtain ⟨bm, inv, outv, h1, h2⟩ := h
    have := h1.blk.lt
    omega
  have h1 := h.mods hM (fun _ _ f => f)
  clear h
  have H0 := Lib.hid h1
  obtain ⟨bm, inv, outv, h1, h2⟩ := h1
  have HM := Lib.hid hM
  have H1 := Lib.hid h1
  have hra : W1.cell? ⟨b, x.ra.toNat, none⟩ = some (.int .i64 (M.reg x.ra)) := h1.reg hx.a0 hx.a1
  have hrb : W1.cell? ⟨b, x.rb.toNat, none⟩ = some (.int .i64 (M.reg x.rb)) := h1.reg hx.b0 hx.b1
  have hrd : W1.cell? ⟨b, x.rd.toNat, none⟩ = some (.int .i64 (M.reg x.rd)) := h1.reg hx.d0 hx.d1
  have hpc := h1.cpc
  have hf := h1.free
  obtain ⟨c0, c1, c2, c3, c4, cf⟩ := F1.out
  obtain ⟨p, rd, ra, rb, n⟩ := x
  obtain ⟨d0, d1, a0, a1, b0, b1⟩ := hx
  simp only at *
  simp only [Ins.val]
  clear hM h1 cf F1
  go_enter Tryd.func42, Tryd.ntmps42
  go_wp2_with fail
  rw [← hW1]
  clear hW1
  go_region
  go_wp2_with fail
  go_region_with ((go_at_call 56; refine (alu_any _ _ _ _).mono ?_; rintro e w' ⟨rfl, rfl⟩))
  all_goals
    go_wp2
    go_end0
    exact ⟨rfl, did HM.out h2 (by repeat (first | with_reducible exact H1.out | with_reducible refine MacAt.drew ?_ | with_reducible refine MacAt.setPc ?_ _ | with_reducible refine MacAt.setWay ?_ _ | with_reducible refine MacAt.setReg ?_ d0 d1 _)) (by repeat (first | with_reducible exact Mods.refl _ _ | with_reducible refine Mods.drew ?_ | with_reducible refine Mods.setCell ?_ (fun _ => .inl rfl) _))⟩
end Go.Proofs.YtgeajgdddjjjnaaDoor.MachP

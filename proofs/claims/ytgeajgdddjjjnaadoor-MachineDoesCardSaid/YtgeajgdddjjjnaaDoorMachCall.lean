/- The machine's call: a contract of machine.call, of any machine that lies in memory. Conditions: that it does. -/
import Derived.Test.YtgeajgdddjjjnaaDoorMachAt
import Derived.Deep.AppendLies
import Derived.Deep.RegionLaw
namespace Go.Proofs.YtgeajgdddjjjnaaDoor.MachP
open Go.RowKit Go.Proofs.YtgeajgdddjjjnaaDoor.Wo Go.Proofs.YtgeajgdddjjjnaaDoor.WordP
set_option linter.unusedVariables false
set_option linter.unusedSimpArgs false

theorem went_of {W w' : World} {b bm : Nat} {O : Nat → Prop} {inv outv inv' outv' : Value} {M' : Mac} (h : MacAt w' b bm inv' outv' M') (h2 : Own W b O bm inv outv) (hi : ∀ k, inv'.ownBlock = some k → inv.ownBlock = some k)
    (ho : ∀ k, outv'.ownBlock = some k → outv.ownBlock = some k ∨ W.heap.size ≤ k) (hm : Mods (fun k => k = b ∨ k = bm ∨ outv.ownBlock = some k) W w') : Went O b M' W w' := by
  refine ⟨fun k => O k ∨ (W.heap.size ≤ k ∧ outv'.ownBlock = some k), ⟨bm, inv', outv', h, ?_, .inl h2.b, .inl h2.bm, fun k hk => .inl (h2.inv k (hi k hk)), fun k hk => ?_⟩, fun k hk => ?_, hm.mono fun k hk hs => ?_⟩
  · intro k hk
    rcases hk with hk | hk
    · exact Nat.lt_of_lt_of_le (h2.lt k hk) hm.size
    · exact h.outlt k hk.2
  · rcases ho k hk with h3 | h3
    · exact .inl (h2.outv k h3)
    · exact .inr ⟨h3, hk⟩
  · rcases hk with hk | hk
    · exact .inl hk
    · exact .inr hk.1
  · rcases hs with rfl | rfl | hs
    · exact h2.b
    · exact h2.bm
    · exact h2.outv k hs
theorem out_form {W : World} {outv : Value} {n : Nat} {xs : List Value} (h : W.ownsRow 0 2 1 outv n xs) : outv = .slice none 0 0 ∧ n = 0 ∨ ∃ g cap, outv = .slice (some ⟨g, 0, none⟩) n cap := by
  rcases h.2 with h | ⟨g, cap, cur, hv, _⟩
  · exact .inl h
  · exact .inr ⟨g, cap, hv⟩
theorem Tryd.info2 : (Tryd.prog.info? 2).map (fun i => (i.zero, i.size, i.bytes)) = some (some (.int .i64 0), 1, 8) := by kernel_rfl
theorem fault_mach (b : Nat) (O : Nat → Prop) (M : Mac) (W : World) (h : Mach W b O M) :
    Calls Tryd.prog 41 #[.pointer (some ⟨b, 0, none⟩)] W fun e w' => e = .returned (.tuple #[]) ∧ Went O b M.fault W w' := by
  obtain ⟨bm, inv, outv, h1, h2⟩ := h
  refine (fault_any b _ W h1.cway (h1.free 35)).mono ?_
  rintro e w' ⟨rfl, rfl⟩
  exact ⟨rfl, went_of (h1.setWay 9) h2 (fun _ h => h) (fun _ h => .inl h) ((Mods.refl _ _).setCell (fun _ => .inl rfl) _)⟩
/-- What an append onto what was told has made. -/
theorem told_went {W w1 : World} {b bm : Nat} {O : Nat → Prop} {inv outv : Value} {M : Mac} (x : Int) (H4 : MacAt W b bm inv outv M) (h5 : Own W b O bm inv outv) (hn : M.out.length < 200) (c : Array Value) (t : TypeId) (g cap : Nat)
    (hown : w1.ownsRow 0 2 1 (.slice (some ⟨g, 0, none⟩) (M.out.length + 1) cap) (M.out.length + 1) (M.out.map (.int .i64) ++ [.int .i64 x])) (hgrow : (W.alloc (.cells c t)).drew.grownBy w1 outv.ownBlock) (hat : outv.ownBlock = some g ∨ g = W.heap.size + 1) :
    Went O b { M with out := M.out ++ [x] } W (w1.setCell ⟨b, 37, none⟩ (.slice (some ⟨g, 0, none⟩) (M.out.length + 1) cap)) := by
  have hm0 : Mods (fun k => outv.ownBlock = some k) (W.alloc (.cells c t)).drew w1 := Mods.of_grownBy hgrow (fun k hk _ => hk)
  have hm : Mods (fun k => outv.ownBlock = some k) (W.alloc (.cells c t)) w1 := ⟨hm0.os, hm0.output, hm0.size, hm0.block⟩
  have hb := H4.blk.lt
  have hbm := H4.mem.lt
  have h6 : Blk w1 b (macCells M bm inv outv) 82 := (H4.blk.alloc _).mods hm (fun e => (H4.a2 _ e).1 rfl)
  have h7 : Blk w1 bm (M.mem.map (.int .u8)) 5 := (H4.mem.alloc _).mods hm (fun e => (H4.a2 _ e).2 rfl)
  have h8 : IntsAt w1 inv M.ins := (H4.alloc (.cells c t)).ins.mods hm (fun k hk e => (H4.a3 k hk).2.2 e)
  have h9 : ∀ k, inv.ownBlock = some k → k < W.heap.size := fun k hk => h5.lt k (h5.inv k hk)
  have hgb : g ≠ b ∧ g ≠ bm ∧ inv.ownBlock ≠ some g := by
    rcases hat with hat | rfl
    · exact ⟨(H4.a2 g hat).1, (H4.a2 g hat).2, fun e => (H4.a3 g e).2.2 hat⟩
    · exact ⟨by omega, by omega, fun e => by have := h9 _ e; omega⟩
  have hm2 : Mods (fun k => k = b ∨ k = bm ∨ outv.ownBlock = some k) W w1 := ((Mods.refl _ _).alloc _).trans (hm.mono fun k _ hk => .inr (.inr hk))
  have hm3 : Mods (· = b) w1 (w1.setCell ⟨b, 37, none⟩ (.slice (some ⟨g, 0, none⟩) (M.out.length + 1) cap)) := Mods.setCell (S := (· = b)) (p := ⟨b, 37, none⟩) (Mods.refl _ _) (fun _ => rfl) _
  have hat2 : MacAt (w1.setCell ⟨b, 37, none⟩ (.slice (some ⟨g, 0, none⟩) (M.out.length + 1) cap)) b bm inv (.slice (some ⟨g, 0, none⟩) (M.out.length + 1) cap) { M with out := M.out ++ [x] } := by
    refine ⟨⟨H4.ok.regs, H4.ok.byte, H4.ok.size⟩, ?_, h7.mods hm3 H4.a1, h8.mods hm3 (fun k hk => (H4.a3 k hk).1), ?_, H4.a1, ?_, ?_, ?_⟩
    · have := h6.set 37 (.slice (some ⟨g, 0, none⟩) (M.out.length + 1) cap)
      rw [set_tail H4.ok 5 _ (M' := { M with out := M.out ++ [x] }) rfl rfl] at this
      exact this
    · refine hm3.ownsRow ?_ (fun k hk => ?_)
      · simpa using hown
      · obtain rfl : g = k := by simpa [Value.ownBlock] using hk
        exact hgb.1
    · intro k hk
      obtain rfl : g = k := by simpa [Value.ownBlock] using hk
      exact ⟨hgb.1, hgb.2.1⟩
    · intro k hk
      refine ⟨(H4.a3 k hk).1, (H4.a3 k hk).2.1, fun e => ?_⟩
      obtain rfl : g = k := by simpa [Value.ownBlock] using e
      exact hgb.2.2 hk
    · simp; omega
  refine (went_of hat2 h5 (fun _ h => h) (fun k hk => ?_) (hm2.trans (hm3.mono fun k _ hk => .inl hk)))
  obtain rfl : g = k := by simpa [Value.ownBlock] using hk
  rcases hat with hat | rfl
  · exact .inl hat
  · exact .inr (by omega)
set_option maxRecDepth 100000 in
set_option maxHeartbeats 400000 in
theorem call_1tell (b : Nat) (O : Nat → Prop) (M : Mac) (W : World) (h : Mach W b O M) (h1 : M.reg 17 = 1) (hn : M.out.length < 200) :
    Calls Tryd.prog 57 #[.pointer (some ⟨b, 0, none⟩)] W fun e w' => e = .returned (.bool M.call.2) ∧ Went O b M.call.1 W w' := by
  have e : M.call = ({ M with out := M.out ++ [M.reg 10] }, true) := by
    simp [Mac.call, h1]; omega
  rw [e]
  obtain ⟨bm, inv, outv, h4, h5⟩ := h
  have hc : W.cell? ⟨b, 17, none⟩ = some (.int .i64 (M.reg 17)) := h4.reg (n := 17) (by decide) (by decide)
  have hc10 : W.cell? ⟨b, 10, none⟩ = some (.int .i64 (M.reg 10)) := h4.reg (n := 10) (by decide) (by decide)
  have hco := h4.cout
  have H4 := Lib.hid h4
  have hb := h4.blk.lt
  have HO := Lib.hid h4.out
  have HF := Lib.hid (out_form h4.out)
  rw [h1] at hc
  clear h4 e h1
  obtain ⟨i0, hi, hz0, hz1, hz2⟩ := info_parts Tryd.info2
  rcases HF.out with ⟨hv, h6⟩ | ⟨g, cap, hv⟩
  · subst hv
    have H6 := Lib.hid h6
    clear h6 HF
    go_enter Tryd.func57, Tryd.ntmps57
    go_wp2
    go_region_law (refine step_append_lies _ rfl (.tmp 27) (.tmp 33) 45 rfl 0 2 i0 (.int .i64 0) 1 8 Tryd.underlying45 hi hz0 hz1 hz2 rfl (by decide) (.slice none 0 0) M.out.length (M.out.map (.int .i64)) (by simp [Act.eval, Act.put]) (HO.out.alloc _) ⟨W.heap.size, 0, none⟩ 1 1 [.int .i64 (M.reg 10)] (by simp [Act.eval, Act.put]) rfl (World.news_of_block (cs := #[.int .i64 (M.reg 10)]) (heap_alloc_new W _)) (fun u hu => by simp at hu; subst hu; rfl) (by omega) (by unfold maxLen; omega) (by omega) (Nat.zero_le _) (W.heap.size + 1) (by simp) ?_; intro g' cap' w1 hown hgrow hat hlt; have hcw := hgrow.cell (a := ⟨b, 37, none⟩) (H4.out.alloc _).drew.cout (by simp [Value.ownBlock]); have hfw := (((H4.out.blk.alloc _).drew.mods (S := fun _ => False) (Mods.of_grownBy hgrow (fun k hk _ => by simp [Value.ownBlock] at hk)) (fun f => f)).free 37))
    all_goals
      go_wp2
      go_ret
      exact ⟨rfl, told_went _ H4.out h5 hn _ _ _ _ hown hgrow hat⟩
  · subst hv
    have hgb : g ≠ b := (H4.out.a2 g rfl).1
    clear HF
    go_enter Tryd.func57, Tryd.ntmps57
    go_wp2
    go_region_law (refine step_append_lies _ rfl (.tmp 27) (.tmp 33) 45 rfl 0 2 i0 (.int .i64 0) 1 8 Tryd.underlying45 hi hz0 hz1 hz2 rfl (by decide) (.slice (some ⟨g, 0, none⟩) M.out.length cap) M.out.length (M.out.map (.int .i64)) (by simp [Act.eval, Act.put]) (HO.out.alloc _) ⟨W.heap.size, 0, none⟩ 1 1 [.int .i64 (M.reg 10)] (by simp [Act.eval, Act.put]) rfl (World.news_of_block (cs := #[.int .i64 (M.reg 10)]) (heap_alloc_new W _)) (fun u hu => by simp at hu; subst hu; rfl) (by omega) (by unfold maxLen; omega) (by omega) (Nat.zero_le _) (W.heap.size + 1) (by simp) ?_; intro g' cap' w1 hown hgrow hat hlt; have hcw := hgrow.cell (a := ⟨b, 37, none⟩) (H4.out.alloc _).drew.cout (by simp [Value.ownBlock]; omega); have hfw := (((H4.out.blk.alloc _).drew.mods (S := (· = g)) (Mods.of_grownBy hgrow (fun k hk _ => by simp [Value.ownBlock] at hk; exact hk.symm)) hgb.symm).free 37))
    all_goals
      go_wp2
      go_ret
      exact ⟨rfl, told_went _ H4.out h5 hn _ _ _ _ hown hgrow hat⟩
set_option maxHeartbeats 400000 in
theorem call_other (b : Nat) (O : Nat → Prop) (M : Mac) (W : World) (h : Mach W b O M) (h1 : (M.reg 17 == 1) = false) (h2 : (M.reg 17 == 2) = false) (h3 : (M.reg 17 == 3) = false) :
    Calls Tryd.prog 57 #[.pointer (some ⟨b, 0, none⟩)] W fun e w' => e = .returned (.bool M.call.2) ∧ Went O b M.call.1 W w' := by
  have hF := fault_mach b O M W h
  have e : M.call = (M.fault, false) := by
    simp only [beq_eq_false_iff_ne] at h1 h2 h3
    simp [Mac.call, h1, h2, h3]
  rw [e]
  obtain ⟨bm, inv, outv, h4, _⟩ := h
  have hc : W.cell? ⟨b, 17, none⟩ = some (.int .i64 (M.reg 17)) := h4.reg (n := 17) (by decide) (by decide)
  have HF := Lib.hid hF
  clear hF h4 e
  go_enter Tryd.func57, Tryd.ntmps57
  go_wp2_with (go_at_call 41; refine HF.out.mono ?_; rintro e w' ⟨rfl, hw⟩)
  go_ret
  exact ⟨rfl, hw⟩
set_option maxHeartbeats 400000 in
theorem call_3no (b : Nat) (O : Nat → Prop) (M : Mac) (W : World) (h : Mach W b O M) (h3 : M.reg 17 = 3) (hw : ¬ (1 ≤ M.reg 10 ∧ M.reg 10 ≤ 8)) :
    Calls Tryd.prog 57 #[.pointer (some ⟨b, 0, none⟩)] W fun e w' => e = .returned (.bool M.call.2) ∧ Went O b M.call.1 W w' := by
  have hF := fault_mach b O M W h
  have e : M.call = (M.fault, false) := by
    simp [Mac.call, h3, hw]
  rw [e]
  obtain ⟨bm, inv, outv, h4, _⟩ := h
  have hc : W.cell? ⟨b, 17, none⟩ = some (.int .i64 (M.reg 17)) := h4.reg (n := 17) (by decide) (by decide)
  have hc10 : W.cell? ⟨b, 10, none⟩ = some (.int .i64 (M.reg 10)) := h4.reg (n := 10) (by decide) (by decide)
  rw [h3] at hc
  have HF := Lib.hid hF
  clear hF h4 e h3
  by_cases hlo : 1 ≤ M.reg 10
  · have hhi : ¬ M.reg 10 ≤ 8 := fun f => hw ⟨hlo, f⟩
    clear hw
    go_enter Tryd.func57, Tryd.ntmps57
    go_wp2_with (go_at_call 41; refine HF.out.mono ?_; rintro e w' ⟨rfl, hw⟩)
    go_ret
    exact ⟨rfl, hw⟩
  · clear hw
    go_enter Tryd.func57, Tryd.ntmps57
    go_wp2_with (go_at_call 41; refine HF.out.mono ?_; rintro e w' ⟨rfl, hw⟩)
    go_ret
    exact ⟨rfl, hw⟩
set_option maxHeartbeats 400000 in
theorem call_3yes (b : Nat) (O : Nat → Prop) (M : Mac) (W : World) (h : Mach W b O M) (h3 : M.reg 17 = 3) (h1 : 1 ≤ M.reg 10) (h8 : M.reg 10 ≤ 8) :
    Calls Tryd.prog 57 #[.pointer (some ⟨b, 0, none⟩)] W fun e w' => e = .returned (.bool M.call.2) ∧ Went O b M.call.1 W w' := by
  have e : M.call = ({ M with way := M.reg 10, code := M.reg 11 }, false) := by
    simp [Mac.call, h3, h1, h8]
  rw [e]
  obtain ⟨bm, inv, outv, h4, h5⟩ := h
  have hc : W.cell? ⟨b, 17, none⟩ = some (.int .i64 (M.reg 17)) := h4.reg (n := 17) (by decide) (by decide)
  have hc10 : W.cell? ⟨b, 10, none⟩ = some (.int .i64 (M.reg 10)) := h4.reg (n := 10) (by decide) (by decide)
  have hc11 : W.cell? ⟨b, 11, none⟩ = some (.int .i64 (M.reg 11)) := h4.reg (n := 11) (by decide) (by decide)
  have hw := h4.cway
  have hcd := h4.ccode
  have hf := h4.free
  have H4 := Lib.hid h4
  rw [h3] at hc
  clear h4 e h3
  go_enter Tryd.func57, Tryd.ntmps57
  go_wp2
  go_ret
  exact ⟨rfl, went_of ((H4.out.setWay _).setCode _) h5 (fun _ h => h) (fun _ h => .inl h) (((Mods.refl _ _).setCell (fun _ => .inl rfl) _).setCell (fun _ => .inl rfl) _)⟩
set_option maxRecDepth 100000 in
set_option maxHeartbeats 400000 in
theorem call_1full (b : Nat) (O : Nat → Prop) (M : Mac) (W : World) (h : Mach W b O M) (h1 : M.reg 17 = 1) (hn : 200 ≤ M.out.length) :
    Calls Tryd.prog 57 #[.pointer (some ⟨b, 0, none⟩)] W fun e w' => e = .returned (.bool M.call.2) ∧ Went O b M.call.1 W w' := by
  have e : M.call = ({ M with way := 7 }, false) := by
    simp [Mac.call, h1, hn]
  rw [e]
  obtain ⟨bm, inv, outv, h4, h5⟩ := h
  have hc : W.cell? ⟨b, 17, none⟩ = some (.int .i64 (M.reg 17)) := h4.reg (n := 17) (by decide) (by decide)
  have hw := h4.cway
  have hco := h4.cout
  have hf := h4.free
  have H4 := Lib.hid h4
  rcases out_form h4.out with ⟨_, h6⟩ | ⟨g, cap, rfl⟩
  · omega
  rw [h1] at hc
  clear h4 e h1
  go_enter Tryd.func57, Tryd.ntmps57
  go_wp2
  go_ret
  exact ⟨rfl, went_of (H4.out.setWay _) h5 (fun _ h => h) (fun _ h => .inl h) ((Mods.refl _ _).setCell (fun _ => .inl rfl) _)⟩
set_option maxHeartbeats 400000 in
theorem call_2none (b : Nat) (O : Nat → Prop) (M : Mac) (W : World) (h : Mach W b O M) (h2 : M.reg 17 = 2) (hn : M.ins = []) :
    Calls Tryd.prog 57 #[.pointer (some ⟨b, 0, none⟩)] W fun e w' => e = .returned (.bool M.call.2) ∧ Went O b M.call.1 W w' := by
  have e : M.call = (M.put 10 0, true) := by
    simp [Mac.call, h2, hn]
  rw [e]
  obtain ⟨bm, inv, outv, h4, h5⟩ := h
  have hc : W.cell? ⟨b, 17, none⟩ = some (.int .i64 (M.reg 17)) := h4.reg (n := 17) (by decide) (by decide)
  have hc10 : W.cell? ⟨b, 10, none⟩ = some (.int .i64 (M.reg 10)) := h4.reg (n := 10) (by decide) (by decide)
  have hci := h4.cins
  have hf := h4.free
  have H4 := Lib.hid h4
  obtain ⟨p, n, c, rfl, h6, h7, h8, _⟩ := h4.ins
  rw [hn] at h6
  obtain rfl : n = 0 := h6
  rw [h2] at hc
  clear h4 e h2
  go_enter Tryd.func57, Tryd.ntmps57
  go_wp2
  go_ret
  exact ⟨rfl, went_of (H4.out.setReg (n := 10) (by decide) (by decide) _) h5 (fun _ h => h) (fun _ h => .inl h) ((Mods.refl _ _).setCell (fun _ => .inl rfl) _)⟩
set_option maxHeartbeats 400000 in
theorem call_2some (b : Nat) (O : Nat → Prop) (M : Mac) (W : World) (h : Mach W b O M) (h2 : M.reg 17 = 2) (x : Int) (r : List Int) (hn : M.ins = x :: r) :
    Calls Tryd.prog 57 #[.pointer (some ⟨b, 0, none⟩)] W fun e w' => e = .returned (.bool M.call.2) ∧ Went O b M.call.1 W w' := by
  have e : M.call = ({ M.put 10 x with ins := r }, true) := by
    simp [Mac.call, h2, hn]
  rw [e]
  obtain ⟨bm, inv, outv, h4, h5⟩ := h
  have hc : W.cell? ⟨b, 17, none⟩ = some (.int .i64 (M.reg 17)) := h4.reg (n := 17) (by decide) (by decide)
  have hc10 : W.cell? ⟨b, 10, none⟩ = some (.int .i64 (M.reg 10)) := h4.reg (n := 10) (by decide) (by decide)
  have hci := h4.cins
  have hf := h4.free
  have H4 := Lib.hid h4
  obtain ⟨p, n, c, rfl, h6, h7, h8, h9⟩ := h4.ins
  rw [hn] at h6 h9
  obtain ⟨g, o, rfl, hx⟩ := h9 0 x rfl
  obtain rfl : n = r.length + 1 := h6
  have H9 := Lib.hid h9
  have hgb : g ≠ b := (h4.a3 g rfl).1
  simp only [Nat.add_zero] at hx
  unfold maxLen at h8
  rw [h2] at hc
  clear h4 e h2 h9
  by_cases hc1 : c = 1
  · subst hc1
    obtain rfl : r = [] := by cases r with
      | nil => rfl
      | cons y r => simp at h7
    go_enter Tryd.func57, Tryd.ntmps57
    go_wp2
    go_region
    go_wp2
    go_ret
    have h6 := (H4.out.setReg (n := 10) (by decide) (by decide) 0).setReg (n := 10) (by decide) (by decide) x
    rw [put_put] at h6
    exact ⟨rfl, went_of (h6.setIns (l := []) ⟨_, _, _, rfl, rfl, by decide, by decide, fun i x hx => by simp at hx⟩ (fun _ h => h)).drew h5 (fun _ h => h) (fun _ h => .inl h) ((((Mods.refl _ _).setCell (fun _ => .inl rfl) _).setCell (fun _ => .inl rfl) _).setCell (fun _ => .inl rfl) _).drew⟩
  · go_enter Tryd.func57, Tryd.ntmps57
    go_wp2
    go_region
    go_wp2
    go_ret
    have h6 := (H4.out.setReg (n := 10) (by decide) (by decide) 0).setReg (n := 10) (by decide) (by decide) x
    rw [put_put] at h6
    have hm : Mods (fun k => k = b ∨ k = bm ∨ outv.ownBlock = some k) W ((W.setCell ⟨b, 10, none⟩ (.int .i64 0)).setCell ⟨b, 10, none⟩ (.int .i64 x)) := ((Mods.refl _ _).setCell (fun _ => .inl rfl) _).setCell (fun _ => .inl rfl) _
    have hm2 : Mods (· = b) W ((W.setCell ⟨b, 10, none⟩ (.int .i64 0)).setCell ⟨b, 10, none⟩ (.int .i64 x)) := Mods.setCell (S := (· = b)) (p := ⟨b, 10, none⟩) (Mods.setCell (S := (· = b)) (p := ⟨b, 10, none⟩) (Mods.refl _ _) (fun _ => rfl) _) (fun _ => rfl) _
    have hi : IntsAt ((W.setCell ⟨b, 10, none⟩ (.int .i64 0)).setCell ⟨b, 10, none⟩ (.int .i64 x)) (.slice (some ⟨g, o + 1, none⟩) r.length (c - 1)) r :=
      ⟨_, _, _, rfl, rfl, by omega, by unfold maxLen; omega, fun i y hy => by
        obtain ⟨g', o', he, hcy⟩ := H9.out (i + 1) y (by simpa using hy)
        obtain ⟨rfl, rfl⟩ : g = g' ∧ o = o' := by simpa using he
        refine ⟨g, o + 1, rfl, ?_⟩
        rw [show o + 1 + i = o + (i + 1) by omega]
        exact hm2.cellOf hcy hgb⟩
    exact ⟨rfl, went_of (h6.setIns hi (fun _ h => h)).drew h5 (fun _ h => h) (fun _ h => .inl h) (hm.setCell (fun _ => .inl rfl) _).drew⟩
theorem call_any (b : Nat) (O : Nat → Prop) (M : Mac) (W : World) (h : Mach W b O M) :
    Calls Tryd.prog 57 #[.pointer (some ⟨b, 0, none⟩)] W fun e w' => e = .returned (.bool M.call.2) ∧ Went O b M.call.1 W w' := by
  by_cases h1 : M.reg 17 = 1
  · by_cases h2 : M.out.length < 200
    · exact call_1tell b O M W h h1 h2
    · exact call_1full b O M W h h1 (by omega)
  by_cases h2 : M.reg 17 = 2
  · cases hi : M.ins with
    | nil => exact call_2none b O M W h h2 hi
    | cons x r => exact call_2some b O M W h h2 x r hi
  by_cases h3 : M.reg 17 = 3
  · by_cases h4 : 1 ≤ M.reg 10 ∧ M.reg 10 ≤ 8
    · exact call_3yes b O M W h h3 h4.1 h4.2
    · exact call_3no b O M W h h3 h4
  · exact call_other b O M W h (by simpa using h1) (by simpa using h2) (by simpa using h3)
end Go.Proofs.YtgeajgdddjjjnaaDoor.MachP

/- The machine does a word: contracts of machine.do and machine.Step, of any machine that lies in memory. Conditions: that it does; the table of forms lies as the program lays it. -/
import Derived.Test.YtgeajgdddjjjnaaDoorMachDoA
import Derived.Test.YtgeajgdddjjjnaaDoorMachDoB
import Derived.Test.YtgeajgdddjjjnaaDoorMachDoC
import Derived.Test.YtgeajgdddjjjnaaDoorMachDoD
import Derived.Test.YtgeajgdddjjjnaaDoorWordBackHead
namespace Go.Proofs.YtgeajgdddjjjnaaDoor.MachP
open Go.RowKit Go.Proofs.YtgeajgdddjjjnaaDoor.Wo Go.Proofs.YtgeajgdddjjjnaaDoor.WordP Go.Proofs.YtgeajgdddjjjnaaDoor.AluP
set_option linter.unusedVariables false
set_option linter.unusedSimpArgs false

theorem do_any (x : Ins) (hx : x.right = true) : DoSaid x := by
  obtain ⟨h1, h2, h3, h4, _⟩ := WordP.right_parts hx
  have hr : Regs x := ⟨h2.1, h2.2, h3.1, h3.2, h4.1, h4.2⟩
  intro b O M W h
  have hop : x.op ≤ 13 ∨ (13 < x.op ∧ x.op ≤ 21) ∨ x.op = 22 ∨ x.op = 23 ∨ x.op = 24 ∨ x.op = 25 ∨ x.op = 26 ∨ x.op = 27 ∨ x.op = 28 ∨ x.op = 29 ∨ x.op = 30 ∨ x.op = 31 := by omega
  rcases hop with e | e | e | e | e | e | e | e | e | e | e | e
  · exact do_alu x hr e b O M W h
  · exact do_imm x hr e.1 e.2 b O M W h
  · cases hq : M.right (wrap64 (M.reg x.ra + x.n)) 8
    · exact do_ld_no x hr e b O M W h hq
    · exact do_ld_yes x hr e b O M W h hq
  · exact do_jalr x hr e b O M W h
  · cases hq : M.right (wrap64 (M.reg x.ra + x.n)) 8
    · exact do_sd_no x hr e b O M W h hq
    · exact do_sd_yes x hr e b O M W h hq
  · cases hq : (M.reg x.ra == M.reg x.rb)
    · exact do_br25_no x hr e b O M W h hq
    · exact do_br25_yes x hr e b O M W h hq
  · cases hq : (M.reg x.ra != M.reg x.rb)
    · exact do_br26_no x hr e b O M W h hq
    · exact do_br26_yes x hr e b O M W h hq
  · cases hq : decide (M.reg x.ra < M.reg x.rb)
    · exact do_br27_no x hr e b O M W h hq
    · exact do_br27_yes x hr e b O M W h hq
  · cases hq : decide (M.reg x.rb ≤ M.reg x.ra)
    · exact do_br28_no x hr e b O M W h hq
    · exact do_br28_yes x hr e b O M W h hq
  · exact do_lui x hr e b O M W h
  · exact do_jal x hr e b O M W h
  · cases hq : M.call.2
    · exact do_ec_no x hr e b O M W h hq
    · exact do_ec_yes x hr e b O M W h hq
theorem forms_mods {S : Nat → Prop} {W W' : World} (hF : Forms W) (h : Mods S W W') (hn : ¬ S 0) : Forms W' := fun op h1 h2 =>
  ⟨h.cellOf (hF op h1 h2).c0 hn, h.cellOf (hF op h1 h2).c1 hn, h.cellOf (hF op h1 h2).c2 hn, h.cellOf (hF op h1 h2).c3 hn⟩
set_option maxHeartbeats 400000 in
theorem step_ended (b : Nat) (O : Nat → Prop) (M : Mac) (W : World) (h : Mach W b O M) (hw : (M.way == 0) = false) :
    Calls Tryd.prog 23 #[.pointer (some ⟨b, 0, none⟩)] W fun e w' => e = .returned (.tuple #[]) ∧ Went O b M.step W w' := by
  have e : M.step = M := by simp only [beq_eq_false_iff_ne] at hw; simp [Mac.step, hw]
  rw [e]
  have H := Lib.hid h
  obtain ⟨bm, inv, outv, h1, h2⟩ := h
  have hcw := h1.cway
  have hw' : (M.way != 0) = true := by simpa using hw
  clear h1 e
  go_enter Tryd.func23, Tryd.ntmps23
  go_wp2
  refine bodyPost_ret (results_none rfl _ _ _) rfl ?_
  exact ⟨rfl, Went.refl H.out⟩
set_option maxHeartbeats 400000 in
theorem step_far (b : Nat) (O : Nat → Prop) (M : Mac) (W : World) (h : Mach W b O M) (hw : M.way = 0) (hr : M.right M.pc 4 = false) :
    Calls Tryd.prog 23 #[.pointer (some ⟨b, 0, none⟩)] W fun e w' => e = .returned (.tuple #[]) ∧ Went O b M.step W w' := by
  have e : M.step = M.fault := by simp [Mac.step, hw, hr]
  rw [e]
  have HF := Lib.hid (fault_mach b O M W h)
  obtain ⟨bm, inv, outv, h1, h2⟩ := h
  have hcw := h1.cway
  rw [hw] at hcw
  have hpc := h1.cpc
  have HR := Lib.hid (right_any b bm M.mem.length M.pc 4 W h1.cmem h1.ok.size (.inl rfl))
  have hr' : rightM M.mem.length M.pc 4 = false := hr
  rw [hr'] at HR
  clear h1 e hr hr' hw
  go_enter Tryd.func23, Tryd.ntmps23
  go_wp2_with (first | (go_at_call 40; refine HR.out.mono ?_; rintro e w' ⟨rfl, rfl⟩) | (go_at_call 41; refine HF.out.mono ?_; rintro e w' ⟨rfl, hw⟩))
  refine bodyPost_ret (results_none rfl _ _ _) rfl ?_
  exact ⟨rfl, hw⟩
set_option maxRecDepth 100000 in
set_option maxHeartbeats 1000000 in
theorem step_goes (b : Nat) (O : Nat → Prop) (M : Mac) (W : World) (h : Mach W b O M) (hF : Forms W) (h0 : ¬ O 0) (hw : M.way = 0) (hr : M.right M.pc 4 = true) :
    Calls Tryd.prog 23 #[.pointer (some ⟨b, 0, none⟩)] W fun e w' => e = .returned (.tuple #[]) ∧ Went O b M.step W w' := by
  have hr' : rightM M.mem.length M.pc 4 = true := hr
  obtain ⟨hp0, hp1, _⟩ := rightM_parts hr'
  have H := Lib.hid h
  obtain ⟨bm, inv, outv, h1, h2⟩ := h
  have hcw := h1.cway
  rw [hw] at hcw
  have hpc := h1.cpc
  have hok := h1.ok.size
  have HR := Lib.hid (right_any b bm M.mem.length M.pc 4 W h1.cmem h1.ok.size (.inl rfl))
  rw [hr'] at HR
  have H1 := Lib.hid h1
  have HF := Lib.hid hF
  obtain ⟨q, hq⟩ := Int.eq_ofNat_of_zero_le hp0
  have HQ := Lib.hid hq
  have HE : Hid (M.step = match dec (le (M.bytes M.pc 4)) with | some x => (M.act x).put 0 0 | none => M.fault) := Lib.hid (by unfold Mac.step; rw [if_pos hw, if_pos hr]; rfl)
  rw [hq] at hpc hp0 hp1 HR
  obtain ⟨bs, hbs⟩ : ∃ bs, bs = M.bytes M.pc 4 := ⟨_, rfl⟩
  have HBS : Hid (bs = (M.mem.drop q).take 4) := Lib.hid (by rw [hbs, hq]; rfl)
  rw [← hbs] at HE
  have HN : Hid (bs.length = 4) := Lib.hid (by rw [HBS.out]; exact part_length (by omega))
  have HBB : Hid (∀ x ∈ bs, 0 ≤ x ∧ x < 256) := Lib.hid (by rw [HBS.out]; exact mem_part h1.ok.byte)
  clear h1 hr hr' hw hF hq hbs
  go_enter Tryd.func23, Tryd.ntmps23
  go_wp2_with (go_at_call 40; refine HR.out.mono ?_; rintro e w' ⟨rfl, rfl⟩)
  clear hcw hpc
  go_loopw [2, 3] (fun u i wr => ∃ j : Nat, j ≤ 4 ∧ i = .int .i64 ((j : Int) - 1) ∧ u = .int .u32 (le (bs.drop j)) ∧ Hid (Mods None W wr)) (fun _ i _ => (intOf i + 1).toNat)
  case atStart => exact ⟨4, by omega, rfl, by rw [List.drop_of_length_le (by rw [HN.out]; exact Nat.le_refl _)]; rfl, Lib.hid (Mods.refl _ _)⟩
  case round =>
    obtain ⟨j, hj, rfl, rfl, hm⟩ := hrel
    have h3 : MacAt wr b bm inv outv M := H1.out.mods hm.out (fun f => f) (fun f => f) (fun _ _ f => f) (fun _ _ f => f)
    have hcm := h3.cmem
    have hpc := h3.cpc
    rw [HQ.out] at hpc
    by_cases hj1 : 1 ≤ j
    · have hcell : wr.cell? ⟨bm, q + (j - 1), none⟩ = some (.int .u8 (M.mem.getD (q + (j - 1)) 0)) := h3.mem.cell (by rw [List.getElem?_map, getD_some (by omega)]; rfl)
      have hx := h3.ok.byte _ (getD_mem (l := M.mem) (i := q + (j - 1)) (by omega))
      have hs := le_small (l := bs.drop j) (fun x hx => HBB.out x (List.mem_of_mem_drop hx)) (k := 3) (by rw [List.length_drop, HN.out]; omega)
      have HD : Hid (le (bs.drop (j - 1)) = bits BinOp.or .u32 (le (bs.drop j) * 256 % 4294967296) (M.mem.getD (q + (j - 1)) 0)) := Lib.hid (by
        rw [← IntKind.wrap_u32, or_byte32 hs.1 hs.2 hx, le_drop hj1 (by rw [HN.out]; exact hj)]
        congr 1
        have := part_getD (l := M.mem) (q := q) (n := 4) (j := j - 1) (by omega)
        rw [← HBS.out] at this
        exact this)
      have HW : Hid (M.mem[q + (j - 1)]?.getD 0 % 4294967296 = M.mem[q + (j - 1)]?.getD 0) := Lib.hid (by rw [← List.getD_eq_getElem?_getD]; omega)
      clear hx hs h3
      go_wp2
      go_region
      go_wp2
      go_roundw
      case rel => exact ⟨j - 1, by omega, by go_num, by rw [HD.out, HW.out, List.getD_eq_getElem?_getD], Lib.hid hm.out.drew⟩
      case measure => simp [intOf]; omega
    · obtain rfl : j = 0 := by omega
      have hm2 : Mods None W wr := hm.out
      have hF2 := Lib.hid (forms_mods HF.out hm2 (fun f => f))
      have hb := le_small (l := bs) HBB.out (k := 4) (by rw [HN.out]; exact Nat.le_refl _)
      have hb2 : 0 ≤ le bs ∧ le bs < 4294967296 := ⟨hb.1, hb.2⟩
      have HM2 := Lib.hid hm2
      clear hb hcm hpc h3 hm hm2
      go_wp2_with fail
      simp only [List.drop_zero]
      cases hd : dec (le bs) with
      | none =>
        rw [hd] at HE
        refine (decode_no (le bs) _ hb2 hF2.out hd).mono ?_
        rintro e w1 ⟨rfl, g1⟩
        have hm3 : Mods None W w1 := HM2.out.trans (Mods.of_grown g1)
        have h4 := Lib.hid (H.out.mods (hm3.alloc (.cells (instCells 0 0 0 0 0) 23)) (fun _ _ f => f))
        have HM3 := Lib.hid (hm3.alloc (.cells (instCells 0 0 0 0 0) 23))
        clear g1 hm3
        go_wp2_with fail
        refine (fault_mach b O M _ h4.out).mono ?_
        rintro e w2 ⟨rfl, hw⟩
        go_wp2
        refine bodyPost_ret (results_none rfl _ _ _) rfl ?_
        rw [HE.out]
        exact ⟨rfl, Went.before HM3.out hw⟩
      | some x =>
        rw [hd] at HE
        refine (decode_yes (le bs) x _ hb2 hF2.out hd).mono ?_
        rintro e w1 ⟨rfl, g1⟩
        have hxr := (dec_some hd).1
        have hm3 : Mods None W w1 := HM2.out.trans (Mods.of_grown g1)
        have h4 := Lib.hid (H.out.mods (hm3.alloc (.cells (instCells x.op x.rd x.ra x.rb x.n) 23)) (fun _ _ f => f))
        have HM3 := Lib.hid (hm3.alloc (.cells (instCells x.op x.rd x.ra x.rb x.n) 23))
        have h5 := five_new w1 x.op x.rd x.ra x.rb x.n 23
        clear g1 hm3
        go_wp2_with fail
        refine (do_any x hxr b O M _ h4.out).mono ?_
        rintro e w2 ⟨rfl, O1, ⟨bm1, inv1, outv1, h6, h7⟩, h8, h9⟩
        have hc0 : w2.cell? ⟨b, 0, none⟩ = some (.int .i64 ((M.act x).reg 0)) := h6.reg (n := 0) (by decide) (by decide)
        have hf0 := h6.free 0
        have H6 := Lib.hid h6
        clear h6
        go_wp2
        go_end0
        rw [HE.out]
        exact ⟨rfl, Went.before HM3.out (went_next h8 h9 (went_of (H6.out.setReg (n := 0) (by decide) (by decide) 0) h7 (fun _ h => h) (fun _ h => .inl h) ((Mods.refl _ _).setCell (fun _ => .inl rfl) _)))⟩
theorem step_any (b : Nat) (O : Nat → Prop) (M : Mac) (W : World) (h : Mach W b O M) (hF : Forms W) (h0 : ¬ O 0) :
    Calls Tryd.prog 23 #[.pointer (some ⟨b, 0, none⟩)] W fun e w' => e = .returned (.tuple #[]) ∧ Went O b M.step W w' := by
  by_cases hw : M.way = 0
  · cases hr : M.right M.pc 4
    · exact step_far b O M W h hw hr
    · exact step_goes b O M W h hF h0 hw hr
  · exact step_ended b O M W h (by simpa using hw)
end Go.Proofs.YtgeajgdddjjjnaaDoor.MachP

/- The reference's machine does a word: a contract of its Step, some of its ways. Conditions: that the machine lies in memory. -/
import Derived.Test.YtgeajgdddjjjnaaDoorDoesSt
namespace Go.Proofs.YtgeajgdddjjjnaaDoor.RMachP
open Go.RowKit Go.Proofs.YtgeajgdddjjjnaaDoor.Wo Go.Proofs.YtgeajgdddjjjnaaDoor.WordP Go.Proofs.YtgeajgdddjjjnaaDoor.MachP Go.Proofs.YtgeajgdddjjjnaaDoor.AluP Go.Proofs.YtgeajgdddjjjnaaDoor.RefP
set_option linter.unusedVariables false
set_option linter.unusedSimpArgs false
set_option maxRecDepth 100000 in
set_option maxHeartbeats 2000000 in
theorem rstep_alu (c b : Nat) (O : Nat → Prop) (M : Mac) (W : World) (h : RMach c W b O M) (hfit : Fit M) (hw : M.way = 0) (hr : M.right M.pc 4 = true) (x : Ins) (h13 : x.op ≤ 13) (hd : dec (le (M.bytes M.pc 4)) = some x) (hc : c < 100000) :
    Calls Tryd.prog 29 #[.pointer (some ⟨b, 0, none⟩)] W fun e w' => e = .returned (.tuple #[]) ∧ RWent (c + 1) O b M.step W w' := by
  obtain ⟨p, rd, ra, rb, n⟩ := x
  simp only at *
  have HRT := Lib.hid (dec_some hd).1
  obtain ⟨⟨hop1, hop2⟩, ⟨hd0, hd1⟩, ⟨ha0, ha1⟩, ⟨hb0, hb1⟩, _⟩ := right_parts (dec_some hd).1
  have HN : Hid (I64 n) := Lib.hid (right_n (x := ⟨p, rd, ra, rb, n⟩) (dec_some hd).1)
  simp only at hop1 hop2 hd0 hd1 ha0 ha1 hb0 hb1
  obtain ⟨k, hk⟩ : ∃ k, k = kindOf p := ⟨_, rfl⟩
  obtain ⟨l, hl⟩ : ∃ l, l = lowOf p := ⟨_, rfl⟩
  obtain ⟨m, hm⟩ : ∃ m, m = midOf p := ⟨_, rfl⟩
  obtain ⟨hi, hh⟩ : ∃ hi, hi = highOf p := ⟨_, rfl⟩
  obtain ⟨nm, hn⟩ : ∃ nm, nm = nameOf p := ⟨_, rfl⟩
  have HF : Hid (∀ W, Calls Tryd.prog 43 #[.int .i64 p] W fun e W' => e = .returned (.tuple #[.agg #[.int .u8 k, .int .u32 l, .int .u32 m, .int .u32 hi, .string nm], .bool true]) ∧ Mods None W W') := Lib.hid (by
    have := form_parts p hop1 hop2
    rw [← hk, ← hl, ← hm, ← hh, ← hn] at this
    exact this)
  have k1 : (k == 82) = true := by rw [hk]; exact kind_alu hop1 h13
  clear hk hl hm hh hn
  obtain ⟨bm, inv, outv, h1, h2⟩ := h
  have HS : Hid (M.step = match dec (le (M.bytes M.pc 4)) with | some x => (M.act x).put 0 0 | none => M.fault) := Lib.hid (by unfold Mac.step; rw [if_pos hw, if_pos hr]; rfl)
  have hr' : rightM M.mem.length M.pc 4 = true := hr
  obtain ⟨hp0, hp1, hp4⟩ := rightM_parts hr'
  obtain ⟨q, hq⟩ := Int.eq_ofNat_of_zero_le hp0
  have hcw := h1.cway
  rw [hw] at hcw
  have hpc := h1.cpc
  have hf := h1.free
  have H1 := Lib.hid h1
  have HFIT := Lib.hid hfit
  have HW0 := Lib.hid hw
  have hlen := h1.ok.size
  have hlen8 := h1.len8
  rw [hq] at hpc hp1 hp4
  have hq4 : ((q : Int) % 4 != 0) = false := by simpa using hp4
  have HP8 : Hid (IntKind.i64.wrap ((q : Int) - (q : Int).tmod 8) = ((q - q % 8 : Nat) : Int)) := Lib.hid (by
    rw [Int.tmod_eq_emod_of_nonneg (by omega), i64_in (by unfold I64; omega)]; omega)
  obtain ⟨v, ev, hev, hv, hload⟩ := rload_some h1 (i64_wrap ((q : Int) - (q : Int).tmod 8))
  have hrt : M.right (IntKind.i64.wrap ((q : Int) - (q : Int).tmod 8)) 8 = true := by
    rw [HP8.out]
    simp only [Mac.right, rightM, Bool.and_eq_true, decide_eq_true_eq, beq_iff_eq]
    omega
  obtain rfl : ev = 0 := hev.2 hrt
  have hv := hv hrt
  rw [HP8.out] at hv
  have HL := Lib.hid hload
  have HV := Lib.hid hv
  have HQ := Lib.hid hq
  rw [hd] at HS
  have HD := Lib.hid hd
  have HP1 := Lib.hid hp1
  have HP4 := Lib.hid hp4
  have HL8 := Lib.hid hlen8
  have hq8 : q % 8 = 0 ∨ q % 8 = 4 := by omega
  clear h1 hw hr hr' hrt hev hv hload hq hp0 hfit hd hp1 hp4 hlen hlen8
  go_enter Tryd.func29, Tryd.ntmps29
  go_wp2_with fail
  go_region_held3 (fun w' => Hid (Mods None W w') ∧ w'.cell? ⟨b, 34, none⟩ = some (.int .i64 q))
    (first
      | exact ⟨Lib.hid (Mods.refl _ _).drew, hpc⟩
      | assumption)
    ((first
      | (go_at_call 31; go_split_ands; go_loud (refine (HL.out _ (Hid.out ‹Hid (Mods None W _)›)).mono ?_); rintro e w' ⟨rfl, rfl⟩)))
  obtain ⟨w1, hw1⟩ : ∃ w1, w1 = W.drew := ⟨_, rfl⟩
  have HM : Hid (Mods None W w1) := Lib.hid (by rw [hw1]; exact (Mods.refl _ _).drew)
  rw [← hw1]
  clear hw1 hcw hf hpc
  have H5 : Hid (RAt c w1 b bm inv outv M) := Lib.hid (H1.out.mods HM.out (fun f => f) (fun f => f) (fun _ _ f => f) (fun _ _ f => f))
  have hpc : w1.cell? ⟨b, 34, none⟩ = some (.int .i64 q) := by have := H5.out.cpc; rw [HQ.out] at this; exact this
  have hcw := H5.out.cway
  rw [HW0.out] at hcw
  have hf := H5.out.free
  go_wp2_with fail
  have HT : Hid (IntKind.u64.wrap v / 2 ^ (8 * (q % 8)) % 4294967296 = le (M.bytes M.pc 4)) := Lib.hid (by
    rw [HV.out, HQ.out]
    exact word_any M H1.out.ok HL8.out q HP4.out HP1.out)
  refine (decode_ref _ _ ⟨Int.emod_nonneg _ (by decide), Int.emod_lt_of_pos _ (by decide)⟩).mono ?_
  rintro e w2 ⟨rfl, hm2⟩
  rw [HT.out, refVal_some HD.out]
  have HM2S := Lib.hid hm2.size
  have HOX : Hid (¬ O w2.heap.size) := Lib.hid (fun h => by
    have h3 := h2.lt _ h
    have h4 := HM.out.size
    have h5 := HM2S.out
    omega)
  simp only [Ins.val]
  obtain ⟨W3, hW3⟩ : ∃ W3, W3 = w2.alloc (.cells (instCells p rd ra rb n) 23) := ⟨_, rfl⟩
  have HM3 : Hid (Mods None w1 W3) := Lib.hid (by rw [hW3]; exact hm2.alloc _)
  have F3 : Hid (Blk W3 w2.heap.size [.int .i64 p, .int .i64 rd, .int .i64 ra, .int .i64 rb, .int .i64 n] 23) := Lib.hid (by rw [hW3]; exact Blk.new w2 _ _)
  have c0 : W3.cell? ⟨w2.heap.size, 0, none⟩ = some (.int .i64 p) := F3.out.cell rfl
  clear hm2 hpc hcw hf
  rw [hW3] at c0
  go_wp2_with fail
  rw [← hW3]
  clear c0 hW3
  refine (HF.out W3).mono ?_
  rintro e w4 ⟨rfl, hm4⟩
  obtain ⟨W5, hW5⟩ : ∃ W5, W5 = w4.alloc (.cells #[.int .u8 k, .int .u32 l, .int .u32 m, .int .u32 hi, .string nm] 87) := ⟨_, rfl⟩
  have hm5 : Mods None W3 W5 := by rw [hW5]; exact hm4.alloc _
  have HF5 : Hid (Blk W5 w4.heap.size [.int .u8 k, .int .u32 l, .int .u32 m, .int .u32 hi, .string nm] 87) := Lib.hid (by rw [hW5]; exact Blk.new w4 _ _)
  have HX5 := Lib.hid (F3.out.mods hm5 (fun f => f))
  have HM5 := Lib.hid ((HM.out.trans HM3.out).trans hm5)
  have H7 : Hid (RAt c W5 b bm inv outv M) := Lib.hid ((H5.out.mods HM3.out (fun f => f) (fun f => f) (fun _ _ f => f) (fun _ _ f => f)).mods hm5 (fun f => f) (fun f => f) (fun _ _ f => f) (fun _ _ f => f))
  have c0 : W5.cell? ⟨w2.heap.size, 0, none⟩ = some (.int .i64 p) := HX5.out.cell rfl
  have c1 : W5.cell? ⟨w2.heap.size, 1, none⟩ = some (.int .i64 rd) := HX5.out.cell rfl
  have c2 : W5.cell? ⟨w2.heap.size, 2, none⟩ = some (.int .i64 ra) := HX5.out.cell rfl
  have c3 : W5.cell? ⟨w2.heap.size, 3, none⟩ = some (.int .i64 rb) := HX5.out.cell rfl
  have c4 : W5.cell? ⟨w2.heap.size, 4, none⟩ = some (.int .i64 n) := HX5.out.cell rfl
  have f0 : W5.cell? ⟨w4.heap.size, 0, none⟩ = some (.int .u8 k) := HF5.out.cell rfl
  have f1 : W5.cell? ⟨w4.heap.size, 1, none⟩ = some (.int .u32 l) := HF5.out.cell rfl
  have hra : W5.cell? ⟨b, ra.toNat, none⟩ = some (.int .i64 (M.reg ra)) := H7.out.reg ha0 ha1
  have hrb : W5.cell? ⟨b, rb.toNat, none⟩ = some (.int .i64 (M.reg rb)) := H7.out.reg hb0 hb1
  have hrd : W5.cell? ⟨b, rd.toNat, none⟩ = some (.int .i64 (M.reg rd)) := H7.out.reg hd0 hd1
  have hpc : W5.cell? ⟨b, 34, none⟩ = some (.int .i64 q) := by have := H7.out.cpc; rw [HQ.out] at this; exact this
  have hcw : W5.cell? ⟨b, 36, none⟩ = some (.int .i64 0) := by have := H7.out.cway; rw [HW0.out] at this; exact this
  have hf := H7.out.free
  clear hm4 hm5
  rw [hW5] at c0 c1 c2 c3 c4 f0 f1 hra hrb hrd hpc hcw hf
  go_wp2_with fail
  rw [← hW5] at c0 c1 c2 c3 c4 f0 f1 hra hrb hrd hpc hcw hf ⊢
  clear hW5
  go_quiet (fail)
  go_wp2_with fail
  go_quiet (fail)
  have HE : Hid (M.step = (if 0 < rd then M.put rd (alu p (M.reg ra) (M.reg rb)) else M).goto (wrap64 (q + 4))) := Lib.hid (by
    rw [HS.out]
    exact step_set HFIT.out (x := ⟨p, rd, ra, rb, n⟩) (v := alu p (M.reg ra) (M.reg rb)) (p := wrap64 (q + 4)) (by simp [Mac.act, h13, HQ.out]) hd0)
  by_cases hrd0 : 0 < rd
  · go_wp2_with fail
    refine (ralu_is _ _ _ (HFIT.out.regs _) (HFIT.out.regs _) _).mono ?_
    rintro e w6 ⟨rfl, nd, rfl⟩
    go_wp2_with fail
    go_region
    go_wp2
    go_end0
    rw [HE.out, if_pos hrd0]
    try rw [jal_even]
    exact ⟨rfl, (RWent.before HM5.out (rwent_of (by repeat (first | with_reducible exact H7.out | with_reducible refine RAt.drew ?_ | with_reducible refine RAt.drewN ?_ _ | with_reducible refine RAt.setPc ?_ _ | with_reducible refine RAt.setReg ?_ hd0 hd1 _)) (Own.mods h2 HM5.out) (fun _ h => h) (fun _ h => .inl h) (by repeat (first | with_reducible exact Mods.refl _ _ | with_reducible refine Mods.drew ?_ | with_reducible refine Mods.drewN ?_ _ | with_reducible refine Mods.setCell ?_ (fun _ => .inl rfl) _)))).mono (Nat.le_succ _)⟩
  · go_wp2_with fail
    refine (ralu_is _ _ _ (HFIT.out.regs _) (HFIT.out.regs _) _).mono ?_
    rintro e w6 ⟨rfl, nd, rfl⟩
    go_wp2
    go_end0
    rw [HE.out, if_neg (show ¬ 0 < rd by omega)]
    try rw [jal_even]
    exact ⟨rfl, (RWent.before HM5.out (rwent_of (by repeat (first | with_reducible exact H7.out | with_reducible refine RAt.drew ?_ | with_reducible refine RAt.drewN ?_ _ | with_reducible refine RAt.setPc ?_ _ | with_reducible refine RAt.setReg ?_ hd0 hd1 _)) (Own.mods h2 HM5.out) (fun _ h => h) (fun _ h => .inl h) (by repeat (first | with_reducible exact Mods.refl _ _ | with_reducible refine Mods.drew ?_ | with_reducible refine Mods.drewN ?_ _ | with_reducible refine Mods.setCell ?_ (fun _ => .inl rfl) _)))).mono (Nat.le_succ _)⟩
set_option maxRecDepth 100000 in
set_option maxHeartbeats 2000000 in
theorem rstep_none (c b : Nat) (O : Nat → Prop) (M : Mac) (W : World) (h : RMach c W b O M) (hfit : Fit M) (hw : M.way = 0) (hr : M.right M.pc 4 = true)  (hd : dec (le (M.bytes M.pc 4)) = none) (hc : c < 100000) :
    Calls Tryd.prog 29 #[.pointer (some ⟨b, 0, none⟩)] W fun e w' => e = .returned (.tuple #[]) ∧ RWent (c + 1) O b M.step W w' := by
  obtain ⟨bm, inv, outv, h1, h2⟩ := h
  have HS : Hid (M.step = match dec (le (M.bytes M.pc 4)) with | some x => (M.act x).put 0 0 | none => M.fault) := Lib.hid (by unfold Mac.step; rw [if_pos hw, if_pos hr]; rfl)
  have hr' : rightM M.mem.length M.pc 4 = true := hr
  obtain ⟨hp0, hp1, hp4⟩ := rightM_parts hr'
  obtain ⟨q, hq⟩ := Int.eq_ofNat_of_zero_le hp0
  have hcw := h1.cway
  rw [hw] at hcw
  have hpc := h1.cpc
  have hf := h1.free
  have H1 := Lib.hid h1
  have HFIT := Lib.hid hfit
  have HW0 := Lib.hid hw
  have hlen := h1.ok.size
  have hlen8 := h1.len8
  rw [hq] at hpc hp1 hp4
  have hq4 : ((q : Int) % 4 != 0) = false := by simpa using hp4
  have HP8 : Hid (IntKind.i64.wrap ((q : Int) - (q : Int).tmod 8) = ((q - q % 8 : Nat) : Int)) := Lib.hid (by
    rw [Int.tmod_eq_emod_of_nonneg (by omega), i64_in (by unfold I64; omega)]; omega)
  obtain ⟨v, ev, hev, hv, hload⟩ := rload_some h1 (i64_wrap ((q : Int) - (q : Int).tmod 8))
  have hrt : M.right (IntKind.i64.wrap ((q : Int) - (q : Int).tmod 8)) 8 = true := by
    rw [HP8.out]
    simp only [Mac.right, rightM, Bool.and_eq_true, decide_eq_true_eq, beq_iff_eq]
    omega
  obtain rfl : ev = 0 := hev.2 hrt
  have hv := hv hrt
  rw [HP8.out] at hv
  have HL := Lib.hid hload
  have HV := Lib.hid hv
  have HQ := Lib.hid hq
  rw [hd] at HS
  have HD := Lib.hid hd
  have HP1 := Lib.hid hp1
  have HP4 := Lib.hid hp4
  have HL8 := Lib.hid hlen8
  have hq8 : q % 8 = 0 ∨ q % 8 = 4 := by omega
  clear h1 hw hr hr' hrt hev hv hload hq hp0 hfit hd hp1 hp4 hlen hlen8
  go_enter Tryd.func29, Tryd.ntmps29
  go_wp2_with fail
  go_region_held3 (fun w' => Hid (Mods None W w') ∧ w'.cell? ⟨b, 34, none⟩ = some (.int .i64 q))
    (first
      | exact ⟨Lib.hid (Mods.refl _ _).drew, hpc⟩
      | assumption)
    ((first
      | (go_at_call 31; go_split_ands; go_loud (refine (HL.out _ (Hid.out ‹Hid (Mods None W _)›)).mono ?_); rintro e w' ⟨rfl, rfl⟩)))
  obtain ⟨w1, hw1⟩ : ∃ w1, w1 = W.drew := ⟨_, rfl⟩
  have HM : Hid (Mods None W w1) := Lib.hid (by rw [hw1]; exact (Mods.refl _ _).drew)
  rw [← hw1]
  clear hw1 hcw hf hpc
  have H5 : Hid (RAt c w1 b bm inv outv M) := Lib.hid (H1.out.mods HM.out (fun f => f) (fun f => f) (fun _ _ f => f) (fun _ _ f => f))
  have hpc : w1.cell? ⟨b, 34, none⟩ = some (.int .i64 q) := by have := H5.out.cpc; rw [HQ.out] at this; exact this
  have hcw := H5.out.cway
  rw [HW0.out] at hcw
  have hf := H5.out.free
  go_wp2_with fail
  have HT : Hid (IntKind.u64.wrap v / 2 ^ (8 * (q % 8)) % 4294967296 = le (M.bytes M.pc 4)) := Lib.hid (by
    rw [HV.out, HQ.out]
    exact word_any M H1.out.ok HL8.out q HP4.out HP1.out)
  refine (decode_ref _ _ ⟨Int.emod_nonneg _ (by decide), Int.emod_lt_of_pos _ (by decide)⟩).mono ?_
  rintro e w2 ⟨rfl, hm2⟩
  rw [HT.out, refVal_none HD.out]
  have HM2 := Lib.hid (HM.out.trans hm2)
  have H6 : Hid (RAt c w2 b bm inv outv M) := Lib.hid (H5.out.mods hm2 (fun f => f) (fun f => f) (fun _ _ f => f) (fun _ _ f => f))
  clear hpc hcw hf hm2
  obtain ⟨W3, hW3⟩ : ∃ W3, W3 = w2.alloc (.cells (instCells 0 0 0 0 0) 23) := ⟨_, rfl⟩
  have HM3 : Hid (Mods None W W3) := Lib.hid (by rw [hW3]; exact HM2.out.alloc _)
  have H7 : Hid (RAt c W3 b bm inv outv M) := Lib.hid (by rw [hW3]; exact H6.out.mods ((Mods.refl None _).alloc _) (fun f => f) (fun f => f) (fun _ _ f => f) (fun _ _ f => f))
  have hcw : W3.cell? ⟨b, 36, none⟩ = some (.int .i64 M.way) := H7.out.cway
  rw [hW3] at hcw
  have hf : ∀ i, (w2.alloc (.cells (instCells 0 0 0 0 0) 23)).frozen? ⟨b, i, none⟩ = false := by rw [← hW3]; exact H7.out.free
  go_wp2
  rw [← hW3]
  refine bodyPost_ret (results_none rfl _ _ _) rfl ?_
  rw [HS.out]
  exact ⟨rfl, (RWent.before HM3.out (rwent_of (H7.out.setWay 9) (Own.mods h2 HM3.out) (fun _ h => h) (fun _ h => .inl h) (by repeat (first | with_reducible exact Mods.refl _ _ | with_reducible refine Mods.drew ?_ | with_reducible refine Mods.setCell ?_ (fun _ => .inl rfl) _)))).mono (Nat.le_succ _)⟩
set_option maxRecDepth 100000 in
set_option maxHeartbeats 2000000 in
theorem rstep_imm (c b : Nat) (O : Nat → Prop) (M : Mac) (W : World) (h : RMach c W b O M) (hfit : Fit M) (hw : M.way = 0) (hr : M.right M.pc 4 = true) (x : Ins) (h14 : 13 < x.op) (h21 : x.op ≤ 21) (hd : dec (le (M.bytes M.pc 4)) = some x) (hc : c < 100000) :
    Calls Tryd.prog 29 #[.pointer (some ⟨b, 0, none⟩)] W fun e w' => e = .returned (.tuple #[]) ∧ RWent (c + 1) O b M.step W w' := by
  obtain ⟨p, rd, ra, rb, n⟩ := x
  simp only at *
  have HRT := Lib.hid (dec_some hd).1
  obtain ⟨⟨hop1, hop2⟩, ⟨hd0, hd1⟩, ⟨ha0, ha1⟩, ⟨hb0, hb1⟩, _⟩ := right_parts (dec_some hd).1
  have HN : Hid (I64 n) := Lib.hid (right_n (x := ⟨p, rd, ra, rb, n⟩) (dec_some hd).1)
  simp only at hop1 hop2 hd0 hd1 ha0 ha1 hb0 hb1
  obtain ⟨k, hk⟩ : ∃ k, k = kindOf p := ⟨_, rfl⟩
  obtain ⟨l, hl⟩ : ∃ l, l = lowOf p := ⟨_, rfl⟩
  obtain ⟨m, hm⟩ : ∃ m, m = midOf p := ⟨_, rfl⟩
  obtain ⟨hi, hh⟩ : ∃ hi, hi = highOf p := ⟨_, rfl⟩
  obtain ⟨nm, hn⟩ : ∃ nm, nm = nameOf p := ⟨_, rfl⟩
  have HF : Hid (∀ W, Calls Tryd.prog 43 #[.int .i64 p] W fun e W' => e = .returned (.tuple #[.agg #[.int .u8 k, .int .u32 l, .int .u32 m, .int .u32 hi, .string nm], .bool true]) ∧ Mods None W W') := Lib.hid (by
    have := form_parts p hop1 hop2
    rw [← hk, ← hl, ← hm, ← hh, ← hn] at this
    exact this)
  have k1 : (k == 82) = false := by rw [hk]; exact kind_not h14 (by omega)
  have l1 : (l == 19) = true := by rw [hl]; exact low_imm h14 h21
  clear hk hl hm hh hn
  obtain ⟨bm, inv, outv, h1, h2⟩ := h
  have HS : Hid (M.step = match dec (le (M.bytes M.pc 4)) with | some x => (M.act x).put 0 0 | none => M.fault) := Lib.hid (by unfold Mac.step; rw [if_pos hw, if_pos hr]; rfl)
  have hr' : rightM M.mem.length M.pc 4 = true := hr
  obtain ⟨hp0, hp1, hp4⟩ := rightM_parts hr'
  obtain ⟨q, hq⟩ := Int.eq_ofNat_of_zero_le hp0
  have hcw := h1.cway
  rw [hw] at hcw
  have hpc := h1.cpc
  have hf := h1.free
  have H1 := Lib.hid h1
  have HFIT := Lib.hid hfit
  have HW0 := Lib.hid hw
  have hlen := h1.ok.size
  have hlen8 := h1.len8
  rw [hq] at hpc hp1 hp4
  have hq4 : ((q : Int) % 4 != 0) = false := by simpa using hp4
  have HP8 : Hid (IntKind.i64.wrap ((q : Int) - (q : Int).tmod 8) = ((q - q % 8 : Nat) : Int)) := Lib.hid (by
    rw [Int.tmod_eq_emod_of_nonneg (by omega), i64_in (by unfold I64; omega)]; omega)
  obtain ⟨v, ev, hev, hv, hload⟩ := rload_some h1 (i64_wrap ((q : Int) - (q : Int).tmod 8))
  have hrt : M.right (IntKind.i64.wrap ((q : Int) - (q : Int).tmod 8)) 8 = true := by
    rw [HP8.out]
    simp only [Mac.right, rightM, Bool.and_eq_true, decide_eq_true_eq, beq_iff_eq]
    omega
  obtain rfl : ev = 0 := hev.2 hrt
  have hv := hv hrt
  rw [HP8.out] at hv
  have HL := Lib.hid hload
  have HV := Lib.hid hv
  have HQ := Lib.hid hq
  rw [hd] at HS
  have HD := Lib.hid hd
  have HP1 := Lib.hid hp1
  have HP4 := Lib.hid hp4
  have HL8 := Lib.hid hlen8
  have hq8 : q % 8 = 0 ∨ q % 8 = 4 := by omega
  clear h1 hw hr hr' hrt hev hv hload hq hp0 hfit hd hp1 hp4 hlen hlen8
  go_enter Tryd.func29, Tryd.ntmps29
  go_wp2_with fail
  go_region_held3 (fun w' => Hid (Mods None W w') ∧ w'.cell? ⟨b, 34, none⟩ = some (.int .i64 q))
    (first
      | exact ⟨Lib.hid (Mods.refl _ _).drew, hpc⟩
      | assumption)
    ((first
      | (go_at_call 31; go_split_ands; go_loud (refine (HL.out _ (Hid.out ‹Hid (Mods None W _)›)).mono ?_); rintro e w' ⟨rfl, rfl⟩)))
  obtain ⟨w1, hw1⟩ : ∃ w1, w1 = W.drew := ⟨_, rfl⟩
  have HM : Hid (Mods None W w1) := Lib.hid (by rw [hw1]; exact (Mods.refl _ _).drew)
  rw [← hw1]
  clear hw1 hcw hf hpc
  have H5 : Hid (RAt c w1 b bm inv outv M) := Lib.hid (H1.out.mods HM.out (fun f => f) (fun f => f) (fun _ _ f => f) (fun _ _ f => f))
  have hpc : w1.cell? ⟨b, 34, none⟩ = some (.int .i64 q) := by have := H5.out.cpc; rw [HQ.out] at this; exact this
  have hcw := H5.out.cway
  rw [HW0.out] at hcw
  have hf := H5.out.free
  go_wp2_with fail
  have HT : Hid (IntKind.u64.wrap v / 2 ^ (8 * (q % 8)) % 4294967296 = le (M.bytes M.pc 4)) := Lib.hid (by
    rw [HV.out, HQ.out]
    exact word_any M H1.out.ok HL8.out q HP4.out HP1.out)
  refine (decode_ref _ _ ⟨Int.emod_nonneg _ (by decide), Int.emod_lt_of_pos _ (by decide)⟩).mono ?_
  rintro e w2 ⟨rfl, hm2⟩
  rw [HT.out, refVal_some HD.out]
  have HM2S := Lib.hid hm2.size
  have HOX : Hid (¬ O w2.heap.size) := Lib.hid (fun h => by
    have h3 := h2.lt _ h
    have h4 := HM.out.size
    have h5 := HM2S.out
    omega)
  simp only [Ins.val]
  obtain ⟨W3, hW3⟩ : ∃ W3, W3 = w2.alloc (.cells (instCells p rd ra rb n) 23) := ⟨_, rfl⟩
  have HM3 : Hid (Mods None w1 W3) := Lib.hid (by rw [hW3]; exact hm2.alloc _)
  have F3 : Hid (Blk W3 w2.heap.size [.int .i64 p, .int .i64 rd, .int .i64 ra, .int .i64 rb, .int .i64 n] 23) := Lib.hid (by rw [hW3]; exact Blk.new w2 _ _)
  have c0 : W3.cell? ⟨w2.heap.size, 0, none⟩ = some (.int .i64 p) := F3.out.cell rfl
  clear hm2 hpc hcw hf
  rw [hW3] at c0
  go_wp2_with fail
  rw [← hW3]
  clear c0 hW3
  refine (HF.out W3).mono ?_
  rintro e w4 ⟨rfl, hm4⟩
  obtain ⟨W5, hW5⟩ : ∃ W5, W5 = w4.alloc (.cells #[.int .u8 k, .int .u32 l, .int .u32 m, .int .u32 hi, .string nm] 87) := ⟨_, rfl⟩
  have hm5 : Mods None W3 W5 := by rw [hW5]; exact hm4.alloc _
  have HF5 : Hid (Blk W5 w4.heap.size [.int .u8 k, .int .u32 l, .int .u32 m, .int .u32 hi, .string nm] 87) := Lib.hid (by rw [hW5]; exact Blk.new w4 _ _)
  have HX5 := Lib.hid (F3.out.mods hm5 (fun f => f))
  have HM5 := Lib.hid ((HM.out.trans HM3.out).trans hm5)
  have H7 : Hid (RAt c W5 b bm inv outv M) := Lib.hid ((H5.out.mods HM3.out (fun f => f) (fun f => f) (fun _ _ f => f) (fun _ _ f => f)).mods hm5 (fun f => f) (fun f => f) (fun _ _ f => f) (fun _ _ f => f))
  have c0 : W5.cell? ⟨w2.heap.size, 0, none⟩ = some (.int .i64 p) := HX5.out.cell rfl
  have c1 : W5.cell? ⟨w2.heap.size, 1, none⟩ = some (.int .i64 rd) := HX5.out.cell rfl
  have c2 : W5.cell? ⟨w2.heap.size, 2, none⟩ = some (.int .i64 ra) := HX5.out.cell rfl
  have c3 : W5.cell? ⟨w2.heap.size, 3, none⟩ = some (.int .i64 rb) := HX5.out.cell rfl
  have c4 : W5.cell? ⟨w2.heap.size, 4, none⟩ = some (.int .i64 n) := HX5.out.cell rfl
  have f0 : W5.cell? ⟨w4.heap.size, 0, none⟩ = some (.int .u8 k) := HF5.out.cell rfl
  have f1 : W5.cell? ⟨w4.heap.size, 1, none⟩ = some (.int .u32 l) := HF5.out.cell rfl
  have hra : W5.cell? ⟨b, ra.toNat, none⟩ = some (.int .i64 (M.reg ra)) := H7.out.reg ha0 ha1
  have hrb : W5.cell? ⟨b, rb.toNat, none⟩ = some (.int .i64 (M.reg rb)) := H7.out.reg hb0 hb1
  have hrd : W5.cell? ⟨b, rd.toNat, none⟩ = some (.int .i64 (M.reg rd)) := H7.out.reg hd0 hd1
  have hpc : W5.cell? ⟨b, 34, none⟩ = some (.int .i64 q) := by have := H7.out.cpc; rw [HQ.out] at this; exact this
  have hcw : W5.cell? ⟨b, 36, none⟩ = some (.int .i64 0) := by have := H7.out.cway; rw [HW0.out] at this; exact this
  have hf := H7.out.free
  clear hm4 hm5
  rw [hW5] at c0 c1 c2 c3 c4 f0 f1 hra hrb hrd hpc hcw hf
  go_wp2_with fail
  rw [← hW5] at c0 c1 c2 c3 c4 f0 f1 hra hrb hrd hpc hcw hf ⊢
  clear hW5
  go_quiet (fail)
  go_wp2_with fail
  go_quiet (fail)
  have HE : Hid (M.step = (if 0 < rd then M.put rd (alu p (M.reg ra) n) else M).goto (wrap64 (q + 4))) := Lib.hid (by
    rw [HS.out]
    exact step_set HFIT.out (x := ⟨p, rd, ra, rb, n⟩) (v := alu p (M.reg ra) n) (p := wrap64 (q + 4)) (by simp [Mac.act, h21, show ¬ p ≤ 13 by omega, HQ.out]) hd0)
  by_cases hrd0 : 0 < rd
  · go_wp2_with fail
    refine (ralu_is _ _ _ (HFIT.out.regs _) (HN.out) _).mono ?_
    rintro e w6 ⟨rfl, nd, rfl⟩
    go_wp2_with fail
    go_region
    go_wp2
    go_end0
    rw [HE.out, if_pos hrd0]
    try rw [jal_even]
    exact ⟨rfl, (RWent.before HM5.out (rwent_of (by repeat (first | with_reducible exact H7.out | with_reducible refine RAt.drew ?_ | with_reducible refine RAt.drewN ?_ _ | with_reducible refine RAt.setPc ?_ _ | with_reducible refine RAt.setReg ?_ hd0 hd1 _)) (Own.mods h2 HM5.out) (fun _ h => h) (fun _ h => .inl h) (by repeat (first | with_reducible exact Mods.refl _ _ | with_reducible refine Mods.drew ?_ | with_reducible refine Mods.drewN ?_ _ | with_reducible refine Mods.setCell ?_ (fun _ => .inl rfl) _)))).mono (Nat.le_succ _)⟩
  · go_wp2_with fail
    refine (ralu_is _ _ _ (HFIT.out.regs _) (HN.out) _).mono ?_
    rintro e w6 ⟨rfl, nd, rfl⟩
    go_wp2
    go_end0
    rw [HE.out, if_neg (show ¬ 0 < rd by omega)]
    try rw [jal_even]
    exact ⟨rfl, (RWent.before HM5.out (rwent_of (by repeat (first | with_reducible exact H7.out | with_reducible refine RAt.drew ?_ | with_reducible refine RAt.drewN ?_ _ | with_reducible refine RAt.setPc ?_ _ | with_reducible refine RAt.setReg ?_ hd0 hd1 _)) (Own.mods h2 HM5.out) (fun _ h => h) (fun _ h => .inl h) (by repeat (first | with_reducible exact Mods.refl _ _ | with_reducible refine Mods.drew ?_ | with_reducible refine Mods.drewN ?_ _ | with_reducible refine Mods.setCell ?_ (fun _ => .inl rfl) _)))).mono (Nat.le_succ _)⟩
end Go.Proofs.YtgeajgdddjjjnaaDoor.RMachP

/- Plain laws of a step as the reference does it. No program in sight. No conditions. The reference's machine does a word: contracts of its Step where nothing is done. Conditions: that the machine lies in memory. What the steps of the reference's machine share: the word at a place; its tables. Conditions: that the machine lies in memory. -/
import Derived.Test.YtgeajgdddjjjnaaDoorMachLaws
import Derived.Test.YtgeajgdddjjjnaaDoorAluPlain
import Derived.Test.YtgeajgdddjjjnaaDoorDoesAt
import Derived.Test.YtgeajgdddjjjnaaDoorRefDec
import Derived.Test.YtgeajgdddjjjnaaDoorAluRef
import Derived.Test.YtgeajgdddjjjnaaDoorRefRight
namespace Go.Proofs.YtgeajgdddjjjnaaDoor.RMachP
open Go.RowKit Go.Proofs.YtgeajgdddjjjnaaDoor.WordP Go.Proofs.YtgeajgdddjjjnaaDoor.AluP Go.Proofs.YtgeajgdddjjjnaaDoor.MachP
set_option linter.unusedVariables false
set_option linter.unusedSimpArgs false
/-- All of a machine's numbers have 64 bits; register 0 is 0; its bytes are words of eight. -/
structure Fit (m : Mac) : Prop where
  regs : ∀ i, I64 (m.reg i)
  pc : I64 m.pc
  r0 : m.reg 0 = 0
  ins : ∀ x ∈ m.ins, I64 x
  len : m.regs.length = 32
theorem I64.wrap (x : Int) : I64 (wrap64 x) := by unfold I64 wrap64; omega
theorem i64_zero : I64 0 := by unfold I64; omega
theorem wrap_i64 (x : Int) : IntKind.i64.wrap x = wrap64 x := by rw [IntKind.wrap_i64]; unfold wrap64; omega
theorem reg_put (m : Mac) (n v i : Int) : (m.put n v).reg i = v ∨ (m.put n v).reg i = m.reg i := by
  simp only [Mac.put, Mac.reg, List.getD_eq_getElem?_getD, List.getElem?_set]
  split
  · split
    · exact .inl rfl
    · rename_i h1 h2
      right
      rw [h1] at h2
      rw [List.getElem?_eq_none (by omega)]
  · exact .inr rfl
theorem put_regs {m : Mac} (h : ∀ i, I64 (m.reg i)) {n v : Int} (hv : I64 v) : ∀ i, I64 ((m.put n v).reg i) := fun i => by
  rcases reg_put m n v i with e | e <;> rw [e]
  · exact hv
  · exact h i
theorem i64_ite {c : Prop} [Decidable c] {x y : Int} (hx : I64 x) (hy : I64 y) : I64 (if c then x else y) := by split <;> assumption
theorem alu_in (op a b : Int) (ha : I64 a) (hb : I64 b) : I64 (alu op a b) := by
  unfold alu
  repeat' (with_reducible apply i64_ite)
  all_goals first
    | exact i64_wrap _
    | exact tmod_in _ _ ha
    | exact ha
    | (rw [← hlv_eq]; exact hlv_in _ _ ha)
    | exact i64_wrap _
    | (unfold I64; omega)
    | (unfold bits; exact i64_wrap _)
theorem bits_in (o : BinOp) (a b : Int) : I64 (bits o .i64 a b) := by
  cases o <;> first | exact i64_wrap _ | (unfold bits; exact i64_wrap _) | (simp [bits]; exact i64_wrap _)
theorem len_put (m : Mac) (n v : Int) : (m.put n v).regs.length = m.regs.length := by simp [Mac.put]
theorem put_other {m : Mac} {n : Int} (v : Int) (h : 0 < n) : (m.put n v).reg 0 = m.reg 0 := by
  simp only [Mac.put, Mac.reg, List.getD_eq_getElem?_getD]
  rw [List.getElem?_set_ne (by omega)]
theorem put_zero {m : Mac} (hl : m.regs.length = 32) (h : m.reg 0 = 0) : m.put 0 0 = m := by
  have h0 : m.regs[0]? = some 0 := by
    have h1 : m.regs.getD 0 0 = 0 := h
    rw [getD_some (by omega), h1]
  have e : m.regs.set 0 0 = m.regs := by
    apply List.ext_getElem?
    intro i
    by_cases hi : i = 0
    · subst hi
      rw [List.getElem?_set_self (by omega), h0]
    · rw [List.getElem?_set_ne (by omega)]
  show { m with regs := m.regs.set (0 : Int).toNat 0 } = m
  have : (0 : Int).toNat = 0 := rfl
  rw [this, e]
/-- Register 0, written and made 0 again, is not written. -/
theorem put_clear {m : Mac} (hl : m.regs.length = 32) (h : m.reg 0 = 0) {n : Int} (v : Int) (h0 : 0 ≤ n) : (m.put n v).put 0 0 = if 0 < n then m.put n v else m := by
  by_cases hn : 0 < n
  · rw [if_pos hn]
    exact put_zero (by rw [len_put]; exact hl) (by rw [put_other v hn]; exact h)
  · obtain rfl : n = 0 := by omega
    rw [if_neg hn]
    have : (m.put 0 v).put 0 0 = m.put 0 0 := by simp [Mac.put]
    rw [this, put_zero hl h]
theorem goto_put (m : Mac) (p n v : Int) : (m.goto p).put n v = (m.put n v).goto p := rfl
theorem fault_zero {m : Mac} (hl : m.regs.length = 32) (h : m.reg 0 = 0) : m.fault.put 0 0 = m.fault := put_zero hl h
theorem call_regs (m : Mac) : ∀ i, m.call.1.reg i = m.reg i ∨ (∃ x, (m.call.1.reg i = x ∧ (x = 0 ∨ x ∈ m.ins))) := by
  intro i
  unfold Mac.call
  split
  · split <;> exact .inl rfl
  · split
    · split
      · rcases reg_put m 10 0 i with e | e
        · exact .inr ⟨0, e, .inl rfl⟩
        · exact .inl e
      · rename_i x r hx
        rcases reg_put m 10 x i with e | e
        · exact .inr ⟨x, e, .inr (by rw [hx]; exact List.mem_cons_self ..)⟩
        · exact .inl e
    · split
      · split <;> exact .inl rfl
      · exact .inl rfl
theorem call_zero (m : Mac) : m.call.1.reg 0 = m.reg 0 := by
  unfold Mac.call
  split
  · split <;> rfl
  · split
    · split
      · exact put_other 0 (by decide)
      · exact put_other _ (by decide)
    · split
      · split <;> rfl
      · rfl
theorem call_len (m : Mac) : m.call.1.regs.length = m.regs.length := by
  unfold Mac.call
  repeat' split
  all_goals first | rfl | simp [Mac.put]
theorem call_way (m : Mac) (h : m.way = 0) : m.call.1.way = 0 ↔ m.call.2 = true := by
  unfold Mac.call
  repeat' split
  all_goals first | (simp [h, Mac.put, Mac.fault]; done) | (simp [h, Mac.put, Mac.fault]; omega)
theorem call_ins (m : Mac) : ∀ x ∈ m.call.1.ins, x ∈ m.ins := by
  unfold Mac.call
  split
  · split <;> exact fun x h => h
  · split
    · split
      · exact fun x h => h
      · rename_i y r hx
        intro x h
        rw [hx]
        exact List.mem_cons_of_mem _ h
    · split
      · split <;> exact fun x h => h
      · exact fun x h => h
theorem call_pc (m : Mac) : m.call.1.pc = m.pc := by
  unfold Mac.call
  repeat' split
  all_goals rfl
theorem call_mem (m : Mac) : m.call.1.mem = m.mem := by
  unfold Mac.call
  repeat' split
  all_goals rfl
theorem fit_put {m : Mac} (h : Fit m) {n v : Int} (hn : 0 < n) (hv : I64 v) : Fit (m.put n v) :=
  ⟨put_regs h.regs hv, h.pc, by rw [put_other v hn]; exact h.r0, h.ins, by rw [len_put]; exact h.len⟩
theorem fit_goto {m : Mac} (h : Fit m) {p : Int} (hp : I64 p) : Fit (m.goto p) := ⟨h.regs, hp, h.r0, h.ins, h.len⟩
theorem fit_set {m : Mac} (h : Fit m) {n v p : Int} (h0 : 0 ≤ n) (hv : I64 v) (hp : I64 p) : Fit (((m.put n v).goto p).put 0 0) := by
  rw [goto_put, put_clear h.len h.r0 v h0]
  split
  · exact fit_goto (fit_put h (by assumption) hv) hp
  · exact fit_goto h hp
theorem fit_fault {m : Mac} (h : Fit m) : Fit m.fault := ⟨h.regs, h.pc, h.r0, h.ins, h.len⟩
theorem fit_call {m : Mac} (h : Fit m) : Fit m.call.1 := by
  refine ⟨fun i => ?_, by rw [call_pc]; exact h.pc, by rw [call_zero]; exact h.r0, fun x hx => h.ins x (call_ins m x hx), by rw [call_len]; exact h.len⟩
  rcases call_regs m i with e | ⟨x, e, e2⟩
  · rw [e]; exact h.regs i
  · rw [e]
    rcases e2 with rfl | e2
    · exact i64_zero
    · exact h.ins x e2
theorem fit_zero {m : Mac} (h : Fit m) : Fit (m.put 0 0) := by rw [put_zero h.len h.r0]; exact h
theorem even_in {x : Int} (h : I64 x) : I64 (even x) := by unfold even I64 at *; omega
theorem load_in (m : Mac) (p : Int) : I64 (m.load p) := I64.wrap _
theorem fit_act {m : Mac} (h : Fit m) (x : Ins) (h0 : 0 ≤ x.rd) (hn : I64 x.n) : Fit ((m.act x).put 0 0) := by
  unfold Mac.act
  dsimp only
  repeat' split
  · exact fit_set h h0 (alu_in _ _ _ (h.regs _) (h.regs _)) (I64.wrap _)
  · exact fit_set h h0 (alu_in _ _ _ (h.regs _) hn) (I64.wrap _)
  · exact fit_set h h0 (load_in _ _) (I64.wrap _)
  · exact fit_zero (fit_fault h)
  · exact fit_set h h0 (I64.wrap _) (even_in (I64.wrap _))
  · exact fit_zero (fit_goto (m := m.store _ _) ⟨h.regs, h.pc, h.r0, h.ins, h.len⟩ (I64.wrap _))
  · exact fit_zero (fit_fault h)
  · exact fit_zero (fit_goto h (I64.wrap _))
  · exact fit_zero (fit_goto h (I64.wrap _))
  · exact fit_set h h0 hn (I64.wrap _)
  · exact fit_set h h0 (I64.wrap _) (I64.wrap _)
  · exact fit_zero (fit_goto (fit_call h) (I64.wrap _))
  · exact fit_zero (fit_call h)
theorem right_n {x : Ins} (h : x.right = true) : I64 x.n := by
  obtain ⟨p, rd, ra, rb, n⟩ := x
  have h1 := (right_parts h).1
  have h2 := (right_parts h).2.2.2.2
  simp only at h1 h2
  show -9223372036854775808 ≤ n ∧ n ≤ 9223372036854775807
  rcases (tab_ok p h1.1 h1.2).2 with k | k | k | k | k | k | k | ⟨k, _⟩ <;> rw [k] at h2 <;> simp [bodyB, fitB] at h2 <;> omega
theorem fit_step {m : Mac} (h : Fit m) : Fit m.step := by
  unfold Mac.step
  split
  · split
    · split
      · rename_i x hd
        have hr := (dec_some hd).1
        exact fit_act h x (right_parts hr).2.1.1 (right_n hr)
      · exact fit_fault h
    · exact fit_fault h
  · exact h
theorem le_append : ∀ (a b : List Int), le (a ++ b) = le a + 256 ^ a.length * le b
  | [], b => by simp [le]
  | x :: a, b => by
    simp only [List.cons_append, le, le_append a b, List.length_cons, Int.pow_succ]
    rw [Int.mul_add, ← Int.mul_assoc, Int.mul_comm 256 (256 ^ a.length)]
    omega
theorem u64_load (m : Mac) (hok : m.Ok) (p : Int) : IntKind.u64.wrap (m.load p) = le (m.bytes p 8) := by
  have h := le_small (l := m.bytes p 8) (mem_part hok.byte) (k := 8) (by unfold Mac.bytes; rw [List.length_take]; omega)
  rw [IntKind.wrap_u64]
  unfold Mac.load wrap64
  omega
/-- The word at a place of a multiple of 4, out of the number of eight bytes about it. -/
theorem word_low (m : Mac) (hok : m.Ok) (q : Nat) (hq : q + 8 ≤ m.mem.length) : le (m.bytes q 4) = IntKind.u64.wrap (m.load q) % 4294967296 := by
  rw [u64_load m hok]
  have e : m.bytes q 8 = m.bytes q 4 ++ m.bytes (q + 4 : Nat) 4 := by
    unfold Mac.bytes
    simp only [Int.toNat_natCast]
    rw [show (8 : Nat) = 4 + 4 from rfl, List.take_add, List.drop_drop]
  have hl : (m.bytes q 4).length = 4 := by unfold Mac.bytes; simp only [Int.toNat_natCast]; exact part_length (by omega)
  have h := le_small (l := m.bytes q 4) (mem_part hok.byte) (k := 4) (by omega)
  have h2 := le_small (l := m.bytes (q + 4 : Nat) 4) (mem_part hok.byte) (k := 4) (by unfold Mac.bytes; rw [List.length_take]; omega)
  rw [e, le_append, hl]
  omega
theorem word_high (m : Mac) (hok : m.Ok) (q : Nat) (hq : q + 8 ≤ m.mem.length) : le (m.bytes (q + 4 : Nat) 4) = IntKind.u64.wrap (m.load q) / 4294967296 % 4294967296 := by
  rw [u64_load m hok]
  have e : m.bytes q 8 = m.bytes q 4 ++ m.bytes (q + 4 : Nat) 4 := by
    unfold Mac.bytes
    simp only [Int.toNat_natCast]
    rw [show (8 : Nat) = 4 + 4 from rfl, List.take_add, List.drop_drop]
  have hl : (m.bytes q 4).length = 4 := by unfold Mac.bytes; simp only [Int.toNat_natCast]; exact part_length (by omega)
  have h := le_small (l := m.bytes q 4) (mem_part hok.byte) (k := 4) (by omega)
  have h2 := le_small (l := m.bytes (q + 4 : Nat) 4) (mem_part hok.byte) (k := 4) (by unfold Mac.bytes; rw [List.length_take]; omega)
  rw [e, le_append, hl]
  omega
end Go.Proofs.YtgeajgdddjjjnaaDoor.RMachP
namespace Go.Proofs.YtgeajgdddjjjnaaDoor.RMachP
open Go.RowKit Go.Proofs.YtgeajgdddjjjnaaDoor.Wo Go.Proofs.YtgeajgdddjjjnaaDoor.WordP Go.Proofs.YtgeajgdddjjjnaaDoor.MachP Go.Proofs.YtgeajgdddjjjnaaDoor.AluP Go.Proofs.YtgeajgdddjjjnaaDoor.RefP
set_option linter.unusedVariables false
set_option linter.unusedSimpArgs false
set_option maxRecDepth 100000 in
set_option maxHeartbeats 400000 in
theorem rstep_ended (c b : Nat) (O : Nat → Prop) (M : Mac) (W : World) (h : RMach c W b O M) (hw : (M.way == 0) = false) :
    Calls Tryd.prog 29 #[.pointer (some ⟨b, 0, none⟩)] W fun e w' => e = .returned (.tuple #[]) ∧ RWent c O b M.step W w' := by
  have e : M.step = M := by simp only [beq_eq_false_iff_ne] at hw; simp [Mac.step, hw]
  rw [e]
  have H := Lib.hid h
  obtain ⟨bm, inv, outv, h1, h2⟩ := h
  have hcw := h1.cway
  have hw' : (M.way != 0) = true := by simpa using hw
  clear h1 e
  go_enter Tryd.func29, Tryd.ntmps29
  go_wp2
  refine bodyPost_ret (results_none rfl _ _ _) rfl ?_
  exact ⟨rfl, RWent.refl H.out⟩
theorem Own.mods {W W' : World} {b bm : Nat} {O S : Nat → Prop} {inv outv : Value} (h : Own W b O bm inv outv) (hm : Mods S W W') : Own W' b O bm inv outv :=
  ⟨fun k hk => Nat.lt_of_lt_of_le (h.lt k hk) hm.size, h.b, h.bm, h.inv, h.outv⟩
/-- The number at a place, or that there is none. -/
theorem rload_some {c : Nat} {W : World} {b bm : Nat} {inv outv : Value} {M : Mac} (h : RAt c W b bm inv outv M) {p : Int} (hp : I64 p) :
    ∃ v e : Int, (e = 0 ↔ M.right p 8 = true) ∧ (M.right p 8 = true → v = M.load p) ∧ ∀ W', Mods None W W' → Calls Tryd.prog 31 #[.pointer (some ⟨b, 0, none⟩), .int .i64 p] W' fun r W'' => r = .returned (.tuple #[.int .i64 v, .int .i64 e]) ∧ W' = W'' := by
  cases hr : M.right p 8
  · exact ⟨0, 2, by simp, by simp, fun W' hm => rload_no (h.mods hm (fun f => f) (fun f => f) (fun _ _ f => f) (fun _ _ f => f)) hp hr⟩
  · exact ⟨M.load p, 0, by simp, fun _ => rfl, fun W' hm => rload_yes (h.mods hm (fun f => f) (fun f => f) (fun _ _ f => f) (fun _ _ f => f)) hp hr⟩
set_option maxRecDepth 100000 in
set_option maxHeartbeats 1000000 in
theorem rstep_far (c b : Nat) (O : Nat → Prop) (M : Mac) (W : World) (h : RMach c W b O M) (hfit : Fit M) (hw : M.way = 0) (hr : M.right M.pc 4 = false) :
    Calls Tryd.prog 29 #[.pointer (some ⟨b, 0, none⟩)] W fun e w' => e = .returned (.tuple #[]) ∧ RWent c O b M.step W w' := by
  have e : M.step = M.fault := by simp [Mac.step, hw, hr]
  rw [e]
  obtain ⟨bm, inv, outv, h1, h2⟩ := h
  have hcw := h1.cway
  rw [hw] at hcw
  have hpc := h1.cpc
  have hf := h1.free
  have H1 := Lib.hid h1
  obtain ⟨pc, hpe⟩ : ∃ pc, pc = M.pc := ⟨_, rfl⟩
  have HI : Hid (I64 pc) := Lib.hid (by rw [hpe]; exact hfit.pc)
  have HW : Hid (IntKind.i64.wrap (pc - pc.tmod 8) = pc - pc.tmod 8) := Lib.hid (i64_in (by
    have := HI.out
    unfold I64 at *
    by_cases h : 0 ≤ pc
    · rw [Int.tmod_eq_emod_of_nonneg h]; omega
    · obtain ⟨n, hn⟩ : ∃ n : Int, pc = -n := ⟨-pc, by omega⟩
      rw [hn, Int.neg_tmod, Int.tmod_eq_emod_of_nonneg (by omega)]; omega))
  obtain ⟨v, ev, hev, hv, hload⟩ := rload_some h1 (i64_wrap (pc - pc.tmod 8))
  have HL := Lib.hid hload
  have HBAD : Hid (pc < 0 ∨ pc % 4 ≠ 0 ∨ ev ≠ 0) := Lib.hid (by
    have h3 : rightM M.mem.length pc 4 = false := by rw [hpe]; exact hr
    have h8 := h1.len8
    by_cases ha : pc < 0
    · exact .inl ha
    · by_cases hb : pc % 4 ≠ 0
      · exact .inr (.inl hb)
      · refine .inr (.inr fun he => ?_)
        have h4 := rightM_parts (hev.1 he)
        rw [HW.out, Int.tmod_eq_emod_of_nonneg (by omega)] at h4
        simp [rightM] at h3
        omega)
  rw [← hpe] at hpc
  have HPE := Lib.hid hpe
  clear h1 e hr hw hev hv hload hpe
  go_enter Tryd.func29, Tryd.ntmps29
  go_wp2_with fail
  go_region_held3 (fun w' => Hid (Mods None W w') ∧ w'.cell? ⟨b, 34, none⟩ = some (.int .i64 pc))
    (first
      | exact ⟨Lib.hid (Mods.refl _ _).drew, hpc⟩
      | assumption)
    ((first
      | (go_at_call 31; go_split_ands; go_loud (refine (HL.out _ (Hid.out ‹Hid (Mods None W _)›)).mono ?_); rintro e w' ⟨rfl, rfl⟩)))
  obtain ⟨w', hw'⟩ : ∃ w', w' = W.drew := ⟨_, rfl⟩
  have HM : Hid (Mods None W w') := Lib.hid (by rw [hw']; exact (Mods.refl _ _).drew)
  rw [← hw']
  clear hw' hcw hf hpc
  have H5 : Hid (RAt c w' b bm inv outv M) := Lib.hid (H1.out.mods HM.out (fun f => f) (fun f => f) (fun _ _ f => f) (fun _ _ f => f))
  have hcw := H5.out.cway
  have hf := H5.out.free
  have hpc : w'.cell? ⟨b, 34, none⟩ = some (.int .i64 pc) := by have := H5.out.cpc; rw [← HPE.out] at this; exact this
  by_cases ha : pc < 0
  · clear HBAD
    go_wp2
    refine bodyPost_ret (results_none rfl _ _ _) rfl ?_
    exact ⟨rfl, RWent.before HM.out (rwent_of (H5.out.setWay 9) (Own.mods h2 HM.out) (fun _ h => h) (fun _ h => .inl h) (by repeat (first | with_reducible exact Mods.refl _ _ | with_reducible refine Mods.drew ?_ | with_reducible refine Mods.setCell ?_ (fun _ => .inl rfl) _)))⟩
  · by_cases hb : pc % 4 = 0
    · have hev : (ev != 0) = true := by
        rcases HBAD.out with h | h | h
        · exact absurd h ha
        · exact absurd hb h
        · simpa using h
      go_wp2
      refine bodyPost_ret (results_none rfl _ _ _) rfl ?_
      exact ⟨rfl, RWent.before HM.out (rwent_of (H5.out.setWay 9) (Own.mods h2 HM.out) (fun _ h => h) (fun _ h => .inl h) (by repeat (first | with_reducible exact Mods.refl _ _ | with_reducible refine Mods.drew ?_ | with_reducible refine Mods.setCell ?_ (fun _ => .inl rfl) _)))⟩
    · go_wp2
      refine bodyPost_ret (results_none rfl _ _ _) rfl ?_
      exact ⟨rfl, RWent.before HM.out (rwent_of (H5.out.setWay 9) (Own.mods h2 HM.out) (fun _ h => h) (fun _ h => .inl h) (by repeat (first | with_reducible exact Mods.refl _ _ | with_reducible refine Mods.drew ?_ | with_reducible refine Mods.setCell ?_ (fun _ => .inl rfl) _)))⟩
end Go.Proofs.YtgeajgdddjjjnaaDoor.RMachP
namespace Go.Proofs.YtgeajgdddjjjnaaDoor.RMachP
open Go.RowKit Go.Proofs.YtgeajgdddjjjnaaDoor.Wo Go.Proofs.YtgeajgdddjjjnaaDoor.WordP Go.Proofs.YtgeajgdddjjjnaaDoor.MachP Go.Proofs.YtgeajgdddjjjnaaDoor.AluP Go.Proofs.YtgeajgdddjjjnaaDoor.RefP
set_option linter.unusedVariables false
set_option linter.unusedSimpArgs false
theorem word_any (m : Mac) (hok : m.Ok) (h8 : m.mem.length % 8 = 0) (q : Nat) (hq4 : (q : Int) % 4 = 0) (hq : (q : Int) + 4 ≤ m.mem.length) :
    IntKind.u64.wrap (m.load ((q - q % 8 : Nat) : Int)) / 2 ^ (8 * (q % 8)) % 4294967296 = le (m.bytes q 4) := by
  have hc : q % 8 = 0 ∨ q % 8 = 4 := by omega
  rcases hc with h | h
  · rw [h, word_low m hok q (by omega)]
    simp
  · obtain ⟨r, rfl⟩ : ∃ r, q = r + 4 := ⟨q - 4, by omega⟩
    rw [h, word_high m hok r (by omega), show r + 4 - 4 = r by omega]
    rfl
theorem step_set {M : Mac} (h : Fit M) {x : Ins} {v p : Int} (ha : M.act x = (M.put x.rd v).goto p) (h0 : 0 ≤ x.rd) : (M.act x).put 0 0 = (if 0 < x.rd then M.put x.rd v else M).goto p := by
  rw [ha, goto_put, put_clear h.len h.r0 v h0]
theorem step_goto {M : Mac} (h : Fit M) {x : Ins} {p : Int} (ha : M.act x = M.goto p) : (M.act x).put 0 0 = M.goto p := by
  rw [ha, goto_put, put_zero h.len h.r0]
theorem step_fault {M : Mac} (h : Fit M) {x : Ins} (ha : M.act x = M.fault) : (M.act x).put 0 0 = M.fault := by
  rw [ha, fault_zero h.len h.r0]
theorem step_store {M : Mac} (h : Fit M) {x : Ins} {a v p : Int} (ha : M.act x = (M.store a v).goto p) : (M.act x).put 0 0 = (M.store a v).goto p := by
  rw [ha, goto_put, put_zero (m := M.store a v) h.len h.r0]
theorem step_call {M : Mac} (h : Fit M) {x : Ins} (hx : x.op = 31) : (M.act x).put 0 0 = if M.call.2 then M.call.1.goto (wrap64 (M.pc + 4)) else M.call.1 := by
  have h1 : M.act x = if M.call.2 then M.call.1.goto (wrap64 (M.pc + 4)) else M.call.1 := by simp [Mac.act, hx]
  have hl : M.call.1.regs.length = 32 := by rw [call_len]; exact h.len
  have h0 : M.call.1.reg 0 = 0 := by rw [call_zero]; exact h.r0
  rw [h1]
  split
  · rw [goto_put, put_zero hl h0]
  · rw [put_zero hl h0]
theorem jal_even (x : Int) : wrap64 (wrap64 x - bits BinOp.and IntKind.i64 (wrap64 x) 1) = even (wrap64 x) := by
  rw [and_one]
  have := I64.wrap x
  unfold I64 at this
  unfold even
  generalize wrap64 x = y at *
  unfold wrap64
  omega
theorem rd_tab : ∀ i : Fin 32, (i.val = 24 ∨ 25 ≤ i.val ∧ i.val ≤ 28 ∨ i.val = 31) → kindOf i.val = 83 ∨ kindOf i.val = 66 ∨ kindOf i.val = 69 := by decide +kernel
theorem rd_zero {x : Ins} (h : x.right = true) (hx : x.op = 24 ∨ (25 ≤ x.op ∧ x.op ≤ 28 ∨ x.op = 31)) : x.rd = 0 := by
  obtain ⟨p, rd, ra, rb, n⟩ := x
  have h2 := (right_parts h).2.2.2.2
  simp only at h2 hx ⊢
  obtain ⟨i, rfl⟩ := Int.eq_ofNat_of_zero_le (show 0 ≤ p by omega)
  rcases rd_tab ⟨i, by omega⟩ (by show i = 24 ∨ 25 ≤ i ∧ i ≤ 28 ∨ i = 31; omega) with k | k | k
  all_goals
    simp only at k
    rw [k] at h2
    simp [bodyB] at h2
    omega
theorem rgoto {c b : Nat} {O : Nat → Prop} {M : Mac} {W : World} (h : RMach c W b O M) (p : Int) : RWent c O b (M.goto p) W (W.setCell ⟨b, 34, none⟩ (.int .i64 p)) := by
  obtain ⟨bm, inv, outv, h1, h2⟩ := h
  exact rwent_of (h1.setPc p) h2 (fun _ h => h) (fun _ h => .inl h) ((Mods.refl _ _).setCell (fun _ => .inl rfl) _)
theorem kind_tab : ∀ i : Fin 32, (1 ≤ i.val → i.val ≤ 13 → kindOf i.val = 82) ∧ (14 ≤ i.val → kindOf i.val ≠ 82) ∧ (14 ≤ i.val → i.val ≤ 21 → lowOf i.val = 19) ∧ (22 ≤ i.val → lowOf i.val ≠ 19) ∧ (25 ≤ i.val → i.val ≤ 28 → kindOf i.val = 66) := by decide +kernel
theorem kind_alu {p : Int} (h1 : 1 ≤ p) (h2 : p ≤ 13) : (kindOf p == 82) = true := by
  obtain ⟨i, rfl⟩ := Int.eq_ofNat_of_zero_le (show 0 ≤ p by omega)
  simpa using (kind_tab ⟨i, by omega⟩).1 (by show 1 ≤ i; omega) (by show i ≤ 13; omega)
theorem kind_not {p : Int} (h1 : 14 ≤ p) (h2 : p ≤ 31) : (kindOf p == 82) = false := by
  obtain ⟨i, rfl⟩ := Int.eq_ofNat_of_zero_le (show 0 ≤ p by omega)
  simpa using (kind_tab ⟨i, by omega⟩).2.1 (by show 14 ≤ i; omega)
theorem low_imm {p : Int} (h1 : 14 ≤ p) (h2 : p ≤ 21) : (lowOf p == 19) = true := by
  obtain ⟨i, rfl⟩ := Int.eq_ofNat_of_zero_le (show 0 ≤ p by omega)
  simpa using (kind_tab ⟨i, by omega⟩).2.2.1 (by show 14 ≤ i; omega) (by show i ≤ 21; omega)
theorem low_not {p : Int} (h1 : 22 ≤ p) (h2 : p ≤ 31) : (lowOf p == 19) = false := by
  obtain ⟨i, rfl⟩ := Int.eq_ofNat_of_zero_le (show 0 ≤ p by omega)
  simpa using (kind_tab ⟨i, by omega⟩).2.2.2.1 (by show 22 ≤ i; omega)
theorem kind_br {p : Int} (h1 : 25 ≤ p) (h2 : p ≤ 28) : (kindOf p == 66) = true := by
  obtain ⟨i, rfl⟩ := Int.eq_ofNat_of_zero_le (show 0 ≤ p by omega)
  simpa using (kind_tab ⟨i, by omega⟩).2.2.2.2 (by show 25 ≤ i; omega) (by show i ≤ 28; omega)
end Go.Proofs.YtgeajgdddjjjnaaDoor.RMachP

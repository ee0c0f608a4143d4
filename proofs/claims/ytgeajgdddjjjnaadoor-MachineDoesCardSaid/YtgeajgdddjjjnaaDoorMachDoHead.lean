/- The machine does an instruction: a contract of machine.do, of any machine that lies in memory, and any instruction that may be. Conditions: that it does. -/
import Derived.Test.YtgeajgdddjjjnaaDoorMachCall
import Derived.Test.YtgeajgdddjjjnaaDoorAluWalk
namespace Go.Proofs.YtgeajgdddjjjnaaDoor.MachP
open Go.RowKit Go.Proofs.YtgeajgdddjjjnaaDoor.Wo Go.Proofs.YtgeajgdddjjjnaaDoor.WordP Go.Proofs.YtgeajgdddjjjnaaDoor.AluP
set_option linter.unusedVariables false
set_option linter.unusedSimpArgs false

structure Regs (x : Ins) : Prop where
  d0 : 0 ≤ x.rd
  d1 : x.rd < 32
  a0 : 0 ≤ x.ra
  a1 : x.ra < 32
  b0 : 0 ≤ x.rb
  b1 : x.rb < 32
/-- What do says of a machine. -/
def DoSaid (x : Ins) : Prop := ∀ (b : Nat) (O : Nat → Prop) (M : Mac) (W : World), Mach W b O M →
  Calls Tryd.prog 42 #[.pointer (some ⟨b, 0, none⟩), x.val] W fun e w' => e = .returned (.tuple #[]) ∧ Went O b (M.act x) W w'
theorem did {W W1 W' : World} {b bm : Nat} {O : Nat → Prop} {inv outv : Value} {M' : Mac} (HM : Mods None W W1) (h2 : Own W1 b O bm inv outv) (h : MacAt W' b bm inv outv M')
    (hm : Mods (fun k => k = b ∨ k = bm ∨ outv.ownBlock = some k) W1 W') : Went O b M' W W' := Went.before HM (went_of h h2 (fun _ h => h) (fun _ h => .inl h) hm)
theorem went_next {O O1 : Nat → Prop} {b : Nat} {M2 : Mac} {W W1 W2 : World} (a2 : ∀ k, O1 k → O k ∨ W.heap.size ≤ k) (a3 : Mods O W W1) (h : Went O1 b M2 W1 W2) : Went O b M2 W W2 := by
  obtain ⟨O2, b1, b2, b3⟩ := h
  refine ⟨O2, b1, fun k hk => ?_, a3.trans' b3 (fun k hk hlt => ?_)⟩
  · rcases b2 k hk with h | h
    · exact a2 k h
    · exact .inr (Nat.le_trans a3.size h)
  · rcases a2 k hk with h | h
    · exact h
    · omega
theorem load_at {W : World} {b bm : Nat} {inv outv : Value} {M : Mac} (h : MacAt W b bm inv outv M) {p : Int} (hr : M.right p 8 = true) :
    Calls Tryd.prog 16 #[.pointer (some ⟨b, 0, none⟩), .int .i64 p] W fun e w' => e = .returned (.tuple #[.int .i64 (M.load p), .nilIface]) ∧ W = w' :=
  load_yes b bm M.mem.length M.mem p W h.cmem h.ok.size hr h.mem rfl h.ok.byte
theorem load_not {W : World} {b bm : Nat} {inv outv : Value} {M : Mac} (h : MacAt W b bm inv outv M) {p : Int} (hr : M.right p 8 = false) :
    Calls Tryd.prog 16 #[.pointer (some ⟨b, 0, none⟩), .int .i64 p] W fun e w' => e = .returned (.tuple #[.int .i64 0, .iface 54 (.int .i64 2)]) ∧ W = w' :=
  load_no b bm M.mem.length p W h.cmem h.ok.size hr
theorem store_at {W : World} {b bm : Nat} {inv outv : Value} {M : Mac} (h : MacAt W b bm inv outv M) {p : Int} (v : Int) (hr : M.right p 8 = true) :
    Calls Tryd.prog 17 #[.pointer (some ⟨b, 0, none⟩), .int .i64 p, .int .i64 v] W fun e w' => e = .returned .nilIface ∧ MacAt w' b bm inv outv (M.store p v) ∧ Mods (· = bm) W w' :=
  (store_yes b bm M.mem.length M.mem p v W h.cmem h.ok.size hr h.mem rfl h.a1.symm).mono fun e w' ⟨he, hb, hm⟩ => ⟨he, h.setMem hm hr hb, hm⟩
theorem store_not {W : World} {b bm : Nat} {inv outv : Value} {M : Mac} (h : MacAt W b bm inv outv M) {p : Int} (v : Int) (hr : M.right p 8 = false) :
    Calls Tryd.prog 17 #[.pointer (some ⟨b, 0, none⟩), .int .i64 p, .int .i64 v] W fun e w' => e = .returned (.iface 54 (.int .i64 2)) ∧ W = w' :=
  store_no b bm M.mem.length p v W h.cmem h.ok.size hr
theorem nat_andNot_one (X : Nat) (hX : X < 2 ^ 64) : X &&& 18446744073709551614 = X - X % 2 := by
  have k : ∀ i : Nat, i < 64 → (18446744073709551614 : Nat).testBit i = decide (1 ≤ i) := by decide +kernel
  apply Nat.eq_of_testBit_eq
  intro i
  have hs : X - X % 2 = (X / 2) * 2 ^ 1 := by omega
  rw [hs, Nat.testBit_and, Nat.testBit_mul_two_pow]
  by_cases hi : i < 64
  · rw [k i hi]
    by_cases h1 : 1 ≤ i
    · simp only [h1, decide_true, Bool.and_true, Bool.true_and]
      have : X / 2 = X / 2 ^ 1 := rfl
      rw [this, Nat.testBit_div_two_pow]
      congr 1
      omega
    · simp [h1]
  · have hb : X.testBit i = false := Nat.testBit_lt_two_pow (Nat.lt_of_lt_of_le hX (Nat.pow_le_pow_right (by decide) (by omega)))
    have hb2 : (X / 2).testBit (i - 1) = false := Nat.testBit_lt_two_pow (Nat.lt_of_lt_of_le (show X / 2 < 2 ^ 63 by omega) (Nat.pow_le_pow_right (by decide) (by omega)))
    rw [hb, hb2]; simp
theorem andNot_bv (x : Int) : BitVec.ofInt 64 x &&& ~~~ BitVec.ofInt 64 1 = BitVec.ofInt 64 (even x) := by
  apply BitVec.eq_of_toNat_eq
  have e1 : (~~~ BitVec.ofInt 64 1).toNat = 18446744073709551614 := by decide
  rw [BitVec.toNat_and, e1, nat_andNot_one _ (BitVec.isLt _), BitVec.toNat_ofInt, BitVec.toNat_ofInt]
  unfold even
  omega
theorem andNot_one (x : Int) (h : -9223372036854775808 ≤ x ∧ x ≤ 9223372036854775807) : bits .andNot .i64 x 1 = even x := by
  show IntKind.i64.wrap ((BitVec.ofInt 64 x &&& ~~~ BitVec.ofInt 64 1).toNat : Int) = _
  have e1 : BitVec.ofInt 64 x &&& ~~~ BitVec.ofInt 64 1 = BitVec.ofInt 64 (even x) := by
    exact andNot_bv x
  rw [e1, wrap_toInt, ofInt_toInt]
  unfold even I64
  omega
theorem wrap64_bd (x : Int) : -9223372036854775808 ≤ wrap64 x ∧ wrap64 x ≤ 9223372036854775807 := by unfold wrap64; omega
end Go.Proofs.YtgeajgdddjjjnaaDoor.MachP

/- What keep.WordBack calls: word.Worded, of any world in which the forms lie; word.Decode, by ways. Conditions: the table of forms lies as the program lays it. -/
import Derived.Test.YtgeajgdddjjjnaaDoorWordDecode
namespace Go.Proofs.YtgeajgdddjjjnaaDoor.WordP
open Go.RowKit
set_option linter.unusedVariables false
set_option linter.unusedSimpArgs false
theorem w1_right : (Ins.mk 14 1 2 0 (-1)).right = true := by decide +kernel
theorem w1_word : (Ins.mk 14 1 2 0 (-1)).word = 4293984403 := by decide +kernel
theorem w2_dec : dec 32871 = some (Ins.mk 23 0 1 0 0) := by decide +kernel
theorem decode_yes (w : Int) (x : Ins) (W : World) (hx : 0 ≤ w ∧ w < 4294967296) (hF : Forms W) (hd : dec w = some x) :
    Calls Tryd.prog 10 #[.int .u32 w] W fun e W' => e = .returned (.tuple #[inst x.op x.rd x.ra x.rb x.n, .nilIface]) ∧ Grown W W' := by
  have := decode_walk w W hx hF
  rw [decVal_some hd] at this
  exact this
theorem decode_no (w : Int) (W : World) (hx : 0 ≤ w ∧ w < 4294967296) (hF : Forms W) (hd : dec w = none) :
    Calls Tryd.prog 10 #[.int .u32 w] W fun e W' => e = .returned (.tuple #[inst 0 0 0 0 0, .iface 54 (.int .i64 3)]) ∧ Grown W W' := by
  have := decode_walk w W hx hF
  rw [decVal_none hd] at this
  exact this
set_option maxRecDepth 100000 in
set_option maxHeartbeats 1000000 in
theorem worded_any (W : World) (hF : Forms W) : Calls Tryd.prog 9 #[] W fun e W' => e = .returned (.bool true) ∧ Grown W W' := by
  have HF := Lib.hid hF
  clear hF
  go_enter Tryd.func9, Tryd.ntmps9
  go_wp2_with fail
  refine (encode_yes (Ins.mk 14 1 2 0 (-1)) _ HF.out w1_right).mono ?_
  rintro e w1 ⟨rfl, g1⟩
  rw [w1_word]
  have hg1 := Lib.hid g1
  clear g1
  go_wp2_with fail
  refine (decode_yes 32871 _ _ (by decide) (HF.out.grown hg1.out) w2_dec).mono ?_
  rintro e w2 ⟨rfl, g2⟩
  have hg2 := Lib.hid g2
  clear g2
  go_wp2
  go_ret
  exact ⟨rfl, (grown_trans hg1.out hg2.out).alloc _ _⟩

theorem ins_differ {x y : Ins} (h : ¬ x = y) : (x.op == y.op) = false ∨ (x.op == y.op) = true ∧ (x.rd == y.rd) = false ∨ (x.op == y.op) = true ∧ (x.rd == y.rd) = true ∧ (x.ra == y.ra) = false ∨ (x.op == y.op) = true ∧ (x.rd == y.rd) = true ∧ (x.ra == y.ra) = true ∧ (x.rb == y.rb) = false ∨
    (x.op == y.op) = true ∧ (x.rd == y.rd) = true ∧ (x.ra == y.ra) = true ∧ (x.rb == y.rb) = true ∧ (x.n == y.n) = false := by
  obtain ⟨a, b, c, d, e⟩ := x
  obtain ⟨a', b', c', d', e'⟩ := y
  simp only [Ins.mk.injEq] at h
  simp only [beq_eq_false_iff_ne, beq_iff_eq]
  by_cases h1 : a = a' <;> by_cases h2 : b = b' <;> by_cases h3 : c = c' <;> by_cases h4 : d = d' <;> simp [h1, h2, h3, h4] at h ⊢
  exact h
end Go.Proofs.YtgeajgdddjjjnaaDoor.WordP

/- Which steps may be a program, as the document tells it: steps of one question. Conditions: what it reads lies. Marks in a text with blanks, plainly. No program in sight. No conditions. Printed by mkrsops.py. Which steps may be a program, as the document tells it: steps of more questions. Printed by mkrstep2.py. Conditions: what it reads lies. Maps of numbers by names: what is there, what is put. No conditions. Which steps may be a program, as the document tells it: a call. Printed by mkrstep7.py. Conditions: what it reads lies. Which steps may be a program, as the document tells it: the walk of rightStep, all codes. Conditions: what it reads lies. -/
import Derived.Test.YtoajcbfejplfbaaDoorRsTy
import Derived.Test.YtoajcbfejplfbaaDoorMidP
import Derived.Lib.IndexMore
import Derived.Test.YtoajcbfejplfbaaDoorShelf
import Derived.Test.YtoajcbfejplfbaaDoorShaped
import Derived.Test.YtoajcbfejplfbaaDoorMidRunM
import Derived.Test.YtoajcbfejplfbaaDoorFoldMap
import Derived.Deep.RegionLaw
import Derived.Deep.RegionWith
import Derived.Deep.RegionHeld3
namespace Go.Proofs.YtoajcbfejplfbaaDoor.MidP.R
open Go.RowKit Go.Proofs.YtoajcbfejplfbaaDoor.Wo Go.Maps Go.Proofs.YtoajcbfejplfbaaDoor.TreeP Go.Proofs.YtoajcbfejplfbaaDoor.MidP
set_option linter.unusedVariables false
set_option linter.unusedSimpArgs false
/-- What a step is asked in: the function at q, the step behind it. -/
structure AskR (W W3 : World) (f : Fm) (s : Stp) (q : Nat) (ta sa aa : Option Addr) (tc sc ac : Nat) : Prop where
  mods : Mods None W W3
  fn : Blk W3 q [str f.name, .int .i64 f.params, .slice ta f.types.length tc, .slice sa f.steps.length sc] 64
  st : Blk W3 (q + 1) (stpL s (.slice aa s.args.length ac)) 65
theorem AskR.new (W : World) (f : Fm) (s : Stp) (ta sa aa : Option Addr) (tc sc ac : Nat) :
    AskR W ((W.alloc (.cells #[str f.name, .int .i64 f.params, .slice ta f.types.length tc, .slice sa f.steps.length sc] 64)).alloc (.cells (stpL s (.slice aa s.args.length ac)).toArray 65)) f s W.heap.size ta sa aa tc sc ac := by
  refine ⟨((Mods.refl _ _).alloc _).alloc _, (Blk.new W _ _).alloc _, ?_⟩
  have := Blk.new (W.alloc (.cells #[str f.name, .int .i64 f.params, .slice ta f.types.length tc, .slice sa f.steps.length sc] 64)) (stpL s (.slice aa s.args.length ac)).toArray 65
  rw [show (W.alloc (.cells #[str f.name, .int .i64 f.params, .slice ta f.types.length tc, .slice sa f.steps.length sc] 64)).heap.size = W.heap.size + 1 by simp] at this
  simpa using this
/-- Numbers built: a row of them. -/
theorem built_ints (W : World) (l : List Int) (t : TypeId) (h : l.length ≤ 100) : IntsAt (W.alloc (.cells (l.map (Value.int .i64)).toArray t)) None (.slice (some ⟨W.heap.size, 0, none⟩) l.length l.length) l := by
  refine ⟨_, _, rfl, Nat.le_refl _, by unfold maxLen; omega, (fun h => by cases h), fun i x hx => ⟨_, _, rfl, fun k => k, ?_⟩⟩
  rw [Nat.zero_add]
  exact (Blk.new W _ t).cell (by simp [hx])
theorem typed_two (f : Fm) (ps ts : List Int) (ta sa : Option Addr) (tc sc : Nat) (W : World) (t1 t2 : TypeId) (h1 : ps.length ≤ 100) (h2 : ts.length ≤ 100)
    (hT : IntsAt W None (.slice ta f.types.length tc) f.types) (hS : StpsAt W None (.slice sa f.steps.length sc) f.steps) :
    Calls Tryd.prog 48 #[.agg #[str f.name, .int .i64 f.params, .slice ta f.types.length tc, .slice sa f.steps.length sc], .slice (some ⟨W.heap.size, 0, none⟩) ps.length ps.length, .slice (some ⟨W.heap.size + 1, 0, none⟩) ts.length ts.length]
      ((W.alloc (.cells (ps.map (Value.int .i64)).toArray t1)).alloc (.cells (ts.map (Value.int .i64)).toArray t2)) fun e w => e = .returned (.bool (typedP f ps ts)) ∧ Mods None W w := by
  have hm := ((Mods.refl None W).alloc (.cells (ps.map (Value.int .i64)).toArray t1)).alloc (.cells (ts.map (Value.int .i64)).toArray t2)
  have hp := (built_ints W ps t1 h1).mods (T := None) ((Mods.refl None _).alloc (.cells (ts.map (Value.int .i64)).toArray t2)) (fun _ _ k => k)
  have ht := built_ints (W.alloc (.cells (ps.map (Value.int .i64)).toArray t1)) ts t2 h2
  rw [show (W.alloc (.cells (ps.map (Value.int .i64)).toArray t1)).heap.size = W.heap.size + 1 by simp] at ht
  exact (typed_any f ps ts _ _ _ _ ⟨ta, tc, sa, sc, rfl, hT.mods hm (fun _ _ k => k), hS.mods hm (fun _ _ k => k)⟩ hp ht).mono fun e w ⟨e1, e2⟩ => ⟨e1, hm.trans e2⟩
set_option maxRecDepth 100000 in
set_option maxHeartbeats 1000000 in
theorem rstep_1 (f : Fm) (s : Stp) (bo bl : Nat) (lv : Value) (ta sa aa : Option Addr) (tc sc ac : Nat) (W : World) (hc : s.code = 1)
    (hT : IntsAt W None (.slice ta f.types.length tc) f.types) (hS : StpsAt W None (.slice sa f.steps.length sc) f.steps) :
    Calls Tryd.prog 31 #[lv, .map (some bo), .agg #[str f.name, .int .i64 f.params, .slice ta f.types.length tc, .slice sa f.steps.length sc], .agg (stpL s (.slice aa s.args.length ac)).toArray, .map (some bl)] W fun e w => e = .returned (.bool (typedP f [s.dst] [1])) ∧ Mods None W w := by
  obtain ⟨W3, hW3⟩ : ∃ W3, W3 = ((W.alloc (.cells #[str f.name, .int .i64 f.params, .slice ta f.types.length tc, .slice sa f.steps.length sc] 64)).alloc (.cells (stpL s (.slice aa s.args.length ac)).toArray 65)) := ⟨_, rfl⟩
  have HA : AskR W W3 f s W.heap.size ta sa aa tc sc ac := by rw [hW3]; exact AskR.new W f s ta sa aa tc sc ac
  have HC := Lib.hid (typed_two f [s.dst] [1] ta sa tc sc W3 3 3 (by simp) (by simp) (hT.mods HA.mods (fun _ _ k => k)) (hS.mods HA.mods (fun _ _ k => k)))
  have HM := Lib.hid HA.mods
  have f0 := HA.fn.cell (i := 0) rfl
  have f1 := HA.fn.cell (i := 1) rfl
  have f2 := HA.fn.cell (i := 2) rfl
  have f3 := HA.fn.cell (i := 3) rfl
  have s0 := HA.st.cell (i := 0) rfl
  have s1 := HA.st.cell (i := 1) rfl
  rw [hc] at s0
  clear HA hT hS hc
  unfold stpL str at *
  go_enter Tryd.func31, Tryd.ntmps31
  go_upto_region 1 with (fail)
  rw [← hW3]
  clear hW3
  go_wp2_with fail
  go_at_call 48
  refine HC.out.mono ?_
  rintro e w ⟨rfl, hw⟩
  go_wp2_with fail
  go_ret
  exact ⟨rfl, HM.out.trans hw⟩
set_option maxRecDepth 100000 in
set_option maxHeartbeats 1000000 in
theorem rstep_14 (f : Fm) (s : Stp) (bo bl : Nat) (lv : Value) (ta sa aa : Option Addr) (tc sc ac : Nat) (W : World) (hc : s.code = 14)
    (hT : IntsAt W None (.slice ta f.types.length tc) f.types) (hS : StpsAt W None (.slice sa f.steps.length sc) f.steps) :
    Calls Tryd.prog 31 #[lv, .map (some bo), .agg #[str f.name, .int .i64 f.params, .slice ta f.types.length tc, .slice sa f.steps.length sc], .agg (stpL s (.slice aa s.args.length ac)).toArray, .map (some bl)] W fun e w => e = .returned (.bool (typedP f [s.dst] [1])) ∧ Mods None W w := by
  obtain ⟨W3, hW3⟩ : ∃ W3, W3 = ((W.alloc (.cells #[str f.name, .int .i64 f.params, .slice ta f.types.length tc, .slice sa f.steps.length sc] 64)).alloc (.cells (stpL s (.slice aa s.args.length ac)).toArray 65)) := ⟨_, rfl⟩
  have HA : AskR W W3 f s W.heap.size ta sa aa tc sc ac := by rw [hW3]; exact AskR.new W f s ta sa aa tc sc ac
  have HC := Lib.hid (typed_two f [s.dst] [1] ta sa tc sc W3 3 3 (by simp) (by simp) (hT.mods HA.mods (fun _ _ k => k)) (hS.mods HA.mods (fun _ _ k => k)))
  have HM := Lib.hid HA.mods
  have f0 := HA.fn.cell (i := 0) rfl
  have f1 := HA.fn.cell (i := 1) rfl
  have f2 := HA.fn.cell (i := 2) rfl
  have f3 := HA.fn.cell (i := 3) rfl
  have s0 := HA.st.cell (i := 0) rfl
  have s1 := HA.st.cell (i := 1) rfl
  rw [hc] at s0
  clear HA hT hS hc
  unfold stpL str at *
  go_enter Tryd.func31, Tryd.ntmps31
  go_upto_region 1 with (fail)
  rw [← hW3]
  clear hW3
  go_wp2_with fail
  go_at_call 48
  refine HC.out.mono ?_
  rintro e w ⟨rfl, hw⟩
  go_wp2_with fail
  go_ret
  exact ⟨rfl, HM.out.trans hw⟩
set_option maxRecDepth 100000 in
set_option maxHeartbeats 1000000 in
theorem rstep_8 (f : Fm) (s : Stp) (bo bl : Nat) (lv : Value) (ta sa aa : Option Addr) (tc sc ac : Nat) (W : World) (hc : s.code = 8)
    (hT : IntsAt W None (.slice ta f.types.length tc) f.types) (hS : StpsAt W None (.slice sa f.steps.length sc) f.steps) :
    Calls Tryd.prog 31 #[lv, .map (some bo), .agg #[str f.name, .int .i64 f.params, .slice ta f.types.length tc, .slice sa f.steps.length sc], .agg (stpL s (.slice aa s.args.length ac)).toArray, .map (some bl)] W fun e w => e = .returned (.bool (typedP f [s.a] [1])) ∧ Mods None W w := by
  obtain ⟨W3, hW3⟩ : ∃ W3, W3 = ((W.alloc (.cells #[str f.name, .int .i64 f.params, .slice ta f.types.length tc, .slice sa f.steps.length sc] 64)).alloc (.cells (stpL s (.slice aa s.args.length ac)).toArray 65)) := ⟨_, rfl⟩
  have HA : AskR W W3 f s W.heap.size ta sa aa tc sc ac := by rw [hW3]; exact AskR.new W f s ta sa aa tc sc ac
  have HC := Lib.hid (typed_two f [s.a] [1] ta sa tc sc W3 3 3 (by simp) (by simp) (hT.mods HA.mods (fun _ _ k => k)) (hS.mods HA.mods (fun _ _ k => k)))
  have HM := Lib.hid HA.mods
  have f0 := HA.fn.cell (i := 0) rfl
  have f1 := HA.fn.cell (i := 1) rfl
  have f2 := HA.fn.cell (i := 2) rfl
  have f3 := HA.fn.cell (i := 3) rfl
  have s0 := HA.st.cell (i := 0) rfl
  have s2 := HA.st.cell (i := 2) rfl
  rw [hc] at s0
  clear HA hT hS hc
  unfold stpL str at *
  go_enter Tryd.func31, Tryd.ntmps31
  go_upto_region 1 with (fail)
  rw [← hW3]
  clear hW3
  go_wp2_with fail
  go_at_call 48
  refine HC.out.mono ?_
  rintro e w ⟨rfl, hw⟩
  go_wp2_with fail
  go_ret
  exact ⟨rfl, HM.out.trans hw⟩
set_option maxRecDepth 100000 in
set_option maxHeartbeats 1000000 in
theorem rstep_13 (f : Fm) (s : Stp) (bo bl : Nat) (lv : Value) (ta sa aa : Option Addr) (tc sc ac : Nat) (W : World) (hc : s.code = 13)
    (hT : IntsAt W None (.slice ta f.types.length tc) f.types) (hS : StpsAt W None (.slice sa f.steps.length sc) f.steps) :
    Calls Tryd.prog 31 #[lv, .map (some bo), .agg #[str f.name, .int .i64 f.params, .slice ta f.types.length tc, .slice sa f.steps.length sc], .agg (stpL s (.slice aa s.args.length ac)).toArray, .map (some bl)] W fun e w => e = .returned (.bool (typedP f [s.a] [1])) ∧ Mods None W w := by
  obtain ⟨W3, hW3⟩ : ∃ W3, W3 = ((W.alloc (.cells #[str f.name, .int .i64 f.params, .slice ta f.types.length tc, .slice sa f.steps.length sc] 64)).alloc (.cells (stpL s (.slice aa s.args.length ac)).toArray 65)) := ⟨_, rfl⟩
  have HA : AskR W W3 f s W.heap.size ta sa aa tc sc ac := by rw [hW3]; exact AskR.new W f s ta sa aa tc sc ac
  have HC := Lib.hid (typed_two f [s.a] [1] ta sa tc sc W3 3 3 (by simp) (by simp) (hT.mods HA.mods (fun _ _ k => k)) (hS.mods HA.mods (fun _ _ k => k)))
  have HM := Lib.hid HA.mods
  have f0 := HA.fn.cell (i := 0) rfl
  have f1 := HA.fn.cell (i := 1) rfl
  have f2 := HA.fn.cell (i := 2) rfl
  have f3 := HA.fn.cell (i := 3) rfl
  have s0 := HA.st.cell (i := 0) rfl
  have s2 := HA.st.cell (i := 2) rfl
  rw [hc] at s0
  clear HA hT hS hc
  unfold stpL str at *
  go_enter Tryd.func31, Tryd.ntmps31
  go_upto_region 1 with (fail)
  rw [← hW3]
  clear hW3
  go_wp2_with fail
  go_at_call 48
  refine HC.out.mono ?_
  rintro e w ⟨rfl, hw⟩
  go_wp2_with fail
  go_ret
  exact ⟨rfl, HM.out.trans hw⟩
set_option maxRecDepth 100000 in
set_option maxHeartbeats 1000000 in
theorem rstep_9 (f : Fm) (s : Stp) (bo bl : Nat) (lv : Value) (ta sa aa : Option Addr) (tc sc ac : Nat) (W : World) (hc : s.code = 9)
    (hT : IntsAt W None (.slice ta f.types.length tc) f.types) (hS : StpsAt W None (.slice sa f.steps.length sc) f.steps) :
    Calls Tryd.prog 31 #[lv, .map (some bo), .agg #[str f.name, .int .i64 f.params, .slice ta f.types.length tc, .slice sa f.steps.length sc], .agg (stpL s (.slice aa s.args.length ac)).toArray, .map (some bl)] W fun e w => e = .returned (.bool (typedP f [s.dst, s.a] [2, 1])) ∧ Mods None W w := by
  obtain ⟨W3, hW3⟩ : ∃ W3, W3 = ((W.alloc (.cells #[str f.name, .int .i64 f.params, .slice ta f.types.length tc, .slice sa f.steps.length sc] 64)).alloc (.cells (stpL s (.slice aa s.args.length ac)).toArray 65)) := ⟨_, rfl⟩
  have HA : AskR W W3 f s W.heap.size ta sa aa tc sc ac := by rw [hW3]; exact AskR.new W f s ta sa aa tc sc ac
  have HC := Lib.hid (typed_two f [s.dst, s.a] [2, 1] ta sa tc sc W3 3 3 (by simp) (by simp) (hT.mods HA.mods (fun _ _ k => k)) (hS.mods HA.mods (fun _ _ k => k)))
  have HM := Lib.hid HA.mods
  have f0 := HA.fn.cell (i := 0) rfl
  have f1 := HA.fn.cell (i := 1) rfl
  have f2 := HA.fn.cell (i := 2) rfl
  have f3 := HA.fn.cell (i := 3) rfl
  have s0 := HA.st.cell (i := 0) rfl
  have s1 := HA.st.cell (i := 1) rfl
  have s2 := HA.st.cell (i := 2) rfl
  rw [hc] at s0
  clear HA hT hS hc
  unfold stpL str at *
  go_enter Tryd.func31, Tryd.ntmps31
  go_upto_region 1 with (fail)
  rw [← hW3]
  clear hW3
  go_wp2_with fail
  go_at_call 48
  refine HC.out.mono ?_
  rintro e w ⟨rfl, hw⟩
  go_wp2_with fail
  go_ret
  exact ⟨rfl, HM.out.trans hw⟩
set_option maxRecDepth 100000 in
set_option maxHeartbeats 1000000 in
theorem rstep_10 (f : Fm) (s : Stp) (bo bl : Nat) (lv : Value) (ta sa aa : Option Addr) (tc sc ac : Nat) (W : World) (hc : s.code = 10)
    (hT : IntsAt W None (.slice ta f.types.length tc) f.types) (hS : StpsAt W None (.slice sa f.steps.length sc) f.steps) :
    Calls Tryd.prog 31 #[lv, .map (some bo), .agg #[str f.name, .int .i64 f.params, .slice ta f.types.length tc, .slice sa f.steps.length sc], .agg (stpL s (.slice aa s.args.length ac)).toArray, .map (some bl)] W fun e w => e = .returned (.bool (typedP f [s.dst, s.a] [1, 2])) ∧ Mods None W w := by
  obtain ⟨W3, hW3⟩ : ∃ W3, W3 = ((W.alloc (.cells #[str f.name, .int .i64 f.params, .slice ta f.types.length tc, .slice sa f.steps.length sc] 64)).alloc (.cells (stpL s (.slice aa s.args.length ac)).toArray 65)) := ⟨_, rfl⟩
  have HA : AskR W W3 f s W.heap.size ta sa aa tc sc ac := by rw [hW3]; exact AskR.new W f s ta sa aa tc sc ac
  have HC := Lib.hid (typed_two f [s.dst, s.a] [1, 2] ta sa tc sc W3 3 3 (by simp) (by simp) (hT.mods HA.mods (fun _ _ k => k)) (hS.mods HA.mods (fun _ _ k => k)))
  have HM := Lib.hid HA.mods
  have f0 := HA.fn.cell (i := 0) rfl
  have f1 := HA.fn.cell (i := 1) rfl
  have f2 := HA.fn.cell (i := 2) rfl
  have f3 := HA.fn.cell (i := 3) rfl
  have s0 := HA.st.cell (i := 0) rfl
  have s1 := HA.st.cell (i := 1) rfl
  have s2 := HA.st.cell (i := 2) rfl
  rw [hc] at s0
  clear HA hT hS hc
  unfold stpL str at *
  go_enter Tryd.func31, Tryd.ntmps31
  go_upto_region 1 with (fail)
  rw [← hW3]
  clear hW3
  go_wp2_with fail
  go_at_call 48
  refine HC.out.mono ?_
  rintro e w ⟨rfl, hw⟩
  go_wp2_with fail
  go_ret
  exact ⟨rfl, HM.out.trans hw⟩
set_option maxRecDepth 100000 in
set_option maxHeartbeats 1000000 in
theorem rstep_11 (f : Fm) (s : Stp) (bo bl : Nat) (lv : Value) (ta sa aa : Option Addr) (tc sc ac : Nat) (W : World) (hc : s.code = 11)
    (hT : IntsAt W None (.slice ta f.types.length tc) f.types) (hS : StpsAt W None (.slice sa f.steps.length sc) f.steps) :
    Calls Tryd.prog 31 #[lv, .map (some bo), .agg #[str f.name, .int .i64 f.params, .slice ta f.types.length tc, .slice sa f.steps.length sc], .agg (stpL s (.slice aa s.args.length ac)).toArray, .map (some bl)] W fun e w => e = .returned (.bool (typedP f [s.dst, s.a, s.b] [1, 2, 1])) ∧ Mods None W w := by
  obtain ⟨W3, hW3⟩ : ∃ W3, W3 = ((W.alloc (.cells #[str f.name, .int .i64 f.params, .slice ta f.types.length tc, .slice sa f.steps.length sc] 64)).alloc (.cells (stpL s (.slice aa s.args.length ac)).toArray 65)) := ⟨_, rfl⟩
  have HA : AskR W W3 f s W.heap.size ta sa aa tc sc ac := by rw [hW3]; exact AskR.new W f s ta sa aa tc sc ac
  have HC := Lib.hid (typed_two f [s.dst, s.a, s.b] [1, 2, 1] ta sa tc sc W3 3 3 (by simp) (by simp) (hT.mods HA.mods (fun _ _ k => k)) (hS.mods HA.mods (fun _ _ k => k)))
  have HM := Lib.hid HA.mods
  have f0 := HA.fn.cell (i := 0) rfl
  have f1 := HA.fn.cell (i := 1) rfl
  have f2 := HA.fn.cell (i := 2) rfl
  have f3 := HA.fn.cell (i := 3) rfl
  have s0 := HA.st.cell (i := 0) rfl
  have s1 := HA.st.cell (i := 1) rfl
  have s2 := HA.st.cell (i := 2) rfl
  have s3 := HA.st.cell (i := 3) rfl
  rw [hc] at s0
  clear HA hT hS hc
  unfold stpL str at *
  go_enter Tryd.func31, Tryd.ntmps31
  go_upto_region 1 with (fail)
  rw [← hW3]
  clear hW3
  go_wp2_with fail
  go_at_call 48
  refine HC.out.mono ?_
  rintro e w ⟨rfl, hw⟩
  go_wp2_with fail
  go_ret
  exact ⟨rfl, HM.out.trans hw⟩
set_option maxRecDepth 100000 in
set_option maxHeartbeats 1000000 in
theorem rstep_12 (f : Fm) (s : Stp) (bo bl : Nat) (lv : Value) (ta sa aa : Option Addr) (tc sc ac : Nat) (W : World) (hc : s.code = 12)
    (hT : IntsAt W None (.slice ta f.types.length tc) f.types) (hS : StpsAt W None (.slice sa f.steps.length sc) f.steps) :
    Calls Tryd.prog 31 #[lv, .map (some bo), .agg #[str f.name, .int .i64 f.params, .slice ta f.types.length tc, .slice sa f.steps.length sc], .agg (stpL s (.slice aa s.args.length ac)).toArray, .map (some bl)] W fun e w => e = .returned (.bool (typedP f [s.a, s.b, s.c] [2, 1, 1])) ∧ Mods None W w := by
  obtain ⟨W3, hW3⟩ : ∃ W3, W3 = ((W.alloc (.cells #[str f.name, .int .i64 f.params, .slice ta f.types.length tc, .slice sa f.steps.length sc] 64)).alloc (.cells (stpL s (.slice aa s.args.length ac)).toArray 65)) := ⟨_, rfl⟩
  have HA : AskR W W3 f s W.heap.size ta sa aa tc sc ac := by rw [hW3]; exact AskR.new W f s ta sa aa tc sc ac
  have HC := Lib.hid (typed_two f [s.a, s.b, s.c] [2, 1, 1] ta sa tc sc W3 3 3 (by simp) (by simp) (hT.mods HA.mods (fun _ _ k => k)) (hS.mods HA.mods (fun _ _ k => k)))
  have HM := Lib.hid HA.mods
  have f0 := HA.fn.cell (i := 0) rfl
  have f1 := HA.fn.cell (i := 1) rfl
  have f2 := HA.fn.cell (i := 2) rfl
  have f3 := HA.fn.cell (i := 3) rfl
  have s0 := HA.st.cell (i := 0) rfl
  have s2 := HA.st.cell (i := 2) rfl
  have s3 := HA.st.cell (i := 3) rfl
  have s4 := HA.st.cell (i := 4) rfl
  rw [hc] at s0
  clear HA hT hS hc
  unfold stpL str at *
  go_enter Tryd.func31, Tryd.ntmps31
  go_upto_region 1 with (fail)
  rw [← hW3]
  clear hW3
  go_wp2_with fail
  go_at_call 48
  refine HC.out.mono ?_
  rintro e w ⟨rfl, hw⟩
  go_wp2_with fail
  go_ret
  exact ⟨rfl, HM.out.trans hw⟩
end Go.Proofs.YtoajcbfejplfbaaDoor.MidP.R
namespace Go.Proofs.YtoajcbfejplfbaaDoor.MidP.R
open Go.RowKit Go.Proofs.YtoajcbfejplfbaaDoor.TreeP Go.Proofs.YtoajcbfejplfbaaDoor.MidP
set_option linter.unusedVariables false
set_option linter.unusedSimpArgs false
theorem index_neg (s sub : List UInt8) : 0 ≤ Lib.index s sub ↔ sub <:+: s := by
  induction s with
  | nil =>
    unfold Lib.index
    cases sub with
    | nil => simp
    | cons c r => simp
  | cons b l ih =>
    unfold Lib.index
    rw [List.infix_cons_iff]
    split
    · rename_i h
      simp [List.isPrefixOf_iff_prefix.1 h]
    · rename_i h
      have h' : ¬ sub <+: b :: l := fun k => h (List.isPrefixOf_iff_prefix.2 k)
      have hge := Lib.index_ge l sub
      split
      · rename_i h2
        have h2 := eq_of_beq h2
        constructor
        · intro h; omega
        · rintro (h | h)
          · exact absurd h h'
          · have := ih.2 h; omega
      · rename_i h2
        have h2 : Lib.index l sub ≠ -1 := fun k => h2 (by rw [k]; rfl)
        constructor
        · intro _; exact Or.inr (ih.1 (by omega))
        · intro _; omega
theorem contains_iff (s sub : List UInt8) : Lib.contains s sub = true ↔ sub <:+: s := by
  unfold Lib.contains
  rw [decide_eq_true_iff, index_neg]
theorem infix_skip (x y : List UInt8) : (w : List UInt8) → 32 ∉ w → ((32 :: x) <:+: (w ++ y) ↔ (32 :: x) <:+: y)
  | [], _ => Iff.rfl
  | c :: w, h => by
    rw [List.cons_append, List.infix_cons_iff, infix_skip x y w (fun k => h (List.mem_cons_of_mem _ k))]
    constructor
    · rintro (h2 | h2)
      · obtain ⟨t, ht⟩ := h2
        simp only [List.cons_append, List.cons.injEq] at ht
        exact absurd (by rw [← ht.1]; exact List.mem_cons_self) h
      · exact h2
    · exact Or.inr
theorem prefix_word (y : List UInt8) : (t w : List UInt8) → 32 ∉ t → 32 ∉ w → ((t ++ [32]) <+: (w ++ 32 :: y) ↔ t = w)
  | [], [], _, _ => by simp
  | [], c :: w, _, h2 => by
    simp only [List.nil_append, List.cons_append, List.cons_prefix_cons, List.nil_prefix, and_true]
    constructor
    · intro h; exact absurd (by rw [h]; exact List.mem_cons_self) h2
    · intro h; cases h
  | c :: t, [], h1, _ => by
    simp only [List.nil_append, List.cons_append, List.cons_prefix_cons]
    constructor
    · intro h; exact absurd (by rw [← h.1]; exact List.mem_cons_self) h1
    · intro h; cases h
  | c :: t, d :: w, h1, h2 => by
    simp only [List.cons_append, List.cons_prefix_cons, List.cons.injEq]
    rw [prefix_word y t w (fun k => h1 (List.mem_cons_of_mem _ k)) (fun k => h2 (List.mem_cons_of_mem _ k))]
/-- Words, a blank behind each. -/
def blanked (ws : List (List UInt8)) : List UInt8 := ws.flatMap (· ++ [32])
theorem infix_words (t : List UInt8) (ht : 32 ∉ t) : (ws : List (List UInt8)) → (∀ w ∈ ws, 32 ∉ w) → ((32 :: (t ++ [32])) <:+: (32 :: blanked ws) ↔ t ∈ ws)
  | [], _ => by
    simp only [blanked, List.flatMap_nil, List.not_mem_nil, iff_false]
    intro h
    have := h.length_le
    simp at this
  | w :: ws, h => by
    have hb : blanked (w :: ws) = w ++ 32 :: blanked ws := by simp [blanked]
    rw [hb, List.infix_cons_iff, List.cons_prefix_cons, prefix_word _ t w ht (h w List.mem_cons_self), infix_skip _ _ w (h w List.mem_cons_self), infix_words t ht ws (fun x hx => h x (List.mem_cons_of_mem _ hx)), List.mem_cons]
    simp
theorem con_blank (s : List UInt8) : Lib.contains s [32] = s.contains 32 := by
  rw [Bool.eq_iff_iff, contains_iff, List.contains_iff_mem]
  constructor
  · intro h
    exact h.subset List.mem_cons_self
  · intro h
    obtain ⟨a, b, rfl⟩ := List.append_of_mem h
    exact ⟨a, b, by simp⟩
/-- The marks of two, a blank ahead of each and behind. -/
def opText : List UInt8 := [32, 43, 32, 45, 32, 42, 32, 47, 32, 37, 32, 61, 61, 32, 33, 61, 32, 60, 32, 60, 61, 32, 62, 32, 62, 61, 32]
theorem op_text {t : List UInt8} (ht : t.contains 32 = false) : Lib.contains opText (32 :: (t ++ [32])) = opList.contains t := by
  have h32 : 32 ∉ t := by
    intro h
    rw [List.contains_iff_mem.2 h] at ht
    cases ht
  have h := infix_words t h32 opList (by decide)
  have hk : (32 : UInt8) :: blanked opList = opText := by decide
  rw [hk, ← contains_iff] at h
  rw [Bool.eq_iff_iff, h, List.contains_iff_mem]
theorem op_nil : opList.contains ([] : List UInt8) = false := by decide
theorem op_blank {t : List UInt8} (ht : t.contains 32 = true) : opList.contains t = false := by
  have h : ∀ w ∈ opList, w.contains 32 = false := by decide
  cases e : opList.contains t with
  | false => rfl
  | true => rw [h t (List.contains_iff_mem.1 e)] at ht; cases ht
end Go.Proofs.YtoajcbfejplfbaaDoor.MidP.R
namespace Go.Proofs.YtoajcbfejplfbaaDoor.MidP.R
open Go.RowKit Go.Proofs.YtoajcbfejplfbaaDoor.Wo Go.Maps Go.Proofs.YtoajcbfejplfbaaDoor.TreeP Go.Proofs.YtoajcbfejplfbaaDoor.MidP
set_option linter.unusedVariables false
set_option linter.unusedSimpArgs false
theorem zero_i (w : World) : (zeroValue 3).run Tryd.prog w = .ok (.int .i64 0) w := by kernel_rfl
set_option maxRecDepth 100000 in
set_option maxHeartbeats 1000000 in
theorem rstep_6 (f : Fm) (s : Stp) (bo bl : Nat) (lv : Value) (ta sa aa : Option Addr) (tc sc ac : Nat) (W : World) (hc : s.code = 6)
    (hT : IntsAt W None (.slice ta f.types.length tc) f.types) (hS : StpsAt W None (.slice sa f.steps.length sc) f.steps) :
    Calls Tryd.prog 31 #[lv, .map (some bo), .agg #[str f.name, .int .i64 f.params, .slice ta f.types.length tc, .slice sa f.steps.length sc], .agg (stpL s (.slice aa s.args.length ac)).toArray, .map (some bl)] W fun e w => e = .returned (.bool (true)) ∧ Mods None W w := by
  obtain ⟨W3, hW3⟩ : ∃ W3, W3 = ((W.alloc (.cells #[str f.name, .int .i64 f.params, .slice ta f.types.length tc, .slice sa f.steps.length sc] 64)).alloc (.cells (stpL s (.slice aa s.args.length ac)).toArray 65)) := ⟨_, rfl⟩
  have HA : AskR W W3 f s W.heap.size ta sa aa tc sc ac := by rw [hW3]; exact AskR.new W f s ta sa aa tc sc ac
  have HC := Lib.hid (fun (ps ts : List Int) (h1 : ps.length ≤ 100) (h2 : ts.length ≤ 100) (w : World) (hm : Mods None W3 w) => typed_two f ps ts ta sa tc sc w 3 3 h1 h2 ((hT.mods HA.mods (fun _ _ k => k)).mods hm (fun _ _ k => k)) ((hS.mods HA.mods (fun _ _ k => k)).mods hm (fun _ _ k => k)))
  have HM := Lib.hid HA.mods
  have HFN := Lib.hid HA.fn
  have HST := Lib.hid HA.st
  have f0 := HA.fn.cell (i := 0) rfl
  have f1 := HA.fn.cell (i := 1) rfl
  have f2 := HA.fn.cell (i := 2) rfl
  have f3 := HA.fn.cell (i := 3) rfl
  have s0 := HA.st.cell (i := 0) rfl
  rw [hc] at s0
  clear HA hT hS hc HC HFN HST
  unfold stpL str at *
  go_enter Tryd.func31, Tryd.ntmps31
  go_upto_region 1 with (fail)
  rw [← hW3]
  clear hW3
  go_wp2_with fail
  go_ret
  exact ⟨rfl, HM.out⟩
set_option maxRecDepth 100000 in
set_option maxHeartbeats 1000000 in
theorem rstep_no (f : Fm) (s : Stp) (bo bl : Nat) (lv : Value) (ta sa aa : Option Addr) (tc sc ac : Nat) (W : World) (hc : ¬ (1 ≤ s.code ∧ s.code ≤ 14))
    (hT : IntsAt W None (.slice ta f.types.length tc) f.types) (hS : StpsAt W None (.slice sa f.steps.length sc) f.steps) :
    Calls Tryd.prog 31 #[lv, .map (some bo), .agg #[str f.name, .int .i64 f.params, .slice ta f.types.length tc, .slice sa f.steps.length sc], .agg (stpL s (.slice aa s.args.length ac)).toArray, .map (some bl)] W fun e w => e = .returned (.bool (false)) ∧ Mods None W w := by
  obtain ⟨W3, hW3⟩ : ∃ W3, W3 = ((W.alloc (.cells #[str f.name, .int .i64 f.params, .slice ta f.types.length tc, .slice sa f.steps.length sc] 64)).alloc (.cells (stpL s (.slice aa s.args.length ac)).toArray 65)) := ⟨_, rfl⟩
  have HA : AskR W W3 f s W.heap.size ta sa aa tc sc ac := by rw [hW3]; exact AskR.new W f s ta sa aa tc sc ac
  have HC := Lib.hid (fun (ps ts : List Int) (h1 : ps.length ≤ 100) (h2 : ts.length ≤ 100) (w : World) (hm : Mods None W3 w) => typed_two f ps ts ta sa tc sc w 3 3 h1 h2 ((hT.mods HA.mods (fun _ _ k => k)).mods hm (fun _ _ k => k)) ((hS.mods HA.mods (fun _ _ k => k)).mods hm (fun _ _ k => k)))
  have HM := Lib.hid HA.mods
  have HFN := Lib.hid HA.fn
  have HST := Lib.hid HA.st
  have f0 := HA.fn.cell (i := 0) rfl
  have f1 := HA.fn.cell (i := 1) rfl
  have f2 := HA.fn.cell (i := 2) rfl
  have f3 := HA.fn.cell (i := 3) rfl
  have s0 := HA.st.cell (i := 0) rfl
  have n1 : (s.code == 1) = false := by simp; omega
  have n2 : (s.code == 2) = false := by simp; omega
  have n3 : (s.code == 3) = false := by simp; omega
  have n4 : (s.code == 4) = false := by simp; omega
  have n5 : (s.code == 5) = false := by simp; omega
  have n6 : (s.code == 6) = false := by simp; omega
  have n7 : (s.code == 7) = false := by simp; omega
  have n8 : (s.code == 8) = false := by simp; omega
  have n9 : (s.code == 9) = false := by simp; omega
  have n10 : (s.code == 10) = false := by simp; omega
  have n11 : (s.code == 11) = false := by simp; omega
  have n12 : (s.code == 12) = false := by simp; omega
  have n13 : (s.code == 13) = false := by simp; omega
  have n14 : (s.code == 14) = false := by simp; omega
  clear HA hT hS hc HC HFN HST
  unfold stpL str at *
  go_enter Tryd.func31, Tryd.ntmps31
  go_upto_region 1 with (fail)
  rw [← hW3]
  clear hW3
  go_wp2_with fail
  go_ret
  exact ⟨rfl, HM.out⟩
set_option maxRecDepth 100000 in
set_option maxHeartbeats 1000000 in
theorem rstep_2 (f : Fm) (s : Stp) (bo bl : Nat) (lv : Value) (ta sa aa : Option Addr) (tc sc ac : Nat) (W : World) (hc : s.code = 2)
    (hT : IntsAt W None (.slice ta f.types.length tc) f.types) (hS : StpsAt W None (.slice sa f.steps.length sc) f.steps) :
    Calls Tryd.prog 31 #[lv, .map (some bo), .agg #[str f.name, .int .i64 f.params, .slice ta f.types.length tc, .slice sa f.steps.length sc], .agg (stpL s (.slice aa s.args.length ac)).toArray, .map (some bl)] W fun e w => e = .returned (.bool (typedP f [s.dst, s.a] [1, 1] || typedP f [s.dst, s.a] [2, 2])) ∧ Mods None W w := by
  obtain ⟨W3, hW3⟩ : ∃ W3, W3 = ((W.alloc (.cells #[str f.name, .int .i64 f.params, .slice ta f.types.length tc, .slice sa f.steps.length sc] 64)).alloc (.cells (stpL s (.slice aa s.args.length ac)).toArray 65)) := ⟨_, rfl⟩
  have HA : AskR W W3 f s W.heap.size ta sa aa tc sc ac := by rw [hW3]; exact AskR.new W f s ta sa aa tc sc ac
  have HC := Lib.hid (fun (ps ts : List Int) (h1 : ps.length ≤ 100) (h2 : ts.length ≤ 100) (w : World) (hm : Mods None W3 w) => typed_two f ps ts ta sa tc sc w 3 3 h1 h2 ((hT.mods HA.mods (fun _ _ k => k)).mods hm (fun _ _ k => k)) ((hS.mods HA.mods (fun _ _ k => k)).mods hm (fun _ _ k => k)))
  have HM := Lib.hid HA.mods
  have HFN := Lib.hid HA.fn
  have HST := Lib.hid HA.st
  have f0 := HA.fn.cell (i := 0) rfl
  have f1 := HA.fn.cell (i := 1) rfl
  have f2 := HA.fn.cell (i := 2) rfl
  have f3 := HA.fn.cell (i := 3) rfl
  have s0 := HA.st.cell (i := 0) rfl
  have s1 := HA.st.cell (i := 1) rfl
  have s2 := HA.st.cell (i := 2) rfl
  rw [hc] at s0
  obtain ⟨R1, h1⟩ : ∃ R1, R1 = typedP f [s.dst, s.a] [1, 1] := ⟨_, rfl⟩
  have HC1 := Lib.hid (HC.out [s.dst, s.a] [1, 1] (by simp) (by simp) W3 (Mods.refl _ _))
  have HC2 := Lib.hid (HC.out [s.dst, s.a] [2, 2] (by simp) (by simp))
  rw [← h1] at HC1 ⊢
  clear h1 HC
  clear HA hT hS hc
  unfold stpL str at *
  go_enter Tryd.func31, Tryd.ntmps31
  go_upto_region 1 with (fail)
  rw [← hW3]
  clear hW3
  go_wp2_with fail
  go_at_call 48
  refine HC1.out.mono ?_
  rintro e w ⟨rfl, hw⟩
  have HW := Lib.hid hw
  clear hw
  have f0 := (HFN.out.mods HW.out (fun k => k)).cell (i := 0) rfl
  have f1 := (HFN.out.mods HW.out (fun k => k)).cell (i := 1) rfl
  have f2 := (HFN.out.mods HW.out (fun k => k)).cell (i := 2) rfl
  have f3 := (HFN.out.mods HW.out (fun k => k)).cell (i := 3) rfl
  have s1 := (HST.out.mods HW.out (fun k => k)).cell (i := 1) rfl
  have s2 := (HST.out.mods HW.out (fun k => k)).cell (i := 2) rfl
  cases R1 with
  | true =>
    go_wp2_with fail
    go_ret
    exact ⟨rfl, HM.out.trans HW.out⟩
  | false =>
    go_wp2_with fail
    go_at_call 48
    refine (HC2.out w HW.out).mono ?_
    rintro e w2 ⟨rfl, hw2⟩
    go_wp2_with fail
    go_ret
    exact ⟨rfl, (HM.out.trans HW.out).trans hw2⟩
set_option maxRecDepth 100000 in
set_option maxHeartbeats 1000000 in
theorem rstep_3 (f : Fm) (s : Stp) (bo bl : Nat) (lv : Value) (ta sa aa : Option Addr) (tc sc ac : Nat) (W : World) (hc : s.code = 3)
    (hT : IntsAt W None (.slice ta f.types.length tc) f.types) (hS : StpsAt W None (.slice sa f.steps.length sc) f.steps) (hX : W.ShapedOpen Tryd.prog) (hO : s.op.length ≤ 20) :
    Calls Tryd.prog 31 #[lv, .map (some bo), .agg #[str f.name, .int .i64 f.params, .slice ta f.types.length tc, .slice sa f.steps.length sc], .agg (stpL s (.slice aa s.args.length ac)).toArray, .map (some bl)] W fun e w => e = .returned (.bool (typedP f [s.dst, s.a, s.b] [1, 1, 1] && opList.contains s.op)) ∧ Mods None W w := by
  obtain ⟨W3, hW3⟩ : ∃ W3, W3 = ((W.alloc (.cells #[str f.name, .int .i64 f.params, .slice ta f.types.length tc, .slice sa f.steps.length sc] 64)).alloc (.cells (stpL s (.slice aa s.args.length ac)).toArray 65)) := ⟨_, rfl⟩
  have HA : AskR W W3 f s W.heap.size ta sa aa tc sc ac := by rw [hW3]; exact AskR.new W f s ta sa aa tc sc ac
  have HC := Lib.hid (fun (ps ts : List Int) (h1 : ps.length ≤ 100) (h2 : ts.length ≤ 100) (w : World) (hm : Mods None W3 w) => typed_two f ps ts ta sa tc sc w 3 3 h1 h2 ((hT.mods HA.mods (fun _ _ k => k)).mods hm (fun _ _ k => k)) ((hS.mods HA.mods (fun _ _ k => k)).mods hm (fun _ _ k => k)))
  have HM := Lib.hid HA.mods
  have HFN := Lib.hid HA.fn
  have HST := Lib.hid HA.st
  have f0 := HA.fn.cell (i := 0) rfl
  have f1 := HA.fn.cell (i := 1) rfl
  have f2 := HA.fn.cell (i := 2) rfl
  have f3 := HA.fn.cell (i := 3) rfl
  have s0 := HA.st.cell (i := 0) rfl
  have s1 := HA.st.cell (i := 1) rfl
  have s2 := HA.st.cell (i := 2) rfl
  have s3 := HA.st.cell (i := 3) rfl
  rw [hc] at s0
  have HXX := Lib.hid (fun (t u : List UInt8) (ht : t.length ≤ 100) (w : World) (hm : Mods None W3 w) => (Tryd.strings_Contains_shaped ⟨t.toArray⟩ ⟨u.toArray⟩ w (Mods.shaped (HA.mods.trans hm) hX) (by simp [ByteArray.size]; omega)))
  obtain ⟨R1, h1⟩ : ∃ R1, R1 = typedP f [s.dst, s.a, s.b] [1, 1, 1] := ⟨_, rfl⟩
  have HC1 := Lib.hid (HC.out [s.dst, s.a, s.b] [1, 1, 1] (by simp) (by simp) W3 (Mods.refl _ _))
  rw [← h1] at HC1 ⊢
  clear h1 HC
  have HO := Lib.hid hO
  have HOP : Hid (∀ w, Mods None W3 w → Calls Tryd.prog 49 #[.string ⟨s.op.toArray⟩, .string ⟨#[32]⟩] w fun e w' => e = .returned (.bool (s.op.contains 32)) ∧ w' = w) := Lib.hid (fun w hm => by
    have h := HXX.out s.op [32] (by omega) w hm
    rw [← con_blank]
    exact h)
  have HTX : Hid (s.op.contains 32 = false → ∀ w, Mods None W3 w → Calls Tryd.prog 49 #[.string ⟨#[32, 43, 32, 45, 32, 42, 32, 47, 32, 37, 32, 61, 61, 32, 33, 61, 32, 60, 32, 60, 61, 32, 62, 32, 62, 61, 32]⟩, .string ((⟨#[32]⟩ : ByteArray) ++ ⟨s.op.toArray⟩ ++ ⟨#[32]⟩)] w fun e w' => e = .returned (.bool (opList.contains s.op)) ∧ w' = w) := Lib.hid (fun h32 w hm => by
    have h := HXX.out opText (32 :: (s.op ++ [32])) (by decide) w hm
    rw [← op_text h32]
    have e : ((⟨#[32]⟩ : ByteArray) ++ ⟨s.op.toArray⟩ ++ ⟨#[32]⟩) = ⟨(32 :: (s.op ++ [32])).toArray⟩ := by
      apply ByteArray.ext
      simp [ByteArray.data_append]
    rw [e]
    exact h)
  clear HXX hX hO
  clear HA hT hS hc
  unfold stpL str at *
  go_enter Tryd.func31, Tryd.ntmps31
  go_upto_region 1 with (fail)
  rw [← hW3]
  clear hW3
  go_wp2_with fail
  go_at_call 48
  refine HC1.out.mono ?_
  rintro e w ⟨rfl, hw⟩
  have HW := Lib.hid hw
  clear hw
  have s6 := (HST.out.mods HW.out (fun k => k)).cell (i := 6) rfl
  cases R1 with
  | false =>
    go_wp2_with fail
    go_ret
    exact ⟨rfl, HM.out.trans HW.out⟩
  | true =>
    by_cases hn : s.op = []
    · have e0 : Hid (opList.contains s.op = false) := Lib.hid (by rw [hn]; exact op_nil)
      rw [hn] at s6
      go_wp2_with fail
      go_ret
      exact ⟨by rw [e0.out]; rfl, HM.out.trans HW.out⟩
    · have hb : (s.op == []) = false := by simpa using hn
      go_wp2_with fail
      have HO1 := HOP.out w HW.out
      by_cases h32 : s.op.contains 32 = true
      · rw [h32] at HO1
        have e0 : Hid (opList.contains s.op = false) := Lib.hid (op_blank h32)
        clear h32
        refine HO1.mono ?_
        clear HO1
        rintro e w2 ⟨rfl, rfl⟩
        go_wp2_with fail
        go_ret
        exact ⟨by rw [e0.out]; rfl, HM.out.trans HW.out⟩
      · have h32 : s.op.contains 32 = false := by simpa using h32
        have HT2 := Lib.hid (HTX.out h32 w HW.out)
        rw [h32] at HO1
        clear h32 HTX HOP
        obtain ⟨R2, hR2⟩ : ∃ R2, R2 = opList.contains s.op := ⟨_, rfl⟩
        rw [← hR2] at HT2
        have HR2 := Lib.hid hR2
        clear hR2
        refine HO1.mono ?_
        clear HO1
        rintro e w2 ⟨rfl, rfl⟩
        have hO := HO.out
        go_wp2_with fail
        refine HT2.out.mono ?_
        rintro e w3 ⟨rfl, rfl⟩
        go_wp2_with fail
        go_ret
        exact ⟨by rw [← HR2.out]; rfl, HM.out.trans HW.out⟩
set_option maxRecDepth 100000 in
set_option maxHeartbeats 1000000 in
theorem rstep_4 (f : Fm) (s : Stp) (bo bl : Nat) (lv : Value) (ta sa aa : Option Addr) (tc sc ac : Nat) (W : World) (hc : s.code = 4)
    (hT : IntsAt W None (.slice ta f.types.length tc) f.types) (hS : StpsAt W None (.slice sa f.steps.length sc) f.steps) (nl : Nat) (hB : IntMap W bl nl (.int .i64 0) (fun l => .int .i64 (labN f l : Int))) (hI : I64 s.label) :
    Calls Tryd.prog 31 #[lv, .map (some bo), .agg #[str f.name, .int .i64 f.params, .slice ta f.types.length tc, .slice sa f.steps.length sc], .agg (stpL s (.slice aa s.args.length ac)).toArray, .map (some bl)] W fun e w => e = .returned (.bool (decide (0 < labN f s.label))) ∧ Mods None W w := by
  obtain ⟨W3, hW3⟩ : ∃ W3, W3 = ((W.alloc (.cells #[str f.name, .int .i64 f.params, .slice ta f.types.length tc, .slice sa f.steps.length sc] 64)).alloc (.cells (stpL s (.slice aa s.args.length ac)).toArray 65)) := ⟨_, rfl⟩
  have HA : AskR W W3 f s W.heap.size ta sa aa tc sc ac := by rw [hW3]; exact AskR.new W f s ta sa aa tc sc ac
  have HC := Lib.hid (fun (ps ts : List Int) (h1 : ps.length ≤ 100) (h2 : ts.length ≤ 100) (w : World) (hm : Mods None W3 w) => typed_two f ps ts ta sa tc sc w 3 3 h1 h2 ((hT.mods HA.mods (fun _ _ k => k)).mods hm (fun _ _ k => k)) ((hS.mods HA.mods (fun _ _ k => k)).mods hm (fun _ _ k => k)))
  have HM := Lib.hid HA.mods
  have HFN := Lib.hid HA.fn
  have HST := Lib.hid HA.st
  have f0 := HA.fn.cell (i := 0) rfl
  have f1 := HA.fn.cell (i := 1) rfl
  have f2 := HA.fn.cell (i := 2) rfl
  have f3 := HA.fn.cell (i := 3) rfl
  have s0 := HA.st.cell (i := 0) rfl
  have s7 := HA.st.cell (i := 7) rfl
  rw [hc] at s0
  have hB3 := hB.mods HA.mods (fun k => k)
  have hlk : (Instr.lookup 72 (.map (some bl)) (.int .i64 s.label) false).run Tryd.prog W3 = .ok (.int .i64 (labN f s.label : Int)) W3 := hB3.look (t := 72) Tryd.underlying72 (zero_i _) hI
  generalize labN f s.label = n at hlk ⊢
  clear HC hB hB3 hI
  clear HA hT hS hc
  unfold stpL str at *
  go_enter Tryd.func31, Tryd.ntmps31
  go_upto_region 1 with (fail)
  rw [← hW3]
  clear hW3
  by_cases hn : 0 < n
  · have hp : (n : Int) > 0 := by omega
    go_wp2_with fail
    go_ret
    exact ⟨by simp [hn], HM.out⟩
  · have hp : ¬ (n : Int) > 0 := by omega
    go_wp2_with fail
    go_ret
    exact ⟨by simp [hn], HM.out⟩
set_option maxRecDepth 100000 in
set_option maxHeartbeats 1000000 in
theorem rstep_5 (f : Fm) (s : Stp) (bo bl : Nat) (lv : Value) (ta sa aa : Option Addr) (tc sc ac : Nat) (W : World) (hc : s.code = 5)
    (hT : IntsAt W None (.slice ta f.types.length tc) f.types) (hS : StpsAt W None (.slice sa f.steps.length sc) f.steps) (nl : Nat) (hB : IntMap W bl nl (.int .i64 0) (fun l => .int .i64 (labN f l : Int))) (hI : I64 s.label) :
    Calls Tryd.prog 31 #[lv, .map (some bo), .agg #[str f.name, .int .i64 f.params, .slice ta f.types.length tc, .slice sa f.steps.length sc], .agg (stpL s (.slice aa s.args.length ac)).toArray, .map (some bl)] W fun e w => e = .returned (.bool (decide (0 < labN f s.label) && typedP f [s.a] [1])) ∧ Mods None W w := by
  obtain ⟨W3, hW3⟩ : ∃ W3, W3 = ((W.alloc (.cells #[str f.name, .int .i64 f.params, .slice ta f.types.length tc, .slice sa f.steps.length sc] 64)).alloc (.cells (stpL s (.slice aa s.args.length ac)).toArray 65)) := ⟨_, rfl⟩
  have HA : AskR W W3 f s W.heap.size ta sa aa tc sc ac := by rw [hW3]; exact AskR.new W f s ta sa aa tc sc ac
  have HC := Lib.hid (fun (ps ts : List Int) (h1 : ps.length ≤ 100) (h2 : ts.length ≤ 100) (w : World) (hm : Mods None W3 w) => typed_two f ps ts ta sa tc sc w 3 3 h1 h2 ((hT.mods HA.mods (fun _ _ k => k)).mods hm (fun _ _ k => k)) ((hS.mods HA.mods (fun _ _ k => k)).mods hm (fun _ _ k => k)))
  have HM := Lib.hid HA.mods
  have HFN := Lib.hid HA.fn
  have HST := Lib.hid HA.st
  have f0 := HA.fn.cell (i := 0) rfl
  have f1 := HA.fn.cell (i := 1) rfl
  have f2 := HA.fn.cell (i := 2) rfl
  have f3 := HA.fn.cell (i := 3) rfl
  have s0 := HA.st.cell (i := 0) rfl
  have s7 := HA.st.cell (i := 7) rfl
  have s2 := HA.st.cell (i := 2) rfl
  rw [hc] at s0
  have hB3 := hB.mods HA.mods (fun k => k)
  have hlk : (Instr.lookup 72 (.map (some bl)) (.int .i64 s.label) false).run Tryd.prog W3 = .ok (.int .i64 (labN f s.label : Int)) W3 := hB3.look (t := 72) Tryd.underlying72 (zero_i _) hI
  generalize labN f s.label = n at hlk ⊢
  have HC1 := Lib.hid (HC.out [s.a] [1] (by simp) (by simp) W3 (Mods.refl _ _))
  clear HC hB hB3 hI
  clear HA hT hS hc
  unfold stpL str at *
  go_enter Tryd.func31, Tryd.ntmps31
  go_upto_region 1 with (fail)
  rw [← hW3]
  clear hW3
  by_cases hn : 0 < n
  · have hp : (n : Int) > 0 := by omega
    go_wp2_with fail
    go_at_call 48
    refine HC1.out.mono ?_
    rintro e w ⟨rfl, hw⟩
    go_wp2_with fail
    go_ret
    exact ⟨by simp [hn], HM.out.trans hw⟩
  · have hp : ¬ (n : Int) > 0 := by omega
    go_wp2_with fail
    go_ret
    exact ⟨by simp [hn], HM.out⟩
end Go.Proofs.YtoajcbfejplfbaaDoor.MidP.R
namespace Go.Proofs.YtoajcbfejplfbaaDoor.MidP.R
open Go.RowKit Go.Proofs.YtoajcbfejplfbaaDoor.Wo Go.Maps Go.Proofs.YtoajcbfejplfbaaDoor.TreeP Go.Proofs.YtoajcbfejplfbaaDoor.MidP
set_option linter.unusedVariables false
set_option linter.unusedSimpArgs false
/-- A map of numbers by names. -/
def SMap (W : World) (bm n : Nat) (F : List UInt8 → Option Int) : Prop :=
  ∃ D : DV, W.ownsMap Tryd.prog 9 (plainElem Tryd.prog 3) bm n D ∧ ∀ (a : List UInt8) (z : DV), D.atKey (.string a) z = (match F a with | some x => .lit (.int .i64 x) | none => z)
theorem SMap.mods {S : Nat → Prop} {W W' : World} {bm n : Nat} {F : List UInt8 → Option Int} (h : SMap W bm n F) (hm : Mods S W W') (hn : ¬ S bm) : SMap W' bm n F := by
  obtain ⟨D, ⟨es, cl, h1, h2⟩, h3⟩ := h
  exact ⟨D, ⟨es, cl, hm.blockOf h1 hn, h2⟩, h3⟩
theorem SMap.lt {W : World} {bm n : Nat} {F : List UInt8 → Option Int} (h : SMap W bm n F) : bm < W.heap.size := by
  obtain ⟨D, h1, _⟩ := h
  exact h1.lt
theorem SMap.new (W : World) : SMap (W.alloc (.map #[] 0)) W.heap.size 0 (fun _ => none) :=
  ⟨_, World.ownsMap_made _ _ _ _, fun s z => rfl⟩
theorem s_zero_int (w : World) : (zeroValue 3).run Tryd.prog w = .ok (.int .i64 0) w := by kernel_rfl
theorem SMap.look {W : World} {bm n : Nat} {F : List UInt8 → Option Int} (h : SMap W bm n F) {a : List UInt8} (ha : a.length ≤ maxLen) :
    (Instr.lookup 69 (.map (some bm)) (.string ⟨a.toArray⟩) true).run Tryd.prog W = .ok (.tuple #[.int .i64 ((F a).getD 0), .bool (F a).isSome]) W := by
  have he := Tryd.underlying3
  obtain ⟨D, h1, h2⟩ := h
  obtain ⟨v, ps, hr, hv⟩ := h1.look_ok strKeys Tryd.underlying69 (s_zero_int W) (zd := .lit (.int .i64 0)) (zp := []) (plainElem_int he (by decide)) (keyStr ha)
  rw [h2 a] at hv
  unfold str at hr
  cases hf : F a with
  | none =>
    rw [hf] at hv
    obtain ⟨c, rfl, hc, hw⟩ := plainElem_int_inv he hv
    simp only [Prod.mk.injEq, DataW.lit.injEq, Lit.int.injEq, true_and] at hc
    rw [hr, has_false_of_atKey (fun z => by rw [h2 a, hf])]
    simp [← hc.1]
  | some x =>
    rw [hf] at hv
    obtain ⟨c, rfl, hc, hw⟩ := plainElem_int_inv he hv
    simp only [Prod.mk.injEq, DataW.lit.injEq, Lit.int.injEq, true_and] at hc
    rw [hr, has_true_of_atKey (y := .lit (.int .i64 x)) (fun z => by rw [h2 a, hf])]
    simp [← hc.1]
theorem SMap.put {W : World} {bm n : Nat} {F : List UInt8 → Option Int} (h : SMap W bm n F) {a : List UInt8} {x : Int} (ha : a.length ≤ maxLen) (hx : I64 x) (hn : n < maxLen) :
    ∃ w', (Instr.mapUpdate 69 (.map (some bm)) (.string ⟨a.toArray⟩) (.int .i64 x)).run Tryd.prog W = .ok () w' ∧ SMap w' bm (n + 1) (fun y => if y = a then some x else F y) ∧ Mods (· = bm) W w' := by
  have he := Tryd.underlying3
  obtain ⟨D, h1, h2⟩ := h
  obtain ⟨w', hr, ho, hg⟩ := h1.update strKeys Tryd.underlying69 hn (keyStr ha) (plainElem_int he (wf_of hx))
  refine ⟨w', hr, ⟨_, ho, fun y z => ?_⟩, Mods.of_grownBy hg (fun k hk _ => by cases hk; rfl)⟩
  by_cases hy : y = a
  · subst hy
    simp only [if_true]
    rw [atKey_put_same (k := .string y) h1.isMap (by trivial)]
  · simp only [if_neg hy]
    rw [atKey_put_other (by simpa using hy), h2 y]
end Go.Proofs.YtoajcbfejplfbaaDoor.MidP.R
namespace Go.Proofs.YtoajcbfejplfbaaDoor.MidP.R
open Go.RowKit Go.Proofs.YtoajcbfejplfbaaDoor.Wo Go.Maps Go.Proofs.YtoajcbfejplfbaaDoor.TreeP Go.Proofs.YtoajcbfejplfbaaDoor.MidP
set_option linter.unusedVariables false
set_option linter.unusedSimpArgs false
theorem add_zero_map (a : Option Addr) (c : Nat) (k : Nat) : (if c = 0 then a else a.map (fun x => x.add (0 * k))) = a := by
  split
  · rfl
  · cases a with
    | none => rfl
    | some x => simp [Addr.add]
theorem elem_ints : Tryd.prog.underlying 32 = some (.slice (Tryd.prog.elem 32)) := by kernel_rfl
theorem size_ints (w : World) : (sizeOf (Tryd.prog.elem 32)).run Tryd.prog w = .ok 1 w := by kernel_rfl
theorem head_run (a : Option Addr) (n c p : Nat) (hc : (p : Int) ≤ (c : Int)) (w : World) : (Instr.slice 32 (.slice a n c) none (some (.int .i64 (p : Int))) none).run Tryd.prog w = .ok (.slice a p c) w := by
  rw [run_slice_h (P := Tryd.prog) (w := w) (t := 32) (a := a) (len := n) (cap := c) elem_ints .i64 (p : Int) (by omega) hc, size_ints]
  have h := add_zero_map a c 1
  show Result.ok (sliced a 0 p c 1) w = _
  unfold sliced
  congr 2
theorem ints_top {W : World} {a : Option Addr} {n c : Nat} {l : List Int} (h : IntsAt W None (.slice a n c) l) {p : Nat} (hp : p ≤ l.length) : IntsAt W None (.slice a p c) (l.take p) := by
  obtain ⟨a', c', e, h1, h2, h3, h4⟩ := h
  obtain ⟨rfl, -, rfl⟩ := Value.slice.inj e
  refine ⟨_, _, by rw [List.length_take, Nat.min_eq_left hp], by rw [List.length_take]; omega, h2, fun h0 => by rw [List.length_take]; have := h3 h0; omega, fun i x hx => ?_⟩
  rw [List.getElem?_take] at hx
  split at hx
  · exact h4 i x hx
  · cases hx
/-- Where the functions' names lead. -/
def ofF (L : List Fm) : List UInt8 → Option Int := fun x => (L.findIdx? (fun g => g.name == x)).map (fun (k : Nat) => (k : Int))
theorem typed_one (f : Fm) (d t : Int) (ta sa : Option Addr) (tc sc : Nat) (W : World)
    (hT : IntsAt W None (.slice ta f.types.length tc) f.types) (hS : StpsAt W None (.slice sa f.steps.length sc) f.steps) (R : Bool) (hR : R = typedP f [d] [t]) :
    Calls Tryd.prog 48 #[.agg #[.string ⟨f.name.toArray⟩, .int .i64 f.params, .slice ta f.types.length tc, .slice sa f.steps.length sc], .slice (some ⟨W.heap.size, 0, none⟩) 1 1, .slice (some ⟨W.heap.size + 1, 0, none⟩) 1 1]
      ((W.alloc (.cells #[.int .i64 d] 3)).alloc (.cells #[.int .i64 t] 3)).drew fun e w => e = .returned (.bool R) ∧ Mods None W w := by
  have hm1 := (Mods.refl None W).alloc (.cells #[.int .i64 d] 3)
  have hm2 := ((Mods.refl None (W.alloc (.cells #[.int .i64 d] 3))).alloc (.cells #[.int .i64 t] 3)).drew
  have hp : IntsAt ((W.alloc (.cells #[.int .i64 d] 3)).alloc (.cells #[.int .i64 t] 3)).drew None (.slice (some ⟨W.heap.size, 0, none⟩) 1 1) [d] := (built_ints W [d] 3 (by simp)).mods (T := None) hm2 (fun _ _ k => k)
  have ht : IntsAt ((W.alloc (.cells #[.int .i64 d] 3)).alloc (.cells #[.int .i64 t] 3)).drew None (.slice (some ⟨W.heap.size + 1, 0, none⟩) 1 1) [t] := by
    have h := built_ints (W.alloc (.cells #[.int .i64 d] 3)) [t] 3 (by simp)
    rw [show (W.alloc (.cells #[.int .i64 d] 3)).heap.size = W.heap.size + 1 by simp] at h
    exact h.mods (T := None) ((Mods.refl None ((W.alloc (.cells #[.int .i64 d] 3)).alloc (.cells #[.int .i64 t] 3))).drew) (fun _ _ k => k)
  rw [hR]
  have hm := hm1.trans hm2
  exact (typed_any f [d] [t] _ _ _ _ ⟨ta, tc, sa, sc, rfl, hT.mods hm (fun _ _ k => k), hS.mods hm (fun _ _ k => k)⟩ hp ht).mono fun e w ⟨e1, e2⟩ => ⟨e1, hm.trans e2⟩
theorem typed_one_swap (f : Fm) (d t : Int) (ta sa : Option Addr) (tc sc : Nat) (W : World)
    (hT : IntsAt W None (.slice ta f.types.length tc) f.types) (hS : StpsAt W None (.slice sa f.steps.length sc) f.steps) (R : Bool) (hR : R = typedP f [d] [t]) :
    Calls Tryd.prog 48 #[.agg #[.string ⟨f.name.toArray⟩, .int .i64 f.params, .slice ta f.types.length tc, .slice sa f.steps.length sc], .slice (some ⟨W.heap.size + 1, 0, none⟩) 1 1, .slice (some ⟨W.heap.size, 0, none⟩) 1 1]
      ((W.alloc (.cells #[.int .i64 t] 3)).alloc (.cells #[.int .i64 d] 3)).drew fun e w => e = .returned (.bool R) ∧ Mods None W w := by
  have hm1 := (Mods.refl None W).alloc (.cells #[.int .i64 t] 3)
  have hm2 := ((Mods.refl None (W.alloc (.cells #[.int .i64 t] 3))).alloc (.cells #[.int .i64 d] 3)).drew
  have hp : IntsAt ((W.alloc (.cells #[.int .i64 t] 3)).alloc (.cells #[.int .i64 d] 3)).drew None (.slice (some ⟨W.heap.size, 0, none⟩) 1 1) [t] := (built_ints W [t] 3 (by simp)).mods (T := None) hm2 (fun _ _ k => k)
  have ht : IntsAt ((W.alloc (.cells #[.int .i64 t] 3)).alloc (.cells #[.int .i64 d] 3)).drew None (.slice (some ⟨W.heap.size + 1, 0, none⟩) 1 1) [d] := by
    have h := built_ints (W.alloc (.cells #[.int .i64 t] 3)) [d] 3 (by simp)
    rw [show (W.alloc (.cells #[.int .i64 t] 3)).heap.size = W.heap.size + 1 by simp] at h
    exact h.mods (T := None) ((Mods.refl None ((W.alloc (.cells #[.int .i64 t] 3)).alloc (.cells #[.int .i64 d] 3))).drew) (fun _ _ k => k)
  rw [hR]
  have hm := hm1.trans hm2
  exact (typed_any f [d] [t] _ _ _ _ ⟨ta, tc, sa, sc, rfl, hT.mods hm (fun _ _ k => k), hS.mods hm (fun _ _ k => k)⟩ ht hp).mono fun e w ⟨e1, e2⟩ => ⟨e1, hm.trans e2⟩
set_option maxRecDepth 100000 in
set_option maxHeartbeats 1000000 in
theorem rstep_7_none (L : List Fm) (f : Fm) (s : Stp) (bo bl no : Nat) (lv : Value) (ta sa aa : Option Addr) (tc sc ac : Nat) (W : World) (hc : s.code = 7) (hns : s.name.length ≤ maxLen)
    (hT : IntsAt W None (.slice ta f.types.length tc) f.types) (hS : StpsAt W None (.slice sa f.steps.length sc) f.steps) (hA : IntsAt W None (.slice aa s.args.length ac) s.args)
    (hL : FmsAt W None lv L) (hH : Heads L) (hB : SMap W bo no (ofF L)) (hk : L.findIdx? (fun g => g.name == s.name) = none) :
    Calls Tryd.prog 31 #[lv, .map (some bo), .agg #[str f.name, .int .i64 f.params, .slice ta f.types.length tc, .slice sa f.steps.length sc], .agg (stpL s (.slice aa s.args.length ac)).toArray, .map (some bl)] W fun e w => e = .returned (.bool (false)) ∧ Mods None W w := by
  obtain ⟨W3, hW3⟩ : ∃ W3, W3 = ((W.alloc (.cells #[str f.name, .int .i64 f.params, .slice ta f.types.length tc, .slice sa f.steps.length sc] 64)).alloc (.cells (stpL s (.slice aa s.args.length ac)).toArray 65)) := ⟨_, rfl⟩
  have HA : AskR W W3 f s W.heap.size ta sa aa tc sc ac := by rw [hW3]; exact AskR.new W f s ta sa aa tc sc ac
  have hlk := (hB.mods HA.mods (fun k => k)).look hns
  have HT3 := Lib.hid (And.intro (hT.mods HA.mods (fun _ _ k => k)) (And.intro (hS.mods HA.mods (fun _ _ k => k)) (And.intro (hA.mods HA.mods (fun _ _ k => k)) (hL.mods HA.mods (fun _ _ k => k)))))
  have HM := Lib.hid HA.mods
  have HFN := Lib.hid HA.fn
  have HST := Lib.hid HA.st
  have f0 := HA.fn.cell (i := 0) rfl
  have f1 := HA.fn.cell (i := 1) rfl
  have f2 := HA.fn.cell (i := 2) rfl
  have f3 := HA.fn.cell (i := 3) rfl
  have s0 := HA.st.cell (i := 0) rfl
  have s1 := HA.st.cell (i := 1) rfl
  have s8 := HA.st.cell (i := 8) rfl
  rw [hc] at s0
  unfold ofF at hlk
  rw [hk] at hlk
  simp only [Option.map_none, Option.getD_none, Option.isSome_none] at hlk
  clear HA hT hS hA hL hH hB hk hc HT3 HFN HST hns
  unfold stpL str at *
  go_enter Tryd.func31, Tryd.ntmps31
  go_upto_region 1 with (fail)
  rw [← hW3]
  clear hW3
  go_wp2_with fail
  go_quiet (fail)
  go_wp2_with fail
  go_ret
  exact ⟨rfl, HM.out.drewN _⟩
set_option maxRecDepth 100000 in
set_option maxHeartbeats 1000000 in
theorem rstep_7_some (L : List Fm) (f : Fm) (s : Stp) (bo bl no : Nat) (lv : Value) (ta sa aa : Option Addr) (tc sc ac : Nat) (W : World) (hc : s.code = 7) (hns : s.name.length ≤ maxLen)
    (hT : IntsAt W None (.slice ta f.types.length tc) f.types) (hS : StpsAt W None (.slice sa f.steps.length sc) f.steps) (hA : IntsAt W None (.slice aa s.args.length ac) s.args)
    (hL : FmsAt W None lv L) (hH : Heads L) (hB : SMap W bo no (ofF L)) (k : Nat) (hk : L.findIdx? (fun g => g.name == s.name) = some k) (G : Fm) (hG : L[k]? = some G) :
    Calls Tryd.prog 31 #[lv, .map (some bo), .agg #[str f.name, .int .i64 f.params, .slice ta f.types.length tc, .slice sa f.steps.length sc], .agg (stpL s (.slice aa s.args.length ac)).toArray, .map (some bl)] W fun e w => e = .returned (.bool (typedP f [s.dst] [1] && typedP f s.args (G.types.take G.params.toNat))) ∧ Mods None W w := by
  obtain ⟨W3, hW3⟩ : ∃ W3, W3 = ((W.alloc (.cells #[str f.name, .int .i64 f.params, .slice ta f.types.length tc, .slice sa f.steps.length sc] 64)).alloc (.cells (stpL s (.slice aa s.args.length ac)).toArray 65)) := ⟨_, rfl⟩
  have HA : AskR W W3 f s W.heap.size ta sa aa tc sc ac := by rw [hW3]; exact AskR.new W f s ta sa aa tc sc ac
  have hlk := (hB.mods HA.mods (fun k => k)).look hns
  have HT3 := Lib.hid (And.intro (hT.mods HA.mods (fun _ _ k => k)) (And.intro (hS.mods HA.mods (fun _ _ k => k)) (And.intro (hA.mods HA.mods (fun _ _ k => k)) (hL.mods HA.mods (fun _ _ k => k)))))
  have HM := Lib.hid HA.mods
  have HFN := Lib.hid HA.fn
  have HST := Lib.hid HA.st
  have f0 := HA.fn.cell (i := 0) rfl
  have f1 := HA.fn.cell (i := 1) rfl
  have f2 := HA.fn.cell (i := 2) rfl
  have f3 := HA.fn.cell (i := 3) rfl
  have s0 := HA.st.cell (i := 0) rfl
  have s1 := HA.st.cell (i := 1) rfl
  have s8 := HA.st.cell (i := 8) rfl
  rw [hc] at s0
  unfold ofF at hlk
  rw [hk] at hlk
  simp only [Option.map_some, Option.getD_some, Option.isSome_some] at hlk
  obtain ⟨R1, h1⟩ : ∃ R1, R1 = typedP f [s.dst] [1] := ⟨_, rfl⟩
  have HC1 := Lib.hid (typed_one f s.dst 1 ta sa tc sc W3 HT3.out.1 HT3.out.2.1 R1 h1)
  have HC2 := Lib.hid (typed_one_swap f s.dst 1 ta sa tc sc W3 HT3.out.1 HT3.out.2.1 R1 h1)
  rw [← h1]
  obtain ⟨la, lc, rfl, hlc1, hlc2, -⟩ := hL.form
  have hkl : k < L.length := (List.getElem?_eq_some_iff.1 hG).1
  have hGe : L[k] = G := (List.getElem?_eq_some_iff.1 hG).2
  obtain ⟨g, o, ga, gc, za, zc, hoe, y0, y1, y2, y3, hty, hst⟩ := HT3.out.2.2.2.get hkl
  subst hoe
  rw [hGe] at y1 y2 hty
  have hpar := hH G (List.mem_of_getElem? hG)
  obtain ⟨pn, hpn⟩ : ∃ pn : Nat, G.params = (pn : Int) := ⟨G.params.toNat, by omega⟩
  rw [hpn] at y1 hpar ⊢
  obtain ⟨R2, h2⟩ : ∃ R2, R2 = typedP f s.args (G.types.take pn) := ⟨_, rfl⟩
  have hpt : pn ≤ G.types.length := by omega
  obtain ⟨_, _, hgf, hgc1, hgc2, -⟩ := hty.form
  obtain ⟨-, -, rfl⟩ := Value.slice.inj hgf
  have hpc : (pn : Int) ≤ (gc : Int) := by omega
  have hhd := head_run ga G.types.length gc pn hpc
  have hth : IntsAt W3 None (.slice ga pn gc) (G.types.take pn) := ints_top hty hpt
  have HC3 := Lib.hid (fun (w : World) (hm : Mods None W3 w) => (typed_any f s.args (G.types.take pn) (.agg #[.string ⟨f.name.toArray⟩, .int .i64 f.params, .slice ta f.types.length tc, .slice sa f.steps.length sc]) (.slice aa s.args.length ac) (.slice ga pn gc) w ⟨ta, tc, sa, sc, rfl, HT3.out.1.mods hm (fun _ _ k => k), HT3.out.2.1.mods hm (fun _ _ k => k)⟩ (HT3.out.2.2.1.mods hm (fun _ _ k => k)) (hth.mods hm (fun _ _ k => k))))
  simp only [Int.toNat_natCast]
  rw [← h2] at HC3 ⊢
  have s9 := HA.st.cell (i := 9) rfl
  have HS : Hid (∀ w', Mods None W3 w' → (w'.cell? ⟨W.heap.size, 0, none⟩ = some (.string ⟨f.name.toArray⟩) ∧ w'.cell? ⟨W.heap.size, 1, none⟩ = some (.int .i64 f.params) ∧ w'.cell? ⟨W.heap.size, 2, none⟩ = some (.slice ta f.types.length tc) ∧ w'.cell? ⟨W.heap.size, 3, none⟩ = some (.slice sa f.steps.length sc) ∧ w'.cell? ⟨W.heap.size + 1, 1, none⟩ = some (.int .i64 s.dst) ∧ w'.cell? ⟨W.heap.size + 1, 9, none⟩ = some (.slice aa s.args.length ac) ∧ w'.cell? ⟨g, o + k * 4 + 1, none⟩ = some (.int .i64 (pn : Int)) ∧ w'.cell? ⟨g, o + k * 4 + 2, none⟩ = some (.slice ga G.types.length gc))) :=
    Lib.hid (fun w' hm => ⟨hm.cellOf f0 (fun k => k), hm.cellOf f1 (fun k => k), hm.cellOf f2 (fun k => k), hm.cellOf f3 (fun k => k), hm.cellOf s1 (fun k => k), hm.cellOf s9 (fun k => k), hm.cellOf y1 (fun k => k), hm.cellOf y2 (fun k => k)⟩)
  have hki : (k : Int) < (L.length : Int) := by omega
  clear HT3 hlc1 hlc2 hkl hGe y0 y1 y2 y3 hty hst hpar hpn hpt hgf hth h1 h2 hG HST
  clear HA hT hS hA hL hH hB hk hc HFN hns s9
  generalize L.length = ln at *
  have hgc : G.types.length ≤ gc := hgc1
  generalize G.types.length = gn at *
  unfold stpL str at *
  go_enter Tryd.func31, Tryd.ntmps31
  go_upto_region 1 with (fail)
  rw [← hW3]
  clear hW3
  go_wp2_with fail
  clear f0 f1 f2 f3 s0 s1 s8 hlk
  cases R1 with
  | false =>
    clear HC3
    refine wp_region_held_drew (S := (fun w' => w'.cell? ⟨W.heap.size, 0, none⟩ = some (.string ⟨f.name.toArray⟩) ∧ w'.cell? ⟨W.heap.size, 1, none⟩ = some (.int .i64 f.params) ∧ w'.cell? ⟨W.heap.size, 2, none⟩ = some (.slice ta f.types.length tc) ∧ w'.cell? ⟨W.heap.size, 3, none⟩ = some (.slice sa f.steps.length sc) ∧ w'.cell? ⟨W.heap.size + 1, 1, none⟩ = some (.int .i64 s.dst) ∧ w'.cell? ⟨W.heap.size + 1, 9, none⟩ = some (.slice aa s.args.length ac) ∧ w'.cell? ⟨g, o + k * 4 + 1, none⟩ = some (.int .i64 (pn : Int)) ∧ w'.cell? ⟨g, o + k * 4 + 2, none⟩ = some (.slice ga gn gc))) (by kernel_rfl) (HS.out _ (by repeat (first | with_reducible exact Mods.refl _ _ | with_reducible refine Mods.drew ?_ | with_reducible refine Mods.alloc ?_ _))) (fun hHeld => ?_)
    refine wpAnyH_take (i := 0) (oi := ⟨some 118, _, _, _, _, _⟩) (v := ?_) rfl (by kernel_rfl) (by kernel_rfl) (by kernel_rfl) (fun _ _ _ h => h) (Or.inl ⟨by rfl, ?_⟩) (by assumption) ?_
    rotate_left
    · intro w hSw; (try dsimp only at hSw); go_simp; try with_reducible rfl
    try simp only [Act.put, List.setIfInBounds_toArray, List.set_cons_zero, List.set_cons_succ]
    refine wpAnyH_take (i := 1) (oi := ⟨some 119, _, _, _, _, _⟩) (v := ?_) rfl (by kernel_rfl) (by kernel_rfl) (by kernel_rfl) (fun _ _ _ h => h) (Or.inl ⟨by rfl, ?_⟩) (by assumption) ?_
    rotate_left
    · intro w hSw; (try dsimp only at hSw); go_simp; try with_reducible rfl
    try simp only [Act.put, List.setIfInBounds_toArray, List.set_cons_zero, List.set_cons_succ]
    refine wpAnyH_take (i := 2) (oi := ⟨some 120, _, _, _, _, _⟩) (v := ?_) rfl (by kernel_rfl) (by kernel_rfl) (by kernel_rfl) (fun _ _ _ h => h) (Or.inl ⟨by rfl, ?_⟩) (by assumption) ?_
    rotate_left
    · intro w hSw; (try dsimp only at hSw); go_simp; try with_reducible rfl
    try simp only [Act.put, List.setIfInBounds_toArray, List.set_cons_zero, List.set_cons_succ]
    refine wpAnyH_take (i := 3) (oi := ⟨some 121, _, _, _, _, _⟩) (v := ?_) rfl (by kernel_rfl) (by kernel_rfl) (by kernel_rfl) (fun _ _ _ h => h) (Or.inl ⟨by rfl, ?_⟩) (by assumption) ?_
    rotate_left
    · intro w hSw; (try dsimp only at hSw); go_simp; try with_reducible rfl
    try simp only [Act.put, List.setIfInBounds_toArray, List.set_cons_zero, List.set_cons_succ]
    refine wpAnyH_take (i := 4) (oi := ⟨some 122, _, _, _, _, _⟩) (v := ?_) rfl (by kernel_rfl) (by kernel_rfl) (by kernel_rfl) (fun _ _ _ h => h) (Or.inl ⟨by rfl, ?_⟩) (by assumption) ?_
    rotate_left
    · intro w hSw; (try dsimp only at hSw); go_simp; try with_reducible rfl
    try simp only [Act.put, List.setIfInBounds_toArray, List.set_cons_zero, List.set_cons_succ]
    refine wpAnyH_take (i := 6) (oi := ⟨some 124, _, _, _, _, _⟩) (v := ?_) rfl (by kernel_rfl) (by kernel_rfl) (by kernel_rfl) (fun _ _ _ h => h) (Or.inl ⟨by rfl, ?_⟩) (by assumption) ?_
    rotate_left
    · intro w hSw; (try dsimp only at hSw); go_simp; try with_reducible rfl
    try simp only [Act.put, List.setIfInBounds_toArray, List.set_cons_zero, List.set_cons_succ]
    refine wpAnyH_ready (rs := [5, 7]) (by kernel_rfl) (by simp) ?_
    refine AllReadyH.cons rfl (fun K hK => ?_) (AllReadyH.cons rfl (fun K hK => ?_) AllReadyH.nil)
    · go_simp
      go_wp2_with fail
      refine hK.out _ _ (HS.out _ (by repeat (first | with_reducible exact Mods.refl _ _ | with_reducible refine Mods.drew ?_ | with_reducible refine Mods.alloc ?_ _))) (fun hHeld => ?_)
      clear hK K
      try simp only [Act.put, List.setIfInBounds_toArray, List.set_cons_zero, List.set_cons_succ]
      refine wpAnyH_ready (rs := [7]) (by kernel_rfl) (by simp) ?_
      refine AllReadyH.cons rfl (fun K hK => ?_) ?_
      rotate_left
      exact AllReadyH.nil
      go_simp
      go_wp2_with fail
      refine hK.out _ _ (HS.out _ (by repeat (first | with_reducible exact Mods.refl _ _ | with_reducible refine Mods.drew ?_ | with_reducible refine Mods.alloc ?_ _))) (fun hHeld => ?_)
      clear hK K
      try simp only [Act.put, List.setIfInBounds_toArray, List.set_cons_zero, List.set_cons_succ]
      refine wpAnyH_ready (rs := [8]) (by kernel_rfl) (by simp) ?_
      refine AllReadyH.cons rfl (fun K hK => ?_) ?_
      rotate_left
      exact AllReadyH.nil
      go_simp
      go_at_call 48
      (first | (with_reducible refine HC1.out.mono ?_) | (with_reducible refine HC2.out.mono ?_))
      rintro e w ⟨rfl, hw⟩
      have HW := Lib.hid hw
      clear hw
      go_wp2_with fail
      refine hK.out _ _ (HS.out _ HW.out) (fun hHeld => ?_)
      clear hK K
      try simp only [Act.put, List.setIfInBounds_toArray, List.set_cons_zero, List.set_cons_succ]
      refine wpAnyH_take (i := 9) (oi := ⟨some 127, _, _, _, _, _⟩) (v := ?_) rfl (by kernel_rfl) (by kernel_rfl) (by kernel_rfl) (fun _ _ _ h => h) (Or.inl ⟨by rfl, ?_⟩) (by assumption) ?_
      rotate_left
      · intro w hSw; (try dsimp only at hSw); go_simp; try with_reducible rfl
      try simp only [Act.put, List.setIfInBounds_toArray, List.set_cons_zero, List.set_cons_succ]
      refine wpAnyH_take (i := 10) (oi := ⟨some 128, _, _, _, _, _⟩) (v := ?_) rfl (by kernel_rfl) (by kernel_rfl) (by kernel_rfl) (fun _ _ _ h => h) (Or.inl ⟨by rfl, ?_⟩) (by assumption) ?_
      rotate_left
      · intro w hSw; (try dsimp only at hSw); go_simp; try with_reducible rfl
      try simp only [Act.put, List.setIfInBounds_toArray, List.set_cons_zero, List.set_cons_succ]
      refine wpAnyH_take (i := 11) (oi := ⟨some 129, _, _, _, _, _⟩) (v := undef) rfl (by kernel_rfl) (by kernel_rfl) (by kernel_rfl) (fun _ _ _ h => h) (Or.inr ⟨by rfl, rfl⟩) (by assumption) ?_
      try simp only [Act.put, List.setIfInBounds_toArray, List.set_cons_zero, List.set_cons_succ]
      refine wpAnyH_take (i := 12) (oi := ⟨some 130, _, _, _, _, _⟩) (v := undef) rfl (by kernel_rfl) (by kernel_rfl) (by kernel_rfl) (fun _ _ _ h => h) (Or.inr ⟨by rfl, rfl⟩) (by assumption) ?_
      try simp only [Act.put, List.setIfInBounds_toArray, List.set_cons_zero, List.set_cons_succ]
      refine wpAnyH_take (i := 13) (oi := ⟨some 131, _, _, _, _, _⟩) (v := undef) rfl (by kernel_rfl) (by kernel_rfl) (by kernel_rfl) (fun _ _ _ h => h) (Or.inr ⟨by rfl, rfl⟩) (by assumption) ?_
      try simp only [Act.put, List.setIfInBounds_toArray, List.set_cons_zero, List.set_cons_succ]
      refine wpAnyH_take (i := 14) (oi := ⟨some 132, _, _, _, _, _⟩) (v := undef) rfl (by kernel_rfl) (by kernel_rfl) (by kernel_rfl) (fun _ _ _ h => h) (Or.inr ⟨by rfl, rfl⟩) (by assumption) ?_
      try simp only [Act.put, List.setIfInBounds_toArray, List.set_cons_zero, List.set_cons_succ]
      refine wpAnyH_take (i := 15) (oi := ⟨some 133, _, _, _, _, _⟩) (v := undef) rfl (by kernel_rfl) (by kernel_rfl) (by kernel_rfl) (fun _ _ _ h => h) (Or.inr ⟨by rfl, rfl⟩) (by assumption) ?_
      try simp only [Act.put, List.setIfInBounds_toArray, List.set_cons_zero, List.set_cons_succ]
      refine wpAnyH_take (i := 16) (oi := ⟨some 134, _, _, _, _, _⟩) (v := undef) rfl (by kernel_rfl) (by kernel_rfl) (by kernel_rfl) (fun _ _ _ h => h) (Or.inr ⟨by rfl, rfl⟩) (by assumption) ?_
      try simp only [Act.put, List.setIfInBounds_toArray, List.set_cons_zero, List.set_cons_succ]
      refine wpAnyH_take (i := 17) (oi := ⟨some 135, _, _, _, _, _⟩) (v := undef) rfl (by kernel_rfl) (by kernel_rfl) (by kernel_rfl) (fun _ _ _ h => h) (Or.inr ⟨by rfl, rfl⟩) (by assumption) ?_
      try simp only [Act.put, List.setIfInBounds_toArray, List.set_cons_zero, List.set_cons_succ]
      refine wpAnyH_take (i := 18) (oi := ⟨some 136, _, _, _, _, _⟩) (v := undef) rfl (by kernel_rfl) (by kernel_rfl) (by kernel_rfl) (fun _ _ _ h => h) (Or.inr ⟨by rfl, rfl⟩) (by assumption) ?_
      try simp only [Act.put, List.setIfInBounds_toArray, List.set_cons_zero, List.set_cons_succ]
      refine wpAnyH_take (i := 19) (oi := ⟨some 137, _, _, _, _, _⟩) (v := undef) rfl (by kernel_rfl) (by kernel_rfl) (by kernel_rfl) (fun _ _ _ h => h) (Or.inr ⟨by rfl, rfl⟩) (by assumption) ?_
      try simp only [Act.put, List.setIfInBounds_toArray, List.set_cons_zero, List.set_cons_succ]
      refine wpAnyH_take (i := 20) (oi := ⟨some 138, _, _, _, _, _⟩) (v := undef) rfl (by kernel_rfl) (by kernel_rfl) (by kernel_rfl) (fun _ _ _ h => h) (Or.inr ⟨by rfl, rfl⟩) (by assumption) ?_
      try simp only [Act.put, List.setIfInBounds_toArray, List.set_cons_zero, List.set_cons_succ]
      refine wpAnyH_take (i := 21) (oi := ⟨some 139, _, _, _, _, _⟩) (v := undef) rfl (by kernel_rfl) (by kernel_rfl) (by kernel_rfl) (fun _ _ _ h => h) (Or.inr ⟨by rfl, rfl⟩) (by assumption) ?_
      try simp only [Act.put, List.setIfInBounds_toArray, List.set_cons_zero, List.set_cons_succ]
      refine wpAnyH_take (i := 22) (oi := ⟨some 140, _, _, _, _, _⟩) (v := undef) rfl (by kernel_rfl) (by kernel_rfl) (by kernel_rfl) (fun _ _ _ h => h) (Or.inr ⟨by rfl, rfl⟩) (by assumption) ?_
      try simp only [Act.put, List.setIfInBounds_toArray, List.set_cons_zero, List.set_cons_succ]
      refine wpAnyH_take (i := 23) (oi := ⟨some 141, _, _, _, _, _⟩) (v := undef) rfl (by kernel_rfl) (by kernel_rfl) (by kernel_rfl) (fun _ _ _ h => h) (Or.inr ⟨by rfl, rfl⟩) (by assumption) ?_
      try simp only [Act.put, List.setIfInBounds_toArray, List.set_cons_zero, List.set_cons_succ]
      refine wpAnyH_take (i := 24) (oi := ⟨some 142, _, _, _, _, _⟩) (v := undef) rfl (by kernel_rfl) (by kernel_rfl) (by kernel_rfl) (fun _ _ _ h => h) (Or.inr ⟨by rfl, rfl⟩) (by assumption) ?_
      try simp only [Act.put, List.setIfInBounds_toArray, List.set_cons_zero, List.set_cons_succ]
      refine wpAnyH_take (i := 25) (oi := ⟨some 143, _, _, _, _, _⟩) (v := undef) rfl (by kernel_rfl) (by kernel_rfl) (by kernel_rfl) (fun _ _ _ h => h) (Or.inr ⟨by rfl, rfl⟩) (by assumption) ?_
      try simp only [Act.put, List.setIfInBounds_toArray, List.set_cons_zero, List.set_cons_succ]
      refine wpAnyH_take (i := 26) (oi := ⟨some 144, _, _, _, _, _⟩) (v := ?_) rfl (by kernel_rfl) (by kernel_rfl) (by kernel_rfl) (fun _ _ _ h => h) (Or.inl ⟨by rfl, ?_⟩) (by assumption) ?_
      rotate_left
      · intro w hSw; (try dsimp only at hSw); go_simp; try with_reducible rfl
      try simp only [Act.put, List.setIfInBounds_toArray, List.set_cons_zero, List.set_cons_succ]
      refine wpAnyH_take (i := 27) (oi := ⟨some 10, _, _, _, _, _⟩) (v := ?_) rfl (by kernel_rfl) (by kernel_rfl) (by kernel_rfl) (fun _ _ _ h => h) (Or.inl ⟨by rfl, ?_⟩) (by assumption) ?_
      rotate_left
      · intro w hSw; (try dsimp only at hSw); go_simp; try with_reducible rfl
      try simp only [Act.put, List.setIfInBounds_toArray, List.set_cons_zero, List.set_cons_succ]
      refine wpAnyH_done (by kernel_rfl) ?_ _
      go_wp2_with fail
      go_ret
      exact ⟨rfl, HM.out.trans HW.out⟩
    · go_simp
      go_wp2_with fail
      refine hK.out _ _ (HS.out _ (by repeat (first | with_reducible exact Mods.refl _ _ | with_reducible refine Mods.drew ?_ | with_reducible refine Mods.alloc ?_ _))) (fun hHeld => ?_)
      clear hK K
      try simp only [Act.put, List.setIfInBounds_toArray, List.set_cons_zero, List.set_cons_succ]
      refine wpAnyH_ready (rs := [5]) (by kernel_rfl) (by simp) ?_
      refine AllReadyH.cons rfl (fun K hK => ?_) ?_
      rotate_left
      exact AllReadyH.nil
      go_simp
      go_wp2_with fail
      refine hK.out _ _ (HS.out _ (by repeat (first | with_reducible exact Mods.refl _ _ | with_reducible refine Mods.drew ?_ | with_reducible refine Mods.alloc ?_ _))) (fun hHeld => ?_)
      clear hK K
      try simp only [Act.put, List.setIfInBounds_toArray, List.set_cons_zero, List.set_cons_succ]
      refine wpAnyH_ready (rs := [8]) (by kernel_rfl) (by simp) ?_
      refine AllReadyH.cons rfl (fun K hK => ?_) ?_
      rotate_left
      exact AllReadyH.nil
      go_simp
      go_at_call 48
      (first | (with_reducible refine HC1.out.mono ?_) | (with_reducible refine HC2.out.mono ?_))
      rintro e w ⟨rfl, hw⟩
      have HW := Lib.hid hw
      clear hw
      go_wp2_with fail
      refine hK.out _ _ (HS.out _ HW.out) (fun hHeld => ?_)
      clear hK K
      try simp only [Act.put, List.setIfInBounds_toArray, List.set_cons_zero, List.set_cons_succ]
      refine wpAnyH_take (i := 9) (oi := ⟨some 127, _, _, _, _, _⟩) (v := ?_) rfl (by kernel_rfl) (by kernel_rfl) (by kernel_rfl) (fun _ _ _ h => h) (Or.inl ⟨by rfl, ?_⟩) (by assumption) ?_
      rotate_left
      · intro w hSw; (try dsimp only at hSw); go_simp; try with_reducible rfl
      try simp only [Act.put, List.setIfInBounds_toArray, List.set_cons_zero, List.set_cons_succ]
      refine wpAnyH_take (i := 10) (oi := ⟨some 128, _, _, _, _, _⟩) (v := ?_) rfl (by kernel_rfl) (by kernel_rfl) (by kernel_rfl) (fun _ _ _ h => h) (Or.inl ⟨by rfl, ?_⟩) (by assumption) ?_
      rotate_left
      · intro w hSw; (try dsimp only at hSw); go_simp; try with_reducible rfl
      try simp only [Act.put, List.setIfInBounds_toArray, List.set_cons_zero, List.set_cons_succ]
      refine wpAnyH_take (i := 11) (oi := ⟨some 129, _, _, _, _, _⟩) (v := undef) rfl (by kernel_rfl) (by kernel_rfl) (by kernel_rfl) (fun _ _ _ h => h) (Or.inr ⟨by rfl, rfl⟩) (by assumption) ?_
      try simp only [Act.put, List.setIfInBounds_toArray, List.set_cons_zero, List.set_cons_succ]
      refine wpAnyH_take (i := 12) (oi := ⟨some 130, _, _, _, _, _⟩) (v := undef) rfl (by kernel_rfl) (by kernel_rfl) (by kernel_rfl) (fun _ _ _ h => h) (Or.inr ⟨by rfl, rfl⟩) (by assumption) ?_
      try simp only [Act.put, List.setIfInBounds_toArray, List.set_cons_zero, List.set_cons_succ]
      refine wpAnyH_take (i := 13) (oi := ⟨some 131, _, _, _, _, _⟩) (v := undef) rfl (by kernel_rfl) (by kernel_rfl) (by kernel_rfl) (fun _ _ _ h => h) (Or.inr ⟨by rfl, rfl⟩) (by assumption) ?_
      try simp only [Act.put, List.setIfInBounds_toArray, List.set_cons_zero, List.set_cons_succ]
      refine wpAnyH_take (i := 14) (oi := ⟨some 132, _, _, _, _, _⟩) (v := undef) rfl (by kernel_rfl) (by kernel_rfl) (by kernel_rfl) (fun _ _ _ h => h) (Or.inr ⟨by rfl, rfl⟩) (by assumption) ?_
      try simp only [Act.put, List.setIfInBounds_toArray, List.set_cons_zero, List.set_cons_succ]
      refine wpAnyH_take (i := 15) (oi := ⟨some 133, _, _, _, _, _⟩) (v := undef) rfl (by kernel_rfl) (by kernel_rfl) (by kernel_rfl) (fun _ _ _ h => h) (Or.inr ⟨by rfl, rfl⟩) (by assumption) ?_
      try simp only [Act.put, List.setIfInBounds_toArray, List.set_cons_zero, List.set_cons_succ]
      refine wpAnyH_take (i := 16) (oi := ⟨some 134, _, _, _, _, _⟩) (v := undef) rfl (by kernel_rfl) (by kernel_rfl) (by kernel_rfl) (fun _ _ _ h => h) (Or.inr ⟨by rfl, rfl⟩) (by assumption) ?_
      try simp only [Act.put, List.setIfInBounds_toArray, List.set_cons_zero, List.set_cons_succ]
      refine wpAnyH_take (i := 17) (oi := ⟨some 135, _, _, _, _, _⟩) (v := undef) rfl (by kernel_rfl) (by kernel_rfl) (by kernel_rfl) (fun _ _ _ h => h) (Or.inr ⟨by rfl, rfl⟩) (by assumption) ?_
      try simp only [Act.put, List.setIfInBounds_toArray, List.set_cons_zero, List.set_cons_succ]
      refine wpAnyH_take (i := 18) (oi := ⟨some 136, _, _, _, _, _⟩) (v := undef) rfl (by kernel_rfl) (by kernel_rfl) (by kernel_rfl) (fun _ _ _ h => h) (Or.inr ⟨by rfl, rfl⟩) (by assumption) ?_
      try simp only [Act.put, List.setIfInBounds_toArray, List.set_cons_zero, List.set_cons_succ]
      refine wpAnyH_take (i := 19) (oi := ⟨some 137, _, _, _, _, _⟩) (v := undef) rfl (by kernel_rfl) (by kernel_rfl) (by kernel_rfl) (fun _ _ _ h => h) (Or.inr ⟨by rfl, rfl⟩) (by assumption) ?_
      try simp only [Act.put, List.setIfInBounds_toArray, List.set_cons_zero, List.set_cons_succ]
      refine wpAnyH_take (i := 20) (oi := ⟨some 138, _, _, _, _, _⟩) (v := undef) rfl (by kernel_rfl) (by kernel_rfl) (by kernel_rfl) (fun _ _ _ h => h) (Or.inr ⟨by rfl, rfl⟩) (by assumption) ?_
      try simp only [Act.put, List.setIfInBounds_toArray, List.set_cons_zero, List.set_cons_succ]
      refine wpAnyH_take (i := 21) (oi := ⟨some 139, _, _, _, _, _⟩) (v := undef) rfl (by kernel_rfl) (by kernel_rfl) (by kernel_rfl) (fun _ _ _ h => h) (Or.inr ⟨by rfl, rfl⟩) (by assumption) ?_
      try simp only [Act.put, List.setIfInBounds_toArray, List.set_cons_zero, List.set_cons_succ]
      refine wpAnyH_take (i := 22) (oi := ⟨some 140, _, _, _, _, _⟩) (v := undef) rfl (by kernel_rfl) (by kernel_rfl) (by kernel_rfl) (fun _ _ _ h => h) (Or.inr ⟨by rfl, rfl⟩) (by assumption) ?_
      try simp only [Act.put, List.setIfInBounds_toArray, List.set_cons_zero, List.set_cons_succ]
      refine wpAnyH_take (i := 23) (oi := ⟨some 141, _, _, _, _, _⟩) (v := undef) rfl (by kernel_rfl) (by kernel_rfl) (by kernel_rfl) (fun _ _ _ h => h) (Or.inr ⟨by rfl, rfl⟩) (by assumption) ?_
      try simp only [Act.put, List.setIfInBounds_toArray, List.set_cons_zero, List.set_cons_succ]
      refine wpAnyH_take (i := 24) (oi := ⟨some 142, _, _, _, _, _⟩) (v := undef) rfl (by kernel_rfl) (by kernel_rfl) (by kernel_rfl) (fun _ _ _ h => h) (Or.inr ⟨by rfl, rfl⟩) (by assumption) ?_
      try simp only [Act.put, List.setIfInBounds_toArray, List.set_cons_zero, List.set_cons_succ]
      refine wpAnyH_take (i := 25) (oi := ⟨some 143, _, _, _, _, _⟩) (v := undef) rfl (by kernel_rfl) (by kernel_rfl) (by kernel_rfl) (fun _ _ _ h => h) (Or.inr ⟨by rfl, rfl⟩) (by assumption) ?_
      try simp only [Act.put, List.setIfInBounds_toArray, List.set_cons_zero, List.set_cons_succ]
      refine wpAnyH_take (i := 26) (oi := ⟨some 144, _, _, _, _, _⟩) (v := ?_) rfl (by kernel_rfl) (by kernel_rfl) (by kernel_rfl) (fun _ _ _ h => h) (Or.inl ⟨by rfl, ?_⟩) (by assumption) ?_
      rotate_left
      · intro w hSw; (try dsimp only at hSw); go_simp; try with_reducible rfl
      try simp only [Act.put, List.setIfInBounds_toArray, List.set_cons_zero, List.set_cons_succ]
      refine wpAnyH_take (i := 27) (oi := ⟨some 10, _, _, _, _, _⟩) (v := ?_) rfl (by kernel_rfl) (by kernel_rfl) (by kernel_rfl) (fun _ _ _ h => h) (Or.inl ⟨by rfl, ?_⟩) (by assumption) ?_
      rotate_left
      · intro w hSw; (try dsimp only at hSw); go_simp; try with_reducible rfl
      try simp only [Act.put, List.setIfInBounds_toArray, List.set_cons_zero, List.set_cons_succ]
      refine wpAnyH_done (by kernel_rfl) ?_ _
      go_wp2_with fail
      go_ret
      exact ⟨rfl, HM.out.trans HW.out⟩
  | true =>
    go_region_held3 (fun w' => w'.cell? ⟨W.heap.size, 0, none⟩ = some (.string ⟨f.name.toArray⟩) ∧ w'.cell? ⟨W.heap.size, 1, none⟩ = some (.int .i64 f.params) ∧ w'.cell? ⟨W.heap.size, 2, none⟩ = some (.slice ta f.types.length tc) ∧ w'.cell? ⟨W.heap.size, 3, none⟩ = some (.slice sa f.steps.length sc) ∧ w'.cell? ⟨W.heap.size + 1, 1, none⟩ = some (.int .i64 s.dst) ∧ w'.cell? ⟨W.heap.size + 1, 9, none⟩ = some (.slice aa s.args.length ac) ∧ w'.cell? ⟨g, o + k * 4 + 1, none⟩ = some (.int .i64 (pn : Int)) ∧ w'.cell? ⟨g, o + k * 4 + 2, none⟩ = some (.slice ga gn gc))
      (exact HS.out _ (by first | exact HW.out | exact HW2.out | (repeat (first | with_reducible exact Mods.refl _ _ | with_reducible refine Mods.drew ?_ | with_reducible refine Mods.alloc ?_ _))))
      (first | (go_at_call 48; (first | (with_reducible refine HC1.out.mono ?_) | (with_reducible refine HC2.out.mono ?_)); rintro e w ⟨rfl, hw⟩; have HW := Lib.hid hw; clear hw) | (go_at_call 48; refine (HC3.out _ HW.out).mono ?_; rintro e w2 ⟨rfl, hw2⟩; have HW2 := Lib.hid (HW.out.trans hw2); clear hw2))
    all_goals
      go_wp2_with fail
      go_ret
      exact ⟨rfl, HM.out.trans HW2.out⟩
end Go.Proofs.YtoajcbfejplfbaaDoor.MidP.R
namespace Go.Proofs.YtoajcbfejplfbaaDoor.MidP.R
open Go.RowKit Go.Proofs.YtoajcbfejplfbaaDoor.Wo Go.Maps Go.Proofs.YtoajcbfejplfbaaDoor.TreeP Go.Proofs.YtoajcbfejplfbaaDoor.MidP
set_option linter.unusedVariables false
set_option linter.unusedSimpArgs false
theorem rstep_any (L : List Fm) (f : Fm) (s : Stp) (bo bl no nl : Nat) (lv : Value) (ta sa aa : Option Addr) (tc sc ac : Nat) (W : World) (hns : s.name.length ≤ maxLen) (hO : s.op.length ≤ 20) (hI : I64 s.label) (hX : W.ShapedOpen Tryd.prog)
    (hT : IntsAt W None (.slice ta f.types.length tc) f.types) (hS : StpsAt W None (.slice sa f.steps.length sc) f.steps) (hA : IntsAt W None (.slice aa s.args.length ac) s.args)
    (hL : FmsAt W None lv L) (hH : Heads L) (hB : SMap W bo no (ofF L)) (hM : IntMap W bl nl (.int .i64 0) (fun l => .int .i64 (labN f l : Int))) :
    Calls Tryd.prog 31 #[lv, .map (some bo), .agg #[str f.name, .int .i64 f.params, .slice ta f.types.length tc, .slice sa f.steps.length sc], .agg (stpL s (.slice aa s.args.length ac)).toArray, .map (some bl)] W fun e w => e = .returned (.bool (refStepB L f s)) ∧ Mods None W w := by
  by_cases hr : 1 ≤ s.code ∧ s.code ≤ 14
  rotate_left
  · have e : refStepB L f s = false := by
      unfold refStepB
      repeat (first | rw [if_neg (by omega)] | rfl)
    rw [e]
    exact rstep_no f s bo bl lv ta sa aa tc sc ac W hr hT hS
  · have hc : s.code = 1 ∨ s.code = 2 ∨ s.code = 3 ∨ s.code = 4 ∨ s.code = 5 ∨ s.code = 6 ∨ s.code = 7 ∨ s.code = 8 ∨ s.code = 9 ∨ s.code = 10 ∨ s.code = 11 ∨ s.code = 12 ∨ s.code = 13 ∨ s.code = 14 := by omega
    rcases hc with hc | hc | hc | hc | hc | hc | hc | hc | hc | hc | hc | hc | hc | hc
    · have e : refStepB L f s = typedP f [s.dst] [1] := by unfold refStepB; simp [hc]
      rw [e]; exact rstep_1 f s bo bl lv ta sa aa tc sc ac W hc hT hS
    · have e : refStepB L f s = (typedP f [s.dst, s.a] [1, 1] || typedP f [s.dst, s.a] [2, 2]) := by unfold refStepB; simp [hc]
      rw [e]; exact rstep_2 f s bo bl lv ta sa aa tc sc ac W hc hT hS
    · have e : refStepB L f s = (typedP f [s.dst, s.a, s.b] [1, 1, 1] && opList.contains s.op) := by unfold refStepB; simp [hc]
      rw [e]; exact rstep_3 f s bo bl lv ta sa aa tc sc ac W hc hT hS hX hO
    · have e : refStepB L f s = decide (0 < labN f s.label) := by unfold refStepB; simp [hc]
      rw [e]; exact rstep_4 f s bo bl lv ta sa aa tc sc ac W hc hT hS nl hM hI
    · have e : refStepB L f s = (decide (0 < labN f s.label) && typedP f [s.a] [1]) := by unfold refStepB; simp [hc]
      rw [e]; exact rstep_5 f s bo bl lv ta sa aa tc sc ac W hc hT hS nl hM hI
    · have e : refStepB L f s = true := by unfold refStepB; simp [hc]
      rw [e]; exact rstep_6 f s bo bl lv ta sa aa tc sc ac W hc hT hS
    · cases hk : L.findIdx? (fun g => g.name == s.name) with
      | none =>
        have e : refStepB L f s = false := by
          unfold refStepB
          rw [find_idx, hk]
          simp [hc]
        rw [e]; exact rstep_7_none L f s bo bl no lv ta sa aa tc sc ac W hc hns hT hS hA hL hH hB hk
      | some k =>
        have hkl : k < L.length := (List.findIdx?_eq_some_iff_getElem.1 hk).1
        have hG : L[k]? = some L[k] := List.getElem?_eq_getElem hkl
        have e : refStepB L f s = (typedP f [s.dst] [1] && typedP f s.args (L[k].types.take L[k].params.toNat)) := by
          unfold refStepB
          rw [find_idx, hk]
          simp [hc, hG]
        rw [e]; exact rstep_7_some L f s bo bl no lv ta sa aa tc sc ac W hc hns hT hS hA hL hH hB k hk L[k] hG
    · have e : refStepB L f s = typedP f [s.a] [1] := by unfold refStepB; simp [hc]
      rw [e]; exact rstep_8 f s bo bl lv ta sa aa tc sc ac W hc hT hS
    · have e : refStepB L f s = typedP f [s.dst, s.a] [2, 1] := by unfold refStepB; simp [hc]
      rw [e]; exact rstep_9 f s bo bl lv ta sa aa tc sc ac W hc hT hS
    · have e : refStepB L f s = typedP f [s.dst, s.a] [1, 2] := by unfold refStepB; simp [hc]
      rw [e]; exact rstep_10 f s bo bl lv ta sa aa tc sc ac W hc hT hS
    · have e : refStepB L f s = typedP f [s.dst, s.a, s.b] [1, 2, 1] := by unfold refStepB; simp [hc]
      rw [e]; exact rstep_11 f s bo bl lv ta sa aa tc sc ac W hc hT hS
    · have e : refStepB L f s = typedP f [s.a, s.b, s.c] [2, 1, 1] := by unfold refStepB; simp [hc]
      rw [e]; exact rstep_12 f s bo bl lv ta sa aa tc sc ac W hc hT hS
    · have e : refStepB L f s = typedP f [s.a] [1] := by unfold refStepB; simp [hc]
      rw [e]; exact rstep_13 f s bo bl lv ta sa aa tc sc ac W hc hT hS
    · have e : refStepB L f s = typedP f [s.dst] [1] := by unfold refStepB; simp [hc]
      rw [e]; exact rstep_14 f s bo bl lv ta sa aa tc sc ac W hc hT hS
end Go.Proofs.YtoajcbfejplfbaaDoor.MidP.R

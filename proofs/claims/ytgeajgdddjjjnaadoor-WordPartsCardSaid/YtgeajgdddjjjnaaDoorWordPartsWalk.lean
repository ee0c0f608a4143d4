/- keep.WordParts walked. Conditions: the table of forms lies as the program lays it. -/
import Derived.Test.YtgeajgdddjjjnaaDoorWordBackHead
import Derived.Test.YtgeajgdddjjjnaaDoorWordApart
namespace Go.Proofs.YtgeajgdddjjjnaaDoor.WordP
open Go.RowKit
set_option linter.unusedVariables false
set_option linter.unusedSimpArgs false
/-- The register that is picked. -/
def pk (d : Int) : Int := (IntKind.u64.wrap d).tmod 32
theorem pk_in (d : Int) : 0 ≤ pk d ∧ pk d < 32 := by
  unfold pk; rw [IntKind.wrap_u64, Int.tmod_eq_emod_of_nonneg (by omega)]; omega
theorem pick_32 (d : Int) (W : World) : Calls Tryd.prog 13 #[.int .i64 d, .int .i64 32] W fun e W' => e = .returned (.int .i64 (pk d)) ∧ W' = W := by
  have h := pk_in d
  have hw : wrap64 ((IntKind.u64.wrap d).tmod 32) = pk d := by
    show wrap64 (pk d) = pk d
    unfold wrap64; omega
  go_enter Tryd.func13, Tryd.ntmps13
  go_wp2
  go_ret
  exact ⟨by show Ending.returned (.int .i64 (wrap64 ((IntKind.u64.wrap d).tmod 32))) = _; rw [hw], rfl⟩
set_option maxRecDepth 100000 in
set_option maxHeartbeats 2000000 in
theorem wp_low (x : Ins) (d : Int) (W : World) (hF : Forms W) (hr : x.right = true) (h24 : (x.op == 24) = false) (h25 : decide (25 ≤ x.op) = false) (h31 : (x.op == 31) = false) :
    Calls Tryd.prog 4 #[x.val, .int .i64 d] W fun e W' => e = .returned (.bool true) ∧ Grown W W' := by
  have HF := Lib.hid hF
  clear hF
  simp only [Ins.val]
  obtain ⟨W1, hW1⟩ : ∃ W1, W1 = W.alloc (.cells (instCells x.op x.rd x.ra x.rb x.n) 23) := ⟨_, rfl⟩
  have hg0 : Hid (Grown W W1) := Lib.hid (by rw [hW1]; exact (Grown.refl _).alloc _ _)
  have F1 : Hid (Five W1 W.heap.size x.op x.rd x.ra x.rb x.n) := Lib.hid (by rw [hW1]; exact five_new W _ _ _ _ _ 23)
  go_enter Tryd.func4, Tryd.ntmps4
  go_wp2_with fail
  rw [← hW1]
  clear hW1
  refine (worded_any _ (HF.out.grown hg0.out)).mono ?_
  rintro e w1 ⟨rfl, g1⟩
  have hg1 : Hid (Grown W1 w1) := Lib.hid g1
  clear g1
  obtain ⟨c0, c1, c2, c3, c4, cf⟩ := F1.out.grown hg1.out
  go_wp2_with fail
  clear c0 c1 c2 c3 c4 cf
  refine (encode_yes x _ (HF.out.grown (grown_trans hg0.out hg1.out)) hr).mono ?_
  rintro e w2 ⟨rfl, g2⟩
  have hg2 : Hid (Grown W1 w2) := Lib.hid (grown_trans hg1.out g2)
  clear g2
  obtain ⟨c0, c1, c2, c3, c4, cf⟩ := F1.out.grown hg2.out
  go_wp2_with fail
  clear cf
  refine (pick_32 d _).mono ?_
  rintro e w' ⟨rfl, rfl⟩
  go_wp2_with fail
  have hap := rd_apart x hr (pk d) (pk_in d) (by simpa using h24) (by simp at h25; omega) (by simpa using h31)
  refine (encode_yes (Ins.mk x.op (pk d) x.ra x.rb x.n) _ (HF.out.grown (grown_trans hg0.out (hg2.out.alloc _ _))) hap.1).mono ?_
  rintro e w3 ⟨rfl, g3⟩
  have hg3 : Hid (Grown W1 w3) := Lib.hid (grown_trans (hg2.out.alloc _ _) g3)
  obtain ⟨d0, d1, d2, d3, d4, df⟩ := (five_new w2 x.op (pk d) x.ra x.rb x.n 23).grown g3
  have HAP := Lib.hid hap
  have hq : ((Ins.mk x.op (pk d) x.ra x.rb x.n).word - x.word) % 4294967296 = wrap64 (pk d - x.rd) % 4294967296 * 128 % 4294967296 := by
    have h1 := pk_in d
    have h2 := (right_parts hr).2.1
    rw [hap.2]
    unfold wrap64; omega
  clear c0 c1 c2 c3 c4 g3 hap df
  obtain ⟨c0, c1, c2, c3, c4, cf⟩ := F1.out.grown hg3.out
  go_wp2_with fail
  go_ret
  refine ⟨?_, grown_trans hg0.out hg3.out⟩
  have e1 : bits .and .u32 x.word 127 = x.word % 128 := and_mask _ 7 (by decide) 127 rfl
  have e2 : bits .and .u32 (Ins.mk x.op (pk d) x.ra x.rb x.n).word 127 = (Ins.mk x.op (pk d) x.ra x.rb x.n).word % 128 := and_mask _ 7 (by decide) 127 rfl
  show Ending.returned (.bool (bits .and .u32 x.word 127 == bits .and .u32 (Ins.mk x.op (pk d) x.ra x.rb x.n).word 127)) = _
  rw [e1, e2, word_low x hr, word_low _ HAP.out.1]
  simp
set_option maxRecDepth 100000 in
set_option maxHeartbeats 2000000 in
theorem wp_high (x : Ins) (d : Int) (W : World) (hF : Forms W) (hr : x.right = true) (h24 : (x.op == 24) = false) (h25 : decide (25 ≤ x.op) = true) (h28 : decide (x.op ≤ 28) = false) (h31 : (x.op == 31) = false) :
    Calls Tryd.prog 4 #[x.val, .int .i64 d] W fun e W' => e = .returned (.bool true) ∧ Grown W W' := by
  have HF := Lib.hid hF
  clear hF
  simp only [Ins.val]
  obtain ⟨W1, hW1⟩ : ∃ W1, W1 = W.alloc (.cells (instCells x.op x.rd x.ra x.rb x.n) 23) := ⟨_, rfl⟩
  have hg0 : Hid (Grown W W1) := Lib.hid (by rw [hW1]; exact (Grown.refl _).alloc _ _)
  have F1 : Hid (Five W1 W.heap.size x.op x.rd x.ra x.rb x.n) := Lib.hid (by rw [hW1]; exact five_new W _ _ _ _ _ 23)
  go_enter Tryd.func4, Tryd.ntmps4
  go_wp2_with fail
  rw [← hW1]
  clear hW1
  refine (worded_any _ (HF.out.grown hg0.out)).mono ?_
  rintro e w1 ⟨rfl, g1⟩
  have hg1 : Hid (Grown W1 w1) := Lib.hid g1
  clear g1
  obtain ⟨c0, c1, c2, c3, c4, cf⟩ := F1.out.grown hg1.out
  go_wp2_with fail
  clear c0 c1 c2 c3 c4 cf
  refine (encode_yes x _ (HF.out.grown (grown_trans hg0.out hg1.out)) hr).mono ?_
  rintro e w2 ⟨rfl, g2⟩
  have hg2 : Hid (Grown W1 w2) := Lib.hid (grown_trans hg1.out g2)
  clear g2
  obtain ⟨c0, c1, c2, c3, c4, cf⟩ := F1.out.grown hg2.out
  go_wp2_with fail
  clear cf
  refine (pick_32 d _).mono ?_
  rintro e w' ⟨rfl, rfl⟩
  go_wp2_with fail
  have hap := rd_apart x hr (pk d) (pk_in d) (by simpa using h24) (by simp at h28; omega) (by simpa using h31)
  refine (encode_yes (Ins.mk x.op (pk d) x.ra x.rb x.n) _ (HF.out.grown (grown_trans hg0.out (hg2.out.alloc _ _))) hap.1).mono ?_
  rintro e w3 ⟨rfl, g3⟩
  have hg3 : Hid (Grown W1 w3) := Lib.hid (grown_trans (hg2.out.alloc _ _) g3)
  obtain ⟨d0, d1, d2, d3, d4, df⟩ := (five_new w2 x.op (pk d) x.ra x.rb x.n 23).grown g3
  have HAP := Lib.hid hap
  have hq : ((Ins.mk x.op (pk d) x.ra x.rb x.n).word - x.word) % 4294967296 = wrap64 (pk d - x.rd) % 4294967296 * 128 % 4294967296 := by
    have h1 := pk_in d
    have h2 := (right_parts hr).2.1
    rw [hap.2]
    unfold wrap64; omega
  clear c0 c1 c2 c3 c4 g3 hap df
  obtain ⟨c0, c1, c2, c3, c4, cf⟩ := F1.out.grown hg3.out
  go_wp2_with fail
  go_ret
  refine ⟨?_, grown_trans hg0.out hg3.out⟩
  have e1 : bits .and .u32 x.word 127 = x.word % 128 := and_mask _ 7 (by decide) 127 rfl
  have e2 : bits .and .u32 (Ins.mk x.op (pk d) x.ra x.rb x.n).word 127 = (Ins.mk x.op (pk d) x.ra x.rb x.n).word % 128 := and_mask _ 7 (by decide) 127 rfl
  show Ending.returned (.bool (bits .and .u32 x.word 127 == bits .and .u32 (Ins.mk x.op (pk d) x.ra x.rb x.n).word 127)) = _
  rw [e1, e2, word_low x hr, word_low _ HAP.out.1]
  simp
set_option maxRecDepth 100000 in
set_option maxHeartbeats 2000000 in
theorem wp_no (x : Ins) (d : Int) (W : World) (hF : Forms W) (hr : x.right = false) :
    Calls Tryd.prog 4 #[x.val, .int .i64 d] W fun e W' => e = .returned (.bool true) ∧ Grown W W' := by
  have HF := Lib.hid hF
  clear hF
  simp only [Ins.val]
  obtain ⟨W1, hW1⟩ : ∃ W1, W1 = W.alloc (.cells (instCells x.op x.rd x.ra x.rb x.n) 23) := ⟨_, rfl⟩
  have hg0 : Hid (Grown W W1) := Lib.hid (by rw [hW1]; exact (Grown.refl _).alloc _ _)
  have F1 : Hid (Five W1 W.heap.size x.op x.rd x.ra x.rb x.n) := Lib.hid (by rw [hW1]; exact five_new W _ _ _ _ _ 23)
  go_enter Tryd.func4, Tryd.ntmps4
  go_wp2_with fail
  rw [← hW1]
  clear hW1
  refine (worded_any _ (HF.out.grown hg0.out)).mono ?_
  rintro e w1 ⟨rfl, g1⟩
  have hg1 : Hid (Grown W1 w1) := Lib.hid g1
  clear g1
  obtain ⟨c0, c1, c2, c3, c4, cf⟩ := F1.out.grown hg1.out
  go_wp2_with fail
  clear c0 c1 c2 c3 c4 cf
  refine (encode_no x _ (HF.out.grown (grown_trans hg0.out hg1.out)) hr).mono ?_
  rintro e w2 ⟨rfl, g2⟩
  have hg2 : Hid (Grown W1 w2) := Lib.hid (grown_trans hg1.out g2)
  clear g2
  obtain ⟨c0, c1, c2, c3, c4, cf⟩ := F1.out.grown hg2.out
  go_wp2
  go_ret
  exact ⟨rfl, grown_trans hg0.out hg2.out⟩
set_option maxRecDepth 100000 in
set_option maxHeartbeats 2000000 in
theorem wp_24 (x : Ins) (d : Int) (W : World) (hF : Forms W) (hr : x.right = true) (h24 : (x.op == 24) = true) :
    Calls Tryd.prog 4 #[x.val, .int .i64 d] W fun e W' => e = .returned (.bool true) ∧ Grown W W' := by
  have HF := Lib.hid hF
  clear hF
  simp only [Ins.val]
  obtain ⟨W1, hW1⟩ : ∃ W1, W1 = W.alloc (.cells (instCells x.op x.rd x.ra x.rb x.n) 23) := ⟨_, rfl⟩
  have hg0 : Hid (Grown W W1) := Lib.hid (by rw [hW1]; exact (Grown.refl _).alloc _ _)
  have F1 : Hid (Five W1 W.heap.size x.op x.rd x.ra x.rb x.n) := Lib.hid (by rw [hW1]; exact five_new W _ _ _ _ _ 23)
  go_enter Tryd.func4, Tryd.ntmps4
  go_wp2_with fail
  rw [← hW1]
  clear hW1
  refine (worded_any _ (HF.out.grown hg0.out)).mono ?_
  rintro e w1 ⟨rfl, g1⟩
  have hg1 : Hid (Grown W1 w1) := Lib.hid g1
  clear g1
  obtain ⟨c0, c1, c2, c3, c4, cf⟩ := F1.out.grown hg1.out
  go_wp2_with fail
  clear c0 c1 c2 c3 c4 cf
  refine (encode_yes x _ (HF.out.grown (grown_trans hg0.out hg1.out)) hr).mono ?_
  rintro e w2 ⟨rfl, g2⟩
  have hg2 : Hid (Grown W1 w2) := Lib.hid (grown_trans hg1.out g2)
  clear g2
  obtain ⟨c0, c1, c2, c3, c4, cf⟩ := F1.out.grown hg2.out
  go_wp2
  go_ret
  exact ⟨rfl, grown_trans hg0.out hg2.out⟩
set_option maxRecDepth 100000 in
set_option maxHeartbeats 2000000 in
theorem wp_25 (x : Ins) (d : Int) (W : World) (hF : Forms W) (hr : x.right = true) (h24 : (x.op == 24) = false) (h25 : decide (25 ≤ x.op) = true) (h28 : decide (x.op ≤ 28) = true) :
    Calls Tryd.prog 4 #[x.val, .int .i64 d] W fun e W' => e = .returned (.bool true) ∧ Grown W W' := by
  have HF := Lib.hid hF
  clear hF
  simp only [Ins.val]
  obtain ⟨W1, hW1⟩ : ∃ W1, W1 = W.alloc (.cells (instCells x.op x.rd x.ra x.rb x.n) 23) := ⟨_, rfl⟩
  have hg0 : Hid (Grown W W1) := Lib.hid (by rw [hW1]; exact (Grown.refl _).alloc _ _)
  have F1 : Hid (Five W1 W.heap.size x.op x.rd x.ra x.rb x.n) := Lib.hid (by rw [hW1]; exact five_new W _ _ _ _ _ 23)
  go_enter Tryd.func4, Tryd.ntmps4
  go_wp2_with fail
  rw [← hW1]
  clear hW1
  refine (worded_any _ (HF.out.grown hg0.out)).mono ?_
  rintro e w1 ⟨rfl, g1⟩
  have hg1 : Hid (Grown W1 w1) := Lib.hid g1
  clear g1
  obtain ⟨c0, c1, c2, c3, c4, cf⟩ := F1.out.grown hg1.out
  go_wp2_with fail
  clear c0 c1 c2 c3 c4 cf
  refine (encode_yes x _ (HF.out.grown (grown_trans hg0.out hg1.out)) hr).mono ?_
  rintro e w2 ⟨rfl, g2⟩
  have hg2 : Hid (Grown W1 w2) := Lib.hid (grown_trans hg1.out g2)
  clear g2
  obtain ⟨c0, c1, c2, c3, c4, cf⟩ := F1.out.grown hg2.out
  go_wp2
  go_ret
  exact ⟨rfl, grown_trans hg0.out hg2.out⟩
set_option maxRecDepth 100000 in
set_option maxHeartbeats 2000000 in
theorem wp_31a (x : Ins) (d : Int) (W : World) (hF : Forms W) (hr : x.right = true) (h24 : (x.op == 24) = false) (h25 : decide (25 ≤ x.op) = true) (h28 : decide (x.op ≤ 28) = false) (h31 : (x.op == 31) = true) :
    Calls Tryd.prog 4 #[x.val, .int .i64 d] W fun e W' => e = .returned (.bool true) ∧ Grown W W' := by
  have HF := Lib.hid hF
  clear hF
  simp only [Ins.val]
  obtain ⟨W1, hW1⟩ : ∃ W1, W1 = W.alloc (.cells (instCells x.op x.rd x.ra x.rb x.n) 23) := ⟨_, rfl⟩
  have hg0 : Hid (Grown W W1) := Lib.hid (by rw [hW1]; exact (Grown.refl _).alloc _ _)
  have F1 : Hid (Five W1 W.heap.size x.op x.rd x.ra x.rb x.n) := Lib.hid (by rw [hW1]; exact five_new W _ _ _ _ _ 23)
  go_enter Tryd.func4, Tryd.ntmps4
  go_wp2_with fail
  rw [← hW1]
  clear hW1
  refine (worded_any _ (HF.out.grown hg0.out)).mono ?_
  rintro e w1 ⟨rfl, g1⟩
  have hg1 : Hid (Grown W1 w1) := Lib.hid g1
  clear g1
  obtain ⟨c0, c1, c2, c3, c4, cf⟩ := F1.out.grown hg1.out
  go_wp2_with fail
  clear c0 c1 c2 c3 c4 cf
  refine (encode_yes x _ (HF.out.grown (grown_trans hg0.out hg1.out)) hr).mono ?_
  rintro e w2 ⟨rfl, g2⟩
  have hg2 : Hid (Grown W1 w2) := Lib.hid (grown_trans hg1.out g2)
  clear g2
  obtain ⟨c0, c1, c2, c3, c4, cf⟩ := F1.out.grown hg2.out
  go_wp2
  go_ret
  exact ⟨rfl, grown_trans hg0.out hg2.out⟩
theorem wordParts_walk (x : Ins) (d : Int) (W : World) (hF : Forms W) :
    Calls Tryd.prog 4 #[x.val, .int .i64 d] W fun e W' => e = .returned (.bool true) ∧ Grown W W' := by
  rcases hr : x.right with _ | _
  · exact wp_no x d W hF hr
  rcases h24 : (x.op == 24) with _ | _
  · rcases h25 : decide (25 ≤ x.op) with _ | _
    · exact wp_low x d W hF hr h24 h25 (by simp at h25 ⊢; omega)
    · rcases h28 : decide (x.op ≤ 28) with _ | _
      · rcases h31 : (x.op == 31) with _ | _
        · exact wp_high x d W hF hr h24 h25 h28 h31
        · exact wp_31a x d W hF hr h24 h25 h28 h31
      · exact wp_25 x d W hF hr h24 h25 h28
  · exact wp_24 x d W hF hr h24
end Go.Proofs.YtgeajgdddjjjnaaDoor.WordP

/- keep.WordBack walked, by ways: of a word that is some of the instructions. Conditions: the table of forms lies as the program lays it. -/
import Derived.Test.YtgeajgdddjjjnaaDoorWordBackHead
namespace Go.Proofs.YtgeajgdddjjjnaaDoor.WordP
open Go.RowKit
set_option linter.unusedVariables false
set_option linter.unusedSimpArgs false
set_option maxRecDepth 100000 in
set_option maxHeartbeats 2000000 in
theorem wb_some_no_no (x y : Ins) (w : Int) (W : World) (hx : 0 ≤ w ∧ w < 4294967296) (hF : Forms W) (z : Ins) (hd : dec w = some z) (hr : x.right = false) (hs : y.right = false) :
    Calls Tryd.prog 3 #[x.val, y.val, .int .u32 w] W fun e W' => e = .returned (.bool true) ∧ Grown W W' := by
  have HF := Lib.hid hF
  clear hF
  simp only [Ins.val]
  obtain ⟨W1, hW1⟩ : ∃ W1, W1 = (W.alloc (.cells (instCells x.op x.rd x.ra x.rb x.n) 23)).alloc (.cells (instCells y.op y.rd y.ra y.rb y.n) 23) := ⟨_, rfl⟩
  have hg0 : Hid (Grown W W1) := Lib.hid (by rw [hW1]; exact ((Grown.refl _).alloc _ _).alloc _ _)
  have F1 : Hid (Five W1 W.heap.size x.op x.rd x.ra x.rb x.n) := Lib.hid (by rw [hW1]; exact (five_new W _ _ _ _ _ 23).grown ((Grown.refl _).alloc _ _))
  have F2 : Hid (Five W1 (W.heap.size + 1) y.op y.rd y.ra y.rb y.n) := Lib.hid (by
    rw [hW1]
    have := five_new (W.alloc (.cells (instCells x.op x.rd x.ra x.rb x.n) 23)) y.op y.rd y.ra y.rb y.n 23
    have e : (W.alloc (.cells (instCells x.op x.rd x.ra x.rb x.n) 23)).heap.size = W.heap.size + 1 := by show (W.heap.push _).size = _; simp
    rw [e] at this; exact this)
  have HZ := Lib.hid (dec_some hd)
  go_enter Tryd.func3, Tryd.ntmps3
  go_wp2_with fail
  rw [← hW1]
  clear hW1
  refine (worded_any _ (HF.out.grown hg0.out)).mono ?_
  rintro e w1 ⟨rfl, g1⟩
  have hg1 : Hid (Grown W1 w1) := Lib.hid g1
  clear g1
  go_wp2_with fail
  refine (decode_yes w z _ hx (HF.out.grown (grown_trans hg0.out hg1.out)) hd).mono ?_
  rintro e w2 ⟨rfl, g2⟩
  have hg2 : Hid (Grown W1 w2) := Lib.hid (grown_trans hg1.out g2)
  have F3 : Hid (Five (w2.alloc (.cells (instCells z.op z.rd z.ra z.rb z.n) 23)) w2.heap.size z.op z.rd z.ra z.rb z.n) := Lib.hid (five_new _ _ _ _ _ _ _)
  clear g2
  go_wp2_with fail
  refine (encode_yes z _ (HF.out.grown (grown_trans hg0.out (hg2.out.alloc _ _))) HZ.out.1).mono ?_
  rw [HZ.out.2]
  rintro e w3 ⟨rfl, g3⟩
  have hg3 : Hid (Grown W1 w3) := Lib.hid (grown_trans (hg2.out.alloc _ _) g3)
  obtain ⟨c0, c1, c2, c3, c4, cf⟩ := F3.out.grown g3
  clear g3 cf
  go_wp2_with fail
  refine (right_ins z _ (HF.out.grown (grown_trans hg0.out hg3.out))).mono ?_
  rw [HZ.out.1]
  rintro e w4 ⟨rfl, e4⟩
  have hg4 : Hid (Grown W1 w4) := Lib.hid (by rw [e4]; exact hg3.out.alloc _ _)
  clear e4 c0 c1 c2 c3 c4
  obtain ⟨c0, c1, c2, c3, c4, cf⟩ := F1.out.grown hg4.out
  go_wp2_with fail
  clear c0 c1 c2 c3 c4 cf
  refine (encode_no x _ (HF.out.grown (grown_trans hg0.out hg4.out)) hr).mono ?_
  rintro e w5 ⟨rfl, g5⟩
  have hg5 : Hid (Grown W1 w5) := Lib.hid (grown_trans hg4.out g5)
  clear g5
  obtain ⟨c0, c1, c2, c3, c4, cf⟩ := F2.out.grown hg5.out
  go_wp2_with fail
  clear c0 c1 c2 c3 c4 cf
  refine (encode_no y _ (HF.out.grown (grown_trans hg0.out hg5.out)) hs).mono ?_
  rintro e w6 ⟨rfl, g6⟩
  have hg6 : Hid (Grown W1 w6) := Lib.hid (grown_trans hg5.out g6)
  clear g6
  have HS : Hid (∀ w', Grown w6 w' → (w'.cell? ⟨W.heap.size, 0, none⟩ = some (.int .i64 x.op) ∧ w'.cell? ⟨W.heap.size, 1, none⟩ = some (.int .i64 x.rd) ∧ w'.cell? ⟨W.heap.size, 2, none⟩ = some (.int .i64 x.ra) ∧ w'.cell? ⟨W.heap.size, 3, none⟩ = some (.int .i64 x.rb) ∧ w'.cell? ⟨W.heap.size, 4, none⟩ = some (.int .i64 x.n) ∧ w'.cell? ⟨W.heap.size + 1, 0, none⟩ = some (.int .i64 y.op) ∧ w'.cell? ⟨W.heap.size + 1, 1, none⟩ = some (.int .i64 y.rd) ∧ w'.cell? ⟨W.heap.size + 1, 2, none⟩ = some (.int .i64 y.ra) ∧ w'.cell? ⟨W.heap.size + 1, 3, none⟩ = some (.int .i64 y.rb) ∧ w'.cell? ⟨W.heap.size + 1, 4, none⟩ = some (.int .i64 y.n))) := Lib.hid (fun w' g =>
    have a := (F1.out.grown hg6.out).grown g
    have b := (F2.out.grown hg6.out).grown g
    ⟨a.c0, a.c1, a.c2, a.c3, a.c4, b.c0, b.c1, b.c2, b.c3, b.c4⟩)
  have HFG : Hid (∀ w', Grown w6 w' → Forms w') := Lib.hid (fun w' g => HF.out.grown (grown_trans hg0.out (grown_trans hg6.out g)))
  go_wp2_with fail
  refine wp_region_held_drew (S := (fun w' => w'.cell? ⟨W.heap.size, 0, none⟩ = some (.int .i64 x.op) ∧ w'.cell? ⟨W.heap.size, 1, none⟩ = some (.int .i64 x.rd) ∧ w'.cell? ⟨W.heap.size, 2, none⟩ = some (.int .i64 x.ra) ∧ w'.cell? ⟨W.heap.size, 3, none⟩ = some (.int .i64 x.rb) ∧ w'.cell? ⟨W.heap.size, 4, none⟩ = some (.int .i64 x.n) ∧ w'.cell? ⟨W.heap.size + 1, 0, none⟩ = some (.int .i64 y.op) ∧ w'.cell? ⟨W.heap.size + 1, 1, none⟩ = some (.int .i64 y.rd) ∧ w'.cell? ⟨W.heap.size + 1, 2, none⟩ = some (.int .i64 y.ra) ∧ w'.cell? ⟨W.heap.size + 1, 3, none⟩ = some (.int .i64 y.rb) ∧ w'.cell? ⟨W.heap.size + 1, 4, none⟩ = some (.int .i64 y.n))) (by kernel_rfl) (HS.out _ (by repeat (first | with_reducible apply Grown.alloc | with_reducible apply Grown.drew | with_reducible apply grown_drewN | with_reducible exact Grown.refl _))) (fun hHeld => ?_)
  refine wpAnyH_take (i := 0) (oi := ⟨some 53, _, _, _, _, _⟩) (v := ?_) rfl (by kernel_rfl) (by kernel_rfl) (by kernel_rfl) (fun _ _ _ h => h) (Or.inl ⟨by rfl, ?_⟩) (by assumption) ?_
  rotate_left
  · intro w hSw; (try dsimp only at hSw); go_simp; try with_reducible rfl
  try simp only [Act.put, List.setIfInBounds_toArray, List.set_cons_zero, List.set_cons_succ]
  refine wpAnyH_take (i := 1) (oi := ⟨some 54, _, _, _, _, _⟩) (v := ?_) rfl (by kernel_rfl) (by kernel_rfl) (by kernel_rfl) (fun _ _ _ h => h) (Or.inl ⟨by rfl, ?_⟩) (by assumption) ?_
  rotate_left
  · intro w hSw; (try dsimp only at hSw); go_simp; try with_reducible rfl
  try simp only [Act.put, List.setIfInBounds_toArray, List.set_cons_zero, List.set_cons_succ]
  refine wpAnyH_take (i := 2) (oi := ⟨some 55, _, _, _, _, _⟩) (v := ?_) rfl (by kernel_rfl) (by kernel_rfl) (by kernel_rfl) (fun _ _ _ h => h) (Or.inl ⟨by rfl, ?_⟩) (by assumption) ?_
  rotate_left
  · intro w hSw; (try dsimp only at hSw); go_simp; try with_reducible rfl
  try simp only [Act.put, List.setIfInBounds_toArray, List.set_cons_zero, List.set_cons_succ]
  refine wpAnyH_ready (rs := [3]) (by kernel_rfl) (by simp) ?_
  refine AllReadyH.cons rfl (fun K hK => ?_) ?_
  rotate_left
  exact AllReadyH.nil
  go_simp
  refine (right_ins x _ (HFG.out _ (by repeat (first | with_reducible apply Grown.alloc | with_reducible apply Grown.drew | with_reducible apply grown_drewN | with_reducible exact Grown.refl _)))).mono ?_
  rw [hr]
  rintro e _ ⟨rfl, rfl⟩
  go_wp2_with fail
  refine hK.out _ _ (HS.out _ (by repeat (first | with_reducible apply Grown.alloc | with_reducible apply Grown.drew | with_reducible apply grown_drewN | with_reducible exact Grown.refl _))) (fun hHeld => ?_)
  clear hK K
  try simp only [Act.put, List.setIfInBounds_toArray, List.set_cons_zero, List.set_cons_succ]
  refine wpAnyH_take (i := 4) (oi := ⟨some 57, _, _, _, _, _⟩) (v := ?_) rfl (by kernel_rfl) (by kernel_rfl) (by kernel_rfl) (fun _ _ _ h => h) (Or.inl ⟨by rfl, ?_⟩) (by assumption) ?_
  rotate_left
  · intro w hSw; (try dsimp only at hSw); go_simp; try with_reducible rfl
  try simp only [Act.put, List.setIfInBounds_toArray, List.set_cons_zero, List.set_cons_succ]
  refine wpAnyH_take (i := 5) (oi := ⟨some 58, _, _, _, _, _⟩) (v := ?_) rfl (by kernel_rfl) (by kernel_rfl) (by kernel_rfl) (fun _ _ _ h => h) (Or.inl ⟨by rfl, ?_⟩) (by assumption) ?_
  rotate_left
  · intro w hSw; (try dsimp only at hSw); go_simp; try with_reducible rfl
  try simp only [Act.put, List.setIfInBounds_toArray, List.set_cons_zero, List.set_cons_succ]
  refine wpAnyH_take (i := 6) (oi := ⟨some 59, _, _, _, _, _⟩) (v := ?_) rfl (by kernel_rfl) (by kernel_rfl) (by kernel_rfl) (fun _ _ _ h => h) (Or.inl ⟨by rfl, ?_⟩) (by assumption) ?_
  rotate_left
  · intro w hSw; (try dsimp only at hSw); go_simp; try with_reducible rfl
  try simp only [Act.put, List.setIfInBounds_toArray, List.set_cons_zero, List.set_cons_succ]
  refine wpAnyH_take (i := 7) (oi := ⟨some 60, _, _, _, _, _⟩) (v := ?_) rfl (by kernel_rfl) (by kernel_rfl) (by kernel_rfl) (fun _ _ _ h => h) (Or.inl ⟨by rfl, ?_⟩) (by assumption) ?_
  rotate_left
  · intro w hSw; (try dsimp only at hSw); go_simp; try with_reducible rfl
  try simp only [Act.put, List.setIfInBounds_toArray, List.set_cons_zero, List.set_cons_succ]
  refine wpAnyH_take (i := 8) (oi := ⟨some 61, _, _, _, _, _⟩) (v := ?_) rfl (by kernel_rfl) (by kernel_rfl) (by kernel_rfl) (fun _ _ _ h => h) (Or.inl ⟨by rfl, ?_⟩) (by assumption) ?_
  rotate_left
  · intro w hSw; (try dsimp only at hSw); go_simp; try with_reducible rfl
  try simp only [Act.put, List.setIfInBounds_toArray, List.set_cons_zero, List.set_cons_succ]
  refine wpAnyH_ready (rs := [9]) (by kernel_rfl) (by simp) ?_
  refine AllReadyH.cons rfl (fun K hK => ?_) ?_
  rotate_left
  exact AllReadyH.nil
  go_simp
  refine (right_ins y _ (HFG.out _ (by repeat (first | with_reducible apply Grown.alloc | with_reducible apply Grown.drew | with_reducible apply grown_drewN | with_reducible exact Grown.refl _)))).mono ?_
  rw [hs]
  rintro e _ ⟨rfl, rfl⟩
  go_wp2_with fail
  refine hK.out _ _ (HS.out _ (by repeat (first | with_reducible apply Grown.alloc | with_reducible apply Grown.drew | with_reducible apply grown_drewN | with_reducible exact Grown.refl _))) (fun hHeld => ?_)
  clear hK K
  try simp only [Act.put, List.setIfInBounds_toArray, List.set_cons_zero, List.set_cons_succ]
  refine wpAnyH_take (i := 10) (oi := ⟨some 63, _, _, _, _, _⟩) (v := ?_) rfl (by kernel_rfl) (by kernel_rfl) (by kernel_rfl) (fun _ _ _ h => h) (Or.inl ⟨by rfl, ?_⟩) (by assumption) ?_
  rotate_left
  · intro w hSw; (try dsimp only at hSw); go_simp; try with_reducible rfl
  try simp only [Act.put, List.setIfInBounds_toArray, List.set_cons_zero, List.set_cons_succ]
  refine wpAnyH_take (i := 11) (oi := ⟨some 64, _, _, _, _, _⟩) (v := ?_) rfl (by kernel_rfl) (by kernel_rfl) (by kernel_rfl) (fun _ _ _ h => h) (Or.inl ⟨by rfl, ?_⟩) (by assumption) ?_
  rotate_left
  · intro w hSw; (try dsimp only at hSw); go_simp; try with_reducible rfl
  try simp only [Act.put, List.setIfInBounds_toArray, List.set_cons_zero, List.set_cons_succ]
  refine wpAnyH_take (i := 12) (oi := ⟨some 65, _, _, _, _, _⟩) (v := ?_) rfl (by kernel_rfl) (by kernel_rfl) (by kernel_rfl) (fun _ _ _ h => h) (Or.inl ⟨by rfl, ?_⟩) (by assumption) ?_
  rotate_left
  · intro w hSw; (try dsimp only at hSw); go_simp; try with_reducible rfl
  try simp only [Act.put, List.setIfInBounds_toArray, List.set_cons_zero, List.set_cons_succ]
  refine wpAnyH_take (i := 13) (oi := ⟨some 66, _, _, _, _, _⟩) (v := ?_) rfl (by kernel_rfl) (by kernel_rfl) (by kernel_rfl) (fun _ _ _ h => h) (Or.inl ⟨by rfl, ?_⟩) (by assumption) ?_
  rotate_left
  · intro w hSw; (try dsimp only at hSw); go_simp; try with_reducible rfl
  try simp only [Act.put, List.setIfInBounds_toArray, List.set_cons_zero, List.set_cons_succ]
  refine wpAnyH_take (i := 14) (oi := ⟨some 67, _, _, _, _, _⟩) (v := ?_) rfl (by kernel_rfl) (by kernel_rfl) (by kernel_rfl) (fun _ _ _ h => h) (Or.inl ⟨by rfl, ?_⟩) (by assumption) ?_
  rotate_left
  · intro w hSw; (try dsimp only at hSw); go_simp; try with_reducible rfl
  try simp only [Act.put, List.setIfInBounds_toArray, List.set_cons_zero, List.set_cons_succ]
  refine wpAnyH_take (i := 15) (oi := ⟨some 68, _, _, _, _, _⟩) (v := ?_) rfl (by kernel_rfl) (by kernel_rfl) (by kernel_rfl) (fun _ _ _ h => h) (Or.inl ⟨by rfl, ?_⟩) (by assumption) ?_
  rotate_left
  · intro w hSw; (try dsimp only at hSw); go_simp; try with_reducible rfl
  try simp only [Act.put, List.setIfInBounds_toArray, List.set_cons_zero, List.set_cons_succ]
  refine wpAnyH_take (i := 16) (oi := ⟨some 69, _, _, _, _, _⟩) (v := undef) rfl (by kernel_rfl) (by kernel_rfl) (by kernel_rfl) (fun _ _ _ h => h) (Or.inr ⟨by rfl, rfl⟩) (by assumption) ?_
  try simp only [Act.put, List.setIfInBounds_toArray, List.set_cons_zero, List.set_cons_succ]
  refine wpAnyH_take (i := 17) (oi := ⟨some 70, _, _, _, _, _⟩) (v := undef) rfl (by kernel_rfl) (by kernel_rfl) (by kernel_rfl) (fun _ _ _ h => h) (Or.inr ⟨by rfl, rfl⟩) (by assumption) ?_
  try simp only [Act.put, List.setIfInBounds_toArray, List.set_cons_zero, List.set_cons_succ]
  refine wpAnyH_take (i := 18) (oi := ⟨some 71, _, _, _, _, _⟩) (v := ?_) rfl (by kernel_rfl) (by kernel_rfl) (by kernel_rfl) (fun _ _ _ h => h) (Or.inl ⟨by rfl, ?_⟩) (by assumption) ?_
  rotate_left
  · intro w hSw; (try dsimp only at hSw); go_simp; try with_reducible rfl
  try simp only [Act.put, List.setIfInBounds_toArray, List.set_cons_zero, List.set_cons_succ]
  refine wpAnyH_take (i := 19) (oi := ⟨some 72, _, _, _, _, _⟩) (v := ?_) rfl (by kernel_rfl) (by kernel_rfl) (by kernel_rfl) (fun _ _ _ h => h) (Or.inl ⟨by rfl, ?_⟩) (by assumption) ?_
  rotate_left
  · intro w hSw; (try dsimp only at hSw); go_simp; try with_reducible rfl
  try simp only [Act.put, List.setIfInBounds_toArray, List.set_cons_zero, List.set_cons_succ]
  refine wpAnyH_take (i := 20) (oi := ⟨some 73, _, _, _, _, _⟩) (v := undef) rfl (by kernel_rfl) (by kernel_rfl) (by kernel_rfl) (fun _ _ _ h => h) (Or.inr ⟨by rfl, rfl⟩) (by assumption) ?_
  try simp only [Act.put, List.setIfInBounds_toArray, List.set_cons_zero, List.set_cons_succ]
  refine wpAnyH_take (i := 21) (oi := ⟨some 74, _, _, _, _, _⟩) (v := undef) rfl (by kernel_rfl) (by kernel_rfl) (by kernel_rfl) (fun _ _ _ h => h) (Or.inr ⟨by rfl, rfl⟩) (by assumption) ?_
  try simp only [Act.put, List.setIfInBounds_toArray, List.set_cons_zero, List.set_cons_succ]
  refine wpAnyH_take (i := 22) (oi := ⟨some 75, _, _, _, _, _⟩) (v := undef) rfl (by kernel_rfl) (by kernel_rfl) (by kernel_rfl) (fun _ _ _ h => h) (Or.inr ⟨by rfl, rfl⟩) (by assumption) ?_
  try simp only [Act.put, List.setIfInBounds_toArray, List.set_cons_zero, List.set_cons_succ]
  refine wpAnyH_take (i := 23) (oi := ⟨some 76, _, _, _, _, _⟩) (v := undef) rfl (by kernel_rfl) (by kernel_rfl) (by kernel_rfl) (fun _ _ _ h => h) (Or.inr ⟨by rfl, rfl⟩) (by assumption) ?_
  try simp only [Act.put, List.setIfInBounds_toArray, List.set_cons_zero, List.set_cons_succ]
  refine wpAnyH_take (i := 24) (oi := ⟨some 77, _, _, _, _, _⟩) (v := undef) rfl (by kernel_rfl) (by kernel_rfl) (by kernel_rfl) (fun _ _ _ h => h) (Or.inr ⟨by rfl, rfl⟩) (by assumption) ?_
  try simp only [Act.put, List.setIfInBounds_toArray, List.set_cons_zero, List.set_cons_succ]
  refine wpAnyH_take (i := 25) (oi := ⟨some 78, _, _, _, _, _⟩) (v := undef) rfl (by kernel_rfl) (by kernel_rfl) (by kernel_rfl) (fun _ _ _ h => h) (Or.inr ⟨by rfl, rfl⟩) (by assumption) ?_
  try simp only [Act.put, List.setIfInBounds_toArray, List.set_cons_zero, List.set_cons_succ]
  refine wpAnyH_take (i := 26) (oi := ⟨some 79, _, _, _, _, _⟩) (v := undef) rfl (by kernel_rfl) (by kernel_rfl) (by kernel_rfl) (fun _ _ _ h => h) (Or.inr ⟨by rfl, rfl⟩) (by assumption) ?_
  try simp only [Act.put, List.setIfInBounds_toArray, List.set_cons_zero, List.set_cons_succ]
  refine wpAnyH_take (i := 27) (oi := ⟨some 80, _, _, _, _, _⟩) (v := ?_) rfl (by kernel_rfl) (by kernel_rfl) (by kernel_rfl) (fun _ _ _ h => h) (Or.inl ⟨by rfl, ?_⟩) (by assumption) ?_
  rotate_left
  · intro w hSw; (try dsimp only at hSw); go_simp; try with_reducible rfl
  try simp only [Act.put, List.setIfInBounds_toArray, List.set_cons_zero, List.set_cons_succ]
  refine wpAnyH_take (i := 28) (oi := ⟨some 81, _, _, _, _, _⟩) (v := ?_) rfl (by kernel_rfl) (by kernel_rfl) (by kernel_rfl) (fun _ _ _ h => h) (Or.inl ⟨by rfl, ?_⟩) (by assumption) ?_
  rotate_left
  · intro w hSw; (try dsimp only at hSw); go_simp; try with_reducible rfl
  try simp only [Act.put, List.setIfInBounds_toArray, List.set_cons_zero, List.set_cons_succ]
  refine wpAnyH_done (by kernel_rfl) ?_ _
  go_wp2
  go_ret
  exact ⟨rfl, grown_trans (grown_trans hg0.out hg6.out) (by repeat (first | with_reducible apply Grown.alloc | with_reducible apply Grown.drew | with_reducible apply grown_drewN | with_reducible exact Grown.refl _))⟩
set_option maxRecDepth 100000 in
set_option maxHeartbeats 2000000 in
theorem wb_some_no_yes (x y : Ins) (w : Int) (W : World) (hx : 0 ≤ w ∧ w < 4294967296) (hF : Forms W) (z : Ins) (hd : dec w = some z) (hr : x.right = false) (hs : y.right = true) :
    Calls Tryd.prog 3 #[x.val, y.val, .int .u32 w] W fun e W' => e = .returned (.bool true) ∧ Grown W W' := by
  have HF := Lib.hid hF
  clear hF
  simp only [Ins.val]
  obtain ⟨W1, hW1⟩ : ∃ W1, W1 = (W.alloc (.cells (instCells x.op x.rd x.ra x.rb x.n) 23)).alloc (.cells (instCells y.op y.rd y.ra y.rb y.n) 23) := ⟨_, rfl⟩
  have hg0 : Hid (Grown W W1) := Lib.hid (by rw [hW1]; exact ((Grown.refl _).alloc _ _).alloc _ _)
  have F1 : Hid (Five W1 W.heap.size x.op x.rd x.ra x.rb x.n) := Lib.hid (by rw [hW1]; exact (five_new W _ _ _ _ _ 23).grown ((Grown.refl _).alloc _ _))
  have F2 : Hid (Five W1 (W.heap.size + 1) y.op y.rd y.ra y.rb y.n) := Lib.hid (by
    rw [hW1]
    have := five_new (W.alloc (.cells (instCells x.op x.rd x.ra x.rb x.n) 23)) y.op y.rd y.ra y.rb y.n 23
    have e : (W.alloc (.cells (instCells x.op x.rd x.ra x.rb x.n) 23)).heap.size = W.heap.size + 1 := by show (W.heap.push _).size = _; simp
    rw [e] at this; exact this)
  have HZ := Lib.hid (dec_some hd)
  go_enter Tryd.func3, Tryd.ntmps3
  go_wp2_with fail
  rw [← hW1]
  clear hW1
  refine (worded_any _ (HF.out.grown hg0.out)).mono ?_
  rintro e w1 ⟨rfl, g1⟩
  have hg1 : Hid (Grown W1 w1) := Lib.hid g1
  clear g1
  go_wp2_with fail
  refine (decode_yes w z _ hx (HF.out.grown (grown_trans hg0.out hg1.out)) hd).mono ?_
  rintro e w2 ⟨rfl, g2⟩
  have hg2 : Hid (Grown W1 w2) := Lib.hid (grown_trans hg1.out g2)
  have F3 : Hid (Five (w2.alloc (.cells (instCells z.op z.rd z.ra z.rb z.n) 23)) w2.heap.size z.op z.rd z.ra z.rb z.n) := Lib.hid (five_new _ _ _ _ _ _ _)
  clear g2
  go_wp2_with fail
  refine (encode_yes z _ (HF.out.grown (grown_trans hg0.out (hg2.out.alloc _ _))) HZ.out.1).mono ?_
  rw [HZ.out.2]
  rintro e w3 ⟨rfl, g3⟩
  have hg3 : Hid (Grown W1 w3) := Lib.hid (grown_trans (hg2.out.alloc _ _) g3)
  obtain ⟨c0, c1, c2, c3, c4, cf⟩ := F3.out.grown g3
  clear g3 cf
  go_wp2_with fail
  refine (right_ins z _ (HF.out.grown (grown_trans hg0.out hg3.out))).mono ?_
  rw [HZ.out.1]
  rintro e w4 ⟨rfl, e4⟩
  have hg4 : Hid (Grown W1 w4) := Lib.hid (by rw [e4]; exact hg3.out.alloc _ _)
  clear e4 c0 c1 c2 c3 c4
  obtain ⟨c0, c1, c2, c3, c4, cf⟩ := F1.out.grown hg4.out
  go_wp2_with fail
  clear c0 c1 c2 c3 c4 cf
  refine (encode_no x _ (HF.out.grown (grown_trans hg0.out hg4.out)) hr).mono ?_
  rintro e w5 ⟨rfl, g5⟩
  have hg5 : Hid (Grown W1 w5) := Lib.hid (grown_trans hg4.out g5)
  clear g5
  obtain ⟨c0, c1, c2, c3, c4, cf⟩ := F2.out.grown hg5.out
  go_wp2_with fail
  clear c0 c1 c2 c3 c4 cf
  refine (encode_yes y _ (HF.out.grown (grown_trans hg0.out hg5.out)) hs).mono ?_
  rintro e w6 ⟨rfl, g6⟩
  have hg6 : Hid (Grown W1 w6) := Lib.hid (grown_trans hg5.out g6)
  clear g6
  have HS : Hid (∀ w', Grown w6 w' → (w'.cell? ⟨W.heap.size, 0, none⟩ = some (.int .i64 x.op) ∧ w'.cell? ⟨W.heap.size, 1, none⟩ = some (.int .i64 x.rd) ∧ w'.cell? ⟨W.heap.size, 2, none⟩ = some (.int .i64 x.ra) ∧ w'.cell? ⟨W.heap.size, 3, none⟩ = some (.int .i64 x.rb) ∧ w'.cell? ⟨W.heap.size, 4, none⟩ = some (.int .i64 x.n) ∧ w'.cell? ⟨W.heap.size + 1, 0, none⟩ = some (.int .i64 y.op) ∧ w'.cell? ⟨W.heap.size + 1, 1, none⟩ = some (.int .i64 y.rd) ∧ w'.cell? ⟨W.heap.size + 1, 2, none⟩ = some (.int .i64 y.ra) ∧ w'.cell? ⟨W.heap.size + 1, 3, none⟩ = some (.int .i64 y.rb) ∧ w'.cell? ⟨W.heap.size + 1, 4, none⟩ = some (.int .i64 y.n))) := Lib.hid (fun w' g =>
    have a := (F1.out.grown hg6.out).grown g
    have b := (F2.out.grown hg6.out).grown g
    ⟨a.c0, a.c1, a.c2, a.c3, a.c4, b.c0, b.c1, b.c2, b.c3, b.c4⟩)
  have HFG : Hid (∀ w', Grown w6 w' → Forms w') := Lib.hid (fun w' g => HF.out.grown (grown_trans hg0.out (grown_trans hg6.out g)))
  go_wp2_with fail
  refine wp_region_held_drew (S := (fun w' => w'.cell? ⟨W.heap.size, 0, none⟩ = some (.int .i64 x.op) ∧ w'.cell? ⟨W.heap.size, 1, none⟩ = some (.int .i64 x.rd) ∧ w'.cell? ⟨W.heap.size, 2, none⟩ = some (.int .i64 x.ra) ∧ w'.cell? ⟨W.heap.size, 3, none⟩ = some (.int .i64 x.rb) ∧ w'.cell? ⟨W.heap.size, 4, none⟩ = some (.int .i64 x.n) ∧ w'.cell? ⟨W.heap.size + 1, 0, none⟩ = some (.int .i64 y.op) ∧ w'.cell? ⟨W.heap.size + 1, 1, none⟩ = some (.int .i64 y.rd) ∧ w'.cell? ⟨W.heap.size + 1, 2, none⟩ = some (.int .i64 y.ra) ∧ w'.cell? ⟨W.heap.size + 1, 3, none⟩ = some (.int .i64 y.rb) ∧ w'.cell? ⟨W.heap.size + 1, 4, none⟩ = some (.int .i64 y.n))) (by kernel_rfl) (HS.out _ (by repeat (first | with_reducible apply Grown.alloc | with_reducible apply Grown.drew | with_reducible apply grown_drewN | with_reducible exact Grown.refl _))) (fun hHeld => ?_)
  refine wpAnyH_take (i := 0) (oi := ⟨some 53, _, _, _, _, _⟩) (v := ?_) rfl (by kernel_rfl) (by kernel_rfl) (by kernel_rfl) (fun _ _ _ h => h) (Or.inl ⟨by rfl, ?_⟩) (by assumption) ?_
  rotate_left
  · intro w hSw; (try dsimp only at hSw); go_simp; try with_reducible rfl
  try simp only [Act.put, List.setIfInBounds_toArray, List.set_cons_zero, List.set_cons_succ]
  refine wpAnyH_take (i := 1) (oi := ⟨some 54, _, _, _, _, _⟩) (v := ?_) rfl (by kernel_rfl) (by kernel_rfl) (by kernel_rfl) (fun _ _ _ h => h) (Or.inl ⟨by rfl, ?_⟩) (by assumption) ?_
  rotate_left
  · intro w hSw; (try dsimp only at hSw); go_simp; try with_reducible rfl
  try simp only [Act.put, List.setIfInBounds_toArray, List.set_cons_zero, List.set_cons_succ]
  refine wpAnyH_take (i := 2) (oi := ⟨some 55, _, _, _, _, _⟩) (v := ?_) rfl (by kernel_rfl) (by kernel_rfl) (by kernel_rfl) (fun _ _ _ h => h) (Or.inl ⟨by rfl, ?_⟩) (by assumption) ?_
  rotate_left
  · intro w hSw; (try dsimp only at hSw); go_simp; try with_reducible rfl
  try simp only [Act.put, List.setIfInBounds_toArray, List.set_cons_zero, List.set_cons_succ]
  refine wpAnyH_ready (rs := [3]) (by kernel_rfl) (by simp) ?_
  refine AllReadyH.cons rfl (fun K hK => ?_) ?_
  rotate_left
  exact AllReadyH.nil
  go_simp
  refine (right_ins x _ (HFG.out _ (by repeat (first | with_reducible apply Grown.alloc | with_reducible apply Grown.drew | with_reducible apply grown_drewN | with_reducible exact Grown.refl _)))).mono ?_
  rw [hr]
  rintro e _ ⟨rfl, rfl⟩
  go_wp2_with fail
  refine hK.out _ _ (HS.out _ (by repeat (first | with_reducible apply Grown.alloc | with_reducible apply Grown.drew | with_reducible apply grown_drewN | with_reducible exact Grown.refl _))) (fun hHeld => ?_)
  clear hK K
  try simp only [Act.put, List.setIfInBounds_toArray, List.set_cons_zero, List.set_cons_succ]
  refine wpAnyH_take (i := 4) (oi := ⟨some 57, _, _, _, _, _⟩) (v := ?_) rfl (by kernel_rfl) (by kernel_rfl) (by kernel_rfl) (fun _ _ _ h => h) (Or.inl ⟨by rfl, ?_⟩) (by assumption) ?_
  rotate_left
  · intro w hSw; (try dsimp only at hSw); go_simp; try with_reducible rfl
  try simp only [Act.put, List.setIfInBounds_toArray, List.set_cons_zero, List.set_cons_succ]
  refine wpAnyH_take (i := 5) (oi := ⟨some 58, _, _, _, _, _⟩) (v := ?_) rfl (by kernel_rfl) (by kernel_rfl) (by kernel_rfl) (fun _ _ _ h => h) (Or.inl ⟨by rfl, ?_⟩) (by assumption) ?_
  rotate_left
  · intro w hSw; (try dsimp only at hSw); go_simp; try with_reducible rfl
  try simp only [Act.put, List.setIfInBounds_toArray, List.set_cons_zero, List.set_cons_succ]
  refine wpAnyH_take (i := 6) (oi := ⟨some 59, _, _, _, _, _⟩) (v := ?_) rfl (by kernel_rfl) (by kernel_rfl) (by kernel_rfl) (fun _ _ _ h => h) (Or.inl ⟨by rfl, ?_⟩) (by assumption) ?_
  rotate_left
  · intro w hSw; (try dsimp only at hSw); go_simp; try with_reducible rfl
  try simp only [Act.put, List.setIfInBounds_toArray, List.set_cons_zero, List.set_cons_succ]
  refine wpAnyH_take (i := 7) (oi := ⟨some 60, _, _, _, _, _⟩) (v := ?_) rfl (by kernel_rfl) (by kernel_rfl) (by kernel_rfl) (fun _ _ _ h => h) (Or.inl ⟨by rfl, ?_⟩) (by assumption) ?_
  rotate_left
  · intro w hSw; (try dsimp only at hSw); go_simp; try with_reducible rfl
  try simp only [Act.put, List.setIfInBounds_toArray, List.set_cons_zero, List.set_cons_succ]
  refine wpAnyH_take (i := 8) (oi := ⟨some 61, _, _, _, _, _⟩) (v := ?_) rfl (by kernel_rfl) (by kernel_rfl) (by kernel_rfl) (fun _ _ _ h => h) (Or.inl ⟨by rfl, ?_⟩) (by assumption) ?_
  rotate_left
  · intro w hSw; (try dsimp only at hSw); go_simp; try with_reducible rfl
  try simp only [Act.put, List.setIfInBounds_toArray, List.set_cons_zero, List.set_cons_succ]
  refine wpAnyH_ready (rs := [9]) (by kernel_rfl) (by simp) ?_
  refine AllReadyH.cons rfl (fun K hK => ?_) ?_
  rotate_left
  exact AllReadyH.nil
  go_simp
  refine (right_ins y _ (HFG.out _ (by repeat (first | with_reducible apply Grown.alloc | with_reducible apply Grown.drew | with_reducible apply grown_drewN | with_reducible exact Grown.refl _)))).mono ?_
  rw [hs]
  rintro e _ ⟨rfl, rfl⟩
  go_wp2_with fail
  refine hK.out _ _ (HS.out _ (by repeat (first | with_reducible apply Grown.alloc | with_reducible apply Grown.drew | with_reducible apply grown_drewN | with_reducible exact Grown.refl _))) (fun hHeld => ?_)
  clear hK K
  try simp only [Act.put, List.setIfInBounds_toArray, List.set_cons_zero, List.set_cons_succ]
  refine wpAnyH_take (i := 10) (oi := ⟨some 63, _, _, _, _, _⟩) (v := ?_) rfl (by kernel_rfl) (by kernel_rfl) (by kernel_rfl) (fun _ _ _ h => h) (Or.inl ⟨by rfl, ?_⟩) (by assumption) ?_
  rotate_left
  · intro w hSw; (try dsimp only at hSw); go_simp; try with_reducible rfl
  try simp only [Act.put, List.setIfInBounds_toArray, List.set_cons_zero, List.set_cons_succ]
  refine wpAnyH_take (i := 11) (oi := ⟨some 64, _, _, _, _, _⟩) (v := ?_) rfl (by kernel_rfl) (by kernel_rfl) (by kernel_rfl) (fun _ _ _ h => h) (Or.inl ⟨by rfl, ?_⟩) (by assumption) ?_
  rotate_left
  · intro w hSw; (try dsimp only at hSw); go_simp; try with_reducible rfl
  try simp only [Act.put, List.setIfInBounds_toArray, List.set_cons_zero, List.set_cons_succ]
  refine wpAnyH_take (i := 12) (oi := ⟨some 65, _, _, _, _, _⟩) (v := ?_) rfl (by kernel_rfl) (by kernel_rfl) (by kernel_rfl) (fun _ _ _ h => h) (Or.inl ⟨by rfl, ?_⟩) (by assumption) ?_
  rotate_left
  · intro w hSw; (try dsimp only at hSw); go_simp; try with_reducible rfl
  try simp only [Act.put, List.setIfInBounds_toArray, List.set_cons_zero, List.set_cons_succ]
  refine wpAnyH_take (i := 13) (oi := ⟨some 66, _, _, _, _, _⟩) (v := ?_) rfl (by kernel_rfl) (by kernel_rfl) (by kernel_rfl) (fun _ _ _ h => h) (Or.inl ⟨by rfl, ?_⟩) (by assumption) ?_
  rotate_left
  · intro w hSw; (try dsimp only at hSw); go_simp; try with_reducible rfl
  try simp only [Act.put, List.setIfInBounds_toArray, List.set_cons_zero, List.set_cons_succ]
  refine wpAnyH_take (i := 14) (oi := ⟨some 67, _, _, _, _, _⟩) (v := ?_) rfl (by kernel_rfl) (by kernel_rfl) (by kernel_rfl) (fun _ _ _ h => h) (Or.inl ⟨by rfl, ?_⟩) (by assumption) ?_
  rotate_left
  · intro w hSw; (try dsimp only at hSw); go_simp; try with_reducible rfl
  try simp only [Act.put, List.setIfInBounds_toArray, List.set_cons_zero, List.set_cons_succ]
  refine wpAnyH_take (i := 15) (oi := ⟨some 68, _, _, _, _, _⟩) (v := ?_) rfl (by kernel_rfl) (by kernel_rfl) (by kernel_rfl) (fun _ _ _ h => h) (Or.inl ⟨by rfl, ?_⟩) (by assumption) ?_
  rotate_left
  · intro w hSw; (try dsimp only at hSw); go_simp; try with_reducible rfl
  try simp only [Act.put, List.setIfInBounds_toArray, List.set_cons_zero, List.set_cons_succ]
  refine wpAnyH_take (i := 16) (oi := ⟨some 69, _, _, _, _, _⟩) (v := undef) rfl (by kernel_rfl) (by kernel_rfl) (by kernel_rfl) (fun _ _ _ h => h) (Or.inr ⟨by rfl, rfl⟩) (by assumption) ?_
  try simp only [Act.put, List.setIfInBounds_toArray, List.set_cons_zero, List.set_cons_succ]
  refine wpAnyH_take (i := 17) (oi := ⟨some 70, _, _, _, _, _⟩) (v := undef) rfl (by kernel_rfl) (by kernel_rfl) (by kernel_rfl) (fun _ _ _ h => h) (Or.inr ⟨by rfl, rfl⟩) (by assumption) ?_
  try simp only [Act.put, List.setIfInBounds_toArray, List.set_cons_zero, List.set_cons_succ]
  refine wpAnyH_take (i := 18) (oi := ⟨some 71, _, _, _, _, _⟩) (v := ?_) rfl (by kernel_rfl) (by kernel_rfl) (by kernel_rfl) (fun _ _ _ h => h) (Or.inl ⟨by rfl, ?_⟩) (by assumption) ?_
  rotate_left
  · intro w hSw; (try dsimp only at hSw); go_simp; try with_reducible rfl
  try simp only [Act.put, List.setIfInBounds_toArray, List.set_cons_zero, List.set_cons_succ]
  refine wpAnyH_take (i := 19) (oi := ⟨some 72, _, _, _, _, _⟩) (v := ?_) rfl (by kernel_rfl) (by kernel_rfl) (by kernel_rfl) (fun _ _ _ h => h) (Or.inl ⟨by rfl, ?_⟩) (by assumption) ?_
  rotate_left
  · intro w hSw; (try dsimp only at hSw); go_simp; try with_reducible rfl
  try simp only [Act.put, List.setIfInBounds_toArray, List.set_cons_zero, List.set_cons_succ]
  refine wpAnyH_take (i := 20) (oi := ⟨some 73, _, _, _, _, _⟩) (v := undef) rfl (by kernel_rfl) (by kernel_rfl) (by kernel_rfl) (fun _ _ _ h => h) (Or.inr ⟨by rfl, rfl⟩) (by assumption) ?_
  try simp only [Act.put, List.setIfInBounds_toArray, List.set_cons_zero, List.set_cons_succ]
  refine wpAnyH_take (i := 21) (oi := ⟨some 74, _, _, _, _, _⟩) (v := undef) rfl (by kernel_rfl) (by kernel_rfl) (by kernel_rfl) (fun _ _ _ h => h) (Or.inr ⟨by rfl, rfl⟩) (by assumption) ?_
  try simp only [Act.put, List.setIfInBounds_toArray, List.set_cons_zero, List.set_cons_succ]
  refine wpAnyH_take (i := 22) (oi := ⟨some 75, _, _, _, _, _⟩) (v := undef) rfl (by kernel_rfl) (by kernel_rfl) (by kernel_rfl) (fun _ _ _ h => h) (Or.inr ⟨by rfl, rfl⟩) (by assumption) ?_
  try simp only [Act.put, List.setIfInBounds_toArray, List.set_cons_zero, List.set_cons_succ]
  refine wpAnyH_take (i := 23) (oi := ⟨some 76, _, _, _, _, _⟩) (v := undef) rfl (by kernel_rfl) (by kernel_rfl) (by kernel_rfl) (fun _ _ _ h => h) (Or.inr ⟨by rfl, rfl⟩) (by assumption) ?_
  try simp only [Act.put, List.setIfInBounds_toArray, List.set_cons_zero, List.set_cons_succ]
  refine wpAnyH_take (i := 24) (oi := ⟨some 77, _, _, _, _, _⟩) (v := undef) rfl (by kernel_rfl) (by kernel_rfl) (by kernel_rfl) (fun _ _ _ h => h) (Or.inr ⟨by rfl, rfl⟩) (by assumption) ?_
  try simp only [Act.put, List.setIfInBounds_toArray, List.set_cons_zero, List.set_cons_succ]
  refine wpAnyH_take (i := 25) (oi := ⟨some 78, _, _, _, _, _⟩) (v := undef) rfl (by kernel_rfl) (by kernel_rfl) (by kernel_rfl) (fun _ _ _ h => h) (Or.inr ⟨by rfl, rfl⟩) (by assumption) ?_
  try simp only [Act.put, List.setIfInBounds_toArray, List.set_cons_zero, List.set_cons_succ]
  refine wpAnyH_take (i := 26) (oi := ⟨some 79, _, _, _, _, _⟩) (v := undef) rfl (by kernel_rfl) (by kernel_rfl) (by kernel_rfl) (fun _ _ _ h => h) (Or.inr ⟨by rfl, rfl⟩) (by assumption) ?_
  try simp only [Act.put, List.setIfInBounds_toArray, List.set_cons_zero, List.set_cons_succ]
  refine wpAnyH_take (i := 27) (oi := ⟨some 80, _, _, _, _, _⟩) (v := ?_) rfl (by kernel_rfl) (by kernel_rfl) (by kernel_rfl) (fun _ _ _ h => h) (Or.inl ⟨by rfl, ?_⟩) (by assumption) ?_
  rotate_left
  · intro w hSw; (try dsimp only at hSw); go_simp; try with_reducible rfl
  try simp only [Act.put, List.setIfInBounds_toArray, List.set_cons_zero, List.set_cons_succ]
  refine wpAnyH_take (i := 28) (oi := ⟨some 81, _, _, _, _, _⟩) (v := ?_) rfl (by kernel_rfl) (by kernel_rfl) (by kernel_rfl) (fun _ _ _ h => h) (Or.inl ⟨by rfl, ?_⟩) (by assumption) ?_
  rotate_left
  · intro w hSw; (try dsimp only at hSw); go_simp; try with_reducible rfl
  try simp only [Act.put, List.setIfInBounds_toArray, List.set_cons_zero, List.set_cons_succ]
  refine wpAnyH_done (by kernel_rfl) ?_ _
  go_wp2
  go_ret
  exact ⟨rfl, grown_trans (grown_trans hg0.out hg6.out) (by repeat (first | with_reducible apply Grown.alloc | with_reducible apply Grown.drew | with_reducible apply grown_drewN | with_reducible exact Grown.refl _))⟩
set_option maxRecDepth 100000 in
set_option maxHeartbeats 2000000 in
theorem wb_some_yes_no (x y : Ins) (w : Int) (W : World) (hx : 0 ≤ w ∧ w < 4294967296) (hF : Forms W) (z : Ins) (hd : dec w = some z) (hr : x.right = true) (hs : y.right = false) :
    Calls Tryd.prog 3 #[x.val, y.val, .int .u32 w] W fun e W' => e = .returned (.bool true) ∧ Grown W W' := by
  have HF := Lib.hid hF
  clear hF
  simp only [Ins.val]
  obtain ⟨W1, hW1⟩ : ∃ W1, W1 = (W.alloc (.cells (instCells x.op x.rd x.ra x.rb x.n) 23)).alloc (.cells (instCells y.op y.rd y.ra y.rb y.n) 23) := ⟨_, rfl⟩
  have hg0 : Hid (Grown W W1) := Lib.hid (by rw [hW1]; exact ((Grown.refl _).alloc _ _).alloc _ _)
  have F1 : Hid (Five W1 W.heap.size x.op x.rd x.ra x.rb x.n) := Lib.hid (by rw [hW1]; exact (five_new W _ _ _ _ _ 23).grown ((Grown.refl _).alloc _ _))
  have F2 : Hid (Five W1 (W.heap.size + 1) y.op y.rd y.ra y.rb y.n) := Lib.hid (by
    rw [hW1]
    have := five_new (W.alloc (.cells (instCells x.op x.rd x.ra x.rb x.n) 23)) y.op y.rd y.ra y.rb y.n 23
    have e : (W.alloc (.cells (instCells x.op x.rd x.ra x.rb x.n) 23)).heap.size = W.heap.size + 1 := by show (W.heap.push _).size = _; simp
    rw [e] at this; exact this)
  have HZ := Lib.hid (dec_some hd)
  go_enter Tryd.func3, Tryd.ntmps3
  go_wp2_with fail
  rw [← hW1]
  clear hW1
  refine (worded_any _ (HF.out.grown hg0.out)).mono ?_
  rintro e w1 ⟨rfl, g1⟩
  have hg1 : Hid (Grown W1 w1) := Lib.hid g1
  clear g1
  go_wp2_with fail
  refine (decode_yes w z _ hx (HF.out.grown (grown_trans hg0.out hg1.out)) hd).mono ?_
  rintro e w2 ⟨rfl, g2⟩
  have hg2 : Hid (Grown W1 w2) := Lib.hid (grown_trans hg1.out g2)
  have F3 : Hid (Five (w2.alloc (.cells (instCells z.op z.rd z.ra z.rb z.n) 23)) w2.heap.size z.op z.rd z.ra z.rb z.n) := Lib.hid (five_new _ _ _ _ _ _ _)
  clear g2
  go_wp2_with fail
  refine (encode_yes z _ (HF.out.grown (grown_trans hg0.out (hg2.out.alloc _ _))) HZ.out.1).mono ?_
  rw [HZ.out.2]
  rintro e w3 ⟨rfl, g3⟩
  have hg3 : Hid (Grown W1 w3) := Lib.hid (grown_trans (hg2.out.alloc _ _) g3)
  obtain ⟨c0, c1, c2, c3, c4, cf⟩ := F3.out.grown g3
  clear g3 cf
  go_wp2_with fail
  refine (right_ins z _ (HF.out.grown (grown_trans hg0.out hg3.out))).mono ?_
  rw [HZ.out.1]
  rintro e w4 ⟨rfl, e4⟩
  have hg4 : Hid (Grown W1 w4) := Lib.hid (by rw [e4]; exact hg3.out.alloc _ _)
  clear e4 c0 c1 c2 c3 c4
  obtain ⟨c0, c1, c2, c3, c4, cf⟩ := F1.out.grown hg4.out
  go_wp2_with fail
  clear c0 c1 c2 c3 c4 cf
  refine (encode_yes x _ (HF.out.grown (grown_trans hg0.out hg4.out)) hr).mono ?_
  rintro e w5 ⟨rfl, g5⟩
  have hg5 : Hid (Grown W1 w5) := Lib.hid (grown_trans hg4.out g5)
  clear g5
  obtain ⟨c0, c1, c2, c3, c4, cf⟩ := F2.out.grown hg5.out
  go_wp2_with fail
  clear c0 c1 c2 c3 c4 cf
  refine (encode_no y _ (HF.out.grown (grown_trans hg0.out hg5.out)) hs).mono ?_
  rintro e w6 ⟨rfl, g6⟩
  have hg6 : Hid (Grown W1 w6) := Lib.hid (grown_trans hg5.out g6)
  clear g6
  have HS : Hid (∀ w', Grown w6 w' → (w'.cell? ⟨W.heap.size, 0, none⟩ = some (.int .i64 x.op) ∧ w'.cell? ⟨W.heap.size, 1, none⟩ = some (.int .i64 x.rd) ∧ w'.cell? ⟨W.heap.size, 2, none⟩ = some (.int .i64 x.ra) ∧ w'.cell? ⟨W.heap.size, 3, none⟩ = some (.int .i64 x.rb) ∧ w'.cell? ⟨W.heap.size, 4, none⟩ = some (.int .i64 x.n) ∧ w'.cell? ⟨W.heap.size + 1, 0, none⟩ = some (.int .i64 y.op) ∧ w'.cell? ⟨W.heap.size + 1, 1, none⟩ = some (.int .i64 y.rd) ∧ w'.cell? ⟨W.heap.size + 1, 2, none⟩ = some (.int .i64 y.ra) ∧ w'.cell? ⟨W.heap.size + 1, 3, none⟩ = some (.int .i64 y.rb) ∧ w'.cell? ⟨W.heap.size + 1, 4, none⟩ = some (.int .i64 y.n))) := Lib.hid (fun w' g =>
    have a := (F1.out.grown hg6.out).grown g
    have b := (F2.out.grown hg6.out).grown g
    ⟨a.c0, a.c1, a.c2, a.c3, a.c4, b.c0, b.c1, b.c2, b.c3, b.c4⟩)
  have HFG : Hid (∀ w', Grown w6 w' → Forms w') := Lib.hid (fun w' g => HF.out.grown (grown_trans hg0.out (grown_trans hg6.out g)))
  go_wp2_with fail
  refine wp_region_held_drew (S := (fun w' => w'.cell? ⟨W.heap.size, 0, none⟩ = some (.int .i64 x.op) ∧ w'.cell? ⟨W.heap.size, 1, none⟩ = some (.int .i64 x.rd) ∧ w'.cell? ⟨W.heap.size, 2, none⟩ = some (.int .i64 x.ra) ∧ w'.cell? ⟨W.heap.size, 3, none⟩ = some (.int .i64 x.rb) ∧ w'.cell? ⟨W.heap.size, 4, none⟩ = some (.int .i64 x.n) ∧ w'.cell? ⟨W.heap.size + 1, 0, none⟩ = some (.int .i64 y.op) ∧ w'.cell? ⟨W.heap.size + 1, 1, none⟩ = some (.int .i64 y.rd) ∧ w'.cell? ⟨W.heap.size + 1, 2, none⟩ = some (.int .i64 y.ra) ∧ w'.cell? ⟨W.heap.size + 1, 3, none⟩ = some (.int .i64 y.rb) ∧ w'.cell? ⟨W.heap.size + 1, 4, none⟩ = some (.int .i64 y.n))) (by kernel_rfl) (HS.out _ (by repeat (first | with_reducible apply Grown.alloc | with_reducible apply Grown.drew | with_reducible apply grown_drewN | with_reducible exact Grown.refl _))) (fun hHeld => ?_)
  refine wpAnyH_take (i := 0) (oi := ⟨some 53, _, _, _, _, _⟩) (v := ?_) rfl (by kernel_rfl) (by kernel_rfl) (by kernel_rfl) (fun _ _ _ h => h) (Or.inl ⟨by rfl, ?_⟩) (by assumption) ?_
  rotate_left
  · intro w hSw; (try dsimp only at hSw); go_simp; try with_reducible rfl
  try simp only [Act.put, List.setIfInBounds_toArray, List.set_cons_zero, List.set_cons_succ]
  refine wpAnyH_take (i := 1) (oi := ⟨some 54, _, _, _, _, _⟩) (v := ?_) rfl (by kernel_rfl) (by kernel_rfl) (by kernel_rfl) (fun _ _ _ h => h) (Or.inl ⟨by rfl, ?_⟩) (by assumption) ?_
  rotate_left
  · intro w hSw; (try dsimp only at hSw); go_simp; try with_reducible rfl
  try simp only [Act.put, List.setIfInBounds_toArray, List.set_cons_zero, List.set_cons_succ]
  refine wpAnyH_take (i := 2) (oi := ⟨some 55, _, _, _, _, _⟩) (v := ?_) rfl (by kernel_rfl) (by kernel_rfl) (by kernel_rfl) (fun _ _ _ h => h) (Or.inl ⟨by rfl, ?_⟩) (by assumption) ?_
  rotate_left
  · intro w hSw; (try dsimp only at hSw); go_simp; try with_reducible rfl
  try simp only [Act.put, List.setIfInBounds_toArray, List.set_cons_zero, List.set_cons_succ]
  refine wpAnyH_ready (rs := [3]) (by kernel_rfl) (by simp) ?_
  refine AllReadyH.cons rfl (fun K hK => ?_) ?_
  rotate_left
  exact AllReadyH.nil
  go_simp
  refine (right_ins x _ (HFG.out _ (by repeat (first | with_reducible apply Grown.alloc | with_reducible apply Grown.drew | with_reducible apply grown_drewN | with_reducible exact Grown.refl _)))).mono ?_
  rw [hr]
  rintro e _ ⟨rfl, rfl⟩
  go_wp2_with fail
  refine hK.out _ _ (HS.out _ (by repeat (first | with_reducible apply Grown.alloc | with_reducible apply Grown.drew | with_reducible apply grown_drewN | with_reducible exact Grown.refl _))) (fun hHeld => ?_)
  clear hK K
  try simp only [Act.put, List.setIfInBounds_toArray, List.set_cons_zero, List.set_cons_succ]
  refine wpAnyH_take (i := 4) (oi := ⟨some 57, _, _, _, _, _⟩) (v := ?_) rfl (by kernel_rfl) (by kernel_rfl) (by kernel_rfl) (fun _ _ _ h => h) (Or.inl ⟨by rfl, ?_⟩) (by assumption) ?_
  rotate_left
  · intro w hSw; (try dsimp only at hSw); go_simp; try with_reducible rfl
  try simp only [Act.put, List.setIfInBounds_toArray, List.set_cons_zero, List.set_cons_succ]
  refine wpAnyH_take (i := 5) (oi := ⟨some 58, _, _, _, _, _⟩) (v := ?_) rfl (by kernel_rfl) (by kernel_rfl) (by kernel_rfl) (fun _ _ _ h => h) (Or.inl ⟨by rfl, ?_⟩) (by assumption) ?_
  rotate_left
  · intro w hSw; (try dsimp only at hSw); go_simp; try with_reducible rfl
  try simp only [Act.put, List.setIfInBounds_toArray, List.set_cons_zero, List.set_cons_succ]
  refine wpAnyH_take (i := 6) (oi := ⟨some 59, _, _, _, _, _⟩) (v := ?_) rfl (by kernel_rfl) (by kernel_rfl) (by kernel_rfl) (fun _ _ _ h => h) (Or.inl ⟨by rfl, ?_⟩) (by assumption) ?_
  rotate_left
  · intro w hSw; (try dsimp only at hSw); go_simp; try with_reducible rfl
  try simp only [Act.put, List.setIfInBounds_toArray, List.set_cons_zero, List.set_cons_succ]
  refine wpAnyH_take (i := 7) (oi := ⟨some 60, _, _, _, _, _⟩) (v := ?_) rfl (by kernel_rfl) (by kernel_rfl) (by kernel_rfl) (fun _ _ _ h => h) (Or.inl ⟨by rfl, ?_⟩) (by assumption) ?_
  rotate_left
  · intro w hSw; (try dsimp only at hSw); go_simp; try with_reducible rfl
  try simp only [Act.put, List.setIfInBounds_toArray, List.set_cons_zero, List.set_cons_succ]
  refine wpAnyH_take (i := 8) (oi := ⟨some 61, _, _, _, _, _⟩) (v := ?_) rfl (by kernel_rfl) (by kernel_rfl) (by kernel_rfl) (fun _ _ _ h => h) (Or.inl ⟨by rfl, ?_⟩) (by assumption) ?_
  rotate_left
  · intro w hSw; (try dsimp only at hSw); go_simp; try with_reducible rfl
  try simp only [Act.put, List.setIfInBounds_toArray, List.set_cons_zero, List.set_cons_succ]
  refine wpAnyH_ready (rs := [9]) (by kernel_rfl) (by simp) ?_
  refine AllReadyH.cons rfl (fun K hK => ?_) ?_
  rotate_left
  exact AllReadyH.nil
  go_simp
  refine (right_ins y _ (HFG.out _ (by repeat (first | with_reducible apply Grown.alloc | with_reducible apply Grown.drew | with_reducible apply grown_drewN | with_reducible exact Grown.refl _)))).mono ?_
  rw [hs]
  rintro e _ ⟨rfl, rfl⟩
  go_wp2_with fail
  refine hK.out _ _ (HS.out _ (by repeat (first | with_reducible apply Grown.alloc | with_reducible apply Grown.drew | with_reducible apply grown_drewN | with_reducible exact Grown.refl _))) (fun hHeld => ?_)
  clear hK K
  try simp only [Act.put, List.setIfInBounds_toArray, List.set_cons_zero, List.set_cons_succ]
  refine wpAnyH_take (i := 10) (oi := ⟨some 63, _, _, _, _, _⟩) (v := ?_) rfl (by kernel_rfl) (by kernel_rfl) (by kernel_rfl) (fun _ _ _ h => h) (Or.inl ⟨by rfl, ?_⟩) (by assumption) ?_
  rotate_left
  · intro w hSw; (try dsimp only at hSw); go_simp; try with_reducible rfl
  try simp only [Act.put, List.setIfInBounds_toArray, List.set_cons_zero, List.set_cons_succ]
  refine wpAnyH_take (i := 11) (oi := ⟨some 64, _, _, _, _, _⟩) (v := ?_) rfl (by kernel_rfl) (by kernel_rfl) (by kernel_rfl) (fun _ _ _ h => h) (Or.inl ⟨by rfl, ?_⟩) (by assumption) ?_
  rotate_left
  · intro w hSw; (try dsimp only at hSw); go_simp; try with_reducible rfl
  try simp only [Act.put, List.setIfInBounds_toArray, List.set_cons_zero, List.set_cons_succ]
  refine wpAnyH_take (i := 12) (oi := ⟨some 65, _, _, _, _, _⟩) (v := ?_) rfl (by kernel_rfl) (by kernel_rfl) (by kernel_rfl) (fun _ _ _ h => h) (Or.inl ⟨by rfl, ?_⟩) (by assumption) ?_
  rotate_left
  · intro w hSw; (try dsimp only at hSw); go_simp; try with_reducible rfl
  try simp only [Act.put, List.setIfInBounds_toArray, List.set_cons_zero, List.set_cons_succ]
  refine wpAnyH_take (i := 13) (oi := ⟨some 66, _, _, _, _, _⟩) (v := ?_) rfl (by kernel_rfl) (by kernel_rfl) (by kernel_rfl) (fun _ _ _ h => h) (Or.inl ⟨by rfl, ?_⟩) (by assumption) ?_
  rotate_left
  · intro w hSw; (try dsimp only at hSw); go_simp; try with_reducible rfl
  try simp only [Act.put, List.setIfInBounds_toArray, List.set_cons_zero, List.set_cons_succ]
  refine wpAnyH_take (i := 14) (oi := ⟨some 67, _, _, _, _, _⟩) (v := ?_) rfl (by kernel_rfl) (by kernel_rfl) (by kernel_rfl) (fun _ _ _ h => h) (Or.inl ⟨by rfl, ?_⟩) (by assumption) ?_
  rotate_left
  · intro w hSw; (try dsimp only at hSw); go_simp; try with_reducible rfl
  try simp only [Act.put, List.setIfInBounds_toArray, List.set_cons_zero, List.set_cons_succ]
  refine wpAnyH_take (i := 15) (oi := ⟨some 68, _, _, _, _, _⟩) (v := ?_) rfl (by kernel_rfl) (by kernel_rfl) (by kernel_rfl) (fun _ _ _ h => h) (Or.inl ⟨by rfl, ?_⟩) (by assumption) ?_
  rotate_left
  · intro w hSw; (try dsimp only at hSw); go_simp; try with_reducible rfl
  try simp only [Act.put, List.setIfInBounds_toArray, List.set_cons_zero, List.set_cons_succ]
  refine wpAnyH_take (i := 16) (oi := ⟨some 69, _, _, _, _, _⟩) (v := ?_) rfl (by kernel_rfl) (by kernel_rfl) (by kernel_rfl) (fun _ _ _ h => h) (Or.inl ⟨by rfl, ?_⟩) (by assumption) ?_
  rotate_left
  · intro w hSw; (try dsimp only at hSw); go_simp; try with_reducible rfl
  try simp only [Act.put, List.setIfInBounds_toArray, List.set_cons_zero, List.set_cons_succ]
  refine wpAnyH_take (i := 17) (oi := ⟨some 70, _, _, _, _, _⟩) (v := ?_) rfl (by kernel_rfl) (by kernel_rfl) (by kernel_rfl) (fun _ _ _ h => h) (Or.inl ⟨by rfl, ?_⟩) (by assumption) ?_
  rotate_left
  · intro w hSw; (try dsimp only at hSw); go_simp; try with_reducible rfl
  try simp only [Act.put, List.setIfInBounds_toArray, List.set_cons_zero, List.set_cons_succ]
  refine wpAnyH_take (i := 18) (oi := ⟨some 71, _, _, _, _, _⟩) (v := ?_) rfl (by kernel_rfl) (by kernel_rfl) (by kernel_rfl) (fun _ _ _ h => h) (Or.inl ⟨by rfl, ?_⟩) (by assumption) ?_
  rotate_left
  · intro w hSw; (try dsimp only at hSw); go_simp; try with_reducible rfl
  try simp only [Act.put, List.setIfInBounds_toArray, List.set_cons_zero, List.set_cons_succ]
  refine wpAnyH_take (i := 19) (oi := ⟨some 72, _, _, _, _, _⟩) (v := ?_) rfl (by kernel_rfl) (by kernel_rfl) (by kernel_rfl) (fun _ _ _ h => h) (Or.inl ⟨by rfl, ?_⟩) (by assumption) ?_
  rotate_left
  · intro w hSw; (try dsimp only at hSw); go_simp; try with_reducible rfl
  try simp only [Act.put, List.setIfInBounds_toArray, List.set_cons_zero, List.set_cons_succ]
  refine wpAnyH_take (i := 20) (oi := ⟨some 73, _, _, _, _, _⟩) (v := undef) rfl (by kernel_rfl) (by kernel_rfl) (by kernel_rfl) (fun _ _ _ h => h) (Or.inr ⟨by rfl, rfl⟩) (by assumption) ?_
  try simp only [Act.put, List.setIfInBounds_toArray, List.set_cons_zero, List.set_cons_succ]
  refine wpAnyH_take (i := 21) (oi := ⟨some 74, _, _, _, _, _⟩) (v := undef) rfl (by kernel_rfl) (by kernel_rfl) (by kernel_rfl) (fun _ _ _ h => h) (Or.inr ⟨by rfl, rfl⟩) (by assumption) ?_
  try simp only [Act.put, List.setIfInBounds_toArray, List.set_cons_zero, List.set_cons_succ]
  refine wpAnyH_take (i := 22) (oi := ⟨some 75, _, _, _, _, _⟩) (v := undef) rfl (by kernel_rfl) (by kernel_rfl) (by kernel_rfl) (fun _ _ _ h => h) (Or.inr ⟨by rfl, rfl⟩) (by assumption) ?_
  try simp only [Act.put, List.setIfInBounds_toArray, List.set_cons_zero, List.set_cons_succ]
  refine wpAnyH_take (i := 23) (oi := ⟨some 76, _, _, _, _, _⟩) (v := undef) rfl (by kernel_rfl) (by kernel_rfl) (by kernel_rfl) (fun _ _ _ h => h) (Or.inr ⟨by rfl, rfl⟩) (by assumption) ?_
  try simp only [Act.put, List.setIfInBounds_toArray, List.set_cons_zero, List.set_cons_succ]
  refine wpAnyH_take (i := 24) (oi := ⟨some 77, _, _, _, _, _⟩) (v := undef) rfl (by kernel_rfl) (by kernel_rfl) (by kernel_rfl) (fun _ _ _ h => h) (Or.inr ⟨by rfl, rfl⟩) (by assumption) ?_
  try simp only [Act.put, List.setIfInBounds_toArray, List.set_cons_zero, List.set_cons_succ]
  refine wpAnyH_take (i := 25) (oi := ⟨some 78, _, _, _, _, _⟩) (v := undef) rfl (by kernel_rfl) (by kernel_rfl) (by kernel_rfl) (fun _ _ _ h => h) (Or.inr ⟨by rfl, rfl⟩) (by assumption) ?_
  try simp only [Act.put, List.setIfInBounds_toArray, List.set_cons_zero, List.set_cons_succ]
  refine wpAnyH_take (i := 26) (oi := ⟨some 79, _, _, _, _, _⟩) (v := undef) rfl (by kernel_rfl) (by kernel_rfl) (by kernel_rfl) (fun _ _ _ h => h) (Or.inr ⟨by rfl, rfl⟩) (by assumption) ?_
  try simp only [Act.put, List.setIfInBounds_toArray, List.set_cons_zero, List.set_cons_succ]
  refine wpAnyH_take (i := 27) (oi := ⟨some 80, _, _, _, _, _⟩) (v := ?_) rfl (by kernel_rfl) (by kernel_rfl) (by kernel_rfl) (fun _ _ _ h => h) (Or.inl ⟨by rfl, ?_⟩) (by assumption) ?_
  rotate_left
  · intro w hSw; (try dsimp only at hSw); go_simp; try with_reducible rfl
  try simp only [Act.put, List.setIfInBounds_toArray, List.set_cons_zero, List.set_cons_succ]
  refine wpAnyH_take (i := 28) (oi := ⟨some 81, _, _, _, _, _⟩) (v := ?_) rfl (by kernel_rfl) (by kernel_rfl) (by kernel_rfl) (fun _ _ _ h => h) (Or.inl ⟨by rfl, ?_⟩) (by assumption) ?_
  rotate_left
  · intro w hSw; (try dsimp only at hSw); go_simp; try with_reducible rfl
  try simp only [Act.put, List.setIfInBounds_toArray, List.set_cons_zero, List.set_cons_succ]
  refine wpAnyH_done (by kernel_rfl) ?_ _
  have hw : 0 ≤ x.word ∧ x.word < 4294967296 := (ins_back x hr).1
  go_wp2_with fail
  refine (decode_yes x.word x _ hw (HFG.out _ (by repeat (first | with_reducible apply Grown.alloc | with_reducible apply Grown.drew | with_reducible apply grown_drewN | with_reducible exact Grown.refl _))) (dec_word hr)).mono ?_
  rintro e w7 ⟨rfl, g7⟩
  have hg7 : Hid (Grown w6 w7) := Lib.hid (grown_trans (by repeat (first | with_reducible apply Grown.alloc | with_reducible apply Grown.drew | with_reducible apply grown_drewN | with_reducible exact Grown.refl _)) g7)
  obtain ⟨c0, c1, c2, c3, c4, d0, d1, d2, d3, d4⟩ := HS.out _ (hg7.out.alloc (instCells x.op x.rd x.ra x.rb x.n) 23)
  clear g7
  go_wp2
  go_ret
  exact ⟨rfl, (grown_trans (grown_trans hg0.out hg6.out) hg7.out).alloc _ _⟩
set_option maxRecDepth 100000 in
set_option maxHeartbeats 2000000 in
theorem wb_some_yes_yeseq (x : Ins) (w : Int) (W : World) (hx : 0 ≤ w ∧ w < 4294967296) (hF : Forms W) (z : Ins) (hd : dec w = some z) (hr : x.right = true) :
    Calls Tryd.prog 3 #[x.val, x.val, .int .u32 w] W fun e W' => e = .returned (.bool true) ∧ Grown W W' := by
  have HF := Lib.hid hF
  clear hF
  have hs := hr
  simp only [Ins.val]
  obtain ⟨W1, hW1⟩ : ∃ W1, W1 = (W.alloc (.cells (instCells x.op x.rd x.ra x.rb x.n) 23)).alloc (.cells (instCells x.op x.rd x.ra x.rb x.n) 23) := ⟨_, rfl⟩
  have hg0 : Hid (Grown W W1) := Lib.hid (by rw [hW1]; exact ((Grown.refl _).alloc _ _).alloc _ _)
  have F1 : Hid (Five W1 W.heap.size x.op x.rd x.ra x.rb x.n) := Lib.hid (by rw [hW1]; exact (five_new W _ _ _ _ _ 23).grown ((Grown.refl _).alloc _ _))
  have F2 : Hid (Five W1 (W.heap.size + 1) x.op x.rd x.ra x.rb x.n) := Lib.hid (by
    rw [hW1]
    have := five_new (W.alloc (.cells (instCells x.op x.rd x.ra x.rb x.n) 23)) x.op x.rd x.ra x.rb x.n 23
    have e : (W.alloc (.cells (instCells x.op x.rd x.ra x.rb x.n) 23)).heap.size = W.heap.size + 1 := by show (W.heap.push _).size = _; simp
    rw [e] at this; exact this)
  have HZ := Lib.hid (dec_some hd)
  go_enter Tryd.func3, Tryd.ntmps3
  go_wp2_with fail
  rw [← hW1]
  clear hW1
  refine (worded_any _ (HF.out.grown hg0.out)).mono ?_
  rintro e w1 ⟨rfl, g1⟩
  have hg1 : Hid (Grown W1 w1) := Lib.hid g1
  clear g1
  go_wp2_with fail
  refine (decode_yes w z _ hx (HF.out.grown (grown_trans hg0.out hg1.out)) hd).mono ?_
  rintro e w2 ⟨rfl, g2⟩
  have hg2 : Hid (Grown W1 w2) := Lib.hid (grown_trans hg1.out g2)
  have F3 : Hid (Five (w2.alloc (.cells (instCells z.op z.rd z.ra z.rb z.n) 23)) w2.heap.size z.op z.rd z.ra z.rb z.n) := Lib.hid (five_new _ _ _ _ _ _ _)
  clear g2
  go_wp2_with fail
  refine (encode_yes z _ (HF.out.grown (grown_trans hg0.out (hg2.out.alloc _ _))) HZ.out.1).mono ?_
  rw [HZ.out.2]
  rintro e w3 ⟨rfl, g3⟩
  have hg3 : Hid (Grown W1 w3) := Lib.hid (grown_trans (hg2.out.alloc _ _) g3)
  obtain ⟨c0, c1, c2, c3, c4, cf⟩ := F3.out.grown g3
  clear g3 cf
  go_wp2_with fail
  refine (right_ins z _ (HF.out.grown (grown_trans hg0.out hg3.out))).mono ?_
  rw [HZ.out.1]
  rintro e w4 ⟨rfl, e4⟩
  have hg4 : Hid (Grown W1 w4) := Lib.hid (by rw [e4]; exact hg3.out.alloc _ _)
  clear e4 c0 c1 c2 c3 c4
  obtain ⟨c0, c1, c2, c3, c4, cf⟩ := F1.out.grown hg4.out
  go_wp2_with fail
  clear c0 c1 c2 c3 c4 cf
  refine (encode_yes x _ (HF.out.grown (grown_trans hg0.out hg4.out)) hr).mono ?_
  rintro e w5 ⟨rfl, g5⟩
  have hg5 : Hid (Grown W1 w5) := Lib.hid (grown_trans hg4.out g5)
  clear g5
  obtain ⟨c0, c1, c2, c3, c4, cf⟩ := F2.out.grown hg5.out
  go_wp2_with fail
  clear c0 c1 c2 c3 c4 cf
  refine (encode_yes x _ (HF.out.grown (grown_trans hg0.out hg5.out)) hs).mono ?_
  rintro e w6 ⟨rfl, g6⟩
  have hg6 : Hid (Grown W1 w6) := Lib.hid (grown_trans hg5.out g6)
  clear g6
  have HS : Hid (∀ w', Grown w6 w' → (w'.cell? ⟨W.heap.size, 0, none⟩ = some (.int .i64 x.op) ∧ w'.cell? ⟨W.heap.size, 1, none⟩ = some (.int .i64 x.rd) ∧ w'.cell? ⟨W.heap.size, 2, none⟩ = some (.int .i64 x.ra) ∧ w'.cell? ⟨W.heap.size, 3, none⟩ = some (.int .i64 x.rb) ∧ w'.cell? ⟨W.heap.size, 4, none⟩ = some (.int .i64 x.n) ∧ w'.cell? ⟨W.heap.size + 1, 0, none⟩ = some (.int .i64 x.op) ∧ w'.cell? ⟨W.heap.size + 1, 1, none⟩ = some (.int .i64 x.rd) ∧ w'.cell? ⟨W.heap.size + 1, 2, none⟩ = some (.int .i64 x.ra) ∧ w'.cell? ⟨W.heap.size + 1, 3, none⟩ = some (.int .i64 x.rb) ∧ w'.cell? ⟨W.heap.size + 1, 4, none⟩ = some (.int .i64 x.n))) := Lib.hid (fun w' g =>
    have a := (F1.out.grown hg6.out).grown g
    have b := (F2.out.grown hg6.out).grown g
    ⟨a.c0, a.c1, a.c2, a.c3, a.c4, b.c0, b.c1, b.c2, b.c3, b.c4⟩)
  have HFG : Hid (∀ w', Grown w6 w' → Forms w') := Lib.hid (fun w' g => HF.out.grown (grown_trans hg0.out (grown_trans hg6.out g)))
  go_wp2_with fail
  go_region_held3 (fun w' => w'.cell? ⟨W.heap.size, 0, none⟩ = some (.int .i64 x.op) ∧ w'.cell? ⟨W.heap.size, 1, none⟩ = some (.int .i64 x.rd) ∧ w'.cell? ⟨W.heap.size, 2, none⟩ = some (.int .i64 x.ra) ∧ w'.cell? ⟨W.heap.size, 3, none⟩ = some (.int .i64 x.rb) ∧ w'.cell? ⟨W.heap.size, 4, none⟩ = some (.int .i64 x.n) ∧ w'.cell? ⟨W.heap.size + 1, 0, none⟩ = some (.int .i64 x.op) ∧ w'.cell? ⟨W.heap.size + 1, 1, none⟩ = some (.int .i64 x.rd) ∧ w'.cell? ⟨W.heap.size + 1, 2, none⟩ = some (.int .i64 x.ra) ∧ w'.cell? ⟨W.heap.size + 1, 3, none⟩ = some (.int .i64 x.rb) ∧ w'.cell? ⟨W.heap.size + 1, 4, none⟩ = some (.int .i64 x.n))
    (exact HS.out _ (by repeat (first | with_reducible apply Grown.alloc | with_reducible apply Grown.drew | with_reducible apply grown_drewN | with_reducible exact Grown.refl _)))
    (first | (go_at_call_of 12 (Value.int IntKind.i64 x.op); refine (right_ins x _ (HFG.out _ (by repeat (first | with_reducible apply Grown.alloc | with_reducible apply Grown.drew | with_reducible apply grown_drewN | with_reducible exact Grown.refl _)))).mono ?_; rw [hr]; rintro e _ ⟨rfl, rfl⟩))
  have hw : 0 ≤ x.word ∧ x.word < 4294967296 := (ins_back x hr).1
  go_wp2_with fail
  refine (decode_yes x.word x _ hw (HFG.out _ (by repeat (first | with_reducible apply Grown.alloc | with_reducible apply Grown.drew | with_reducible apply grown_drewN | with_reducible exact Grown.refl _))) (dec_word hr)).mono ?_
  rintro e w7 ⟨rfl, g7⟩
  have hg7 : Hid (Grown w6 w7) := Lib.hid (grown_trans (by repeat (first | with_reducible apply Grown.alloc | with_reducible apply Grown.drew | with_reducible apply grown_drewN | with_reducible exact Grown.refl _)) g7)
  obtain ⟨c0, c1, c2, c3, c4, d0, d1, d2, d3, d4⟩ := HS.out _ (hg7.out.alloc (instCells x.op x.rd x.ra x.rb x.n) 23)
  clear g7
  go_wp2
  go_ret
  exact ⟨rfl, (grown_trans (grown_trans hg0.out hg6.out) hg7.out).alloc _ _⟩
set_option maxRecDepth 100000 in
set_option maxHeartbeats 2000000 in
theorem wb_some_yes_yesne (x y : Ins) (w : Int) (W : World) (hx : 0 ≤ w ∧ w < 4294967296) (hF : Forms W) (z : Ins) (hd : dec w = some z) (hr : x.right = true) (hs : y.right = true) (hxy : ¬ x = y) :
    Calls Tryd.prog 3 #[x.val, y.val, .int .u32 w] W fun e W' => e = .returned (.bool true) ∧ Grown W W' := by
  have HF := Lib.hid hF
  clear hF
  have hne : (x.word == y.word) = false := by simp; exact fun h => hxy (word_inj hr hs h)
  have hdif : Hid ((x.op == y.op) = false ∨ (x.op == y.op) = true ∧ (x.rd == y.rd) = false ∨ (x.op == y.op) = true ∧ (x.rd == y.rd) = true ∧ (x.ra == y.ra) = false ∨ (x.op == y.op) = true ∧ (x.rd == y.rd) = true ∧ (x.ra == y.ra) = true ∧ (x.rb == y.rb) = false ∨
      (x.op == y.op) = true ∧ (x.rd == y.rd) = true ∧ (x.ra == y.ra) = true ∧ (x.rb == y.rb) = true ∧ (x.n == y.n) = false) := Lib.hid (ins_differ hxy)
  clear hxy
  simp only [Ins.val]
  obtain ⟨W1, hW1⟩ : ∃ W1, W1 = (W.alloc (.cells (instCells x.op x.rd x.ra x.rb x.n) 23)).alloc (.cells (instCells y.op y.rd y.ra y.rb y.n) 23) := ⟨_, rfl⟩
  have hg0 : Hid (Grown W W1) := Lib.hid (by rw [hW1]; exact ((Grown.refl _).alloc _ _).alloc _ _)
  have F1 : Hid (Five W1 W.heap.size x.op x.rd x.ra x.rb x.n) := Lib.hid (by rw [hW1]; exact (five_new W _ _ _ _ _ 23).grown ((Grown.refl _).alloc _ _))
  have F2 : Hid (Five W1 (W.heap.size + 1) y.op y.rd y.ra y.rb y.n) := Lib.hid (by
    rw [hW1]
    have := five_new (W.alloc (.cells (instCells x.op x.rd x.ra x.rb x.n) 23)) y.op y.rd y.ra y.rb y.n 23
    have e : (W.alloc (.cells (instCells x.op x.rd x.ra x.rb x.n) 23)).heap.size = W.heap.size + 1 := by show (W.heap.push _).size = _; simp
    rw [e] at this; exact this)
  have HZ := Lib.hid (dec_some hd)
  go_enter Tryd.func3, Tryd.ntmps3
  go_wp2_with fail
  rw [← hW1]
  clear hW1
  refine (worded_any _ (HF.out.grown hg0.out)).mono ?_
  rintro e w1 ⟨rfl, g1⟩
  have hg1 : Hid (Grown W1 w1) := Lib.hid g1
  clear g1
  go_wp2_with fail
  refine (decode_yes w z _ hx (HF.out.grown (grown_trans hg0.out hg1.out)) hd).mono ?_
  rintro e w2 ⟨rfl, g2⟩
  have hg2 : Hid (Grown W1 w2) := Lib.hid (grown_trans hg1.out g2)
  have F3 : Hid (Five (w2.alloc (.cells (instCells z.op z.rd z.ra z.rb z.n) 23)) w2.heap.size z.op z.rd z.ra z.rb z.n) := Lib.hid (five_new _ _ _ _ _ _ _)
  clear g2
  go_wp2_with fail
  refine (encode_yes z _ (HF.out.grown (grown_trans hg0.out (hg2.out.alloc _ _))) HZ.out.1).mono ?_
  rw [HZ.out.2]
  rintro e w3 ⟨rfl, g3⟩
  have hg3 : Hid (Grown W1 w3) := Lib.hid (grown_trans (hg2.out.alloc _ _) g3)
  obtain ⟨c0, c1, c2, c3, c4, cf⟩ := F3.out.grown g3
  clear g3 cf
  go_wp2_with fail
  refine (right_ins z _ (HF.out.grown (grown_trans hg0.out hg3.out))).mono ?_
  rw [HZ.out.1]
  rintro e w4 ⟨rfl, e4⟩
  have hg4 : Hid (Grown W1 w4) := Lib.hid (by rw [e4]; exact hg3.out.alloc _ _)
  clear e4 c0 c1 c2 c3 c4
  obtain ⟨c0, c1, c2, c3, c4, cf⟩ := F1.out.grown hg4.out
  go_wp2_with fail
  clear c0 c1 c2 c3 c4 cf
  refine (encode_yes x _ (HF.out.grown (grown_trans hg0.out hg4.out)) hr).mono ?_
  rintro e w5 ⟨rfl, g5⟩
  have hg5 : Hid (Grown W1 w5) := Lib.hid (grown_trans hg4.out g5)
  clear g5
  obtain ⟨c0, c1, c2, c3, c4, cf⟩ := F2.out.grown hg5.out
  go_wp2_with fail
  clear c0 c1 c2 c3 c4 cf
  refine (encode_yes y _ (HF.out.grown (grown_trans hg0.out hg5.out)) hs).mono ?_
  rintro e w6 ⟨rfl, g6⟩
  have hg6 : Hid (Grown W1 w6) := Lib.hid (grown_trans hg5.out g6)
  clear g6
  have HS : Hid (∀ w', Grown w6 w' → (w'.cell? ⟨W.heap.size, 0, none⟩ = some (.int .i64 x.op) ∧ w'.cell? ⟨W.heap.size, 1, none⟩ = some (.int .i64 x.rd) ∧ w'.cell? ⟨W.heap.size, 2, none⟩ = some (.int .i64 x.ra) ∧ w'.cell? ⟨W.heap.size, 3, none⟩ = some (.int .i64 x.rb) ∧ w'.cell? ⟨W.heap.size, 4, none⟩ = some (.int .i64 x.n) ∧ w'.cell? ⟨W.heap.size + 1, 0, none⟩ = some (.int .i64 y.op) ∧ w'.cell? ⟨W.heap.size + 1, 1, none⟩ = some (.int .i64 y.rd) ∧ w'.cell? ⟨W.heap.size + 1, 2, none⟩ = some (.int .i64 y.ra) ∧ w'.cell? ⟨W.heap.size + 1, 3, none⟩ = some (.int .i64 y.rb) ∧ w'.cell? ⟨W.heap.size + 1, 4, none⟩ = some (.int .i64 y.n))) := Lib.hid (fun w' g =>
    have a := (F1.out.grown hg6.out).grown g
    have b := (F2.out.grown hg6.out).grown g
    ⟨a.c0, a.c1, a.c2, a.c3, a.c4, b.c0, b.c1, b.c2, b.c3, b.c4⟩)
  have HFG : Hid (∀ w', Grown w6 w' → Forms w') := Lib.hid (fun w' g => HF.out.grown (grown_trans hg0.out (grown_trans hg6.out g)))
  go_wp2_with fail
  rcases hdif.out with q0 | ⟨q0, q1⟩ | ⟨q0, q1, q2⟩ | ⟨q0, q1, q2, q3⟩ | ⟨q0, q1, q2, q3, q4⟩
  all_goals
    go_region_held3 (fun w' => w'.cell? ⟨W.heap.size, 0, none⟩ = some (.int .i64 x.op) ∧ w'.cell? ⟨W.heap.size, 1, none⟩ = some (.int .i64 x.rd) ∧ w'.cell? ⟨W.heap.size, 2, none⟩ = some (.int .i64 x.ra) ∧ w'.cell? ⟨W.heap.size, 3, none⟩ = some (.int .i64 x.rb) ∧ w'.cell? ⟨W.heap.size, 4, none⟩ = some (.int .i64 x.n) ∧ w'.cell? ⟨W.heap.size + 1, 0, none⟩ = some (.int .i64 y.op) ∧ w'.cell? ⟨W.heap.size + 1, 1, none⟩ = some (.int .i64 y.rd) ∧ w'.cell? ⟨W.heap.size + 1, 2, none⟩ = some (.int .i64 y.ra) ∧ w'.cell? ⟨W.heap.size + 1, 3, none⟩ = some (.int .i64 y.rb) ∧ w'.cell? ⟨W.heap.size + 1, 4, none⟩ = some (.int .i64 y.n))
      (exact HS.out _ (by repeat (first | with_reducible apply Grown.alloc | with_reducible apply Grown.drew | with_reducible apply grown_drewN | with_reducible exact Grown.refl _)))
      (first | (go_at_call_of 12 (Value.int IntKind.i64 x.op); refine (right_ins x _ (HFG.out _ (by repeat (first | with_reducible apply Grown.alloc | with_reducible apply Grown.drew | with_reducible apply grown_drewN | with_reducible exact Grown.refl _)))).mono ?_; rw [hr]; rintro e _ ⟨rfl, rfl⟩) | (go_at_call_of 12 (Value.int IntKind.i64 y.op); refine (right_ins y _ (HFG.out _ (by repeat (first | with_reducible apply Grown.alloc | with_reducible apply Grown.drew | with_reducible apply grown_drewN | with_reducible exact Grown.refl _)))).mono ?_; rw [hs]; rintro e _ ⟨rfl, rfl⟩))
    have hw : 0 ≤ x.word ∧ x.word < 4294967296 := (ins_back x hr).1
    go_wp2_with fail
    refine (decode_yes x.word x _ hw (HFG.out _ (by repeat (first | with_reducible apply Grown.alloc | with_reducible apply Grown.drew | with_reducible apply grown_drewN | with_reducible exact Grown.refl _))) (dec_word hr)).mono ?_
    rintro e w7 ⟨rfl, g7⟩
    have hg7 : Hid (Grown w6 w7) := Lib.hid (grown_trans (by repeat (first | with_reducible apply Grown.alloc | with_reducible apply Grown.drew | with_reducible apply grown_drewN | with_reducible exact Grown.refl _)) g7)
    obtain ⟨c0, c1, c2, c3, c4, d0, d1, d2, d3, d4⟩ := HS.out _ (hg7.out.alloc (instCells x.op x.rd x.ra x.rb x.n) 23)
    clear g7
    go_wp2
    go_ret
    exact ⟨rfl, (grown_trans (grown_trans hg0.out hg6.out) hg7.out).alloc _ _⟩
end Go.Proofs.YtgeajgdddjjjnaaDoor.WordP

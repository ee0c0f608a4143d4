/- The machine runs: a contract of machine.Run. Conditions: that the machine lies in memory; the table of forms lies as the program lays it. -/
import Derived.Test.YtgeajgdddjjjnaaDoorMachStep
import Derived.Test.YtgeajgdddjjjnaaDoorMachEnd
namespace Go.Proofs.YtgeajgdddjjjnaaDoor.MachP
open Go.RowKit Go.Proofs.YtgeajgdddjjjnaaDoor.Wo Go.Proofs.YtgeajgdddjjjnaaDoor.WordP
set_option linter.unusedVariables false
set_option linter.unusedSimpArgs false

/-- What Run tells, and what it made of the machine. -/
def RunIs (b : Nat) (O : Nat → Prop) (M' : Mac) (W : World) (e : Ending) (W' : World) : Prop :=
  ∃ sv, e = .returned (.agg #[.int .i64 M'.endWay, .int .i64 M'.code, sv]) ∧ W'.ownsRow W.heap.size 2 1 sv M'.out.length (M'.out.map (.int .i64)) ∧
    ∃ O' : Nat → Prop, Mach W' b O' M' ∧ (∀ k, O' k → O k ∨ W.heap.size ≤ k) ∧ Mods O W W' ∧ ∀ k, sv.ownBlock = some k → ¬ O' k
theorem went_lt {O : Nat → Prop} {b : Nat} {M : Mac} {W W' : World} (h : Went O b M W W') : W.heap.size ≤ W'.heap.size := by
  obtain ⟨_, _, _, h⟩ := h; exact h.size
theorem run_step {M : Mac} {k : Nat} (hk : 1 ≤ k) (h : M.way = 0) : M.run k = M.step.run (k - 1) := by
  obtain ⟨j, rfl⟩ : ∃ j, k = j + 1 := ⟨k - 1, by omega⟩
  simp [Mac.run, h]
theorem run_done {M : Mac} {k : Nat} (h : ¬ M.way = 0) : M.run k = M := by cases k <;> simp [Mac.run, h]
/-- Run's end, put together. -/
theorem run_told {b : Nat} {O O1 : Nat → Prop} {M' : Mac} {W W1 wr w1 W2 : World} {sv : Value} (hO : ∀ k, O k → k < W.heap.size) (hs1 : W1.heap.size = W.heap.size + 1) (hW : Mods None W W1) (hm : Mach wr b O1 M') (hO1 : ∀ k, O1 k → O k ∨ W1.heap.size ≤ k) (hmd : Mods O W1 wr)
    (hm1 : Mods None wr w1) (hown : w1.ownsRow wr.heap.size 2 1 sv M'.out.length (M'.out.map (.int .i64))) (hm2 : Mods (fun k => k = W.heap.size ∨ k = w1.heap.size) w1 W2) (wy : Int) (hwy : M'.endWay = wy) :
    RunIs b O M' W (.returned (.agg #[.int .i64 wy, .int .i64 M'.code, sv])) W2 := by
  subst hwy
  have hlt := hown.lt
  have hs2 := hmd.size
  refine ⟨sv, rfl, ?_, O1, ?_, ?_, ?_, fun k hk hO1k => by have h3 := hm.lt k hO1k; have h4 := hlt k hk; omega⟩
  · refine hm2.ownsRow (ownsRow_base hown (by omega)) (fun k hk => ?_)
    have := hlt k hk
    omega
  · refine (hm.mods hm1 (fun _ _ f => f)).mods hm2 (fun k hk f => ?_)
    have h3 := hm.lt k hk
    have h4 := hm1.size
    rcases f with f | f
    · rcases hO1 k hk with h | h
      · have := hO k h; omega
      · omega
    · omega
  · intro k hk
    rcases hO1 k hk with h | h
    · exact .inl h
    · exact .inr (by omega)
  · have h5 : Mods O W w1 := ((hW.mono (T := O) fun _ _ f => f.elim).trans hmd).trans (hm1.mono fun _ _ f => f.elim)
    exact h5.trans' hm2 (fun k hk hl => by have := h5.size; omega)
theorem zero3 (W : World) : Blk (W.alloc (.cells #[.int .i64 0, .int .i64 0, .slice none 0 0] 47)) W.heap.size [.int .i64 0, .int .i64 0, .slice none 0 0] 47 := Blk.new W _ _
set_option maxRecDepth 100000 in
set_option maxHeartbeats 1000000 in
theorem run_any (b : Nat) (O : Nat → Prop) (M : Mac) (W : World) (h : Mach W b O M) (hF : Forms W) (h0 : ¬ O 0) (n : Int) (hn : n ≤ 9223372036854775807) :
    Calls Tryd.prog 18 #[.pointer (some ⟨b, 0, none⟩), .int .i64 n] W (RunIs b O (M.run n.toNat) W) := by
  have hz : 0 < W.heap.size := zero_lt (hF 1 (by decide) (by decide)).c0
  have hOlt := h.lt
  obtain ⟨Q, hQ⟩ : ∃ Q, Q = RunIs b O (M.run n.toNat) W := ⟨_, rfl⟩
  rw [← hQ]
  have HQ := Lib.hid hQ
  clear hQ
  obtain ⟨W1, hW1⟩ : ∃ W1, W1 = W.alloc (.cells #[.int .i64 0, .int .i64 0, .slice none 0 0] 47) := ⟨_, rfl⟩
  have hm0 : Mods None W W1 := by rw [hW1]; exact (Mods.refl _ _).alloc _
  have H := Lib.hid (h.mods hm0 (fun _ _ f => f))
  have HF := Lib.hid (forms_mods hF hm0 (fun f => f))
  have HB : Hid (Blk W1 W.heap.size [.int .i64 0, .int .i64 0, .slice none 0 0] 47) := Lib.hid (by rw [hW1]; exact zero3 W)
  have HS : Hid (W1.heap.size = W.heap.size + 1) := Lib.hid (by rw [hW1]; simp)
  have HM0 := Lib.hid hm0
  have HO := Lib.hid hOlt
  clear h hF hm0 hOlt
  go_enter Tryd.func18, Tryd.ntmps18
  go_wp2_with fail
  rw [← hW1]
  clear hW1
  go_loopw [5] (fun i wr => ∃ (j : Nat) (M' : Mac), i = .int .i64 j ∧ Hid (M.run n.toNat = M'.run (n.toNat - j)) ∧ Hid (Went O b M' W1 wr)) (fun i _ => (n - intOf i).toNat)
  case atStart => exact ⟨0, M, rfl, Lib.hid rfl, Lib.hid (Went.refl H.out)⟩
  case round =>
    obtain ⟨j, M', rfl, hrun, hwent⟩ := hrel
    obtain ⟨O1, hm, hO1, hmd⟩ := hwent.out
    have hF1 := Lib.hid (forms_mods HF.out hmd h0)
    have h01 : ¬ O1 0 := fun f => by
      rcases hO1 0 f with f | f
      · exact h0 f
      · have := HS.out; omega
    have HM := Lib.hid hm
    obtain ⟨bm, inv, outv, hat, hown⟩ := hm
    have hway := hat.cway
    have HO1 := Lib.hid hO1
    have HMD := Lib.hid hmd
    clear hat hown hmd hO1
    by_cases hj : (j : Int) < n
    · by_cases hw : M'.way = 0
      · rw [hw] at hway
        go_wp2_with fail
        refine (step_any b O1 M' _ HM.out hF1.out h01).mono ?_
        rintro e w2 ⟨rfl, hw2⟩
        have HW2 := Lib.hid hw2
        clear hw2 hway
        go_wp2
        go_roundw
        case rel => exact ⟨j + 1, M'.step, by go_num, Lib.hid (by rw [hrun.out, run_step (by omega) hw, show n.toNat - (j + 1) = n.toNat - j - 1 by omega]), Lib.hid (went_next HO1.out HMD.out HW2.out)⟩
        case measure => simp [intOf]; omega
      · have hend : Hid (M.run n.toNat = M') := Lib.hid (by rw [hrun.out, run_done hw])
        have HW := Lib.hid hw
        have hw' : (M'.way == 0) = false := by simpa using hw
        clear hw
        go_wp2_with fail
        refine (end_any b O1 M' _ HM.out).mono ?_
        rintro e w1 ⟨sv, rfl, hown, hm1⟩
        obtain ⟨va, vm, vc, rfl⟩ := form_any hown
        have hb1 := (HB.out.mods HMD.out (fun f => by have := HO.out _ f; omega)).mods hm1 (fun f => f)
        have hlt1 := hb1.lt
        have r0 := hb1.cell (i := 0) rfl
        have r1 := hb1.cell (i := 1) rfl
        have r2 := hb1.cell (i := 2) rfl
        have rf := hb1.free
        have HOWN := Lib.hid hown
        have HM1 := Lib.hid hm1
        clear hb1 hown hm1 hway
        go_wp2_with fail
        refine bodyPost_ret (v := .agg #[.int .i64 M'.way, .int .i64 M'.code, .slice va vm vc]) (by simp [results, Tryd.results18, go_sem, r0, r1, r2, World.cell?_alloc_past, hlt1]) rfl ?_
        rw [HQ.out, hend.out]
        exact run_told (b := b) (O := O) (M' := M') HO.out HS.out HM0.out HM.out HO1.out HMD.out HM1.out HOWN.out (by repeat (first | with_reducible exact Mods.refl _ _ | with_reducible refine Mods.alloc ?_ _ | with_reducible refine Mods.setCell ?_ (fun _ => .inl rfl) _)) _ (by simp [Mac.endWay, HW.out])
    · have hend : Hid (M.run n.toNat = M') := Lib.hid (by rw [hrun.out, show n.toNat - j = 0 by omega]; rfl)
      by_cases hw : M'.way = 0
      · have HW := Lib.hid hw
        have hw' : (M'.way == 0) = true := by simpa using hw
        clear hw
        go_wp2_with fail
        refine (end_any b O1 M' _ HM.out).mono ?_
        rintro e w1 ⟨sv, rfl, hown, hm1⟩
        obtain ⟨va, vm, vc, rfl⟩ := form_any hown
        have hb1 := (HB.out.mods HMD.out (fun f => by have := HO.out _ f; omega)).mods hm1 (fun f => f)
        have hlt1 := hb1.lt
        have r0 := hb1.cell (i := 0) rfl
        have r1 := hb1.cell (i := 1) rfl
        have r2 := hb1.cell (i := 2) rfl
        have rf := hb1.free
        have HOWN := Lib.hid hown
        have HM1 := Lib.hid hm1
        clear hb1 hown hm1 hway
        go_wp2_with fail
        refine bodyPost_ret (v := .agg #[.int .i64 6, .int .i64 M'.code, .slice va vm vc]) (by simp [results, Tryd.results18, go_sem, r0, r1, r2, World.cell?_alloc_past, hlt1]) rfl ?_
        rw [HQ.out, hend.out]
        exact run_told (b := b) (O := O) (M' := M') HO.out HS.out HM0.out HM.out HO1.out HMD.out HM1.out HOWN.out (by repeat (first | with_reducible exact Mods.refl _ _ | with_reducible refine Mods.alloc ?_ _ | with_reducible refine Mods.setCell ?_ (fun _ => .inl rfl) _)) _ (by simp [Mac.endWay, HW.out])
      · have HW := Lib.hid hw
        have hw' : (M'.way == 0) = false := by simpa using hw
        clear hw
        go_wp2_with fail
        refine (end_any b O1 M' _ HM.out).mono ?_
        rintro e w1 ⟨sv, rfl, hown, hm1⟩
        obtain ⟨va, vm, vc, rfl⟩ := form_any hown
        have hb1 := (HB.out.mods HMD.out (fun f => by have := HO.out _ f; omega)).mods hm1 (fun f => f)
        have hlt1 := hb1.lt
        have r0 := hb1.cell (i := 0) rfl
        have r1 := hb1.cell (i := 1) rfl
        have r2 := hb1.cell (i := 2) rfl
        have rf := hb1.free
        have HOWN := Lib.hid hown
        have HM1 := Lib.hid hm1
        clear hb1 hown hm1 hway
        go_wp2_with fail
        refine bodyPost_ret (v := .agg #[.int .i64 M'.way, .int .i64 M'.code, .slice va vm vc]) (by simp [results, Tryd.results18, go_sem, r0, r1, r2, World.cell?_alloc_past, hlt1]) rfl ?_
        rw [HQ.out, hend.out]
        exact run_told (b := b) (O := O) (M' := M') HO.out HS.out HM0.out HM.out HO1.out HMD.out HM1.out HOWN.out (by repeat (first | with_reducible exact Mods.refl _ _ | with_reducible refine Mods.alloc ?_ _ | with_reducible refine Mods.setCell ?_ (fun _ => .inl rfl) _)) _ (by simp [Mac.endWay, HW.out])
end Go.Proofs.YtgeajgdddjjjnaaDoor.MachP

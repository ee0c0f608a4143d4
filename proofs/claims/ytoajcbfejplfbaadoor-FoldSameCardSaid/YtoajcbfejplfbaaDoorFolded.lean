/- The fact of Fold's laws: a sum that is known. Conditions: the two tables lie. -/
import Derived.Test.YtoajcbfejplfbaaDoorFoldFold
import Derived.Test.YtoajcbfejplfbaaDoorMidRn
import Derived.Test.YtoajcbfejplfbaaDoorMidSteps
namespace Go.Proofs.YtoajcbfejplfbaaDoor.MidP
open Go.RowKit Go.Proofs.YtoajcbfejplfbaaDoor.Wo Go.Maps Go.Proofs.YtoajcbfejplfbaaDoor.TreeP
set_option linter.unusedVariables false
set_option linter.unusedSimpArgs false
/-- The sum. -/
def sumL : List Stp := [⟨1, 0, 0, 0, 0, 3, [], 0, [], []⟩, ⟨1, 1, 0, 0, 0, 4, [], 0, [], []⟩, ⟨3, 2, 0, 1, 0, 0, [43], 0, [], []⟩]
def sumR : Stp := ⟨8, 0, 2, 0, 0, 0, [], 0, [], []⟩
def sumF : Fm := ⟨[109, 97, 105, 110], 0, List.replicate 3 1, sumL ++ [sumR]⟩
theorem sum_lin : Lin sumL [3, 4, 7] := by
  refine ⟨rfl, fun v hv => ?_, fun i s hs => ?_⟩
  · simp only [List.mem_cons, List.not_mem_nil, or_false] at hv
    unfold N64
    omega
  · have hn : N64 0 ∧ N64 3 ∧ N64 4 := by unfold N64; omega
    match i, hs with
    | 0, hs =>
      cases hs
      exact ⟨rfl, hn.2.1, rfl, Or.inl ⟨rfl, rfl⟩⟩
    | 1, hs =>
      cases hs
      exact ⟨rfl, hn.2.2, rfl, Or.inl ⟨rfl, rfl⟩⟩
    | 2, hs =>
      cases hs
      exact ⟨rfl, hn.1, rfl, Or.inr (Or.inr ⟨0, 1, 3, 4, 7, rfl, by decide, rfl, rfl, by omega, by omega, rfl, rfl, rfl, by unfold bothP; rw [if_pos rfl]; exact congrArg (fun a => (a, (0 : Int))) (by unfold wrap64; omega)⟩)⟩
    | i + 3, hs => simp [sumL] at hs
theorem sum_good : Good [sumF] := lin_good (n := 2) sum_lin rfl (by unfold N64; decide) rfl rfl (by omega)
theorem sum_told : Told (foldF sumF) 2 7 := lin_fold (r := sumR) (n := 2) sum_lin rfl rfl rfl rfl rfl
theorem stp_ok0 {s : Stp} (h : I64 s.code ∧ I64 s.dst ∧ I64 s.a ∧ I64 s.b ∧ I64 s.c ∧ I64 s.n ∧ I64 s.label) (h1 : s.op.length ≤ 20) (h2 : s.name.length ≤ 20) (h3 : s.args = []) : StpOk s :=
  ⟨h, by unfold maxLen; omega, fun x hx => by rw [h3] at hx; cases hx⟩
theorem sum_ok : FmOk sumF := by
  have h : ∀ a : Int, 0 ≤ a → a ≤ 100 → I64 a := fun a h1 h2 => by unfold I64; omega
  refine ⟨by unfold maxLen; decide, h 0 (by omega) (by omega), fun x hx => ?_, fun s hs => ?_⟩
  · rw [List.eq_of_mem_replicate hx]; exact h 1 (by omega) (by omega)
  · have : s = ⟨1, 0, 0, 0, 0, 3, [], 0, [], []⟩ ∨ s = ⟨1, 1, 0, 0, 0, 4, [], 0, [], []⟩ ∨ s = ⟨3, 2, 0, 1, 0, 0, [43], 0, [], []⟩ ∨ s = sumR := by
      simpa [sumF, sumL] using hs
    rcases this with rfl | rfl | rfl | rfl
    all_goals exact stp_ok0 ⟨h _ (by decide) (by decide), h _ (by decide) (by decide), h _ (by decide) (by decide), h _ (by decide) (by decide), h _ (by decide) (by decide), h _ (by decide) (by decide), h _ (by decide) (by decide)⟩ (by decide) (by decide) rfl
theorem sum_args : ∀ s ∈ sumF.steps, s.args.length ≤ 1000000 := by
  intro s hs
  have : s = ⟨1, 0, 0, 0, 0, 3, [], 0, [], []⟩ ∨ s = ⟨1, 1, 0, 0, 0, 4, [], 0, [], []⟩ ∨ s = ⟨3, 2, 0, 1, 0, 0, [43], 0, [], []⟩ ∨ s = sumR := by
    simpa [sumF, sumL] using hs
  rcases this with rfl | rfl | rfl | rfl <;> exact Nat.zero_le _
theorem sum_fit : Fit sumF := ⟨sum_ok, ⟨_, sum_good, by simp⟩, sum_args⟩
theorem fit_fold {F : Fm} (h : Fit F) : Fit (foldF F) := by
  rw [← iter_four]
  exact h.iter 4
theorem told_steps {F : Fm} {p v : Int} (h : Told F p v) : F.steps.length = 2 := by
  obtain ⟨c, r, h, -⟩ := h
  rw [h]; rfl
/-- What a told number's program comes to. -/
theorem told_ends {F : Fm} {p v : Int} (hg : Good [F]) (hn : F.name = [109, 97, 105, 110]) (hp : 0 ≤ p ∧ p.toNat < F.types.length) (h : Told F p v) (fuel : Nat) : runC [F] 4 [] (fuel + 2) = some (1, v, []) := by
  unfold runC
  rw [if_pos hg.right, told_run hn hp h]
theorem stps_four {W : World} {g c : Nat} {l : List Stp} {cur : List Value} (hb : Blk W g cur 44) (hc : cur = l.flatMap (fun s => stpL s (.slice none 0 0))) (ha : ∀ s ∈ l, s.args = []) (hlc : l.length ≤ c) (hcm : c ≤ maxLen) : StpsAt W None (.slice (some ⟨g, 0, none⟩) l.length c) l := by
  have key : ∀ (l : List Stp) (i : Nat) (s : Stp), l[i]? = some s → ∀ k u, (stpL s (.slice none 0 0))[k]? = some u → (l.flatMap (fun s => stpL s (.slice none 0 0)))[i * 10 + k]? = some u := by
    intro l
    induction l with
    | nil => intro i s hs; simp at hs
    | cons x r ih =>
      intro i s hs k u hu
      have hk10 : k < 10 := by
        have := (List.getElem?_eq_some_iff.1 hu).1
        rwa [stpL_len] at this
      rw [List.flatMap_cons]
      cases i with
      | zero =>
        obtain rfl : x = s := by simpa using hs
        rw [Nat.zero_mul, Nat.zero_add, List.getElem?_append_left (by rw [stpL_len]; exact hk10)]
        exact hu
      | succ i =>
        rw [List.getElem?_append_right (by rw [stpL_len]; omega), stpL_len, show (i + 1) * 10 + k - 10 = i * 10 + k by omega]
        exact ih i s (by simpa using hs) k u hu
  have hrow : RowM W None g l := by
    refine ⟨cur, hb, ?_, fun i s hs => ⟨none, 0, fun k u hk => ?_, ?_⟩⟩
    · rw [hc]
      have : ∀ l : List Stp, (l.flatMap (fun s => stpL s (.slice none 0 0))).length = l.length * 10 := by
        intro l
        induction l with
        | nil => rfl
        | cons x r ih => rw [List.flatMap_cons, List.length_append, ih, stpL_len, List.length_cons]; omega
      rw [this]
      exact Nat.le_refl _
    · have h0 := ha s (List.mem_of_getElem? hs)
      rw [h0] at hk
      rw [hc]
      exact key l i s hs k u hk
    · have h0 := ha s (List.mem_of_getElem? hs)
      rw [h0]
      exact ⟨none, 0, rfl, Nat.le_refl _, Nat.zero_le _, fun _ => rfl, fun i x hx => by simp at hx⟩
  exact hrow.at_ (m := l) (l := l) List.take_length (Nat.le_refl _) hlc hcm (fun f => f) (fun k f => f)
theorem ints_row {W : World} {g c : Nat} {l : List Int} {cur : List Value} (hb : Blk W g cur 3) (hc : ∀ (i : Nat) (x : Int), l[i]? = some x → cur[i]? = some (.int .i64 x)) (hlc : l.length ≤ c) (hcm : c ≤ maxLen) : IntsAt W None (.slice (some ⟨g, 0, none⟩) l.length c) l :=
  ⟨some ⟨g, 0, none⟩, c, rfl, hlc, hcm, (fun h => by cases h), fun i x hx => ⟨g, 0, rfl, (fun f => f), by rw [Nat.zero_add]; exact hb.cell (hc i x hx)⟩⟩
theorem fms_one {W : World} {g : Nat} {F : Fm} {tv sv : Value} (hb : Blk W g [str F.name, .int .i64 F.params, tv, sv] 35) (ht : IntsAt W None tv F.types) (hs : StpsAt W None sv F.steps) : FmsAt W None (.slice (some ⟨g, 0, none⟩) 1 1) [F] := by
  refine ⟨some ⟨g, 0, none⟩, 1, rfl, Nat.le_refl _, by unfold maxLen; omega, (fun h => by cases h), fun i f hf => ?_⟩
  obtain ⟨rfl, rfl⟩ : i = 0 ∧ f = F := by
    cases i with
    | zero => exact ⟨rfl, by simpa using hf.symm⟩
    | succ i => simp at hf
  exact ⟨g, 0, tv, sv, rfl, (fun f => f), hb.cell (i := 0) rfl, hb.cell (i := 1) rfl, hb.cell (i := 2) rfl, hb.cell (i := 3) rfl, ht, hs⟩
theorem fld_code (a b : Int) (v : Value) (w : World) : Sem.run Tryd.prog (Instr.field 39 (.agg #[.int .i64 a, .int .i64 b, v]) 1) w = Result.ok (.int .i64 b) w := by kernel_rfl
set_option maxRecDepth 100000 in
set_option maxHeartbeats 4000000 in
theorem folded_yes (W : World) (hFo : FormsAt W) (hOp : OpsAt W) :
    Calls Tryd.prog 15 #[] W fun e w => e = .returned (.bool true) ∧ Mods None W w := by
  have HFO := Lib.hid hFo
  have HOP := Lib.hid hOp
  clear hFo hOp
  go_enter Tryd.func15, Tryd.ntmps15
  go_upto_region 2 with (fail)
  obtain ⟨w1, hw1⟩ : ∃ w1, w1 = W.alloc (.cells #[.int .i64 1, .int .i64 1, .int .i64 1] 3) := ⟨_, rfl⟩
  rw [← hw1]
  obtain ⟨sc, hsc⟩ : ∃ sc : List Value, sc = [.int .i64 1, .int .i64 0, .int .i64 0, .int .i64 0, .int .i64 0, .int .i64 3, .string ⟨#[]⟩, .int .i64 0, .string ⟨#[]⟩, .slice none 0 0, .int .i64 1, .int .i64 1, .int .i64 0, .int .i64 0, .int .i64 0, .int .i64 4, .string ⟨#[]⟩, .int .i64 0, .string ⟨#[]⟩, .slice none 0 0, .int .i64 3, .int .i64 2, .int .i64 0, .int .i64 1, .int .i64 0, .int .i64 0, .string ⟨#[43]⟩, .int .i64 0, .string ⟨#[]⟩, .slice none 0 0, .int .i64 8, .int .i64 0, .int .i64 2, .int .i64 0, .int .i64 0, .int .i64 0, .string ⟨#[]⟩, .int .i64 0, .string ⟨#[]⟩, .slice none 0 0] := ⟨_, rfl⟩
  obtain ⟨w2, hw2⟩ : ∃ w2, w2 = w1.alloc (.cells sc.toArray 44) := ⟨_, rfl⟩
  obtain ⟨w3, hw3⟩ : ∃ w3, w3 = w2.alloc (.cells #[.string ⟨#[109, 97, 105, 110]⟩, .int .i64 0, .slice (some ⟨W.heap.size, 0, none⟩) 3 3, .slice (some ⟨W.heap.size + 1, 0, none⟩) 4 4] 35) := ⟨_, rfl⟩
  obtain ⟨w4, hw4⟩ : ∃ w4, w4 = w3.alloc (.cells #[.slice (some ⟨W.heap.size + 1 + 1, 0, none⟩) 1 1] 53) := ⟨_, rfl⟩
  have hs1 : w1.heap.size = W.heap.size + 1 := by rw [hw1]; simp
  have hs2 : w2.heap.size = W.heap.size + 1 + 1 := by rw [hw2]; simp [hs1]
  have hs3 : w3.heap.size = W.heap.size + 1 + 1 + 1 := by rw [hw3]; simp [hs2]
  have hm1 : Mods None W w1 := by rw [hw1]; exact (Mods.refl _ _).alloc _
  have hm2 : Mods None w1 w2 := by rw [hw2]; exact (Mods.refl _ _).alloc _
  have hm3 : Mods None w2 w3 := by rw [hw3]; exact (Mods.refl _ _).alloc _
  have hm4 : Mods None w3 w4 := by rw [hw4]; exact (Mods.refl _ _).alloc _
  have hb1 : Blk w4 W.heap.size [.int .i64 1, .int .i64 1, .int .i64 1] 3 := by
    have : Blk w1 W.heap.size [.int .i64 1, .int .i64 1, .int .i64 1] 3 := by rw [hw1]; exact Blk.new W _ _
    exact this.mods ((hm2.trans hm3).trans hm4) (fun f => f)
  have hb2 : Blk w4 (W.heap.size + 1) sc 44 := by
    have : Blk w2 w1.heap.size sc 44 := by rw [hw2]; exact Blk.new w1 _ _
    rw [← hs1]
    exact this.mods (hm3.trans hm4) (fun f => f)
  have hb3 : Blk w4 (W.heap.size + 1 + 1) [.string ⟨#[109, 97, 105, 110]⟩, .int .i64 0, .slice (some ⟨W.heap.size, 0, none⟩) 3 3, .slice (some ⟨W.heap.size + 1, 0, none⟩) 4 4] 35 := by
    have : Blk w3 w2.heap.size [.string ⟨#[109, 97, 105, 110]⟩, .int .i64 0, .slice (some ⟨W.heap.size, 0, none⟩) 3 3, .slice (some ⟨W.heap.size + 1, 0, none⟩) 4 4] 35 := by rw [hw3]; exact Blk.new w2 _ _
    rw [← hs2]
    exact this.mods hm4 (fun f => f)
  have hb4 : Blk w4 (W.heap.size + 1 + 1 + 1) [.slice (some ⟨W.heap.size + 1 + 1, 0, none⟩) 1 1] 53 := by
    rw [← hs3, hw4]; exact Blk.new w3 _ _
  have hM4 : Mods None W w4 := ((hm1.trans hm2).trans hm3).trans hm4
  have hF : FmsAt w4 None (.slice (some ⟨W.heap.size + 1 + 1, 0, none⟩) 1 1) [sumF] := by
    refine fms_one (F := sumF) hb3 ?_ ?_
    · refine ints_row (l := sumF.types) (c := 3) hb1 (fun i x hx => ?_) (Nat.le_refl _) (by unfold maxLen; omega)
      match i, hx with
      | 0, hx => cases hx; rfl
      | 1, hx => cases hx; rfl
      | 2, hx => cases hx; rfl
      | i + 3, hx => simp [sumF] at hx
    · refine stps_four (l := sumF.steps) (c := 4) hb2 (by rw [hsc]; rfl) (fun s hs => ?_) (Nat.le_refl _) (by unfold maxLen; omega)
      have : s = ⟨1, 0, 0, 0, 0, 3, [], 0, [], []⟩ ∨ s = ⟨1, 1, 0, 0, 0, 4, [], 0, [], []⟩ ∨ s = ⟨3, 2, 0, 1, 0, 0, [43], 0, [], []⟩ ∨ s = sumR := by
        simpa [sumF, sumL] using hs
      rcases this with rfl | rfl | rfl | rfl <;> rfl
  have HFD := Lib.hid (fold_any [sumF] (W.heap.size + 1 + 1 + 1) _ w4 (hb4.cell (i := 0) rfl) hF (fun f hf => by rw [List.mem_singleton] at hf; rw [hf]; exact sum_ok) (fun f hf => by rw [List.mem_singleton] at hf; rw [hf]; exact sum_args) (HFO.out.mods hM4) (HOP.out.mods hM4) true sum_good.right.symm)
  have HM4 := Lib.hid hM4
  have e4 : (w3.alloc (.cells #[.slice (some ⟨W.heap.size + 1 + 1, 0, none⟩) 1 1] 53)) = w4 := hw4.symm
  rw [hsc] at hw2
  have e2 := hw2.symm
  rw [e2, ← hw3, ← hw4]
  clear hw1 hw2 hw3 hw4 e2 e4 hs1 hs2 hs3 hm1 hm2 hm3 hm4 hb1 hb2 hb3 hb4 hM4 hF hsc
  go_wp2_with fail
  go_at_call 18
  refine HFD.out.mono ?_
  rintro e w5 ⟨-, hfd⟩
  obtain ⟨db, dv, rfl, hd, hdf, hm5, -⟩ := hfd trivial
  have hDG : Good [foldF sumF] := fold_keeps.good _ sum_good
  have hfo5 := (HFO.out.mods HM4.out).mods hm5
  have hop5 := (HOP.out.mods HM4.out).mods hm5
  have hdf : FmsAt w5 None dv [foldF sumF] := hdf
  have hoks : ∀ f ∈ [foldF sumF], FmOk f := fun f hf => by rw [List.mem_singleton] at hf; rw [hf]; exact (fit_fold sum_fit).ok
  have hrc := fun w (hm : Mods None w5 w) => rightc_any [foldF sumF] db dv w (hm.cellOf hd (fun f => f)) (hdf.mods hm (fun _ _ k => k)) (hfo5.mods hm) (hop5.mods hm) (fun f hf s hs => ((hoks f hf).steps s hs).nums.2.2.2.2.2.2)
  rw [hDG.right] at hrc
  have hsn : stepsN [foldF sumF] = 2 := by rw [stepsN, told_steps sum_told]; rfl
  have hst := fun w (hm : Mods None w5 w) => steps_any [foldF sumF] db dv w (hm.cellOf hd (fun f => f)) (hdf.mods hm (fun _ _ k => k)) (by rw [hsn]; omega)
  rw [hsn] at hst
  have hrun := fun w (hm : Mods None w5 w) => mrun_any hoks 4 [] 10 (1, 7, []) (told_ends hDG (by rw [fold_keeps.pass.name]; rfl) (by rw [fold_keeps.pass.types]; decide) sum_told 8) db dv (.slice none 0 0) w (hm.cellOf hd (fun f => f)) (hdf.mods hm (fun _ _ k => k)) (hfo5.mods hm) (hop5.mods hm) ⟨none, 0, 0, rfl, rfl, Nat.le_refl _, Nat.zero_le _, fun i x hx => by simp at hx⟩ (fun n c h => by cases h; rfl) (Nat.zero_le _) (by omega) (by omega)
  have HRC := Lib.hid hrc
  have HST := Lib.hid hst
  have HRN := Lib.hid hrun
  have HM5 := Lib.hid hm5
  clear hfd hd hdf hm5 hDG hfo5 hop5 hoks hrc hsn hst hrun HFD
  go_wp2_with fail
  go_at_call 9
  refine (HRC.out _ (Mods.refl _ _)).mono ?_
  rintro e w6 ⟨rfl, hm6⟩
  go_wp2_with fail
  go_at_call 11
  refine (HST.out _ hm6).mono ?_
  rintro e w7 ⟨rfl, hm7⟩
  have hm7 := hm6.trans hm7
  go_wp2_with fail
  go_at_call 13
  refine (HRN.out _ hm7).mono ?_
  rintro e w8 ⟨u, rfl, ⟨oa, oc, rfl, -⟩, hm8⟩
  have HM8 := Lib.hid ((HM4.out.trans HM5.out).trans (hm7.trans hm8))
  clear hm6 hm7 hm8
  have hfl := fld_code 1 7 (.slice oa 0 oc)
  go_wp2_with fail
  go_ret
  exact ⟨rfl, HM8.out⟩
end Go.Proofs.YtoajcbfejplfbaaDoor.MidP

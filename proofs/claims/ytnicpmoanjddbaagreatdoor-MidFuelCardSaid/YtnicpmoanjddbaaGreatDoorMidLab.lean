/- Where each label of a function stands. Conditions: the function lies. -/
import Derived.Test.YtnicpmoanjddbaaGreatDoorMidSteps
namespace Go.Proofs.YtnicpmoanjddbaaGreatDoor.MidP
open Go.RowKit Go.Proofs.YtnicpmoanjddbaaGreatDoor.Wo Go.Maps Go.Proofs.YtnicpmoanjddbaaGreatDoor.TreeP
set_option linter.unusedVariables false
set_option linter.unusedSimpArgs false
theorem labelAt_last : (A : List Stp) → (x : Stp) → (l : Int) → (i k : Nat) → labelAt (A ++ [x]) l i k = if x.code = 6 ∧ x.label = l then i + A.length else labelAt A l i k
  | [], x, l, i, k => by simp [labelAt]
  | a :: r, x, l, i, k => by
    simp only [List.cons_append, labelAt, labelAt_last r x l, List.length_cons]
    split
    · omega
    · rfl
theorem labelAt_take {L : List Stp} {i : Nat} {x : Stp} (h : L[i]? = some x) (l : Int) : labelAt (L.take (i + 1)) l 0 0 = if x.code = 6 ∧ x.label = l then i else labelAt (L.take i) l 0 0 := by
  obtain ⟨h1, h2⟩ := List.getElem?_eq_some_iff.1 h
  rw [List.take_succ_eq_append_getElem h1, h2, labelAt_last, List.length_take, Nat.min_eq_left (by omega), Nat.zero_add]
theorem mk_labels (w : World) : (Instr.makeMap 120 none).run Tryz.prog w = .ok (.map (some w.heap.size)) (w.alloc (.map #[] 0)) := by
  simp [Instr.makeMap, run_underlying Tryz.underlying120]
set_option maxRecDepth 100000 in
set_option maxHeartbeats 2000000 in
theorem labels_any (f : Fm) (fv : Value) (W : World) (hv : FmV W None f fv) (hlab : ∀ s ∈ f.steps, I64 s.label) (hlen : f.steps.length ≤ 6000) :
    Calls Tryz.prog 51 #[fv] W fun e w => ∃ bm n, e = .returned (.map (some bm)) ∧ IntMap w bm n (.int .i64 0) (fun l => .int .i64 (labelAt f.steps l 0 0)) ∧ W.heap.size ≤ bm ∧ n ≤ 6000 ∧ Mods None W w := by
  obtain ⟨ta, tc, sa, sc, rfl, hT, hS⟩ := hv
  have HALL := Lib.hid (fun (w : World) (hm : Mods (fun k => ¬ k < W.heap.size) W w) => (hS.mods (Mods.refl None W) (fun k h1 h2 => (h2 h1).elim)).mods hm (fun k h1 h2 => h2.elim) (T := None))
  obtain ⟨W2, hW2⟩ : ∃ W2, W2 = W.alloc (.cells #[str f.name, .int .i64 f.params, .slice ta f.types.length tc, .slice sa f.steps.length sc] 55) := ⟨_, rfl⟩
  have hm2 : Mods None W W2 := by rw [hW2]; exact (Mods.refl _ _).alloc _
  have hB2 : Blk W2 W.heap.size [str f.name, .int .i64 f.params, .slice ta f.types.length tc, .slice sa f.steps.length sc] 55 := by rw [hW2]; exact Blk.new W _ _
  have hs2 : W2.heap.size = W.heap.size + 1 := by rw [hW2]; simp
  have hsl : f.steps.length ≤ sc ∧ sc ≤ 9223372036854775807 := by
    obtain ⟨a', c', e1, e2, e3, -⟩ := hS.form
    obtain ⟨-, -, rfl⟩ := Value.slice.inj e1
    exact ⟨e2, e3⟩
  have hmk := mk_labels
  have HLAB := Lib.hid hlab
  obtain ⟨sn, hsn⟩ : ∃ sn, sn = f.steps.length := ⟨_, rfl⟩
  have HN := Lib.hid hsn
  have HLE := Lib.hid hlen
  rw [← hsn] at hW2 hB2 hsl
  obtain ⟨tn, htn⟩ : ∃ tn, tn = f.types.length := ⟨_, rfl⟩
  rw [← htn] at hW2 hB2
  rw [← htn, ← hsn]
  have f3 := hB2.cell (i := 3) rfl
  have HB2 := Lib.hid (And.intro hB2 (And.intro hm2 hs2))
  clear hT hS hlab hlen hsn htn hB2 hm2 hs2
  unfold str at *
  go_enter Tryz.func51, Tryz.ntmps51
  go_upto_region 1 with (fail)
  rw [← hW2]
  clear hW2
  go_upto_region 2 with (fail)
  obtain ⟨W4, hW4⟩ : ∃ W4, W4 = W2.alloc (.map #[] 0) := ⟨_, rfl⟩
  have HM4 : Hid (Mods None W W4) := Lib.hid (HB2.out.2.1.trans (by rw [hW4]; exact (Mods.refl _ _).alloc _))
  have HMP : Hid (IntMap W4 W2.heap.size 0 (.int .i64 0) (fun l => .int .i64 (labelAt (f.steps.take 0) l 0 0))) := Lib.hid (by rw [hW4]; exact IntMap.new W2 _)
  have f3 : W4.cell? ⟨W.heap.size, 3, none⟩ = some (.slice sa sn sc) := by rw [hW4]; exact ((Mods.refl None W2).alloc _).cellOf f3 (fun f => f)
  rw [← hW4]
  obtain ⟨bm, hbm⟩ : ∃ bm, bm = W2.heap.size := ⟨_, rfl⟩
  rw [← hbm] at HMP ⊢
  have HBM : Hid (W.heap.size + 1 = bm) := Lib.hid (by rw [hbm, HB2.out.2.2])
  clear hW4 hbm hmk
  go_wp2_with fail
  clear f3
  go_loopw [4, 5, 10] (fun _ _ iv wr => ∃ (i n : Nat), i ≤ sn ∧ iv = .int .i64 i ∧ n ≤ i ∧ Hid (IntMap wr bm n (.int .i64 0) (fun l => .int .i64 (labelAt (f.steps.take i) l 0 0))) ∧ Hid (Mods (· = bm) W4 wr)) (fun _ _ iv _ => (sn - intOf iv).toNat)
  case atStart => exact ⟨0, 0, Nat.zero_le _, rfl, Nat.le_refl _, HMP, Lib.hid (Mods.refl _ _)⟩
  case round =>
    clear HMP
    obtain ⟨i, n, hi, rfl, hn, HMP, HMW⟩ := hrel
    by_cases hlt : i < sn
    · have hil : i < f.steps.length := by have := HN.out; omega
      have hmr : Mods (fun k => ¬ k < W.heap.size) W wr := (HM4.out.mono fun _ _ f => f.elim).trans (HMW.out.mono fun k _ e => by have := HBM.out; omega)
      obtain ⟨g, o, aa, ac, rfl, hcs, -⟩ := (HALL.out wr hmr).get hil
      obtain ⟨y, hyi⟩ : ∃ y, f.steps[i]? = some y := ⟨_, List.getElem?_eq_getElem hil⟩
      have hye : f.steps[i] = y := by
        obtain ⟨h1, h2⟩ := List.getElem?_eq_some_iff.1 hyi
        exact h2
      rw [hye] at hcs
      obtain ⟨c0, c1, c2, c3, c4, c5, c6, c7, c8, c9⟩ := hcs
      have hlb := HLAB.out y (List.mem_of_getElem? hyi)
      have hpi : (i : Int) < (sn : Int) := by omega
      have hi7 : i < 6000 := by have := HN.out; have := HLE.out; omega
      obtain ⟨an, han⟩ : ∃ an, an = y.args.length := ⟨_, rfl⟩
      rw [← han] at c9
      have HTK := Lib.hid (fun l => labelAt_take hyi l)
      obtain ⟨W5, hW5⟩ : ∃ W5, W5 = wr.alloc (.cells (#[.int .i64 y.code, .int .i64 y.dst, .int .i64 y.a, .int .i64 y.b, .int .i64 y.c, .int .i64 y.n, str y.op, .int .i64 y.label, str y.name, .slice aa an ac]) 57) := ⟨_, rfl⟩
      have hm5 : Mods None wr W5 := by rw [hW5]; exact (Mods.refl _ _).alloc _
      have hB5 : Blk W5 wr.heap.size [.int .i64 y.code, .int .i64 y.dst, .int .i64 y.a, .int .i64 y.b, .int .i64 y.c, .int .i64 y.n, str y.op, .int .i64 y.label, str y.name, .slice aa an ac] 57 := by rw [hW5]; exact Blk.new wr _ _
      have d0 := hB5.cell (i := 0) rfl
      have d7 := hB5.cell (i := 7) rfl
      have HW5 : Hid (Mods (· = bm) W4 W5) := Lib.hid (HMW.out.trans (hm5.mono fun _ _ f => f.elim))
      obtain ⟨w6, hu, hmp6, hm6⟩ := (HMP.out.mods hm5 (fun f => f)).put (t := 120) Tryz.underlying120 hlb (.int .i64 i) (by unfold maxLen; omega)
      have HM6 : Hid (Mods (· = bm) W4 w6) := Lib.hid (HW5.out.trans hm6)
      unfold str at *
      clear hyi hye han hil hmr
      by_cases h6 : y.code = 6
      · rw [h6] at d0 c0 hW5
        have HMP2 : Hid (IntMap w6 bm (n + 1) (.int .i64 0) (fun l => .int .i64 (labelAt (f.steps.take (i + 1)) l 0 0))) := Lib.hid (by
          have e : (fun x => if x = y.label then Value.int .i64 (i : Int) else Value.int .i64 (labelAt (f.steps.take i) x 0 0)) = (fun l => .int .i64 (labelAt (f.steps.take (i + 1)) l 0 0)) := by
            funext l
            rw [HTK.out l]
            by_cases h : l = y.label
            · rw [if_pos h, if_pos ⟨h6, h.symm⟩]
            · rw [if_neg h, if_neg (fun k => h k.2.symm)]
          rw [e] at hmp6
          exact hmp6)
        have H6 := Lib.hid h6
        clear hmp6 hm6 hB5 hm5 hlb HMP h6
        go_upto_region 5 with (fail)
        rw [← hW5]
        clear hW5
        go_wp2_with fail
        exact ⟨⟨i + 1, n + 1, by omega, by go_num, by omega, HMP2, HM6⟩, by simp [intOf]; omega⟩
      · have h6b : (y.code == 6) = false := by simpa using h6
        have HMP2 : Hid (IntMap W5 bm n (.int .i64 0) (fun l => .int .i64 (labelAt (f.steps.take (i + 1)) l 0 0))) := Lib.hid (by
          have e : (fun l => Value.int .i64 ((labelAt (f.steps.take (i + 1)) l 0 0 : Nat) : Int)) = (fun l => .int .i64 (labelAt (f.steps.take i) l 0 0)) := by
            funext l
            rw [HTK.out l, if_neg (fun k => h6 k.1)]
          rw [e]
          exact HMP.out.mods hm5 (fun f => f))
        clear hu hmp6 hm6 hB5 hm5 hlb HMP HM6
        go_upto_region 5 with (fail)
        rw [← hW5]
        clear hW5
        go_wp2_with fail
        exact ⟨⟨i + 1, n, by omega, by go_num, by omega, HMP2, HW5⟩, by simp [intOf]; omega⟩
    · obtain rfl : i = sn := by omega
      have hpi : ¬ (i : Int) < (i : Int) := by omega
      have HF : Hid (IntMap wr bm n (.int .i64 0) (fun l => .int .i64 (labelAt f.steps l 0 0))) := Lib.hid (by
        have := HMP.out
        rwa [List.take_of_length_le (by have := HN.out; omega)] at this)
      have HNN := Lib.hid (show n ≤ 6000 by have := HN.out; have := HLE.out; omega)
      go_wp2_with fail
      go_ret
      exact ⟨bm, rfl, n, HF.out, by have := HBM.out; omega, HNN.out, HM4.out.trans' HMW.out (fun k e hlt => by have := HBM.out; omega)⟩
end Go.Proofs.YtnicpmoanjddbaaGreatDoor.MidP

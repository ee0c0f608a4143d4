/- Behind: which places are needed behind each step. Conditions: what is asked lies. -/
import Derived.Test.YtoajcbfejplfbaaDoorLiveSt
namespace Go.Proofs.YtoajcbfejplfbaaDoor.MidP
open Go.RowKit Go.Proofs.YtoajcbfejplfbaaDoor.Wo Go.Maps Go.Proofs.YtoajcbfejplfbaaDoor.TreeP
set_option linter.unusedVariables false
set_option linter.unusedSimpArgs false
theorem bool_info : (Tryd.prog.info? 4).map (fun i => (i.zero, i.size, i.bytes)) = some (some (.bool false), 1, 1) := by kernel_rfl
theorem bools_info : (Tryd.prog.info? 113).map (fun i => (i.zero, i.size, i.bytes)) = some (some (.slice none 0 0), 1, 24) := by kernel_rfl
theorem made_rep (z : Value) (hz : z.cells = #[z]) (n : Nat) : madeCells z.cells (n * 1) = (List.replicate n z).toArray := by
  rw [hz]
  apply Array.ext
  · simp [madeCells]
  · intro i h1 h2
    simp [madeCells, Nat.mod_one]
theorem mk_bools (n : Nat) (hn : n ≤ 1000000) (w : World) : (Instr.makeSlice 113 (.int .i64 (n : Int)) (.int .i64 (n : Int))).run Tryd.prog w = .ok (.slice (some ⟨w.heap.size, 0, none⟩) n n) (w.alloc (.cells (List.replicate n (Value.bool false)).toArray 4)) := by
  obtain ⟨i0, hi, hz0, hz1, hz2⟩ := info_parts bool_info
  have h := run_make_row1 (P := Tryd.prog) 113 4 i0 (.bool false) Tryd.underlying113 hi hz0 .i64 .i64 n (by rw [hz2]; omega) (by omega) w
  rw [h, hz1, made_rep _ rfl]
theorem mk_rows (n : Nat) (hn : n ≤ 1000000) (w : World) : (Instr.makeSlice 110 (.int .i64 (n : Int)) (.int .i64 (n : Int))).run Tryd.prog w = .ok (.slice (some ⟨w.heap.size, 0, none⟩) n n) (w.alloc (.cells (List.replicate n (Value.slice none 0 0)).toArray 113)) := by
  obtain ⟨i0, hi, hz0, hz1, hz2⟩ := info_parts bools_info
  have h := run_make_row1 (P := Tryd.prog) 110 113 i0 (.slice none 0 0) Tryd.underlying110 hi hz0 .i64 .i64 n (by rw [hz2]; omega) (by omega) w
  rw [h, hz1, made_rep _ rfl]
theorem bits_none (n : Nat) : List.replicate n (Value.bool false) = bitsL n (fun _ => false) := by
  unfold bitsL
  apply List.ext_getElem?
  intro i
  simp only [List.getElem?_replicate, List.getElem?_map]
  by_cases h : i < n
  · rw [List.getElem?_range h, if_pos h]; rfl
  · rw [if_neg h, List.getElem?_eq_none (by simpa using h)]; rfl
/-- How Behind ends. -/
def BeP (F : Fm) (W : World) (e : Ending) (w : World) : Prop := ∃ (g : Nat) (R : List Nat) (B : Nat → Nat → Bool), e = .returned (.slice (some ⟨g, 0, none⟩) F.steps.length F.steps.length) ∧ R.length = F.steps.length ∧ RowsAt w g R F.types.length B ∧ (∀ i p : Nat, i < F.steps.length → p < F.types.length → B i p = neededB F i (p : Int)) ∧ Mods None W w
/-- Where the loop that makes rows stands. -/
structure AlSt (w3 : World) (gB gA tn sn i : Nat) (RB RA : List Nat) (wr : World) : Prop where
  lb : RB.length = i
  la : RA.length = i
  b : Blk wr gB (RB.map (rowSl tn) ++ List.replicate (sn - i) (.slice none 0 0)) 113
  a : Blk wr gA (RA.map (rowSl tn) ++ List.replicate (sn - i) (.slice none 0 0)) 113
  rows : ∀ r ∈ RB ++ RA, Blk wr r (bitsL tn (fun _ => false)) 4
  nd : (RB ++ RA).Nodup
  far : ∀ r ∈ RB ++ RA, w3.heap.size ≤ r
  mods : Mods (fun k => k = gB ∨ k = gA) w3 wr
theorem set_mid {α : Type} (l : List α) (x z : α) (n : Nat) (h : 0 < n) : (l ++ List.replicate n z).set l.length x = (l ++ [x]) ++ List.replicate (n - 1) z := by
  rw [List.set_append_right _ _ (Nat.le_refl _), Nat.sub_self]
  obtain ⟨m, rfl⟩ : ∃ m, n = m + 1 := ⟨n - 1, by omega⟩
  simp [List.replicate_succ]
theorem AlSt.step {w3 : World} {gB gA tn sn i : Nat} {RB RA : List Nat} {wr : World} (h : AlSt w3 gB gA tn sn i RB RA wr) (hi : i < sn) (hg : gA ≠ gB) (hgl : gB < w3.heap.size ∧ gA < w3.heap.size) {rB rA : Nat} (hr : (rB = wr.heap.size ∧ rA = wr.heap.size + 1) ∨ (rB = wr.heap.size + 1 ∧ rA = wr.heap.size)) :
    AlSt w3 gB gA tn sn (i + 1) (RB ++ [rB]) (RA ++ [rA]) ((((wr.setCell ⟨gB, i, none⟩ (.slice (some ⟨rB, 0, none⟩) tn tn)).setCell ⟨gA, i, none⟩ (.slice (some ⟨rA, 0, none⟩) tn tn)).alloc (.cells (Array.replicate tn (Value.bool false)) 4)).alloc (.cells (Array.replicate tn (Value.bool false)) 4)).drew := by
  obtain ⟨w4, hw4⟩ : ∃ w4, w4 = (wr.setCell ⟨gB, i, none⟩ (.slice (some ⟨rB, 0, none⟩) tn tn)).setCell ⟨gA, i, none⟩ (.slice (some ⟨rA, 0, none⟩) tn tn) := ⟨_, rfl⟩
  have hm4 : Mods (fun k => k = gB ∨ k = gA) wr w4 := by
    rw [hw4]
    exact ((mods_set wr gB i _).mono fun _ _ e => Or.inl e).trans ((mods_set _ gA i _).mono fun _ _ e => Or.inr e)
  have hs4 : w4.heap.size = wr.heap.size := by rw [hw4]; simp [World.setCell]
  have hm5 : Mods None w4 ((w4.alloc (.cells (Array.replicate tn (Value.bool false)) 4)).alloc (.cells (Array.replicate tn (Value.bool false)) 4)).drew := (((Mods.refl _ _).alloc _).alloc _).drew
  have hwl := h.mods.size
  have hb : Blk w4 gB ((RB ++ [rB]).map (rowSl tn) ++ List.replicate (sn - (i + 1)) (.slice none 0 0)) 113 := by
    rw [hw4]
    refine Blk.mods (S := (· = gA)) (mods_set _ gA i _) ?_ (fun e => hg e.symm)
    have h1 := h.b.set i (.slice (some ⟨rB, 0, none⟩) tn tn)
    have e : (RB.map (rowSl tn) ++ List.replicate (sn - i) (Value.slice none 0 0)).set i (.slice (some ⟨rB, 0, none⟩) tn tn) = (RB ++ [rB]).map (rowSl tn) ++ List.replicate (sn - (i + 1)) (.slice none 0 0) := by
      have := set_mid (RB.map (rowSl tn)) (rowSl tn rB) (.slice none 0 0) (sn - i) (by omega)
      rw [List.length_map, h.lb] at this
      rw [List.map_append, show sn - (i + 1) = sn - i - 1 by omega]
      exact this
    rw [e] at h1
    exact h1
  have ha : Blk w4 gA ((RA ++ [rA]).map (rowSl tn) ++ List.replicate (sn - (i + 1)) (.slice none 0 0)) 113 := by
    rw [hw4]
    have h0 := h.a.mods (mods_set wr gB i (.slice (some ⟨rB, 0, none⟩) tn tn)) hg
    have h1 := h0.set i (.slice (some ⟨rA, 0, none⟩) tn tn)
    have e : (RA.map (rowSl tn) ++ List.replicate (sn - i) (Value.slice none 0 0)).set i (.slice (some ⟨rA, 0, none⟩) tn tn) = (RA ++ [rA]).map (rowSl tn) ++ List.replicate (sn - (i + 1)) (.slice none 0 0) := by
      have := set_mid (RA.map (rowSl tn)) (rowSl tn rA) (.slice none 0 0) (sn - i) (by omega)
      rw [List.length_map, h.la] at this
      rw [List.map_append, show sn - (i + 1) = sn - i - 1 by omega]
      exact this
    rw [e] at h1
    exact h1
  have hn0 : Blk ((w4.alloc (.cells (Array.replicate tn (Value.bool false)) 4)).alloc (.cells (Array.replicate tn (Value.bool false)) 4)).drew wr.heap.size (bitsL tn (fun _ => false)) 4 := by
    have := ((Blk.new w4 (Array.replicate tn (Value.bool false)) 4).alloc (.cells (Array.replicate tn (Value.bool false)) 4)).drew
    rw [← bits_none, ← hs4]
    simpa using this
  have hn1 : Blk ((w4.alloc (.cells (Array.replicate tn (Value.bool false)) 4)).alloc (.cells (Array.replicate tn (Value.bool false)) 4)).drew (wr.heap.size + 1) (bitsL tn (fun _ => false)) 4 := by
    have := (blk_second w4 (.cells (Array.replicate tn (Value.bool false)) 4) (Array.replicate tn (Value.bool false)) 4).drew
    rw [← bits_none, ← hs4]
    simpa using this
  have hold : ∀ r ∈ RB ++ RA, r < wr.heap.size := fun r hr => (h.rows r hr).lt
  have hmem : ∀ r, r ∈ (RB ++ [rB]) ++ (RA ++ [rA]) → r ∈ RB ++ RA ∨ r = rB ∨ r = rA := fun r hr => by
    simp only [List.mem_append, List.mem_singleton] at hr ⊢
    rcases hr with (hr | hr) | hr | hr
    · exact Or.inl (Or.inl hr)
    · exact Or.inr (Or.inl hr)
    · exact Or.inl (Or.inr hr)
    · exact Or.inr (Or.inr hr)
  rw [← hw4]
  refine ⟨by simp [h.lb], by simp [h.la], hb.mods hm5 (fun f => f), ha.mods hm5 (fun f => f), fun r hr' => ?_, ?_, fun r hr' => ?_, (h.mods.trans hm4).trans (hm5.mono fun _ _ f => f.elim)⟩
  · rcases hmem r hr' with h1 | h1 | h1
    · have hfar := h.far r h1
      exact ((h.rows r h1).mods hm4 (fun e => by omega)).mods hm5 (fun f => f)
    · subst h1
      rcases hr with ⟨e, _⟩ | ⟨e, _⟩
      · rw [e]; exact hn0
      · rw [e]; exact hn1
    · subst h1
      rcases hr with ⟨_, e⟩ | ⟨_, e⟩
      · rw [e]; exact hn1
      · rw [e]; exact hn0
  · have hnd := List.nodup_append.1 h.nd
    have hB : rB ∉ RB ∧ rB ∉ RA ∧ rA ∉ RB ∧ rA ∉ RA := by
      refine ⟨fun e => ?_, fun e => ?_, fun e => ?_, fun e => ?_⟩
      · have := hold _ (List.mem_append.2 (Or.inl e)); omega
      · have := hold _ (List.mem_append.2 (Or.inr e)); omega
      · have := hold _ (List.mem_append.2 (Or.inl e)); omega
      · have := hold _ (List.mem_append.2 (Or.inr e)); omega
    refine List.nodup_append.2 ⟨List.nodup_append.2 ⟨hnd.1, by simp, fun a ha b hb e => ?_⟩, List.nodup_append.2 ⟨hnd.2.1, by simp, fun a ha b hb e => ?_⟩, fun a ha b hb e => ?_⟩
    · simp only [List.mem_singleton] at hb
      exact hB.1 (by rw [← hb, ← e]; exact ha)
    · simp only [List.mem_singleton] at hb
      exact hB.2.2.2 (by rw [← hb, ← e]; exact ha)
    · simp only [List.mem_append, List.mem_singleton] at ha hb
      subst e
      rcases ha with ha | ha
      · rcases hb with hb | hb
        · exact hnd.2.2 a ha a hb rfl
        · exact hB.2.2.1 (hb ▸ ha)
      · rcases hb with hb | hb
        · exact hB.2.1 (ha ▸ hb)
        · omega
  · rcases hmem r hr' with h1 | h1 | h1
    · exact h.far r h1
    · omega
    · omega
theorem uses_len (s : Stp) : (usesP s).length ≤ s.args.length + 3 := by
  unfold usesP
  split
  · simp
  · split
    · simp
    · split
      · simp
      · split
        · omega
        · simp
set_option maxRecDepth 100000 in
set_option maxHeartbeats 8000000 in
theorem behind_any {W : World} {S : Nat → Prop} {F : Fm} {fv : Value} (hv : FmV W S F fv) (hl64 : ∀ s ∈ F.steps, I64 s.label) (hlen : F.steps.length ≤ 6000) (htl : F.types.length ≤ 3000) (hargs : ∀ s ∈ F.steps, s.args.length ≤ 1000000) (hu : ∀ s ∈ F.steps, ∀ p ∈ usesP s, 0 ≤ p ∧ p < F.types.length) :
    Calls Tryd.prog 59 #[fv] W (BeP F W) := by
  have HV := Lib.hid hv
  obtain ⟨ta, tc, sa, sc, rfl, hty, hst⟩ := hv
  obtain ⟨W1, hW1⟩ : ∃ W1, W1 = W.alloc (.cells #[str F.name, .int .i64 F.params, .slice ta F.types.length tc, .slice sa F.steps.length sc] 35) := ⟨_, rfl⟩
  have hm1 : Mods None W W1 := by rw [hW1]; exact (Mods.refl _ _).alloc _
  have hb1 : Blk W1 W.heap.size [str F.name, .int .i64 F.params, .slice ta F.types.length tc, .slice sa F.steps.length sc] 35 := by rw [hW1]; exact Blk.new W _ _
  have HLB := Lib.hid (llabels_any F (.agg #[str F.name, .int .i64 F.params, .slice ta F.types.length tc, .slice sa F.steps.length sc]) W1 (HV.out.mods (T := None) (hm1.mono fun _ _ f => f.elim) (fun _ _ f => f.elim)) hl64 hlen)
  obtain ⟨tn, htn⟩ : ∃ tn, tn = F.types.length := ⟨_, rfl⟩
  obtain ⟨sn, hsn⟩ : ∃ sn, sn = F.steps.length := ⟨_, rfl⟩
  rw [← htn, ← hsn] at hW1 hb1 HLB ⊢
  have b0 := hb1.cell (i := 0) rfl
  have b1 := hb1.cell (i := 1) rfl
  have b2 := hb1.cell (i := 2) rfl
  have b3 := hb1.cell (i := 3) rfl
  have hs6 : (sn : Int) ≤ 6000 := by omega
  have ht3 : (tn : Int) ≤ 3000 := by omega
  have HB1 := Lib.hid hb1
  have HM1 := Lib.hid hm1
  have HSN := Lib.hid hsn
  have HTN := Lib.hid htn
  have HST := Lib.hid hst
  have HTY := Lib.hid hty
  have HH := Lib.hid (And.intro hl64 (And.intro hlen (And.intro htl (And.intro hargs hu))))
  clear hm1 hb1 hty hst hl64 hlen htl hargs hu htn hsn
  unfold str at *
  go_enter Tryd.func59, Tryd.ntmps59
  go_upto_region 1 with (fail)
  rw [← hW1]
  clear hW1
  go_wp2_with fail
  go_at_call 79
  refine HLB.out.mono ?_
  rintro e w2 ⟨bm, bn, rfl, hlab, hbm, hbn, hm2⟩
  have HB2 := Lib.hid (HB1.out.mods hm2 (fun f => f))
  have b2 := HB2.out.cell (i := 2) rfl
  have b3 := HB2.out.cell (i := 3) rfl
  have HLAB := Lib.hid hlab
  have HM2 := Lib.hid (HM1.out.trans hm2)
  have HBM := Lib.hid (show W1.heap.size ≤ bm from hbm)
  clear b0 b1 hlab hbm hbn hm2 HLB
  go_upto_region 3 with (fail)
  have hmk := mk_rows sn (by omega)
  have hWl : W.heap.size < w2.heap.size := HB2.out.lt
  go_cut [5, 6] (fun bv av w => ∃ gB gA, bv = .slice (some ⟨gB, 0, none⟩) sn sn ∧ av = .slice (some ⟨gA, 0, none⟩) sn sn ∧ Hid (Blk w gB (List.replicate sn (Value.slice none 0 0)) 113) ∧ Hid (Blk w gA (List.replicate sn (Value.slice none 0 0)) 113) ∧ Hid (gA ≠ gB ∧ w2.heap.size ≤ gA ∧ w2.heap.size ≤ gB) ∧ Hid (Mods None w2 w))
  case first =>
    go_region
    all_goals
      go_wp2_with fail
      go_meet
      case rel =>
        have h0 : Blk ((w2.alloc (.cells (Array.replicate sn (Value.slice none 0 0)) 113)).alloc (.cells (Array.replicate sn (Value.slice none 0 0)) 113)).drew w2.heap.size (List.replicate sn (Value.slice none 0 0)) 113 := by
          have := ((Blk.new w2 (Array.replicate sn (Value.slice none 0 0)) 113).alloc (.cells (Array.replicate sn (Value.slice none 0 0)) 113)).drew
          simpa using this
        have h1 : Blk ((w2.alloc (.cells (Array.replicate sn (Value.slice none 0 0)) 113)).alloc (.cells (Array.replicate sn (Value.slice none 0 0)) 113)).drew (w2.heap.size + 1) (List.replicate sn (Value.slice none 0 0)) 113 := by
          have := (blk_second w2 (.cells (Array.replicate sn (Value.slice none 0 0)) 113) (Array.replicate sn (Value.slice none 0 0)) 113).drew
          simpa using this
        have hm : Mods None w2 ((w2.alloc (.cells (Array.replicate sn (Value.slice none 0 0)) 113)).alloc (.cells (Array.replicate sn (Value.slice none 0 0)) 113)).drew := (((Mods.refl _ _).alloc _).alloc _).drew
        first
        | exact ⟨w2.heap.size, w2.heap.size + 1, rfl, rfl, Lib.hid h0, Lib.hid h1, Lib.hid ⟨by omega, by omega, by omega⟩, Lib.hid hm⟩
        | exact ⟨w2.heap.size + 1, w2.heap.size, rfl, rfl, Lib.hid h1, Lib.hid h0, Lib.hid ⟨by omega, by omega, by omega⟩, Lib.hid hm⟩
  case rest =>
  obtain ⟨w3, rfl⟩ : ∃ w3 : World, w3 = wc := ⟨_, rfl⟩
  obtain ⟨gB, gA, rfl, rfl, HB3, HA3, HG, HM3⟩ := hcut
  have b3 := (HB2.out.mods HM3.out (fun f => f)).cell (i := 3) rfl
  clear b2 hmk hWl
  have HAL : Hid (AlSt w3 gB gA tn sn 0 [] [] w3) := Lib.hid ⟨rfl, rfl, HB3.out, HA3.out, fun r hr => by simp at hr, by simp, fun r hr => by simp at hr, Mods.refl _ _⟩
  go_wp2_with fail
  clear b3
  go_loopw [34] (fun iv wr => ∃ i RB RA, i ≤ sn ∧ iv = .int .i64 ((i : Nat) : Int) ∧ Hid (AlSt w3 gB gA tn sn i RB RA wr)) (fun iv _ => (sn - intOf iv).toNat)
  case atStart => exact ⟨0, [], [], Nat.zero_le _, rfl, HAL⟩
  case round =>
    clear HAL
    obtain ⟨i, RB, RA, hi, rfl, HS⟩ := hrel
    by_cases hlt : i < sn
    · have hpi : (i : Int) < (sn : Int) := by omega
      have hmk := mk_bools tn (by omega)
      have hbl := HS.out.b.lt
      have hal := HS.out.a.lt
      have cB : wr.cell? ⟨gB, i, none⟩ = some (.slice none 0 0) := HS.out.b.cell (by rw [List.getElem?_append_right (by rw [List.length_map, HS.out.lb]; exact Nat.le_refl _), List.length_map, HS.out.lb, Nat.sub_self, List.getElem?_replicate, if_pos (by omega)])
      have cA : wr.cell? ⟨gA, i, none⟩ = some (.slice none 0 0) := HS.out.a.cell (by rw [List.getElem?_append_right (by rw [List.length_map, HS.out.la]; exact Nat.le_refl _), List.length_map, HS.out.la, Nat.sub_self, List.getElem?_replicate, if_pos (by omega)])
      have zB := HS.out.b.free i
      have zA := HS.out.a.free i
      have hgn : gA ≠ gB := HG.out.1
      have hgn2 : gB ≠ gA := fun e => hgn e.symm
      go_wp2_with fail
      go_region
      all_goals
        go_wp2_with fail
        refine ⟨⟨i + 1, RB ++ [_], RA ++ [_], by omega, by go_num, Lib.hid (HS.out.step hlt hgn ⟨HB3.out.lt, HA3.out.lt⟩ (by first | exact Or.inl ⟨rfl, rfl⟩ | exact Or.inr ⟨rfl, rfl⟩))⟩, by simp [intOf]; omega⟩
    · obtain rfl : sn = i := by omega
      have hpi : ¬ (sn : Int) < (sn : Int) := by omega
      have hw2 : W.heap.size < w2.heap.size := HB2.out.lt
      have hw3 : w2.heap.size ≤ w3.heap.size := HM3.out.size
      have hbm2 : bm < w2.heap.size := HLAB.out.lt
      have hgg := HG.out
      have hmw : Mods None W wr := ((HM2.out.trans HM3.out).trans' HS.out.mods (fun k hk hl => by omega))
      have hfr : ∀ r ∈ RB ++ RA, w3.heap.size ≤ r := HS.out.far
      have hgl : gB < w3.heap.size ∧ gA < w3.heap.size := ⟨HB3.out.lt, HA3.out.lt⟩
      have hRB : RowsAt wr gB RB tn (fun _ _ => false) := ⟨by have h := HS.out.b; rw [Nat.sub_self, List.replicate_zero, List.append_nil] at h; exact h, fun j r hr => HS.out.rows r (List.mem_append.2 (Or.inl (List.mem_of_getElem? hr))), (List.nodup_append.1 HS.out.nd).1, fun h => by have := hfr gB (List.mem_append.2 (Or.inl h)); omega⟩
      have hRA : RowsAt wr gA RA tn (fun _ _ => false) := ⟨by have h := HS.out.a; rw [Nat.sub_self, List.replicate_zero, List.append_nil] at h; exact h, fun j r hr => HS.out.rows r (List.mem_append.2 (Or.inr (List.mem_of_getElem? hr))), (List.nodup_append.1 HS.out.nd).2.1, fun h => by have := hfr gA (List.mem_append.2 (Or.inr h)); omega⟩
      have HL : Hid (LvSt W F [.string ⟨F.name.toArray⟩, .int .i64 F.params, .slice ta tn tc, .slice sa sn sc] ⟨gB, gA, RB, RA, bm, bn⟩ (fun _ _ => false) (fun _ _ => false) wr) := Lib.hid
        ⟨by rw [← HTN.out]; exact hRB, by rw [← HTN.out]; exact hRA, by rw [HS.out.lb, HSN.out], by rw [HS.out.la, HSN.out], HS.out.nd, ⟨(fun h => by have := hfr gB (List.mem_append.2 (Or.inr h)); omega), (fun h => by have := hfr gA (List.mem_append.2 (Or.inl h)); omega), hgg.1⟩, fun r hr => by have := hfr r hr; omega, (fun h => by have := hfr bm h; omega), (HB2.out.mods HM3.out (fun f => f)).mods HS.out.mods (fun e => by omega), (HLAB.out.mods HM3.out (fun f => f)).mods HS.out.mods (fun e => by omega), hmw, fun Bc Ac hc j p hj hp => ⟨(fun h => by cases h), (fun h => by cases h)⟩⟩
      obtain ⟨E, hE⟩ : ∃ E : LvE, E = ⟨gB, gA, RB, RA, bm, bn⟩ := ⟨_, rfl⟩
      rw [← hE] at HL
      have HE := Lib.hid hE
      obtain ⟨fs, hfs⟩ : ∃ fs, fs = [Value.string ⟨F.name.toArray⟩, .int .i64 F.params, .slice ta tn tc, .slice sa sn sc] := ⟨_, rfl⟩
      rw [← hfs] at HL
      have HFS := Lib.hid hfs
      obtain ⟨RR, hRR⟩ : ∃ RR, RR = E.RB ++ E.RA := ⟨_, rfl⟩
      have HRR := Lib.hid hRR
      clear hw2 hw3 hbm2 hgg hmw hfr hgl hRB hRA hE hfs hRR hlt HS HB3 HA3 HM3 HLAB HBM HB2 HM2
      go_wp2_with fail
      clear hpi
      go_loopw [8] (fun mv wx => ∃ m B A, mv = .bool m ∧ Hid (LvSt W F fs E B A wx) ∧ Hid (m = false → ∀ j, j < F.steps.length → Sat F B A j)) (fun mv wx => 2 * falsW wx RR + (match mv with | .bool true => 1 | _ => 0))
      case atStart => exact ⟨true, _, _, rfl, HL, Lib.hid (fun h => by cases h)⟩
      case round =>
        obtain ⟨w5, rfl⟩ : ∃ w5 : World, w5 = wr := ⟨_, rfl⟩
        clear HL
        obtain ⟨m, B, A, rfl, HL, HSAT⟩ := hrel
        have gBA : E.gB = gB ∧ E.gA = gA := by rw [HE.out]; exact ⟨rfl, rfl⟩
        have HGBA := Lib.hid gBA
        clear gBA
        cases m with
        | false =>
          go_wp2_with fail
          go_ret
          have h := HL.out
          have hr := h.b
          rw [HGBA.out.1] at hr
          exact ⟨gB, E.RB, B, by rw [← HSN.out]; rfl, h.lb, hr, fun j p hj hp => sat_needed h (HSAT.out (by trivial)) HH.out.2.2.2.2 j p hj hp, h.mods⟩
        | true =>
          have hb := HL.out.box
          rw [HFS.out] at hb
          have b3 := hb.cell (i := 3) rfl
          obtain ⟨f0, hf0⟩ : ∃ f0, f0 = falsW w5 RR := ⟨_, rfl⟩
          have HF0 := Lib.hid hf0
          have HPS : Hid (Ps W F fs E B A f0 (∀ j : Nat, ((sn : Int) - 1) < (j : Int) → j < F.steps.length → Sat F B A j) false B A w5) := Lib.hid ⟨HL.out, fun _ => ⟨rfl, rfl, fun j h1 h2 => by have := HSN.out; omega, by rw [hf0, HRR.out]⟩, fun h => by cases h⟩
          clear hb hf0 HSAT
          go_wp2_with fail
          clear b3
          go_loopw [8, 9] (fun mv zv wy => ∃ m z B1 A1, mv = .bool m ∧ zv = .int .i64 z ∧ -1 ≤ z ∧ z < (sn : Int) ∧ Hid (Ps W F fs E B A f0 (∀ j : Nat, z < (j : Int) → j < F.steps.length → Sat F B A j) m B1 A1 wy)) (fun _ zv _ => (intOf zv + 1).toNat)
          case atStart => exact ⟨false, (sn : Int) - 1, B, A, rfl, rfl, by omega, by omega, HPS⟩
          case round =>
            clear HPS
            obtain ⟨w6, rfl⟩ : ∃ w6 : World, w6 = wr := ⟨_, rfl⟩
            obtain ⟨m, z, B1, A1, rfl, rfl, hz1, hz2, HP⟩ := hrel
            by_cases hz : 0 ≤ z
            · obtain ⟨k, rfl⟩ := Int.eq_ofNat_of_zero_le hz
              have hkl : k < F.steps.length := by have := HSN.out; omega
              obtain ⟨x, hxi⟩ : ∃ x, F.steps[k]? = some x := ⟨_, List.getElem?_eq_getElem hkl⟩
              have hxe : F.steps[k] = x := by
                obtain ⟨h1, h2⟩ := List.getElem?_eq_some_iff.1 hxi
                exact h2
              have hxm : x ∈ F.steps := List.mem_of_getElem? hxi
              obtain ⟨rB, hrB⟩ : ∃ r, E.RB[k]? = some r := ⟨_, List.getElem?_eq_getElem (by rw [HP.out.st.lb]; exact hkl)⟩
              obtain ⟨rA, hrA⟩ : ∃ r, E.RA[k]? = some r := ⟨_, List.getElem?_eq_getElem (by rw [HP.out.st.la]; exact hkl)⟩
              have hb := HP.out.st.box
              rw [HFS.out] at hb
              have b0 := hb.cell (i := 0) rfl
              have b1 := hb.cell (i := 1) rfl
              have b2 := hb.cell (i := 2) rfl
              have b3 := hb.cell (i := 3) rfl
              have HX := Lib.hid (And.intro hkl (And.intro hxi (And.intro hxm (And.intro hrB hrA))))
              have hfv : FmV w6 S F (.agg #[str F.name, .int .i64 F.params, .slice ta F.types.length tc, .slice sa F.steps.length sc]) := ⟨ta, tc, sa, sc, rfl, HTY.out.mods (HP.out.st.mods.mono fun _ _ f => f.elim) (fun _ _ k => k), HST.out.mods (HP.out.st.mods.mono fun _ _ f => f.elim) (fun _ _ k => k)⟩
              have hbm : E.bm = bm := by rw [HE.out]
              have HFO := Lib.hid (follows_any hfv (by have := HP.out.st.lab; rw [hbm] at this; exact this) HH.out.1 HH.out.2.1 hkl)
              rw [← HTN.out, ← HSN.out] at HFO
              unfold str at HFO
              have hk1 : (k : Int) < (sn : Int) := by omega
              clear hkl hxi hxe hxm hrB hrA hb hfv hbm hz hz1
              go_wp2_with fail
              go_at_call 80
              refine HFO.out.mono ?_
              rintro e w7 ⟨v', rfl, hints, hm7⟩
              obtain ⟨la, lc, rfl, hlc1, hlc2, -⟩ := hints.form
              obtain ⟨ln, hln⟩ : ∃ ln, ln = ((followsP F k).map Int.ofNat).length := ⟨_, rfl⟩
              have HLN := Lib.hid hln
              have hll : (ln : Int) ≤ 2 := by rw [hln, List.length_map]; have := fol_len F k; omega
              rw [← hln] at hints hlc1 ⊢
              have HI0 : Hid (IntsAt w7 (fun y => y ∈ RR) (.slice la ln lc) ((followsP F k).map Int.ofNat)) := Lib.hid (hints.mods (Mods.refl _ _) (fun y hy hr => by rw [HRR.out] at hr; exact HP.out.st.lt y hr))
              have HP4 : Hid (Ps W F fs E B A f0 ((∀ j : Nat, (k : Int) < (j : Int) → j < F.steps.length → Sat F B A j) ∧ ∀ k' ∈ (followsP F k).take 0, ∀ p, p < F.types.length → A k' p = true → B k p = true) m B1 A1 w7) := Lib.hid ((HP.out.quiet hm7).more fun _ _ _ g => ⟨g, fun k' h => by simp at h⟩)
              clear b0 b1 b2 b3 hints hm7 HFO hln
              go_wp2_with fail
              go_loopw [8, 62] (fun mv jv wy => ∃ m j B1 A1, mv = .bool m ∧ jv = .int .i64 ((j : Nat) : Int) ∧ j ≤ ln ∧ Hid (Ps W F fs E B A f0 ((∀ j : Nat, (k : Int) < (j : Int) → j < F.steps.length → Sat F B A j) ∧ ∀ k' ∈ (followsP F k).take j, ∀ p, p < F.types.length → A k' p = true → B k p = true) m B1 A1 wy) ∧ Hid (IntsAt wy (fun y => y ∈ RR) (.slice la ln lc) ((followsP F k).map Int.ofNat))) (fun _ jv _ => (ln - intOf jv).toNat)
              case atStart => exact ⟨m, 0, B1, A1, rfl, rfl, Nat.zero_le _, HP4, HI0⟩
              case round =>
                clear HP4 HI0 HP
                obtain ⟨w8, rfl⟩ : ∃ w8 : World, w8 = wr := ⟨_, rfl⟩
                obtain ⟨m, j, B1, A1, rfl, rfl, hj, HP, HI⟩ := hrel
                by_cases hlt4 : j < ln
                · have hjl : j < (followsP F k).length := by have h := HLN.out; rw [List.length_map] at h; omega
                  obtain ⟨k2, hk2⟩ : ∃ k2, (followsP F k)[j]? = some k2 := ⟨_, List.getElem?_eq_getElem hjl⟩
                  have hk2m : k2 ∈ followsP F k := List.mem_of_getElem? hk2
                  have hk2l : k2 < F.steps.length := (follows_lt hk2m).1
                  obtain ⟨r2, hr2⟩ : ∃ r, E.RA[k2]? = some r := ⟨_, List.getElem?_eq_getElem (by rw [HP.out.st.la]; exact hk2l)⟩
                  have hjm : j < ((followsP F k).map Int.ofNat).length := by rw [List.length_map]; exact hjl
                  have hIl := HI.out
                  rw [HLN.out] at hIl
                  obtain ⟨gl, ol, hle, hcl⟩ := hIl.get hjm
                  subst hle
                  have hge : ((followsP F k).map Int.ofNat)[j] = (k2 : Int) := by
                    have : ((followsP F k).map Int.ofNat)[j]? = some (k2 : Int) := by rw [List.getElem?_map, hk2]; rfl
                    obtain ⟨h1, h2⟩ := List.getElem?_eq_some_iff.1 this
                    exact h2
                  rw [hge] at hcl
                  have cA := HP.out.st.a.sl hr2
                  rw [HGBA.out.2, ← HTN.out] at cA
                  have hk2i : (k2 : Int) < (sn : Int) := by have := HSN.out; omega
                  have hji : (j : Int) < (ln : Int) := by omega
                  have HK2 := Lib.hid (And.intro hk2 (And.intro hk2m (And.intro hk2l (And.intro hr2 hlt4))))
                  have HP5 : Hid (Ps W F fs E B A f0 (((∀ j : Nat, (k : Int) < (j : Int) → j < F.steps.length → Sat F B A j) ∧ ∀ k' ∈ (followsP F k).take j, ∀ p, p < F.types.length → A k' p = true → B k p = true) ∧ ∀ q, q < 0 → A k2 q = true → B k q = true) m B1 A1 w8) := Lib.hid (HP.out.more fun _ _ _ g => ⟨g, fun q h => by omega⟩)
                  clear hjl hk2 hk2m hk2l hr2 hjm hIl hge hlt4
                  go_wp2_with fail
                  clear hcl cA
                  go_loopw [8, 71] (fun mv pv wz => ∃ m p B1 A1, mv = .bool m ∧ pv = .int .i64 ((p : Nat) : Int) ∧ p ≤ tn ∧ Hid (Ps W F fs E B A f0 (((∀ j : Nat, (k : Int) < (j : Int) → j < F.steps.length → Sat F B A j) ∧ ∀ k' ∈ (followsP F k).take j, ∀ p, p < F.types.length → A k' p = true → B k p = true) ∧ ∀ q, q < p → A k2 q = true → B k q = true) m B1 A1 wz) ∧ Hid (IntsAt wz (fun y => y ∈ RR) (.slice (some ⟨gl, ol, none⟩) ln lc) ((followsP F k).map Int.ofNat))) (fun _ pv _ => (tn - intOf pv).toNat)
                  case atStart => exact ⟨m, 0, B1, A1, rfl, rfl, Nat.zero_le _, HP5, HI⟩
                  case round =>
                    clear HP5 HI HP
                    obtain ⟨w9, rfl⟩ : ∃ w9 : World, w9 = wr := ⟨_, rfl⟩
                    obtain ⟨m, p, B1, A1, rfl, rfl, hp, HP, HI⟩ := hrel
                    by_cases hltp : p < tn
                    · have hpt : p < F.types.length := by rw [← HTN.out]; exact hltp
                      have hpi : (p : Int) < (tn : Int) := by omega
                      have hca := (HP.out.st.a.bit HK2.out.2.2.2.1 hpt).1
                      have hcb := (HP.out.st.b.bit HX.out.2.2.2.1 hpt).1
                      have hzb := (HP.out.st.b.bit HX.out.2.2.2.1 hpt).2
                      have csl := HP.out.st.b.sl HX.out.2.2.2.1
                      rw [HGBA.out.1, ← HTN.out] at csl
                      obtain ⟨ab, hab⟩ : ∃ ab, ab = A1 k2 p := ⟨_, rfl⟩
                      obtain ⟨bb, hbb⟩ : ∃ bb, bb = B1 k p := ⟨_, rfl⟩
                      rw [← hab] at hca
                      rw [← hbb] at hcb
                      have HAB := Lib.hid (And.intro hab (And.intro hbb hpt))
                      have HLP := Lib.hid hltp
                      clear hab hbb hpt hltp
                      cases ab with
                      | false =>
                        go_wp2_with fail
                        refine ⟨⟨m, p + 1, B1, A1, rfl, by go_num, by have := HLP.out; omega, Lib.hid (HP.out.more fun _ _ h2 g => ⟨g.1, fun q hq ha => ?_⟩), HI⟩, by have := HLP.out; simp [intOf]; omega⟩
                        by_cases hqp : q = p
                        · subst hqp
                          have := HAB.out.1
                          rw [h2, ha] at this
                          cases this
                        · exact g.2 q (by omega) ha
                      | true =>
                        cases bb with
                        | true =>
                          go_wp2_with fail
                          refine ⟨⟨m, p + 1, B1, A1, rfl, by go_num, by have := HLP.out; omega, Lib.hid (HP.out.more fun _ h1 _ g => ⟨g.1, fun q hq ha => ?_⟩), HI⟩, by have := HLP.out; simp [intOf]; omega⟩
                          by_cases hqp : q = p
                          · subst hqp
                            have := HAB.out.2.1
                            rw [h1] at this
                            exact this.symm
                          · exact g.2 q (by omega) ha
                        | false =>
                          go_wp2_with fail
                          have hset := HP.out.setB (G' := (((∀ j : Nat, (k : Int) < (j : Int) → j < F.steps.length → Sat F B A j) ∧ ∀ k' ∈ (followsP F k).take j, ∀ p, p < F.types.length → A k' p = true → B k p = true) ∧ ∀ q, q < p + 1 → A k2 q = true → B k q = true)) HX.out.2.2.2.1 HAB.out.2.2 HAB.out.2.1.symm (fun Bc Ac hc => hc.next k k2 p HK2.out.2.1 ((HP.out.st.low Bc Ac hc k2 p HK2.out.2.2.1 HAB.out.2.2).2 HAB.out.1.symm))
                          refine ⟨⟨true, p + 1, _, A1, rfl, by go_num, by have := HLP.out; omega, Lib.hid hset, Lib.hid (HI.out.mods ((mods_set w9 rB p (.bool true)).mono fun y _ e => by rw [e, HRR.out]; exact List.mem_append.2 (Or.inl (List.mem_of_getElem? HX.out.2.2.2.1))) (fun _ _ h => h))⟩, by have := HLP.out; simp [intOf]; omega⟩
                    · obtain rfl : tn = p := by omega
                      have hpi : ¬ (tn : Int) < (tn : Int) := by omega
                      clear hltp
                      go_wp2_with fail
                      refine ⟨⟨m, j + 1, B1, A1, rfl, by go_num, by have := HK2.out.2.2.2.2; omega, Lib.hid (HP.out.more fun _ _ _ g => ⟨g.1.1, fun k' hk' p hp ha => ?_⟩), HI⟩, by have := HK2.out.2.2.2.2; simp [intOf]; omega⟩
                      have hjl := (List.getElem?_eq_some_iff.1 HK2.out.1).1
                      have hje := (List.getElem?_eq_some_iff.1 HK2.out.1).2
                      rw [List.take_succ_eq_append_getElem hjl, hje, List.mem_append, List.mem_singleton] at hk'
                      rcases hk' with hk' | hk'
                      · exact g.1.2 k' hk' p hp ha
                      · subst hk'
                        exact g.2 p (by rw [HTN.out]; exact hp) ha
                · obtain rfl : ln = j := by omega
                  have hji : ¬ (ln : Int) < (ln : Int) := by omega
                  clear hlt4
                  have HP6 : Hid (Ps W F fs E B A f0 (((∀ j : Nat, (k : Int) < (j : Int) → j < F.steps.length → Sat F B A j) ∧ ∀ k' ∈ followsP F k, ∀ p, p < F.types.length → A k' p = true → B k p = true) ∧ ∀ q : Nat, q < 0 → B k q = true → (q : Int) ≠ writesP x → A k q = true) m B1 A1 w8) := Lib.hid (HP.out.more fun _ _ _ g => ⟨⟨g.1, fun k' hk' => g.2 k' (by rw [HLN.out, List.length_map, List.take_length]; exact hk')⟩, fun q h => by omega⟩)
                  have csl := HP.out.st.b.sl HX.out.2.2.2.1
                  rw [HGBA.out.1, ← HTN.out] at csl
                  clear HP
                  go_wp2_with fail
                  clear csl
                  go_loopw [8, 100] (fun mv pv wz => ∃ m p B1 A1, mv = .bool m ∧ pv = .int .i64 ((p : Nat) : Int) ∧ p ≤ tn ∧ Hid (Ps W F fs E B A f0 (((∀ j : Nat, (k : Int) < (j : Int) → j < F.steps.length → Sat F B A j) ∧ ∀ k' ∈ followsP F k, ∀ p, p < F.types.length → A k' p = true → B k p = true) ∧ ∀ q : Nat, q < p → B k q = true → (q : Int) ≠ writesP x → A k q = true) m B1 A1 wz)) (fun _ pv _ => (tn - intOf pv).toNat)
                  case atStart => exact ⟨m, 0, B1, A1, rfl, rfl, Nat.zero_le _, HP6⟩
                  case round =>
                    clear HP6
                    obtain ⟨w9, rfl⟩ : ∃ w9 : World, w9 = wr := ⟨_, rfl⟩
                    obtain ⟨m, p, B1, A1, rfl, rfl, hp, HP⟩ := hrel
                    by_cases hltp : p < tn
                    · have hpt : p < F.types.length := by rw [← HTN.out]; exact hltp
                      have hpi : (p : Int) < (tn : Int) := by omega
                      have hcb := (HP.out.st.b.bit HX.out.2.2.2.1 hpt).1
                      obtain ⟨bb, hbb⟩ : ∃ bb, bb = B1 k p := ⟨_, rfl⟩
                      rw [← hbb] at hcb
                      have HAB := Lib.hid (And.intro hbb hpt)
                      have HLP := Lib.hid hltp
                      clear hbb hpt hltp
                      cases bb with
                      | false =>
                        go_wp2_with fail
                        refine ⟨⟨m, p + 1, B1, A1, rfl, by go_num, by have := HLP.out; omega, Lib.hid (HP.out.more fun _ h1 _ g => ⟨g.1, fun q hq ha hw => ?_⟩)⟩, by have := HLP.out; simp [intOf]; omega⟩
                        by_cases hqp : q = p
                        · subst hqp
                          have := HAB.out.1
                          rw [h1, ha] at this
                          cases this
                        · exact g.2 q (by omega) ha hw
                      | true =>
                        have hb := HP.out.st.box
                        rw [HFS.out] at hb
                        have b3 := hb.cell (i := 3) rfl
                        obtain ⟨gs', os', xa, xc, hsa, hcs, hxa⟩ := (HST.out.mods (T := S) (HP.out.st.mods.mono fun _ _ f => f.elim) (fun _ _ k => k)).get HX.out.1
                        cases hsa
                        have hxe : F.steps[k]'HX.out.1 = x := (List.getElem?_eq_some_iff.1 HX.out.2.1).2
                        rw [hxe] at hcs hxa
                        obtain ⟨y0, y1, y2, y3, y4, y5, y6, y7, y8, y9⟩ := hcs
                        have HWR := Lib.hid (writes_any x (.agg (stpL x (.slice xa x.args.length xc)).toArray) S w9 ⟨xa, xc, rfl, hxa⟩)
                        obtain ⟨xn, hxn⟩ : ∃ xn, xn = x.args.length := ⟨_, rfl⟩
                        obtain ⟨wv, hwv⟩ : ∃ wv, wv = writesP x := ⟨_, rfl⟩
                        rw [← hxn, ← hwv] at HWR
                        rw [← hxn] at y9
                        have HWV := Lib.hid hwv
                        unfold stpL str at HWR
                        unfold str at y6 y8
                        clear hb hxe hxa hxn hwv
                        go_wp2_with fail
                        go_at_call 60
                        refine HWR.out.mono ?_
                        rintro e w10 ⟨rfl, hm10⟩
                        have HP10 := Lib.hid (HP.out.quiet hm10)
                        have hca := (HP10.out.st.a.bit HX.out.2.2.2.2 HAB.out.2).1
                        have hza := (HP10.out.st.a.bit HX.out.2.2.2.2 HAB.out.2).2
                        have csl := HP10.out.st.a.sl HX.out.2.2.2.2
                        rw [HGBA.out.2, ← HTN.out] at csl
                        clear y0 y1 y2 y3 y4 y5 y6 y7 y8 y9 b3 hm10 hcb HWR
                        by_cases hpw : (p : Int) = wv
                        · have e1 : ((p : Int) == wv) = true := by simpa using hpw
                          have e2 : ((p : Int) != wv) = false := by simpa using hpw
                          have HPW := Lib.hid hpw
                          clear hpw
                          go_wp2_with fail
                          refine ⟨⟨m, p + 1, B1, A1, rfl, by go_num, by have := HLP.out; omega, Lib.hid (HP10.out.more fun _ h1 _ g => ⟨g.1, fun q hq ha hw => ?_⟩)⟩, by have := HLP.out; simp [intOf]; omega⟩
                          by_cases hqp : q = p
                          · subst hqp
                            exact absurd (HPW.out.trans HWV.out) hw
                          · exact g.2 q (by omega) ha hw
                        · have e1 : ((p : Int) == wv) = false := by simpa using hpw
                          have e2 : ((p : Int) != wv) = true := by simpa using hpw
                          have HPW := Lib.hid hpw
                          obtain ⟨ab, hab⟩ : ∃ ab, ab = A1 k p := ⟨_, rfl⟩
                          rw [← hab] at hca
                          have HAA := Lib.hid hab
                          clear hpw hab
                          cases ab with
                          | true =>
                            go_wp2_with fail
                            refine ⟨⟨m, p + 1, B1, A1, rfl, by go_num, by have := HLP.out; omega, Lib.hid (HP10.out.more fun _ _ h2 g => ⟨g.1, fun q hq ha hw => ?_⟩)⟩, by have := HLP.out; simp [intOf]; omega⟩
                            by_cases hqp : q = p
                            · subst hqp
                              have := HAA.out
                              rw [h2] at this
                              exact this.symm
                            · exact g.2 q (by omega) ha hw
                          | false =>
                            go_wp2_with fail
                            have hset := HP10.out.setA (G' := (((∀ j : Nat, (k : Int) < (j : Int) → j < F.steps.length → Sat F B A j) ∧ ∀ k' ∈ followsP F k, ∀ p, p < F.types.length → A k' p = true → B k p = true) ∧ ∀ q : Nat, q < p + 1 → B k q = true → (q : Int) ≠ writesP x → A k q = true)) HX.out.2.2.2.2 HAB.out.2 HAA.out.symm (fun Bc Ac hc => hc.keep k x p HX.out.2.1 ((HP10.out.st.low Bc Ac hc k p HX.out.1 HAB.out.2).1 HAB.out.1.symm) (by rw [← HWV.out]; exact HPW.out))
                            exact ⟨⟨true, p + 1, B1, _, rfl, by go_num, by have := HLP.out; omega, Lib.hid hset⟩, by have := HLP.out; simp [intOf]; omega⟩
                    · obtain rfl : tn = p := by omega
                      have hpi : ¬ (tn : Int) < (tn : Int) := by omega
                      clear hltp
                      have hb := HP.out.st.box
                      rw [HFS.out] at hb
                      have b3 := hb.cell (i := 3) rfl
                      obtain ⟨gs', os', xa, xc, hsa, hcs, hxa⟩ := (HST.out.mods (T := S) (HP.out.st.mods.mono fun _ _ f => f.elim) (fun _ _ k => k)).get HX.out.1
                      cases hsa
                      have hxe : F.steps[k]'HX.out.1 = x := (List.getElem?_eq_some_iff.1 HX.out.2.1).2
                      rw [hxe] at hcs hxa
                      obtain ⟨y0, y1, y2, y3, y4, y5, y6, y7, y8, y9⟩ := hcs
                      have HUS := Lib.hid (uses_any x (.agg (stpL x (.slice xa x.args.length xc)).toArray) S w9 ⟨xa, xc, rfl, hxa⟩ (HH.out.2.2.2.1 x HX.out.2.2.1))
                      obtain ⟨xn, hxn⟩ : ∃ xn, xn = x.args.length := ⟨_, rfl⟩
                      rw [← hxn] at HUS
                      rw [← hxn] at y9
                      unfold stpL str at HUS
                      unfold str at y6 y8
                      have hul0 := uses_len x
                      have hul1 := HH.out.2.2.2.1 x HX.out.2.2.1
                      obtain ⟨un, hun⟩ : ∃ un, un = (usesP x).length := ⟨_, rfl⟩
                      have hull : (un : Int) ≤ 1000003 := by omega
                      have HUN := Lib.hid hun
                      clear hb hxe hxa hxn hul0 hul1 hun
                      go_wp2_with fail
                      go_at_call 81
                      refine HUS.out.mono ?_
                      rintro e w10 ⟨v', rfl, hints, hm10⟩
                      obtain ⟨la', lc', rfl, hlc1', hlc2', -⟩ := hints.form
                      rw [← HUN.out] at hints hlc1' ⊢
                      have HJ0 : Hid (IntsAt w10 (fun y => y ∈ RR) (.slice la' un lc') (usesP x)) := Lib.hid (hints.mods (Mods.refl _ _) (fun y hy hr => by rw [HRR.out] at hr; exact HP.out.st.lt y hr))
                      have HP7 : Hid (Ps W F fs E B A f0 ((((∀ j : Nat, (k : Int) < (j : Int) → j < F.steps.length → Sat F B A j) ∧ ∀ k' ∈ followsP F k, ∀ p, p < F.types.length → A k' p = true → B k p = true) ∧ ∀ q : Nat, q < tn → B k q = true → (q : Int) ≠ writesP x → A k q = true) ∧ ∀ y ∈ (usesP x).take 0, ∀ q : Nat, (q : Int) = y → A k q = true) m B1 A1 w10) := Lib.hid ((HP.out.quiet hm10).more fun _ _ _ g => ⟨g, fun y h => by simp at h⟩)
                      clear y0 y1 y2 y3 y4 y5 y6 y7 y8 y9 b3 hm10 HUS hints HP
                      go_wp2_with fail
                      go_loopw [8, 140] (fun mv jv wz => ∃ m j B1 A1, mv = .bool m ∧ jv = .int .i64 ((j : Nat) : Int) ∧ j ≤ un ∧ Hid (Ps W F fs E B A f0 ((((∀ j : Nat, (k : Int) < (j : Int) → j < F.steps.length → Sat F B A j) ∧ ∀ k' ∈ followsP F k, ∀ p, p < F.types.length → A k' p = true → B k p = true) ∧ ∀ q : Nat, q < tn → B k q = true → (q : Int) ≠ writesP x → A k q = true) ∧ ∀ y ∈ (usesP x).take j, ∀ q : Nat, (q : Int) = y → A k q = true) m B1 A1 wz) ∧ Hid (IntsAt wz (fun y => y ∈ RR) (.slice la' un lc') (usesP x))) (fun _ jv _ => (un - intOf jv).toNat)
                      case atStart => exact ⟨m, 0, B1, A1, rfl, rfl, Nat.zero_le _, HP7, HJ0⟩
                      case round =>
                        clear HP7 HJ0
                        obtain ⟨w11, rfl⟩ : ∃ w11 : World, w11 = wr := ⟨_, rfl⟩
                        obtain ⟨m, j, B1, A1, rfl, rfl, hj, HP, HJ⟩ := hrel
                        by_cases hlt7 : j < un
                        · have hju : j < (usesP x).length := by rw [← HUN.out]; exact hlt7
                          have hum : (usesP x)[j] ∈ usesP x := List.getElem_mem _
                          have hub := HH.out.2.2.2.2 x HX.out.2.2.1 _ hum
                          obtain ⟨q, hq⟩ := Int.eq_ofNat_of_zero_le hub.1
                          have hqt : q < F.types.length := by omega
                          have hqi : (q : Int) < (tn : Int) := by rw [HTN.out]; omega
                          have hji : (j : Int) < (un : Int) := by omega
                          have hIl := HJ.out
                          rw [HUN.out] at hIl
                          obtain ⟨gl, ol, hle, hcl⟩ := hIl.get hju
                          subst hle
                          rw [hq] at hcl
                          have cA := HP.out.st.a.sl HX.out.2.2.2.2
                          rw [HGBA.out.2, ← HTN.out] at cA
                          have hca := (HP.out.st.a.bit HX.out.2.2.2.2 hqt).1
                          have hza := (HP.out.st.a.bit HX.out.2.2.2.2 hqt).2
                          obtain ⟨ab, hab⟩ : ∃ ab, ab = A1 k q := ⟨_, rfl⟩
                          rw [← hab] at hca
                          have hqm : (q : Int) ∈ usesP x := by rw [← hq]; exact hum
                          have HQ := Lib.hid (And.intro True.intro (And.intro True.intro (And.intro hqt (And.intro hab (And.intro hqm hlt7)))))
                          have hnx : ∀ A2 : Nat → Nat → Bool, A2 k q = true → (∀ y ∈ (usesP x).take j, ∀ q : Nat, (q : Int) = y → A2 k q = true) → ∀ y ∈ (usesP x).take (j + 1), ∀ q : Nat, (q : Int) = y → A2 k q = true := fun A2 h1 h2 y hy r hr => by
                            rw [List.take_succ_eq_append_getElem hju, List.mem_append, List.mem_singleton] at hy
                            rcases hy with hy | hy
                            · exact h2 y hy r hr
                            · have : r = q := by rw [hq] at hy; omega
                              rw [this]; exact h1
                          have HNX := Lib.hid hnx
                          clear hju hum hub hq hqt hIl hab hlt7 hnx hqm
                          cases ab with
                          | true =>
                            go_wp2_with fail
                            exact ⟨⟨m, j + 1, B1, A1, rfl, by go_num, by have := HQ.out.2.2.2.2.2; omega, Lib.hid (HP.out.more fun _ _ h2 g => ⟨g.1, HNX.out A (by rw [← h2]; exact HQ.out.2.2.2.1.symm) g.2⟩), HJ⟩, by have := HQ.out.2.2.2.2.2; simp [intOf]; omega⟩
                          | false =>
                            go_wp2_with fail
                            have hset := HP.out.setA (G' := ((((∀ j : Nat, (k : Int) < (j : Int) → j < F.steps.length → Sat F B A j) ∧ ∀ k' ∈ followsP F k, ∀ p, p < F.types.length → A k' p = true → B k p = true) ∧ ∀ q : Nat, q < tn → B k q = true → (q : Int) ≠ writesP x → A k q = true) ∧ ∀ y ∈ (usesP x).take (j + 1), ∀ q : Nat, (q : Int) = y → A k q = true)) HX.out.2.2.2.2 HQ.out.2.2.1 HQ.out.2.2.2.1.symm (fun Bc Ac hc => hc.use k x (q : Int) HX.out.2.1 HQ.out.2.2.2.2.1)
                            exact ⟨⟨true, j + 1, B1, _, rfl, by go_num, by have := HQ.out.2.2.2.2.2; omega, Lib.hid hset, Lib.hid (HJ.out.mods ((mods_set w11 rA q (.bool true)).mono fun y _ e => by rw [e, HRR.out]; exact List.mem_append.2 (Or.inr (List.mem_of_getElem? HX.out.2.2.2.2))) (fun _ _ h => h))⟩, by have := HQ.out.2.2.2.2.2; simp [intOf]; omega⟩
                        · obtain rfl : un = j := by omega
                          have hji : ¬ (un : Int) < (un : Int) := by omega
                          clear hlt7
                          go_wp2_with fail
                          refine ⟨⟨m, (k : Int) - 1, B1, A1, rfl, by go_num, by omega, by omega, Lib.hid (HP.out.more fun _ _ _ g => fun i hi hl => ?_)⟩, by simp [intOf]⟩
                          by_cases hik : i = k
                          · subst hik
                            refine ⟨g.1.1.2, fun s hs p hp hb hw => ?_, fun s hs p hp => ?_⟩
                            · have hsx : s = x := by have h := HX.out.2.1; rw [hs] at h; exact Option.some.inj h
                              subst hsx
                              exact g.1.2 p (by rw [HTN.out]; exact hp) hb hw
                            · have hsx : s = x := by have h := HX.out.2.1; rw [hs] at h; exact Option.some.inj h
                              subst hsx
                              exact g.2 (p : Int) (by rw [HUN.out, List.take_length]; exact hp) p rfl
                          · exact g.1.1.1 i (by omega) hl
            · have hzz : z = -1 := by omega
              subst hzz
              have hsat := HP.out
              have hneg : ¬ ((0 : Int) ≤ -1) := by omega
              clear hz hz1 hz2 hsat
              go_wp2_with fail
              refine ⟨⟨m, B1, A1, rfl, Lib.hid HP.out.st, Lib.hid fun hf i hi => ?_⟩, ?_⟩
              · obtain ⟨e1, e2, g, _⟩ := HP.out.keep hf
                rw [e1, e2]
                exact g i (by omega) hi
              · cases m with
                | false =>
                  have h := (HP.out.keep rfl).2.2.2
                  rw [← HRR.out, HF0.out] at h
                  simp only [h]
                  omega
                | true =>
                  have h := HP.out.less rfl
                  rw [← HRR.out, HF0.out] at h
                  simp only
                  omega
end Go.Proofs.YtoajcbfejplfbaaDoor.MidP

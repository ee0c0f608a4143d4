/- Places that a step reads; steps that may come behind one. Conditions: what is asked lies. -/
import Derived.Test.YtoajcbfejplfbaaDoorLiveLab
import Derived.Test.YtoajcbfejplfbaaDoorMidCalw
namespace Go.Proofs.YtoajcbfejplfbaaDoor.MidP
open Go.RowKit Go.Proofs.YtoajcbfejplfbaaDoor.Wo Go.Maps Go.Proofs.YtoajcbfejplfbaaDoor.TreeP
set_option linter.unusedVariables false
set_option linter.unusedSimpArgs false
/-- Numbers in a block are numbers that are only read. -/
theorem ints_blk {W : World} {S : Nat → Prop} {g : Nat} {l : List Int} (h : Blk W g (l.map (Value.int .i64)) 3) (hl : l.length ≤ 1000) (hg : ¬ S g) : IntsAt W S (.slice (some ⟨g, 0, none⟩) l.length l.length) l :=
  ⟨_, _, rfl, Nat.le_refl _, by unfold maxLen; omega, (fun h => by cases h), fun i x hx => ⟨g, 0, rfl, hg, by
    rw [Nat.zero_add]
    exact h.cell (by simp [hx])⟩⟩
theorem blk_second (W : World) (o : Obj) (cs : Array Value) (e : TypeId) : Blk ((W.alloc o).alloc (.cells cs e)) (W.heap.size + 1) cs.toList e := by
  have := Blk.new (W.alloc o) cs e
  simpa using this
set_option maxRecDepth 100000 in
set_option maxHeartbeats 2000000 in
theorem uses_any (s : Stp) (v : Value) (S : Nat → Prop) (W : World) (h : StpV W S s v) (hlen : s.args.length ≤ 1000000) :
    Calls Tryd.prog 81 #[v] W fun e w => ∃ v', e = .returned v' ∧ IntsAt w (fun k => k < W.heap.size) v' (usesP s) ∧ Mods None W w := by
  obtain ⟨aa, ac, rfl, hargs⟩ := h
  obtain ⟨xc, xd, xa, xb, xe, xn, xo, xl, xm, xs⟩ := s
  obtain ⟨an, han⟩ : ∃ an, an = xs.length := ⟨_, rfl⟩
  simp only at hargs hlen ⊢
  have hcl := fun (w : World) (hm : Mods None W w) => clone_ints (hargs.mods (hm.mono fun _ _ f => f.elim) (fun _ _ k => k)) hlen
  have HCL := Lib.hid hcl
  have HAN := Lib.hid han
  rw [← han] at HCL ⊢
  clear han hargs hcl hlen
  unfold usesP
  simp only
  unfold stpL str
  by_cases hc : xc = 2 ∨ xc = 5 ∨ xc = 8 ∨ xc = 9 ∨ xc = 10 ∨ xc = 13
  · rw [if_pos hc]
    rcases hc with rfl | rfl | rfl | rfl | rfl | rfl
    all_goals
      go_enter Tryd.func81, Tryd.ntmps81
      go_wp2_with fail
      go_ret
      exact ⟨_, rfl, ints_blk (l := [xa]) (blk_second _ _ _ _) (by simp) (by omega), ((Mods.refl _ _).alloc _).alloc _⟩
  · rw [if_neg hc]
    by_cases h3 : xc = 3 ∨ xc = 11
    · rw [if_pos h3]
      clear hc
      rcases h3 with rfl | rfl
      all_goals
        go_enter Tryd.func81, Tryd.ntmps81
        go_wp2_with fail
        go_ret
        exact ⟨_, rfl, ints_blk (l := [xa, xb]) (blk_second _ _ _ _) (by simp) (by omega), ((Mods.refl _ _).alloc _).alloc _⟩
    · rw [if_neg h3]
      by_cases h12 : xc = 12
      · rw [if_pos h12]
        subst h12
        clear hc h3
        go_enter Tryd.func81, Tryd.ntmps81
        go_wp2_with fail
        go_ret
        exact ⟨_, rfl, ints_blk (l := [xa, xb, xe]) (blk_second _ _ _ _) (by simp) (by omega), ((Mods.refl _ _).alloc _).alloc _⟩
      · rw [if_neg h12]
        by_cases h7 : xc = 7
        · rw [if_pos h7]
          subst h7
          clear hc h3 h12
          obtain ⟨W1, hW1⟩ : ∃ W1, W1 = W.alloc (.cells #[.int .i64 7, .int .i64 xd, .int .i64 xa, .int .i64 xb, .int .i64 xe, .int .i64 xn, .string ⟨xo.toArray⟩, .int .i64 xl, .string ⟨xm.toArray⟩, .slice aa an ac] 44) := ⟨_, rfl⟩
          have hm1 : Mods None W W1 := by rw [hW1]; exact (Mods.refl _ _).alloc _
          have hb1 : Blk W1 W.heap.size [.int .i64 7, .int .i64 xd, .int .i64 xa, .int .i64 xb, .int .i64 xe, .int .i64 xn, .string ⟨xo.toArray⟩, .int .i64 xl, .string ⟨xm.toArray⟩, .slice aa an ac] 44 := by rw [hW1]; exact Blk.new W _ _
          have d0 := hb1.cell (i := 0) rfl
          have d9 := hb1.cell (i := 9) rfl
          have HC := Lib.hid (HCL.out W1 hm1)
          have HM1 := Lib.hid hm1
          clear hm1 hb1 HCL
          go_enter Tryd.func81, Tryd.ntmps81
          go_upto_region 1 with (fail)
          rw [← hW1]
          clear hW1
          go_wp2_with fail
          go_at_call 89
          refine HC.out.mono ?_
          rintro e w ⟨v', rfl, hown, hm⟩
          have HOW := Lib.hid (And.intro hown hm)
          clear hown hm HC d0 d9
          go_wp2_with fail
          go_ret
          have ho := HOW.out.1
          rw [HAN.out] at ho
          exact ⟨_, rfl, ints_of_row ho (fun k hk h => by have h1 := (ho.lt k hk).1; have h2 := HM1.out.size; omega), HM1.out.trans HOW.out.2⟩
        · rw [if_neg h7]
          have g2 : (xc == 2) = false := by simp; omega
          have g5 : (xc == 5) = false := by simp; omega
          have g8 : (xc == 8) = false := by simp; omega
          have g9 : (xc == 9) = false := by simp; omega
          have g10 : (xc == 10) = false := by simp; omega
          have g13 : (xc == 13) = false := by simp; omega
          have g3 : (xc == 3) = false := by simp; omega
          have g11 : (xc == 11) = false := by simp; omega
          have g12 : (xc == 12) = false := by simp; omega
          have g7 : (xc == 7) = false := by simp; omega
          clear hc h3 h12 h7
          go_enter Tryd.func81, Tryd.ntmps81
          go_wp2_with fail
          go_ret
          exact ⟨_, rfl, ints_nil _ _, (Mods.refl _ _).alloc _⟩
/-- A step of a function, in a box of its own. -/
theorem fol_len (f : Fm) (i : Nat) : (followsP f i).length ≤ 2 := by
  unfold followsP
  split
  · simp
  · split <;> split <;> simp
set_option maxRecDepth 100000 in
set_option maxHeartbeats 4000000 in
theorem follows_any {W : World} {S : Nat → Prop} {F : Fm} {fv : Value} (hv : FmV W S F fv) {bm n : Nat} (hlab : IntMap W bm n (.int .i64 0) (fun l => .int .i64 (labelAt F.steps l 0 0))) (hl64 : ∀ s ∈ F.steps, I64 s.label) (hlen : F.steps.length ≤ 6000) {i : Nat} (hi : i < F.steps.length) :
    Calls Tryd.prog 80 #[fv, .map (some bm), .int .i64 i] W fun e w => ∃ v', e = .returned v' ∧ IntsAt w (fun k => k < W.heap.size) v' ((followsP F i).map Int.ofNat) ∧ Mods None W w := by
  obtain ⟨ta, tc, sa, sc, rfl, hty, hst⟩ := hv
  obtain ⟨x, hxi⟩ : ∃ x, F.steps[i]? = some x := ⟨_, List.getElem?_eq_getElem hi⟩
  have hxe : F.steps[i] = x := by
    obtain ⟨h1, h2⟩ := List.getElem?_eq_some_iff.1 hxi
    exact h2
  have hxm : x ∈ F.steps := List.mem_of_getElem? hxi
  obtain ⟨gs, os, xa, xc, rfl, hcs, hxargs⟩ := hst.get hi
  rw [hxe] at hcs hxargs
  obtain ⟨y0, y1, y2, y3, y4, y5, y6, y7, y8, y9⟩ := hcs
  obtain ⟨W1, hW1⟩ : ∃ W1, W1 = W.alloc (.cells #[str F.name, .int .i64 F.params, .slice ta F.types.length tc, .slice (some ⟨gs, os, none⟩) F.steps.length sc] 35) := ⟨_, rfl⟩
  obtain ⟨xn, hxn⟩ : ∃ xn, xn = x.args.length := ⟨_, rfl⟩
  obtain ⟨W2, hW2⟩ : ∃ W2, W2 = W1.alloc (.cells (stpL x (.slice xa xn xc)).toArray 44) := ⟨_, rfl⟩
  have hm1 : Mods None W W1 := by rw [hW1]; exact (Mods.refl _ _).alloc _
  have hb1 : Blk W1 W.heap.size [str F.name, .int .i64 F.params, .slice ta F.types.length tc, .slice (some ⟨gs, os, none⟩) F.steps.length sc] 35 := by rw [hW1]; exact Blk.new W _ _
  have hm2 : Mods None W1 W2 := by rw [hW2]; exact (Mods.refl _ _).alloc _
  have hb2 : Blk W2 W1.heap.size (stpL x (.slice xa xn xc)) 44 := by rw [hW2]; exact Blk.new W1 _ _
  have hlk := (hlab.mods (hm1.trans hm2) (fun f => f)).look (t := 72) Tryd.underlying72 (e := 3) (by kernel_rfl) (hl64 x hxm)
  obtain ⟨lm, hlm⟩ : ∃ lm, lm = labelAt F.steps x.label 0 0 := ⟨_, rfl⟩
  rw [← hlm] at hlk
  have hlm6 : lm ≤ 6000 := by rw [hlm]; exact labelAt_le _ _ _ _ _ (by omega) (by omega)
  obtain ⟨sn, hsn⟩ : ∃ sn, sn = F.steps.length := ⟨_, rfl⟩
  obtain ⟨tn, htn⟩ : ∃ tn, tn = F.types.length := ⟨_, rfl⟩
  rw [← hxn] at y9
  rw [← hsn, ← htn] at hW1 hb1
  rw [← htn]
  rw [← hsn]
  have b3 := (hb1.mods hm2 (fun f => f)).cell (i := 3) rfl
  have b31 := hb1.cell (i := 3) rfl
  have y0 := hm1.cellOf y0 (fun f => f)
  have y1 := hm1.cellOf y1 (fun f => f)
  have y2 := hm1.cellOf y2 (fun f => f)
  have y3 := hm1.cellOf y3 (fun f => f)
  have y4 := hm1.cellOf y4 (fun f => f)
  have y5 := hm1.cellOf y5 (fun f => f)
  have y6 := hm1.cellOf y6 (fun f => f)
  have y7 := hm1.cellOf y7 (fun f => f)
  have y8 := hm1.cellOf y8 (fun f => f)
  have y9 := hm1.cellOf y9 (fun f => f)
  have d0 := hb2.cell (i := 0) rfl
  have d7 := hb2.cell (i := 7) rfl
  have hpi : (i : Int) < (sn : Int) := by omega
  have hi6 : i < 6000 := by omega
  have hcap : (sn : Int) ≤ 6000 := by omega
  obtain ⟨R, hR⟩ : ∃ R, R = (followsP F i).map Int.ofNat := ⟨_, rfl⟩
  have HR : Hid (R = ((if x.code = 4 ∨ x.code = 5 then [(lm : Int)] else []) ++ (if x.code ≠ 4 ∧ x.code ≠ 8 ∧ i + 1 < sn then [((i : Int) + 1)] else []))) := Lib.hid (by
    rw [hR, hsn]
    unfold followsP atP
    rw [hxi, hlm]
    simp only
    split <;> split <;> simp)
  rw [← hR]
  have HM2 := Lib.hid (hm1.trans hm2)
  clear hxi hxe hxm hxargs hm1 hb1 hm2 hb2 hlab hl64 hlen hi hlm hsn htn hxn hR hty hst
  unfold stpL str at *
  go_enter Tryd.func80, Tryd.ntmps80
  go_upto_region 1 with (fail)
  rw [← hW1]
  clear hW1
  go_upto_region 3 with (fail)
  rw [← hW2]
  clear hW2 y0 y1 y2 y3 y4 y5 y6 y7 y8 y9 b31
  obtain ⟨i0, hi0, hz0, hz1, hz2⟩ := info_parts int_info
  have HI := Lib.hid (And.intro hi0 (And.intro hz0 (And.intro hz1 hz2)))
  have HWS : Hid (W.heap.size ≤ W2.heap.size) := Lib.hid HM2.out.size
  have hcst := fun (w : World) (a : Int) => one_new w (.int .i64 a) 3
  have HON := Lib.hid hcst
  clear hi0 hz0 hz1 hz2 hcst
  by_cases h4 : x.code = 4
  · have g4 : (x.code == 4) = true := by simp [h4]
    have n4 : (x.code != 4) = false := by simp [h4]
    have n8 : (x.code != 8) = true := by simp [h4]
    have g8 : (x.code == 8) = false := by simp [h4]
    have H4 := Lib.hid h4
    clear h4
    go_wp2_with (at_builtin; refine wpList_append_own_at _ rfl (.tmp 22) (.tmp 27) 32 rfl W.heap.size 3 i0 _ 1 8 Tryd.underlying32 HI.out.1 HI.out.2.1 HI.out.2.2.1 HI.out.2.2.2 rfl (by decide) (.slice none 0 0) 0 [] rfl (World.ownsRow_nil _ _ _ _) ⟨W2.heap.size, 0, none⟩ 1 1 [.int .i64 lm] rfl rfl (HON.out W2 lm) (ints_oneCell .i64 [(lm : Int)]) (by decide) (by decide) (by have := HWS.out; simp; omega) ?_; intro v' w7 hown hgrow hnil hloc; have HOW := Lib.hid hown; have HGR := Lib.hid hgrow; clear hown hgrow hnil hloc; refine Hid.out ?_)
    refine Lib.hid ?_
    obtain ⟨qa, qc, rfl⟩ := slice_form HOW.out
    have hb7 : Mods None W2 w7 := ((Mods.refl _ W2).alloc _).trans (Mods.of_grownBy HGR.out (fun k hk _ => by simp [Value.ownBlock] at hk))
    have b3 := hb7.cellOf b3 (fun f => f)
    have d0 := hb7.cellOf d0 (fun f => f)
    have HB7 := Lib.hid hb7
    clear hb7
    go_wp2_with fail
    go_ret
    rw [HR.out]
    refine ⟨_, rfl, ?_, HM2.out.trans HB7.out⟩
    rw [if_pos (Or.inl H4.out), if_neg (fun h => h.1 H4.out)]
    exact ints_of_row (l := [(lm : Int)]) HOW.out (fun k hk h => by have h1 := (HOW.out.lt k hk).1; omega)
  · have g4 : (x.code == 4) = false := by simp [h4]
    have n4 : (x.code != 4) = true := by simp [h4]
    by_cases h5 : x.code = 5
    · have g5 : (x.code == 5) = true := by simp [h5]
      have g8 : (x.code == 8) = false := by simp [h5]
      have n8 : (x.code != 8) = true := by simp [h5]
      have H5 := Lib.hid h5
      clear h4 h5
      go_wp2_with (at_builtin; refine wpList_append_own_at _ rfl (.tmp 22) (.tmp 27) 32 rfl W.heap.size 3 i0 _ 1 8 Tryd.underlying32 HI.out.1 HI.out.2.1 HI.out.2.2.1 HI.out.2.2.2 rfl (by decide) (.slice none 0 0) 0 [] rfl (World.ownsRow_nil _ _ _ _) ⟨W2.heap.size, 0, none⟩ 1 1 [.int .i64 lm] rfl rfl (HON.out W2 lm) (ints_oneCell .i64 [(lm : Int)]) (by decide) (by decide) (by have := HWS.out; simp; omega) ?_; intro v' w7 hown hgrow hnil hloc; have HOW := Lib.hid hown; have HGR := Lib.hid hgrow; clear hown hgrow hnil hloc; refine Hid.out ?_)
      refine Lib.hid ?_
      obtain ⟨qa, qc, rfl⟩ := slice_form HOW.out
      have hb7 : Mods None W2 w7 := ((Mods.refl _ W2).alloc _).trans (Mods.of_grownBy HGR.out (fun k hk _ => by simp [Value.ownBlock] at hk))
      have b3 := hb7.cellOf b3 (fun f => f)
      have d0 := hb7.cellOf d0 (fun f => f)
      have HB7 := Lib.hid hb7
      clear hb7
      by_cases hn : i + 1 < sn
      · have hn1 : (i : Int) + 1 < (sn : Int) := by omega
        have HOA := Lib.hid (HOW.out.alloc (.cells #[.int .i64 ((i : Int) + 1)] 3))
        go_wp2_with (at_builtin; refine wpList_append_own_at _ rfl (.tmp 45) (.tmp 48) 32 rfl W.heap.size 3 i0 _ 1 8 Tryd.underlying32 HI.out.1 HI.out.2.1 HI.out.2.2.1 HI.out.2.2.2 rfl (by decide) (.slice qa 1 qc) 1 [.int .i64 lm] rfl HOA.out ⟨w7.heap.size, 0, none⟩ 1 1 [.int .i64 ((i : Int) + 1)] rfl rfl (HON.out w7 _) (ints_oneCell .i64 [(i : Int) + 1]) (by decide) (by decide) (by have := HWS.out; have := HB7.out.size; simp; omega) ?_; intro v' w9 hown hgrow hnil hloc; have HOW9 := Lib.hid hown; have HGR9 := Lib.hid hgrow; clear hown hgrow hnil hloc)
        go_ret
        rw [HR.out]
        have hm9 : Mods None W w9 := ((HM2.out.trans HB7.out).trans ((Mods.refl _ w7).alloc (.cells #[.int .i64 ((i : Int) + 1)] 3))).trans' (Mods.of_grownBy (S := fun k => (Value.slice qa 1 qc).ownBlock = some k) HGR9.out (fun k hk _ => hk)) (fun k hk hl => by have := (HOA.out.lt k hk).1; omega)
        refine ⟨_, rfl, ?_, hm9⟩
        rw [if_pos (Or.inr H5.out), if_pos ⟨by have := H5.out; omega, by have := H5.out; omega, by omega⟩]
        exact ints_of_row (l := [(lm : Int), (i : Int) + 1]) HOW9.out (fun k hk h => by have h1 := (HOW9.out.lt k hk).1; omega)
      · have hn1 : ¬ (i : Int) + 1 < (sn : Int) := by omega
        go_wp2_with fail
        go_ret
        rw [HR.out]
        refine ⟨_, rfl, ?_, HM2.out.trans HB7.out⟩
        rw [if_pos (Or.inr H5.out), if_neg (fun h => hn h.2.2)]
        exact ints_of_row (l := [(lm : Int)]) HOW.out (fun k hk h => by have h1 := (HOW.out.lt k hk).1; omega)
    · have g5 : (x.code == 5) = false := by simp [h5]
      have H45 : Hid (¬ (x.code = 4 ∨ x.code = 5)) := Lib.hid (by omega)
      by_cases h8 : x.code = 8
      · have g8 : (x.code == 8) = true := by simp [h8]
        have n8 : (x.code != 8) = false := by simp [h8]
        have H8 := Lib.hid h8
        clear h4 h5 h8
        go_wp2_with fail
        go_ret
        rw [HR.out]
        refine ⟨_, rfl, ?_, HM2.out⟩
        rw [if_neg H45.out, if_neg (fun h => h.2.1 H8.out)]
        exact ints_nil _ _
      · have g8 : (x.code == 8) = false := by simp [h8]
        have n8 : (x.code != 8) = true := by simp [h8]
        have HC8 := Lib.hid h8
        by_cases hn : i + 1 < sn
        · have hn1 : (i : Int) + 1 < (sn : Int) := by omega
          clear h5 h8
          go_wp2_with (at_builtin; refine wpList_append_own_at _ rfl (.tmp 45) (.tmp 48) 32 rfl W.heap.size 3 i0 _ 1 8 Tryd.underlying32 HI.out.1 HI.out.2.1 HI.out.2.2.1 HI.out.2.2.2 rfl (by decide) (.slice none 0 0) 0 [] rfl (World.ownsRow_nil _ _ _ _) ⟨W2.heap.size, 0, none⟩ 1 1 [.int .i64 ((i : Int) + 1)] rfl rfl (HON.out W2 _) (ints_oneCell .i64 [(i : Int) + 1]) (by decide) (by decide) (by have := HWS.out; simp; omega) ?_; intro v' w7 hown hgrow hnil hloc; have HOW := Lib.hid hown; have HGR := Lib.hid hgrow; clear hown hgrow hnil hloc)
          go_ret
          rw [HR.out]
          refine ⟨_, rfl, ?_, HM2.out.trans (((Mods.refl _ W2).alloc _).trans (Mods.of_grownBy HGR.out (fun k hk _ => by simp [Value.ownBlock] at hk)))⟩
          rw [if_neg H45.out, if_pos ⟨by have := H45.out; omega, HC8.out, by omega⟩]
          exact ints_of_row (l := [(i : Int) + 1]) HOW.out (fun k hk h => by have h1 := (HOW.out.lt k hk).1; omega)
        · have hn1 : ¬ (i : Int) + 1 < (sn : Int) := by omega
          clear h4 h5 h8
          go_wp2_with fail
          go_ret
          rw [HR.out]
          refine ⟨_, rfl, ?_, HM2.out⟩
          rw [if_neg H45.out, if_neg (fun h => hn h.2.2)]
          exact ints_nil _ _
end Go.Proofs.YtoajcbfejplfbaaDoor.MidP

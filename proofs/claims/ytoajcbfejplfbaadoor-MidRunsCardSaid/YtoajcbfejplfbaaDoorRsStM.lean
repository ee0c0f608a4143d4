/- The document's steps: a mark of two. Printed by mkrsst.py. Conditions: what it has lies. The document's steps: a call. Conditions: what it has lies; what is called goes so. -/
import Derived.Test.YtoajcbfejplfbaaDoorRsStA
import Derived.Deep.RegionHeld3
namespace Go.Proofs.YtoajcbfejplfbaaDoor.MidP.R
open Go.RowKit Go.Proofs.YtoajcbfejplfbaaDoor.Wo Go.Maps Go.Proofs.YtoajcbfejplfbaaDoor.TreeP Go.Proofs.YtoajcbfejplfbaaDoor.MidP
set_option linter.unusedVariables false
set_option linter.unusedSimpArgs false
set_option maxRecDepth 100000 in
set_option maxHeartbeats 1000000 in
theorem sd_two {L : List Fm} {F : Fm} {x : Stp} (hc : x.code = 3) : StepD L F x := by
  intro v b g c P M A s la ln lc W aa ac r hin hr
  obtain ⟨h, hv, hty, hrs, ⟨hvc, hc6⟩, hn64, hok, hal⟩ := hin
  obtain ⟨-, f1, f2, f3, f4⟩ := right_forms hok (by omega) (by omega)
  rw [hc] at f1 f2 f3 f4
  obtain ⟨pd, hpd, hpdl⟩ := fit_place (t := 1) (by decide) f1
  obtain ⟨pa, hpa, hpal⟩ := fit_place (t := 1) (by decide) f2
  have ta := hty.get (fit_kind (t := 1) (by decide) f2) (by decide)
  obtain ⟨pb, hpb, hpbl⟩ := fit_place (t := 1) (by decide) f3
  have tb := hty.get (fit_kind (t := 1) (by decide) f3) (by decide)
  clear f1 f2 f3 f4
  rw [← hty.1] at hpdl
  rw [← hty.1] at hpal
  rw [← hty.1] at hpbl
  unfold stepM at hr
  rw [if_neg (by omega), if_neg (by omega), if_pos hc] at hr
  obtain ⟨xc, xd, xa, xb, xe, xn, xo, xl, xm, xs⟩ := x
  simp only at hc hpd hpa hpb ta tb hr hn64
  subst hc hpd hpa hpb
  obtain ⟨W1, hW1⟩ : ∃ W1, W1 = W.alloc (.cells (stpL ⟨3, (pd : Int), (pa : Int), (pb : Int), xe, xn, xo, xl, xm, xs⟩ (.slice aa xs.length ac)).toArray 65) := ⟨_, rfl⟩
  have HM : Mods None W W1 := by rw [hW1]; exact (Mods.refl _ _).alloc _
  have HS : Hid (Rx W W1 P M g W.heap.size (stpL ⟨3, (pd : Int), (pa : Int), (pb : Int), xe, xn, xo, xl, xm, xs⟩ (.slice aa xs.length ac))) := Lib.hid (by rw [hW1]; exact Rx.new h hv _)
  have HR := Lib.hid (h.quiet HM)
  have HV := Lib.hid (hv.ext (Ext.quiet (T := None) HM) (fun f => f))
  have HE : Hid (Ext (· = g) M M W W1) := Lib.hid (Ext.quiet HM)
  have HTY := Lib.hid (And.intro hty (And.intro hrs (And.intro hn64 hal)))
  have c0 : W1.cell? ⟨W.heap.size, 0, none⟩ = some (.int .i64 3) := HS.out.blk.cell (i := 0) rfl
  have kd : W1.cell? ⟨W.heap.size, 1, none⟩ = some (.int .i64 (pd : Int)) := HS.out.blk.cell (i := 1) rfl
  have ed := HV.out.get hpdl
  have qd : (pd : Int) < (v.length : Int) := by omega
  have PLd := Lib.hid hpdl
  obtain ⟨rd, hrd⟩ : ∃ rd, rd = rep (v.get (pd : Int)) := ⟨_, rfl⟩
  rw [← hrd] at ed
  have HRPd := Lib.hid hrd
  clear hrd
  clear hpdl
  have zd : W1.frozen? ⟨g, pd, none⟩ = false := HV.out.1.free _
  have ka : W1.cell? ⟨W.heap.size, 2, none⟩ = some (.int .i64 (pa : Int)) := HS.out.blk.cell (i := 2) rfl
  have ea := HV.out.get hpal
  have qa : (pa : Int) < (v.length : Int) := by omega
  have PLa := Lib.hid hpal
  rw [rep_num (ta.2.1 rfl)] at ea
  have hna := ta.1
  obtain ⟨na, hnae⟩ : ∃ na, na = (v.get (pa : Int)).n := ⟨_, rfl⟩
  rw [← hnae] at ea hr hna
  have HNa := Lib.hid hnae
  have HIa := Lib.hid hna
  clear hnae hna ta
  clear hpal
  have za : W1.frozen? ⟨g, pa, none⟩ = false := HV.out.1.free _
  have kb : W1.cell? ⟨W.heap.size, 3, none⟩ = some (.int .i64 (pb : Int)) := HS.out.blk.cell (i := 3) rfl
  have eb := HV.out.get hpbl
  have qb : (pb : Int) < (v.length : Int) := by omega
  have PLb := Lib.hid hpbl
  rw [rep_num (tb.2.1 rfl)] at eb
  have hnb := tb.1
  obtain ⟨nb, hnbe⟩ : ∃ nb, nb = (v.get (pb : Int)).n := ⟨_, rfl⟩
  rw [← hnbe] at eb hr hnb
  have HNb := Lib.hid hnbe
  have HIb := Lib.hid hnb
  clear hnbe hnb tb
  clear hpbl
  have zb : W1.frozen? ⟨g, pb, none⟩ = false := HV.out.1.free _
  obtain ⟨n, hn⟩ : ∃ n, n = v.length := ⟨_, rfl⟩
  have HN := Lib.hid hn
  rw [← hn] at qd qa qb hvc ⊢
  clear h hv hty hrs hn64 hok HM hal hn
  unfold stpL str at *
  have k6 : W1.cell? ⟨W.heap.size, 6, none⟩ = some (.string ⟨xo.toArray⟩) := HS.out.blk.cell (i := 6) rfl
  have HSX : Hid (∀ w', Mods (· = g) W1 w' → (w'.cell? ⟨W.heap.size, 1, none⟩ = some (.int .i64 (pd : Int)) ∧ w'.cell? ⟨W.heap.size, 2, none⟩ = some (.int .i64 (pa : Int)) ∧ w'.cell? ⟨W.heap.size, 3, none⟩ = some (.int .i64 (pb : Int)) ∧ w'.cell? ⟨W.heap.size, 6, none⟩ = some (.string ⟨xo.toArray⟩))) := Lib.hid (fun w' hm => ⟨hm.cellOf kd (fun e => HS.out.far e), hm.cellOf ka (fun e => HS.out.far e), hm.cellOf kb (fun e => HS.out.far e), hm.cellOf k6 (fun e => HS.out.far e)⟩)
  have HR1 := Lib.hid (HR.out.quiet (Mods.refl None W1).drew)
  have HS1 := Lib.hid (HS.out.step (Ext.quiet (T := None) (Mods.refl None W1).drew) (fun f => f))
  have HV1 := Lib.hid (HV.out.ext (Ext.quiet (T := None) (Mods.refl None W1).drew) (fun f => f))
  have HE1 := Lib.hid (HE.out.trans (Ext.quiet (Mods.refl None W1).drew))
  have hway := both_way xo na nb
  have hCC := rboth_any xo na nb HIa.out HIb.out W1.drew
  obtain ⟨rn, hrn⟩ : ∃ rn, rn = (bothP xo na nb).1 := ⟨_, rfl⟩
  obtain ⟨rw_, hrw⟩ : ∃ rw_, rw_ = (bothP xo na nb).2 := ⟨_, rfl⟩
  rw [← hrn, ← hrw] at hr
  rw [← hrw] at hway
  unfold pairV str at hCC
  rw [← hrn, ← hrw] at hCC
  have HC := Lib.hid hCC
  clear hCC hrn hrw
  have hcase : (rw_ ≠ 0 ∧ (rw_ != 0) = true) ∨ (rw_ = 0 ∧ (rw_ != 0) = false) := by
    by_cases h0 : rw_ = 0
    · exact Or.inr ⟨h0, by simpa using h0⟩
    · exact Or.inl ⟨h0, by simpa using h0⟩
  rcases hcase with ⟨h0, h1⟩ | ⟨h0, h1⟩
  · rw [if_pos h0] at hr
    obtain rfl := (Option.some.inj hr).symm
    have HEND := Lib.hid (fun (w : World) (hw : WAt w b P M A s) => ends_any rw_ (by omega) b P M A s w hw)
    clear hr h0 hway
    go_enter Tryd.func56, Tryd.ntmps56
    go_upto_region 1 with (fail)
    rw [← hW1]
    clear hW1
    go_wp2_with fail
    refine wp_region_held_drew (S := (fun w' => w'.cell? ⟨W.heap.size, 1, none⟩ = some (.int .i64 (pd : Int)) ∧ w'.cell? ⟨W.heap.size, 2, none⟩ = some (.int .i64 (pa : Int)) ∧ w'.cell? ⟨W.heap.size, 3, none⟩ = some (.int .i64 (pb : Int)) ∧ w'.cell? ⟨W.heap.size, 6, none⟩ = some (.string ⟨xo.toArray⟩))) (by kernel_rfl) (HSX.out _ (Mods.refl _ _).drew) (fun hHeld => ?_)
    refine wpAnyH_take (i := 0) (oi := ⟨some 37, _, _, _, _, _⟩) (v := ?_) rfl (by kernel_rfl) (by kernel_rfl) (by kernel_rfl) (fun _ _ _ h => h) (Or.inl ⟨by rfl, ?_⟩) (by assumption) ?_
    rotate_left
    · intro w hSw; (try dsimp only at hSw); go_simp; try with_reducible rfl
    try simp only [Act.put, List.setIfInBounds_toArray, List.set_cons_zero, List.set_cons_succ]
    refine wpAnyH_take (i := 1) (oi := ⟨some 38, _, _, _, _, _⟩) (v := ?_) rfl (by kernel_rfl) (by kernel_rfl) (by kernel_rfl) (fun _ _ _ h => h) (Or.inl ⟨by rfl, ?_⟩) (by assumption) ?_
    rotate_left
    · intro w hSw; (try dsimp only at hSw); go_simp; try with_reducible rfl
    try simp only [Act.put, List.setIfInBounds_toArray, List.set_cons_zero, List.set_cons_succ]
    refine wpAnyH_take (i := 2) (oi := ⟨some 39, _, _, _, _, _⟩) (v := ?_) rfl (by kernel_rfl) (by kernel_rfl) (by kernel_rfl) (fun _ _ _ h => h) (Or.inl ⟨by rfl, ?_⟩) (by assumption) ?_
    rotate_left
    · intro w hSw; (try dsimp only at hSw); go_simp; try with_reducible rfl
    try simp only [Act.put, List.setIfInBounds_toArray, List.set_cons_zero, List.set_cons_succ]
    refine wpAnyH_take (i := 3) (oi := ⟨some 40, _, _, _, _, _⟩) (v := ?_) rfl (by kernel_rfl) (by kernel_rfl) (by kernel_rfl) (fun _ _ _ h => h) (Or.inl ⟨by rfl, ?_⟩) (by assumption) ?_
    rotate_left
    · intro w hSw; (try dsimp only at hSw); go_simp; try with_reducible rfl
    try simp only [Act.put, List.setIfInBounds_toArray, List.set_cons_zero, List.set_cons_succ]
    refine wpAnyH_take (i := 4) (oi := ⟨some 41, _, _, _, _, _⟩) (v := ?_) rfl (by kernel_rfl) (by kernel_rfl) (by kernel_rfl) (fun _ _ _ h => h) (Or.inl ⟨by rfl, ?_⟩) (by assumption) ?_
    rotate_left
    · intro w hSw; (try dsimp only at hSw); go_simp; try with_reducible rfl
    try simp only [Act.put, List.setIfInBounds_toArray, List.set_cons_zero, List.set_cons_succ]
    refine wpAnyH_take (i := 5) (oi := ⟨some 42, _, _, _, _, _⟩) (v := ?_) rfl (by kernel_rfl) (by kernel_rfl) (by kernel_rfl) (fun _ _ _ h => h) (Or.inl ⟨by rfl, ?_⟩) (by assumption) ?_
    rotate_left
    · intro w hSw; (try dsimp only at hSw); go_simp; try with_reducible rfl
    try simp only [Act.put, List.setIfInBounds_toArray, List.set_cons_zero, List.set_cons_succ]
    refine wpAnyH_take (i := 6) (oi := ⟨some 43, _, _, _, _, _⟩) (v := ?_) rfl (by kernel_rfl) (by kernel_rfl) (by kernel_rfl) (fun _ _ _ h => h) (Or.inl ⟨by rfl, ?_⟩) (by assumption) ?_
    rotate_left
    · intro w hSw; (try dsimp only at hSw); go_simp; try with_reducible rfl
    try simp only [Act.put, List.setIfInBounds_toArray, List.set_cons_zero, List.set_cons_succ]
    refine wpAnyH_take (i := 7) (oi := ⟨some 44, _, _, _, _, _⟩) (v := ?_) rfl (by kernel_rfl) (by kernel_rfl) (by kernel_rfl) (fun _ _ _ h => h) (Or.inl ⟨by rfl, ?_⟩) (by assumption) ?_
    rotate_left
    · intro w hSw; (try dsimp only at hSw); go_simp; try with_reducible rfl
    try simp only [Act.put, List.setIfInBounds_toArray, List.set_cons_zero, List.set_cons_succ]
    refine wpAnyH_take (i := 8) (oi := ⟨some 45, _, _, _, _, _⟩) (v := ?_) rfl (by kernel_rfl) (by kernel_rfl) (by kernel_rfl) (fun _ _ _ h => h) (Or.inl ⟨by rfl, ?_⟩) (by assumption) ?_
    rotate_left
    · intro w hSw; (try dsimp only at hSw); go_simp; try with_reducible rfl
    try simp only [Act.put, List.setIfInBounds_toArray, List.set_cons_zero, List.set_cons_succ]
    refine wpAnyH_take (i := 10) (oi := ⟨some 47, _, _, _, _, _⟩) (v := ?_) rfl (by kernel_rfl) (by kernel_rfl) (by kernel_rfl) (fun _ _ _ h => h) (Or.inl ⟨by rfl, ?_⟩) (by assumption) ?_
    rotate_left
    · intro w hSw; (try dsimp only at hSw); go_simp; try with_reducible rfl
    try simp only [Act.put, List.setIfInBounds_toArray, List.set_cons_zero, List.set_cons_succ]
    refine wpAnyH_take (i := 11) (oi := ⟨some 48, _, _, _, _, _⟩) (v := ?_) rfl (by kernel_rfl) (by kernel_rfl) (by kernel_rfl) (fun _ _ _ h => h) (Or.inl ⟨by rfl, ?_⟩) (by assumption) ?_
    rotate_left
    · intro w hSw; (try dsimp only at hSw); go_simp; try with_reducible rfl
    try simp only [Act.put, List.setIfInBounds_toArray, List.set_cons_zero, List.set_cons_succ]
    refine wpAnyH_take (i := 12) (oi := ⟨some 49, _, _, _, _, _⟩) (v := ?_) rfl (by kernel_rfl) (by kernel_rfl) (by kernel_rfl) (fun _ _ _ h => h) (Or.inl ⟨by rfl, ?_⟩) (by assumption) ?_
    rotate_left
    · intro w hSw; (try dsimp only at hSw); go_simp; try with_reducible rfl
    try simp only [Act.put, List.setIfInBounds_toArray, List.set_cons_zero, List.set_cons_succ]
    refine wpAnyH_take (i := 13) (oi := ⟨some 50, _, _, _, _, _⟩) (v := ?_) rfl (by kernel_rfl) (by kernel_rfl) (by kernel_rfl) (fun _ _ _ h => h) (Or.inl ⟨by rfl, ?_⟩) (by assumption) ?_
    rotate_left
    · intro w hSw; (try dsimp only at hSw); go_simp; try with_reducible rfl
    try simp only [Act.put, List.setIfInBounds_toArray, List.set_cons_zero, List.set_cons_succ]
    refine wpAnyH_ready (rs := [9, 14]) (by kernel_rfl) (by simp) ?_
    refine AllReadyH.cons rfl (fun K hK => ?_) (AllReadyH.cons rfl (fun K hK => ?_) AllReadyH.nil)
    · go_simp
      refine hK.out _ _ (HSX.out _ (Mods.refl _ _).drew) (fun hHeld => ?_)
      clear hK K
      try simp only [Act.put, List.setIfInBounds_toArray, List.set_cons_zero, List.set_cons_succ]
      refine wpAnyH_ready (rs := [14]) (by kernel_rfl) (by simp) ?_
      refine AllReadyH.cons rfl (fun K hK => ?_) ?_
      rotate_left
      exact AllReadyH.nil
      go_simp
      refine hK.out _ _ (HSX.out _ (Mods.refl _ _).drew) (fun hHeld => ?_)
      clear hK K
      try simp only [Act.put, List.setIfInBounds_toArray, List.set_cons_zero, List.set_cons_succ]
      refine wpAnyH_ready (rs := [15]) (by kernel_rfl) (by simp) ?_
      refine AllReadyH.cons rfl (fun K hK => ?_) ?_
      rotate_left
      exact AllReadyH.nil
      go_simp
      go_at_call 7
      refine HC.out.mono ?_
      rintro e w3 ⟨rfl, hm3⟩
      have HM3 := Lib.hid hm3
      have HR3 := Lib.hid (HR1.out.quiet hm3)
      have HV3 := Lib.hid (HV1.out.ext (Ext.quiet (T := None) (M := M) hm3) (fun f => f))
      have ed := HV3.out.get PLd.out
      have zd : w3.frozen? ⟨g, pd, none⟩ = false := HV3.out.1.free _
      clear hm3
      go_simp
      refine hK.out _ _ (HSX.out _ (((Mods.refl _ _).drew.trans HM3.out).mono fun _ _ f => f.elim)) (fun hHeld => ?_)
      clear hK K
      try simp only [Act.put, List.setIfInBounds_toArray, List.set_cons_zero, List.set_cons_succ]
      refine wpAnyH_take (i := 16) (oi := ⟨some 36, _, _, _, _, _⟩) (v := ?_) rfl (by kernel_rfl) (by kernel_rfl) (by kernel_rfl) (fun _ _ _ h => h) (Or.inl ⟨by rfl, ?_⟩) (by assumption) ?_
      rotate_left
      · intro w hSw; (try dsimp only at hSw); go_simp; try with_reducible rfl
      try simp only [Act.put, List.setIfInBounds_toArray, List.set_cons_zero, List.set_cons_succ]
      refine wpAnyH_take (i := 17) (oi := ⟨some 53, _, _, _, _, _⟩) (v := ?_) rfl (by kernel_rfl) (by kernel_rfl) (by kernel_rfl) (fun _ _ _ h => h) (Or.inl ⟨by rfl, ?_⟩) (by assumption) ?_
      rotate_left
      · intro w hSw; (try dsimp only at hSw); go_simp; try with_reducible rfl
      try simp only [Act.put, List.setIfInBounds_toArray, List.set_cons_zero, List.set_cons_succ]
      refine wpAnyH_take (i := 18) (oi := ⟨some 54, _, _, _, _, _⟩) (v := ?_) rfl (by kernel_rfl) (by kernel_rfl) (by kernel_rfl) (fun _ _ _ h => h) (Or.inl ⟨by rfl, ?_⟩) (by assumption) ?_
      rotate_left
      · intro w hSw; (try dsimp only at hSw); go_simp; try with_reducible rfl
      try simp only [Act.put, List.setIfInBounds_toArray, List.set_cons_zero, List.set_cons_succ]
      refine wpAnyH_take (i := 19) (oi := ⟨some 55, _, _, _, _, _⟩) (v := ?_) rfl (by kernel_rfl) (by kernel_rfl) (by kernel_rfl) (fun _ _ _ h => h) (Or.inl ⟨by rfl, ?_⟩) (by assumption) ?_
      rotate_left
      · intro w hSw; (try dsimp only at hSw); go_simp; try with_reducible rfl
      try simp only [Act.put, List.setIfInBounds_toArray, List.set_cons_zero, List.set_cons_succ]
      have HM4 : Hid (Mods (· = g) W1 (w3.setCell ⟨g, pd, none⟩ (.int .i64 rn))) := Lib.hid ((((Mods.refl _ _).drew.trans HM3.out).mono fun _ _ f => f.elim).trans (mods_put _ _ _ _))
      refine wpAnyH_ready (rs := [20]) (by kernel_rfl) (by simp) ?_
      refine AllReadyH.cons rfl (fun K hK => ?_) ?_
      rotate_left
      exact AllReadyH.nil
      go_simp
      refine hK.out _ _ (HSX.out _ HM4.out) (fun hHeld => ?_)
      clear hK K
      try simp only [Act.put, List.setIfInBounds_toArray, List.set_cons_zero, List.set_cons_succ]
      refine wpAnyH_take (i := 21) (oi := ⟨some 8, _, _, _, _, _⟩) (v := ?_) rfl (by kernel_rfl) (by kernel_rfl) (by kernel_rfl) (fun _ _ _ h => h) (Or.inl ⟨by rfl, ?_⟩) (by assumption) ?_
      rotate_left
      · intro w hSw; (try dsimp only at hSw); go_simp; try with_reducible rfl
      try simp only [Act.put, List.setIfInBounds_toArray, List.set_cons_zero, List.set_cons_succ]
      refine wpAnyH_done (by kernel_rfl) ?_ _
      go_wp2_with fail
      go_at_call 74
      refine (HEND.out _ (HR3.out.aside (S := (· = g)) (mods_put _ _ _ _) (fun k hk => by rw [hk]; exact HV3.out.2))).mono ?_
      rintro e w4 ⟨rfl, k1, k2⟩
      have HK1 := Lib.hid k1
      have HK2 := Lib.hid (k2 (· = g))
      clear k1 k2
      go_wp2_with fail
      go_end0
      exact nstop_done HK1.out ((HE1.out.trans (Ext.quiet HM3.out)).trans ((Ext.aside (S := (· = g)) (mods_put _ _ _ _) (fun _ _ f => f)).trans HK2.out)) HV3.out.2.1 (Mods.refl _ _)
    · go_simp
      refine hK.out _ _ (HSX.out _ (Mods.refl _ _).drew) (fun hHeld => ?_)
      clear hK K
      try simp only [Act.put, List.setIfInBounds_toArray, List.set_cons_zero, List.set_cons_succ]
      refine wpAnyH_ready (rs := [9]) (by kernel_rfl) (by simp) ?_
      refine AllReadyH.cons rfl (fun K hK => ?_) ?_
      rotate_left
      exact AllReadyH.nil
      go_simp
      refine hK.out _ _ (HSX.out _ (Mods.refl _ _).drew) (fun hHeld => ?_)
      clear hK K
      try simp only [Act.put, List.setIfInBounds_toArray, List.set_cons_zero, List.set_cons_succ]
      refine wpAnyH_ready (rs := [15]) (by kernel_rfl) (by simp) ?_
      refine AllReadyH.cons rfl (fun K hK => ?_) ?_
      rotate_left
      exact AllReadyH.nil
      go_simp
      go_at_call 7
      refine HC.out.mono ?_
      rintro e w3 ⟨rfl, hm3⟩
      have HM3 := Lib.hid hm3
      have HR3 := Lib.hid (HR1.out.quiet hm3)
      have HV3 := Lib.hid (HV1.out.ext (Ext.quiet (T := None) (M := M) hm3) (fun f => f))
      have ed := HV3.out.get PLd.out
      have zd : w3.frozen? ⟨g, pd, none⟩ = false := HV3.out.1.free _
      clear hm3
      go_simp
      refine hK.out _ _ (HSX.out _ (((Mods.refl _ _).drew.trans HM3.out).mono fun _ _ f => f.elim)) (fun hHeld => ?_)
      clear hK K
      try simp only [Act.put, List.setIfInBounds_toArray, List.set_cons_zero, List.set_cons_succ]
      refine wpAnyH_take (i := 16) (oi := ⟨some 36, _, _, _, _, _⟩) (v := ?_) rfl (by kernel_rfl) (by kernel_rfl) (by kernel_rfl) (fun _ _ _ h => h) (Or.inl ⟨by rfl, ?_⟩) (by assumption) ?_
      rotate_left
      · intro w hSw; (try dsimp only at hSw); go_simp; try with_reducible rfl
      try simp only [Act.put, List.setIfInBounds_toArray, List.set_cons_zero, List.set_cons_succ]
      refine wpAnyH_take (i := 17) (oi := ⟨some 53, _, _, _, _, _⟩) (v := ?_) rfl (by kernel_rfl) (by kernel_rfl) (by kernel_rfl) (fun _ _ _ h => h) (Or.inl ⟨by rfl, ?_⟩) (by assumption) ?_
      rotate_left
      · intro w hSw; (try dsimp only at hSw); go_simp; try with_reducible rfl
      try simp only [Act.put, List.setIfInBounds_toArray, List.set_cons_zero, List.set_cons_succ]
      refine wpAnyH_take (i := 18) (oi := ⟨some 54, _, _, _, _, _⟩) (v := ?_) rfl (by kernel_rfl) (by kernel_rfl) (by kernel_rfl) (fun _ _ _ h => h) (Or.inl ⟨by rfl, ?_⟩) (by assumption) ?_
      rotate_left
      · intro w hSw; (try dsimp only at hSw); go_simp; try with_reducible rfl
      try simp only [Act.put, List.setIfInBounds_toArray, List.set_cons_zero, List.set_cons_succ]
      refine wpAnyH_take (i := 19) (oi := ⟨some 55, _, _, _, _, _⟩) (v := ?_) rfl (by kernel_rfl) (by kernel_rfl) (by kernel_rfl) (fun _ _ _ h => h) (Or.inl ⟨by rfl, ?_⟩) (by assumption) ?_
      rotate_left
      · intro w hSw; (try dsimp only at hSw); go_simp; try with_reducible rfl
      try simp only [Act.put, List.setIfInBounds_toArray, List.set_cons_zero, List.set_cons_succ]
      have HM4 : Hid (Mods (· = g) W1 (w3.setCell ⟨g, pd, none⟩ (.int .i64 rn))) := Lib.hid ((((Mods.refl _ _).drew.trans HM3.out).mono fun _ _ f => f.elim).trans (mods_put _ _ _ _))
      refine wpAnyH_ready (rs := [20]) (by kernel_rfl) (by simp) ?_
      refine AllReadyH.cons rfl (fun K hK => ?_) ?_
      rotate_left
      exact AllReadyH.nil
      go_simp
      refine hK.out _ _ (HSX.out _ HM4.out) (fun hHeld => ?_)
      clear hK K
      try simp only [Act.put, List.setIfInBounds_toArray, List.set_cons_zero, List.set_cons_succ]
      refine wpAnyH_take (i := 21) (oi := ⟨some 8, _, _, _, _, _⟩) (v := ?_) rfl (by kernel_rfl) (by kernel_rfl) (by kernel_rfl) (fun _ _ _ h => h) (Or.inl ⟨by rfl, ?_⟩) (by assumption) ?_
      rotate_left
      · intro w hSw; (try dsimp only at hSw); go_simp; try with_reducible rfl
      try simp only [Act.put, List.setIfInBounds_toArray, List.set_cons_zero, List.set_cons_succ]
      refine wpAnyH_done (by kernel_rfl) ?_ _
      go_wp2_with fail
      go_at_call 74
      refine (HEND.out _ (HR3.out.aside (S := (· = g)) (mods_put _ _ _ _) (fun k hk => by rw [hk]; exact HV3.out.2))).mono ?_
      rintro e w4 ⟨rfl, k1, k2⟩
      have HK1 := Lib.hid k1
      have HK2 := Lib.hid (k2 (· = g))
      clear k1 k2
      go_wp2_with fail
      go_end0
      exact nstop_done HK1.out ((HE1.out.trans (Ext.quiet HM3.out)).trans ((Ext.aside (S := (· = g)) (mods_put _ _ _ _) (fun _ _ f => f)).trans HK2.out)) HV3.out.2.1 (Mods.refl _ _)
  · rw [if_neg (by omega)] at hr
    obtain rfl := (Option.some.inj hr).symm
    clear hr h0 hway
    go_enter Tryd.func56, Tryd.ntmps56
    go_upto_region 1 with (fail)
    rw [← hW1]
    clear hW1
    go_wp2_with fail
    refine wp_region_held_drew (S := (fun w' => w'.cell? ⟨W.heap.size, 1, none⟩ = some (.int .i64 (pd : Int)) ∧ w'.cell? ⟨W.heap.size, 2, none⟩ = some (.int .i64 (pa : Int)) ∧ w'.cell? ⟨W.heap.size, 3, none⟩ = some (.int .i64 (pb : Int)) ∧ w'.cell? ⟨W.heap.size, 6, none⟩ = some (.string ⟨xo.toArray⟩))) (by kernel_rfl) (HSX.out _ (Mods.refl _ _).drew) (fun hHeld => ?_)
    refine wpAnyH_take (i := 0) (oi := ⟨some 37, _, _, _, _, _⟩) (v := ?_) rfl (by kernel_rfl) (by kernel_rfl) (by kernel_rfl) (fun _ _ _ h => h) (Or.inl ⟨by rfl, ?_⟩) (by assumption) ?_
    rotate_left
    · intro w hSw; (try dsimp only at hSw); go_simp; try with_reducible rfl
    try simp only [Act.put, List.setIfInBounds_toArray, List.set_cons_zero, List.set_cons_succ]
    refine wpAnyH_take (i := 1) (oi := ⟨some 38, _, _, _, _, _⟩) (v := ?_) rfl (by kernel_rfl) (by kernel_rfl) (by kernel_rfl) (fun _ _ _ h => h) (Or.inl ⟨by rfl, ?_⟩) (by assumption) ?_
    rotate_left
    · intro w hSw; (try dsimp only at hSw); go_simp; try with_reducible rfl
    try simp only [Act.put, List.setIfInBounds_toArray, List.set_cons_zero, List.set_cons_succ]
    refine wpAnyH_take (i := 2) (oi := ⟨some 39, _, _, _, _, _⟩) (v := ?_) rfl (by kernel_rfl) (by kernel_rfl) (by kernel_rfl) (fun _ _ _ h => h) (Or.inl ⟨by rfl, ?_⟩) (by assumption) ?_
    rotate_left
    · intro w hSw; (try dsimp only at hSw); go_simp; try with_reducible rfl
    try simp only [Act.put, List.setIfInBounds_toArray, List.set_cons_zero, List.set_cons_succ]
    refine wpAnyH_take (i := 3) (oi := ⟨some 40, _, _, _, _, _⟩) (v := ?_) rfl (by kernel_rfl) (by kernel_rfl) (by kernel_rfl) (fun _ _ _ h => h) (Or.inl ⟨by rfl, ?_⟩) (by assumption) ?_
    rotate_left
    · intro w hSw; (try dsimp only at hSw); go_simp; try with_reducible rfl
    try simp only [Act.put, List.setIfInBounds_toArray, List.set_cons_zero, List.set_cons_succ]
    refine wpAnyH_take (i := 4) (oi := ⟨some 41, _, _, _, _, _⟩) (v := ?_) rfl (by kernel_rfl) (by kernel_rfl) (by kernel_rfl) (fun _ _ _ h => h) (Or.inl ⟨by rfl, ?_⟩) (by assumption) ?_
    rotate_left
    · intro w hSw; (try dsimp only at hSw); go_simp; try with_reducible rfl
    try simp only [Act.put, List.setIfInBounds_toArray, List.set_cons_zero, List.set_cons_succ]
    refine wpAnyH_take (i := 5) (oi := ⟨some 42, _, _, _, _, _⟩) (v := ?_) rfl (by kernel_rfl) (by kernel_rfl) (by kernel_rfl) (fun _ _ _ h => h) (Or.inl ⟨by rfl, ?_⟩) (by assumption) ?_
    rotate_left
    · intro w hSw; (try dsimp only at hSw); go_simp; try with_reducible rfl
    try simp only [Act.put, List.setIfInBounds_toArray, List.set_cons_zero, List.set_cons_succ]
    refine wpAnyH_take (i := 6) (oi := ⟨some 43, _, _, _, _, _⟩) (v := ?_) rfl (by kernel_rfl) (by kernel_rfl) (by kernel_rfl) (fun _ _ _ h => h) (Or.inl ⟨by rfl, ?_⟩) (by assumption) ?_
    rotate_left
    · intro w hSw; (try dsimp only at hSw); go_simp; try with_reducible rfl
    try simp only [Act.put, List.setIfInBounds_toArray, List.set_cons_zero, List.set_cons_succ]
    refine wpAnyH_take (i := 7) (oi := ⟨some 44, _, _, _, _, _⟩) (v := ?_) rfl (by kernel_rfl) (by kernel_rfl) (by kernel_rfl) (fun _ _ _ h => h) (Or.inl ⟨by rfl, ?_⟩) (by assumption) ?_
    rotate_left
    · intro w hSw; (try dsimp only at hSw); go_simp; try with_reducible rfl
    try simp only [Act.put, List.setIfInBounds_toArray, List.set_cons_zero, List.set_cons_succ]
    refine wpAnyH_take (i := 8) (oi := ⟨some 45, _, _, _, _, _⟩) (v := ?_) rfl (by kernel_rfl) (by kernel_rfl) (by kernel_rfl) (fun _ _ _ h => h) (Or.inl ⟨by rfl, ?_⟩) (by assumption) ?_
    rotate_left
    · intro w hSw; (try dsimp only at hSw); go_simp; try with_reducible rfl
    try simp only [Act.put, List.setIfInBounds_toArray, List.set_cons_zero, List.set_cons_succ]
    refine wpAnyH_take (i := 10) (oi := ⟨some 47, _, _, _, _, _⟩) (v := ?_) rfl (by kernel_rfl) (by kernel_rfl) (by kernel_rfl) (fun _ _ _ h => h) (Or.inl ⟨by rfl, ?_⟩) (by assumption) ?_
    rotate_left
    · intro w hSw; (try dsimp only at hSw); go_simp; try with_reducible rfl
    try simp only [Act.put, List.setIfInBounds_toArray, List.set_cons_zero, List.set_cons_succ]
    refine wpAnyH_take (i := 11) (oi := ⟨some 48, _, _, _, _, _⟩) (v := ?_) rfl (by kernel_rfl) (by kernel_rfl) (by kernel_rfl) (fun _ _ _ h => h) (Or.inl ⟨by rfl, ?_⟩) (by assumption) ?_
    rotate_left
    · intro w hSw; (try dsimp only at hSw); go_simp; try with_reducible rfl
    try simp only [Act.put, List.setIfInBounds_toArray, List.set_cons_zero, List.set_cons_succ]
    refine wpAnyH_take (i := 12) (oi := ⟨some 49, _, _, _, _, _⟩) (v := ?_) rfl (by kernel_rfl) (by kernel_rfl) (by kernel_rfl) (fun _ _ _ h => h) (Or.inl ⟨by rfl, ?_⟩) (by assumption) ?_
    rotate_left
    · intro w hSw; (try dsimp only at hSw); go_simp; try with_reducible rfl
    try simp only [Act.put, List.setIfInBounds_toArray, List.set_cons_zero, List.set_cons_succ]
    refine wpAnyH_take (i := 13) (oi := ⟨some 50, _, _, _, _, _⟩) (v := ?_) rfl (by kernel_rfl) (by kernel_rfl) (by kernel_rfl) (fun _ _ _ h => h) (Or.inl ⟨by rfl, ?_⟩) (by assumption) ?_
    rotate_left
    · intro w hSw; (try dsimp only at hSw); go_simp; try with_reducible rfl
    try simp only [Act.put, List.setIfInBounds_toArray, List.set_cons_zero, List.set_cons_succ]
    refine wpAnyH_ready (rs := [9, 14]) (by kernel_rfl) (by simp) ?_
    refine AllReadyH.cons rfl (fun K hK => ?_) (AllReadyH.cons rfl (fun K hK => ?_) AllReadyH.nil)
    · go_simp
      refine hK.out _ _ (HSX.out _ (Mods.refl _ _).drew) (fun hHeld => ?_)
      clear hK K
      try simp only [Act.put, List.setIfInBounds_toArray, List.set_cons_zero, List.set_cons_succ]
      refine wpAnyH_ready (rs := [14]) (by kernel_rfl) (by simp) ?_
      refine AllReadyH.cons rfl (fun K hK => ?_) ?_
      rotate_left
      exact AllReadyH.nil
      go_simp
      refine hK.out _ _ (HSX.out _ (Mods.refl _ _).drew) (fun hHeld => ?_)
      clear hK K
      try simp only [Act.put, List.setIfInBounds_toArray, List.set_cons_zero, List.set_cons_succ]
      refine wpAnyH_ready (rs := [15]) (by kernel_rfl) (by simp) ?_
      refine AllReadyH.cons rfl (fun K hK => ?_) ?_
      rotate_left
      exact AllReadyH.nil
      go_simp
      go_at_call 7
      refine HC.out.mono ?_
      rintro e w3 ⟨rfl, hm3⟩
      have HM3 := Lib.hid hm3
      have HR3 := Lib.hid (HR1.out.quiet hm3)
      have HV3 := Lib.hid (HV1.out.ext (Ext.quiet (T := None) (M := M) hm3) (fun f => f))
      have ed := HV3.out.get PLd.out
      have zd : w3.frozen? ⟨g, pd, none⟩ = false := HV3.out.1.free _
      clear hm3
      go_simp
      refine hK.out _ _ (HSX.out _ (((Mods.refl _ _).drew.trans HM3.out).mono fun _ _ f => f.elim)) (fun hHeld => ?_)
      clear hK K
      try simp only [Act.put, List.setIfInBounds_toArray, List.set_cons_zero, List.set_cons_succ]
      refine wpAnyH_take (i := 16) (oi := ⟨some 36, _, _, _, _, _⟩) (v := ?_) rfl (by kernel_rfl) (by kernel_rfl) (by kernel_rfl) (fun _ _ _ h => h) (Or.inl ⟨by rfl, ?_⟩) (by assumption) ?_
      rotate_left
      · intro w hSw; (try dsimp only at hSw); go_simp; try with_reducible rfl
      try simp only [Act.put, List.setIfInBounds_toArray, List.set_cons_zero, List.set_cons_succ]
      refine wpAnyH_take (i := 17) (oi := ⟨some 53, _, _, _, _, _⟩) (v := ?_) rfl (by kernel_rfl) (by kernel_rfl) (by kernel_rfl) (fun _ _ _ h => h) (Or.inl ⟨by rfl, ?_⟩) (by assumption) ?_
      rotate_left
      · intro w hSw; (try dsimp only at hSw); go_simp; try with_reducible rfl
      try simp only [Act.put, List.setIfInBounds_toArray, List.set_cons_zero, List.set_cons_succ]
      refine wpAnyH_take (i := 18) (oi := ⟨some 54, _, _, _, _, _⟩) (v := ?_) rfl (by kernel_rfl) (by kernel_rfl) (by kernel_rfl) (fun _ _ _ h => h) (Or.inl ⟨by rfl, ?_⟩) (by assumption) ?_
      rotate_left
      · intro w hSw; (try dsimp only at hSw); go_simp; try with_reducible rfl
      try simp only [Act.put, List.setIfInBounds_toArray, List.set_cons_zero, List.set_cons_succ]
      refine wpAnyH_take (i := 19) (oi := ⟨some 55, _, _, _, _, _⟩) (v := ?_) rfl (by kernel_rfl) (by kernel_rfl) (by kernel_rfl) (fun _ _ _ h => h) (Or.inl ⟨by rfl, ?_⟩) (by assumption) ?_
      rotate_left
      · intro w hSw; (try dsimp only at hSw); go_simp; try with_reducible rfl
      try simp only [Act.put, List.setIfInBounds_toArray, List.set_cons_zero, List.set_cons_succ]
      have HM4 : Hid (Mods (· = g) W1 (w3.setCell ⟨g, pd, none⟩ (.int .i64 rn))) := Lib.hid ((((Mods.refl _ _).drew.trans HM3.out).mono fun _ _ f => f.elim).trans (mods_put _ _ _ _))
      refine wpAnyH_ready (rs := [20]) (by kernel_rfl) (by simp) ?_
      refine AllReadyH.cons rfl (fun K hK => ?_) ?_
      rotate_left
      exact AllReadyH.nil
      go_simp
      refine hK.out _ _ (HSX.out _ HM4.out) (fun hHeld => ?_)
      clear hK K
      try simp only [Act.put, List.setIfInBounds_toArray, List.set_cons_zero, List.set_cons_succ]
      refine wpAnyH_take (i := 21) (oi := ⟨some 8, _, _, _, _, _⟩) (v := ?_) rfl (by kernel_rfl) (by kernel_rfl) (by kernel_rfl) (fun _ _ _ h => h) (Or.inl ⟨by rfl, ?_⟩) (by assumption) ?_
      rotate_left
      · intro w hSw; (try dsimp only at hSw); go_simp; try with_reducible rfl
      try simp only [Act.put, List.setIfInBounds_toArray, List.set_cons_zero, List.set_cons_succ]
      refine wpAnyH_done (by kernel_rfl) ?_ _
      go_wp2_with fail
      go_end0
      exact nput_done HR3.out HV3.out (HE1.out.trans (Ext.quiet HM3.out)) (List.prefix_refl A) (p := pd) (x := numV rn) (rep_numV rn) (Mods.refl _ _)
    · go_simp
      refine hK.out _ _ (HSX.out _ (Mods.refl _ _).drew) (fun hHeld => ?_)
      clear hK K
      try simp only [Act.put, List.setIfInBounds_toArray, List.set_cons_zero, List.set_cons_succ]
      refine wpAnyH_ready (rs := [9]) (by kernel_rfl) (by simp) ?_
      refine AllReadyH.cons rfl (fun K hK => ?_) ?_
      rotate_left
      exact AllReadyH.nil
      go_simp
      refine hK.out _ _ (HSX.out _ (Mods.refl _ _).drew) (fun hHeld => ?_)
      clear hK K
      try simp only [Act.put, List.setIfInBounds_toArray, List.set_cons_zero, List.set_cons_succ]
      refine wpAnyH_ready (rs := [15]) (by kernel_rfl) (by simp) ?_
      refine AllReadyH.cons rfl (fun K hK => ?_) ?_
      rotate_left
      exact AllReadyH.nil
      go_simp
      go_at_call 7
      refine HC.out.mono ?_
      rintro e w3 ⟨rfl, hm3⟩
      have HM3 := Lib.hid hm3
      have HR3 := Lib.hid (HR1.out.quiet hm3)
      have HV3 := Lib.hid (HV1.out.ext (Ext.quiet (T := None) (M := M) hm3) (fun f => f))
      have ed := HV3.out.get PLd.out
      have zd : w3.frozen? ⟨g, pd, none⟩ = false := HV3.out.1.free _
      clear hm3
      go_simp
      refine hK.out _ _ (HSX.out _ (((Mods.refl _ _).drew.trans HM3.out).mono fun _ _ f => f.elim)) (fun hHeld => ?_)
      clear hK K
      try simp only [Act.put, List.setIfInBounds_toArray, List.set_cons_zero, List.set_cons_succ]
      refine wpAnyH_take (i := 16) (oi := ⟨some 36, _, _, _, _, _⟩) (v := ?_) rfl (by kernel_rfl) (by kernel_rfl) (by kernel_rfl) (fun _ _ _ h => h) (Or.inl ⟨by rfl, ?_⟩) (by assumption) ?_
      rotate_left
      · intro w hSw; (try dsimp only at hSw); go_simp; try with_reducible rfl
      try simp only [Act.put, List.setIfInBounds_toArray, List.set_cons_zero, List.set_cons_succ]
      refine wpAnyH_take (i := 17) (oi := ⟨some 53, _, _, _, _, _⟩) (v := ?_) rfl (by kernel_rfl) (by kernel_rfl) (by kernel_rfl) (fun _ _ _ h => h) (Or.inl ⟨by rfl, ?_⟩) (by assumption) ?_
      rotate_left
      · intro w hSw; (try dsimp only at hSw); go_simp; try with_reducible rfl
      try simp only [Act.put, List.setIfInBounds_toArray, List.set_cons_zero, List.set_cons_succ]
      refine wpAnyH_take (i := 18) (oi := ⟨some 54, _, _, _, _, _⟩) (v := ?_) rfl (by kernel_rfl) (by kernel_rfl) (by kernel_rfl) (fun _ _ _ h => h) (Or.inl ⟨by rfl, ?_⟩) (by assumption) ?_
      rotate_left
      · intro w hSw; (try dsimp only at hSw); go_simp; try with_reducible rfl
      try simp only [Act.put, List.setIfInBounds_toArray, List.set_cons_zero, List.set_cons_succ]
      refine wpAnyH_take (i := 19) (oi := ⟨some 55, _, _, _, _, _⟩) (v := ?_) rfl (by kernel_rfl) (by kernel_rfl) (by kernel_rfl) (fun _ _ _ h => h) (Or.inl ⟨by rfl, ?_⟩) (by assumption) ?_
      rotate_left
      · intro w hSw; (try dsimp only at hSw); go_simp; try with_reducible rfl
      try simp only [Act.put, List.setIfInBounds_toArray, List.set_cons_zero, List.set_cons_succ]
      have HM4 : Hid (Mods (· = g) W1 (w3.setCell ⟨g, pd, none⟩ (.int .i64 rn))) := Lib.hid ((((Mods.refl _ _).drew.trans HM3.out).mono fun _ _ f => f.elim).trans (mods_put _ _ _ _))
      refine wpAnyH_ready (rs := [20]) (by kernel_rfl) (by simp) ?_
      refine AllReadyH.cons rfl (fun K hK => ?_) ?_
      rotate_left
      exact AllReadyH.nil
      go_simp
      refine hK.out _ _ (HSX.out _ HM4.out) (fun hHeld => ?_)
      clear hK K
      try simp only [Act.put, List.setIfInBounds_toArray, List.set_cons_zero, List.set_cons_succ]
      refine wpAnyH_take (i := 21) (oi := ⟨some 8, _, _, _, _, _⟩) (v := ?_) rfl (by kernel_rfl) (by kernel_rfl) (by kernel_rfl) (fun _ _ _ h => h) (Or.inl ⟨by rfl, ?_⟩) (by assumption) ?_
      rotate_left
      · intro w hSw; (try dsimp only at hSw); go_simp; try with_reducible rfl
      try simp only [Act.put, List.setIfInBounds_toArray, List.set_cons_zero, List.set_cons_succ]
      refine wpAnyH_done (by kernel_rfl) ?_ _
      go_wp2_with fail
      go_end0
      exact nput_done HR3.out HV3.out (HE1.out.trans (Ext.quiet HM3.out)) (List.prefix_refl A) (p := pd) (x := numV rn) (rep_numV rn) (Mods.refl _ _)
end Go.Proofs.YtoajcbfejplfbaaDoor.MidP.R
namespace Go.Proofs.YtoajcbfejplfbaaDoor.MidP.R
open Go.RowKit Go.Proofs.YtoajcbfejplfbaaDoor.Wo Go.Maps Go.Proofs.YtoajcbfejplfbaaDoor.TreeP Go.Proofs.YtoajcbfejplfbaaDoor.MidP
set_option linter.unusedVariables false
set_option linter.unusedSimpArgs false
/-- How a call ends: its number; or the run has ended. -/
def ResI (W : World) (b : Nat) (P M : Nat → Prop) (A : List (Nat × Nat)) : Except Sig Int × RS → Ending → World → Prop
  | (.ok n, s) => fun e w => e = .returned (.int .i64 n) ∧ ∃ M' A', WAt w b P M' A' s ∧ Ext None M M' W w ∧ A <+: A'
  | (.error (.stop k), s) => fun e w => ∃ n M', e = .returned (.int .i64 n) ∧ WEnd w b P M' k s.out ∧ Ext None M M' W w
  | (.error (.ret _), _) => fun _ _ => False
/-- Numbers in a row of their own. -/
def Nms (W : World) (base : Nat) (P M : Nat → Prop) (lv : Value) (ns : List Int) : Prop :=
  W.ownsRow base 2 1 lv ns.length (ns.map (.int .i64)) ∧ ∀ k, lv.ownBlock = some k → ¬ M k ∧ ¬ P k
theorem Nms.none_ (W : World) (base : Nat) (P M : Nat → Prop) : Nms W base P M (.slice none 0 0) [] :=
  ⟨World.ownsRow_nil _ _ _ _, fun k hk => (by cases hk)⟩
theorem Nms.quiet {W w : World} {base : Nat} {P M : Nat → Prop} {lv : Value} {ns : List Int} (h : Nms W base P M lv ns) (hm : Mods None W w) : Nms w base P M lv ns :=
  ⟨hm.ownsRow h.1 (fun k hk f => f), h.2⟩
/-- One number more in the row. -/
theorem Nms.grow {w4 w5 : World} {base : Nat} {P M : Nat → Prop} {lv v' : Value} {ns : List Int} {m : Int} (h : Nms w4 base P M lv ns) (hown : w5.ownsRow base 2 1 v' (ns.length + 1) (ns.map (.int .i64) ++ [.int .i64 m])) (hloc : v'.ownBlock = lv.ownBlock ∨ v'.ownBlock = some w4.heap.size) (hM : ∀ k, M k → k < w4.heap.size) (hP : ∀ k, P k → k < w4.heap.size) : Nms w5 base P M v' (ns ++ [m]) := by
  refine ⟨by simpa using hown, fun k hk => ?_⟩
  rcases hloc with hl | hl
  · exact h.2 k (by rw [← hl]; exact hk)
  · rw [hl] at hk
    obtain rfl := Option.some.inj hk
    exact ⟨fun hm => absurd (hM _ hm) (Nat.lt_irrefl _), fun hp => absurd (hP _ hp) (Nat.lt_irrefl _)⟩
/-- What code does, in so many rounds. -/
def CdC (L : List Fm) (f : Nat) : Prop := ∀ (g : List UInt8) (vs : List V) (b base : Nat) (P M : Nat → Prop) (A : List (Nat × Nat)) (s : RS) (la : Option Addr) (ln lc : Nat) (W : World) (lv : Value) (r : Except Sig Int × RS),
  WAt W b P M A s → FmsAt W (fun k => ¬ P k) (.slice la ln lc) L → RsOk s → Nms W base P M lv (vs.map rep) → g.length ≤ maxLen → (∃ G, fmOf L g = some G ∧ vs.length ≤ G.types.length ∧ ∀ (j : Nat) t x, G.types[j]? = some t → vs[j]? = some x → VTy2 s t x) → s.arrs.length + s.fuel ≤ 1000000000000 → callM L f s g vs = some r →
  Calls Tryd.prog 36 #[.pointer (some ⟨b, 0, none⟩), .slice la ln lc, str g, lv] W (ResI W b P M A r)
theorem one_int (W : World) (a : Int) (e : TypeId) : ∀ j u, [Value.int .i64 a][j]? = some u → (W.alloc (.cells #[.int .i64 a] e)).cell? ((⟨W.heap.size, 0, none⟩ : Addr).add j) = some u := one_new W _ e
set_option maxRecDepth 100000 in
set_option maxHeartbeats 2000000 in
theorem sd_call {L : List Fm} (hL : OkM L) {F : Fm} (hF : F ∈ L) {x : Stp} (hx : x ∈ F.steps) (hc : x.code = 7) (hnl : x.name.length ≤ maxLen) (hal : x.args.length ≤ 3000) {f : Nat} (ih : CdC L f) :
    ∀ (v : Pl) (b g c : Nat) (P M : Nat → Prop) (A : List (Nat × Nat)) (s : RS) (la : Option Addr) (ln lc : Nat) (W : World) (aa : Option Addr) (ac : Nat) (r : Except Sig Pl × RS), Rin W b g c P M A s F L v x → FmsAt W (fun k => ¬ P k) (.slice la ln lc) L → IntsAt W (fun k => ¬ P k) (.slice aa x.args.length ac) x.args → s.arrs.length + s.fuel ≤ 1000000000000 →
    bindR (callM L f s x.name (x.args.map v.get)) (fun n t => okR (v.put x.dst (numV n)) t) = some r →
  Calls Tryd.prog 56 #[.pointer (some ⟨b, 0, none⟩), .slice la ln lc, .slice (some ⟨g, 0, none⟩) v.length c, .agg (stpL x (.slice aa x.args.length ac)).toArray] W (ResP W b P M A g r) := by
  intro v b g c P M A s la ln lc W aa ac r hin hfm hA hfew hr
  obtain ⟨h, hv, hty, hrs, ⟨hvc, hc6⟩, hn64, hok, hal4⟩ := hin
  obtain ⟨hkd, G, hG, hGl, hGk, hGt⟩ := args_vty hL hF hx hc hty
  obtain ⟨pd, hpd, hpdl⟩ := place_of_kind (f := F) (p := x.dst) (by rw [hkd]; decide)
  rw [← hty.1] at hpdl
  obtain ⟨an, han⟩ : ∃ an, an = x.args.length := ⟨_, rfl⟩
  have hac : (an : Int) ≤ (ac : Int) ∧ (ac : Int) ≤ 9223372036854775807 := by
    obtain ⟨_, _, k1, k2, k3, _⟩ := hA.form
    obtain ⟨-, -, rfl⟩ := Value.slice.inj k1
    omega
  obtain ⟨W1, hW1⟩ : ∃ W1, W1 = W.alloc (.cells (stpL x (.slice aa x.args.length ac)).toArray 65) := ⟨_, rfl⟩
  have HM : Mods None W W1 := by rw [hW1]; exact (Mods.refl _ _).alloc _
  have HS : Hid (Rx W W1 P M g W.heap.size (stpL x (.slice aa x.args.length ac))) := Lib.hid (by rw [hW1]; exact Rx.new h hv _)
  have HR := Lib.hid (h.quiet HM)
  have HV := Lib.hid (hv.ext (Ext.quiet (T := None) HM) (fun f => f))
  have HE : Hid (Ext (· = g) M M W W1) := Lib.hid (Ext.quiet HM)
  have HFM := Lib.hid (hfm.mods (HM.mono fun _ _ f => f.elim) (fun _ _ k => k))
  have HAR := Lib.hid (hA.mods (HM.mono fun _ _ f => f.elim) (fun _ _ k => k))
  have HTY := Lib.hid (And.intro hty (And.intro hrs (And.intro hfew hal)))
  have HG := Lib.hid (And.intro hG (And.intro hGl (And.intro hGk hGt)))
  have HX := Lib.hid hr
  have HNL := Lib.hid hnl
  have HIH := Lib.hid ih
  have HAN := Lib.hid han
  have HPD := Lib.hid hpdl
  have HPDE := Lib.hid hpd
  have c0 : W1.cell? ⟨W.heap.size, 0, none⟩ = some (.int .i64 x.code) := HS.out.blk.cell (i := 0) rfl
  have k1 : W1.cell? ⟨W.heap.size, 1, none⟩ = some (.int .i64 x.dst) := HS.out.blk.cell (i := 1) rfl
  have k9 : W1.cell? ⟨W.heap.size, 9, none⟩ = some (.slice aa x.args.length ac) := HS.out.blk.cell (i := 9) rfl
  have qd : (pd : Int) < (v.length : Int) := by omega
  have hn := HTY.out.1.1
  obtain ⟨n, hn⟩ : ∃ n, n = v.length := ⟨_, rfl⟩
  have HN := Lib.hid hn
  obtain ⟨i0, hi, hz0, hz1, hz2⟩ := info_parts infoI
  have HI := Lib.hid (And.intro hi (And.intro hz0 (And.intro hz1 hz2)))
  rw [hc] at c0
  rw [hpd] at k1
  rw [← han] at k9
  rw [← hn] at qd hvc ⊢
  rw [← han]
  unfold stpL str at hW1 ⊢
  rw [← han] at hW1
  rw [hc] at hW1 ⊢
  clear h hv hty hrs hn64 hok HM hal4 hn hfm hA hfew hr hG hGl hGk hGt hkd hpd hpdl han ih hL hF hx hnl hal hi hz0 hz1 hz2
  go_enter Tryd.func56, Tryd.ntmps56
  go_upto_region 1 with (fail)
  rw [← hW1]
  clear hW1
  go_wp2_with fail
  go_loopw [9, 11, 66] (fun lv _ jv wr => ∃ j, j ≤ an ∧ jv = .int .i64 ((j : Nat) : Int) ∧ Hid (Nms wr W1.heap.size P M lv (((x.args.take j).map v.get).map rep)) ∧ Hid (Mods None W1 wr)) (fun _ _ jv _ => (an - intOf jv).toNat)
  case atStart => exact ⟨0, Nat.zero_le _, rfl, Lib.hid (Nms.none_ _ _ _ _), Lib.hid (Mods.refl _ _)⟩
  case round =>
    obtain ⟨wy, rfl⟩ : ∃ wy : World, wy = wr := ⟨_, rfl⟩
    obtain ⟨j, hj, rfl, HVS, HMW⟩ := hrel
    obtain ⟨oa, oc, rfl⟩ := sl_form HVS.out.1
    have hjl : (((x.args.take j).map v.get).map rep).length = j := by rw [List.length_map, List.length_map, List.length_take]; have := HAN.out; omega
    have HJL := Lib.hid hjl
    rw [hjl] at HVS ⊢
    clear hjl
    by_cases hlt2 : j < an
    · have hjx : j < x.args.length := by rw [← HAN.out]; exact hlt2
      obtain ⟨p, hp⟩ : ∃ p, x.args[j]? = some p := ⟨_, List.getElem?_eq_getElem hjx⟩
      have hpe : x.args[j] = p := (List.getElem?_eq_some_iff.1 hp).2
      obtain ⟨pn, rfl, hpl⟩ := place_of_kind (HG.out.2.2.1 p (List.mem_of_getElem? hp))
      rw [← HTY.out.1.1] at hpl
      obtain ⟨ga, oa2, rfl, hca⟩ := (HAR.out.mods (HMW.out.mono fun _ _ f => f.elim) (fun _ _ k => k) (T := fun k => ¬ P k)).get hjx
      rw [hpe] at hca
      have HVW := Lib.hid (HV.out.ext (Ext.quiet (T := None) HMW.out) (fun f => f))
      have HRW := Lib.hid (HR.out.quiet HMW.out)
      have dp := HVW.out.get hpl
      obtain ⟨rp, hrp⟩ : ∃ rp, rp = rep (v.get (pn : Int)) := ⟨_, rfl⟩
      rw [← hrp] at dp
      have qp : (pn : Int) < (n : Int) := by have := HN.out; omega
      have qj : (j : Int) < (an : Int) := by omega
      have HTK : Hid ((((x.args.take (j + 1)).map v.get).map rep) = (((x.args.take j).map v.get).map rep) ++ [rp]) := Lib.hid (by rw [List.take_succ_eq_append_getElem hjx, hpe, hrp]; simp)
      have HMA : Hid (Mods None wy (wy.alloc (.cells #[.int .i64 rp] 2))) := Lib.hid ((Mods.refl _ _).alloc _)
      have HOA := Lib.hid (HVS.out.quiet HMA.out)
      have HOW := Lib.hid HOA.out.1
      rw [HJL.out] at HOW
      have HBS : Hid (W1.heap.size ≤ (wy.alloc (.cells #[.int .i64 rp] 2)).heap.size) := Lib.hid (by have h1 := HMW.out.size; have h2 := HMA.out.size; omega)
      have HA3 : Hid (an ≤ 3000) := Lib.hid (by have := HTY.out.2.2.2; have := HAN.out; omega)
      have HLT2 := Lib.hid hlt2
      clear hjx hp hpe hpl hlt2 hrp
      go_wp2_with (at_builtin; refine wpList_append_own_at _ rfl _ _ 23 rfl W1.heap.size 2 i0 _ 1 8 Tryd.underlying23 HI.out.1 HI.out.2.1 HI.out.2.2.1 HI.out.2.2.2 rfl (by decide) (.slice oa j oc) j _ rfl HOW.out ⟨wy.heap.size, 0, none⟩ 1 1 [.int .i64 rp] rfl rfl (one_int _ _ _) (ints_oneCell .i64 [rp]) (by have h1 := HA3.out; have h2 := HLT2.out; unfold maxLen; omega) (by have h1 := HA3.out; have h2 := HLT2.out; omega) HBS.out ?_; intro v' w5 hown hgrow hnil hloc; have HOW5 := Lib.hid hown; have HGR := Lib.hid (grew_of hgrow hloc); clear hown hgrow hnil hloc; refine Hid.out ?_)
      refine Lib.hid ?_
      obtain ⟨qa, qc, rfl⟩ := sl_form HOW5.out
      go_wp2_with fail
      refine ⟨⟨j + 1, by have := HLT2.out; omega, by go_num, Lib.hid ?_, Lib.hid ?_⟩, by have := HLT2.out; simp [intOf]; omega⟩
      · rw [HTK.out]
        refine Nms.grow HOA.out ?_ HGR.out.loc (HRW.out.quiet HMA.out).old (HRW.out.quiet HMA.out).given
        rw [HJL.out]
        exact HOW5.out
      · have h1 := HMW.out.trans HMA.out
        refine h1.trans' HGR.out.mods (fun k hk hl => ?_)
        have := (HOW.out.lt k hk).1
        omega
    · obtain rfl : j = an := by omega
      have hta : x.args.take j = x.args := by rw [List.take_of_length_le]; have := HAN.out; omega
      have hjn : ¬ (j : Int) < (j : Int) := by omega
      have hSm := HS.out.step (Ext.quiet (T := None) HMW.out) (fun f => f)
      have e1 := hSm.blk.cell (i := 1) rfl
      rw [HPDE.out] at e1
      have e8 := hSm.blk.cell (i := 8) rfl
      have HRd := Lib.hid ((HR.out.quiet HMW.out).quiet (Mods.refl None wy).drew)
      have HSd := Lib.hid (hSm.step (Ext.quiet (T := None) (Mods.refl None wy).drew) (fun f => f))
      have HVd := Lib.hid ((HV.out.ext (Ext.quiet (T := None) HMW.out) (fun f => f)).ext (Ext.quiet (T := None) (Mods.refl None wy).drew) (fun f => f))
      have HEd : Hid (Ext (· = g) M M W wy.drew) := Lib.hid (HE.out.trans (Ext.quiet HMW.out.drew))
      have hVs : Nms wy.drew W1.heap.size P M (.slice oa j oc) ((x.args.map v.get).map rep) := by
        have h := HVS.out.quiet (Mods.refl None wy).drew
        rw [hta] at h
        exact h
      cases hp : callM L f s x.name (x.args.map v.get) with
      | none => have := HX.out; rw [hp] at this; cases this
      | some y =>
        have hC := HIH.out x.name (x.args.map v.get) b W1.heap.size P M A s la ln lc wy.drew (.slice oa j oc) y HRd.out (HFM.out.mods (HMW.out.drew.mono fun _ _ f => f.elim) (fun _ _ k => k)) HTY.out.2.1 hVs HNL.out ⟨G, HG.out.1, HG.out.2.1, HG.out.2.2.2⟩ HTY.out.2.2.1 hp
        have HC := Lib.hid hC
        have hX7 := HX.out
        rw [hp] at hX7
        have HHJ := Lib.hid hjn
        clear hC hta hVs hSm hp
        unfold str at HC e8
        obtain ⟨y, s2⟩ := y
        cases y with
        | error gg =>
          obtain rfl := (Option.some.inj hX7).symm
          clear hX7
          cases gg with
          | ret q =>
            go_wp2_with fail
            go_region_with (first | (go_at_call 36; refine HC.out.mono ?_; rintro e w3 hf; refine no_way Tryd.prog w3 hf.elim ?_))
            all_goals trivial
          | stop q =>
            go_wp2_with fail
            go_region_with (first | (go_at_call 36; refine HC.out.mono ?_; rintro e w3 ⟨m9, M3, rfl, k1, k2⟩; have HK1 := Lib.hid k1; have HK2 := Lib.hid k2; have HV3 := Lib.hid (HVd.out.ext k2 (fun f => f)); have e1 := (HSd.out.step k2 (fun f => f)).blk.cell (i := 1) rfl; rw [HPDE.out] at e1; have ed := HV3.out.get HPD.out; have zd : w3.frozen? ⟨g, pd, none⟩ = false := HV3.out.1.free _; clear k1 k2))
            all_goals
              go_wp2_with fail
              go_end0
              exact nstop_done HK1.out (HEd.out.trans (HK2.out.more fun _ _ f => f.elim)) HV3.out.2.1 (by first | exact mods_put _ _ _ _ | exact (mods_put _ _ _ _).drew | exact (mods_put _ _ _ _).trans ((Mods.refl _ _).drewN _))
        | ok n2 =>
          obtain rfl := (Option.some.inj hX7).symm
          clear hX7
          go_wp2_with fail
          go_region_with (first | (go_at_call 36; refine HC.out.mono ?_; rintro e w3 ⟨rfl, M3, A3, k1, k2, k3⟩; have HK1 := Lib.hid k1; have HK2 := Lib.hid k2; have HK3 := Lib.hid k3; have HV3 := Lib.hid (HVd.out.ext k2 (fun f => f)); have e1 := (HSd.out.step k2 (fun f => f)).blk.cell (i := 1) rfl; rw [HPDE.out] at e1; have ed := HV3.out.get HPD.out; have zd : w3.frozen? ⟨g, pd, none⟩ = false := HV3.out.1.free _; clear k1 k2 k3))
          all_goals
            go_wp2_with fail
            go_end0
            rw [HPDE.out]
            exact nput_done HK1.out HV3.out (HEd.out.trans (HK2.out.more fun _ _ f => f.elim)) HK3.out (p := pd) (x := numV n2) (rep_numV n2) (by first | exact Mods.refl _ _ | exact (Mods.refl _ _).drew | exact (Mods.refl _ _).drew.drew | exact (Mods.refl _ _).drewN _)
end Go.Proofs.YtoajcbfejplfbaaDoor.MidP.R

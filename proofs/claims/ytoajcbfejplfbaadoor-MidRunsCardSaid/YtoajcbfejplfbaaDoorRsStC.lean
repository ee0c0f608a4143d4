/- The document's steps: arrays. Printed by mkrsst.py. Conditions: what it has lies. -/
import Derived.Test.YtoajcbfejplfbaaDoorRsStA
namespace Go.Proofs.YtoajcbfejplfbaaDoor.MidP.R
open Go.RowKit Go.Proofs.YtoajcbfejplfbaaDoor.Wo Go.Maps Go.Proofs.YtoajcbfejplfbaaDoor.TreeP Go.Proofs.YtoajcbfejplfbaaDoor.MidP
set_option linter.unusedVariables false
set_option linter.unusedSimpArgs false
set_option maxRecDepth 100000 in
set_option maxHeartbeats 1000000 in
theorem sd_new {L : List Fm} {F : Fm} {x : Stp} (hc : x.code = 9) : StepD L F x := by
  intro v b g c P M A s la ln lc W aa ac r hin hr
  obtain ⟨h, hv, hty, hrs, ⟨hvc, hc6⟩, hn64, hok, hal⟩ := hin
  obtain ⟨-, f1, f2, f3, f4⟩ := right_forms hok (by omega) (by omega)
  rw [hc] at f1 f2 f3 f4
  obtain ⟨pd, hpd, hpdl⟩ := fit_place (t := 2) (by decide) f1
  obtain ⟨pa, hpa, hpal⟩ := fit_place (t := 1) (by decide) f2
  have ta := hty.get (fit_kind (t := 1) (by decide) f2) (by decide)
  clear f1 f2 f3 f4
  rw [← hty.1] at hpdl
  rw [← hty.1] at hpal
  unfold stepM at hr
  rw [if_neg (by omega), if_neg (by omega), if_neg (by omega), if_pos hc] at hr
  obtain ⟨xc, xd, xa, xb, xe, xn, xo, xl, xm, xs⟩ := x
  simp only at hc hpd hpa ta hr hn64
  subst hc hpd hpa
  obtain ⟨W1, hW1⟩ : ∃ W1, W1 = W.alloc (.cells (stpL ⟨9, (pd : Int), (pa : Int), xb, xe, xn, xo, xl, xm, xs⟩ (.slice aa xs.length ac)).toArray 65) := ⟨_, rfl⟩
  have HM : Mods None W W1 := by rw [hW1]; exact (Mods.refl _ _).alloc _
  have HS : Hid (Rx W W1 P M g W.heap.size (stpL ⟨9, (pd : Int), (pa : Int), xb, xe, xn, xo, xl, xm, xs⟩ (.slice aa xs.length ac))) := Lib.hid (by rw [hW1]; exact Rx.new h hv _)
  have HR := Lib.hid (h.quiet HM)
  have HV := Lib.hid (hv.ext (Ext.quiet (T := None) HM) (fun f => f))
  have HE : Hid (Ext (· = g) M M W W1) := Lib.hid (Ext.quiet HM)
  have HTY := Lib.hid (And.intro hty (And.intro hrs (And.intro hn64 hal)))
  have c0 : W1.cell? ⟨W.heap.size, 0, none⟩ = some (.int .i64 9) := HS.out.blk.cell (i := 0) rfl
  have kd : W1.cell? ⟨W.heap.size, 1, none⟩ = some (.int .i64 (pd : Int)) := HS.out.blk.cell (i := 1) rfl
  have ed := HV.out.get hpdl
  have qd : (pd : Int) < (v.length : Int) := by omega
  have PLd := Lib.hid hpdl
  obtain ⟨rd, hrd⟩ : ∃ rd, rd = rep (v.get (pd : Int)) := ⟨_, rfl⟩
  rw [← hrd] at ed
  have HRPd := Lib.hid hrd
  clear hrd
  clear hpdl
  have zd : W1.frozen? ⟨g, pd, none⟩ = false := HV.out.1.free _
  have ka : W1.cell? ⟨W.heap.size, 2, none⟩ = some (.int .i64 (pa : Int)) := HS.out.blk.cell (i := 2) rfl
  have ea := HV.out.get hpal
  have qa : (pa : Int) < (v.length : Int) := by omega
  have PLa := Lib.hid hpal
  rw [rep_num (ta.2.1 rfl)] at ea
  have hna := ta.1
  obtain ⟨na, hnae⟩ : ∃ na, na = (v.get (pa : Int)).n := ⟨_, rfl⟩
  rw [← hnae] at ea hr hna
  have HNa := Lib.hid hnae
  have HIa := Lib.hid hna
  clear hnae hna ta
  clear hpal
  have za : W1.frozen? ⟨g, pa, none⟩ = false := HV.out.1.free _
  obtain ⟨n, hn⟩ : ∃ n, n = v.length := ⟨_, rfl⟩
  have HN := Lib.hid hn
  rw [← hn] at qd qa hvc ⊢
  clear h hv hty hrs hn64 hok HM hal hn
  unfold stpL str at *
  have HR1 := Lib.hid (HR.out.quiet (Mods.refl None W1).drew)
  have HS1 := Lib.hid (HS.out.step (Ext.quiet (T := None) (Mods.refl None W1).drew) (fun f => f))
  have HV1 := Lib.hid (HV.out.ext (Ext.quiet (T := None) (Mods.refl None W1).drew) (fun f => f))
  have HE1 := Lib.hid (HE.out.trans (Ext.quiet (Mods.refl None W1).drew))
  by_cases hb : na < 0 ∨ na > 40
  · rw [if_pos hb] at hr
    obtain rfl := (Option.some.inj hr).symm
    have HC := Lib.hid (make_no None b P M A s na W1.drew HR1.out hb)
    clear hr hb
    go_enter Tryd.func56, Tryd.ntmps56
    go_upto_region 1 with (fail)
    rw [← hW1]
    clear hW1
    go_wp2_with fail
    go_region_with (first | (go_at_call 75; refine HC.out.mono ?_; rintro e w3 ⟨rfl, k1, k2⟩; have HK1 := Lib.hid k1; have HK2 := Lib.hid k2; have HV3 := Lib.hid (HV1.out.ext k2 (fun f => f)); have kd := (HS1.out.step k2 (fun f => f)).blk.cell (i := 1) rfl; have ed := HV3.out.get PLd.out; have zd : w3.frozen? ⟨g, pd, none⟩ = false := HV3.out.1.free _; clear k1 k2))
    all_goals
      go_wp2_with fail
      go_end0
      exact nstop_done HK1.out (HE1.out.trans (HK2.out.more fun _ _ f => f.elim)) HV3.out.2.1 (by first | exact mods_put _ _ _ _ | exact (mods_put _ _ _ _).drew | exact (mods_put _ _ _ _).trans ((Mods.refl _ _).drewN _))
  · rw [if_neg hb] at hr
    obtain rfl := (Option.some.inj hr).symm
    obtain ⟨na2, rfl⟩ : ∃ na2 : Nat, na = (na2 : Int) := ⟨na.toNat, by omega⟩
    rw [Int.toNat_natCast]
    have HC := Lib.hid (make_yes None b P M A s na2 W1.drew HR1.out (by omega) HTY.out.2.2.2)
    obtain ⟨sl, hsl⟩ : ∃ sl, sl = s.arrs.length := ⟨_, rfl⟩
    rw [← hsl] at HC ⊢
    clear hr hb hsl
    go_enter Tryd.func56, Tryd.ntmps56
    go_upto_region 1 with (fail)
    rw [← hW1]
    clear hW1
    go_wp2_with fail
    go_region_with (first | (go_at_call 75; refine HC.out.mono ?_; rintro e w3 ⟨rfl, M2, A2, k1, k2, k3⟩; have HK1 := Lib.hid k1; have HK2 := Lib.hid k2; have HK3 := Lib.hid k3; have HV3 := Lib.hid (HV1.out.ext k2 (fun f => f)); have kd := (HS1.out.step k2 (fun f => f)).blk.cell (i := 1) rfl; have ed := HV3.out.get PLd.out; have zd : w3.frozen? ⟨g, pd, none⟩ = false := HV3.out.1.free _; clear k1 k2 k3))
    all_goals
      go_wp2_with fail
      go_end0
      exact nput_done HK1.out HV3.out (HE1.out.trans (HK2.out.more fun _ _ f => f.elim)) HK3.out (p := pd) (x := ⟨0, some sl⟩) rfl (by first | exact Mods.refl _ _ | exact (Mods.refl _ _).drew | exact (Mods.refl _ _).drew.drew | exact (Mods.refl _ _).drewN _)
set_option maxRecDepth 100000 in
set_option maxHeartbeats 1000000 in
theorem sd_load {L : List Fm} {F : Fm} {x : Stp} (hc : x.code = 11) : StepD L F x := by
  intro v b g c P M A s la ln lc W aa ac r hin hr
  obtain ⟨h, hv, hty, hrs, ⟨hvc, hc6⟩, hn64, hok, hal⟩ := hin
  obtain ⟨-, f1, f2, f3, f4⟩ := right_forms hok (by omega) (by omega)
  rw [hc] at f1 f2 f3 f4
  obtain ⟨pd, hpd, hpdl⟩ := fit_place (t := 1) (by decide) f1
  obtain ⟨pa, hpa, hpal⟩ := fit_place (t := 2) (by decide) f2
  have ta := hty.get (fit_kind (t := 2) (by decide) f2) (by decide)
  obtain ⟨pb, hpb, hpbl⟩ := fit_place (t := 1) (by decide) f3
  have tb := hty.get (fit_kind (t := 1) (by decide) f3) (by decide)
  clear f1 f2 f3 f4
  rw [← hty.1] at hpdl
  rw [← hty.1] at hpal
  rw [← hty.1] at hpbl
  unfold stepM at hr
  rw [if_neg (by omega), if_neg (by omega), if_neg (by omega), if_neg (by omega), if_neg (by omega), if_pos hc] at hr
  obtain ⟨xc, xd, xa, xb, xe, xn, xo, xl, xm, xs⟩ := x
  simp only at hc hpd hpa hpb ta tb hr hn64
  subst hc hpd hpa hpb
  obtain ⟨W1, hW1⟩ : ∃ W1, W1 = W.alloc (.cells (stpL ⟨11, (pd : Int), (pa : Int), (pb : Int), xe, xn, xo, xl, xm, xs⟩ (.slice aa xs.length ac)).toArray 65) := ⟨_, rfl⟩
  have HM : Mods None W W1 := by rw [hW1]; exact (Mods.refl _ _).alloc _
  have HS : Hid (Rx W W1 P M g W.heap.size (stpL ⟨11, (pd : Int), (pa : Int), (pb : Int), xe, xn, xo, xl, xm, xs⟩ (.slice aa xs.length ac))) := Lib.hid (by rw [hW1]; exact Rx.new h hv _)
  have HR := Lib.hid (h.quiet HM)
  have HV := Lib.hid (hv.ext (Ext.quiet (T := None) HM) (fun f => f))
  have HE : Hid (Ext (· = g) M M W W1) := Lib.hid (Ext.quiet HM)
  have HTY := Lib.hid (And.intro hty (And.intro hrs (And.intro hn64 hal)))
  have c0 : W1.cell? ⟨W.heap.size, 0, none⟩ = some (.int .i64 11) := HS.out.blk.cell (i := 0) rfl
  have kd : W1.cell? ⟨W.heap.size, 1, none⟩ = some (.int .i64 (pd : Int)) := HS.out.blk.cell (i := 1) rfl
  have ed := HV.out.get hpdl
  have qd : (pd : Int) < (v.length : Int) := by omega
  have PLd := Lib.hid hpdl
  obtain ⟨rd, hrd⟩ : ∃ rd, rd = rep (v.get (pd : Int)) := ⟨_, rfl⟩
  rw [← hrd] at ed
  have HRPd := Lib.hid hrd
  clear hrd
  clear hpdl
  have zd : W1.frozen? ⟨g, pd, none⟩ = false := HV.out.1.free _
  have ka : W1.cell? ⟨W.heap.size, 2, none⟩ = some (.int .i64 (pa : Int)) := HS.out.blk.cell (i := 2) rfl
  have ea := HV.out.get hpal
  have qa : (pa : Int) < (v.length : Int) := by omega
  have PLa := Lib.hid hpal
  have HTa := Lib.hid ta
  clear ta
  clear hpal
  have za : W1.frozen? ⟨g, pa, none⟩ = false := HV.out.1.free _
  have kb : W1.cell? ⟨W.heap.size, 3, none⟩ = some (.int .i64 (pb : Int)) := HS.out.blk.cell (i := 3) rfl
  have eb := HV.out.get hpbl
  have qb : (pb : Int) < (v.length : Int) := by omega
  have PLb := Lib.hid hpbl
  rw [rep_num (tb.2.1 rfl)] at eb
  have hnb := tb.1
  obtain ⟨nb, hnbe⟩ : ∃ nb, nb = (v.get (pb : Int)).n := ⟨_, rfl⟩
  rw [← hnbe] at eb hr hnb
  have HNb := Lib.hid hnbe
  have HIb := Lib.hid hnb
  clear hnbe hnb tb
  clear hpbl
  have zb : W1.frozen? ⟨g, pb, none⟩ = false := HV.out.1.free _
  obtain ⟨n, hn⟩ : ∃ n, n = v.length := ⟨_, rfl⟩
  have HN := Lib.hid hn
  rw [← hn] at qd qa qb hvc ⊢
  clear h hv hty hrs hn64 hok HM hal hn
  unfold stpL str at *
  have HR1 := Lib.hid (HR.out.quiet (Mods.refl None W1).drew)
  have HS1 := Lib.hid (HS.out.step (Ext.quiet (T := None) (Mods.refl None W1).drew) (fun f => f))
  have HV1 := Lib.hid (HV.out.ext (Ext.quiet (T := None) (Mods.refl None W1).drew) (fun f => f))
  have HE1 := Lib.hid (HE.out.trans (Ext.quiet (Mods.refl None W1).drew))
  have hta : VTy2 s 2 (v.get (pa : Int)) := HTa.out
  unfold placeR at hr
  by_cases hb : nb < 0 ∨ nb ≥ (arrOf s (v.get (pa : Int))).length
  · rw [if_pos hb] at hr
    obtain rfl := (Option.some.inj hr).symm
    have HC := Lib.hid (item_no None b P M A s (v.get (pa : Int)) nb W1.drew HR1.out hta hb)
    obtain ⟨ra, hra⟩ : ∃ ra, ra = rep (v.get (pa : Int)) := ⟨_, rfl⟩
    rw [← hra] at HC ea
    clear hr hb hta hra
    go_enter Tryd.func56, Tryd.ntmps56
    go_upto_region 1 with (fail)
    rw [← hW1]
    clear hW1
    go_wp2_with fail
    go_region_with (first | (go_at_call 76; refine HC.out.mono ?_; rintro e w3 ⟨rfl, k1, k2⟩; have HK1 := Lib.hid k1; have HK2 := Lib.hid k2; have c0 := (HS1.out.step k2 (fun f => f)).blk.cell (i := 0) rfl; clear k1 k2))
    all_goals
      go_wp2_with fail
      go_end0
      exact nstop_done HK1.out (HE1.out.trans (HK2.out.more fun _ _ f => f.elim)) (fun hm => HV1.out.2.1 (HK2.out.back g HV1.out.1.lt hm)) (by first | exact Mods.refl _ _ | exact (Mods.refl _ _).drew)
  · rw [if_neg hb] at hr
    obtain rfl := (Option.some.inj hr).symm
    obtain ⟨k, rfl⟩ : ∃ k : Nat, nb = (k : Int) := ⟨nb.toNat, by omega⟩
    have hkl : k < (arrOf s (v.get (pa : Int))).length := by omega
    obtain ⟨i, g2, hi, hai, hA2, hB2, hC⟩ := item_yes b P M A s (v.get (pa : Int)) (k : Int) W1.drew HR1.out hta ⟨by omega, by omega⟩
    rw [Int.toNat_natCast] at hC ⊢
    have HC := Lib.hid hC
    obtain ⟨ra, hra⟩ : ∃ ra, ra = rep (v.get (pa : Int)) := ⟨_, rfl⟩
    rw [← hra] at HC ea
    have ep : W1.drew.cell? ⟨g2, k, none⟩ = some (.int .i64 ((arrOf s (v.get (pa : Int))).getD k 0)) := hB2.cell (by rw [List.getElem?_map, List.getD_eq_getElem?_getD, List.getElem?_eq_getElem hkl]; rfl)
    have zp : W1.drew.frozen? ⟨g2, k, none⟩ = false := hB2.free _
    have HX := Lib.hid (And.intro hi (And.intro hai hA2))
    clear hr hb hta hra hC hB2 hi hai hA2
    obtain ⟨y, hy⟩ : ∃ y, y = (arrOf s (v.get (pa : Int))).getD k 0 := ⟨_, rfl⟩
    rw [← hy] at ep ⊢
    clear hy hkl
    go_enter Tryd.func56, Tryd.ntmps56
    go_upto_region 1 with (fail)
    rw [← hW1]
    clear hW1
    go_wp2_with fail
    go_region_with (first | (go_at_call 76; refine HC.out.mono ?_; rintro e w3 ⟨rfl, rfl⟩))
    all_goals
      go_wp2_with fail
      go_region
      go_end0
      exact nput_done HR1.out HV1.out HE1.out (List.prefix_refl A) (p := pd) (x := numV y) (rep_numV y) (by first | exact Mods.refl _ _ | exact (Mods.refl _ _).drew | exact (Mods.refl _ _).drew.drew | exact (Mods.refl _ _).drewN _)
set_option maxRecDepth 100000 in
set_option maxHeartbeats 1000000 in
theorem sd_store {L : List Fm} {F : Fm} {x : Stp} (hc : x.code = 12) : StepD L F x := by
  intro v b g c P M A s la ln lc W aa ac r hin hr
  obtain ⟨h, hv, hty, hrs, ⟨hvc, hc6⟩, hn64, hok, hal⟩ := hin
  obtain ⟨-, f1, f2, f3, f4⟩ := right_forms hok (by omega) (by omega)
  rw [hc] at f1 f2 f3 f4
  obtain ⟨pa, hpa, hpal⟩ := fit_place (t := 2) (by decide) f2
  have ta := hty.get (fit_kind (t := 2) (by decide) f2) (by decide)
  obtain ⟨pb, hpb, hpbl⟩ := fit_place (t := 1) (by decide) f3
  have tb := hty.get (fit_kind (t := 1) (by decide) f3) (by decide)
  obtain ⟨pc, hpc, hpcl⟩ := fit_place (t := 1) (by decide) f4
  have tc := hty.get (fit_kind (t := 1) (by decide) f4) (by decide)
  clear f1 f2 f3 f4
  rw [← hty.1] at hpal
  rw [← hty.1] at hpbl
  rw [← hty.1] at hpcl
  unfold stepM at hr
  rw [if_neg (by omega), if_neg (by omega), if_neg (by omega), if_neg (by omega), if_neg (by omega), if_neg (by omega), if_pos hc] at hr
  obtain ⟨xc, xd, xa, xb, xe, xn, xo, xl, xm, xs⟩ := x
  simp only at hc hpa hpb hpc ta tb tc hr hn64
  subst hc hpa hpb hpc
  obtain ⟨W1, hW1⟩ : ∃ W1, W1 = W.alloc (.cells (stpL ⟨12, xd, (pa : Int), (pb : Int), (pc : Int), xn, xo, xl, xm, xs⟩ (.slice aa xs.length ac)).toArray 65) := ⟨_, rfl⟩
  have HM : Mods None W W1 := by rw [hW1]; exact (Mods.refl _ _).alloc _
  have HS : Hid (Rx W W1 P M g W.heap.size (stpL ⟨12, xd, (pa : Int), (pb : Int), (pc : Int), xn, xo, xl, xm, xs⟩ (.slice aa xs.length ac))) := Lib.hid (by rw [hW1]; exact Rx.new h hv _)
  have HR := Lib.hid (h.quiet HM)
  have HV := Lib.hid (hv.ext (Ext.quiet (T := None) HM) (fun f => f))
  have HE : Hid (Ext (· = g) M M W W1) := Lib.hid (Ext.quiet HM)
  have HTY := Lib.hid (And.intro hty (And.intro hrs (And.intro hn64 hal)))
  have c0 : W1.cell? ⟨W.heap.size, 0, none⟩ = some (.int .i64 12) := HS.out.blk.cell (i := 0) rfl
  have ka : W1.cell? ⟨W.heap.size, 2, none⟩ = some (.int .i64 (pa : Int)) := HS.out.blk.cell (i := 2) rfl
  have ea := HV.out.get hpal
  have qa : (pa : Int) < (v.length : Int) := by omega
  have PLa := Lib.hid hpal
  have HTa := Lib.hid ta
  clear ta
  clear hpal
  have za : W1.frozen? ⟨g, pa, none⟩ = false := HV.out.1.free _
  have kb : W1.cell? ⟨W.heap.size, 3, none⟩ = some (.int .i64 (pb : Int)) := HS.out.blk.cell (i := 3) rfl
  have eb := HV.out.get hpbl
  have qb : (pb : Int) < (v.length : Int) := by omega
  have PLb := Lib.hid hpbl
  rw [rep_num (tb.2.1 rfl)] at eb
  have hnb := tb.1
  obtain ⟨nb, hnbe⟩ : ∃ nb, nb = (v.get (pb : Int)).n := ⟨_, rfl⟩
  rw [← hnbe] at eb hr hnb
  have HNb := Lib.hid hnbe
  have HIb := Lib.hid hnb
  clear hnbe hnb tb
  clear hpbl
  have zb : W1.frozen? ⟨g, pb, none⟩ = false := HV.out.1.free _
  have kc : W1.cell? ⟨W.heap.size, 4, none⟩ = some (.int .i64 (pc : Int)) := HS.out.blk.cell (i := 4) rfl
  have ec := HV.out.get hpcl
  have qc : (pc : Int) < (v.length : Int) := by omega
  have PLc := Lib.hid hpcl
  rw [rep_num (tc.2.1 rfl)] at ec
  have hnc := tc.1
  obtain ⟨nc, hnce⟩ : ∃ nc, nc = (v.get (pc : Int)).n := ⟨_, rfl⟩
  rw [← hnce] at ec hr hnc
  have HNc := Lib.hid hnce
  have HIc := Lib.hid hnc
  clear hnce hnc tc
  clear hpcl
  have zc : W1.frozen? ⟨g, pc, none⟩ = false := HV.out.1.free _
  obtain ⟨n, hn⟩ : ∃ n, n = v.length := ⟨_, rfl⟩
  have HN := Lib.hid hn
  rw [← hn] at qa qb qc hvc ⊢
  clear h hv hty hrs hn64 hok HM hal hn
  unfold stpL str at *
  have HR1 := Lib.hid (HR.out.quiet (Mods.refl None W1).drew)
  have HS1 := Lib.hid (HS.out.step (Ext.quiet (T := None) (Mods.refl None W1).drew) (fun f => f))
  have HV1 := Lib.hid (HV.out.ext (Ext.quiet (T := None) (Mods.refl None W1).drew) (fun f => f))
  have HE1 := Lib.hid (HE.out.trans (Ext.quiet (Mods.refl None W1).drew))
  have hta : VTy2 s 2 (v.get (pa : Int)) := HTa.out
  unfold placeR at hr
  by_cases hb : nb < 0 ∨ nb ≥ (arrOf s (v.get (pa : Int))).length
  · rw [if_pos hb] at hr
    obtain rfl := (Option.some.inj hr).symm
    have HC := Lib.hid (item_no None b P M A s (v.get (pa : Int)) nb W1.drew HR1.out hta hb)
    obtain ⟨ra, hra⟩ : ∃ ra, ra = rep (v.get (pa : Int)) := ⟨_, rfl⟩
    rw [← hra] at HC ea
    clear hr hb hta hra
    go_enter Tryd.func56, Tryd.ntmps56
    go_upto_region 1 with (fail)
    rw [← hW1]
    clear hW1
    go_wp2_with fail
    go_region_with (first | (go_at_call 76; refine HC.out.mono ?_; rintro e w3 ⟨rfl, k1, k2⟩; have HK1 := Lib.hid k1; have HK2 := Lib.hid k2; have c0 := (HS1.out.step k2 (fun f => f)).blk.cell (i := 0) rfl; clear k1 k2))
    all_goals
      go_wp2_with fail
      go_end0
      exact nstop_done HK1.out (HE1.out.trans (HK2.out.more fun _ _ f => f.elim)) (fun hm => HV1.out.2.1 (HK2.out.back g HV1.out.1.lt hm)) (by first | exact Mods.refl _ _ | exact (Mods.refl _ _).drew)
  · rw [if_neg hb] at hr
    obtain rfl := (Option.some.inj hr).symm
    obtain ⟨k, rfl⟩ : ∃ k : Nat, nb = (k : Int) := ⟨nb.toNat, by omega⟩
    have hkl : k < (arrOf s (v.get (pa : Int))).length := by omega
    obtain ⟨i, g2, hi, hai, hA2, hB2, hC⟩ := item_yes b P M A s (v.get (pa : Int)) (k : Int) W1.drew HR1.out hta ⟨by omega, by omega⟩
    rw [Int.toNat_natCast] at hC 
    have HC := Lib.hid hC
    obtain ⟨ra, hra⟩ : ∃ ra, ra = rep (v.get (pa : Int)) := ⟨_, rfl⟩
    rw [← hra] at HC ea
    have ep : W1.drew.cell? ⟨g2, k, none⟩ = some (.int .i64 ((arrOf s (v.get (pa : Int))).getD k 0)) := hB2.cell (by rw [List.getElem?_map, List.getD_eq_getElem?_getD, List.getElem?_eq_getElem hkl]; rfl)
    have zp : W1.drew.frozen? ⟨g2, k, none⟩ = false := hB2.free _
    have HX := Lib.hid (And.intro hi (And.intro hai hA2))
    clear hr hb hta hra hC hB2 hi hai hA2
    have HSET := Lib.hid (HR1.out.setArr HX.out.2.2 HX.out.2.1 k nc)
    have HPUT : Hid (putArr s (v.get (pa : Int)) (k : Int) nc = { s with arrs := s.arrs.set i ((arrOf s (v.get (pa : Int))).set k nc) }) := Lib.hid (by
      unfold putArr arrOf
      rw [HX.out.1]
      rfl)
    rw [HPUT.out]
    clear hkl
    go_enter Tryd.func56, Tryd.ntmps56
    go_upto_region 1 with (fail)
    rw [← hW1]
    clear hW1
    go_wp2_with fail
    go_region_with (first | (go_at_call 76; refine HC.out.mono ?_; rintro e w3 ⟨rfl, rfl⟩))
    all_goals
      go_wp2_with fail
      go_end0
      exact nrest_done HSET.out.1 (HV1.out.ext HSET.out.2 (fun f => f)) (HE1.out.trans (HSET.out.2.more fun _ _ f => f.elim)) (List.prefix_refl A) (by first | exact Mods.refl _ _ | exact (Mods.refl _ _).drew | exact (Mods.refl _ _).drew.drew | exact (Mods.refl _ _).drewN _)
end Go.Proofs.YtoajcbfejplfbaaDoor.MidP.R

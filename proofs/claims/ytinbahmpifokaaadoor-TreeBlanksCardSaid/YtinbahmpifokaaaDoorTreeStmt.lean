/- A statement. Printed by mkstmt.py. Conditions: what is read within is read so. -/
import Derived.Test.YtinbahmpifokaaaDoorTreeSt
import Derived.Test.YtinbahmpifokaaaDoorTreeExprs
import Derived.Deep.Cut
namespace Go.Proofs.YtinbahmpifokaaaDoor.TreeP
open Go.RowKit Go.Proofs.YtinbahmpifokaaaDoor.Wo
set_option linter.unusedVariables false
set_option linter.unusedSimpArgs false
set_option maxRecDepth 100000 in
set_option maxHeartbeats 4000000 in
theorem stmt_of (f : Nat) (A : AllC f) (hB : BlockC f) (hN : NamedC f) : StmtC (f + 1) := by
  intro b S deep ts W x hd h hx
  simp only [stmtF] at hx
  have HR := Lib.hid h
  have HD := Lib.hid hd
  have hds : Hid ((deep : Int) + 1 = ((deep + 1 : Nat) : Int)) := Lib.hid (by omega)
  have hd0 : 0 ≤ (deep : Int) ∧ (deep : Int) ≤ 12 := by omega
  obtain ⟨⟨g, o, c, hp⟩, hL, _, _, _⟩ := h
  obtain ⟨t, rr, rfl⟩ := ends_cons hp.ends
  have hl := hp.cl
  have ha := hp.ca
  have hcap := hp.cap
  have hmax := hp.max
  have hbl : b < W.heap.size := HR.out.old b HR.out.has
  have hgl : g < W.heap.size := Nat.lt_trans hp.lt hbl
  have hta : headAt (t :: rr) = t.at_ := rfl
  obtain ⟨ta, hta2⟩ : ∃ ta, ta = t.at_ := ⟨_, rfl⟩
  rw [← hta2] at ha hta
  simp only [List.length_cons] at hcap
  obtain ⟨ts, hts⟩ : ∃ ts, ts = t :: rr := ⟨_, rfl⟩
  rw [← hts] at hx HR hta
  rw [hta] at hx
  have HX := Lib.hid hx
  have HT := Lib.hid hta
  clear hp hL hta hta2 hts hd hx
  go_enter Tryd.func37, Tryd.ntmps37
  go_wp2_with fail
  go_at_call 23
  have H0 := Lib.hid (Stm.start HR.out ta)
  obtain ⟨w0, hw0⟩ : ∃ q, q = (W.alloc (.cells #[.int .i64 0, .int .i64 0, .string ⟨#[]⟩, .pointer none, .pointer none, .slice none 0 0, .slice none 0 0] 80)).alloc (.cells #[.int .i64 0, .int .i64 ta, .string ⟨#[]⟩, .pointer none, .pointer none, .slice none 0 0, .slice none 0 0] 80) := ⟨_, rfl⟩
  rw [← hw0] at H0 ⊢
  clear hw0 HR hl ha hcap hmax hbl hgl
  refine take_of (s := kIf) (Lib.hid (Mods.refl _ _)) (Lib.hid H0.out.rd) HX ?_ ?_
  · clear HX
    rintro - HX w1 HR1 hm1 -
    have H1 := Lib.hid (H0.out.next HR1.out hm1.out)
    clear H0 HR1 hm1
    go_wp2_with fail
    go_at_call 47
    refine bind_of (Lib.hid (Mods.refl _ _)) (Lib.hid H1.out.rd) HX (fun y hy => A.alone b (Three S W.heap.size) 0 ts.tail w1 y (by omega) H1.out.rd hy) ?_ ?_
    · rintro n a rfl g w HB HM1
      go_wp2
      exact ⟨rfl, g, rfl, HB.out, H1.out.mods.trans HM1.out⟩
    clear HX
    rintro v r2 - HX xv w2 hv HR2 hm2 -
    obtain ⟨g2, rfl⟩ := ExAt.ptr hv
    have HV2 := Lib.hid (show ExAt w2 (Three S W.heap.size) v _ from hv)
    have H2 := Lib.hid (H1.out.next HR2.out hm2.out)
    clear hm2 HR2 H1 hv
    go_wp2_with fail
    go_at_call 24
    rw [hds.out]
    refine bind_of (Lib.hid (Mods.refl _ _)) (Lib.hid H2.out.rd) HX (fun y hy => hB b (Three S W.heap.size) (deep + 1) r2 w2 y (by have := HD.out; omega) H2.out.rd hy) ?_ ?_
    · rintro n a rfl g w HB HM1
      go_wp2
      exact ⟨rfl, g, rfl, HB.out, H2.out.mods.trans HM1.out⟩
    clear HX
    rintro l r3 - HX xv w3 hv HR3 hm3 -
    obtain ⟨vs3, hrow, hsts⟩ := hv
    obtain ⟨oa3, on3, oc3, rfl⟩ := hrow.form
    have HTw3 := Lib.hid hrow
    have HTs3 := Lib.hid hsts
    have H3 := Lib.hid (H2.out.next HR3.out hm3.out)
    have HV3 := Lib.hid (HV2.out.by H2.out.rd hm3.out)
    clear hm3 HR3 H2 HV2 hrow hsts
    have c0 := H3.out.own.cell (i := 0) rfl
    have f0 := H3.out.own.free 0
    have c4 := H3.out.own.cell (i := 4) rfl
    have f4 := H3.out.own.free 4
    have c5 := H3.out.own.cell (i := 5) rfl
    have f5 := H3.out.own.free 5
    have hl3 := H3.out.own.lt
    go_wp2_with fail
    have HQ4 := (((H3.out.putMods 0 (.int .i64 4)).trans ((H3.out.put (ds := _) 0 (.int .i64 4) rfl).putMods 4 (.pointer (some ⟨g2, 0, none⟩)))).trans (((H3.out.put (ds := _) 0 (.int .i64 4) rfl).put (ds := _) 4 (.pointer (some ⟨g2, 0, none⟩)) rfl).putMods 5 (.slice oa3 on3 oc3)))
    have HV4 := Lib.hid (HV3.out.mods HQ4)
    have HTw4 := Lib.hid (HTw3.out.mods HQ4 (fun _ _ h => h))
    have HTs4 := Lib.hid (StsAt.modsTo HQ4 (fun _ _ h => h) _ _ HTs3.out)
    have H4 := Lib.hid (((H3.out.put (ds := _) 0 (.int .i64 4) rfl).put (ds := _) 4 (.pointer (some ⟨g2, 0, none⟩)) rfl).put (ds := [.int .i64 4, .int .i64 ta, .string ⟨#[]⟩, .pointer none, .pointer (some ⟨g2, 0, none⟩), .slice oa3 on3 oc3, .slice none 0 0]) 5 (.slice oa3 on3 oc3) rfl)
    obtain ⟨w4, hw4⟩ : ∃ q, q = (((w3.setCell ⟨W.heap.size + 1, 0, none⟩ (.int .i64 4)).setCell ⟨W.heap.size + 1, 4, none⟩ (.pointer (some ⟨g2, 0, none⟩))).setCell ⟨W.heap.size + 1, 5, none⟩ (.slice oa3 on3 oc3)) := ⟨_, rfl⟩
    clear HQ4
    rw [← hw4] at H4 HV4 HTw4 HTs4 ⊢
    clear hw4 hl3 H3 HV3 HTw3 HTs3 c0 f0 c4 f4 c5 f5
    go_at_call 23
    refine take_of (s := kElse) (Lib.hid (Mods.refl _ _)) (Lib.hid H4.out.rd) HX ?_ ?_
    · clear HX
      rintro - HX w5 HR5 hm5 -
      have H5 := Lib.hid (H4.out.next HR5.out hm5.out)
      have HV5 := Lib.hid (HV4.out.by H4.out.rd hm5.out)
      have HTw5 := Lib.hid (HTw4.out.mods (hm5.out.mono fun k _ hk => by rw [hk]; exact H4.out.rd.has) (fun _ _ h => h))
      have HTs5 := Lib.hid (StsAt.modsTo (hm5.out.mono fun k _ hk => by rw [hk]; exact H4.out.rd.has) (fun _ _ h => h) _ _ HTs4.out)
      clear hm5 HR5 H4 HV4 HTw4 HTs4
      go_wp2_with fail
      go_at_call 24
      rw [hds.out]
      refine bind_of (Lib.hid (Mods.refl _ _)) (Lib.hid H5.out.rd) HX (fun y hy => hB b (Three S W.heap.size) (deep + 1) r3.tail w5 y (by have := HD.out; omega) H5.out.rd hy) ?_ ?_
      · rintro n a rfl g w HB HM1
        go_wp2
        exact ⟨rfl, g, rfl, HB.out, H5.out.mods.trans HM1.out⟩
      clear HX
      rintro el r6 - HX xv w6 hv HR6 hm6 -
      obtain ⟨vs6, hrow, hsts⟩ := hv
      obtain ⟨oa6, on6, oc6, rfl⟩ := hrow.form
      have HEw6 := Lib.hid hrow
      have HEs6 := Lib.hid hsts
      have H6 := Lib.hid (H5.out.next HR6.out hm6.out)
      have HV6 := Lib.hid (HV5.out.by H5.out.rd hm6.out)
      have HTw6 := Lib.hid (HTw5.out.mods (hm6.out.mono fun k _ hk => by rw [hk]; exact H5.out.rd.has) (fun _ _ h => h))
      have HTs6 := Lib.hid (StsAt.modsTo (hm6.out.mono fun k _ hk => by rw [hk]; exact H5.out.rd.has) (fun _ _ h => h) _ _ HTs5.out)
      clear hm6 HR6 H5 HV5 HTw5 HTs5 hrow hsts
      have c6 := H6.out.own.cell (i := 6) rfl
      have f6 := H6.out.own.free 6
      have hl6 := H6.out.own.lt
      go_upto_region 7 with fail
      have HQ7 := (H6.out.putMods 6 (.slice oa6 on6 oc6))
      have HV7 := Lib.hid (HV6.out.mods HQ7)
      have HTw7 := Lib.hid (HTw6.out.mods HQ7 (fun _ _ h => h))
      have HTs7 := Lib.hid (StsAt.modsTo HQ7 (fun _ _ h => h) _ _ HTs6.out)
      have HEw7 := Lib.hid (HEw6.out.mods HQ7 (fun _ _ h => h))
      have HEs7 := Lib.hid (StsAt.modsTo HQ7 (fun _ _ h => h) _ _ HEs6.out)
      have H7 := Lib.hid (H6.out.put (ds := [.int .i64 4, .int .i64 ta, .string ⟨#[]⟩, .pointer none, .pointer (some ⟨g2, 0, none⟩), .slice oa3 on3 oc3, .slice oa6 on6 oc6]) 6 (.slice oa6 on6 oc6) rfl)
      obtain ⟨w7, hw7⟩ : ∃ q, q = (w6.setCell ⟨W.heap.size + 1, 6, none⟩ (.slice oa6 on6 oc6)) := ⟨_, rfl⟩
      clear HQ7
      rw [← hw7] at H7 HV7 HTw7 HTs7 HEw7 HEs7 ⊢
      clear hw7 hl6 H6 HV6 HTw6 HTs6 HEw6 HEs6 c6 f6
      obtain rfl := (Option.some.inj HX.out).symm
      have c0 := H7.out.own.cell (i := 0) rfl
      have c1 := H7.out.own.cell (i := 1) rfl
      have c2 := H7.out.own.cell (i := 2) rfl
      have c3 := H7.out.own.cell (i := 3) rfl
      have c4 := H7.out.own.cell (i := 4) rfl
      have c5 := H7.out.own.cell (i := 5) rfl
      have c6 := H7.out.own.cell (i := 6) rfl
      have d0 := H7.out.res.cell (i := 0) rfl
      have e0 := H7.out.res.free 0
      have d1 := H7.out.res.cell (i := 1) rfl
      have e1 := H7.out.res.free 1
      have d2 := H7.out.res.cell (i := 2) rfl
      have e2 := H7.out.res.free 2
      have d3 := H7.out.res.cell (i := 3) rfl
      have e3 := H7.out.res.free 3
      have d4 := H7.out.res.cell (i := 4) rfl
      have e4 := H7.out.res.free 4
      have d5 := H7.out.res.cell (i := 5) rfl
      have e5 := H7.out.res.free 5
      have d6 := H7.out.res.cell (i := 6) rfl
      have e6 := H7.out.res.free 6
      go_wp2
      obtain ⟨hq1, hq2, hq3, hq4⟩ := H7.out.ret rfl
      have q0 := hq1.cell (i := 0) rfl
      have q1 := hq1.cell (i := 1) rfl
      have q2 := hq1.cell (i := 2) rfl
      have q3 := hq1.cell (i := 3) rfl
      have q4 := hq1.cell (i := 4) rfl
      have q5 := hq1.cell (i := 5) rfl
      have q6 := hq1.cell (i := 6) rfl
      refine bodyPost_ret (v := .agg #[.int .i64 4, .int .i64 ta, .string ⟨#[]⟩, .pointer none, .pointer (some ⟨g2, 0, none⟩), .slice oa3 on3 oc3, .slice oa6 on6 oc6]) (by simp [results, Tryd.results37, go_sem, q0, q1, q2, q3, q4, q5, q6]) rfl ?_
      refine ⟨_, rfl, ⟨_, rfl, StAt.modsTo hq4 sub_three (.cond ta v l el) _ ?_⟩, hq3, hq2⟩
      simp only [StAt]
      exact ⟨_, _, _, _, _, rfl, HV7.out, HTw7.out, HTs7.out, HEw7.out, HEs7.out⟩
    clear HX
    rintro - HX
    obtain rfl := (Option.some.inj HX.out).symm
    have c0 := H4.out.own.cell (i := 0) rfl
    have c1 := H4.out.own.cell (i := 1) rfl
    have c2 := H4.out.own.cell (i := 2) rfl
    have c3 := H4.out.own.cell (i := 3) rfl
    have c4 := H4.out.own.cell (i := 4) rfl
    have c5 := H4.out.own.cell (i := 5) rfl
    have c6 := H4.out.own.cell (i := 6) rfl
    have d0 := H4.out.res.cell (i := 0) rfl
    have e0 := H4.out.res.free 0
    have d1 := H4.out.res.cell (i := 1) rfl
    have e1 := H4.out.res.free 1
    have d2 := H4.out.res.cell (i := 2) rfl
    have e2 := H4.out.res.free 2
    have d3 := H4.out.res.cell (i := 3) rfl
    have e3 := H4.out.res.free 3
    have d4 := H4.out.res.cell (i := 4) rfl
    have e4 := H4.out.res.free 4
    have d5 := H4.out.res.cell (i := 5) rfl
    have e5 := H4.out.res.free 5
    have d6 := H4.out.res.cell (i := 6) rfl
    have e6 := H4.out.res.free 6
    go_wp2
    obtain ⟨hq1, hq2, hq3, hq4⟩ := H4.out.ret rfl
    have q0 := hq1.cell (i := 0) rfl
    have q1 := hq1.cell (i := 1) rfl
    have q2 := hq1.cell (i := 2) rfl
    have q3 := hq1.cell (i := 3) rfl
    have q4 := hq1.cell (i := 4) rfl
    have q5 := hq1.cell (i := 5) rfl
    have q6 := hq1.cell (i := 6) rfl
    refine bodyPost_ret (v := .agg #[.int .i64 4, .int .i64 ta, .string ⟨#[]⟩, .pointer none, .pointer (some ⟨g2, 0, none⟩), .slice oa3 on3 oc3, .slice none 0 0]) (by simp [results, Tryd.results37, go_sem, q0, q1, q2, q3, q4, q5, q6]) rfl ?_
    refine ⟨_, rfl, ⟨_, rfl, StAt.modsTo hq4 sub_three (.cond ta v l []) _ ?_⟩, hq3, hq2⟩
    simp only [StAt]
    exact ⟨_, _, _, _, _, rfl, HV4.out, HTw4.out, HTs4.out, ⟨World.ownsRow_nil _ _ _ _, fun _ hk => by cases hk⟩, by simp only [StsAt]⟩
  clear HX
  rintro - HX
  go_wp2_with fail
  go_at_call 23
  refine take_of (s := kWhile) (Lib.hid (Mods.refl _ _)) (Lib.hid H0.out.rd) HX ?_ ?_
  · clear HX
    rintro - HX w1 HR1 hm1 -
    have H1 := Lib.hid (H0.out.next HR1.out hm1.out)
    clear H0 HR1 hm1
    go_wp2_with fail
    go_at_call 47
    refine bind_of (Lib.hid (Mods.refl _ _)) (Lib.hid H1.out.rd) HX (fun y hy => A.alone b (Three S W.heap.size) 0 ts.tail w1 y (by omega) H1.out.rd hy) ?_ ?_
    · rintro n a rfl g w HB HM1
      go_wp2
      exact ⟨rfl, g, rfl, HB.out, H1.out.mods.trans HM1.out⟩
    clear HX
    rintro v r2 - HX xv w2 hv HR2 hm2 -
    obtain ⟨g2, rfl⟩ := ExAt.ptr hv
    have HV2 := Lib.hid (show ExAt w2 (Three S W.heap.size) v _ from hv)
    have H2 := Lib.hid (H1.out.next HR2.out hm2.out)
    clear hm2 HR2 H1 hv
    go_wp2_with fail
    go_at_call 24
    rw [hds.out]
    refine bind_of (Lib.hid (Mods.refl _ _)) (Lib.hid H2.out.rd) HX (fun y hy => hB b (Three S W.heap.size) (deep + 1) r2 w2 y (by have := HD.out; omega) H2.out.rd hy) ?_ ?_
    · rintro n a rfl g w HB HM1
      go_wp2
      exact ⟨rfl, g, rfl, HB.out, H2.out.mods.trans HM1.out⟩
    clear HX
    rintro l r3 - HX xv w3 hv HR3 hm3 -
    obtain ⟨vs3, hrow, hsts⟩ := hv
    obtain ⟨oa3, on3, oc3, rfl⟩ := hrow.form
    have HTw3 := Lib.hid hrow
    have HTs3 := Lib.hid hsts
    have H3 := Lib.hid (H2.out.next HR3.out hm3.out)
    have HV3 := Lib.hid (HV2.out.by H2.out.rd hm3.out)
    clear hm3 HR3 H2 HV2 hrow hsts
    have c0 := H3.out.own.cell (i := 0) rfl
    have f0 := H3.out.own.free 0
    have c4 := H3.out.own.cell (i := 4) rfl
    have f4 := H3.out.own.free 4
    have c5 := H3.out.own.cell (i := 5) rfl
    have f5 := H3.out.own.free 5
    have hl3 := H3.out.own.lt
    go_upto_region 10 with fail
    have HQ4 := (((H3.out.putMods 0 (.int .i64 5)).trans ((H3.out.put (ds := _) 0 (.int .i64 5) rfl).putMods 4 (.pointer (some ⟨g2, 0, none⟩)))).trans (((H3.out.put (ds := _) 0 (.int .i64 5) rfl).put (ds := _) 4 (.pointer (some ⟨g2, 0, none⟩)) rfl).putMods 5 (.slice oa3 on3 oc3)))
    have HV4 := Lib.hid (HV3.out.mods HQ4)
    have HTw4 := Lib.hid (HTw3.out.mods HQ4 (fun _ _ h => h))
    have HTs4 := Lib.hid (StsAt.modsTo HQ4 (fun _ _ h => h) _ _ HTs3.out)
    have H4 := Lib.hid (((H3.out.put (ds := _) 0 (.int .i64 5) rfl).put (ds := _) 4 (.pointer (some ⟨g2, 0, none⟩)) rfl).put (ds := [.int .i64 5, .int .i64 ta, .string ⟨#[]⟩, .pointer none, .pointer (some ⟨g2, 0, none⟩), .slice oa3 on3 oc3, .slice none 0 0]) 5 (.slice oa3 on3 oc3) rfl)
    obtain ⟨w4, hw4⟩ : ∃ q, q = (((w3.setCell ⟨W.heap.size + 1, 0, none⟩ (.int .i64 5)).setCell ⟨W.heap.size + 1, 4, none⟩ (.pointer (some ⟨g2, 0, none⟩))).setCell ⟨W.heap.size + 1, 5, none⟩ (.slice oa3 on3 oc3)) := ⟨_, rfl⟩
    clear HQ4
    rw [← hw4] at H4 HV4 HTw4 HTs4 ⊢
    clear hw4 hl3 H3 HV3 HTw3 HTs3 c0 f0 c4 f4 c5 f5
    obtain rfl := (Option.some.inj HX.out).symm
    have c0 := H4.out.own.cell (i := 0) rfl
    have c1 := H4.out.own.cell (i := 1) rfl
    have c2 := H4.out.own.cell (i := 2) rfl
    have c3 := H4.out.own.cell (i := 3) rfl
    have c4 := H4.out.own.cell (i := 4) rfl
    have c5 := H4.out.own.cell (i := 5) rfl
    have c6 := H4.out.own.cell (i := 6) rfl
    have d0 := H4.out.res.cell (i := 0) rfl
    have e0 := H4.out.res.free 0
    have d1 := H4.out.res.cell (i := 1) rfl
    have e1 := H4.out.res.free 1
    have d2 := H4.out.res.cell (i := 2) rfl
    have e2 := H4.out.res.free 2
    have d3 := H4.out.res.cell (i := 3) rfl
    have e3 := H4.out.res.free 3
    have d4 := H4.out.res.cell (i := 4) rfl
    have e4 := H4.out.res.free 4
    have d5 := H4.out.res.cell (i := 5) rfl
    have e5 := H4.out.res.free 5
    have d6 := H4.out.res.cell (i := 6) rfl
    have e6 := H4.out.res.free 6
    go_wp2
    obtain ⟨hq1, hq2, hq3, hq4⟩ := H4.out.ret rfl
    have q0 := hq1.cell (i := 0) rfl
    have q1 := hq1.cell (i := 1) rfl
    have q2 := hq1.cell (i := 2) rfl
    have q3 := hq1.cell (i := 3) rfl
    have q4 := hq1.cell (i := 4) rfl
    have q5 := hq1.cell (i := 5) rfl
    have q6 := hq1.cell (i := 6) rfl
    refine bodyPost_ret (v := .agg #[.int .i64 5, .int .i64 ta, .string ⟨#[]⟩, .pointer none, .pointer (some ⟨g2, 0, none⟩), .slice oa3 on3 oc3, .slice none 0 0]) (by simp [results, Tryd.results37, go_sem, q0, q1, q2, q3, q4, q5, q6]) rfl ?_
    refine ⟨_, rfl, ⟨_, rfl, StAt.modsTo hq4 sub_three (.loop ta v l) _ ?_⟩, hq3, hq2⟩
    simp only [StAt]
    exact ⟨_, _, _, rfl, HV4.out, HTw4.out, HTs4.out⟩
  clear HX
  rintro - HX
  go_wp2_with fail
  go_at_call 23
  refine take_of (s := kVar) (Lib.hid (Mods.refl _ _)) (Lib.hid H0.out.rd) HX ?_ ?_
  · clear HX
    rintro - HX w1 HR1 hm1 -
    have H1 := Lib.hid (H0.out.next HR1.out hm1.out)
    clear H0 HR1 hm1
    go_wp2_with fail
    go_at_call 22
    refine name_of (Lib.hid (Mods.refl _ _)) (Lib.hid H1.out.rd) HX ?_ ?_
    · rintro n a rfl g w HB HM1
      go_wp2
      exact ⟨rfl, g, rfl, HB.out, H1.out.mods.trans HM1.out⟩
    clear HX
    rintro n r2 - HX w2 HR2 hm2 -
    have H2 := Lib.hid (H1.out.next HR2.out hm2.out)
    clear hm2 HR2 H1
    have c0 := H2.out.own.cell (i := 0) rfl
    have f0 := H2.out.own.free 0
    have c2 := H2.out.own.cell (i := 2) rfl
    have f2 := H2.out.own.free 2
    have hl2 := H2.out.own.lt
    go_upto_region 13 with fail
    have HQ3 := ((H2.out.putMods 0 (.int .i64 1)).trans ((H2.out.put (ds := _) 0 (.int .i64 1) rfl).putMods 2 (.string ⟨n.toArray⟩)))
    have H3 := Lib.hid ((H2.out.put (ds := _) 0 (.int .i64 1) rfl).put (ds := [.int .i64 1, .int .i64 ta, .string ⟨n.toArray⟩, .pointer none, .pointer none, .slice none 0 0, .slice none 0 0]) 2 (.string ⟨n.toArray⟩) rfl)
    obtain ⟨w3, hw3⟩ : ∃ q, q = ((w2.setCell ⟨W.heap.size + 1, 0, none⟩ (.int .i64 1)).setCell ⟨W.heap.size + 1, 2, none⟩ (.string ⟨n.toArray⟩)) := ⟨_, rfl⟩
    clear HQ3
    rw [← hw3] at H3 ⊢
    clear hw3 hl2 H2 c0 f0 c2 f2
    go_wp2_with fail
    go_at_call 21
    refine must_of (s := [61]) (Lib.hid (Mods.refl _ _)) (Lib.hid H3.out.rd) HX ?_ ?_
    · rintro n a rfl g w HB HM1
      go_wp2
      exact ⟨rfl, g, rfl, HB.out, H3.out.mods.trans HM1.out⟩
    clear HX
    rintro r4 - HX w4 HR4 hm4 -
    have H4 := Lib.hid (H3.out.next HR4.out hm4.out)
    clear hm4 HR4 H3
    go_wp2_with fail
    go_at_call 48
    refine bind_of (Lib.hid (Mods.refl _ _)) (Lib.hid H4.out.rd) HX (fun y hy => A.expr b (Three S W.heap.size) 0 0 r4 w4 y (by omega) (by omega) H4.out.rd hy) ?_ ?_
    · rintro n a rfl g w HB HM1
      go_wp2
      exact ⟨rfl, g, rfl, HB.out, H4.out.mods.trans HM1.out⟩
    clear HX
    rintro v r5 - HX xv w5 hv HR5 hm5 -
    obtain ⟨g5, rfl⟩ := ExAt.ptr hv
    have HV5 := Lib.hid (show ExAt w5 (Three S W.heap.size) v _ from hv)
    have H5 := Lib.hid (H4.out.next HR5.out hm5.out)
    clear hm5 HR5 H4 hv
    have c4 := H5.out.own.cell (i := 4) rfl
    have f4 := H5.out.own.free 4
    have hl5 := H5.out.own.lt
    go_upto_region 19 with fail
    have HQ6 := (H5.out.putMods 4 (.pointer (some ⟨g5, 0, none⟩)))
    have HV6 := Lib.hid (HV5.out.mods HQ6)
    have H6 := Lib.hid (H5.out.put (ds := [.int .i64 1, .int .i64 ta, .string ⟨n.toArray⟩, .pointer none, .pointer (some ⟨g5, 0, none⟩), .slice none 0 0, .slice none 0 0]) 4 (.pointer (some ⟨g5, 0, none⟩)) rfl)
    obtain ⟨w6, hw6⟩ : ∃ q, q = (w5.setCell ⟨W.heap.size + 1, 4, none⟩ (.pointer (some ⟨g5, 0, none⟩))) := ⟨_, rfl⟩
    clear HQ6
    rw [← hw6] at H6 HV6 ⊢
    clear hw6 hl5 H5 HV5 c4 f4
    go_wp2_with fail
    go_at_call 21
    refine must_of (s := [59]) (Lib.hid (Mods.refl _ _)) (Lib.hid H6.out.rd) HX ?_ ?_
    · rintro n a rfl g w HB HM1
      go_wp2
      exact ⟨rfl, g, rfl, HB.out, H6.out.mods.trans HM1.out⟩
    clear HX
    rintro r7 - HX w7 HR7 hm7 -
    have H7 := Lib.hid (H6.out.next HR7.out hm7.out)
    have HV7 := Lib.hid (HV6.out.by H6.out.rd hm7.out)
    clear hm7 HR7 H6 HV6
    obtain rfl := (Option.some.inj HX.out).symm
    go_upto_region 20 with fail
    have c0 := H7.out.own.cell (i := 0) rfl
    have c1 := H7.out.own.cell (i := 1) rfl
    have c2 := H7.out.own.cell (i := 2) rfl
    have c3 := H7.out.own.cell (i := 3) rfl
    have c4 := H7.out.own.cell (i := 4) rfl
    have c5 := H7.out.own.cell (i := 5) rfl
    have c6 := H7.out.own.cell (i := 6) rfl
    have d0 := H7.out.res.cell (i := 0) rfl
    have e0 := H7.out.res.free 0
    have d1 := H7.out.res.cell (i := 1) rfl
    have e1 := H7.out.res.free 1
    have d2 := H7.out.res.cell (i := 2) rfl
    have e2 := H7.out.res.free 2
    have d3 := H7.out.res.cell (i := 3) rfl
    have e3 := H7.out.res.free 3
    have d4 := H7.out.res.cell (i := 4) rfl
    have e4 := H7.out.res.free 4
    have d5 := H7.out.res.cell (i := 5) rfl
    have e5 := H7.out.res.free 5
    have d6 := H7.out.res.cell (i := 6) rfl
    have e6 := H7.out.res.free 6
    go_wp2
    obtain ⟨hq1, hq2, hq3, hq4⟩ := H7.out.ret rfl
    have q0 := hq1.cell (i := 0) rfl
    have q1 := hq1.cell (i := 1) rfl
    have q2 := hq1.cell (i := 2) rfl
    have q3 := hq1.cell (i := 3) rfl
    have q4 := hq1.cell (i := 4) rfl
    have q5 := hq1.cell (i := 5) rfl
    have q6 := hq1.cell (i := 6) rfl
    refine bodyPost_ret (v := .agg #[.int .i64 1, .int .i64 ta, .string ⟨n.toArray⟩, .pointer none, .pointer (some ⟨g5, 0, none⟩), .slice none 0 0, .slice none 0 0]) (by simp [results, Tryd.results37, go_sem, q0, q1, q2, q3, q4, q5, q6]) rfl ?_
    refine ⟨_, rfl, ⟨_, rfl, StAt.modsTo hq4 sub_three (.var ta n v) _ ?_⟩, hq3, hq2⟩
    simp only [StAt]
    exact ⟨_, rfl, HV7.out⟩
  clear HX
  rintro - HX
  go_wp2_with fail
  go_at_call 23
  refine take_of (s := kReturn) (Lib.hid (Mods.refl _ _)) (Lib.hid H0.out.rd) HX ?_ ?_
  · clear HX
    rintro - HX w1 HR1 hm1 -
    have H1 := Lib.hid (H0.out.next HR1.out hm1.out)
    clear H0 HR1 hm1
    go_wp2_with fail
    go_at_call 48
    refine bind_of (Lib.hid (Mods.refl _ _)) (Lib.hid H1.out.rd) HX (fun y hy => A.expr b (Three S W.heap.size) 0 0 ts.tail w1 y (by omega) (by omega) H1.out.rd hy) ?_ ?_
    · rintro n a rfl g w HB HM1
      go_wp2
      exact ⟨rfl, g, rfl, HB.out, H1.out.mods.trans HM1.out⟩
    clear HX
    rintro v r2 - HX xv w2 hv HR2 hm2 -
    obtain ⟨g2, rfl⟩ := ExAt.ptr hv
    have HV2 := Lib.hid (show ExAt w2 (Three S W.heap.size) v _ from hv)
    have H2 := Lib.hid (H1.out.next HR2.out hm2.out)
    clear hm2 HR2 H1 hv
    have c0 := H2.out.own.cell (i := 0) rfl
    have f0 := H2.out.own.free 0
    have c4 := H2.out.own.cell (i := 4) rfl
    have f4 := H2.out.own.free 4
    have hl2 := H2.out.own.lt
    go_upto_region 19 with fail
    have HQ3 := ((H2.out.putMods 0 (.int .i64 6)).trans ((H2.out.put (ds := _) 0 (.int .i64 6) rfl).putMods 4 (.pointer (some ⟨g2, 0, none⟩))))
    have HV3 := Lib.hid (HV2.out.mods HQ3)
    have H3 := Lib.hid ((H2.out.put (ds := _) 0 (.int .i64 6) rfl).put (ds := [.int .i64 6, .int .i64 ta, .string ⟨#[]⟩, .pointer none, .pointer (some ⟨g2, 0, none⟩), .slice none 0 0, .slice none 0 0]) 4 (.pointer (some ⟨g2, 0, none⟩)) rfl)
    obtain ⟨w3, hw3⟩ : ∃ q, q = ((w2.setCell ⟨W.heap.size + 1, 0, none⟩ (.int .i64 6)).setCell ⟨W.heap.size + 1, 4, none⟩ (.pointer (some ⟨g2, 0, none⟩))) := ⟨_, rfl⟩
    clear HQ3
    rw [← hw3] at H3 HV3 ⊢
    clear hw3 hl2 H2 HV2 c0 f0 c4 f4
    go_wp2_with fail
    go_at_call 21
    refine must_of (s := [59]) (Lib.hid (Mods.refl _ _)) (Lib.hid H3.out.rd) HX ?_ ?_
    · rintro n a rfl g w HB HM1
      go_wp2
      exact ⟨rfl, g, rfl, HB.out, H3.out.mods.trans HM1.out⟩
    clear HX
    rintro r4 - HX w4 HR4 hm4 -
    have H4 := Lib.hid (H3.out.next HR4.out hm4.out)
    have HV4 := Lib.hid (HV3.out.by H3.out.rd hm4.out)
    clear hm4 HR4 H3 HV3
    obtain rfl := (Option.some.inj HX.out).symm
    go_upto_region 20 with fail
    have c0 := H4.out.own.cell (i := 0) rfl
    have c1 := H4.out.own.cell (i := 1) rfl
    have c2 := H4.out.own.cell (i := 2) rfl
    have c3 := H4.out.own.cell (i := 3) rfl
    have c4 := H4.out.own.cell (i := 4) rfl
    have c5 := H4.out.own.cell (i := 5) rfl
    have c6 := H4.out.own.cell (i := 6) rfl
    have d0 := H4.out.res.cell (i := 0) rfl
    have e0 := H4.out.res.free 0
    have d1 := H4.out.res.cell (i := 1) rfl
    have e1 := H4.out.res.free 1
    have d2 := H4.out.res.cell (i := 2) rfl
    have e2 := H4.out.res.free 2
    have d3 := H4.out.res.cell (i := 3) rfl
    have e3 := H4.out.res.free 3
    have d4 := H4.out.res.cell (i := 4) rfl
    have e4 := H4.out.res.free 4
    have d5 := H4.out.res.cell (i := 5) rfl
    have e5 := H4.out.res.free 5
    have d6 := H4.out.res.cell (i := 6) rfl
    have e6 := H4.out.res.free 6
    go_wp2
    obtain ⟨hq1, hq2, hq3, hq4⟩ := H4.out.ret rfl
    have q0 := hq1.cell (i := 0) rfl
    have q1 := hq1.cell (i := 1) rfl
    have q2 := hq1.cell (i := 2) rfl
    have q3 := hq1.cell (i := 3) rfl
    have q4 := hq1.cell (i := 4) rfl
    have q5 := hq1.cell (i := 5) rfl
    have q6 := hq1.cell (i := 6) rfl
    refine bodyPost_ret (v := .agg #[.int .i64 6, .int .i64 ta, .string ⟨#[]⟩, .pointer none, .pointer (some ⟨g2, 0, none⟩), .slice none 0 0, .slice none 0 0]) (by simp [results, Tryd.results37, go_sem, q0, q1, q2, q3, q4, q5, q6]) rfl ?_
    refine ⟨_, rfl, ⟨_, rfl, StAt.modsTo hq4 sub_three (.ret ta v) _ ?_⟩, hq3, hq2⟩
    simp only [StAt]
    exact ⟨_, rfl, HV4.out⟩
  clear HX
  rintro - HX
  go_wp2_with fail
  go_at_call 23
  refine take_of (s := kPrint) (Lib.hid (Mods.refl _ _)) (Lib.hid H0.out.rd) HX ?_ ?_
  · clear HX
    rintro - HX w1 HR1 hm1 -
    have H1 := Lib.hid (H0.out.next HR1.out hm1.out)
    clear H0 HR1 hm1
    go_wp2_with fail
    go_at_call 48
    refine bind_of (Lib.hid (Mods.refl _ _)) (Lib.hid H1.out.rd) HX (fun y hy => A.expr b (Three S W.heap.size) 0 0 ts.tail w1 y (by omega) (by omega) H1.out.rd hy) ?_ ?_
    · rintro n a rfl g w HB HM1
      go_wp2
      exact ⟨rfl, g, rfl, HB.out, H1.out.mods.trans HM1.out⟩
    clear HX
    rintro v r2 - HX xv w2 hv HR2 hm2 -
    obtain ⟨g2, rfl⟩ := ExAt.ptr hv
    have HV2 := Lib.hid (show ExAt w2 (Three S W.heap.size) v _ from hv)
    have H2 := Lib.hid (H1.out.next HR2.out hm2.out)
    clear hm2 HR2 H1 hv
    have c0 := H2.out.own.cell (i := 0) rfl
    have f0 := H2.out.own.free 0
    have c4 := H2.out.own.cell (i := 4) rfl
    have f4 := H2.out.own.free 4
    have hl2 := H2.out.own.lt
    go_upto_region 19 with fail
    have HQ3 := ((H2.out.putMods 0 (.int .i64 7)).trans ((H2.out.put (ds := _) 0 (.int .i64 7) rfl).putMods 4 (.pointer (some ⟨g2, 0, none⟩))))
    have HV3 := Lib.hid (HV2.out.mods HQ3)
    have H3 := Lib.hid ((H2.out.put (ds := _) 0 (.int .i64 7) rfl).put (ds := [.int .i64 7, .int .i64 ta, .string ⟨#[]⟩, .pointer none, .pointer (some ⟨g2, 0, none⟩), .slice none 0 0, .slice none 0 0]) 4 (.pointer (some ⟨g2, 0, none⟩)) rfl)
    obtain ⟨w3, hw3⟩ : ∃ q, q = ((w2.setCell ⟨W.heap.size + 1, 0, none⟩ (.int .i64 7)).setCell ⟨W.heap.size + 1, 4, none⟩ (.pointer (some ⟨g2, 0, none⟩))) := ⟨_, rfl⟩
    clear HQ3
    rw [← hw3] at H3 HV3 ⊢
    clear hw3 hl2 H2 HV2 c0 f0 c4 f4
    go_wp2_with fail
    go_at_call 21
    refine must_of (s := [59]) (Lib.hid (Mods.refl _ _)) (Lib.hid H3.out.rd) HX ?_ ?_
    · rintro n a rfl g w HB HM1
      go_wp2
      exact ⟨rfl, g, rfl, HB.out, H3.out.mods.trans HM1.out⟩
    clear HX
    rintro r4 - HX w4 HR4 hm4 -
    have H4 := Lib.hid (H3.out.next HR4.out hm4.out)
    have HV4 := Lib.hid (HV3.out.by H3.out.rd hm4.out)
    clear hm4 HR4 H3 HV3
    obtain rfl := (Option.some.inj HX.out).symm
    go_upto_region 20 with fail
    have c0 := H4.out.own.cell (i := 0) rfl
    have c1 := H4.out.own.cell (i := 1) rfl
    have c2 := H4.out.own.cell (i := 2) rfl
    have c3 := H4.out.own.cell (i := 3) rfl
    have c4 := H4.out.own.cell (i := 4) rfl
    have c5 := H4.out.own.cell (i := 5) rfl
    have c6 := H4.out.own.cell (i := 6) rfl
    have d0 := H4.out.res.cell (i := 0) rfl
    have e0 := H4.out.res.free 0
    have d1 := H4.out.res.cell (i := 1) rfl
    have e1 := H4.out.res.free 1
    have d2 := H4.out.res.cell (i := 2) rfl
    have e2 := H4.out.res.free 2
    have d3 := H4.out.res.cell (i := 3) rfl
    have e3 := H4.out.res.free 3
    have d4 := H4.out.res.cell (i := 4) rfl
    have e4 := H4.out.res.free 4
    have d5 := H4.out.res.cell (i := 5) rfl
    have e5 := H4.out.res.free 5
    have d6 := H4.out.res.cell (i := 6) rfl
    have e6 := H4.out.res.free 6
    go_wp2
    obtain ⟨hq1, hq2, hq3, hq4⟩ := H4.out.ret rfl
    have q0 := hq1.cell (i := 0) rfl
    have q1 := hq1.cell (i := 1) rfl
    have q2 := hq1.cell (i := 2) rfl
    have q3 := hq1.cell (i := 3) rfl
    have q4 := hq1.cell (i := 4) rfl
    have q5 := hq1.cell (i := 5) rfl
    have q6 := hq1.cell (i := 6) rfl
    refine bodyPost_ret (v := .agg #[.int .i64 7, .int .i64 ta, .string ⟨#[]⟩, .pointer none, .pointer (some ⟨g2, 0, none⟩), .slice none 0 0, .slice none 0 0]) (by simp [results, Tryd.results37, go_sem, q0, q1, q2, q3, q4, q5, q6]) rfl ?_
    refine ⟨_, rfl, ⟨_, rfl, StAt.modsTo hq4 sub_three (.print ta v) _ ?_⟩, hq3, hq2⟩
    simp only [StAt]
    exact ⟨_, rfl, HV4.out⟩
  clear HX
  rintro - HX
  go_wp2_with fail
  go_at_call 49
  rcases bind_cases HX with ⟨n, a, hy, rfl⟩ | ⟨s, r2, hy, HX2⟩
  · have HC := Lib.hid (hN b (W.heap.size + 1) (Three S W.heap.size) ts w0 _ (Or.inr (Or.inr rfl)) (by have := H0.out.lt; omega) H0.out.rd (by rw [HT.out]; exact H0.out.own) hy)
    clear hy HX
    refine HC.out.mono ?_
    rintro e w ⟨g, rfl, hb, hm⟩
    have HB := Lib.hid hb
    have HM := Lib.hid hm
    clear hb hm
    go_wp2
    exact ⟨rfl, g, rfl, HB.out, H0.out.mods.trans' HM.out (by rintro k (rfl | rfl) hk; rfl; omega)⟩
  have HC := Lib.hid (hN b (W.heap.size + 1) (Three S W.heap.size) ts w0 _ (Or.inr (Or.inr rfl)) (by have := H0.out.lt; omega) H0.out.rd (by rw [HT.out]; exact H0.out.own) hy)
  clear hy HX
  refine HC.out.mono ?_
  rintro e w1 ⟨xv, rfl, ⟨rfl, cs, hb, hst⟩, hp, hm⟩
  obtain ⟨z0, z1, z2, z3, z4, oa, on, oc, ob, om, od, rfl⟩ := hst.shape
  have H1 := Lib.hid (H0.out.two hp hb hm)
  have HV1 := Lib.hid hst
  clear H0 hp hb hm hst HC
  go_wp2_with fail
  go_at_call 21
  refine must_of (s := [59]) (Lib.hid (Mods.refl _ _)) (Lib.hid H1.out.rd) HX2 ?_ ?_
  · rintro n a rfl g w HB HM1
    go_wp2
    exact ⟨rfl, g, rfl, HB.out, H1.out.mods.trans HM1.out⟩
  clear HX2
  rintro r3 - HX w2 HR2 hm2 -
  have H2 := Lib.hid (H1.out.next HR2.out hm2.out)
  have HV2 := Lib.hid (StAt.modsTo (hm2.out.mono fun k _ hk => by rw [hk]; exact H1.out.rd.has) (fun _ _ h => h) _ _ HV1.out)
  clear hm2 HR2 H1 HV1
  obtain rfl := (Option.some.inj HX.out).symm
  go_upto_region 20 with fail
  have c0 := H2.out.own.cell (i := 0) rfl
  have c1 := H2.out.own.cell (i := 1) rfl
  have c2 := H2.out.own.cell (i := 2) rfl
  have c3 := H2.out.own.cell (i := 3) rfl
  have c4 := H2.out.own.cell (i := 4) rfl
  have c5 := H2.out.own.cell (i := 5) rfl
  have c6 := H2.out.own.cell (i := 6) rfl
  have d0 := H2.out.res.cell (i := 0) rfl
  have e0 := H2.out.res.free 0
  have d1 := H2.out.res.cell (i := 1) rfl
  have e1 := H2.out.res.free 1
  have d2 := H2.out.res.cell (i := 2) rfl
  have e2 := H2.out.res.free 2
  have d3 := H2.out.res.cell (i := 3) rfl
  have e3 := H2.out.res.free 3
  have d4 := H2.out.res.cell (i := 4) rfl
  have e4 := H2.out.res.free 4
  have d5 := H2.out.res.cell (i := 5) rfl
  have e5 := H2.out.res.free 5
  have d6 := H2.out.res.cell (i := 6) rfl
  have e6 := H2.out.res.free 6
  go_wp2
  obtain ⟨hq1, hq2, hq3, hq4⟩ := H2.out.ret rfl
  have q0 := hq1.cell (i := 0) rfl
  have q1 := hq1.cell (i := 1) rfl
  have q2 := hq1.cell (i := 2) rfl
  have q3 := hq1.cell (i := 3) rfl
  have q4 := hq1.cell (i := 4) rfl
  have q5 := hq1.cell (i := 5) rfl
  have q6 := hq1.cell (i := 6) rfl
  refine bodyPost_ret (v := .agg #[.int .i64 z0, .int .i64 z1, .string z2, .pointer z3, .pointer z4, .slice oa on oc, .slice ob om od]) (by simp [results, Tryd.results37, go_sem, q0, q1, q2, q3, q4, q5, q6]) rfl ?_
  refine ⟨_, rfl, ⟨_, rfl, StAt.modsTo hq4 sub_three s _ ?_⟩, hq3, hq2⟩
  exact HV2.out
end Go.Proofs.YtinbahmpifokaaaDoor.TreeP

/- A function. Printed by mkfn2.py. Conditions: what is read within is read so. -/
import Derived.Test.YtinbahmpifokaaaDoorTreeFn
import Derived.Test.YtinbahmpifokaaaDoorTreeStmts
import Derived.Deep.Cut
namespace Go.Proofs.YtinbahmpifokaaaDoor.TreeP
open Go.RowKit Go.Proofs.YtinbahmpifokaaaDoor.Wo
set_option linter.unusedVariables false
set_option linter.unusedSimpArgs false
/-- What comes behind the parameters. -/
def behind (f : Nat) (n : List UInt8) (ta : Int) (ps : List (List UInt8 × Int)) (r4 : List Tok) : PR Fn := andThen (blockF f 0 r4) fun b r5 => okP ⟨n, ta, ps, b⟩ r5
/-- Where the loop stands. -/
def PsAt (S : Nat → Prop) (b f : Nat) (n : List UInt8) (ta : Int) (W : World) (x : Except (Int × Int) (Fn × List Tok)) (fv : Value) (wr : World) : Prop :=
  ∃ ff first l r oa on oc, ff ≤ f ∧ fv = .bool first ∧ andThen (paramsF ff first l r) (behind f n ta) = some x ∧ Fun W wr b S r [.string ⟨n.toArray⟩, .int .i64 ta, .slice oa on oc, .slice none 0 0] ∧ Grows wr (W.heap.size + 2) (Three S W.heap.size) 60 2 (.slice oa on oc) l.length (pcells l) ∧ l.length + r.length ≤ 10000000
set_option maxRecDepth 100000 in
set_option maxHeartbeats 4000000 in
theorem function_of (f : Nat) : FunctionC (f + 1) := by
  intro b S ts W x h hx
  simp only [functionF] at hx
  have hx : andThen (must kFn ts) (fun _ r => andThen (nameP r) fun n r2 => andThen (must [40] r2) fun _ r3 => andThen (paramsF f true [] r3) (behind f n (headAt ts))) = some x := hx
  have HR := Lib.hid h
  have HB := Lib.hid (sall f).block
  obtain ⟨i0, hi, hz0, hz1, hz2⟩ := info_parts param_info
  have HI := Lib.hid (⟨hi, hz0, hz1, hz2⟩ : _ ∧ _ ∧ _ ∧ _)
  obtain ⟨⟨g, o, c, hp⟩, hL, _, _, _⟩ := h
  obtain ⟨t, rr, rfl⟩ := ends_cons hp.ends
  have hl := hp.cl
  have ha := hp.ca
  have hcap := hp.cap
  have hmax := hp.max
  have hbl : b < W.heap.size := HR.out.old b HR.out.has
  have hgl : g < W.heap.size := Nat.lt_trans hp.lt hbl
  have hta : headAt (t :: rr) = t.at_ := rfl
  obtain ⟨ta, hta2⟩ : ∃ ta, ta = t.at_ := ⟨_, rfl⟩
  rw [← hta2] at ha hta
  simp only [List.length_cons] at hcap
  have hN : (t :: rr).length ≤ 10000000 := HR.out.par.short
  obtain ⟨ts, hts⟩ : ∃ ts, ts = t :: rr := ⟨_, rfl⟩
  rw [← hts] at hx HR hta hN
  rw [hta] at hx
  have HX := Lib.hid hx
  have HNN := Lib.hid hN
  clear hp hL hta hta2 hts hx hN hi hz0 hz1 hz2
  go_enter Tryd.func14, Tryd.ntmps14
  go_wp2_with fail
  go_at_call 21
  have H0 := Lib.hid (Fun.start HR.out ta)
  obtain ⟨w0, hw0⟩ : ∃ q, q = (W.alloc (.cells #[.string ⟨#[]⟩, .int .i64 0, .slice none 0 0, .slice none 0 0] 52)).alloc (.cells #[.string ⟨#[]⟩, .int .i64 ta, .slice none 0 0, .slice none 0 0] 52) := ⟨_, rfl⟩
  rw [← hw0] at H0 ⊢
  have hsz : Hid (w0.heap.size = W.heap.size + 2) := Lib.hid (by rw [hw0]; simp)
  clear hw0 HR hl ha hcap hmax hbl hgl
  have HG0 := Lib.hid (hsz.out ▸ Grows.nil 60 2 H0.out.rd (Mods.refl (· = b) w0) : Grows w0 (W.heap.size + 2) (Three S W.heap.size) 60 2 (.slice none 0 0) 0 [])
  clear hsz
  refine must_of (s := kFn) (Lib.hid (Mods.refl _ _)) (Lib.hid H0.out.rd) HX ?_ ?_
  · rintro n a rfl g w HB HM1
    go_wp2
    exact ⟨rfl, g, rfl, HB.out, H0.out.mods.trans HM1.out⟩
  clear HX
  rintro r1 HT1 HX w1 HR1 hm1 -
  have H1 := Lib.hid (H0.out.next HR1.out hm1.out)
  have HG1 := Lib.hid (HG0.out.next H0.out.rd.has hm1.out)
  clear hm1 HR1 H0 HG0
  go_wp2_with fail
  go_at_call 22
  refine name_of (Lib.hid (Mods.refl _ _)) (Lib.hid H1.out.rd) HX ?_ ?_
  · rintro n a rfl g w HB HM1
    go_wp2
    exact ⟨rfl, g, rfl, HB.out, H1.out.mods.trans HM1.out⟩
  clear HX
  rintro n r2 HT2 HX w2 HR2 hm2 -
  have H2 := Lib.hid (H1.out.next HR2.out hm2.out)
  have HG2 := Lib.hid (HG1.out.next H1.out.rd.has hm2.out)
  clear hm2 HR2 H1 HG1
  have c0 := H2.out.own.cell (i := 0) rfl
  have f0 := H2.out.own.free 0
  go_wp2_with fail
  go_at_call 21
  have H3 := Lib.hid (H2.out.put (ds := [.string ⟨n.toArray⟩, .int .i64 ta, .slice none 0 0, .slice none 0 0]) 0 (.string ⟨n.toArray⟩) rfl)
  have HG3 := Lib.hid (HG2.out.keep (mods_put w2 (W.heap.size + 1) 0 (.string ⟨n.toArray⟩)) (by intro k hk; cases hk))
  obtain ⟨w3, hw3⟩ : ∃ q, q = w2.setCell ⟨W.heap.size + 1, 0, none⟩ (.string ⟨n.toArray⟩) := ⟨_, rfl⟩
  rw [← hw3] at H3 HG3 ⊢
  clear hw3 H2 HG2 c0 f0
  refine must_of (s := [40]) (Lib.hid (Mods.refl _ _)) (Lib.hid H3.out.rd) HX ?_ ?_
  · rintro n a rfl g w HB HM1
    go_wp2
    exact ⟨rfl, g, rfl, HB.out, H3.out.mods.trans HM1.out⟩
  clear HX
  rintro r4 HT4 HX w4 HR4 hm4 -
  have H4 := Lib.hid (H3.out.next HR4.out hm4.out)
  have HG4 := Lib.hid (HG3.out.next H3.out.rd.has hm4.out)
  clear hm4 HR4 H3 HG3
  go_wp2_with fail
  go_loopw [4] (fun fv wr => PsAt S b f n ta W x fv wr) (fun _ wr => lenOf wr b)
  case atStart =>
    refine ⟨f, true, [], r4, _, _, _, Nat.le_refl _, rfl, HX.out, H4.out, HG4.out, ?_⟩
    have a1 := HNN.out
    have a2 := congrArg List.length HT1.out.2
    have a3 := name_less HT2.out
    have a4 := congrArg List.length HT4.out.2
    simp only [List.length_nil, List.length_tail] at *
    omega
  case round =>
    clear HX H4 HG4 HNN HT1 HT2 HT4
    obtain ⟨ff, first, l, r, oa, on, oc, hff, rfl, hb, hfun, hg, hn⟩ := hrel
    have H1 := Lib.hid hfun
    have HG1 := Lib.hid hg
    have HN := Lib.hid hn
    clear hfun hg hn
    cases ff with
    | zero => simp [paramsF, andThen] at hb
    | succ f1 =>
      rw [params_step] at hb
      have HX := Lib.hid hb
      clear hb
      go_wp2_with fail
      go_at_call 23
      refine take_of (s := [41]) (Lib.hid (Mods.refl _ _)) (Lib.hid H1.out.rd) HX ?_ ?_
      · clear HX
        rintro - HX w2 HR2 hm2 -
        have H2 := Lib.hid (H1.out.next HR2.out hm2.out)
        have HG2 := Lib.hid (HG1.out.next H1.out.rd.has hm2.out)
        clear hm2 HR2 H1 HG1
        have HX2 : Hid (andThen (blockF f 0 r.tail) (fun b r5 => okP (⟨n, ta, l, b⟩ : Fn) r5) = some x) := HX
        clear HX
        go_wp2_with fail
        go_at_call 24
        refine bind_of (Lib.hid (Mods.refl _ _)) (Lib.hid H2.out.rd) HX2 (fun y hy => HB.out b (Three S W.heap.size) 0 r.tail w2 y (by omega) H2.out.rd hy) ?_ ?_
        · rintro n a rfl g w HB HM1
          go_wp2
          exact ⟨rfl, g, rfl, HB.out, H2.out.mods.trans HM1.out⟩
        clear HX2
        rintro bl r3 - HX xv w3 hv HR3 hm3 -
        obtain ⟨vs3, hrow, hsts⟩ := hv
        obtain ⟨ba, bn, bc, rfl⟩ := hrow.form
        have HW3 := Lib.hid hrow
        have HS3 := Lib.hid hsts
        have HV3 := Lib.hid (HG2.out.next H2.out.rd.has hm3.out).rowAt
        have H3 := Lib.hid (H2.out.next HR3.out hm3.out)
        clear hm3 HR3 hrow hsts H2 HG2
        obtain rfl := (Option.some.inj HX.out).symm
        have c3 := H3.out.own.cell (i := 3) rfl
        have f3 := H3.out.own.free 3
        have hl3 := H3.out.own.lt
        go_upto_region 17 with fail
        have HQ := H3.out.putMods 3 (.slice ba bn bc)
        have HS4 := Lib.hid (StsAt.modsTo HQ (fun _ _ h => h) _ _ HS3.out)
        have HW4 := Lib.hid (HW3.out.mods HQ (fun _ _ h => h))
        have HV4 := Lib.hid (HV3.out.mods HQ (fun _ _ h => h))
        have H4 := Lib.hid (H3.out.put (ds := [.string ⟨n.toArray⟩, .int .i64 ta, .slice oa on oc, .slice ba bn bc]) 3 (.slice ba bn bc) rfl)
        obtain ⟨w4, hw4⟩ : ∃ q, q = w3.setCell ⟨W.heap.size + 1, 3, none⟩ (.slice ba bn bc) := ⟨_, rfl⟩
        clear HQ
        rw [← hw4] at H4 HS4 HW4 HV4 ⊢
        clear hw4 hl3 H3 HS3 HW3 HV3 c3 f3
        have c0 := H4.out.own.cell (i := 0) rfl
        have c1 := H4.out.own.cell (i := 1) rfl
        have c2 := H4.out.own.cell (i := 2) rfl
        have c3 := H4.out.own.cell (i := 3) rfl
        have d0 := H4.out.res.cell (i := 0) rfl
        have e0 := H4.out.res.free 0
        have d1 := H4.out.res.cell (i := 1) rfl
        have e1 := H4.out.res.free 1
        have d2 := H4.out.res.cell (i := 2) rfl
        have e2 := H4.out.res.free 2
        have d3 := H4.out.res.cell (i := 3) rfl
        have e3 := H4.out.res.free 3
        go_wp2
        obtain ⟨hq1, hq2, hq3, hq4⟩ := H4.out.ret rfl
        have q0 := hq1.cell (i := 0) rfl
        have q1 := hq1.cell (i := 1) rfl
        have q2 := hq1.cell (i := 2) rfl
        have q3 := hq1.cell (i := 3) rfl
        refine bodyPost_ret (v := .agg #[.string ⟨n.toArray⟩, .int .i64 ta, .slice oa on oc, .slice ba bn bc]) (by simp [results, Tryd.results14, go_sem, q0, q1, q2, q3]) rfl ?_
        exact ⟨_, rfl, ⟨_, rfl, FnAt.modsTo (x := ⟨n, ta, l, bl⟩) ⟨_, _, _, rfl, HV4.out, HW4.out, HS4.out⟩ hq4 sub_three⟩, hq3, hq2⟩
      · clear HX
        rintro - HX
        cases first
        · have HX1 : Hid (andThen (must [44] r) (fun _ r => andThen (nameP r) fun n2 r2 => andThen (must [58] r2) fun _ r3 => if seeB kArr r3 then andThen (paramsF f1 false (l ++ [(n2, 2)]) r3.tail) (behind f n ta) else andThen (must kInt r3) fun _ r4 => andThen (paramsF f1 false (l ++ [(n2, 1)]) r4) (behind f n ta)) = some x) := HX
          clear HX
          go_wp2_with fail
          go_at_call 21
          refine must_of (s := [44]) (Lib.hid (Mods.refl _ _)) (Lib.hid H1.out.rd) HX1 ?_ ?_
          · rintro n a rfl g w HB HM1
            go_wp2
            exact ⟨rfl, g, rfl, HB.out, H1.out.mods.trans HM1.out⟩
          clear HX1
          rintro q2 HT2 HX w2 HR2 hm2 -
          have H2 := Lib.hid (H1.out.next HR2.out hm2.out)
          have HG2 := Lib.hid (HG1.out.next H1.out.rd.has hm2.out)
          clear hm2 HR2 HG1
          go_wp2_with fail
          go_at_call 22
          refine name_of (Lib.hid (Mods.refl _ _)) (Lib.hid H2.out.rd) HX ?_ ?_
          · rintro n a rfl g w HB HM1
            go_wp2
            exact ⟨rfl, g, rfl, HB.out, H2.out.mods.trans HM1.out⟩
          clear HX
          rintro pn q3 HT3 HX w3 HR3 hm3 -
          have H3 := Lib.hid (H2.out.next HR3.out hm3.out)
          have HG3 := Lib.hid (HG2.out.next H2.out.rd.has hm3.out)
          clear hm3 HR3 H2 HG2
          go_wp2_with fail
          go_at_call 21
          have HMB := Lib.hid ((Mods.refl None w3).alloc (.cells #[.string ⟨pn.toArray⟩, .int .i64 1] 60))
          have H4 := Lib.hid (H3.out.quiet HMB.out)
          have HG4 := Lib.hid (HG3.out.alloc (.cells #[.string ⟨pn.toArray⟩, .int .i64 1] 60))
          obtain ⟨pb, hpe⟩ : ∃ q, q = w3.heap.size := ⟨_, rfl⟩
          have HP4 := Lib.hid (Blk.new w3 #[.string ⟨pn.toArray⟩, .int .i64 1] 60)
          have hpb : Hid (¬ pb = b) := Lib.hid (by have := H3.out.rd.old b H3.out.rd.has; omega)
          have hpn : Hid (W.heap.size + 1 < pb) := Lib.hid (by have := H3.out.own.lt; omega)
          have hpo : Hid (∀ k, (Value.slice oa on oc).ownBlock = some k → ¬ k = pb) := Lib.hid (by intro k hk he; have := (HG3.out.row.lt k hk).2; omega)
          obtain ⟨w4, hw4⟩ : ∃ q, q = w3.alloc (.cells #[.string ⟨pn.toArray⟩, .int .i64 1] 60) := ⟨_, rfl⟩
          rw [← hw4] at H4 HG4 HP4 HMB ⊢
          rw [← hpe] at HP4 ⊢
          clear hw4 hpe H3 HG3 HMB
          refine must_of (s := [58]) (Lib.hid (Mods.refl _ _)) (Lib.hid H4.out.rd) HX ?_ ?_
          · rintro n a rfl g w HB HM1
            go_wp2
            exact ⟨rfl, g, rfl, HB.out, H4.out.mods.trans HM1.out⟩
          clear HX
          rintro q5 HT5 HX w5 HR5 hm5 -
          have H5 := Lib.hid (H4.out.next HR5.out hm5.out)
          have HG5 := Lib.hid (HG4.out.next H4.out.rd.has hm5.out)
          have HP5 := Lib.hid (HP4.out.mods hm5.out hpb.out)
          clear hm5 HR5 H4 HG4 HP4
          go_wp2_with fail
          go_at_call 23
          refine take_of (s := kArr) (Lib.hid (Mods.refl _ _)) (Lib.hid H5.out.rd) HX ?_ ?_
          · clear HX
            rintro - HX w6 HR6 hm6 -
            have H6 := Lib.hid (H5.out.next HR6.out hm6.out)
            have HG6 := Lib.hid (HG5.out.next H5.out.rd.has hm6.out)
            have HP6 := Lib.hid (HP5.out.mods hm6.out hpb.out)
            clear hm6 HR6 H5 HG5 HP5
            have p1 := HP6.out.cell (i := 1) rfl
            have f1x := HP6.out.free 1
            go_upto_region 15 with fail
            have HMP := mods_put w6 pb 1 (.int .i64 2)
            have H7 := Lib.hid (H6.out.far HMP (by rintro k rfl; exact hpn.out))
            have HP7 := Lib.hid (blk_put (ds := [.string ⟨pn.toArray⟩, .int .i64 2]) HP6.out 1 (.int .i64 2) rfl)
            have HG7 := Lib.hid (HG6.out.keep HMP hpo.out)
            obtain ⟨w7, hw7⟩ : ∃ q, q = w6.setCell ⟨pb, 1, none⟩ (.int .i64 2) := ⟨_, rfl⟩
            rw [← hw7] at H7 HG7 HP7 HMP ⊢
            clear hw7 H6 HG6 HP6 HMP p1 f1x
            have c2 := H7.out.own.cell (i := 2) rfl
            have p0 := HP7.out.cell (i := 0) rfl
            have p1 := HP7.out.cell (i := 1) rfl
            have HGA := Lib.hid (HG7.out.alloc (.cells #[.string ⟨pn.toArray⟩, .int .i64 2] 60))
            have HMA := Lib.hid ((Mods.refl None w7).alloc (.cells #[.string ⟨pn.toArray⟩, .int .i64 2] 60))
            have HFA := Lib.hid (H7.out.quiet HMA.out)
            go_wp2_with (at_builtin; refine wpList_append_own_at _ rfl _ _ 49 rfl (W.heap.size + 2) 60 i0 _ 2 24 Tryd.underlying49 HI.out.1 HI.out.2.1 HI.out.2.2.1 HI.out.2.2.2 rfl (by decide) (.slice oa on oc) l.length (pcells l) rfl HGA.out.row ⟨w7.heap.size, 0, none⟩ 1 1 [.string ⟨pn.toArray⟩, .int .i64 2] rfl rfl (two_new _ _ _ _) (two_one _ _) (by have := HN.out; unfold maxLen; omega) (by have := HN.out; omega) HGA.out.base ?_; intro v' w20 hown hgrow hnil hloc; have HGR : Hid (Grew (w7.alloc (.cells #[.string ⟨pn.toArray⟩, .int .i64 2] 60)) w20 (.slice oa on oc) v') := Lib.hid (grew_of hgrow hloc); have HOW := Lib.hid (HGA.out.grew HGR.out hown); clear hown hgrow hnil hloc; refine Hid.out ?_)
            refine Lib.hid ?_
            have HF20 := Lib.hid (HFA.out.far HGR.out.mods (fun k hk => by have := (HGA.out.row.lt k hk).1; omega))
            obtain ⟨qa, qn, qc, rfl⟩ := HOW.out.form
            have c20 := HF20.out.own.cell (i := 2) rfl
            have f20 := HF20.out.own.free 2
            have hl20 := HF20.out.own.lt
            go_wp2_with fail
            have HF21 := HF20.out.put (ds := [.string ⟨n.toArray⟩, .int .i64 ta, .slice qa qn qc, .slice none 0 0]) 2 (.slice qa qn qc) rfl
            refine ⟨⟨f1, false, l ++ [(pn, 2)], _, qa, qn, qc, by omega, rfl, HX.out, HF21, ?_, ?_⟩, ?_⟩
            · rw [pcells_append]
              have := HOW.out.keep (mods_put w20 (W.heap.size + 1) 2 (.slice qa qn qc)) (by intro k hk he; have := (HOW.out.row.lt k hk).1; omega)
              simpa [str] using this
            · have h2 := HN.out
              have a1 := name_less HT3.out
              have a2 := congrArg List.length HT5.out.2
              have a3 := congrArg List.length HT2.out.2
              simp only [List.length_append, List.length_cons, List.length_nil, List.length_tail] at *
              omega
            · rw [HF21.rd.par.len, H1.out.rd.par.len]
              have a1 := name_less HT3.out
              have a2 := congrArg List.length HT5.out.2
              have a3 := congrArg List.length HT2.out.2
              simp only [List.length_tail] at *
              omega
          clear HX
          rintro - HX
          go_wp2_with fail
          go_at_call 21
          refine must_of (s := kInt) (Lib.hid (Mods.refl _ _)) (Lib.hid H5.out.rd) HX ?_ ?_
          · rintro n a rfl g w HB HM1
            go_wp2
            exact ⟨rfl, g, rfl, HB.out, H5.out.mods.trans HM1.out⟩
          clear HX
          rintro q6 HT6 HX w6 HR6 hm6 -
          have H6 := Lib.hid (H5.out.next HR6.out hm6.out)
          have HG6 := Lib.hid (HG5.out.next H5.out.rd.has hm6.out)
          have HP6 := Lib.hid (HP5.out.mods hm6.out hpb.out)
          clear hm6 HR6 H5 HG5 HP5
          go_upto_region 15 with fail
          have c2 := H6.out.own.cell (i := 2) rfl
          have p0 := HP6.out.cell (i := 0) rfl
          have p1 := HP6.out.cell (i := 1) rfl
          have HGA := Lib.hid (HG6.out.alloc (.cells #[.string ⟨pn.toArray⟩, .int .i64 1] 60))
          have HMA := Lib.hid ((Mods.refl None w6).alloc (.cells #[.string ⟨pn.toArray⟩, .int .i64 1] 60))
          have HFA := Lib.hid (H6.out.quiet HMA.out)
          go_wp2_with (at_builtin; refine wpList_append_own_at _ rfl _ _ 49 rfl (W.heap.size + 2) 60 i0 _ 2 24 Tryd.underlying49 HI.out.1 HI.out.2.1 HI.out.2.2.1 HI.out.2.2.2 rfl (by decide) (.slice oa on oc) l.length (pcells l) rfl HGA.out.row ⟨w6.heap.size, 0, none⟩ 1 1 [.string ⟨pn.toArray⟩, .int .i64 1] rfl rfl (two_new _ _ _ _) (two_one _ _) (by have := HN.out; unfold maxLen; omega) (by have := HN.out; omega) HGA.out.base ?_; intro v' w20 hown hgrow hnil hloc; have HGR : Hid (Grew (w6.alloc (.cells #[.string ⟨pn.toArray⟩, .int .i64 1] 60)) w20 (.slice oa on oc) v') := Lib.hid (grew_of hgrow hloc); have HOW := Lib.hid (HGA.out.grew HGR.out hown); clear hown hgrow hnil hloc; refine Hid.out ?_)
          refine Lib.hid ?_
          have HF20 := Lib.hid (HFA.out.far HGR.out.mods (fun k hk => by have := (HGA.out.row.lt k hk).1; omega))
          obtain ⟨qa, qn, qc, rfl⟩ := HOW.out.form
          have c20 := HF20.out.own.cell (i := 2) rfl
          have f20 := HF20.out.own.free 2
          have hl20 := HF20.out.own.lt
          go_wp2_with fail
          have HF21 := HF20.out.put (ds := [.string ⟨n.toArray⟩, .int .i64 ta, .slice qa qn qc, .slice none 0 0]) 2 (.slice qa qn qc) rfl
          refine ⟨⟨f1, false, l ++ [(pn, 1)], _, qa, qn, qc, by omega, rfl, HX.out, HF21, ?_, ?_⟩, ?_⟩
          · rw [pcells_append]
            have := HOW.out.keep (mods_put w20 (W.heap.size + 1) 2 (.slice qa qn qc)) (by intro k hk he; have := (HOW.out.row.lt k hk).1; omega)
            simpa [str] using this
          · have h2 := HN.out
            have a1 := name_less HT3.out
            have a2 := congrArg List.length HT5.out.2
            have a3 := congrArg List.length HT2.out.2
            have a4 := congrArg List.length HT6.out.2
            simp only [List.length_append, List.length_cons, List.length_nil, List.length_tail] at *
            omega
          · rw [HF21.rd.par.len, H1.out.rd.par.len]
            have a1 := name_less HT3.out
            have a2 := congrArg List.length HT5.out.2
            have a3 := congrArg List.length HT2.out.2
            have a4 := congrArg List.length HT6.out.2
            simp only [List.length_tail] at *
            omega
        · have HX1 : Hid (andThen (nameP r) (fun n2 r2 => andThen (must [58] r2) fun _ r3 => if seeB kArr r3 then andThen (paramsF f1 false (l ++ [(n2, 2)]) r3.tail) (behind f n ta) else andThen (must kInt r3) fun _ r4 => andThen (paramsF f1 false (l ++ [(n2, 1)]) r4) (behind f n ta)) = some x) := HX
          clear HX
          have HX := HX1
          clear HX1
          go_wp2_with fail
          go_at_call 22
          refine name_of (Lib.hid (Mods.refl _ _)) (Lib.hid H1.out.rd) HX ?_ ?_
          · rintro n a rfl g w HB HM1
            go_wp2
            exact ⟨rfl, g, rfl, HB.out, H1.out.mods.trans HM1.out⟩
          clear HX
          rintro pn q2 HT2 HX w2 HR2 hm2 -
          have H2 := Lib.hid (H1.out.next HR2.out hm2.out)
          have HG2 := Lib.hid (HG1.out.next H1.out.rd.has hm2.out)
          clear hm2 HR2 HG1
          go_wp2_with fail
          go_at_call 21
          have HMB := Lib.hid ((Mods.refl None w2).alloc (.cells #[.string ⟨pn.toArray⟩, .int .i64 1] 60))
          have H3 := Lib.hid (H2.out.quiet HMB.out)
          have HG3 := Lib.hid (HG2.out.alloc (.cells #[.string ⟨pn.toArray⟩, .int .i64 1] 60))
          obtain ⟨pb, hpe⟩ : ∃ q, q = w2.heap.size := ⟨_, rfl⟩
          have HP3 := Lib.hid (Blk.new w2 #[.string ⟨pn.toArray⟩, .int .i64 1] 60)
          have hpb : Hid (¬ pb = b) := Lib.hid (by have := H2.out.rd.old b H2.out.rd.has; omega)
          have hpn : Hid (W.heap.size + 1 < pb) := Lib.hid (by have := H2.out.own.lt; omega)
          have hpo : Hid (∀ k, (Value.slice oa on oc).ownBlock = some k → ¬ k = pb) := Lib.hid (by intro k hk he; have := (HG2.out.row.lt k hk).2; omega)
          obtain ⟨w3, hw3⟩ : ∃ q, q = w2.alloc (.cells #[.string ⟨pn.toArray⟩, .int .i64 1] 60) := ⟨_, rfl⟩
          rw [← hw3] at H3 HG3 HP3 HMB ⊢
          rw [← hpe] at HP3 ⊢
          clear hw3 hpe H2 HG2 HMB
          refine must_of (s := [58]) (Lib.hid (Mods.refl _ _)) (Lib.hid H3.out.rd) HX ?_ ?_
          · rintro n a rfl g w HB HM1
            go_wp2
            exact ⟨rfl, g, rfl, HB.out, H3.out.mods.trans HM1.out⟩
          clear HX
          rintro q4 HT4 HX w4 HR4 hm4 -
          have H4 := Lib.hid (H3.out.next HR4.out hm4.out)
          have HG4 := Lib.hid (HG3.out.next H3.out.rd.has hm4.out)
          have HP4 := Lib.hid (HP3.out.mods hm4.out hpb.out)
          clear hm4 HR4 H3 HG3 HP3
          go_wp2_with fail
          go_at_call 23
          refine take_of (s := kArr) (Lib.hid (Mods.refl _ _)) (Lib.hid H4.out.rd) HX ?_ ?_
          · clear HX
            rintro - HX w5 HR5 hm5 -
            have H5 := Lib.hid (H4.out.next HR5.out hm5.out)
            have HG5 := Lib.hid (HG4.out.next H4.out.rd.has hm5.out)
            have HP5 := Lib.hid (HP4.out.mods hm5.out hpb.out)
            clear hm5 HR5 H4 HG4 HP4
            have p1 := HP5.out.cell (i := 1) rfl
            have f1x := HP5.out.free 1
            go_upto_region 15 with fail
            have HMP := mods_put w5 pb 1 (.int .i64 2)
            have H6 := Lib.hid (H5.out.far HMP (by rintro k rfl; exact hpn.out))
            have HP6 := Lib.hid (blk_put (ds := [.string ⟨pn.toArray⟩, .int .i64 2]) HP5.out 1 (.int .i64 2) rfl)
            have HG6 := Lib.hid (HG5.out.keep HMP hpo.out)
            obtain ⟨w6, hw6⟩ : ∃ q, q = w5.setCell ⟨pb, 1, none⟩ (.int .i64 2) := ⟨_, rfl⟩
            rw [← hw6] at H6 HG6 HP6 HMP ⊢
            clear hw6 H5 HG5 HP5 HMP p1 f1x
            have c2 := H6.out.own.cell (i := 2) rfl
            have p0 := HP6.out.cell (i := 0) rfl
            have p1 := HP6.out.cell (i := 1) rfl
            have HGA := Lib.hid (HG6.out.alloc (.cells #[.string ⟨pn.toArray⟩, .int .i64 2] 60))
            have HMA := Lib.hid ((Mods.refl None w6).alloc (.cells #[.string ⟨pn.toArray⟩, .int .i64 2] 60))
            have HFA := Lib.hid (H6.out.quiet HMA.out)
            go_wp2_with (at_builtin; refine wpList_append_own_at _ rfl _ _ 49 rfl (W.heap.size + 2) 60 i0 _ 2 24 Tryd.underlying49 HI.out.1 HI.out.2.1 HI.out.2.2.1 HI.out.2.2.2 rfl (by decide) (.slice oa on oc) l.length (pcells l) rfl HGA.out.row ⟨w6.heap.size, 0, none⟩ 1 1 [.string ⟨pn.toArray⟩, .int .i64 2] rfl rfl (two_new _ _ _ _) (two_one _ _) (by have := HN.out; unfold maxLen; omega) (by have := HN.out; omega) HGA.out.base ?_; intro v' w20 hown hgrow hnil hloc; have HGR : Hid (Grew (w6.alloc (.cells #[.string ⟨pn.toArray⟩, .int .i64 2] 60)) w20 (.slice oa on oc) v') := Lib.hid (grew_of hgrow hloc); have HOW := Lib.hid (HGA.out.grew HGR.out hown); clear hown hgrow hnil hloc; refine Hid.out ?_)
            refine Lib.hid ?_
            have HF20 := Lib.hid (HFA.out.far HGR.out.mods (fun k hk => by have := (HGA.out.row.lt k hk).1; omega))
            obtain ⟨qa, qn, qc, rfl⟩ := HOW.out.form
            have c20 := HF20.out.own.cell (i := 2) rfl
            have f20 := HF20.out.own.free 2
            have hl20 := HF20.out.own.lt
            go_wp2_with fail
            have HF21 := HF20.out.put (ds := [.string ⟨n.toArray⟩, .int .i64 ta, .slice qa qn qc, .slice none 0 0]) 2 (.slice qa qn qc) rfl
            refine ⟨⟨f1, false, l ++ [(pn, 2)], _, qa, qn, qc, by omega, rfl, HX.out, HF21, ?_, ?_⟩, ?_⟩
            · rw [pcells_append]
              have := HOW.out.keep (mods_put w20 (W.heap.size + 1) 2 (.slice qa qn qc)) (by intro k hk he; have := (HOW.out.row.lt k hk).1; omega)
              simpa [str] using this
            · have h2 := HN.out
              have a1 := name_less HT2.out
              have a2 := congrArg List.length HT4.out.2
              simp only [List.length_append, List.length_cons, List.length_nil, List.length_tail] at *
              omega
            · rw [HF21.rd.par.len, H1.out.rd.par.len]
              have a1 := name_less HT2.out
              have a2 := congrArg List.length HT4.out.2
              simp only [List.length_tail] at *
              omega
          clear HX
          rintro - HX
          go_wp2_with fail
          go_at_call 21
          refine must_of (s := kInt) (Lib.hid (Mods.refl _ _)) (Lib.hid H4.out.rd) HX ?_ ?_
          · rintro n a rfl g w HB HM1
            go_wp2
            exact ⟨rfl, g, rfl, HB.out, H4.out.mods.trans HM1.out⟩
          clear HX
          rintro q5 HT5 HX w5 HR5 hm5 -
          have H5 := Lib.hid (H4.out.next HR5.out hm5.out)
          have HG5 := Lib.hid (HG4.out.next H4.out.rd.has hm5.out)
          have HP5 := Lib.hid (HP4.out.mods hm5.out hpb.out)
          clear hm5 HR5 H4 HG4 HP4
          go_upto_region 15 with fail
          have c2 := H5.out.own.cell (i := 2) rfl
          have p0 := HP5.out.cell (i := 0) rfl
          have p1 := HP5.out.cell (i := 1) rfl
          have HGA := Lib.hid (HG5.out.alloc (.cells #[.string ⟨pn.toArray⟩, .int .i64 1] 60))
          have HMA := Lib.hid ((Mods.refl None w5).alloc (.cells #[.string ⟨pn.toArray⟩, .int .i64 1] 60))
          have HFA := Lib.hid (H5.out.quiet HMA.out)
          go_wp2_with (at_builtin; refine wpList_append_own_at _ rfl _ _ 49 rfl (W.heap.size + 2) 60 i0 _ 2 24 Tryd.underlying49 HI.out.1 HI.out.2.1 HI.out.2.2.1 HI.out.2.2.2 rfl (by decide) (.slice oa on oc) l.length (pcells l) rfl HGA.out.row ⟨w5.heap.size, 0, none⟩ 1 1 [.string ⟨pn.toArray⟩, .int .i64 1] rfl rfl (two_new _ _ _ _) (two_one _ _) (by have := HN.out; unfold maxLen; omega) (by have := HN.out; omega) HGA.out.base ?_; intro v' w20 hown hgrow hnil hloc; have HGR : Hid (Grew (w5.alloc (.cells #[.string ⟨pn.toArray⟩, .int .i64 1] 60)) w20 (.slice oa on oc) v') := Lib.hid (grew_of hgrow hloc); have HOW := Lib.hid (HGA.out.grew HGR.out hown); clear hown hgrow hnil hloc; refine Hid.out ?_)
          refine Lib.hid ?_
          have HF20 := Lib.hid (HFA.out.far HGR.out.mods (fun k hk => by have := (HGA.out.row.lt k hk).1; omega))
          obtain ⟨qa, qn, qc, rfl⟩ := HOW.out.form
          have c20 := HF20.out.own.cell (i := 2) rfl
          have f20 := HF20.out.own.free 2
          have hl20 := HF20.out.own.lt
          go_wp2_with fail
          have HF21 := HF20.out.put (ds := [.string ⟨n.toArray⟩, .int .i64 ta, .slice qa qn qc, .slice none 0 0]) 2 (.slice qa qn qc) rfl
          refine ⟨⟨f1, false, l ++ [(pn, 1)], _, qa, qn, qc, by omega, rfl, HX.out, HF21, ?_, ?_⟩, ?_⟩
          · rw [pcells_append]
            have := HOW.out.keep (mods_put w20 (W.heap.size + 1) 2 (.slice qa qn qc)) (by intro k hk he; have := (HOW.out.row.lt k hk).1; omega)
            simpa [str] using this
          · have h2 := HN.out
            have a1 := name_less HT2.out
            have a2 := congrArg List.length HT4.out.2
            have a4 := congrArg List.length HT5.out.2
            simp only [List.length_append, List.length_cons, List.length_nil, List.length_tail] at *
            omega
          · rw [HF21.rd.par.len, H1.out.rd.par.len]
            have a1 := name_less HT2.out
            have a2 := congrArg List.length HT4.out.2
            have a4 := congrArg List.length HT5.out.2
            simp only [List.length_tail] at *
            omega
end Go.Proofs.YtinbahmpifokaaaDoor.TreeP

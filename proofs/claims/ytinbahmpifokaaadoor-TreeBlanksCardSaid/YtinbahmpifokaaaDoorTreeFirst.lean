/- What stands first: ( EXPR ), new, len, input, a call, a name. Conditions: what is read within is read so. -/
import Derived.Test.YtinbahmpifokaaaDoorTreeRow
import Derived.Deep.RegionWith
namespace Go.Proofs.YtinbahmpifokaaaDoor.TreeP
open Go.RowKit Go.Proofs.YtinbahmpifokaaaDoor.Wo
set_option linter.unusedVariables false
set_option linter.unusedSimpArgs false
/-- A way through a region that ends in a panic: what is left is nothing. -/
theorem panic_way {G : Prop} (P : Program) (w : World) (h : G) (_k : wpAny P .any #[] (fun _ _ _ => True) 0 #[] { tmps := #[], defers := [] } w) : G := h
set_option maxRecDepth 100000 in
set_option maxHeartbeats 1600000 in
theorem first_word (f : Nat) (hA : AloneC f) (hG : ArgsC f) {b : Nat} {S : Nat → Prop} {deep : Nat} {ts : List Tok} {W : World} {x : Except (Int × Int) (Ex × List Tok)} (hd : deep ≤ 13) (h : Rd W b S ts) (hx : firstF (f + 1) deep ts = some x) (hn : headKind ts ≠ 2) :
    Calls Tryd.prog 59 #[.pointer (some ⟨b, 0, none⟩), .int .i64 deep] W (Got (· = b) W b (ExIs S) (some x)) := by
  simp only [firstF] at hx
  rw [if_neg hn] at hx
  have hd0 : 0 ≤ (deep : Int) ∧ (deep : Int) ≤ 13 := by omega
  have HD := Lib.hid hd
  have HR := Lib.hid h
  obtain ⟨⟨g, o, c, hp⟩, hL, _, hb, _⟩ := h
  obtain ⟨t, rr, hts⟩ := ends_cons hp.ends
  rw [hts] at hp
  obtain ⟨tk, tt, ta⟩ := t
  have e1 : headKind ts = tk := by rw [hts]; rfl
  have e3 : headAt ts = ta := by rw [hts]; rfl
  rw [e1] at hn
  rw [e3] at hx
  have hl := hp.cl
  have hk := hp.ck
  have ht := hp.ct
  have ha := hp.ca
  simp only at hk ht ha
  have hcap := hp.cap
  have hmax := hp.max
  simp only [List.length_cons] at hcap
  have HX := Lib.hid hx
  have HB0 := Lib.hid (Blk.new W #[.int .i64 tk, .string ⟨tt.toArray⟩, .int .i64 ta] 47)
  have HM := Lib.hid ((Mods.refl (· = b) W).alloc (.cells #[.int .i64 tk, .string ⟨tt.toArray⟩, .int .i64 ta] 47))
  have HR1 := Lib.hid (HR.out.quiet ((Mods.refl None W).alloc (.cells #[.int .i64 tk, .string ⟨tt.toArray⟩, .int .i64 ta] 47)))
  have hne : Hid (¬ W.heap.size = b) := Lib.hid (by have := HR.out.old b hb; omega)
  clear hp hL hb hts e1 e3 hx hd HR
  go_enter Tryd.func59, Tryd.ntmps59
  go_wp2_with fail
  go_at_call 36
  refine see_of (s := [40]) HR1 HX ?_ ?_
  · clear HX
    rintro - HX
    go_wp2_with fail
    go_at_call 47
    refine tail_of HM HR1 HX (fun y hy => hA b S deep ts _ y HD.out HR1.out hy) ?_ ?_
    · rintro n a rfl g w HB HM1
      go_wp2
      exact ⟨rfl, g, rfl, HB.out, HM1.out⟩
    rintro v r rfl xv w hv HR2 - HM2
    have HV := Lib.hid hv
    clear hv HX
    go_wp2
    go_ret
    exact ⟨_, rfl, HV.out, HR2.out.par, HM2.out⟩
  clear HX
  rintro - HX
  go_wp2_with fail
  go_at_call 23
  refine take_of (s := kNew) HM HR1 HX ?_ ?_
  · clear HX
    rintro - HX w2 HR2 hm2 HM2
    have hc2 := (HB0.out.mods hm2.out hne.out).cell (i := 2) rfl
    have HRd := Lib.hid (HR2.out.quiet (Mods.refl None w2).drew)
    have HMd := Lib.hid HM2.out.drew
    go_wp2_with fail
    rcases bind_cases HX with ⟨n, a, hy, rfl⟩ | ⟨v, r, hy, HX2⟩
    · have HC := Lib.hid (hA b S deep ts.tail _ _ HD.out HRd.out hy)
      clear hy HX
      go_region_with (first | (go_at_call 47; refine HC.out.mono ?_; rintro e w3 ⟨g3, rfl, hb3, hm3⟩; refine panic_way Tryd.prog w3 ⟨rfl, g3, rfl, hb3, HMd.out.trans hm3⟩ ?_))
      all_goals trivial
    · have HC := Lib.hid (hA b S deep ts.tail _ _ HD.out HRd.out hy)
      clear hy HX
      obtain rfl := (Option.some.inj HX2.out).symm
      go_region_with (first | (go_at_call 47; refine HC.out.mono ?_; rintro e w3 ⟨y3, rfl, hv3, hp3, hm3⟩; obtain ⟨g4, rfl⟩ := ExAt.ptr hv3; have hc3 := hm3.cellOf hc2 hne.out))
      all_goals
        have HR3 := Lib.hid (HRd.out.next hp3 hm3)
        have HV3 := Lib.hid (show ExAt w3 S v _ from hv3)
        have HM3 := Lib.hid (HMd.out.trans hm3)
        clear hp3 hm3 hv3
        go_wp2
        go_ret
        refine ⟨_, rfl, ?_, HR3.out.par.mods ((Mods.refl _ _).alloc _), HM3.out.alloc _⟩
        simp only [ExIs, ExAt]
        exact ⟨_, Node.new HR3.out.old _, HV3.out.mods ((Mods.refl _ _).alloc _)⟩
  clear HX
  rintro - HX
  go_wp2_with fail
  go_at_call 23
  refine take_of (s := kLen) HM HR1 HX ?_ ?_
  · clear HX
    rintro - HX w2 HR2 hm2 HM2
    have hc2 := (HB0.out.mods hm2.out hne.out).cell (i := 2) rfl
    have HRd := Lib.hid (HR2.out.quiet (Mods.refl None w2).drew)
    have HMd := Lib.hid HM2.out.drew
    go_wp2_with fail
    rcases bind_cases HX with ⟨n, a, hy, rfl⟩ | ⟨v, r, hy, HX2⟩
    · have HC := Lib.hid (hA b S deep ts.tail _ _ HD.out HRd.out hy)
      clear hy HX
      go_region_with (first | (go_at_call 47; refine HC.out.mono ?_; rintro e w3 ⟨g3, rfl, hb3, hm3⟩; refine panic_way Tryd.prog w3 ⟨rfl, g3, rfl, hb3, HMd.out.trans hm3⟩ ?_))
      all_goals trivial
    · have HC := Lib.hid (hA b S deep ts.tail _ _ HD.out HRd.out hy)
      clear hy HX
      obtain rfl := (Option.some.inj HX2.out).symm
      go_region_with (first | (go_at_call 47; refine HC.out.mono ?_; rintro e w3 ⟨y3, rfl, hv3, hp3, hm3⟩; obtain ⟨g4, rfl⟩ := ExAt.ptr hv3; have hc3 := hm3.cellOf hc2 hne.out))
      all_goals
        have HR3 := Lib.hid (HRd.out.next hp3 hm3)
        have HV3 := Lib.hid (show ExAt w3 S v _ from hv3)
        have HM3 := Lib.hid (HMd.out.trans hm3)
        clear hp3 hm3 hv3
        go_wp2
        go_ret
        refine ⟨_, rfl, ?_, HR3.out.par.mods ((Mods.refl _ _).alloc _), HM3.out.alloc _⟩
        simp only [ExIs, ExAt]
        exact ⟨_, Node.new HR3.out.old _, HV3.out.mods ((Mods.refl _ _).alloc _)⟩
  clear HX
  rintro - HX
  go_wp2_with fail
  go_at_call 23
  refine take_of (s := kInput) HM HR1 HX ?_ ?_
  · clear HX
    rintro - HX w2 HR2 hm2 HM2
    have HC2 := Lib.hid (HB0.out.mods hm2.out hne.out)
    clear hm2
    go_wp2_with fail
    go_at_call 21
    refine must_of (s := [40]) HM2 HR2 HX ?_ ?_
    · rintro n a rfl g w HB HM1
      go_wp2
      exact ⟨rfl, g, rfl, HB.out, HM1.out⟩
    clear HX
    rintro r3 - HX w3 HR3 hm3 HM3
    have HC3 := Lib.hid (HC2.out.mods hm3.out hne.out)
    clear hm3
    go_wp2_with fail
    go_at_call 21
    refine must_of (s := [41]) HM3 HR3 HX ?_ ?_
    · rintro n a rfl g w HB HM1
      go_wp2
      exact ⟨rfl, g, rfl, HB.out, HM1.out⟩
    clear HX
    rintro r4 - HX w4 HR4 hm4 HM4
    have hc4 := (HC3.out.mods hm4.out hne.out).cell (i := 2) rfl
    clear hm4
    obtain rfl := (Option.some.inj HX.out).symm
    go_wp2
    go_ret
    refine ⟨_, rfl, ?_, HR4.out.par.mods ((Mods.refl _ _).alloc _), HM4.out.alloc _⟩
    simp only [ExIs, ExAt]
    exact Node.new HR4.out.old _
  clear HX
  rintro - HX
  go_wp2_with fail
  go_at_call 22
  refine name_of HM HR1 HX ?_ ?_
  · rintro n a rfl g w HB HM1
    go_wp2
    exact ⟨rfl, g, rfl, HB.out, HM1.out⟩
  clear HX
  rintro s r2 - HX w2 HR2 hm2 HM2
  have hc2 := (HB0.out.mods hm2.out hne.out).cell (i := 2) rfl
  clear hm2
  go_wp2_with fail
  go_at_call 36
  refine see_of (s := [40]) HR2 HX ?_ ?_
  · clear HX
    rintro - HX
    have HRd := Lib.hid (HR2.out.quiet (Mods.refl None w2).drew)
    have HMd := Lib.hid HM2.out.drew
    go_wp2_with fail
    rcases bind_cases HX with ⟨n, a, hy, rfl⟩ | ⟨v, r, hy, HX2⟩
    · have HC := Lib.hid (hG b S deep r2 _ _ HD.out HRd.out hy)
      clear hy HX
      go_region_with (first | (go_at_call 54; refine HC.out.mono ?_; rintro e w3 ⟨g3, rfl, hb3, hm3⟩; refine panic_way Tryd.prog w3 ⟨rfl, g3, rfl, hb3, HMd.out.trans hm3⟩ ?_))
      all_goals trivial
    · have HC := Lib.hid (hG b S deep r2 _ _ HD.out HRd.out hy)
      clear hy HX
      obtain rfl := (Option.some.inj HX2.out).symm
      go_region_with (first | (go_at_call 54; refine HC.out.mono ?_; rintro e w3 ⟨y3, rfl, ⟨vs, hr3, hv3⟩, hp3, hm3⟩; obtain ⟨oa, on, oc, rfl⟩ := RowAt.form hr3; have hc3 := hm3.cellOf hc2 hne.out))
      all_goals
        have HR3 := Lib.hid (HRd.out.next hp3 hm3)
        have HW3 := Lib.hid hr3
        have HV3 := Lib.hid hv3
        have HM3 := Lib.hid (HMd.out.trans hm3)
        clear hp3 hm3 hv3 hr3
        go_wp2
        go_ret
        refine ⟨_, rfl, ?_, HR3.out.par.mods ((Mods.refl _ _).alloc _), HM3.out.alloc _⟩
        simp only [ExIs, ExAt]
        exact ⟨_, _, Node.new HR3.out.old _, HW3.out.mods ((Mods.refl _ _).alloc _) (fun _ _ h => h), ExsAt.modsTo ((Mods.refl _ _).alloc _) (fun _ _ h => h) _ _ HV3.out⟩
  · clear HX
    rintro - HX
    obtain rfl := (Option.some.inj HX.out).symm
    go_wp2
    go_ret
    refine ⟨_, rfl, ?_, HR2.out.par.mods ((Mods.refl _ _).alloc _), HM2.out.alloc _⟩
    simp only [ExIs, ExAt]
    exact Node.new HR2.out.old _
end Go.Proofs.YtinbahmpifokaaaDoor.TreeP

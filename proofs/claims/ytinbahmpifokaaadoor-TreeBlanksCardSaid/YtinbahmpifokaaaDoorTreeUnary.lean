/- - and !, and what they are of; what is behind [ and ]. Conditions: what is read within is read so. -/
import Derived.Test.YtinbahmpifokaaaDoorTreeBind
import Derived.Laws.PanicsMore
namespace Go.Proofs.YtinbahmpifokaaaDoor.TreeP
open Go.RowKit Go.Proofs.YtinbahmpifokaaaDoor.Wo
set_option linter.unusedVariables false
set_option linter.unusedSimpArgs false
theorem und2 : Tryd.prog.underlying 135 = some (.array 2 9) := by kernel_rfl
theorem two_0 (W : World) : Sem.run Tryd.prog (Instr.index 135 (.agg #[.string ⟨#[45]⟩, .string ⟨#[33]⟩]) (.int .i64 0)) W = .ok (.string ⟨#[45]⟩) W := by
  simp [Instr.index, run_underlying und2, asIntOf, go_sem]
theorem two_1 (W : World) : Sem.run Tryd.prog (Instr.index 135 (.agg #[.string ⟨#[45]⟩, .string ⟨#[33]⟩]) (.int .i64 1)) W = .ok (.string ⟨#[33]⟩) W := by
  simp [Instr.index, run_underlying und2, asIntOf, go_sem]
/-- Where the second loop stands. -/
def Items (S : Nat → Prop) (b f deep : Nat) (a : Int) (W : World) (x : Except (Int × Int) (Ex × List Tok)) (xv : Value) (wr : World) : Prop :=
  ∃ ff y r, ff ≤ f ∧ itemF ff deep a y r = some x ∧ ExAt wr S y xv ∧ Rd wr b S r ∧ Mods (· = b) W wr
set_option maxRecDepth 100000 in
set_option maxHeartbeats 1600000 in
theorem unary_of (f : Nat) (hU : UnaryC f) (hF : FirstC f) (hE : ∀ g, g ≤ f → ExprC g) : UnaryC (f + 1) := by
  intro b S deep ts W x hd h hx
  simp only [unaryF] at hx
  have HR := Lib.hid h
  have HM := Lib.hid (Mods.refl (· = b) W)
  have HD := Lib.hid hd
  have hds : Hid ((deep : Int) + 1 = ((deep + 1 : Nat) : Int)) := Lib.hid (by omega)
  have hd0 : 0 ≤ (deep : Int) ∧ (deep : Int) ≤ 14 := by omega
  obtain ⟨⟨g, o, c, hp⟩, hL, _, _, _⟩ := h
  obtain ⟨t, rr, rfl⟩ := ends_cons hp.ends
  have hl := hp.cl
  have ha := hp.ca
  have hcap := hp.cap
  have hmax := hp.max
  have hta : headAt (t :: rr) = t.at_ := rfl
  rw [hta] at hx
  obtain ⟨ta, hta2⟩ : ∃ ta, ta = t.at_ := ⟨_, rfl⟩
  rw [← hta2] at ha hx
  simp only [List.length_cons] at hcap
  obtain ⟨ts, hts⟩ : ∃ ts, ts = t :: rr := ⟨_, rfl⟩
  rw [← hts] at hx HR
  clear hp hL hta hta2 hts hd
  by_cases hdd : 12 < deep
  · rw [if_pos hdd] at hx
    have HX := Lib.hid hx
    have hg : 12 < (deep : Int) := by omega
    clear hx hdd
    go_enter Tryd.func52, Tryd.ntmps52
    go_wp2_with fail
    go_at_call 13
    refine fail_of HM HR HX ?_
    rintro n a rfl g w HB HM1
    go_wp2
    exact ⟨rfl, g, rfl, HB.out, HM1.out⟩
  rw [if_neg hdd] at hx
  have HD2 := Lib.hid hdd
  have hg : ¬ 12 < (deep : Int) := by omega
  have HX := Lib.hid hx
  clear hx hdd
  go_enter Tryd.func52, Tryd.ntmps52
  go_wp2_with fail
  go_loopw [21] (fun v wr => ∃ i : Nat, i ≤ 2 ∧ v = .int .i64 i ∧ Hid (W = wr) ∧ Hid (1 ≤ i → seeB [45] ts = false) ∧ Hid (2 ≤ i → seeB [33] ts = false)) (fun v _ => (2 - intOf v).toNat)
  case atStart => exact ⟨0, by omega, rfl, Lib.hid rfl, Lib.hid (by omega), Lib.hid (by omega)⟩
  case round =>
    obtain ⟨i, hi, rfl, hw, h45, h33⟩ := hrel
    obtain rfl := hw.out
    obtain rfl | rfl | rfl : i = 0 ∨ i = 1 ∨ i = 2 := by omega
    · have hix := two_0 W
      go_wp2_with fail
      go_at_call 23
      refine take_of (s := [45]) HM HR HX ?_ ?_
      · clear HX
        rintro - HX w1 HR1 - HM1
        go_wp2_with fail
        go_at_call 52
        rw [hds.out]
        refine bind_of HM1 HR1 HX (fun y hy => hU b S (deep + 1) ts.tail w1 y (by have := HD2.out; omega) HR1.out hy) ?_ ?_
        · rintro n a rfl g w HB HM1
          go_wp2
          exact ⟨rfl, g, rfl, HB.out, HM1.out⟩
        clear HX
        rintro v r2 - HX xv w2 hv HR2 - HM2
        obtain ⟨g4, rfl⟩ := ExAt.ptr hv
        have HV := Lib.hid hv
        clear hv
        obtain rfl := (Option.some.inj HX.out).symm
        go_wp2
        go_ret
        refine ⟨_, rfl, ?_, HR2.out.par.mods ((Mods.refl _ _).alloc _), HM2.out.alloc _⟩
        simp only [ExIs, ExAt]
        exact ⟨_, Node.new HR2.out.old _, HV.out.mods ((Mods.refl _ _).alloc _)⟩
      · clear HX
        rintro hs HX
        go_wp2_with fail
        exact ⟨⟨1, by omega, rfl, Lib.hid (by first | trivial | rfl), Lib.hid (fun _ => hs.out), Lib.hid (by omega)⟩, by simp [intOf]⟩
    · have HX2 := HX.out
      rw [h45.out (by omega), if_neg (by simp)] at HX2
      have HX2 := Lib.hid HX2
      clear HX
      have hix := two_1 W
      go_wp2_with fail
      go_at_call 23
      refine take_of (s := [33]) HM HR HX2 ?_ ?_
      · clear HX2
        rintro - HX w1 HR1 - HM1
        go_wp2_with fail
        go_at_call 52
        rw [hds.out]
        refine bind_of HM1 HR1 HX (fun y hy => hU b S (deep + 1) ts.tail w1 y (by have := HD2.out; omega) HR1.out hy) ?_ ?_
        · rintro n a rfl g w HB HM1
          go_wp2
          exact ⟨rfl, g, rfl, HB.out, HM1.out⟩
        clear HX
        rintro v r2 - HX xv w2 hv HR2 - HM2
        obtain ⟨g4, rfl⟩ := ExAt.ptr hv
        have HV := Lib.hid hv
        clear hv
        obtain rfl := (Option.some.inj HX.out).symm
        go_wp2
        go_ret
        refine ⟨_, rfl, ?_, HR2.out.par.mods ((Mods.refl _ _).alloc _), HM2.out.alloc _⟩
        simp only [ExIs, ExAt]
        exact ⟨_, Node.new HR2.out.old _, HV.out.mods ((Mods.refl _ _).alloc _)⟩
      · clear HX2
        rintro hs HX
        go_wp2_with fail
        exact ⟨⟨2, by omega, rfl, Lib.hid (by first | trivial | rfl), Lib.hid (fun _ => h45.out (by omega)), Lib.hid (fun _ => hs.out)⟩, by simp [intOf]⟩
    · have HX2 := HX.out
      rw [h45.out (by omega), if_neg (by simp), h33.out (by omega), if_neg (by simp)] at HX2
      have HX2 := Lib.hid HX2
      clear HX h45 h33 hw
      go_wp2_with fail
      go_at_call 59
      refine bind_of HM HR HX2 (fun y hy => hF b S deep ts W y (by have := HD2.out; omega) HR.out hy) ?_ ?_
      · rintro n a rfl g w HB HM1
        go_wp2
        exact ⟨rfl, g, rfl, HB.out, HM1.out⟩
      clear HX2
      rintro y0 r0 - HX xv w1 hv HR0 - HM0
      have HV := Lib.hid hv
      clear hv
      go_wp2_with fail
      go_loopw [8] (fun xv wr => Items S b f deep ta W x xv wr) (fun _ wr => lenOf wr b)
      case atStart => exact ⟨f, y0, r0, Nat.le_refl _, HX.out, HV.out, HR0.out, HM0.out⟩
      case round =>
        clear HX HV HR0 HM0
        obtain ⟨ff, y, r, hff, hb, hv1, hR1, hmm⟩ := hrel
        obtain ⟨gu, rfl⟩ := hv1.ptr
        have HV1 := Lib.hid hv1
        have HR1 := Lib.hid hR1
        have HM1 := Lib.hid hmm
        clear hv1 hR1 hmm
        cases ff with
        | zero => simp [itemF] at hb
        | succ f1 =>
          simp only [itemF] at hb
          have HB := Lib.hid hb
          clear hb
          go_wp2_with fail
          go_at_call 23
          refine take_of (s := [91]) HM1 HR1 HB ?_ ?_
          · clear HB
            rintro hs HX w3 HR3 hm3 HM3
            go_wp2_with fail
            go_at_call 48
            rw [hds.out]
            refine bind_of HM3 HR3 HX (fun z hz => hE f1 (by omega) b S 0 (deep + 1) r.tail w3 z (by omega) (by have := HD.out; have := HD2.out; omega) HR3.out hz) ?_ ?_
            · rintro n a rfl g w HB HM1
              go_wp2
              exact ⟨rfl, g, rfl, HB.out, HM1.out⟩
            clear HX
            rintro y2 r2 HP HX xv w4 hv4 HR4 hm4 HM4
            obtain ⟨g4, rfl⟩ := ExAt.ptr hv4
            have HV4 := Lib.hid hv4
            clear hv4
            go_wp2_with fail
            go_at_call 21
            refine must_of (s := [93]) (W := w4.alloc _) (Lib.hid (HM4.out.alloc _)) (Lib.hid (HR4.out.quiet ((Mods.refl _ _).alloc _))) HX ?_ ?_
            · rintro n a rfl g w HB HM1
              go_wp2
              exact ⟨rfl, g, rfl, HB.out, HM1.out⟩
            clear HX
            rintro r3 HP3 HX w5 HR5 hm5 HM5
            go_wp2_with fail
            refine ⟨⟨f1, _, r3, by omega, HX.out, ?_, HR5.out, HM5.out⟩, ?_⟩
            · simp only [ExAt]
              refine ExAt.by (ts := r2) (e := .item ta y y2) (W := w4.alloc _) ?_ (HR4.out.quiet ((Mods.refl _ _).alloc _)) hm5.out
              simp only [ExAt]
              exact ⟨_, _, Node.new HR4.out.old _, ((HV1.out.by HR1.out hm3.out).by HR3.out hm4.out).mods ((Mods.refl _ _).alloc _), HV4.out.mods ((Mods.refl _ _).alloc _)⟩
            · rw [HR5.out.par.len, HR1.out.par.len]
              have h1 := (lens f1).expr HP.out
              obtain ⟨t1, r1, rfl, _⟩ := see_cons hs.out HR1.out.par.ends
              obtain ⟨_, rfl⟩ := HP3.out
              simp only [List.tail_cons, List.length_cons, List.length_tail] at h1 ⊢
              omega
          · clear HB
            rintro - HX
            obtain rfl := (Option.some.inj HX.out).symm
            go_wp2
            go_ret
            exact ⟨_, rfl, HV1.out, HR1.out.par, HM1.out⟩
end Go.Proofs.YtinbahmpifokaaaDoor.TreeP

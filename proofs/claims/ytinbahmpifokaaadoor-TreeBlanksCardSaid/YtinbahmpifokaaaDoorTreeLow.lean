/- An expression of a level. Conditions: what is read within is read so. -/
import Derived.Test.YtinbahmpifokaaaDoorTreeBind
namespace Go.Proofs.YtinbahmpifokaaaDoor.TreeP
open Go.RowKit Go.Proofs.YtinbahmpifokaaaDoor.Wo
set_option linter.unusedVariables false
set_option linter.unusedSimpArgs false
theorem six_of {f deep b : Nat} {S : Nat → Prop} {ts : List Tok} {W : World} {x : Except (Int × Int) (Ex × List Tok)} (ih : UnaryC f) (hd : deep ≤ 14) (h : Rd W b S ts) (hx : exprF (f + 1) 6 deep ts = some x) :
    Calls Tryd.prog 48 #[.pointer (some ⟨b, 0, none⟩), .int .i64 6, .int .i64 deep] W (Got (· = b) W b (ExIs S) (some x)) := by
  simp only [exprF, if_true] at hx
  have HX := Lib.hid hx
  have HR := Lib.hid h
  have HM := Lib.hid (Mods.refl (· = b) W)
  clear hx h
  go_enter Tryd.func48, Tryd.ntmps48
  go_wp2_with fail
  go_at_call 52
  refine tail_of HM HR HX (fun y hy => ih b S deep ts W y hd HR.out hy) ?_ ?_
  · rintro n a rfl g w HB HM1
    go_wp2
    exact ⟨rfl, g, rfl, HB.out, HM1.out⟩
  rintro v r rfl xv w hv HR1 - HM1
  have HV := Lib.hid hv
  clear hv HX
  go_wp2
  go_ret
  exact ⟨_, rfl, HV.out, HR1.out.par, HM1.out⟩
theorem opP_see {level : Nat} {r : List Tok} (h : opP level r ≠ []) : seeB (opP level r) r = true := by
  unfold opP at h ⊢
  cases hf : (levelList.getD level []).find? (fun m => seeB m r) with
  | none => rw [hf] at h; exact absurd rfl h
  | some m => exact List.find?_some (p := fun m => seeB m r) hf
/-- Where the loop stands. -/
def Stands (S : Nat → Prop) (b f level deep : Nat) (a : Int) (W : World) (x : Except (Int × Int) (Ex × List Tok)) (xv ov : Value) (wr : World) : Prop :=
  ∃ ff y r, ff ≤ f ∧ binF ff level deep a y r = some x ∧ ExAt wr S y xv ∧ Rd wr b S r ∧ Mods (· = b) W wr ∧ ov = str (opP level r)
set_option maxRecDepth 100000 in
set_option maxHeartbeats 1600000 in
theorem low_of {f level deep b : Nat} {S : Nat → Prop} {ts : List Tok} {W : World} {x : Except (Int × Int) (Ex × List Tok)} (ih : ∀ g, g ≤ f → ExprC g) (hl6 : level < 6) (hd : deep ≤ 14) (h : Rd W b S ts) (hx : exprF (f + 1) level deep ts = some x) :
    Calls Tryd.prog 48 #[.pointer (some ⟨b, 0, none⟩), .int .i64 level, .int .i64 deep] W (Got (· = b) W b (ExIs S) (some x)) := by
  simp only [exprF] at hx
  rw [if_neg (by omega)] at hx
  have hds : Hid ((level : Int) + 1 = ((level + 1 : Nat) : Int)) := Lib.hid (by omega)
  have hd0 : 0 ≤ (level : Int) ∧ (level : Int) ≤ 5 := by omega
  have hq : ((level : Int) == 6) = false := by simp; omega
  have HR := Lib.hid h
  have HM := Lib.hid (Mods.refl (· = b) W)
  have HE := Lib.hid (fun (g : Nat) (hg : g ≤ f) (r : List Tok) (W1 : World) (z : _) (h1 : Rd W1 b S r) (hz : exprF g (level + 1) deep r = some z) => ih g hg b S (level + 1) deep r W1 z (by omega) hd h1 hz)
  have HO := Lib.hid (fun (r : List Tok) (W1 : World) (h1 : Rd W1 b S r) => op_any b level r W1 h1.par h1.lev hl6)
  unfold str at HO
  obtain ⟨⟨g, o, c, hp⟩, hL, _, _, _⟩ := h
  obtain ⟨t, rr, rfl⟩ := ends_cons hp.ends
  have hl := hp.cl
  have ha := hp.ca
  have hcap := hp.cap
  have hmax := hp.max
  have hta : headAt (t :: rr) = t.at_ := rfl
  rw [hta] at hx
  obtain ⟨ta, hta2⟩ : ∃ ta, ta = t.at_ := ⟨_, rfl⟩
  rw [← hta2] at ha hx
  simp only [List.length_cons] at hcap
  have HX := Lib.hid hx
  clear hp hL hta hta2 hx
  go_enter Tryd.func48, Tryd.ntmps48
  go_wp2_with fail
  go_at_call 48
  rw [hds.out]
  refine bind_of HM HR HX (fun y hy => HE.out f (Nat.le_refl _) _ W y HR.out hy) ?_ ?_
  · rintro n a rfl g w HB HM1
    go_wp2
    exact ⟨rfl, g, rfl, HB.out, HM1.out⟩
  clear HX
  rintro y0 r0 - HX xv w1 hv HR0 - HM0
  have HV := Lib.hid hv
  clear hv
  go_wp2_with fail
  go_at_call 53
  refine (HO.out r0 _ HR0.out).mono ?_
  rintro e w2 ⟨rfl, rfl⟩
  go_wp2_with fail
  go_loopw [8, 9] (fun xv ov wr => Stands S b f level deep ta W x xv ov wr) (fun _ _ wr => lenOf wr b)
  case atStart => exact ⟨f, y0, r0, Nat.le_refl _, HX.out, HV.out, HR0.out, HM0.out, rfl⟩
  case round =>
    clear HX HV HR0 HM0
    obtain ⟨ff, y, r, hff, hb, hv1, hR1, hmm, rfl⟩ := hrel
    obtain ⟨gu, rfl⟩ := hv1.ptr
    have HV1 := Lib.hid hv1
    have HR1 := Lib.hid hR1
    have HM1 := Lib.hid hmm
    clear hv1 hR1 hmm
    cases ff with
    | zero => simp [binF] at hb
    | succ f1 =>
      simp only [binF] at hb
      by_cases hop : opP level r = []
      · rw [if_pos hop] at hb
        obtain rfl : x = .ok (y, r) := (Option.some.inj hb).symm
        rw [hop]
        unfold str
        clear hb
        go_wp2
        go_ret
        exact ⟨_, rfl, HV1.out, HR1.out.par, HM1.out⟩
      · rw [if_neg hop] at hb
        have HS := Lib.hid (opP_see hop)
        have hgd : (opP level r).isEmpty = false := by simpa using hop
        have hgd2 : (!(opP level r).isEmpty) = true := by rw [hgd]; rfl
        have HB := Lib.hid hb
        clear hb hop
        unfold str
        go_wp2_with fail
        go_at_call 21
        refine (must_yes b (opP level r) r wr HR1.out.par HS.out).mono ?_
        rintro e w3 ⟨rfl, hp3, hm3⟩
        have HR3 := Lib.hid (HR1.out.next hp3 hm3)
        have HM3 := Lib.hid (HM1.out.trans hm3)
        have HV3 := Lib.hid (HV1.out.by HR1.out hm3)
        clear hp3 hm3
        go_wp2_with fail
        go_at_call 48
        rw [hds.out]
        refine bind_of HM3 HR3 HB (fun z hz => HE.out f1 (by omega) _ w3 z HR3.out hz) ?_ ?_
        · rintro n a rfl g w HB HM1
          go_wp2
          exact ⟨rfl, g, rfl, HB.out, HM1.out⟩
        clear HB
        rintro y2 r2 HP HB xv w4 hv4 HR4 hm4 HM4
        obtain ⟨g4, rfl⟩ := ExAt.ptr hv4
        have HV4 := Lib.hid hv4
        clear hv4
        go_wp2_with fail
        go_at_call 53
        refine (HO.out r2 _ (HR4.out.quiet ((Mods.refl None _).alloc _))).mono ?_
        rintro e w5 ⟨rfl, hw5⟩
        go_wp2_with fail
        subst hw5
        have hmA : ∀ (ob : Obj), Mods None w4 (w4.alloc ob) := fun ob => (Mods.refl _ _).alloc _
        have HR5 := fun (ob : Obj) => HR4.out.quiet (hmA ob)
        refine ⟨⟨f1, _, r2, by omega, HB.out, ?_, HR5 _, HM4.out.alloc _, rfl⟩, ?_⟩
        · simp only [ExAt]
          exact ⟨_, _, Node.new HR4.out.old _, (HV3.out.by HR3.out hm4.out).mods ((Mods.refl _ _).alloc _), HV4.out.mods ((Mods.refl _ _).alloc _)⟩
        · rw [(HR5 _).par.len, HR1.out.par.len]
          have h1 := (lens f1).expr HP.out
          obtain ⟨t1, r1, rfl, _⟩ := see_cons HS.out HR1.out.par.ends
          simp only [List.tail_cons, List.length_cons] at h1 ⊢
          omega
end Go.Proofs.YtinbahmpifokaaaDoor.TreeP

/- ( EXPR , .. ). Conditions: what is read within is read so. -/
import Derived.Test.YtinbahmpifokaaaDoorTreeRow
namespace Go.Proofs.YtinbahmpifokaaaDoor.TreeP
open Go.RowKit Go.Proofs.YtinbahmpifokaaaDoor.Wo
set_option linter.unusedVariables false
set_option linter.unusedSimpArgs false
/-- How long what is left is, at most. -/
theorem Par.short {W : World} {b : Nat} {ts : List Tok} (h : Par W b ts) : ts.length ≤ 10000000 := by
  obtain ⟨g, o, c, h⟩ := h
  exact h.len
/-- Where the loop stands. -/
def RestAt (S : Nat → Prop) (b f deep : Nat) (W : World) (x : Except (Int × Int) (List Ex × List Tok)) (lv fv : Value) (wr : World) : Prop :=
  ∃ ff first l r vs, ff ≤ f ∧ fv = .bool first ∧ restF ff deep first l r = some x ∧ Grows wr W.heap.size S 78 1 lv l.length vs ∧ ExsAt wr (Own S lv) l vs ∧ Rd wr b S r ∧ Mods (· = b) W wr ∧ l.length + r.length + first.toNat ≤ 10000001
set_option maxRecDepth 100000 in
set_option maxHeartbeats 1600000 in
theorem args_of (f : Nat) (hE : ∀ g, g ≤ f → ExprC g) : ArgsC (f + 1) := by
  intro b S deep ts W x hd h hx
  simp only [argsF] at hx
  have HX := Lib.hid hx
  have HR := Lib.hid h
  have HM := Lib.hid (Mods.refl (· = b) W)
  have HD := Lib.hid hd
  have HN := Lib.hid h.par.short
  have HG := Lib.hid (fun (w : World) (hm : Mods (· = b) W w) => Grows.nil 78 1 h hm)
  have hds : Hid ((deep : Int) + 1 = ((deep + 1 : Nat) : Int)) := Lib.hid (by omega)
  have hd0 : 0 ≤ (deep : Int) ∧ (deep : Int) ≤ 13 := by omega
  obtain ⟨i0, hi, hz0, hz1, hz2⟩ := info_parts ptr_info
  have HI := Lib.hid (⟨hi, hz0, hz1, hz2⟩ : _ ∧ _ ∧ _ ∧ _)
  clear hx h hd hi hz0 hz1 hz2
  go_enter Tryd.func54, Tryd.ntmps54
  go_wp2_with fail
  go_at_call 21
  refine must_of (s := [40]) HM HR HX ?_ ?_
  · rintro n a rfl g w HB HM1
    go_wp2
    exact ⟨rfl, g, rfl, HB.out, HM1.out⟩
  clear HX
  rintro r1 HT HX w1 HR1 - HM1
  go_wp2_with fail
  go_loopw [5, 6] (fun lv fv wr => RestAt S b f deep W x lv fv wr) (fun _ _ wr => lenOf wr b)
  case atStart => exact ⟨f, true, [], r1, [], Nat.le_refl _, rfl, HX.out, HG.out _ HM1.out, by simp [ExsAt], HR1.out, HM1.out, by rw [HT.out.2]; have := HN.out; simp; omega⟩
  case round =>
    clear HX HR1 HM1 HR HM HT HN HG
    obtain ⟨ff, first, l, r, vs, hff, rfl, hb, hg, hv, hR1, hmm, hn⟩ := hrel
    have HG1 := Lib.hid hg
    have HV1 := Lib.hid hv
    have HR1 := Lib.hid hR1
    have HM1 := Lib.hid hmm
    have HN1 := Lib.hid hn
    clear hg hv hR1 hmm hn
    cases ff with
    | zero => simp [restF] at hb
    | succ f1 =>
      simp only [restF] at hb
      have HB := Lib.hid hb
      clear hb
      go_wp2_with fail
      go_at_call 23
      refine take_of (s := [41]) HM1 HR1 HB ?_ ?_
      · clear HB
        rintro - HX w3 HR3 hm3 HM3
        obtain rfl := (Option.some.inj HX.out).symm
        obtain ⟨oa, on, oc, rfl⟩ := HG1.out.form
        go_wp2
        go_ret
        exact ⟨_, rfl, ⟨vs, (HG1.out.next HR1.out.has hm3.out).rowAt, ExsAt.modsTo (hm3.out.mono fun k _ hk => Or.inl (hk ▸ HR1.out.has)) own_sub _ _ HV1.out⟩, HR3.out.par, HM3.out⟩
      · clear HB
        rintro - HX
        obtain ⟨oa, on, oc, rfl⟩ := HG1.out.form
        cases first
        · have HX1 : Hid (andThen (must [44] r) (fun _ r => andThen (exprF f1 0 (deep + 1) r) fun x r2 => restF f1 deep false (l ++ [x]) r2) = some x) := HX
          clear HX
          go_wp2_with fail
          go_at_call 21
          refine must_of (s := [44]) HM1 HR1 HX1 ?_ ?_
          · rintro n a rfl g w HB HM1
            go_wp2
            exact ⟨rfl, g, rfl, HB.out, HM1.out⟩
          clear HX1
          rintro r9 HT9 HX2 w9 HR9 hm9 HM9
          have HG9 := Lib.hid (HG1.out.next HR1.out.has hm9.out)
          have HV9 := Lib.hid (ExsAt.modsTo (hm9.out.mono fun k _ hk => Or.inl (hk ▸ HR1.out.has)) (fun _ _ h => h) _ _ HV1.out : ExsAt w9 (Own S (.slice oa on oc)) l vs)
          have HL9 := Lib.hid (show r9.length < r.length by rw [HT9.out.2]; exact see_less HT9.out.1)
          clear HG1 HV1 HM1 hm9 HT9
          go_wp2_with fail
          go_at_call 48
          rw [hds.out]
          refine bind_of HM9 HR9 HX2 (fun z hz => hE f1 (by omega) b (Own S (.slice oa on oc)) 0 (deep + 1) r9 w9 z (by omega) (by have := HD.out; omega) (HG9.out.rd HR9.out) hz) ?_ ?_
          · rintro n a rfl g w HB HM1
            go_wp2
            exact ⟨rfl, g, rfl, HB.out, HM1.out⟩
          clear HX2
          rintro y2 r2 HP HX xv w4 hv4 HR4 hm4 HM4
          obtain ⟨g4, rfl⟩ := ExAt.ptr hv4
          have HV4 := Lib.hid (show ExAt w4 _ y2 _ from hv4)
          have HG4 := Lib.hid ((HG9.out.next HR9.out.has hm4.out).alloc (.cells #[.pointer (some ⟨g4, 0, none⟩)] 78))
          clear hv4
          go_wp2_with (at_builtin; refine wpList_append_own_at _ rfl _ _ 99 rfl W.heap.size 78 i0 (.pointer none) 1 8 Tryd.underlying99 HI.out.1 HI.out.2.1 HI.out.2.2.1 HI.out.2.2.2 rfl (by decide) _ l.length vs rfl HG4.out.row ⟨w4.heap.size, 0, none⟩ 1 1 [.pointer (some ⟨g4, 0, none⟩)] rfl rfl (one_new _ _ _) (ptr_one _) (by have := HN1.out; unfold maxLen; omega) (by have := HN1.out; omega) HG4.out.base ?_; intro v' w5 hown hgrow hnil hloc; have HGR : Hid (Grew (w4.alloc (.cells #[.pointer (some ⟨g4, 0, none⟩)] 78)) w5 (.slice oa on oc) v') := Lib.hid (grew_of hgrow hloc); have HOW := Lib.hid (HG4.out.grew HGR.out hown); clear hown hgrow hnil hloc; refine Hid.out ?_)
          refine Lib.hid ?_
          have hMA : ∀ (S : Nat → Prop) (o : Obj), Mods S w4 (w4.alloc o) := fun S o => (Mods.refl _ _).alloc _
          go_wp2_with fail
          refine ⟨⟨f1, false, l ++ [y2], r2, vs ++ [.pointer (some ⟨g4, 0, none⟩)], by omega, rfl, HX.out, by simpa using HOW.out, ?_, HG4.out.rdGrew HGR.out (HR4.out.quiet (hMA _ _)), HG4.out.modsGrew HGR.out (HM4.out.alloc _), ?_⟩, ?_⟩
          · have hA : Mods (Own S (.slice oa on oc)) w9 (w4.alloc (.cells #[.pointer (some ⟨g4, 0, none⟩)] 78)) := (hm4.out.mono fun k _ hk => Or.inl (hk ▸ HR9.out.has)).trans (hMA _ _)
            exact ExsAt.append (ExsAt.modsTo HGR.out.own HGR.out.to _ _ (ExsAt.modsTo hA (fun _ _ h => h) _ _ HV9.out)) (ExAt.modsTo HGR.out.own HGR.out.to _ _ (HV4.out.mods (hMA _ _)))
          · have h1 := (lens f1).expr HP.out
            have h2 := HN1.out
            simp only [List.length_append, List.length_cons, List.length_nil, Bool.toNat_true, Bool.toNat_false] at h2 ⊢
            have := HL9.out
            omega
          · rw [(HG4.out.rdGrew HGR.out (HR4.out.quiet (hMA _ _))).par.len, HR1.out.par.len]
            have h1 := (lens f1).expr HP.out
            have := HL9.out
            omega
        · have HX2 : Hid (andThen (exprF f1 0 (deep + 1) r) (fun x r2 => restF f1 deep false (l ++ [x]) r2) = some x) := HX
          clear HX
          go_wp2_with fail
          go_at_call 48
          rw [hds.out]
          refine bind_of HM1 HR1 HX2 (fun z hz => hE f1 (by omega) b (Own S (.slice oa on oc)) 0 (deep + 1) r wr z (by omega) (by have := HD.out; omega) (HG1.out.rd HR1.out) hz) ?_ ?_
          · rintro n a rfl g w HB HM1
            go_wp2
            exact ⟨rfl, g, rfl, HB.out, HM1.out⟩
          clear HX2
          rintro y2 r2 HP HX xv w4 hv4 HR4 hm4 HM4
          obtain ⟨g4, rfl⟩ := ExAt.ptr hv4
          have HV4 := Lib.hid (show ExAt w4 _ y2 _ from hv4)
          have HG4 := Lib.hid ((HG1.out.next HR1.out.has hm4.out).alloc (.cells #[.pointer (some ⟨g4, 0, none⟩)] 78))
          clear hv4
          go_wp2_with (at_builtin; refine wpList_append_own_at _ rfl _ _ 99 rfl W.heap.size 78 i0 (.pointer none) 1 8 Tryd.underlying99 HI.out.1 HI.out.2.1 HI.out.2.2.1 HI.out.2.2.2 rfl (by decide) _ l.length vs rfl HG4.out.row ⟨w4.heap.size, 0, none⟩ 1 1 [.pointer (some ⟨g4, 0, none⟩)] rfl rfl (one_new _ _ _) (ptr_one _) (by have := HN1.out; unfold maxLen; omega) (by have := HN1.out; omega) HG4.out.base ?_; intro v' w5 hown hgrow hnil hloc; have HGR : Hid (Grew (w4.alloc (.cells #[.pointer (some ⟨g4, 0, none⟩)] 78)) w5 (.slice oa on oc) v') := Lib.hid (grew_of hgrow hloc); have HOW := Lib.hid (HG4.out.grew HGR.out hown); clear hown hgrow hnil hloc; refine Hid.out ?_)
          refine Lib.hid ?_
          have hMA : ∀ (S : Nat → Prop) (o : Obj), Mods S w4 (w4.alloc o) := fun S o => (Mods.refl _ _).alloc _
          go_wp2_with fail
          refine ⟨⟨f1, false, l ++ [y2], r2, vs ++ [.pointer (some ⟨g4, 0, none⟩)], by omega, rfl, HX.out, by simpa using HOW.out, ?_, HG4.out.rdGrew HGR.out (HR4.out.quiet (hMA _ _)), HG4.out.modsGrew HGR.out (HM4.out.alloc _), ?_⟩, ?_⟩
          · have hA : Mods (Own S (.slice oa on oc)) wr (w4.alloc (.cells #[.pointer (some ⟨g4, 0, none⟩)] 78)) := (hm4.out.mono fun k _ hk => Or.inl (hk ▸ HR1.out.has)).trans (hMA _ _)
            exact ExsAt.append (ExsAt.modsTo HGR.out.own HGR.out.to _ _ (ExsAt.modsTo hA (fun _ _ h => h) _ _ HV1.out)) (ExAt.modsTo HGR.out.own HGR.out.to _ _ (HV4.out.mods (hMA _ _)))
          · have h1 := (lens f1).expr HP.out
            have h2 := HN1.out
            simp only [List.length_append, List.length_cons, List.length_nil, Bool.toNat_true, Bool.toNat_false] at h2 ⊢
            omega
          · rw [(HG4.out.rdGrew HGR.out (HR4.out.quiet (hMA _ _))).par.len, HR1.out.par.len]
            have h1 := (lens f1).expr HP.out
            omega
end Go.Proofs.YtinbahmpifokaaaDoor.TreeP

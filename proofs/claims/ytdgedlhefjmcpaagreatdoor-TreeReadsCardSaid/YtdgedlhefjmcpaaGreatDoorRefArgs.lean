/- The document's reader: ( EXPR , .. ). Conditions: what is read within is read so. -/
import Derived.Test.YtdgedlhefjmcpaaGreatDoorRefOne
namespace Go.Proofs.YtdgedlhefjmcpaaGreatDoor.TreeP.R
open Go.RowKit Go.Proofs.YtdgedlhefjmcpaaGreatDoor.Wo Go.Proofs.YtdgedlhefjmcpaaGreatDoor.TreeP
set_option linter.unusedVariables false
set_option linter.unusedSimpArgs false
theorem grows_nil {W : World} {S : Nat → Prop} (e : TypeId) (size : Nat) {b : Nat} (hR : Base W b S) {W' : World} (hm : Mods (· = b) W W') : Grows W' W.heap.size S e size nilS 0 [] :=
  ⟨World.ownsRow_nil _ _ _ _, hm.size, hR.old⟩
theorem grows_base {W : World} {B : Nat} {S : Nat → Prop} {e : TypeId} {size n : Nat} {v : Value} {vs : List Value} (h : Grows W B S e size v n vs) {b : Nat} (hR : Base W b S) : Base W b (Own S v) :=
  ⟨hR.fine, hR.most, hR.rng, Or.inl hR.has, fun k hk => hk.elim (hR.old k) (fun h2 => (h.apart h2).2)⟩
theorem grows_rd {W : World} {B : Nat} {S : Nat → Prop} {e : TypeId} {size n : Nat} {v : Value} {vs : List Value} (h : Grows W B S e size v n vs) {b : Nat} {ts : List Tok} (hR : Rd W b S ts) : Rd W b (Own S v) ts :=
  ⟨hR.par, grows_base h hR.base⟩
theorem base_back {W : World} {S : Nat → Prop} {v : Value} {b : Nat} (h : Base W b (Own S v)) (hb : S b) : Base W b S :=
  ⟨h.fine, h.most, h.rng, hb, fun k hk => h.old k (Or.inl hk)⟩
theorem grows_baseGrew {W W' : World} {B : Nat} {S : Nat → Prop} {e : TypeId} {size n : Nat} {v v' : Value} {vs : List Value} (h : Grows W B S e size v n vs) (hg : Grew W W' v v') {b : Nat} (hR : Base W b S) : Base W' b S :=
  hR.far hg.mods (fun k hk => Nat.le_of_lt (h.far hR.has k hk))
theorem grows_rdGrew {W W' : World} {B : Nat} {S : Nat → Prop} {e : TypeId} {size n : Nat} {v v' : Value} {vs : List Value} (h : Grows W B S e size v n vs) (hg : Grew W W' v v') {b : Nat} {ts : List Tok} (hR : Rd W b S ts) : Rd W' b S ts :=
  ⟨hR.par.far hg.mods (h.far hR.base.has), grows_baseGrew h hg hR.base⟩
theorem grows_rbGrew {W W' : World} {B : Nat} {S : Nat → Prop} {e : TypeId} {size n : Nat} {v v' : Value} {vs : List Value} (h : Grows W B S e size v n vs) (hg : Grew W W' v v') {b : Nat} {n' a : Int} (hR : Rb W b S n' a) : Rb W' b S n' a :=
  ⟨hR.bad.far hg.mods (h.far hR.base.has), grows_baseGrew h hg hR.base⟩
theorem Par.short {W : World} {b : Nat} {ts : List Tok} (h : Par W b ts) : ts.length ≤ 10000000 := by
  obtain ⟨g, o, c, h⟩ := h
  exact h.len
theorem ptr_one' (p : Option Addr) : ∀ u ∈ [Value.pointer p], u.oneCell' = true := by
  intro u hu
  simp only [List.mem_singleton] at hu
  subst hu
  rfl
/-- Where the loop stands. -/
def RestAt (S : Nat → Prop) (b f deep : Nat) (W : World) (x : Except (Int × Int) (List Ex × List Tok)) (lv fv : Value) (wr : World) : Prop :=
  (∃ ff first l r vs, ff ≤ f ∧ fv = .bool first ∧ restF ff deep first l r = some x ∧ Grows wr W.heap.size S 141 1 lv l.length vs ∧ ExsAt wr (Own S lv) l vs ∧ Rd wr b S r ∧ Mods (· = b) W wr ∧ l.length + r.length + first.toNat ≤ 10000001) ∨
  (∃ n a first, fv = .bool first ∧ x = .error (n, a) ∧ IsSl lv ∧ Rb wr b S n a ∧ Mods (· = b) W wr)
set_option maxRecDepth 100000 in
set_option maxHeartbeats 1600000 in
theorem args_of (f : Nat) (hE : ∀ g, g ≤ f → ExprC g) : ArgsC (f + 1) := by
  intro b S deep ts W x hd h hx
  simp only [argsF] at hx
  have HX := Lib.hid hx
  have HR := Lib.hid h
  have HM := Lib.hid (Mods.refl (· = b) W)
  have HD := Lib.hid hd
  have HN := Lib.hid h.par.short
  have HG := Lib.hid (fun (w : World) (hm : Mods (· = b) W w) => grows_nil 141 1 h.base hm)
  have hds : Hid ((deep : Int) + 1 = ((deep + 1 : Nat) : Int)) := Lib.hid (by omega)
  have hd0 : 0 ≤ (deep : Int) ∧ (deep : Int) ≤ 13 := by omega
  obtain ⟨i0, hi, hz0, hz1, hz2⟩ := info_parts ptr_info
  have HI := Lib.hid (⟨hi, hz0, hz1, hz2⟩ : _ ∧ _ ∧ _ ∧ _)
  clear hx h hd hi hz0 hz1 hz2
  go_enter Tryz.func137, Tryz.ntmps137
  go_wp2_with fail
  go_at_call 44
  refine Calls.mono (R := fun e w => e = .returned (.tuple #[]) ∧ RestAt S b f deep W x nilS (.bool true) w) ?_ ?_
  · refine must_of (s := [40]) HM HR HX ?_ ?_
    · rintro n a rfl w HB - HM1
      exact ⟨rfl, Or.inr ⟨n, a, true, rfl, rfl, ⟨_, _, _, rfl⟩, HB.out, HM1.out⟩⟩
    · rintro r1 HT HX2 w1 HR1 - HM1
      exact ⟨rfl, Or.inl ⟨f, true, [], r1, [], Nat.le_refl _, rfl, HX2.out, HG.out _ HM1.out, by simp [ExsAt], HR1.out, HM1.out, by rw [HT.out.2]; have := HN.out; simp; omega⟩⟩
  rintro e w1 ⟨rfl, hst⟩
  have HST := Lib.hid hst
  clear hst HX HM HR HN HG
  go_wp2_with fail
  go_loopw [5, 6] (fun lv fv wr => IsSl lv ∧ RestAt S b f deep W x lv fv wr) (fun _ _ wr => lenB wr b)
  case atStart => exact ⟨⟨_, _, _, rfl⟩, HST.out⟩
  case round =>
    clear HST
    obtain ⟨⟨oa, on, oc, rfl⟩, hst⟩ := hrel
    obtain ⟨ff, first, l, r, vs, hff, rfl, hb, hg, hv, hR1, hmm, hn⟩ | ⟨n, a, first, rfl, rfl, -, hB, hmm⟩ := hst
    rotate_left
    · have HB := Lib.hid hB
      have HM1 := Lib.hid hmm
      clear hB hmm
      go_wp2_with fail
      go_at_call 42
      refine okb_of HM1 HB ?_
      rintro w7 HB7 - HM7
      go_wp2
      go_ret
      exact ⟨_, rfl, ⟨_, _, _, rfl⟩, HB7.out, HM7.out⟩
    have HG1 := Lib.hid hg
    have HV1 := Lib.hid hv
    have HR1 := Lib.hid hR1
    have HM1 := Lib.hid hmm
    have HN1 := Lib.hid hn
    clear hg hv hR1 hmm hn
    cases ff with
    | zero => simp [restF] at hb
    | succ f1 =>
      simp only [restF] at hb
      have HB := Lib.hid hb
      clear hb
      go_wp2_with fail
      go_at_call 42
      refine ok_of HM1 HR1 ?_
      rintro w2 HR2 hm2 HM2
      have HG2 := Lib.hid (HG1.out.next HR1.out.base.has (mods_b hm2.out))
      have HV2 := Lib.hid (ExsAt.modsTo (hm2.out.mono fun _ _ f => f.elim) (fun _ _ h => h) _ _ HV1.out : ExsAt w2 (Own S (.slice oa on oc)) l vs)
      clear hm2 HV1 HG1 HM1
      go_wp2_with fail
      go_at_call 46
      refine take_of (s := [41]) HM2 HR2 HB ?_ ?_
      · clear HB
        rintro - HX w3 HR3 hm3 HM3
        obtain rfl := (Option.some.inj HX.out).symm
        go_wp2
        go_ret
        exact ⟨_, rfl, ⟨vs, (HG2.out.next HR2.out.base.has hm3.out).rowAt, ExsAt.modsTo (hm3.out.mono fun k _ hk => Or.inl (hk ▸ HR2.out.base.has)) own_sub _ _ HV2.out⟩, HR3.out.par, HM3.out⟩
      · clear HB
        rintro - HX w3 HR3 hm3 HM3
        have HG3 := Lib.hid (HG2.out.next HR2.out.base.has (mods_b hm3.out))
        have HV3 := Lib.hid (ExsAt.modsTo (hm3.out.mono fun _ _ f => f.elim) (fun _ _ h => h) _ _ HV2.out : ExsAt w3 (Own S (.slice oa on oc)) l vs)
        clear hm3 HV2 HG2 HM2
        cases first
        · have HX1 : Hid (andThen (must [44] r) (fun _ r => andThen (exprF f1 0 (deep + 1) r) fun x r2 => restF f1 deep false (l ++ [x]) r2) = some x) := HX
          clear HX
          go_wp2_with fail
          go_at_call 44
          refine must_of (s := [44]) HM3 HR3 HX1 ?_ ?_
          · rintro n a rfl w9 HB9 - HM9
            go_wp2_with fail
            go_at_call 42
            refine okb_of HM9 HB9 ?_
            rintro w10 HB10 - HM10
            go_wp2_with fail
            refine ⟨⟨⟨_, _, _, rfl⟩, Or.inr ⟨n, a, false, rfl, rfl, ⟨_, _, _, rfl⟩, HB10.out, HM10.out⟩⟩, ?_⟩
            rw [Bad.lenB HB10.out.bad, Par.lenB HR1.out.par]
            omega
          clear HX1
          rintro r9 HT9 HX2 w9 HR9 hm9 HM9
          have HG9 := Lib.hid (HG3.out.next HR3.out.base.has hm9.out)
          have HV9 := Lib.hid (ExsAt.modsTo (hm9.out.mono fun k _ hk => Or.inl (hk ▸ HR3.out.base.has)) (fun _ _ h => h) _ _ HV3.out : ExsAt w9 (Own S (.slice oa on oc)) l vs)
          have HL9 := Lib.hid (show r9.length < r.length by rw [HT9.out.2]; exact see_less HT9.out.1)
          clear HG3 HV3 HM3 hm9 HT9
          go_wp2_with fail
          go_at_call 42
          refine ok_of HM9 HR9 ?_
          rintro wa HRa hma HMa
          have HGa := Lib.hid (HG9.out.next HR9.out.base.has (mods_b hma.out))
          have HVa := Lib.hid (ExsAt.modsTo (hma.out.mono fun _ _ f => f.elim) (fun _ _ h => h) _ _ HV9.out : ExsAt wa (Own S (.slice oa on oc)) l vs)
          clear hma HG9 HV9 HM9 HR9
          go_wp2_with fail
          go_at_call 111
          rw [hds.out]
          refine bind_of HMa (Lib.hid (grows_rd HGa.out HRa.out)) HX2 (fun z hz => hE f1 (by omega) b (Own S (.slice oa on oc)) 0 (deep + 1) r9 wa z (by omega) (by have := HD.out; omega) (grows_rd HGa.out HRa.out) hz) ?_ ?_
          · rintro n a rfl xv w4 ⟨p4, rfl⟩ HB4 hm4 HM4
            have HG4 := Lib.hid ((HGa.out.next HRa.out.base.has hm4.out).alloc (.cells #[.pointer p4] 141))
            have HBA := Lib.hid ((⟨HB4.out.bad, base_back HB4.out.base HRa.out.base.has⟩ : Rb w4 b S n a).quiet ((Mods.refl None w4).alloc (.cells #[.pointer p4] 141)))
            have HMA := Lib.hid (HM4.out.alloc (.cells #[.pointer p4] 141))
            clear hm4 HB4 HM4
            go_wp2_with (at_builtin; refine wpList_append_own_at _ rfl _ _ 193 rfl W.heap.size 141 i0 (.pointer none) 1 8 Tryz.underlying193 HI.out.1 HI.out.2.1 HI.out.2.2.1 HI.out.2.2.2 rfl (by decide) _ l.length vs rfl HG4.out.row ⟨w4.heap.size, 0, none⟩ 1 1 [.pointer p4] rfl rfl (one_new _ _ _) (ptr_one' _) (by have := HN1.out; unfold maxLen; omega) (by have := HN1.out; omega) HG4.out.base ?_; intro v' w5 hown hgrow hnil hloc; have HGR : Hid (Grew (w4.alloc (.cells #[.pointer p4] 141)) w5 (.slice oa on oc) v') := Lib.hid (grew_of hgrow hloc); have HOW := Lib.hid (HG4.out.grew HGR.out hown); clear hown hgrow hnil hloc; refine Hid.out ?_)
            refine Lib.hid ?_
            obtain ⟨va, vn, vc, rfl⟩ := HOW.out.form
            go_wp2_with fail
            refine ⟨⟨⟨_, _, _, rfl⟩, Or.inr ⟨n, a, false, rfl, rfl, ⟨_, _, _, rfl⟩, grows_rbGrew HG4.out HGR.out HBA.out, HG4.out.modsGrew HGR.out HMA.out⟩⟩, ?_⟩
            rw [Bad.lenB (grows_rbGrew HG4.out HGR.out HBA.out).bad, Par.lenB HR1.out.par]
            omega
          clear HX2
          rintro y2 r2 HP HX xv w4 hv4 HR4 hm4 HM4
          obtain ⟨g4, rfl⟩ := ExAt.ptr hv4
          have HV4 := Lib.hid (show ExAt w4 (Own S (.slice oa on oc)) y2 _ from hv4)
          have HG4 := Lib.hid ((HGa.out.next HRa.out.base.has hm4.out).alloc (.cells #[.pointer (some ⟨g4, 0, none⟩)] 141))
          clear hv4
          go_wp2_with (at_builtin; refine wpList_append_own_at _ rfl _ _ 193 rfl W.heap.size 141 i0 (.pointer none) 1 8 Tryz.underlying193 HI.out.1 HI.out.2.1 HI.out.2.2.1 HI.out.2.2.2 rfl (by decide) _ l.length vs rfl HG4.out.row ⟨w4.heap.size, 0, none⟩ 1 1 [.pointer (some ⟨g4, 0, none⟩)] rfl rfl (one_new _ _ _) (ptr_one _) (by have := HN1.out; unfold maxLen; omega) (by have := HN1.out; omega) HG4.out.base ?_; intro v' w5 hown hgrow hnil hloc; have HGR : Hid (Grew (w4.alloc (.cells #[.pointer (some ⟨g4, 0, none⟩)] 141)) w5 (.slice oa on oc) v') := Lib.hid (grew_of hgrow hloc); have HOW := Lib.hid (HG4.out.grew HGR.out hown); clear hown hgrow hnil hloc; refine Hid.out ?_)
          refine Lib.hid ?_
          obtain ⟨va, vn, vc, rfl⟩ := HOW.out.form
          have hMA : ∀ (S : Nat → Prop) (o : Obj), Mods S w4 (w4.alloc o) := fun S o => (Mods.refl _ _).alloc _
          have HRS := Lib.hid (⟨HR4.out.par, base_back HR4.out.base HRa.out.base.has⟩ : Rd w4 b S r2)
          go_wp2_with fail
          refine ⟨⟨⟨_, _, _, rfl⟩, Or.inl ⟨f1, false, l ++ [y2], r2, vs ++ [.pointer (some ⟨g4, 0, none⟩)], by omega, rfl, HX.out, by simpa using HOW.out, ?_, grows_rdGrew HG4.out HGR.out (HRS.out.quiet (hMA _ _)), HG4.out.modsGrew HGR.out (HM4.out.alloc _), ?_⟩⟩, ?_⟩
          · have hA : Mods (Own S (.slice oa on oc)) wa (w4.alloc (.cells #[.pointer (some ⟨g4, 0, none⟩)] 141)) := (hm4.out.mono fun k _ hk => Or.inl (hk ▸ HRa.out.base.has)).trans (hMA _ _)
            exact ExsAt.append (ExsAt.modsTo HGR.out.own HGR.out.to _ _ (ExsAt.modsTo hA (fun _ _ h => h) _ _ HVa.out)) (ExAt.modsTo HGR.out.own HGR.out.to _ _ (HV4.out.mods (hMA _ _)))
          · have h1 := (lens f1).expr HP.out
            have h2 := HN1.out
            simp only [List.length_append, List.length_cons, List.length_nil, Bool.toNat_true, Bool.toNat_false] at h2 ⊢
            have := HL9.out
            omega
          · rw [Par.lenB (grows_rdGrew HG4.out HGR.out (HRS.out.quiet (hMA _ _))).par, Par.lenB HR1.out.par]
            have h1 := (lens f1).expr HP.out
            have := HL9.out
            omega
        · have HX2 : Hid (andThen (exprF f1 0 (deep + 1) r) (fun x r2 => restF f1 deep false (l ++ [x]) r2) = some x) := HX
          clear HX
          go_wp2_with fail
          go_at_call 42
          refine ok_of HM3 HR3 ?_
          rintro wa HRa hma HMa
          have HGa := Lib.hid (HG3.out.next HR3.out.base.has (mods_b hma.out))
          have HVa := Lib.hid (ExsAt.modsTo (hma.out.mono fun _ _ f => f.elim) (fun _ _ h => h) _ _ HV3.out : ExsAt wa (Own S (.slice oa on oc)) l vs)
          have HL9 := Lib.hid (Nat.le_refl r.length)
          clear hma HG3 HV3 HM3 HR3
          go_wp2_with fail
          go_at_call 111
          rw [hds.out]
          refine bind_of HMa (Lib.hid (grows_rd HGa.out HRa.out)) HX2 (fun z hz => hE f1 (by omega) b (Own S (.slice oa on oc)) 0 (deep + 1) r wa z (by omega) (by have := HD.out; omega) (grows_rd HGa.out HRa.out) hz) ?_ ?_
          · rintro n a rfl xv w4 ⟨p4, rfl⟩ HB4 hm4 HM4
            have HG4 := Lib.hid ((HGa.out.next HRa.out.base.has hm4.out).alloc (.cells #[.pointer p4] 141))
            have HBA := Lib.hid ((⟨HB4.out.bad, base_back HB4.out.base HRa.out.base.has⟩ : Rb w4 b S n a).quiet ((Mods.refl None w4).alloc (.cells #[.pointer p4] 141)))
            have HMA := Lib.hid (HM4.out.alloc (.cells #[.pointer p4] 141))
            clear hm4 HB4 HM4
            go_wp2_with (at_builtin; refine wpList_append_own_at _ rfl _ _ 193 rfl W.heap.size 141 i0 (.pointer none) 1 8 Tryz.underlying193 HI.out.1 HI.out.2.1 HI.out.2.2.1 HI.out.2.2.2 rfl (by decide) _ l.length vs rfl HG4.out.row ⟨w4.heap.size, 0, none⟩ 1 1 [.pointer p4] rfl rfl (one_new _ _ _) (ptr_one' _) (by have := HN1.out; unfold maxLen; omega) (by have := HN1.out; omega) HG4.out.base ?_; intro v' w5 hown hgrow hnil hloc; have HGR : Hid (Grew (w4.alloc (.cells #[.pointer p4] 141)) w5 (.slice oa on oc) v') := Lib.hid (grew_of hgrow hloc); have HOW := Lib.hid (HG4.out.grew HGR.out hown); clear hown hgrow hnil hloc; refine Hid.out ?_)
            refine Lib.hid ?_
            obtain ⟨va, vn, vc, rfl⟩ := HOW.out.form
            go_wp2_with fail
            refine ⟨⟨⟨_, _, _, rfl⟩, Or.inr ⟨n, a, false, rfl, rfl, ⟨_, _, _, rfl⟩, grows_rbGrew HG4.out HGR.out HBA.out, HG4.out.modsGrew HGR.out HMA.out⟩⟩, ?_⟩
            rw [Bad.lenB (grows_rbGrew HG4.out HGR.out HBA.out).bad, Par.lenB HR1.out.par]
            omega
          clear HX2
          rintro y2 r2 HP HX xv w4 hv4 HR4 hm4 HM4
          obtain ⟨g4, rfl⟩ := ExAt.ptr hv4
          have HV4 := Lib.hid (show ExAt w4 (Own S (.slice oa on oc)) y2 _ from hv4)
          have HG4 := Lib.hid ((HGa.out.next HRa.out.base.has hm4.out).alloc (.cells #[.pointer (some ⟨g4, 0, none⟩)] 141))
          clear hv4
          go_wp2_with (at_builtin; refine wpList_append_own_at _ rfl _ _ 193 rfl W.heap.size 141 i0 (.pointer none) 1 8 Tryz.underlying193 HI.out.1 HI.out.2.1 HI.out.2.2.1 HI.out.2.2.2 rfl (by decide) _ l.length vs rfl HG4.out.row ⟨w4.heap.size, 0, none⟩ 1 1 [.pointer (some ⟨g4, 0, none⟩)] rfl rfl (one_new _ _ _) (ptr_one _) (by have := HN1.out; unfold maxLen; omega) (by have := HN1.out; omega) HG4.out.base ?_; intro v' w5 hown hgrow hnil hloc; have HGR : Hid (Grew (w4.alloc (.cells #[.pointer (some ⟨g4, 0, none⟩)] 141)) w5 (.slice oa on oc) v') := Lib.hid (grew_of hgrow hloc); have HOW := Lib.hid (HG4.out.grew HGR.out hown); clear hown hgrow hnil hloc; refine Hid.out ?_)
          refine Lib.hid ?_
          obtain ⟨va, vn, vc, rfl⟩ := HOW.out.form
          have hMA : ∀ (S : Nat → Prop) (o : Obj), Mods S w4 (w4.alloc o) := fun S o => (Mods.refl _ _).alloc _
          have HRS := Lib.hid (⟨HR4.out.par, base_back HR4.out.base HRa.out.base.has⟩ : Rd w4 b S r2)
          go_wp2_with fail
          refine ⟨⟨⟨_, _, _, rfl⟩, Or.inl ⟨f1, false, l ++ [y2], r2, vs ++ [.pointer (some ⟨g4, 0, none⟩)], by omega, rfl, HX.out, by simpa using HOW.out, ?_, grows_rdGrew HG4.out HGR.out (HRS.out.quiet (hMA _ _)), HG4.out.modsGrew HGR.out (HM4.out.alloc _), ?_⟩⟩, ?_⟩
          · have hA : Mods (Own S (.slice oa on oc)) wa (w4.alloc (.cells #[.pointer (some ⟨g4, 0, none⟩)] 141)) := (hm4.out.mono fun k _ hk => Or.inl (hk ▸ HRa.out.base.has)).trans (hMA _ _)
            exact ExsAt.append (ExsAt.modsTo HGR.out.own HGR.out.to _ _ (ExsAt.modsTo hA (fun _ _ h => h) _ _ HVa.out)) (ExAt.modsTo HGR.out.own HGR.out.to _ _ (HV4.out.mods (hMA _ _)))
          · have h1 := (lens f1).expr HP.out
            have h2 := HN1.out
            simp only [List.length_append, List.length_cons, List.length_nil, Bool.toNat_true, Bool.toNat_false] at h2 ⊢
            have := HL9.out
            omega
          · rw [Par.lenB (grows_rdGrew HG4.out HGR.out (HRS.out.quiet (hMA _ _))).par, Par.lenB HR1.out.par]
            have h1 := (lens f1).expr HP.out
            have := HL9.out
            omega
end Go.Proofs.YtdgedlhefjmcpaaGreatDoor.TreeP.R

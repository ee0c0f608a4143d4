/- The law FoldSame walked. Conditions: the tables, and the type of errors, lie. -/
import Derived.Test.YtoajcbfejplfbaaDoorFolded
import Derived.Test.YtoajcbfejplfbaaDoorSameIdx
import Derived.Test.YtoajcbfejplfbaaDoorErrT
namespace Go.Proofs.YtoajcbfejplfbaaDoor.MidP
open Go.RowKit Go.Proofs.YtoajcbfejplfbaaDoor.Wo Go.Maps Go.Proofs.YtoajcbfejplfbaaDoor.TreeP
set_option linter.unusedVariables false
set_option linter.unusedSimpArgs false
theorem steps_less {T : Fm → Fm} (h : Keeps T) : (L : List Fm) → stepsN (L.map T) ≤ stepsN L
  | [] => Nat.le_refl _
  | F :: r => by
    have h1 := h.len F
    have h2 := steps_less h r
    rw [List.map_cons, stepsN, stepsN]
    omega
theorem stepsN_small : (L : List Fm) → (∀ F ∈ L, F.steps.length ≤ 60) → stepsN L ≤ L.length * 60
  | [], _ => Nat.le_refl _
  | F :: r, h => by
    have h1 := h F List.mem_cons_self
    have h2 := stepsN_small r (fun G hG => h G (List.mem_cons_of_mem _ hG))
    rw [stepsN, List.length_cons]
    omega
/-- The name's place among the new functions: the function of that name is the old one, written anew. -/
theorem same_at {T : Fm → Fm} (hT : Pass T) {L : List Fm} (hg : Good L) {F : Fm} (hF : F ∈ L) : ∃ k, (L.map T).findIdx? (fun g => g.name == F.name) = some k ∧ (L.map T)[k]? = some (T F) := by
  have h1 := heads_find L [] hg.code.2.1 F hF
  have h2 : (L.map T).find? (fun g => g.name == F.name) = some (T F) := by rw [hT.find, h1]; rfl
  rw [find_idx] at h2
  cases hk : (L.map T).findIdx? (fun g => g.name == F.name) with
  | none => rw [hk] at h2; cases h2
  | some k => rw [hk] at h2; exact ⟨k, rfl, h2⟩
theorem fm_fold_ok {L : List Fm} (hg : Good L) (hok : ∀ f ∈ L, FmOk f) (hargs : ∀ f ∈ L, ∀ s ∈ f.steps, s.args.length ≤ 1000000) : ∀ f ∈ L.map foldF, FmOk f := by
  intro f hf
  obtain ⟨F, hF, rfl⟩ := List.mem_map.1 hf
  exact (fit_fold ⟨hok F hF, ⟨L, hg, hF⟩, hargs F hF⟩).ok
/-- What a run comes to. -/
theorem run_some (L : List Fm) (given : List Int) (fuel : Nat) : ∃ f x, ∀ g, f ≤ g → runC L g given fuel = some x := by
  unfold runC
  by_cases h : codeB L = true
  · simp only [if_pos h]; exact runM_soon L given fuel
  · simp only [if_neg h]; exact ⟨0, _, fun _ _ => rfl⟩
/-- The first of a row. -/
theorem ints_head {W : World} {a : Option Addr} {n c : Nat} {l : List Int} (h : IntsAt W None (.slice a n c) l) {p : Nat} (hp : p ≤ l.length) : InAt W None (.slice a p c) (l.take p) := by
  obtain ⟨a', c', e, h1, h2, h3, h4⟩ := h
  obtain ⟨rfl, -, rfl⟩ := Value.slice.inj e
  refine ⟨a, p, c, rfl, by rw [List.length_take]; omega, by omega, h2, fun i x hx => ?_⟩
  rw [List.getElem?_take] at hx
  split at hx
  · exact h4 i x hx
  · cases hx
theorem add_zero_map (a : Option Addr) (c : Nat) (k : Nat) : (if c = 0 then a else a.map (fun x => x.add (0 * k))) = a := by
  split
  · rfl
  · cases a with
    | none => rfl
    | some x => simp [Addr.add]
theorem pick_quiet (y : Int) (n : Nat) (W : World) (h1 : 1 ≤ n) (h2 : n ≤ 1000) : ∃ p : Nat, p < n ∧ Hid (∀ d : Nat, Calls Tryd.prog 17 #[.int .i64 y, .int .i64 (n : Int)] (W.drewN d) fun e w => e = .returned (.int .i64 (p : Int)) ∧ ∃ m, w = W.drewN m) := by
  have hin := pkn_in y n (by omega)
  refine ⟨(pkn y n).toNat, by omega, Lib.hid fun d => (pick_any y n (W.drewN d) (by omega) (by omega)).mono fun e w ⟨k1, k2⟩ => ⟨?_, d, k2.symm⟩⟩
  rw [k1]
  congr 2
  omega
theorem elem_ints : Tryd.prog.underlying 32 = some (.slice (Tryd.prog.elem 32)) := by kernel_rfl
theorem size_ints (w : World) : (sizeOf (Tryd.prog.elem 32)).run Tryd.prog w = .ok 1 w := by kernel_rfl
theorem head_run (a : Option Addr) (n c p : Nat) (hc : (p : Int) ≤ (c : Int)) (w : World) : (Instr.slice 32 (.slice a n c) none (some (.int .i64 (p : Int))) none).run Tryd.prog w = .ok (.slice a p c) w := by
  rw [run_slice_h (P := Tryd.prog) (w := w) (t := 32) (a := a) (len := n) (cap := c) elem_ints .i64 (p : Int) (by omega) hc, size_ints]
  have h := add_zero_map a c 1
  show Result.ok (sliced a 0 p c 1) w = _
  unfold sliced
  congr 2
set_option maxRecDepth 100000 in
set_option maxHeartbeats 8000000 in
theorem same_walk (lv gv : Value) (L : List Fm) (given : List Int) (fuel : Int) (W : World) (hL : FmsAt W None lv L) (hok : ∀ f ∈ L, FmOk f) (hg : InAt W None gv given) (hg0 : ∀ n c, gv = .slice none n c → c = 0) (hg64 : ∀ x ∈ given, N64 x) (hFo : FormsAt W) (hOp : OpsAt W) (hE : ErrP.ErrLaid W) :
    Calls Tryd.prog 5 #[lv, gv, .int .i64 fuel] W fun e w => e = .returned (.bool true) ∧ Mods None W w := by
  have hsm := small_any L lv W hL
  obtain ⟨sb, hsb⟩ : ∃ sb, sb = smallB L := ⟨_, rfl⟩
  rw [← hsb] at hsm
  have HSM := Lib.hid hsm
  have HG0 := Lib.hid hg0
  obtain ⟨la, lc, rfl, hlc1, hlc2, -⟩ := hL.form
  obtain ⟨ga, gn, gc, rfl, hgn, hgc1, hgc2, hgs⟩ := hg
  have HGI : Hid (InAt W None (.slice ga gn gc) given) := Lib.hid ⟨ga, gn, gc, rfl, hgn, hgc1, hgc2, hgs⟩
  have HH := Lib.hid (And.intro hL (And.intro hok hg64))
  have HFO := Lib.hid hFo
  have HOP := Lib.hid hOp
  have HE := Lib.hid hE
  have HSB := Lib.hid hsb
  have HGN := Lib.hid hgn
  obtain ⟨ln, hln⟩ : ∃ ln, ln = L.length := ⟨_, rfl⟩
  have HLN := Lib.hid hln
  rw [← hln] at HSM hlc1 ⊢
  unfold maxLen at hgc2
  clear hL hok hg0 hg64 hFo hOp hE hsm hsb hgs hgn hln
  go_enter Tryd.func5, Tryd.ntmps5
  by_cases h20 : gn ≤ 20
  rotate_left
  · have hg1 : (gn : Int) > 20 := by omega
    clear h20
    go_wp2_with fail
    go_ret
    exact ⟨rfl, by first | exact Mods.refl _ _ | exact (Mods.refl _ _).drew⟩
  · have hg1 : ¬ (gn : Int) > 20 := by omega
    go_wp2_with fail
    go_at_call 20
    refine HSM.out.mono ?_
    rintro e w1 ⟨rfl, hm1⟩
    have HM1 := Lib.hid hm1
    clear hm1 HSM
    cases sb with
    | false =>
      go_wp2_with fail
      go_ret
      exact ⟨rfl, by first | exact HM1.out | exact HM1.out.drew⟩
    | true =>
      have hparts := small_parts HSB.out.symm
      have HFD := Lib.hid (folded_yes w1 (HFO.out.mods HM1.out) (HOP.out.mods HM1.out))
      have HPA := Lib.hid hparts
      have hl15 : ln ≤ 15 := by rw [HLN.out]; exact hparts.1
      clear hparts
      go_wp2_with fail
      go_at_call 15
      refine HFD.out.mono ?_
      rintro e w2 ⟨rfl, hm2⟩
      have HM2 := Lib.hid (HM1.out.trans hm2)
      clear hm2 HFD HM1
      obtain ⟨W3, hW3⟩ : ∃ W3, W3 = w2.alloc (.cells #[.slice la ln lc] 53) := ⟨_, rfl⟩
      have hm3 : Mods None w2 W3 := by rw [hW3]; exact (Mods.refl _ _).alloc _
      have hb3 : Blk W3 w2.heap.size [.slice la ln lc] 53 := by rw [hW3]; exact Blk.new w2 _ _
      obtain ⟨cb, hcb⟩ : ∃ cb, cb = w2.heap.size := ⟨_, rfl⟩
      rw [← hcb] at hb3
      have HM3 := Lib.hid (HM2.out.trans hm3)
      have hLat : FmsAt W3 None (.slice la ln lc) L := by have h := HH.out.1.mods HM3.out (T := None) (fun _ _ f => f); rw [← HLN.out] at h; exact h
      have hargs : ∀ f ∈ L, ∀ s ∈ f.steps, s.args.length ≤ 1000000 := fun f hf s hs => by have := ((HPA.out.2 f hf).2.2 s hs).1; omega
      have hfd := fold_any L cb _ W3 (hb3.cell (i := 0) rfl) hLat HH.out.2.1 hargs (HFO.out.mods HM3.out) (HOP.out.mods HM3.out) (codeB L) rfl
      have hrc := fun (w : World) (hm : Mods None W3 w) => rightc_any L cb _ w ((hb3.mods hm (fun f => f)).cell (i := 0) rfl) (hLat.mods hm (fun _ _ f => f)) ((HFO.out.mods HM3.out).mods hm) ((HOP.out.mods HM3.out).mods hm) (fun f hf s hs => ((HH.out.2.1 f hf).steps s hs).nums.2.2.2.2.2.2)
      obtain ⟨R, hR⟩ : ∃ R, R = codeB L := ⟨_, rfl⟩
      rw [← hR] at hfd hrc
      have HFDD := Lib.hid hfd
      have HRC := Lib.hid hrc
      have HR := Lib.hid hR
      have HB3 := Lib.hid hb3
      have HLA := Lib.hid hLat
      have HARGS := Lib.hid hargs
      clear hm3 hb3 hLat hargs hfd hrc hR
      go_upto_region 6 with (fail)
      rw [← hW3, ← hcb]
      clear hW3 hcb
      go_wp2_with fail
      go_at_call 18
      refine HFDD.out.mono ?_
      rintro e w4 ⟨hno, hyes⟩
      cases R with
      | false =>
        obtain ⟨rfl, hm4⟩ := hno rfl
        have HM4 := Lib.hid hm4
        clear hm4 hno hyes HFDD
        go_wp2_with fail
        go_at_call 9
        refine (HRC.out _ HM4.out).mono ?_
        rintro e w5 ⟨rfl, hm5⟩
        have HM5 := Lib.hid (HM3.out.trans (HM4.out.trans hm5))
        have HTE := Lib.hid (ErrP.tell_errno 1 w5 (HM5.out.cellOf HE.out (fun f => f)))
        clear hm5
        go_wp2_with fail
        go_at_call 21
        refine HTE.out.mono ?_
        rintro e w6 ⟨rfl, hm6⟩
        have HM6 := Lib.hid (HM5.out.trans hm6)
        clear hm6
        go_wp2_with fail
        go_ret
        exact ⟨rfl, by first | exact HM6.out | exact HM6.out.drew⟩
      | true =>
        obtain ⟨db, dv, rfl, hd, hdf, hm4, hdb⟩ := hyes rfl
        have hgood : Good L := ⟨HR.out.symm, fun F hF x hx => ((HH.out.2.1 F hF).steps x hx).nums.2.2.2.2.2.1⟩
        have hDG : Good (L.map foldF) := fold_keeps.good L hgood
        have hoks := fm_fold_ok hgood HH.out.2.1 HARGS.out
        have hform := hdf.form
        obtain ⟨da, dc, rfl, hdc1, hdc2, -⟩ := hform
        have hDlen : (L.map foldF).length = ln := by rw [List.length_map, HLN.out]
        rw [hDlen] at hd hdf hdc1
        have hW4 := HM3.out.trans hm4
        have hrc2 := fun (w : World) (hm : Mods None w4 w) => rightc_any (L.map foldF) db _ w (hm.cellOf hd (fun f => f)) (hdf.mods hm (fun _ _ k => k)) ((HFO.out.mods hW4).mods hm) ((HOP.out.mods hW4).mods hm) (fun f hf s hs => ((hoks f hf).steps s hs).nums.2.2.2.2.2.2)
        rw [hDG.right] at hrc2
        have hle := steps_less fold_keeps L
        have hsm := stepsN_small L (fun F hF => (HPA.out.2 F hF).1)
        have hl15' := HPA.out.1
        have hst1 := fun (w : World) (hm : Mods None w4 w) => steps_any L cb _ w ((HB3.out.mods (hm4.trans hm) (fun f => f)).cell (i := 0) rfl) (HLA.out.mods (hm4.trans hm) (fun _ _ f => f)) (by omega)
        have hst2 := fun (w : World) (hm : Mods None w4 w) => steps_any (L.map foldF) db _ w (hm.cellOf hd (fun f => f)) (hdf.mods hm (fun _ _ k => k)) (by omega)
        obtain ⟨n1, hn1⟩ : ∃ n, n = stepsN L := ⟨_, rfl⟩
        obtain ⟨n2, hn2⟩ : ∃ n, n = stepsN (L.map foldF) := ⟨_, rfl⟩
        rw [← hn1] at hst1 hle
        rw [← hn2] at hst2 hle
        have hp9 : ¬ (n2 : Int) > (n1 : Int) := by omega
        have HRC2 := Lib.hid hrc2
        have HST1 := Lib.hid hst1
        have HST2 := Lib.hid hst2
        have HG := Lib.hid (And.intro hgood (And.intro hDG hoks))
        have HD := Lib.hid (And.intro hd (And.intro hdf hDlen))
        have HM4 := Lib.hid hm4
        have d4 := hd
        have hneq : ((ln : Int) != (ln : Int)) = false := by simp
        clear hno hyes HFDD hgood hDG hoks hd hdf hDlen hm4 hW4 hrc2 hle hsm hl15' hst1 hst2 hn1 hn2 hdb
        go_wp2_with fail
        go_at_call 9
        refine (HRC.out _ HM4.out).mono ?_
        rintro e w5 ⟨rfl, hm5⟩
        have HM5 := Lib.hid hm5
        clear hm5
        go_wp2_with fail
        go_at_call 9
        refine (HRC2.out _ HM5.out).mono ?_
        rintro e w6 ⟨rfl, hm6⟩
        have HM6 := Lib.hid (HM5.out.trans hm6)
        clear hm6
        go_wp2_with fail
        go_at_call 11
        refine (HST2.out _ HM6.out).mono ?_
        rintro e w7 ⟨rfl, hm7⟩
        have HM7 := Lib.hid (HM6.out.trans hm7)
        clear hm7
        go_wp2_with fail
        go_at_call 11
        refine (HST1.out _ HM7.out).mono ?_
        rintro e w8 ⟨rfl, hm8⟩
        have HM8 := Lib.hid (HM7.out.trans hm8)
        have d8 := HM8.out.cellOf HD.out.1 (fun f => f)
        clear hm8 d4
        go_wp2_with fail
        have hp9b : decide (n1 < n2) = false := by rw [decide_eq_false_iff_not]; omega
        clear d8 hneq HRC HRC2 HST1 HST2
        simp only [hp9b]
        clear hp9b hp9
        go_loopw [10] (fun iv wr => ∃ i : Nat, i ≤ ln ∧ iv = .int .i64 (i : Int) ∧ Hid (Mods None w8 wr)) (fun iv _ => (ln - intOf iv).toNat)
        case atStart => exact ⟨0, Nat.zero_le _, rfl, Lib.hid (by first | exact Mods.refl _ _ | exact (Mods.refl _ _).drew)⟩
        case round =>
          obtain ⟨wx, rfl⟩ : ∃ wx : World, wx = wr := ⟨_, rfl⟩
          obtain ⟨i, hi, rfl, HMX⟩ := hrel
          by_cases hlt : i < ln
          · have hil : i < L.length := by rw [← HLN.out]; exact hlt
            obtain ⟨F, hFi⟩ : ∃ F, L[i]? = some F := ⟨_, List.getElem?_eq_getElem hil⟩
            have hFe : L[i] = F := (List.getElem?_eq_some_iff.1 hFi).2
            have hFm : F ∈ L := List.mem_of_getElem? hFi
            have hM4x := HM8.out.trans HMX.out
            have hM3x := HM4.out.trans hM4x
            have hlx := HLA.out.mods hM3x (T := None) (fun _ _ f => f)
            rw [HLN.out] at hlx
            obtain ⟨gs, os, ta, tc, sa, sc, hoe, y0, y1, y2, y3, hty, hst⟩ := hlx.get hil
            subst hoe
            rw [hFe] at y0 y1 y2 y3 hty hst
            have hpi : (i : Int) < (ln : Int) := by omega
            obtain ⟨W9, hW9⟩ : ∃ W9, W9 = wx.alloc (.cells (fmL F (.slice ta F.types.length tc) (.slice sa F.steps.length sc)).toArray 35) := ⟨_, rfl⟩
            have hm9 : Mods None wx W9 := by rw [hW9]; exact (Mods.refl _ _).alloc _
            have hb9 : Blk W9 wx.heap.size (fmL F (.slice ta F.types.length tc) (.slice sa F.steps.length sc)) 35 := by rw [hW9]; exact Blk.new wx _ _
            obtain ⟨fb, hfb⟩ : ∃ fb, fb = wx.heap.size := ⟨_, rfl⟩
            rw [← hfb] at hb9
            have hM49 := hM4x.trans hm9
            have hd9 := hM49.cellOf HD.out.1 (fun f => f)
            have hdf9 := HD.out.2.1.mods hM49 (T := None) (fun _ _ f => f)
            obtain ⟨k, hk1, hk2⟩ := same_at fold_keeps.pass HG.out.1 hFm
            have hkl : k < (L.map foldF).length := (List.getElem?_eq_some_iff.1 hk2).1
            have hix := index_same (L.map foldF) _ fb (fun g => g.name == F.name) W9 hdf9 (fun j hj w fv hm hv => eq_same _ _ fb w fv (hm.cellOf (hb9.cell (i := 0) rfl) (fun f => f)) hv)
            rw [hk1] at hix
            have hix : Calls Tryd.prog 22 #[.slice da ln dc, .func (.func 23) #[] #[.pointer (some ⟨fb, 0, none⟩)]] W9 fun e w => e = .returned (.int .i64 (k : Int)) ∧ Mods None W9 w := hix
            have HIX := Lib.hid hix
            have hkln : k < ln := by have := HD.out.2.2; omega
            have HF := Lib.hid (And.intro hFm (And.intro hk2 hM49))
            have HB9 := Lib.hid (And.intro hb9 hm9)
            have HTY := Lib.hid hty
            obtain ⟨tn, htn⟩ : ∃ tn, tn = F.types.length := ⟨_, rfl⟩
            obtain ⟨sn, hsn⟩ : ∃ sn, sn = F.steps.length := ⟨_, rfl⟩
            have HTN := Lib.hid (And.intro htn hsn)
            rw [← htn] at y2 hW9
            rw [← hsn] at y3 hW9
            clear hil hFi hFe hFm hM4x hM3x hlx hty hst hm9 hb9 hM49 hdf9 hk1 hk2 hkl hix htn hsn
            unfold fmL str at *
            go_upto_region 15 with (fail)
            rw [← hW9, ← hfb]
            clear hW9 hfb y0 y1 y2 y3
            go_wp2_with fail
            go_at_call 22
            refine HIX.out.mono ?_
            rintro e w10 ⟨rfl, hm10⟩
            have HM10 := Lib.hid (HB9.out.2.trans hm10)
            have HB10 := Lib.hid (HB9.out.1.mods hm10 (fun f => f))
            have hM410 := HF.out.2.2.trans hm10
            have hd10 := hM410.cellOf HD.out.1 (fun f => f)
            have hdf10 := HD.out.2.1.mods hM410 (T := None) (fun _ _ f => f)
            rw [← HD.out.2.2] at hdf10
            obtain ⟨hkl, hke⟩ := List.getElem?_eq_some_iff.1 HF.out.2.1
            obtain ⟨gd, od, tb, tbc, sb, sbc, hoe, x0, x1, x2, x3, htyb, -⟩ := hdf10.get hkl
            subst hoe
            rw [hke] at x1 x2 htyb
            clear x0 x3 hke hkl
            have hpass := fold_keeps.pass
            rw [hpass.params] at x1
            rw [hpass.types] at x2 htyb
            rw [← HTN.out.1] at x2
            have c1 := HB10.out.cell (i := 1) rfl
            have c2 := HB10.out.cell (i := 2) rfl
            rw [← HTN.out.1] at c2
            have hkln' : (k : Int) < (ln : Int) := by omega
            have hk0 : ¬ ((k : Int) < 0) := by omega
            clear hm10 hM410 hdf10 HIX
            obtain ⟨pn, hpn⟩ := Int.eq_ofNat_of_zero_le (HG.out.1.rightF F HF.out.1).pars.1
            have hpt : pn ≤ tn := by have := (HG.out.1.rightF F HF.out.1).pars.2; have := HTN.out.1; omega
            rw [hpn] at c1 x1
            have hpt' : (pn : Int) ≤ (tn : Int) := by omega
            have HPN := Lib.hid hpn
            have hpc : (pn : Int) ≤ (tc : Int) := by
              obtain ⟨a', c', e, h1, -⟩ := HTY.out.form
              obtain ⟨-, -, rfl⟩ := Value.slice.inj e
              have := HTN.out.1; omega
            have hpb : (pn : Int) ≤ (tbc : Int) := by
              obtain ⟨a', c', e, h1, -⟩ := htyb.form
              obtain ⟨-, -, rfl⟩ := Value.slice.inj e
              have := HTN.out.1; omega
            have hs1 := head_run ta tn tc pn hpc
            have hs2 := head_run tb tn tbc pn hpb
            have HQ : Hid (∀ d : Nat, Calls Tryd.prog 24 #[.slice ta pn tc, .slice tb pn tbc] (w10.drewN d) fun e w => e = .returned (.bool true) ∧ ∃ m, w = w10.drewN m) := Lib.hid (fun d => by
              have h := iequal_quiet (.slice ta pn tc) (.slice tb pn tbc) (F.types.take pn) (F.types.take pn) (w10.drewN d) (ints_head (HTY.out.mods (HM10.out.drewN d) (fun _ _ f => f)) (by have := HTN.out.1; omega)) (ints_head (htyb.mods ((Mods.refl None w10).drewN d) (fun _ _ f => f)) (by have := HTN.out.1; omega))
              rw [beq_self_eq_true] at h
              exact h.mono fun e w ⟨h1, m, h2⟩ => ⟨h1, d + m, by rw [h2]; exact World.drewN_drewN _ _ _⟩)
            have hbeq : ((pn : Int) != (pn : Int)) = false := by simp
            clear htyb hpb hpc
            go_upto_region 16 with (fail)
            go_cut [120] (fun cv w => cv = .bool false ∧ Hid (Mods None w10 w))
            case first =>
              go_quiet ((go_at_call 24; exact HQ.out _))
              go_wp2_with fail
              go_meet
              case rel => exact ⟨rfl, Lib.hid ((Mods.refl _ _).drewN _)⟩
            case rest =>
            obtain ⟨w11, rfl⟩ : ∃ w11 : World, w11 = wc := ⟨_, rfl⟩
            obtain ⟨rfl, HM11⟩ := hcut
            clear hs1 hs2 hbeq c1 c2 x1 x2 hd10
            go_wp2_with fail
            exact ⟨⟨i + 1, by omega, by go_num, Lib.hid (HMX.out.trans (HM10.out.trans HM11.out))⟩, by simp [intOf]; omega⟩
          · obtain rfl : i = ln := by omega
            have hpi : ¬ (i : Int) < (i : Int) := by omega
            obtain ⟨fu, hfu, HPK⟩ := pick_quiet fuel 600 wx (by omega) (by omega)
            have HFU := Lib.hid hfu
            clear hfu hlt hi
            go_wp2_with fail
            go_at_call 17
            refine (HPK.out 0).mono ?_
            rintro e w9 ⟨rfl, m9, rfl⟩
            obtain ⟨f1, x, hx⟩ := run_some L given fu
            have hM := HMX.out.drewN m9
            have hM4 := HM8.out.trans hM
            have hM3 := HM4.out.trans hM4
            have hrun1 := mrun_any HH.out.2.1 f1 given (fu : Int) x (hx f1 (Nat.le_refl _)) cb (.slice la i lc) (.slice ga gn gc) (wx.drewN m9) ((HB3.out.mods hM3 (fun f => f)).cell (i := 0) rfl) (HLA.out.mods hM3 (fun _ _ f => f)) (HFO.out.mods (HM3.out.trans hM3)) (HOP.out.mods (HM3.out.trans hM3)) (HGI.out.mods (HM3.out.trans hM3) (fun _ _ f => f)) HG0.out (by have := HGN.out; omega) (by have := HFU.out; omega) (by omega)
            have HR1 := Lib.hid hrun1
            have HX := Lib.hid (And.intro hx (And.intro hM4 (HM3.out.trans hM3)))
            clear hrun1 hM hM4 hM3 hx HPK
            obtain ⟨w9, hw9⟩ : ∃ w9, w9 = wx.drewN m9 := ⟨_, rfl⟩
            rw [← hw9] at HR1 HX ⊢
            clear hw9
            go_wp2_with fail
            go_at_call 13
            refine HR1.out.mono ?_
            rintro e w10 ⟨u, rfl, hu, hm10⟩
            have HU := Lib.hid hu
            obtain ⟨xa, xn, xc, rfl, hxn, hxc1, hxc2, hxi, hx0⟩ := hu.form
            obtain ⟨x1, x2, o⟩ := x
            simp only at hxn hxi ⊢
            have HXN := Lib.hid hxn
            clear hxn
            obtain ⟨W11, hW11⟩ : ∃ W11, W11 = w10.alloc (.cells #[.int .i64 x1, .int .i64 x2, .slice xa xn xc] 39) := ⟨_, rfl⟩
            have hm11 : Mods None w10 W11 := by rw [hW11]; exact (Mods.refl _ _).alloc _
            have hb11 : Blk W11 w10.heap.size [.int .i64 x1, .int .i64 x2, .slice xa xn xc] 39 := by rw [hW11]; exact Blk.new w10 _ _
            obtain ⟨q, hq⟩ : ∃ q, q = w10.heap.size := ⟨_, rfl⟩
            rw [← hq] at hb11
            have c0 := hb11.cell (i := 0) rfl
            have c1 := hb11.cell (i := 1) rfl
            have c2 := hb11.cell (i := 2) rfl
            have HM11 := Lib.hid (hm10.trans hm11)
            have HU11 := Lib.hid (HU.out.mods hm11)
            clear hu hxi hm10 hm11 hb11 HR1 hx0 hxc1 hxc2
            by_cases h6 : x1 = 6
            · have g6 : (x1 == 6) = true := by rw [h6]; rfl
              clear h6
              go_upto_region 20 with (fail)
              rw [← hW11, ← hq]
              clear hW11 hq
              go_quiet (fail)
              go_wp2_with fail
              go_ret
              exact ⟨rfl, (HX.out.2.2.trans HM11.out).drewN _⟩
            · have g6 : (x1 == 6) = false := by rw [beq_eq_false_iff_ne]; exact h6
              have hcode := HR.out.symm
              have hM11 := HX.out.2.1.trans HM11.out
              have hx1 : runM L f1 given fu = some (x1, x2, o) := by
                have := HX.out.1 f1 (Nat.le_refl _)
                unfold runC at this
                rwa [if_pos hcode] at this
              obtain ⟨f2, hx2⟩ := fold_keeps.run L HG.out.1 given HH.out.2.2 f1 fu (x1, x2, o) hx1 h6
              have hx3 : runC (L.map foldF) f2 given (fu : Int).toNat = some (x1, x2, o) := by
                unfold runC
                rw [if_pos HG.out.2.1.right]
                exact hx2
              have hrun2 := fun (w : World) (hm : Mods None W11 w) => mrun_any HG.out.2.2 f2 given (fu : Int) (x1, x2, o) hx3 db _ (.slice ga gn gc) w ((hM11.trans hm).cellOf HD.out.1 (fun f => f)) (HD.out.2.1.mods (hM11.trans hm) (fun _ _ f => f)) (HFO.out.mods (HX.out.2.2.trans (HM11.out.trans hm))) (HOP.out.mods (HX.out.2.2.trans (HM11.out.trans hm))) (HGI.out.mods (HX.out.2.2.trans (HM11.out.trans hm)) (fun _ _ f => f)) HG0.out (by have := HGN.out; omega) (by have := HFU.out; omega) (by omega)
              have HR2 := Lib.hid hrun2
              have HW11 := Lib.hid (HX.out.2.2.trans HM11.out)
              clear hcode hM11 hx1 hx2 hx3 hrun2 h6
              go_upto_region 20 with (fail)
              rw [← hW11, ← hq]
              clear hW11 hq
              go_region_held3 (fun w' => Hid (Mods None W11 w') ∧ w'.cell? ⟨q, 0, none⟩ = some (.int .i64 x1) ∧ w'.cell? ⟨q, 1, none⟩ = some (.int .i64 x2) ∧ w'.cell? ⟨q, 2, none⟩ = some (.slice xa xn xc))
                (first
                  | exact ⟨Lib.hid (Mods.refl _ _).drew, c0, c1, c2⟩
                  | assumption
                  | (go_split_ands; exact ⟨Lib.hid (Mods.trans (Hid.out ‹_›) hm), hm.cellOf ‹_› (fun f => f), hm.cellOf ‹_› (fun f => f), hm.cellOf ‹_› (fun f => f)⟩))
                ((first
                  | (go_at_call 13; go_split_ands; refine (HR2.out _ (Hid.out ‹Hid (Mods None W11 _)›)).mono ?_; rintro e w' ⟨v, rfl, hv, hm⟩)
                  | (go_at_call 19; go_split_ands; refine (same_end (x1, x2, o) _ _ _ hv (HU11.out.mods (Hid.out ‹Hid (Mods None W11 _)›))).mono ?_; rintro e w' ⟨rfl, hm⟩)))
              all_goals
                go_split_ands
                have HM12 := Lib.hid (HW11.out.trans (Hid.out (‹Hid (Mods None W11 w')› : Hid (Mods None W11 w'))))
                go_wp2_with fail
                go_ret
                exact ⟨rfl, by first | exact HM12.out | exact HM12.out.drew⟩
end Go.Proofs.YtoajcbfejplfbaaDoor.MidP

/- Dead: what is only reckoned and never needed is left out. Conditions: what is asked lies. -/
import Derived.Test.YtoajcbfejplfbaaDoorLiveBe
import Derived.Test.YtoajcbfejplfbaaDoorFoldKnown
namespace Go.Proofs.YtoajcbfejplfbaaDoor.MidP
open Go.RowKit Go.Proofs.YtoajcbfejplfbaaDoor.Wo Go.Maps Go.Proofs.YtoajcbfejplfbaaDoor.TreeP
set_option linter.unusedVariables false
set_option linter.unusedSimpArgs false
theorem dead_len (F : Fm) : (i : Nat) → (l : List Stp) → (deadS F i l).length ≤ l.length
  | _, [] => by simp [deadS]
  | i, s :: r => by
    have := dead_len F (i + 1) r
    rw [deadS]
    split
    · simp only [List.length_cons]; omega
    · simp only [List.length_cons]; omega
/-- Where Dead's loop stands. -/
structure DdSt (W : World) (S : Nat → Prop) (F : Fm) (fs : List Value) (i : Nat) (gB : Nat) (R : List Nat) (B : Nat → Nat → Bool) (ov : Value) (l : List Stp) (wr : World) : Prop where
  run : l ++ deadS F i (F.steps.drop i) = deadS F 0 F.steps
  rows : RowsAt wr gB R F.types.length B
  rl : R.length = F.steps.length
  eq : ∀ i p : Nat, i < F.steps.length → p < F.types.length → B i p = neededB F i (p : Int)
  outs : Outs wr W.heap.size (fun k => S k ∨ (W.heap.size ≤ k ∧ k < W.heap.size + 2)) ov l
  apart : ∀ k, ov.ownBlock = some k → k ≠ gB ∧ k ∉ R
  mods : Mods None W wr
  b0 : Blk wr W.heap.size fs 35
  b1 : Blk wr (W.heap.size + 1) zeroFnL 35
  len : l.length ≤ i
set_option maxRecDepth 100000 in
set_option maxHeartbeats 8000000 in
theorem dead_any {W : World} {S : Nat → Prop} {F : Fm} {fv : Value} (hv : FmV W S F fv) (hS : ∀ k, S k → k < W.heap.size) (hok : FmOk F) (hl64 : ∀ s ∈ F.steps, I64 s.label) (hlen : F.steps.length ≤ 6000) (htl : F.types.length ≤ 3000) (hargs : ∀ s ∈ F.steps, s.args.length ≤ 1000000) (hu : ∀ s ∈ F.steps, ∀ p ∈ usesP s, 0 ≤ p ∧ p < F.types.length) (hp : ∀ s ∈ F.steps, pureP s = true → 0 ≤ writesP s ∧ writesP s < F.types.length) :
    Calls Tryd.prog 39 #[fv] W fun e w => ∃ fv', e = .returned fv' ∧ FmV w S (deadF F) fv' ∧ Mods None W w := by
  have HV := Lib.hid hv
  obtain ⟨ta, tc, sa, sc, rfl, hty, hst⟩ := hv
  obtain ⟨W2, hW2⟩ : ∃ W2, W2 = (W.alloc (.cells #[str F.name, .int .i64 F.params, .slice ta F.types.length tc, .slice sa F.steps.length sc] 35)).alloc (.cells #[.string ⟨#[]⟩, .int .i64 0, .slice none 0 0, .slice none 0 0] 35) := ⟨_, rfl⟩
  have hm2 : Mods None W W2 := by rw [hW2]; exact ((Mods.refl _ _).alloc _).alloc _
  have hs2 : W2.heap.size = W.heap.size + 2 := by rw [hW2]; simp
  have hb0 : Blk W2 W.heap.size [str F.name, .int .i64 F.params, .slice ta F.types.length tc, .slice sa F.steps.length sc] 35 := by rw [hW2]; exact (Blk.new W _ _).alloc _
  have hb1 : Blk W2 (W.heap.size + 1) zeroFnL 35 := by
    rw [hW2]
    have := Blk.new (W.alloc (.cells #[str F.name, .int .i64 F.params, .slice ta F.types.length tc, .slice sa F.steps.length sc] 35)) #[.string ⟨#[]⟩, .int .i64 0, .slice none 0 0, .slice none 0 0] 35
    simpa [zeroFnL] using this
  have HBE := Lib.hid (behind_any (HV.out.mods (T := S) (hm2.mono fun _ _ f => f.elim) (fun _ _ k => k)) hl64 hlen htl hargs hu)
  obtain ⟨tn, htn⟩ : ∃ tn, tn = F.types.length := ⟨_, rfl⟩
  obtain ⟨sn, hsn⟩ : ∃ sn, sn = F.steps.length := ⟨_, rfl⟩
  rw [← htn, ← hsn] at hW2 hb0 HBE ⊢
  have g0 := hb0.cell (i := 0) rfl
  have g1 := hb0.cell (i := 1) rfl
  have g2 := hb0.cell (i := 2) rfl
  have g3 := hb0.cell (i := 3) rfl
  have HB0 := Lib.hid hb0
  have HB1 := Lib.hid hb1
  have HM2 := Lib.hid hm2
  have HSN := Lib.hid hsn
  have HTN := Lib.hid htn
  have HST := Lib.hid hst
  have HTY := Lib.hid hty
  have HH := Lib.hid (And.intro hS (And.intro hok (And.intro hlen (And.intro hargs hp))))
  have hs6 : (sn : Int) ≤ 6000 := by omega
  have ht3 : (tn : Int) ≤ 3000 := by omega
  clear hm2 hs2 hb0 hb1 htn hsn hst hty hS hok hlen hargs hu hp hl64 htl
  unfold str at *
  go_enter Tryd.func39, Tryd.ntmps39
  go_upto_region 1 with (fail)
  rw [← hW2]
  clear hW2
  go_wp2_with fail
  go_at_call 59
  refine HBE.out.mono ?_
  rintro e w3 ⟨gB, R, B, rfl, hRl, hrows, hBe, hm3⟩
  rw [← HSN.out] at hRl ⊢
  have HKS : Hid (DdSt W S F [.string ⟨F.name.toArray⟩, .int .i64 F.params, .slice ta tn tc, .slice sa sn sc] 0 gB R B (.slice none 0 0) [] w3) := Lib.hid
    ⟨rfl, hrows, by rw [hRl, HSN.out], hBe, Outs.none_ _ _ _, (fun k hk => by cases hk), HM2.out.trans hm3, HB0.out.mods hm3 (fun f => f), HB1.out.mods hm3 (fun f => f), Nat.zero_le _⟩
  have g3 := (HB0.out.mods hm3 (fun f => f)).cell (i := 3) rfl
  clear g0 g1 g2 hRl hrows hBe hm3 HBE
  go_wp2_with fail
  clear g3
  go_loopw [4, 13] (fun ov iv wr => ∃ i l, i ≤ sn ∧ iv = .int .i64 ((i : Nat) : Int) ∧ Hid (DdSt W S F [.string ⟨F.name.toArray⟩, .int .i64 F.params, .slice ta tn tc, .slice sa sn sc] i gB R B ov l wr)) (fun _ iv _ => (sn - intOf iv).toNat)
  case atStart => exact ⟨0, [], Nat.zero_le _, rfl, HKS⟩
  case round =>
    clear HKS
    obtain ⟨w4, rfl⟩ : ∃ w4 : World, w4 = wr := ⟨_, rfl⟩
    obtain ⟨i, l, hi, rfl, HS⟩ := hrel
    obtain ⟨oa, oc, rfl⟩ := HS.out.outs.form
    by_cases hlt : i < sn
    · have hil : i < F.steps.length := by rw [← HSN.out]; exact hlt
      obtain ⟨x, hxi⟩ : ∃ x, F.steps[i]? = some x := ⟨_, List.getElem?_eq_getElem hil⟩
      have hxe : F.steps[i] = x := by
        obtain ⟨h1, h2⟩ := List.getElem?_eq_some_iff.1 hxi
        exact h2
      have hxm : x ∈ F.steps := List.mem_of_getElem? hxi
      have hdrop : F.steps.drop i = x :: F.steps.drop (i + 1) := by
        rw [← hxe]
        exact List.drop_eq_getElem_cons hil
      obtain ⟨gs, os, xa, xc, rfl, hcs, hxargs⟩ := (HST.out.mods (T := fun k => S k ∨ W.heap.size ≤ k) (HS.out.mods.mono fun _ _ f => f.elim) (fun k hk h => h.elim id (fun h => absurd h (by omega)))).get hil
      rw [hxe] at hcs hxargs
      obtain ⟨y0, y1, y2, y3, y4, y5, y6, y7, y8, y9⟩ := hcs
      have hpi : (i : Int) < (sn : Int) := by omega
      have hi7 : i < 6000 := by omega
      have HXA := Lib.hid hxargs
      obtain ⟨xn, hxn⟩ : ∃ xn, xn = x.args.length := ⟨_, rfl⟩
      rw [← hxn] at y9
      obtain ⟨W6, hW6⟩ : ∃ W6, W6 = w4.alloc (.cells (stpL x (.slice xa xn xc)).toArray 44) := ⟨_, rfl⟩
      have hm6 : Mods None w4 W6 := by rw [hW6]; exact (Mods.refl _ _).alloc _
      have hb6 : Blk W6 w4.heap.size (stpL x (.slice xa xn xc)) 44 := by rw [hW6]; exact Blk.new w4 _ _
      have HB6 := Lib.hid hb6
      have HM6 := Lib.hid hm6
      have hxa6 : IntsAt W6 (fun k => S k ∨ W.heap.size ≤ k) (.slice xa x.args.length xc) x.args := HXA.out.mods (hm6.mono fun _ _ f => f.elim) (fun _ _ k => k)
      have HWR := Lib.hid (writes_any x (.agg (stpL x (.slice xa x.args.length xc)).toArray) _ W6 ⟨xa, xc, rfl, hxa6⟩)
      rw [← hxn] at HWR
      obtain ⟨wv, hwv⟩ : ∃ wv, wv = writesP x := ⟨_, rfl⟩
      rw [← hwv] at HWR
      have HWV := Lib.hid hwv
      have HX := Lib.hid (And.intro hxm (And.intro hdrop (And.intro hxn hil)))
      have HXA6 := Lib.hid hxa6
      have HLT := Lib.hid hlt
      clear hxi hxe hxm hdrop hxargs hm6 hxn hil hxa6 hwv
      unfold stpL str at *
      go_upto_region 6 with (fail)
      rw [← hW6]
      clear hW6 y0 y1 y2 y3 y4 y5 y6 y7 y8 y9
      have e0 := hb6.cell (i := 0) rfl
      have e1 := hb6.cell (i := 1) rfl
      have e2 := hb6.cell (i := 2) rfl
      have e3 := hb6.cell (i := 3) rfl
      have e4 := hb6.cell (i := 4) rfl
      have e5 := hb6.cell (i := 5) rfl
      have e6 := hb6.cell (i := 6) rfl
      have e7 := hb6.cell (i := 7) rfl
      have e8 := hb6.cell (i := 8) rfl
      have e9 := hb6.cell (i := 9) rfl
      go_wp2_with fail
      go_at_call 60
      refine HWR.out.mono ?_
      rintro e w7 ⟨rfl, hm7⟩
      have HPU := Lib.hid (pure_any x (.agg (stpL x (.slice xa x.args.length xc)).toArray) _ w7 ⟨xa, xc, rfl, HXA6.out.mods (hm7.mono fun _ _ f => f.elim) (fun _ _ k => k)⟩)
      rw [← HX.out.2.2.1] at HPU
      unfold stpL str at HPU
      have HB7 := Lib.hid (HB6.out.mods hm7 (fun f => f))
      have HM7 := Lib.hid (HM6.out.trans hm7)
      clear e0 e1 e2 e3 e4 e5 e6 e7 e8 e9 hb6 hm7 HWR HB6 HM6
      go_upto_region 7 with (fail)
      have e0 := HB7.out.cell (i := 0) rfl
      have e1 := HB7.out.cell (i := 1) rfl
      have e2 := HB7.out.cell (i := 2) rfl
      have e3 := HB7.out.cell (i := 3) rfl
      have e4 := HB7.out.cell (i := 4) rfl
      have e5 := HB7.out.cell (i := 5) rfl
      have e6 := HB7.out.cell (i := 6) rfl
      have e7 := HB7.out.cell (i := 7) rfl
      have e8 := HB7.out.cell (i := 8) rfl
      have e9 := HB7.out.cell (i := 9) rfl
      obtain ⟨cc, hcc⟩ : ∃ cc, cc = (!pureP x || neededB F i (writesP x)) := ⟨_, rfl⟩
      have HCC := Lib.hid hcc
      clear hcc
      go_cut [31] (fun cv wx => cv = .bool cc ∧ Hid (Mods None w7 wx))
      case first =>
        obtain ⟨pb, hpb⟩ : ∃ pb, pb = pureP x := ⟨_, rfl⟩
        rw [← hpb] at HPU
        have HPB := Lib.hid hpb
        clear hpb
        cases pb with
        | false =>
          have e : cc = true := by rw [HCC.out, ← HPB.out]; rfl
          subst e
          go_wp2_with fail
          go_at_call 61
          refine HPU.out.mono ?_
          rintro e w8 ⟨rfl, hm8⟩
          go_wp2_with fail
          go_meet
          case rel => exact ⟨rfl, Lib.hid (by first | exact hm8 | exact hm8.drew)⟩
        | true =>
          have hwb := HH.out.2.2.2.2 x HX.out.1 HPB.out.symm
          obtain ⟨q, hq⟩ := Int.eq_ofNat_of_zero_le hwb.1
          have e : cc = B i q := by
            rw [HCC.out, ← HPB.out, HS.out.eq i q HX.out.2.2.2 (by omega), hq]; rfl
          have hwq : wv = (q : Int) := by rw [HWV.out]; exact hq
          subst hwq
          have hqt : q < F.types.length := by omega
          have hqi : (q : Int) < (tn : Int) := by rw [HTN.out]; omega
          obtain ⟨r, hr⟩ : ∃ r, R[i]? = some r := ⟨_, List.getElem?_eq_getElem (by rw [HS.out.rl]; exact HX.out.2.2.2)⟩
          have HQ := Lib.hid (And.intro hqt hr)
          have HE := Lib.hid e
          clear hwb hq e hqt hr
          go_wp2_with fail
          go_at_call 61
          refine HPU.out.mono ?_
          rintro e w8 ⟨rfl, hm8⟩
          have hrw := (HS.out.rows.mods HM7.out (fun f => f) (fun _ _ f => f)).mods hm8 (fun f => f) (fun _ _ f => f)
          have csl := hrw.sl HQ.out.2
          have cbt := (hrw.bit HQ.out.2 HQ.out.1).1
          rw [← HTN.out] at csl
          rw [← HE.out] at cbt
          clear hrw
          go_wp2_with fail
          go_meet
          case rel => exact ⟨rfl, Lib.hid (by first | exact hm8 | exact hm8.drew)⟩
      case rest =>
      obtain ⟨w9, rfl⟩ : ∃ w9 : World, w9 = wc := ⟨_, rfl⟩
      obtain ⟨rfl, HM9⟩ := hcut
      clear e0 e1 e2 e3 e4 e5 e6 e7 e8 e9 HPU
      have HM49 := Lib.hid (HM7.out.trans HM9.out)
      have hrun := HS.out.run
      rw [HX.out.2.1, deadS, ← HCC.out] at hrun
      have HRN := Lib.hid hrun
      have hro := Lib.hid (HS.out.rows.mods HM49.out (fun f => f) (fun _ _ f => f))
      clear hrun
      cases cc with
      | false =>
        go_wp2_with fail
        refine ⟨⟨i + 1, l, by omega, by go_num, Lib.hid ?_⟩, by simp [intOf]; omega⟩
        have hrun := HRN.out
        rw [if_neg (by simp)] at hrun
        exact ⟨hrun, hro.out, HS.out.rl, HS.out.eq, HS.out.outs.mods HM49.out (fun _ f => f.elim), HS.out.apart, HS.out.mods.trans HM49.out, HS.out.b0.mods HM49.out (fun f => f), HS.out.b1.mods HM49.out (fun f => f), by have := HS.out.len; omega⟩
      | true =>
        obtain ⟨cs, hcs1, hcs2, hcs3⟩ := HS.out.outs.mods HM49.out (fun _ f => f.elim)
        have hbx : Blk w9 w4.heap.size (stpL x (.slice xa xn xc)) 44 := HB7.out.mods HM9.out (fun f => f)
        have e0 := hbx.cell (i := 0) rfl
        have e1 := hbx.cell (i := 1) rfl
        have e2 := hbx.cell (i := 2) rfl
        have e3 := hbx.cell (i := 3) rfl
        have e4 := hbx.cell (i := 4) rfl
        have e5 := hbx.cell (i := 5) rfl
        have e6 := hbx.cell (i := 6) rfl
        have e7 := hbx.cell (i := 7) rfl
        have e8 := hbx.cell (i := 8) rfl
        have e9 := hbx.cell (i := 9) rfl
        obtain ⟨i0, hi0, hz0, hz1, hz2⟩ := info_parts stp_info
        have HI := Lib.hid (And.intro hi0 (And.intro hz0 (And.intro hz1 hz2)))
        obtain ⟨ln, hln⟩ : ∃ ln, ln = l.length := ⟨_, rfl⟩
        have HLN := Lib.hid hln
        rw [← hln] at hcs1 hcs2 hcs3 ⊢
        have HMA : Hid (Mods None w9 (w9.alloc (.cells (stpL x (.slice xa xn xc)).toArray 44))) := Lib.hid ((Mods.refl _ _).alloc _)
        have HOA := Lib.hid (HMA.out.ownsRow hcs1 (fun k hk f => f))
        have HRA := Lib.hid (RelS.mods hcs2 (HMA.out.mono fun _ _ f => f.elim) (fun _ _ k => k))
        have HCS3 := Lib.hid hcs3
        have HOL := Lib.hid hcs1.lt
        have HXZ : Hid (IntsAt (w9.alloc (.cells (stpL x (.slice xa xn xc)).toArray 44)) (fun k => S k ∨ W.heap.size ≤ k) (.slice xa xn xc) x.args) := Lib.hid (by
          have h := HXA.out.mods (T := fun k => S k ∨ W.heap.size ≤ k) ((HM49.out.trans HMA.out).mono fun _ _ f => f.elim) (fun _ _ k => k)
          rw [← HX.out.2.2.1] at h
          exact h)
        have HLE : Hid (ln ≤ 6000) := Lib.hid (by have := HS.out.len; omega)
        have HWS : Hid (W.heap.size + 2 ≤ w9.heap.size) := Lib.hid (by have h1 := HS.out.b1.lt; have h2 := HM49.out.size; omega)
        have HBS : Hid (W.heap.size ≤ (w9.alloc (.cells (stpL x (.slice xa xn xc)).toArray 44)).heap.size) := Lib.hid (by have h1 := HWS.out; have h5 := HMA.out.size; omega)
        have hnew := Lib.hid (row_new w9 (stpL x (.slice xa xn xc)) 44)
        have hone := Lib.hid (stp_one x xa xn xc)
        clear hcs1 hcs2 hcs3 hbx hi0 hz0 hz1 hz2 hln
        unfold stpL str at hnew hone HMA HOA HBS HRA HXZ
        go_wp2_with (at_builtin; refine wpList_append_own_at _ rfl _ _ 33 rfl W.heap.size 44 i0 _ 10 112 Tryd.underlying33 HI.out.1 HI.out.2.1 HI.out.2.2.1 HI.out.2.2.2 rfl (by decide) (.slice oa ln oc) ln cs rfl HOA.out ⟨w9.heap.size, 0, none⟩ 1 1 [.int .i64 x.code, .int .i64 x.dst, .int .i64 x.a, .int .i64 x.b, .int .i64 x.c, .int .i64 x.n, .string ⟨x.op.toArray⟩, .int .i64 x.label, .string ⟨x.name.toArray⟩, .slice xa xn xc] rfl rfl hnew.out hone.out (by have := HLE.out; unfold maxLen; omega) (by have := HLE.out; omega) HBS.out ?_; intro v' w11 hown hgrow hnil hloc; have HOW := Lib.hid hown; have HGR := Lib.hid (And.intro hgrow hloc); clear hown hgrow hnil hloc; refine Hid.out ?_)
        refine Lib.hid ?_
        obtain ⟨qa, qc, rfl⟩ := slice_form HOW.out
        go_wp2_with fail
        refine ⟨⟨i + 1, l ++ [x], by omega, by go_num, Lib.hid ?_⟩, by simp [intOf]; omega⟩
        have hrun := HRN.out
        rw [if_pos (by simp)] at hrun
        have hHA := HMA.out
        have hHO := HOA.out
        have hHR := HRA.out
        have hHX := HXZ.out
        obtain ⟨w12, hw12⟩ : ∃ w12, w12 = w9.alloc (.cells #[.int .i64 x.code, .int .i64 x.dst, .int .i64 x.a, .int .i64 x.b, .int .i64 x.c, .int .i64 x.n, .string ⟨x.op.toArray⟩, .int .i64 x.label, .string ⟨x.name.toArray⟩, .slice xa xn xc] 44) := ⟨_, rfl⟩
        have hHA : Mods None w9 w12 := by rw [hw12]; exact hHA
        have hHO : w12.ownsRow W.heap.size 44 10 (.slice oa ln oc) ln cs := by rw [hw12]; exact hHO
        have hHR : RelS w12 (fun k => (S k ∨ (W.heap.size ≤ k ∧ k < W.heap.size + 2)) ∨ (Value.slice oa ln oc).ownBlock = some k) cs l := by rw [hw12]; exact hHR
        have hHX : IntsAt w12 (fun k => S k ∨ W.heap.size ≤ k) (.slice xa xn xc) x.args := by rw [hw12]; exact hHX
        have hgr : w12.grownBy w11 (Value.slice oa ln oc).ownBlock := by rw [hw12]; exact HGR.out.1
        have hlc : (Value.slice qa (ln + 1) qc).ownBlock = (Value.slice oa ln oc).ownBlock ∨ (Value.slice qa (ln + 1) qc).ownBlock = some w12.heap.size := by rw [hw12]; exact HGR.out.2
        have how := HOW.out
        clear hw12
        have hsz : w9.heap.size ≤ w12.heap.size := hHA.size
        have hWS := HWS.out
        have hmo : Mods (fun k => (Value.slice oa ln oc).ownBlock = some k) w12 w11 := Mods.of_grownBy hgr (fun k hk _ => hk)
        have hno : ∀ k, (Value.slice oa ln oc).ownBlock = some k → W.heap.size + 2 ≤ k := fun k hk => by
          have h1 := HCS3.out k hk
          have h2 := (HOL.out k hk).1
          omega
        have hap : ∀ k, (Value.slice oa ln oc).ownBlock = some k → k ≠ gB ∧ k ∉ R := fun k hk => HS.out.apart k (by rw [← HLN.out]; exact hk)
        have hW12 : Mods None W w12 := (HS.out.mods.trans HM49.out).trans hHA
        have hW11 : Mods None W w11 := hW12.trans' hmo (fun k hk hl => by have := hno k hk; omega)
        have hr12 := hro.out.mods hHA (fun f => f) (fun _ _ f => f)
        refine ⟨?_, hr12.mods hmo (fun e => (hap _ e).1 rfl) (fun r hr e => (hap _ e).2 hr), HS.out.rl, HS.out.eq, ?_, ?_, hW11, ?_, ?_, ?_⟩
        · rw [List.append_assoc]
          exact hrun
        · refine outs_grow (w4 := w12) (cs := cs) (S1 := fun k => S k ∨ W.heap.size ≤ k) (av := .slice xa xn xc) ?_ hHR HCS3.out hHX ?_ ?_ ?_ hgr hlc
          · rw [← HLN.out]; exact hHO
          · intro k hk
            rcases hk with (hk | hk) | hk
            · exact Or.inl hk
            · exact Or.inr hk.1
            · exact Or.inr (by have := hno k hk; omega)
          · intro k hk
            rcases hk with hk | hk
            · have := HH.out.1 k hk
              omega
            · omega
          · rw [← HLN.out]; exact how
        · intro k hk
          rcases hlc with hl | hl
          · exact hap k (by rw [← hl]; exact hk)
          · have hk2 : k = w12.heap.size := by rw [hl] at hk; exact (Option.some.inj hk).symm
            refine ⟨fun e => ?_, fun e => ?_⟩
            · have := hr12.blk.lt
              omega
            · obtain ⟨j, hj⟩ := List.mem_iff_getElem?.1 e
              have := (hr12.row j k hj).lt
              omega
        · exact ((HS.out.b0.mods HM49.out (fun f => f)).mods hHA (fun f => f)).mods hmo (fun e => by have := hno _ e; omega)
        · exact ((HS.out.b1.mods HM49.out (fun f => f)).mods hHA (fun f => f)).mods hmo (fun e => by have := hno _ e; omega)
        · have := HS.out.len
          simp only [List.length_append, List.length_singleton]
          omega
    · obtain rfl : i = sn := by omega
      have hpi : ¬ (i : Int) < (i : Int) := by omega
      have g0 := HS.out.b0.cell (i := 0) rfl
      have g1 := HS.out.b0.cell (i := 1) rfl
      have g2 := HS.out.b0.cell (i := 2) rfl
      have g3 := HS.out.b0.cell (i := 3) rfl
      have z3 := HS.out.b0.free 3
      have q0 := HS.out.b1.cell (i := 0) rfl
      have q1 := HS.out.b1.cell (i := 1) rfl
      have q2 := HS.out.b1.cell (i := 2) rfl
      have q3 := HS.out.b1.cell (i := 3) rfl
      have f0 := HS.out.b1.free 0
      have f1 := HS.out.b1.free 1
      have f2 := HS.out.b1.free 2
      have f3 := HS.out.b1.free 3
      go_wp2_with fail
      clear g0 g1 g2 g3 z3 q0 q1 q2 q3 f0 f1 f2 f3 hpi
      obtain ⟨hB, hm⟩ := fn_end HS.out.b0 HS.out.b1 (.slice oa l.length oc)
      have hl : l = deadS F 0 F.steps := by
        have h := HS.out.run
        rw [HSN.out, List.drop_length] at h
        simpa [deadS] using h
      have hmw : Mods None W (((((w4.setCell ⟨W.heap.size, 3, none⟩ (.slice oa l.length oc)).setCell ⟨W.heap.size + 1, 0, none⟩ (.string ⟨F.name.toArray⟩)).setCell ⟨W.heap.size + 1, 1, none⟩ (.int .i64 F.params)).setCell ⟨W.heap.size + 1, 2, none⟩ (.slice ta tn tc)).setCell ⟨W.heap.size + 1, 3, none⟩ (.slice oa l.length oc)) := HS.out.mods.trans' hm (fun k hk hl => by omega)
      have hst := (HS.out.outs.at_).mods (T := S) (hm.mono fun k _ hk => Or.inr ⟨by omega, by omega⟩) (fun k _ hk => Or.inl hk)
      refine bodyPost_ret (v := .agg #[.string ⟨F.name.toArray⟩, .int .i64 F.params, .slice ta tn tc, .slice oa l.length oc]) (results_cell_row (P := Tryd.prog) Tryd.results39 _ _ (W.heap.size + 1) 35 _ (0, 0) _ rfl hB Tryd.underlying35 rfl (by kernel_rfl)) rfl ?_
      rw [hl] at hst
      rw [HTN.out, hl]
      exact ⟨_, rfl, ⟨ta, tc, oa, oc, rfl, HTY.out.mods (by rw [hl, HTN.out] at hmw; exact hmw.mono fun _ _ f => f.elim) (fun _ _ k => k), by rw [HTN.out] at hst; exact hst⟩, by rw [hl, HTN.out] at hmw; exact hmw⟩
end Go.Proofs.YtoajcbfejplfbaaDoor.MidP

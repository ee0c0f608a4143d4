/- Reached: what is never reached is left out. Conditions: what is asked lies. -/
import Derived.Test.YtoajcbfejplfbaaDoorFoldDel
import Derived.Test.YtoajcbfejplfbaaDoorFoldReP
namespace Go.Proofs.YtoajcbfejplfbaaDoor.MidP
open Go.RowKit Go.Proofs.YtoajcbfejplfbaaDoor.Wo Go.Maps Go.Proofs.YtoajcbfejplfbaaDoor.TreeP
set_option linter.unusedVariables false
set_option linter.unusedSimpArgs false
/-- Where Reached's first loop stands. -/
structure OnSt (W : World) (S : Nat → Prop) (F : Fm) (fs : List Value) (i : Nat) (on : Bool) (ov : Value) (l : List Stp) (wr : World) : Prop where
  run : l ++ onS on (F.steps.drop i) = onS true F.steps
  outs : Outs wr W.heap.size (fun k => S k ∨ (W.heap.size ≤ k ∧ k < W.heap.size + 2)) ov l
  mods : Mods None W wr
  b0 : Blk wr W.heap.size fs 35
  b1 : Blk wr (W.heap.size + 1) zeroFnL 35
  len : l.length ≤ i
/-- Where Reached's second loop stands. -/
structure JmSt (W ws : World) (S : Nat → Prop) (fs : List Value) (sv : Value) (o : List Stp) (i : Nat) (ov : Value) (l : List Stp) (wr : World) : Prop where
  run : l ++ jumpS (o.drop i) = jumpS o
  src : StpsAt wr (fun k => S k ∨ (W.heap.size ≤ k ∧ k < W.heap.size + 2) ∨ ws.heap.size ≤ k) sv o
  outs : Outs wr ws.heap.size (fun k => S k ∨ (W.heap.size ≤ k ∧ k < W.heap.size + 2)) ov l
  mods : Mods None W wr
  b0 : Blk wr W.heap.size fs 35
  b1 : Blk wr (W.heap.size + 1) zeroFnL 35
  len : l.length ≤ i
  size : ws.heap.size ≤ wr.heap.size
theorem reached_fin {W w : World} {S : Nat → Prop} {F : Fm} {ta da : Option Addr} {tc dc tn m : Nat} (hW : Mods None W w) (ht : IntsAt W S (.slice ta F.types.length tc) F.types) (hs : StpsAt w S (.slice da m dc) (reachedS F.steps)) (ho : m = (reachedS F.steps).length) (htn : tn = F.types.length) :
    ∃ fv', Ending.returned (Value.agg #[.string ⟨F.name.toArray⟩, .int .i64 F.params, .slice ta tn tc, .slice da m dc]) = .returned fv' ∧ FmV w S (reachedF F) fv' ∧ Mods None W w := by
  obtain ⟨R, hR, h1, h2, h3, h4⟩ : ∃ R, R = reachedF F ∧ R.name = F.name ∧ R.params = F.params ∧ R.types = F.types ∧ R.steps = reachedS F.steps := ⟨_, rfl, rfl, rfl, rfl, rfl⟩
  rw [← hR]
  rw [← h4] at hs ho
  rw [← h1, ← h2, htn, ho]
  rw [ho] at hs
  rw [← h3] at ht ⊢
  exact ⟨_, rfl, ⟨ta, tc, da, dc, rfl, ht.mods (hW.mono fun _ _ f => f.elim) (fun _ _ k => k), hs⟩, hW⟩
set_option maxRecDepth 100000 in
set_option maxHeartbeats 8000000 in
theorem reached_any {W : World} {S : Nat → Prop} {F : Fm} {fv : Value} (hv : FmV W S F fv) (hS : ∀ k, S k → k < W.heap.size) (hl64 : ∀ s ∈ F.steps, I64 s.label) (hlen : F.steps.length ≤ 6000) :
    Calls Tryd.prog 38 #[fv] W fun e w => ∃ fv', e = .returned fv' ∧ FmV w S (reachedF F) fv' ∧ Mods None W w := by
  obtain ⟨ta, tc, sa, sc, rfl, hty, hst⟩ := hv
  obtain ⟨W2, hW2⟩ : ∃ W2, W2 = (W.alloc (.cells #[str F.name, .int .i64 F.params, .slice ta F.types.length tc, .slice sa F.steps.length sc] 35)).alloc (.cells #[.string ⟨#[]⟩, .int .i64 0, .slice none 0 0, .slice none 0 0] 35) := ⟨_, rfl⟩
  have hm2 : Mods None W W2 := by rw [hW2]; exact ((Mods.refl _ _).alloc _).alloc _
  have hs2 : W2.heap.size = W.heap.size + 2 := by rw [hW2]; simp
  have hb0 : Blk W2 W.heap.size [str F.name, .int .i64 F.params, .slice ta F.types.length tc, .slice sa F.steps.length sc] 35 := by rw [hW2]; exact (Blk.new W _ _).alloc _
  have hb1 : Blk W2 (W.heap.size + 1) zeroFnL 35 := by
    rw [hW2]
    have := Blk.new (W.alloc (.cells #[str F.name, .int .i64 F.params, .slice ta F.types.length tc, .slice sa F.steps.length sc] 35)) #[.string ⟨#[]⟩, .int .i64 0, .slice none 0 0, .slice none 0 0] 35
    simpa [zeroFnL] using this
  obtain ⟨tn, htn⟩ : ∃ tn, tn = F.types.length := ⟨_, rfl⟩
  obtain ⟨sn, hsn⟩ : ∃ sn, sn = F.steps.length := ⟨_, rfl⟩
  rw [← htn, ← hsn] at hW2 hb0 ⊢
  have g3 := hb0.cell (i := 3) rfl
  have HKS : Hid (OnSt W S F [str F.name, .int .i64 F.params, .slice ta tn tc, .slice sa sn sc] 0 true (.slice none 0 0) [] W2) := Lib.hid
    ⟨rfl, Outs.none_ _ _ _, hm2, hb0, hb1, Nat.zero_le _⟩
  have HSN := Lib.hid hsn
  have HTN := Lib.hid htn
  have HST := Lib.hid hst
  have HTY := Lib.hid hty
  have HH := Lib.hid (And.intro hS (And.intro hl64 hlen))
  have hs6 : (sn : Int) ≤ 6000 := by omega
  clear hm2 hs2 hb0 hb1 htn hsn hst hty hS hlen hl64
  unfold str at *
  go_enter Tryd.func38, Tryd.ntmps38
  go_upto_region 1 with (fail)
  rw [← hW2]
  clear hW2
  go_wp2_with fail
  clear g3
  go_loopw [3, 4, 16] (fun ov nv iv wr => ∃ i on l, i ≤ sn ∧ nv = .bool on ∧ iv = .int .i64 ((i : Nat) : Int) ∧ Hid (OnSt W S F [.string ⟨F.name.toArray⟩, .int .i64 F.params, .slice ta tn tc, .slice sa sn sc] i on ov l wr)) (fun _ _ iv _ => (sn - intOf iv).toNat)
  case atStart => exact ⟨0, true, [], Nat.zero_le _, rfl, rfl, HKS⟩
  case round =>
    clear HKS
    obtain ⟨w4, rfl⟩ : ∃ w4 : World, w4 = wr := ⟨_, rfl⟩
    obtain ⟨i, on, l, hi, rfl, rfl, HS⟩ := hrel
    obtain ⟨oa, oc, rfl⟩ := HS.out.outs.form
    by_cases hlt : i < sn
    · have hil : i < F.steps.length := by rw [← HSN.out]; exact hlt
      obtain ⟨x, hxi⟩ : ∃ x, F.steps[i]? = some x := ⟨_, List.getElem?_eq_getElem hil⟩
      have hxe : F.steps[i] = x := by
        obtain ⟨h1, h2⟩ := List.getElem?_eq_some_iff.1 hxi
        exact h2
      have hxm : x ∈ F.steps := List.mem_of_getElem? hxi
      have hdrop : F.steps.drop i = x :: F.steps.drop (i + 1) := by
        rw [← hxe]
        exact List.drop_eq_getElem_cons hil
      obtain ⟨gs, os, xa, xc, rfl, hcs, hxargs⟩ := (HST.out.mods (T := fun k => S k ∨ W.heap.size ≤ k) (HS.out.mods.mono fun _ _ f => f.elim) (fun k hk h => h.elim id (fun h => absurd h (by omega)))).get hil
      rw [hxe] at hcs hxargs
      obtain ⟨y0, y1, y2, y3, y4, y5, y6, y7, y8, y9⟩ := hcs
      have hpi : (i : Int) < (sn : Int) := by omega
      have hi7 : i < 6000 := by omega
      have HXA := Lib.hid hxargs
      obtain ⟨xn, hxn⟩ : ∃ xn, xn = x.args.length := ⟨_, rfl⟩
      rw [← hxn] at y9
      obtain ⟨W6, hW6⟩ : ∃ W6, W6 = w4.alloc (.cells (stpL x (.slice xa xn xc)).toArray 44) := ⟨_, rfl⟩
      have hm6 : Mods None w4 W6 := by rw [hW6]; exact (Mods.refl _ _).alloc _
      have hb6 : Blk W6 w4.heap.size (stpL x (.slice xa xn xc)) 44 := by rw [hW6]; exact Blk.new w4 _ _
      have HB6 := Lib.hid hb6
      have HM6 := Lib.hid hm6
      have HX := Lib.hid (And.intro hxm (And.intro hdrop (And.intro hxn hil)))
      have HLT := Lib.hid hlt
      clear hxi hxe hxm hdrop hxargs hm6 hxn hil
      unfold stpL str at *
      go_upto_region 6 with (fail)
      rw [← hW6]
      clear hW6 y0 y1 y2 y3 y4 y5 y6 y7 y8 y9
      have e0 := hb6.cell (i := 0) rfl
      clear hb6
      obtain ⟨on2, hon2⟩ : ∃ b, b = (on || x.code == 6) := ⟨_, rfl⟩
      have HON := Lib.hid hon2
      clear hon2
      go_cut [4] (fun nv w => nv = .bool on2 ∧ Hid (Mods None W6 w))
      case first =>
        cases on with
        | true =>
          have e : on2 = true := by rw [HON.out]; rfl
          subst e
          go_wp2_with fail
          go_meet
          case rel => exact ⟨rfl, Lib.hid (by first | exact Mods.refl _ _ | exact (Mods.refl _ _).drew)⟩
        | false =>
          have e : on2 = (x.code == 6) := by rw [HON.out]; rfl
          subst e
          go_wp2_with fail
          go_meet
          case rel => exact ⟨rfl, Lib.hid (by first | exact Mods.refl _ _ | exact (Mods.refl _ _).drew)⟩
      case rest =>
      obtain ⟨w7, rfl⟩ : ∃ w7 : World, w7 = wc := ⟨_, rfl⟩
      obtain ⟨rfl, HM7⟩ := hcut
      have HM49 := Lib.hid (HM6.out.trans HM7.out)
      go_upto_if 26 with (fail)
      go_cut [3] (fun ov w => ∃ l', Hid (l' = l ++ if on2 then [x] else []) ∧ Hid (Outs w W.heap.size (fun k => S k ∨ (W.heap.size ≤ k ∧ k < W.heap.size + 2)) ov l') ∧ Hid (Mods None W w) ∧ Hid (Blk w W.heap.size [.string ⟨F.name.toArray⟩, .int .i64 F.params, .slice ta tn tc, .slice (some ⟨gs, os, none⟩) sn sc] 35) ∧ Hid (Blk w (W.heap.size + 1) zeroFnL 35) ∧ w.cell? ⟨w4.heap.size, 0, none⟩ = some (.int .i64 x.code))
      case first =>
        cases on2 with
        | false =>
          go_wp2_with fail
          go_meet
          case rel => exact ⟨l, Lib.hid (by simp), Lib.hid (HS.out.outs.mods HM49.out (fun _ f => f.elim)), Lib.hid (HS.out.mods.trans HM49.out), Lib.hid (HS.out.b0.mods HM49.out (fun f => f)), Lib.hid (HS.out.b1.mods HM49.out (fun f => f)), (HB6.out.mods HM7.out (fun f => f)).cell (i := 0) rfl⟩
        | true =>
          obtain ⟨cs, hcs1, hcs2, hcs3⟩ := HS.out.outs.mods HM49.out (fun _ f => f.elim)
          have hbx : Blk w7 w4.heap.size (stpL x (.slice xa xn xc)) 44 := HB6.out.mods HM7.out (fun f => f)
          have e0 := hbx.cell (i := 0) rfl
          have e1 := hbx.cell (i := 1) rfl
          have e2 := hbx.cell (i := 2) rfl
          have e3 := hbx.cell (i := 3) rfl
          have e4 := hbx.cell (i := 4) rfl
          have e5 := hbx.cell (i := 5) rfl
          have e6 := hbx.cell (i := 6) rfl
          have e7 := hbx.cell (i := 7) rfl
          have e8 := hbx.cell (i := 8) rfl
          have e9 := hbx.cell (i := 9) rfl
          obtain ⟨i0, hi0, hz0, hz1, hz2⟩ := info_parts stp_info
          have HI := Lib.hid (And.intro hi0 (And.intro hz0 (And.intro hz1 hz2)))
          obtain ⟨ln, hln⟩ : ∃ ln, ln = l.length := ⟨_, rfl⟩
          have HLN := Lib.hid hln
          rw [← hln] at hcs1 hcs2 hcs3 ⊢
          have HMA : Hid (Mods None w7 (w7.alloc (.cells (stpL x (.slice xa xn xc)).toArray 44))) := Lib.hid ((Mods.refl _ _).alloc _)
          have HOA := Lib.hid (HMA.out.ownsRow hcs1 (fun k hk f => f))
          have HRA := Lib.hid (RelS.mods hcs2 (HMA.out.mono fun _ _ f => f.elim) (fun _ _ k => k))
          have HCS3 := Lib.hid hcs3
          have HOL := Lib.hid hcs1.lt
          have HXZ : Hid (IntsAt (w7.alloc (.cells (stpL x (.slice xa xn xc)).toArray 44)) (fun k => S k ∨ W.heap.size ≤ k) (.slice xa xn xc) x.args) := Lib.hid (by
            have h := HXA.out.mods (T := fun k => S k ∨ W.heap.size ≤ k) ((HM49.out.trans HMA.out).mono fun _ _ f => f.elim) (fun _ _ k => k)
            rw [← HX.out.2.2.1] at h
            exact h)
          have HLE : Hid (ln ≤ 6000) := Lib.hid (by have := HS.out.len; omega)
          have HWS : Hid (W.heap.size + 2 ≤ w7.heap.size) := Lib.hid (by have h1 := HS.out.b1.lt; have h2 := HM49.out.size; omega)
          have HBS : Hid (W.heap.size ≤ (w7.alloc (.cells (stpL x (.slice xa xn xc)).toArray 44)).heap.size) := Lib.hid (by have h1 := HWS.out; have h5 := HMA.out.size; omega)
          have hnew := Lib.hid (row_new w7 (stpL x (.slice xa xn xc)) 44)
          have hone := Lib.hid (stp_one x xa xn xc)
          clear hcs1 hcs2 hcs3 hbx hi0 hz0 hz1 hz2 hln
          unfold stpL str at hnew hone HMA HOA HBS HRA HXZ
          go_wp2_with (at_builtin; refine wpList_append_own_at _ rfl _ _ 33 rfl W.heap.size 44 i0 _ 10 112 Tryd.underlying33 HI.out.1 HI.out.2.1 HI.out.2.2.1 HI.out.2.2.2 rfl (by decide) (.slice oa ln oc) ln cs rfl HOA.out ⟨w7.heap.size, 0, none⟩ 1 1 [.int .i64 x.code, .int .i64 x.dst, .int .i64 x.a, .int .i64 x.b, .int .i64 x.c, .int .i64 x.n, .string ⟨x.op.toArray⟩, .int .i64 x.label, .string ⟨x.name.toArray⟩, .slice xa xn xc] rfl rfl hnew.out hone.out (by have := HLE.out; unfold maxLen; omega) (by have := HLE.out; omega) HBS.out ?_; intro v' w11 hown hgrow hnil hloc; have HOW := Lib.hid hown; have HGR := Lib.hid (And.intro hgrow hloc); clear hown hgrow hnil hloc; refine Hid.out ?_)
          refine Lib.hid ?_
          obtain ⟨qa, qc, rfl⟩ := slice_form HOW.out
          go_wp2_with fail
          go_meet
          case rel =>
            have hHA := HMA.out
            have hHO := HOA.out
            have hHR := HRA.out
            have hHX := HXZ.out
            obtain ⟨w12, hw12⟩ : ∃ w12, w12 = w7.alloc (.cells #[.int .i64 x.code, .int .i64 x.dst, .int .i64 x.a, .int .i64 x.b, .int .i64 x.c, .int .i64 x.n, .string ⟨x.op.toArray⟩, .int .i64 x.label, .string ⟨x.name.toArray⟩, .slice xa xn xc] 44) := ⟨_, rfl⟩
            have hHA : Mods None w7 w12 := by rw [hw12]; exact hHA
            have hHO : w12.ownsRow W.heap.size 44 10 (.slice oa ln oc) ln cs := by rw [hw12]; exact hHO
            have hHR : RelS w12 (fun k => (S k ∨ (W.heap.size ≤ k ∧ k < W.heap.size + 2)) ∨ (Value.slice oa ln oc).ownBlock = some k) cs l := by rw [hw12]; exact hHR
            have hHX : IntsAt w12 (fun k => S k ∨ W.heap.size ≤ k) (.slice xa xn xc) x.args := by rw [hw12]; exact hHX
            have hgr : w12.grownBy w11 (Value.slice oa ln oc).ownBlock := by rw [hw12]; exact HGR.out.1
            have hlc : (Value.slice qa (ln + 1) qc).ownBlock = (Value.slice oa ln oc).ownBlock ∨ (Value.slice qa (ln + 1) qc).ownBlock = some w12.heap.size := by rw [hw12]; exact HGR.out.2
            have how := HOW.out
            clear hw12
            have hsz : w7.heap.size ≤ w12.heap.size := hHA.size
            have hWS := HWS.out
            have hmo : Mods (fun k => (Value.slice oa ln oc).ownBlock = some k) w12 w11 := Mods.of_grownBy hgr (fun k hk _ => hk)
            have hno : ∀ k, (Value.slice oa ln oc).ownBlock = some k → W.heap.size + 2 ≤ k := fun k hk => by
              have h1 := HCS3.out k hk
              have h2 := (HOL.out k hk).1
              omega
            have hW12 : Mods None W w12 := (HS.out.mods.trans HM49.out).trans hHA
            have hW11 : Mods None W w11 := hW12.trans' hmo (fun k hk hl => by have := hno k hk; omega)
            have hbx2 : Blk w7 w4.heap.size [.int .i64 x.code, .int .i64 x.dst, .int .i64 x.a, .int .i64 x.b, .int .i64 x.c, .int .i64 x.n, .string ⟨x.op.toArray⟩, .int .i64 x.label, .string ⟨x.name.toArray⟩, .slice xa xn xc] 44 := HB6.out.mods HM7.out (fun f => f)
            refine ⟨l ++ [x], Lib.hid rfl, Lib.hid ?_, Lib.hid hW11, Lib.hid ?_, Lib.hid ?_, ?_⟩
            · refine outs_grow (w4 := w12) (cs := cs) (S1 := fun k => S k ∨ W.heap.size ≤ k) (av := .slice xa xn xc) ?_ hHR HCS3.out hHX ?_ ?_ ?_ hgr hlc
              · rw [← HLN.out]; exact hHO
              · intro k hk
                rcases hk with (hk | hk) | hk
                · exact Or.inl hk
                · exact Or.inr hk.1
                · exact Or.inr (by have := hno k hk; omega)
              · intro k hk
                rcases hk with hk | hk
                · have := HH.out.1 k hk
                  omega
                · omega
              · rw [← HLN.out]; exact how
            · exact ((HS.out.b0.mods HM49.out (fun f => f)).mods hHA (fun f => f)).mods hmo (fun e => by have := hno _ e; omega)
            · exact ((HS.out.b1.mods HM49.out (fun f => f)).mods hHA (fun f => f)).mods hmo (fun e => by have := hno _ e; omega)
            · refine Blk.cell (i := 0) ((hbx2.mods hHA (fun f => f)).mods hmo (fun e => ?_)) rfl
              obtain ⟨cs0, h0, _⟩ := HS.out.outs
              have h1 := (h0.lt w4.heap.size (by rw [← HLN.out]; exact e)).2
              omega
      case rest =>
      obtain ⟨w8, rfl⟩ : ∃ w8 : World, w8 = wc := ⟨_, rfl⟩
      obtain ⟨l', HL', HO', HMW', HB0', HB1', e0⟩ := hcut
      have hend : ∀ v : Bool, (on2 && !(x.code == 4 || x.code == 8)) = v → ∀ w9, Mods None w8 w9 → ∀ ov, Outs w8 W.heap.size (fun k => S k ∨ (W.heap.size ≤ k ∧ k < W.heap.size + 2)) ov l' → OnSt W S F [.string ⟨F.name.toArray⟩, .int .i64 F.params, .slice ta tn tc, .slice (some ⟨gs, os, none⟩) sn sc] (i + 1) v ov l' w9 := fun v hv w9 hm9 ov ho => by
        have hrun := HS.out.run
        rw [HX.out.2.1, onS, ← HON.out, hv] at hrun
        refine ⟨by rw [HL'.out, List.append_assoc]; exact hrun, ho.mods hm9 (fun _ f => f.elim), HMW'.out.trans hm9, HB0'.out.mods hm9 (fun f => f), HB1'.out.mods hm9 (fun f => f), ?_⟩
        rw [HL'.out, List.length_append]
        have := HS.out.len
        split
        · rw [List.length_singleton]; omega
        · rw [List.length_nil]; omega
      have HEN := Lib.hid hend
      clear hend
      by_cases h4 : x.code = 4
      · have g4 : (x.code == 4) = true := by simpa using h4
        have hv : (on2 && !(x.code == 4 || x.code == 8)) = false := by rw [g4]; simp
        have HV := Lib.hid hv
        clear h4 hv
        go_wp2_with fail
        exact ⟨⟨i + 1, false, l', by omega, rfl, by go_num, Lib.hid (HEN.out _ HV.out _ (by first | exact Mods.refl _ _ | exact (Mods.refl _ _).drew) _ HO'.out)⟩, by simp [intOf]; omega⟩
      · have g4 : (x.code == 4) = false := by simpa using h4
        by_cases h8 : x.code = 8
        · have g8 : (x.code == 8) = true := by simpa using h8
          have hv : (on2 && !(x.code == 4 || x.code == 8)) = false := by rw [g8]; simp
          have HV := Lib.hid hv
          clear h4 h8 hv
          go_wp2_with fail
          exact ⟨⟨i + 1, false, l', by omega, rfl, by go_num, Lib.hid (HEN.out _ HV.out _ (by first | exact Mods.refl _ _ | exact (Mods.refl _ _).drew) _ HO'.out)⟩, by simp [intOf]; omega⟩
        · have g8 : (x.code == 8) = false := by simpa using h8
          have hv : (on2 && !(x.code == 4 || x.code == 8)) = on2 := by rw [g4, g8]; simp
          have HV := Lib.hid hv
          clear h4 h8 hv
          go_wp2_with fail
          exact ⟨⟨i + 1, on2, l', by omega, rfl, by go_num, Lib.hid (HEN.out _ HV.out _ (by first | exact Mods.refl _ _ | exact (Mods.refl _ _).drew) _ HO'.out)⟩, by simp [intOf]; omega⟩
    · obtain rfl : i = sn := by omega
      have hpi : ¬ (i : Int) < (i : Int) := by omega
      have hl : l = onS true F.steps := by
        have h := HS.out.run
        rw [HSN.out, List.drop_length] at h
        simpa [onS] using h
      have HL := Lib.hid hl
      have hln := HS.out.len
      obtain ⟨ln, hlen⟩ : ∃ ln, ln = l.length := ⟨_, rfl⟩
      have HLN := Lib.hid hlen
      have hl6 : (ln : Int) ≤ 6000 := by omega
      have hsrc := (HS.out.outs.at_).mods (T := fun k => S k ∨ (W.heap.size ≤ k ∧ k < W.heap.size + 2) ∨ w4.heap.size ≤ k) (Mods.refl _ _) (fun k hk h => by
        rcases h with h | h | h
        · exact Or.inl h
        · exact Or.inr h
        · omega)
      rw [← hlen]
      rw [← hlen] at hsrc
      have HJ : Hid (JmSt W w4 S [.string ⟨F.name.toArray⟩, .int .i64 F.params, .slice ta tn tc, .slice sa i sc] (.slice oa ln oc) l 0 (.slice none 0 0) [] w4) := Lib.hid
        ⟨rfl, hsrc, Outs.none_ _ _ _, HS.out.mods, HS.out.b0, HS.out.b1, Nat.zero_le _, Nat.le_refl _⟩
      clear hl hln hlen hsrc HS hlt
      go_wp2_with fail
      clear hpi
      obtain ⟨ws, hws⟩ : ∃ ws, ws = w4 := ⟨_, rfl⟩
      have HJ : Hid (JmSt W ws S [.string ⟨F.name.toArray⟩, .int .i64 F.params, .slice ta tn tc, .slice sa i sc] (.slice oa ln oc) l 0 (.slice none 0 0) [] w4) := by rw [hws]; exact HJ
      have WSZ : Hid (W.heap.size + 2 ≤ ws.heap.size) := Lib.hid (by have := HJ.out.b1.lt; rw [hws]; omega)
      clear hws
      go_loopw [7, 42] (fun ov iv wr => ∃ j l2, j ≤ ln ∧ iv = .int .i64 ((j : Nat) : Int) ∧ Hid (JmSt W ws S [.string ⟨F.name.toArray⟩, .int .i64 F.params, .slice ta tn tc, .slice sa i sc] (.slice oa ln oc) l j ov l2 wr)) (fun _ iv _ => (ln - intOf iv).toNat)
      case atStart => exact ⟨0, [], Nat.zero_le _, rfl, HJ⟩
      case round =>
        clear HJ
        obtain ⟨w5, rfl⟩ : ∃ w5 : World, w5 = wr := ⟨_, rfl⟩
        obtain ⟨j, l2, hj, rfl, HJ⟩ := hrel
        obtain ⟨na, nc, rfl⟩ := HJ.out.outs.form
        by_cases hlt : j < ln
        · have hjl : j < l.length := by rw [← HLN.out]; exact hlt
          obtain ⟨x, hxi⟩ : ∃ x, l[j]? = some x := ⟨_, List.getElem?_eq_getElem hjl⟩
          have hxe : l[j] = x := by
            obtain ⟨h1, h2⟩ := List.getElem?_eq_some_iff.1 hxi
            exact h2
          have hxm : x ∈ l := List.mem_of_getElem? hxi
          have hdrop : l.drop j = x :: l.drop (j + 1) := by
            rw [← hxe]
            exact List.drop_eq_getElem_cons hjl
          have hsl := HJ.out.src
          rw [HLN.out] at hsl
          obtain ⟨gs, os, xa, xc, hoe, hcs, hxargs⟩ := hsl.get hjl
          subst hoe
          rw [hxe] at hcs hxargs
          obtain ⟨y0, y1, y2, y3, y4, y5, y6, y7, y8, y9⟩ := hcs
          have hpi : (j : Int) < (ln : Int) := by omega
          have HXA := Lib.hid hxargs
          obtain ⟨xn, hxn⟩ : ∃ xn, xn = x.args.length := ⟨_, rfl⟩
          rw [← hxn] at y9
          obtain ⟨W6, hW6⟩ : ∃ W6, W6 = w5.alloc (.cells (stpL x (.slice xa xn xc)).toArray 44) := ⟨_, rfl⟩
          have hm6 : Mods None w5 W6 := by rw [hW6]; exact (Mods.refl _ _).alloc _
          have hb6 : Blk W6 w5.heap.size (stpL x (.slice xa xn xc)) 44 := by rw [hW6]; exact Blk.new w5 _ _
          have HB6 := Lib.hid hb6
          have HM6 := Lib.hid hm6
          have HX := Lib.hid (And.intro hxm (And.intro hdrop (And.intro hxn hjl)))
          have HLT := Lib.hid hlt
          clear hxi hxe hxm hdrop hxargs hm6 hxn hjl hsl
          unfold stpL str at *
          go_upto_region 16 with (fail)
          rw [← hW6]
          clear hW6 y0 y1 y2 y3 y4 y5 y6 y7 y8 y9
          have e0 := hb6.cell (i := 0) rfl
          have e7 := hb6.cell (i := 7) rfl
          clear hb6
          obtain ⟨cc, hcc⟩ : ∃ b, b = skipB x (l.drop (j + 1)) := ⟨_, rfl⟩
          have HCC := Lib.hid hcc
          clear hcc
          go_cut [76] (fun cv w => cv = .bool cc ∧ Hid (Mods None W6 w))
          case first =>
            by_cases h4 : x.code = 4
            · have g4 : (x.code == 4) = true := by simpa using h4
              have hj6 : j < 6000 := by omega
              by_cases h1 : j + 1 < ln
              · have hp1 : (j : Int) + 1 < (ln : Int) := by omega
                have hjl : j + 1 < l.length := by rw [← HLN.out]; exact h1
                obtain ⟨y, hy⟩ : ∃ y, l[j + 1]? = some y := ⟨_, List.getElem?_eq_getElem hjl⟩
                have hye : l[j + 1] = y := (List.getElem?_eq_some_iff.1 hy).2
                have hdy : l.drop (j + 1) = y :: l.drop (j + 1 + 1) := by
                  rw [← hye]
                  exact List.drop_eq_getElem_cons hjl
                have hsl := HJ.out.src
                rw [HLN.out] at hsl
                obtain ⟨gs', os', ya, yc, hoe, hcs, -⟩ := (hsl.mods (T := fun k => S k ∨ (W.heap.size ≤ k ∧ k < W.heap.size + 2) ∨ ws.heap.size ≤ k) (HM6.out.mono fun _ _ f => f.elim) (fun _ _ k => k)).get hjl
                cases hoe
                rw [hye] at hcs
                obtain ⟨z0, -, -, -, -, -, -, z7, -, -⟩ := hcs
                have hce := HCC.out
                rw [hdy] at hce
                unfold skipB at hce
                have hce2 : cc = (y.code == 6 && y.label == x.label) := by rw [hce, g4]; rfl
                have HC2 := Lib.hid hce2
                clear hce hce2 hdy hye hy hjl hsl h1 h4
                cases g6 : (y.code == 6) with
                | false =>
                  have e : cc = false := by rw [HC2.out, g6]; rfl
                  subst e
                  go_region
                  all_goals
                    go_wp2_with fail
                    go_meet
                    case rel => exact ⟨rfl, Lib.hid (by first | exact Mods.refl _ _ | exact (Mods.refl _ _).drew)⟩
                | true =>
                  have e : cc = (y.label == x.label) := by rw [HC2.out, g6]; rfl
                  subst e
                  go_region
                  all_goals
                    go_wp2_with fail
                    go_meet
                    case rel => exact ⟨rfl, Lib.hid (by first | exact Mods.refl _ _ | exact (Mods.refl _ _).drew)⟩
              · have hp1 : ¬ (j : Int) + 1 < (ln : Int) := by omega
                have hle : l.length ≤ j + 1 := by rw [← HLN.out]; omega
                have e : cc = false := by rw [HCC.out, List.drop_eq_nil_of_le hle]; rfl
                subst e
                clear hle h1 h4
                go_region
                all_goals
                  go_wp2_with fail
                  go_meet
                  case rel => exact ⟨rfl, Lib.hid (by first | exact Mods.refl _ _ | exact (Mods.refl _ _).drew)⟩
            · have g4 : (x.code == 4) = false := by simpa using h4
              have e : cc = false := by
                rw [HCC.out]
                cases l.drop (j + 1) with
                | nil => rfl
                | cons t r => unfold skipB; rw [g4]; rfl
              subst e
              go_region
              all_goals
                go_wp2_with fail
                go_meet
                case rel => exact ⟨rfl, Lib.hid (by first | exact Mods.refl _ _ | exact (Mods.refl _ _).drew)⟩
          case rest =>
          obtain ⟨w7, rfl⟩ : ∃ w7 : World, w7 = wc := ⟨_, rfl⟩
          obtain ⟨rfl, HM7⟩ := hcut
          have HM57 := Lib.hid (HM6.out.trans HM7.out)
          have hrun := HJ.out.run
          rw [HX.out.2.1, jumpS_cons, ← HCC.out] at hrun
          have HRN := Lib.hid hrun
          clear hrun e0 e7
          cases cc with
          | true =>
            go_wp2_with fail
            refine ⟨⟨j + 1, l2, by omega, by go_num, Lib.hid ?_⟩, by simp [intOf]; omega⟩
            have hrun := HRN.out
            rw [if_pos rfl, List.nil_append] at hrun
            exact ⟨hrun, HJ.out.src.mods (HM57.out.mono fun _ _ f => f.elim) (fun _ _ k => k), HJ.out.outs.mods HM57.out (fun _ f => f.elim), HJ.out.mods.trans HM57.out, HJ.out.b0.mods HM57.out (fun f => f), HJ.out.b1.mods HM57.out (fun f => f), by have := HJ.out.len; omega, by have h1 := HJ.out.size; have h2 := HM57.out.size; omega⟩
          | false =>
            obtain ⟨cs, hcs1, hcs2, hcs3⟩ := HJ.out.outs.mods HM57.out (fun _ f => f.elim)
            have hbx : Blk w7 w5.heap.size (stpL x (.slice xa xn xc)) 44 := HB6.out.mods HM7.out (fun f => f)
            have e0 := hbx.cell (i := 0) rfl
            have e1 := hbx.cell (i := 1) rfl
            have e2 := hbx.cell (i := 2) rfl
            have e3 := hbx.cell (i := 3) rfl
            have e4 := hbx.cell (i := 4) rfl
            have e5 := hbx.cell (i := 5) rfl
            have e6 := hbx.cell (i := 6) rfl
            have e7 := hbx.cell (i := 7) rfl
            have e8 := hbx.cell (i := 8) rfl
            have e9 := hbx.cell (i := 9) rfl
            obtain ⟨i0, hi0, hz0, hz1, hz2⟩ := info_parts stp_info
            have HI := Lib.hid (And.intro hi0 (And.intro hz0 (And.intro hz1 hz2)))
            obtain ⟨mn, hmn⟩ : ∃ mn, mn = l2.length := ⟨_, rfl⟩
            have HMN := Lib.hid hmn
            rw [← hmn] at hcs1 hcs2 hcs3 ⊢
            have HMA : Hid (Mods None w7 (w7.alloc (.cells (stpL x (.slice xa xn xc)).toArray 44))) := Lib.hid ((Mods.refl _ _).alloc _)
            have HOA := Lib.hid (HMA.out.ownsRow hcs1 (fun k hk f => f))
            have HRA := Lib.hid (RelS.mods hcs2 (HMA.out.mono fun _ _ f => f.elim) (fun _ _ k => k))
            have HCS3 := Lib.hid hcs3
            have HOL := Lib.hid hcs1.lt
            have HXZ : Hid (IntsAt (w7.alloc (.cells (stpL x (.slice xa xn xc)).toArray 44)) (fun k => S k ∨ (W.heap.size ≤ k ∧ k < W.heap.size + 2) ∨ ws.heap.size ≤ k) (.slice xa xn xc) x.args) := Lib.hid (by
              have h := HXA.out.mods (T := fun k => S k ∨ (W.heap.size ≤ k ∧ k < W.heap.size + 2) ∨ ws.heap.size ≤ k) ((HM57.out.trans HMA.out).mono fun _ _ f => f.elim) (fun _ _ k => k)
              rw [← HX.out.2.2.1] at h
              exact h)
            have HLE : Hid (mn ≤ 6000) := Lib.hid (by have := HJ.out.len; have := HMN.out; omega)
            have HWS : Hid (W.heap.size + 2 ≤ w7.heap.size) := Lib.hid (by have h1 := HJ.out.b1.lt; have h2 := HM57.out.size; omega)
            have HBS : Hid (ws.heap.size ≤ (w7.alloc (.cells (stpL x (.slice xa xn xc)).toArray 44)).heap.size) := Lib.hid (by have h1 := HJ.out.size; have h2 := HM57.out.size; have h5 := HMA.out.size; omega)
            have hnew := Lib.hid (row_new w7 (stpL x (.slice xa xn xc)) 44)
            have hone := Lib.hid (stp_one x xa xn xc)
            clear hcs1 hcs2 hcs3 hbx hi0 hz0 hz1 hz2 hmn
            unfold stpL str at hnew hone HMA HOA HBS HRA HXZ
            go_wp2_with (at_builtin; refine wpList_append_own_at _ rfl _ _ 33 rfl ws.heap.size 44 i0 _ 10 112 Tryd.underlying33 HI.out.1 HI.out.2.1 HI.out.2.2.1 HI.out.2.2.2 rfl (by decide) (.slice na mn nc) mn cs rfl HOA.out ⟨w7.heap.size, 0, none⟩ 1 1 [.int .i64 x.code, .int .i64 x.dst, .int .i64 x.a, .int .i64 x.b, .int .i64 x.c, .int .i64 x.n, .string ⟨x.op.toArray⟩, .int .i64 x.label, .string ⟨x.name.toArray⟩, .slice xa xn xc] rfl rfl hnew.out hone.out (by have := HLE.out; unfold maxLen; omega) (by have := HLE.out; omega) HBS.out ?_; intro v' w11 hown hgrow hnil hloc; have HOW := Lib.hid hown; have HGR := Lib.hid (And.intro hgrow hloc); clear hown hgrow hnil hloc; refine Hid.out ?_)
            refine Lib.hid ?_
            obtain ⟨qa, qc, rfl⟩ := slice_form HOW.out
            go_wp2_with fail
            refine ⟨⟨j + 1, l2 ++ [x], by omega, by go_num, Lib.hid ?_⟩, by simp [intOf]; omega⟩
            have hrun := HRN.out
            rw [if_neg (by simp)] at hrun
            have hHA := HMA.out
            have hHO := HOA.out
            have hHR := HRA.out
            have hHX := HXZ.out
            obtain ⟨w12, hw12⟩ : ∃ w12, w12 = w7.alloc (.cells #[.int .i64 x.code, .int .i64 x.dst, .int .i64 x.a, .int .i64 x.b, .int .i64 x.c, .int .i64 x.n, .string ⟨x.op.toArray⟩, .int .i64 x.label, .string ⟨x.name.toArray⟩, .slice xa xn xc] 44) := ⟨_, rfl⟩
            have hHA : Mods None w7 w12 := by rw [hw12]; exact hHA
            have hHO : w12.ownsRow ws.heap.size 44 10 (.slice na mn nc) mn cs := by rw [hw12]; exact hHO
            have hHR : RelS w12 (fun k => (S k ∨ (W.heap.size ≤ k ∧ k < W.heap.size + 2)) ∨ (Value.slice na mn nc).ownBlock = some k) cs l2 := by rw [hw12]; exact hHR
            have hHX : IntsAt w12 (fun k => S k ∨ (W.heap.size ≤ k ∧ k < W.heap.size + 2) ∨ ws.heap.size ≤ k) (.slice xa xn xc) x.args := by rw [hw12]; exact hHX
            have hgr : w12.grownBy w11 (Value.slice na mn nc).ownBlock := by rw [hw12]; exact HGR.out.1
            have hlc : (Value.slice qa (mn + 1) qc).ownBlock = (Value.slice na mn nc).ownBlock ∨ (Value.slice qa (mn + 1) qc).ownBlock = some w12.heap.size := by rw [hw12]; exact HGR.out.2
            have how := HOW.out
            clear hw12
            have hsz : w7.heap.size ≤ w12.heap.size := hHA.size
            have hWS := HWS.out
            have hmo : Mods (fun k => (Value.slice na mn nc).ownBlock = some k) w12 w11 := Mods.of_grownBy hgr (fun k hk _ => hk)
            have hno : ∀ k, (Value.slice na mn nc).ownBlock = some k → ws.heap.size ≤ k ∧ W.heap.size + 2 ≤ k ∧ k ≠ w5.heap.size := fun k hk => by
              have h1 := HCS3.out k hk
              have h2 := (HOL.out k hk).1
              have h3 := WSZ.out
              refine ⟨h2, by omega, ?_⟩
              obtain ⟨cs0, h0, _⟩ := HJ.out.outs
              have h1 := (h0.lt k (by rw [← HMN.out]; exact hk)).2
              omega
            have hW12 : Mods None W w12 := (HJ.out.mods.trans HM57.out).trans hHA
            have hW11 : Mods None W w11 := hW12.trans' hmo (fun k hk hl => by have := hno k hk; omega)
            refine ⟨?_, ?_, ?_, hW11, ?_, ?_, ?_, ?_⟩
            · rw [List.append_assoc]
              exact hrun
            · refine (HJ.out.src.mods ((HM57.out.trans hHA).mono fun _ _ f => f.elim) (fun _ _ k => k)).mods (hmo.mono fun k _ hk => Or.inr (Or.inr (hno k hk).1)) (fun _ _ k => k)
            · refine outs_grow (w4 := w12) (cs := cs) (S1 := fun k => S k ∨ (W.heap.size ≤ k ∧ k < W.heap.size + 2) ∨ ws.heap.size ≤ k) (av := .slice xa xn xc) ?_ hHR HCS3.out hHX ?_ ?_ ?_ hgr hlc
              · rw [← HMN.out]; exact hHO
              · intro k hk
                rcases hk with (hk | hk) | hk
                · exact Or.inl hk
                · exact Or.inr (Or.inl hk)
                · exact Or.inr (Or.inr (hno k hk).1)
              · intro k hk
                rcases hk with hk | hk
                · have := HH.out.1 k hk
                  omega
                · omega
              · rw [← HMN.out]; exact how
            · exact ((HJ.out.b0.mods HM57.out (fun f => f)).mods hHA (fun f => f)).mods hmo (fun e => by have := hno _ e; omega)
            · exact ((HJ.out.b1.mods HM57.out (fun f => f)).mods hHA (fun f => f)).mods hmo (fun e => by have := hno _ e; omega)
            · have := HJ.out.len
              rw [List.length_append, List.length_singleton]
              omega
            · have h1 := HJ.out.size
              have h2 := HM57.out.size
              have h3 := hmo.size
              omega
        · obtain rfl : j = ln := by omega
          have hpi : ¬ (j : Int) < (j : Int) := by omega
          have hl2 : l2 = jumpS l := by
            have h := HJ.out.run
            rw [HLN.out, List.drop_length] at h
            simpa [jumpS] using h
          have HL2 := Lib.hid hl2
          have hml : l2.length ≤ 6000 := by have := HJ.out.len; omega
          obtain ⟨mn, hmn⟩ : ∃ mn, mn = l2.length := ⟨_, rfl⟩
          have HMN := Lib.hid hmn
          rw [← hmn] at hml ⊢
          have hm6 : (mn : Int) ≤ 6000 := by omega
          have hmk := mk_ints
          clear hl2 hmn hlt
          go_upto_region 20 with (fail)
          obtain ⟨W8, hW8⟩ : ∃ W8, W8 = ((w5.alloc (.map #[] 0)).alloc (.cells #[.map (some w5.heap.size)] 97)) := ⟨_, rfl⟩
          have HM8 : Hid (Mods None w5 W8) := Lib.hid (by rw [hW8]; exact ((Mods.refl _ _).alloc _).alloc _)
          have HMP : Hid (IntMap W8 w5.heap.size 0 (.bool false) (fun x => .bool (usedB (l2.take 0) x))) := Lib.hid (by
            rw [hW8]
            exact (IntMap.new w5 _).mods ((Mods.refl None _).alloc _) (fun f => f))
          have HQ : Hid (W8.cell? ⟨w5.heap.size + 1, 0, none⟩ = some (.map (some w5.heap.size))) := Lib.hid (by
            rw [hW8]
            have := Blk.new (w5.alloc (.map #[] 0)) #[.map (some w5.heap.size)] 97
            exact Blk.cell (i := 0) (by simpa using this) rfl)
          have HALL := Lib.hid (fun (w : World) (hm : Mods (fun k => ¬ k < w5.heap.size) w5 w) => ((HJ.out.outs.at_).mods (T := fun k => ¬ k < w5.heap.size) (Mods.refl _ w5) (fun k h1 h2 => (h2 h1).elim)).mods hm (fun k h1 h2 => h2.elim) (T := None))
          rw [← HMN.out] at HALL
          obtain ⟨bm, hbm⟩ : ∃ bm, bm = w5.heap.size := ⟨_, rfl⟩
          have HBM := Lib.hid hbm
          rw [← hbm] at HMP HQ
          rw [← hW8, ← hbm]
          clear hW8 hbm hmk hpi
          go_wp2_with fail
          go_loopw [85] (fun iv wr => ∃ i n : Nat, i ≤ mn ∧ iv = .int .i64 (i : Int) ∧ n ≤ i ∧ Hid (IntMap wr bm n (.bool false) (fun x => .bool (usedB (l2.take i) x))) ∧ Hid (Mods (· = bm) W8 wr)) (fun iv _ => (mn - intOf iv).toNat)
          case atStart => exact ⟨0, 0, Nat.zero_le _, rfl, Nat.le_refl _, HMP, Lib.hid (Mods.refl _ _)⟩
          case round =>
            clear HMP
            obtain ⟨wx, rfl⟩ : ∃ wx : World, wx = wr := ⟨_, rfl⟩
            obtain ⟨k, n, hk, rfl, hn, HMP, HMX⟩ := hrel
            by_cases hlt : k < mn
            · have hkl : k < l2.length := by rw [← HMN.out]; exact hlt
              obtain ⟨x, hxi⟩ : ∃ x, l2[k]? = some x := ⟨_, List.getElem?_eq_getElem hkl⟩
              have hxe : l2[k] = x := (List.getElem?_eq_some_iff.1 hxi).2
              have hmr : Mods (fun k => ¬ k < w5.heap.size) w5 wx := (HM8.out.mono fun _ _ f => f.elim).trans (HMX.out.mono fun k _ e => by have := HBM.out; omega)
              have hsl := HALL.out wx hmr
              rw [HMN.out] at hsl
              obtain ⟨gs, os, xa, xc, hoe, hcs, -⟩ := hsl.get hkl
              subst hoe
              rw [hxe] at hcs
              obtain ⟨y0, y1, y2, y3, y4, y5, y6, y7, y8, y9⟩ := hcs
              have hxl : I64 x.label := HH.out.2.1 x (onS_mem true _ x (by rw [← HL.out]; exact jumpS_mem _ x (by rw [← HL2.out]; exact List.mem_of_getElem? hxi)))
              have hpi : (k : Int) < (mn : Int) := by omega
              have hk6 : k < 6000 := by omega
              obtain ⟨xn, hxn⟩ : ∃ xn, xn = x.args.length := ⟨_, rfl⟩
              rw [← hxn] at y9
              obtain ⟨W9, hW9⟩ : ∃ W9, W9 = wx.alloc (.cells (stpL x (.slice xa xn xc)).toArray 44) := ⟨_, rfl⟩
              have hm9 : Mods None wx W9 := by rw [hW9]; exact (Mods.refl _ _).alloc _
              have hb9 : Blk W9 wx.heap.size (stpL x (.slice xa xn xc)) 44 := by rw [hW9]; exact Blk.new wx _ _
              have HX9 : Hid (Mods (· = bm) W8 W9) := Lib.hid (HMX.out.trans (hm9.mono fun _ _ f => f.elim))
              have cq : W9.cell? ⟨bm + 1, 0, none⟩ = some (.map (some bm)) := HX9.out.cellOf HQ.out (by show ¬ bm + 1 = bm; omega)
              obtain ⟨w10, hu, hmp10, hm10⟩ := (HMP.out.mods hm9 (fun f => f)).put (t := 97) Tryd.underlying97 hxl (.bool true) (by unfold maxLen; omega)
              have HM10 : Hid (Mods (· = bm) W8 w10) := Lib.hid (HX9.out.trans hm10)
              have HTK : Hid (∀ y, usedB (l2.take (k + 1)) y = (usedB (l2.take k) y || ((x.code == 4 || x.code == 5) && x.label == y))) := Lib.hid (fun y => by
                rw [List.take_add_one, hxi]
                exact usedB_more _ _ _)
              have e0 := hb9.cell (i := 0) rfl
              have e7 := hb9.cell (i := 7) rfl
              have hmpx := HMP.out.mods hm9 (fun f => f)
              have HMP9 := Lib.hid hmpx
              have HMP10 := Lib.hid hmp10
              clear hxi hxe hmr hsl hkl hxn hm9 hb9 hmp10 hm10 hmpx hxl HMP
              unfold stpL str at *
              go_upto_region 23 with (fail)
              rw [← hW9]
              clear hW9 y0 y1 y2 y3 y4 y5 y6 y7 y8 y9
              have hmore : (x.code == 4 || x.code == 5) = true → ∀ w, Mods None w10 w → ∃ i n : Nat, i ≤ mn ∧ (Value.int .i64 ((k : Int) + 1)) = .int .i64 (i : Int) ∧ n ≤ i ∧ Hid (IntMap w bm n (.bool false) (fun x => .bool (usedB (l2.take i) x))) ∧ Hid (Mods (· = bm) W8 w) := fun hc w hm => by
                refine ⟨k + 1, n + 1, by omega, by go_num, by omega, Lib.hid ?_, Lib.hid (HM10.out.trans (hm.mono fun _ _ f => f.elim))⟩
                have e : (fun y => if y = x.label then Value.bool true else Value.bool (usedB (l2.take k) y)) = (fun y => Value.bool (usedB (l2.take (k + 1)) y)) := by
                  funext y
                  rw [HTK.out y, hc]
                  by_cases h : y = x.label
                  · rw [if_pos h, h]; simp
                  · rw [if_neg h]
                    have : (x.label == y) = false := by simpa using fun e => h e.symm
                    rw [this]; simp
                rw [← e]
                exact HMP10.out.mods hm (fun f => f)
              have hless : (x.code == 4 || x.code == 5) = false → ∀ w, Mods None W9 w → ∃ i n : Nat, i ≤ mn ∧ (Value.int .i64 ((k : Int) + 1)) = .int .i64 (i : Int) ∧ n ≤ i ∧ Hid (IntMap w bm n (.bool false) (fun x => .bool (usedB (l2.take i) x))) ∧ Hid (Mods (· = bm) W8 w) := fun hc w hm => by
                refine ⟨k + 1, n, by omega, by go_num, by omega, Lib.hid ?_, Lib.hid (HX9.out.trans (hm.mono fun _ _ f => f.elim))⟩
                have e : (fun y => Value.bool (usedB (l2.take (k + 1)) y)) = (fun y => Value.bool (usedB (l2.take k) y)) := by
                  funext y
                  rw [HTK.out y, hc]
                  simp
                rw [e]
                exact HMP9.out.mods hm (fun f => f)
              have HMO := Lib.hid hmore
              have HLS := Lib.hid hless
              clear hmore hless
              by_cases h4 : x.code = 4
              · have g4 : (x.code == 4) = true := by simpa using h4
                have HC := Lib.hid (show (x.code == 4 || x.code == 5) = true by rw [g4]; rfl)
                clear h4
                go_wp2_with fail
                exact ⟨HMO.out HC.out _ (by first | exact Mods.refl _ _ | exact (Mods.refl _ _).drew), by simp [intOf]; omega⟩
              · have g4 : (x.code == 4) = false := by simpa using h4
                by_cases h5 : x.code = 5
                · have g5 : (x.code == 5) = true := by simpa using h5
                  have HC := Lib.hid (show (x.code == 4 || x.code == 5) = true by rw [g5]; simp)
                  clear h4 h5
                  go_wp2_with fail
                  exact ⟨HMO.out HC.out _ (by first | exact Mods.refl _ _ | exact (Mods.refl _ _).drew), by simp [intOf]; omega⟩
                · have g5 : (x.code == 5) = false := by simpa using h5
                  have HC := Lib.hid (show (x.code == 4 || x.code == 5) = false by rw [g4, g5]; rfl)
                  clear h4 h5
                  go_wp2_with fail
                  exact ⟨HLS.out HC.out _ (by first | exact Mods.refl _ _ | exact (Mods.refl _ _).drew), by simp [intOf]; omega⟩
            · obtain rfl : k = mn := by omega
              have hpi : ¬ (k : Int) < (k : Int) := by omega
              have hMX : Mods (fun j => j = bm) w5 wx := (HM8.out.mono fun _ _ f => f.elim).trans HMX.out
              have hlo : W.heap.size + 2 ≤ w5.heap.size := by have := HJ.out.size; have := WSZ.out; omega
              have hbw : bm = w5.heap.size := HBM.out
              have hox := HJ.out.outs
              have hNX : Mods None w5 wx := (Mods.trans' (S := None) HM8.out HMX.out (fun i hi hl => by omega))
              have hmf : IntMap wx bm n (.bool false) (fun x => .bool (usedB l2 x)) := by
                have := HMP.out
                rwa [List.take_of_length_le (by have := HMN.out; omega)] at this
              have hap : ∀ j, (Value.slice na k nc).ownBlock = some j → j ≠ bm + 1 ∧ j ≠ bm ∧ j < w5.heap.size ∧ ws.heap.size ≤ j := fun j hj => by
                obtain ⟨cs0, h0, _⟩ := hox
                have h1 := (h0.lt j (by rw [← HMN.out]; exact hj))
                omega
              have hcq : wx.cell? ⟨bm + 1, 0, none⟩ = some (.map (some bm)) := HMX.out.cellOf HQ.out (by show ¬ bm + 1 = bm; omega)
              have hlb : ∀ s ∈ l2, I64 s.label := fun s hs => HH.out.2.1 s (onS_mem true _ s (by rw [← HL.out]; exact jumpS_mem _ s (by rw [← HL2.out]; exact hs)))
              have hdel := deletef_any (hox.mods hNX (fun _ f => f.elim)) hlb hcq hmf (fun j hj => by
                rw [← HMN.out] at hj
                have := hap j hj
                exact ⟨this.1, this.2.1⟩) (by rw [← HMN.out]; exact hml)
              rw [← HMN.out] at hdel
              have HDL := Lib.hid hdel
              have HEX := Lib.hid (And.intro hNX (And.intro hap (And.intro (HJ.out.b0.mods hNX (fun f => f)) (And.intro (HJ.out.b1.mods hNX (fun f => f)) (HJ.out.mods.trans hNX)))))
              clear hMX hlo hbw hox hNX hmf hap hcq hlb hdel
              go_wp2_with fail
              go_at_call 57
              refine HDL.out.mono ?_
              rintro e w11 ⟨da, dc, rfl, hst, hmd⟩
              obtain ⟨hNX, hap, hb0, hb1, hWX⟩ := HEX.out
              have hb0 := hb0.mods hmd (fun e => by have := hap _ e; have := WSZ.out; omega)
              have hb1 := hb1.mods hmd (fun e => by have := hap _ e; have := WSZ.out; omega)
              have hW11 : Mods None W w11 := hWX.trans' hmd (fun j hj hl => by have := hap _ hj; have := WSZ.out; omega)
              obtain ⟨on_, hon_⟩ : ∃ on_, on_ = (l2.filter (fun s => !spareB l2 s)).length := ⟨_, rfl⟩
              have HON := Lib.hid hon_
              rw [← hon_] at hst ⊢
              have HST2 := Lib.hid hst
              have HB := Lib.hid (And.intro hb0 (And.intro hb1 hW11))
              have g0 := hb0.cell (i := 0) rfl
              have g1 := hb0.cell (i := 1) rfl
              have g2 := hb0.cell (i := 2) rfl
              have g3 := hb0.cell (i := 3) rfl
              have z3 := hb0.free 3
              have q0 := hb1.cell (i := 0) rfl
              have q1 := hb1.cell (i := 1) rfl
              have q2 := hb1.cell (i := 2) rfl
              have q3 := hb1.cell (i := 3) rfl
              have f0 := hb1.free 0
              have f1 := hb1.free 1
              have f2 := hb1.free 2
              have f3 := hb1.free 3
              clear hNX hap hb0 hb1 hWX hmd hW11 hon_ hst HDL HEX HMP
              go_wp2_with fail
              clear g0 g1 g2 g3 z3 q0 q1 q2 q3 f0 f1 f2 f3 hpi
              obtain ⟨hB, hm⟩ := fn_end HB.out.1 HB.out.2.1 (.slice da on_ dc)
              have hl : l2.filter (fun s => !spareB l2 s) = reachedS F.steps := by
                unfold reachedS
                rw [← HL.out, ← HL2.out]
              have hmw : Mods None W (((((w11.setCell ⟨W.heap.size, 3, none⟩ (.slice da on_ dc)).setCell ⟨W.heap.size + 1, 0, none⟩ (.string ⟨F.name.toArray⟩)).setCell ⟨W.heap.size + 1, 1, none⟩ (.int .i64 F.params)).setCell ⟨W.heap.size + 1, 2, none⟩ (.slice ta tn tc)).setCell ⟨W.heap.size + 1, 3, none⟩ (.slice da on_ dc)) := HB.out.2.2.trans' hm (fun k hk hl => by omega)
              have hst := HST2.out.mods (T := S) (hm.mono fun k _ hk => Or.inr ⟨by omega, by omega⟩) (fun k _ hk => Or.inl hk)
              refine bodyPost_ret (v := .agg #[.string ⟨F.name.toArray⟩, .int .i64 F.params, .slice ta tn tc, .slice da on_ dc]) (results_cell_row (P := Tryd.prog) Tryd.results38 _ _ (W.heap.size + 1) 35 _ (0, 0) _ rfl hB Tryd.underlying35 rfl (by kernel_rfl)) rfl ?_
              have hon2 := HON.out
              rw [hl] at hst hon2
              exact reached_fin hmw HTY.out hst hon2 HTN.out
end Go.Proofs.YtoajcbfejplfbaaDoor.MidP

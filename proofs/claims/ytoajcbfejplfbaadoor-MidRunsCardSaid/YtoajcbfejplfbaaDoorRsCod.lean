/- The document's steps: a call of a function of steps, walked. Conditions: what it has lies; the functions are right. -/
import Derived.Test.YtoajcbfejplfbaaDoorRsCo
namespace Go.Proofs.YtoajcbfejplfbaaDoor.MidP.R
open Go.RowKit Go.Proofs.YtoajcbfejplfbaaDoor.Wo Go.Maps Go.Proofs.YtoajcbfejplfbaaDoor.TreeP Go.Proofs.YtoajcbfejplfbaaDoor.MidP
set_option linter.unusedVariables false
set_option linter.unusedSimpArgs false
/-- It has ended; the call's frame. -/
structure CoEnd (W : World) (P M : Nat → Prop) (b q4 : Nat) (r : Except Sig Int × RS) (wr : World) : Prop where
  has : ∃ k s' M', r = (.error (.stop k), s') ∧ WEnd wr b P M' k s'.out ∧ Ext None M M' W wr
  wbx : wr.cell? ⟨q4, 0, none⟩ = some (.pointer (some ⟨b, 0, none⟩))
/-- What makes the rounds fewer. -/
def left (b : Nat) (w : World) : Nat := if intOf ((w.cell? ⟨b, 4, none⟩).getD (.int .i64 0)) = 0 then (intOf ((w.cell? ⟨b, 2, none⟩).getD (.int .i64 0))).toNat + 1 else 0
theorem left_alive {W : World} {b : Nat} {P M : Nat → Prop} {A : List (Nat × Nat)} {s : RS} (h : WAt W b P M A s) : left b W = s.fuel + 1 := by
  obtain ⟨av, iv, k, ov, hb, ⟨hk, -⟩, -⟩ := h.blk
  unfold left
  rw [hb.cell (i := 4) rfl, hb.cell (i := 2) rfl]
  simp [intOf, hk]
theorem left_dead {W : World} {b : Nat} {P M : Nat → Prop} {way : Int} {out : List Int} (h : WEnd W b P M way out) : left b W = 0 := by
  have hw := h.way
  obtain ⟨av, iv, k, c, ov, m, r, hb, -⟩ := h.blk
  unfold left
  rw [hb.cell (i := 4) rfl]
  have : ¬ way = 0 := by omega
  simp [intOf, this]
set_option maxRecDepth 100000 in
set_option maxHeartbeats 4000000 in
theorem cd_any {L : List Fm} (hL : RcNums L) {f : Nat} (ih : ∀ k, k ≤ f → CdC L k) : CdC L (f + 1) := by
  intro g vs b base P M A s la ln lc W lv r h hfm hrs hvs hgl hfn hfew hr
  obtain ⟨F, hF, hvl, hvt⟩ := hfn
  have hFm : F ∈ L := List.mem_of_find?_eq_some hF
  have hget : fmGet L g = F := by unfold fmGet; rw [hF]; rfl
  simp only [callM, hget] at hr
  by_cases h40 : s.calls = 40
  · rw [if_pos h40] at hr
    obtain rfl := (Option.some.inj hr).symm
    obtain ⟨W1, hW1⟩ : ∃ W1, W1 = W.alloc (.cells #[.pointer (some ⟨b, 0, none⟩)] 83) := ⟨_, rfl⟩
    have hm1 : Mods None W W1 := by rw [hW1]; exact (Mods.refl _ _).alloc _
    have q0 : W1.cell? ⟨W.heap.size, 0, none⟩ = some (.pointer (some ⟨b, 0, none⟩)) := by rw [hW1]; exact (Blk.new W _ _).cell (i := 0) rfl
    have HC := Lib.hid (enter_no None b P M A s W1 (h.quiet hm1) h40)
    have HM1 := Lib.hid hm1
    clear h hfm hrs hvs hfew hr hF hvl hvt hFm hget ih hm1 h40
    unfold str
    go_enter_defers Tryd.func36, Tryd.ntmps36
    go_upto_region 1 with (fail)
    rw [← hW1]
    clear hW1
    go_wp2_with fail
    go_at_call 53
    refine HC.out.mono ?_
    rintro e w ⟨rfl, k1, k2⟩
    have K1 := Lib.hid (And.intro k1 k2)
    clear k1 k2
    go_wp2_with fail
    try unfold bodyPostD
    try simp only
    unfold Leaves
    exact ⟨_, results_tmp rfl _ _ _, 0, M, rfl, K1.out.1, (Ext.quiet (T := None) HM1.out).trans K1.out.2⟩
  rw [if_neg h40] at hr
  obtain ⟨j0, hj0, hjn, hjb⟩ := fm_at hF
  obtain ⟨W1, hW1⟩ : ∃ W1, W1 = W.alloc (.cells #[.pointer (some ⟨b, 0, none⟩)] 83) := ⟨_, rfl⟩
  have hm1 : Mods None W W1 := by rw [hW1]; exact (Mods.refl _ _).alloc _
  have HQ1 : Hid (Blk W1 W.heap.size [.pointer (some ⟨b, 0, none⟩)] 83) := Lib.hid (by rw [hW1]; exact Blk.new W _ _)
  have q0 := HQ1.out.cell (i := 0) rfl
  have HC := Lib.hid (enter_yes None b P M A s W1 (h.quiet hm1) h40)
  have HM1 := Lib.hid hm1
  have HH := Lib.hid (And.intro h (And.intro hfm (And.intro hrs (And.intro hvs (And.intro hfew (And.intro hvl hvt))))))
  have HRR := Lib.hid hr
  have HF := Lib.hid (And.intro hF (And.intro hFm (And.intro hj0 (And.intro hjn hjb))))
  have HIH := Lib.hid ih
  have HL := Lib.hid hL
  have hlnl : ln = L.length ∧ ln ≤ lc ∧ lc ≤ 9223372036854775807 := by
    obtain ⟨a', c', e, h1, h2, -⟩ := hfm.form
    obtain ⟨-, e2, rfl⟩ := Value.slice.inj e
    exact ⟨e2, by omega, h2⟩
  have hj0l : j0 < ln := by rw [hlnl.1]; exact (List.getElem?_eq_some_iff.1 hj0).1
  have HLN := Lib.hid (And.intro hlnl.1 hj0l)
  obtain ⟨-, hlc1, hlc2⟩ := hlnl
  have hmf : ∀ (fn : Go.Fn) (first cap : Array Value) (w : World), (Instr.makeFunc fn first cap).run Tryd.prog w = .ok (.func fn first cap) w := fun _ _ _ _ => rfl
  have hj6 : (j0 : Int) < (ln : Int) := by omega
  clear h hfm hrs hvs hfew hr hF hvl hvt hFm hget ih hm1 h40 hj0 hjb hL
  unfold str
  go_enter_defers Tryd.func36, Tryd.ntmps36
  go_upto_region 1 with (fail)
  rw [← hW1]
  clear hW1
  go_wp2_with fail
  go_at_call 53
  refine HC.out.mono ?_
  rintro e w2 ⟨rfl, k1, k2⟩
  have HW2 := Lib.hid (And.intro k1 k2)
  have HE2 : Hid (Ext None M M W w2) := Lib.hid ((Ext.quiet (T := None) HM1.out).trans k2)
  have HFM2 : Hid (FmsAt w2 (fun k => ¬ P k) (.slice la ln lc) L) := Lib.hid (HH.out.2.1.mods (HE2.out.mods.mono fun k _ hk => hk.elim (fun f => f.elim) (HH.out.1.off k)) (fun _ _ k => k))
  have HQ2 : Hid (Blk w2 W.heap.size [.pointer (some ⟨b, 0, none⟩)] 83 ∧ ¬ M W.heap.size ∧ ¬ P W.heap.size) := Lib.hid (by
    have hn1 : ¬ M W.heap.size := fun hm => absurd (HH.out.1.old _ hm) (Nat.lt_irrefl _)
    exact ⟨(keep_blk HQ1.out k2 hn1 (fun f => f)).1, hn1, fun hp => absurd (HH.out.1.given _ hp) (Nat.lt_irrefl _)⟩)
  clear k1 k2 HC q0
  go_wp2_with fail
  obtain ⟨q4, hq4⟩ : ∃ q4, q4 = W.heap.size := ⟨_, rfl⟩
  have HQ4 := Lib.hid hq4
  rw [← hq4] at HQ2 ⊢
  clear hq4
  go_loopw [9] (fun iv wr => ∃ i : Nat, i ≤ j0 ∧ iv = .int .i64 i ∧ w2 = wr) (fun iv _ => (j0 - intOf iv).toNat)
  case atStart => exact ⟨0, Nat.zero_le _, rfl, rfl⟩
  case round =>
    obtain ⟨i, hi, rfl, rfl⟩ := hrel
    have hil : i < L.length := by have := HLN.out; omega
    obtain ⟨x, hx⟩ : ∃ x, L[i]? = some x := ⟨_, List.getElem?_eq_getElem hil⟩
    have hxe : L[i] = x := (List.getElem?_eq_some_iff.1 hx).2
    obtain ⟨fg, fo, ta, tc, sa, sc, hla, n0, n1, n2, n3, hT, hS⟩ := HFM2.out.get hil
    subst hla
    rw [hxe] at n0 n1 n2 n3 hT hS
    have hil2 : (i : Int) < (ln : Int) := by omega
    by_cases hij : i < j0
    · have hne : x.name ≠ g := HF.out.2.2.2.2 i x hij hx
      have hb1 : (x.name == g) = false := by simpa using hne
      have hb2 : (x.name != g) = true := by simpa using hne
      unfold str at n0
      clear hT hS hx hxe hil n1 n2 n3
      go_wp2_with fail
      exact ⟨⟨i + 1, by omega, by go_num, by trivial⟩, by simp [intOf]; omega⟩
    · obtain rfl : i = j0 := by omega
      obtain rfl : x = F := by have h1 := HF.out.2.2.1; rw [hx] at h1; exact Option.some.inj h1
      have hne : x.name = g := HF.out.2.2.2.1
      have HNE := Lib.hid hne
      unfold str at n0
      rw [hne] at n0
      clear hij hx hxe hil hne hjn
      have HG := Lib.hid (HL.out.small x HF.out.2.1)
      have HTX := Lib.hid (HL.out.txt x HF.out.2.1)
      obtain ⟨tn, htn⟩ : ∃ tn, tn = x.types.length := ⟨_, rfl⟩
      obtain ⟨sn, hsn⟩ : ∃ sn, sn = x.steps.length := ⟨_, rfl⟩
      have htn3 : (tn : Int) ≤ 3000 := by have := HG.out.2; omega
      have HN := Lib.hid (And.intro htn hsn)
      obtain ⟨W3, hW3⟩ : ∃ W3, W3 = w2.alloc (.cells #[str x.name, .int .i64 x.params, .slice ta x.types.length tc, .slice sa x.steps.length sc] 64) := ⟨_, rfl⟩
      have hm3 : Mods None w2 W3 := by rw [hW3]; exact (Mods.refl _ _).alloc _
      have HM3 := Lib.hid hm3
      have HB3 : Hid (Blk W3 w2.heap.size [str x.name, .int .i64 x.params, .slice ta x.types.length tc, .slice sa x.steps.length sc] 64) := Lib.hid (by rw [hW3]; exact Blk.new w2 _ _)
      have b2 := HB3.out.cell (i := 2) rfl
      rw [← htn] at b2 n2 hW3
      rw [← hsn] at n3 hW3
      rw [HNE.out] at hW3
      obtain ⟨i0, hi0, hz0, hz1, hz2⟩ := info_parts infoI
      obtain ⟨Z, hZ⟩ : ∃ Z : List Value, Z = (List.replicate tn (0 : Int)).map (Value.int .i64) := ⟨_, rfl⟩
      have hmk : (Instr.makeSlice 23 (.int .i64 (tn : Int)) (.int .i64 (tn : Int))).run Tryd.prog W3 = .ok (.slice (some ⟨W3.heap.size, 0, none⟩) tn tn) (W3.alloc (.cells Z.toArray 2)) := by
        have h := run_make_row1 (P := Tryd.prog) 23 2 i0 (.int .i64 0) Tryd.underlying23 hi0 hz0 .i64 .i64 tn (by rw [hz2]; omega) (by omega) W3
        rw [h, hz1, made_row, hZ]
      obtain ⟨W5, hW5⟩ : ∃ W5, W5 = W3.alloc (.cells Z.toArray 2) := ⟨_, rfl⟩
      have hm5 : Mods None W3 W5 := by rw [hW5]; exact (Mods.refl _ _).alloc _
      have HG5 : Hid (W5.heap[W3.heap.size]? = some (.cells Z.toArray 2 (0, 0))) := Lib.hid (by rw [hW5]; exact heap_alloc_new W3 _)
      have HBL5 : Hid (Below W3.heap.size W3 W5) := Lib.hid (by rw [hW5]; exact (Below.refl _ _).alloc (Nat.le_refl _) _)
      obtain ⟨vl, hvl⟩ : ∃ vl, vl = vs.length := ⟨_, rfl⟩
      have HVL := Lib.hid hvl
      obtain ⟨va, vc, rfl, hvat⟩ := HH.out.2.2.2.1.at_
      have hvl2 : (vs.map rep).length = vl := by rw [List.length_map, hvl]
      rw [hvl2] at hvat ⊢
      have hE25 : Ext None M M W W5 := HE2.out.trans (Ext.quiet (hm3.trans hm5))
      have hmWW5 : Mods M W W5 := hE25.mods.mono (fun k _ h => h.elim (fun f => f.elim) id)
      have hvt : vl ≤ tn := by rw [hvl, htn]; exact HH.out.2.2.2.2.2.1
      have HVT := Lib.hid hvt
      have HMIN : Hid (Nat.min vl tn = vl) := Lib.hid (Nat.min_eq_left hvt)
      have HVS5 : Hid (∀ ad, va = some ad → 0 < vl → ∀ j v, ((vs.map rep).map (Value.int .i64))[j]? = some v → W5.cell? (ad.add j) = some v) := Lib.hid (by
        intro ad had hp j v hj
        have hown := hE25.mods.ownsRow HH.out.2.2.2.1.1 (fun k hk hs => hs.elim (fun f => f.elim) (HH.out.2.2.2.1.2 k hk).1)
        obtain ⟨la', lc', e1, e2⟩ := Nms.at_ (P := P) (M := M) ⟨hown, HH.out.2.2.2.1.2⟩
        obtain ⟨rfl, -, -⟩ := Value.slice.inj e1
        obtain ⟨ad2, e3, e4⟩ := e2 (by rw [hvl2]; exact hp)
        rw [had] at e3
        obtain rfl := Option.some.inj e3
        exact e4 j v hj)
      have HP5 : Hid (CpOk W5 W3.heap.size va (Nat.min vl tn) ((vs.map rep).map (Value.int .i64))) := Lib.hid (by
        intro hp
        rw [HMIN.out] at hp
        obtain ⟨ad2, e1, -⟩ := hvat hp
        exact ⟨rfl, ad2, e1, HVS5.out ad2 e1 hp⟩)
      have HCL : Hid (((vs.map rep).map (Value.int .i64)).length = Nat.min vl tn * 1) := Lib.hid (by rw [HMIN.out, List.length_map, hvl2, Nat.mul_one])
      have HFIT : Hid (0 + ((vs.map rep).map (Value.int .i64)).length ≤ Z.length) := Lib.hid (by rw [List.length_map, hvl2, hZ, List.length_map, List.length_replicate]; omega)
      have HST := Lib.hid hS
      have HZ := Lib.hid hZ
      have HM5 := Lib.hid hm5
      have HE25 := Lib.hid hE25
      obtain ⟨CS, hCS⟩ : ∃ CS, CS = (vs.map rep).map (Value.int .i64) := ⟨_, rfl⟩
      have HCS := Lib.hid hCS
      have H1 := Lib.hid (rep_one vs)
      rw [← hCS] at HP5 HCL HFIT H1
      have HDEF := Lib.hid HRR.out
      clear hT hS hvat hvl hvl2 hE25 hmWW5 hvt hm3 hm5 hZ htn hsn hi0 hz0 hz1 hz2 hCS HVS5
      unfold str at hW3
      go_upto_region 8 with (fail)
      rw [← hW3]
      clear hW3 n0 n1 n2 n3
      go_upto_region 9 with (fail)
      rw [← hW5]
      clear hW5 hmk b2
      go_wp2_with ((with_reducible refine wpList_copy_rows rfl (.tmp 37) (.tmp 38) 23 23 rfl 2 1 Tryd.underlying23 size_int (some ⟨W3.heap.size, 0, none⟩) va tn tn vl vc rfl rfl W3.heap.size 0 Z 2 HG5.out CS HCL.out (cpok HP5.out) HFIT.out H1.out W3.heap.size W3 HBL5.out (Nat.le_refl _) ?_); intro w6 HG6 hB6; have HB6 := Lib.hid hB6; clear hB6; refine Hid.out ?_)
      refine Lib.hid ?_
      have HM6 : Hid (Mods None w2 w6) := Lib.hid (HM3.out.trans (Mods.of_below HB6.out))
      have HST6 := Lib.hid (HST.out.mods (HM6.out.mono fun _ _ f => f.elim) (fun _ _ k => k) (T := fun k => ¬ P k))
      have HS0 : Hid (CoSt W P M A b W3.heap.size w2.heap.size q4 L x ta sa tc sc s.calls r f 0 (fillP vs tn) M A { s with calls := s.calls + 1 } w6) := Lib.hid (by
        have h23 : w2.heap.size < W3.heap.size := HB3.out.lt
        have h12 := HE2.out.mods.size
        have hq := HQ4.out
        have hold : ∀ k, M k → k < w2.heap.size := HW2.out.1.old
        have hgiv : ∀ k, P k → k < w2.heap.size := HW2.out.1.given
        have hnew : ∀ k, w2.heap.size ≤ k → ¬ M k ∧ ¬ P k := fun k hk => ⟨fun hm => by have := hold k hm; omega, fun hp => by have := hgiv k hp; omega⟩
        have hql : q4 < w2.heap.size := HQ2.out.1.lt
        have hty := fill_vty (s := s) HH.out.2.2.2.2.2.1 HH.out.2.2.2.2.2.2
        refine ⟨by rw [HN.out.1]; exact HRR.out, HW2.out.1.quiet HM6.out, ?_, by rw [HN.out.1]; exact hty.on (Nat.le_refl _), HH.out.2.2.1, HH.out.2.2.2.2.1, HE2.out.trans (Ext.quiet HM6.out), List.prefix_refl _, HB3.out.mods (S := None) (Mods.of_below HB6.out) (fun f => f), hnew _ (Nat.le_refl _), HQ2.out.1.mods HM6.out (fun f => f), HQ2.out.2, HST6.out, OkM.pos HL.out.ok HF.out.2.1, ⟨by omega, by omega, by omega, by omega, by omega⟩, rfl⟩
        have hvt := HVT.out
        have hvl := HVL.out
        refine nl_filled ?_ (by omega) (hnew _ (by omega)).1 (hnew _ (by omega)).2
        have := HG6.out
        rw [HZ.out, HCS.out] at this
        exact this)
      obtain ⟨g0, hg0⟩ : ∃ g0, g0 = W3.heap.size := ⟨_, rfl⟩
      obtain ⟨q0, hq0⟩ : ∃ q0, q0 = w2.heap.size := ⟨_, rfl⟩
      rw [← hg0, ← hq0] at HS0 ⊢
      have HFMS := Lib.hid (fun (w : World) (M' : Nat → Prop) (hE : Ext None M M' W w) => ((HH.out.2.1.mods (hE.mods.mono fun k _ hk => hk.elim (fun f => f.elim) (HH.out.1.off k)) (fun _ _ k => k)) : FmsAt w (fun k => ¬ P k) (.slice (some ⟨fg, fo, none⟩) ln lc) L))
      clear hg0 hq0 HP5 HCL HFIT H1 HCS HZ HM5 HE25 HG5 HBL5 HG6 HB6 HM6 HB3 HM3 HMIN HVT HVL HDEF HQ2 HST HM1 HQ1 HRR htn3 HFM2
      go_wp2_with fail
      go_loopw [12] (fun iv wr => ∃ i2 : Nat, iv = .int .i64 i2 ∧ i2 ≤ 6001 ∧ ((∃ k v M' A' s', k ≤ f ∧ Hid (CoSt W P M A b g0 q0 q4 L x ta sa tc sc s.calls r k i2 v M' A' s' wr)) ∨ Hid (CoEnd W P M b q4 r wr))) (fun _ wr => left b wr)
      case atStart => exact ⟨0, rfl, by omega, Or.inl ⟨f, _, M, A, _, Nat.le_refl _, HS0⟩⟩
      case round =>
        clear HS0
        obtain ⟨w7, rfl⟩ : ∃ w7 : World, w7 = wr := ⟨_, rfl⟩
        obtain ⟨i2, rfl, hi2, hst⟩ := hrel
        rcases hst with ⟨k, v, M', A', s', hk, HS⟩ | HD
        rotate_left
        · obtain ⟨kq, s9, M9, hr9, he9, hx9⟩ := HD.out.has
          obtain ⟨c9, c93, z93, e93, x93⟩ := WEnd.callsAt he9
          have hway := he9.way
          have c94 : ∃ way : Int, w7.cell? ⟨b, 4, none⟩ = some (.int .i64 way) ∧ (way == 0) = false := by
            obtain ⟨av, iv, k, c, ov, m, r, hb, -⟩ := he9.blk
            exact ⟨kq, hb.cell rfl, by simp; omega⟩
          obtain ⟨way, c94, hw0⟩ := c94
          have q40 := HD.out.wbx
          have HK := Lib.hid (And.intro e93 (And.intro (hx9.trans (x93 None)) hr9))
          have HC3 := Lib.hid (And.intro q40 (And.intro c93 z93))
          clear he9 hx9 e93 x93 hway c93 z93 hr9
          go_wp2_with fail
          try unfold bodyPostD
          try simp only
          refine code_done (q := q4) (b := b) (n := 0) rfl HC3.out.1 HC3.out.2.1 HC3.out.2.2 ?_
          rw [HK.out.2.2]
          exact ⟨0, M9, rfl, HK.out.1, HK.out.2.1⟩
        · obtain ⟨jav, jiv, jk, jov, hb7, -⟩ := HS.out.wat.blk
          have c4 : w7.cell? ⟨b, 4, none⟩ = some (.int .i64 0) := hb7.cell rfl
          have q40 := HS.out.wbx.cell (i := 0) rfl
          have HKK := Lib.hid hk
          have HLA := Lib.hid (left_alive HS.out.wat)
          obtain ⟨y, hyx⟩ : ∃ y, x.steps[i2]? = some y := ⟨_, List.getElem?_eq_getElem HS.out.lt⟩
          have hye : x.steps[i2]'HS.out.lt = y := (List.getElem?_eq_some_iff.1 hyx).2
          have HYM := Lib.hid (List.mem_of_getElem? hyx)
          have HYX := Lib.hid (And.intro hyx hye)
          clear hb7 hk
          cases k with
          | zero => have := HS.out.run; simp only [goM, bindR] at this; cases this
          | succ k =>
            have hrun := HS.out.run
            rw [goM_at hyx] at hrun
            by_cases h0 : s'.fuel = 0
            · have hst : stepR s' = stopR 6 s' := by unfold stepR; rw [if_pos h0]
              rw [hst] at hrun
              obtain rfl := (Option.some.inj hrun).symm
              have HC := Lib.hid (spend_any None b P M' A' s' w7 _ HS.out.wat hst)
              clear hrun hyx hye h0 hst
              go_wp2_with fail
              go_at_call 55
              refine HC.out.mono ?_
              rintro e w8 ⟨rfl, M8, k1, k2⟩
              obtain ⟨c9, c93, z93, e93, x93⟩ := WEnd.callsAt k1
              have q48 := (keep_blk HS.out.wbx k2 HS.out.n4.1 (fun f => f)).1.cell (i := 0) rfl
              have HK := Lib.hid (And.intro e93 ((HS.out.ext.trans k2).trans (x93 None)))
              have HC3 := Lib.hid (And.intro q48 (And.intro c93 z93))
              clear k1 k2 e93 x93 c93 z93 q48 HC
              go_wp2_with fail
              try unfold bodyPostD
              try simp only
              refine code_done (q := q4) (b := b) (n := 0) rfl HC3.out.1 HC3.out.2.1 HC3.out.2.2 ?_
              exact ⟨0, M8, rfl, HK.out.1, HK.out.2⟩
            · have hst : stepR s' = okR () { s' with fuel := s'.fuel - 1 } := by unfold stepR; rw [if_neg h0]
              rw [hst] at hrun
              have HX := Lib.hid hrun
              have HF0 := Lib.hid h0
              have HC := Lib.hid (spend_any None b P M' A' s' w7 _ HS.out.wat hst)
              clear hrun hyx hye h0 hst
              go_wp2_with fail
              go_at_call 55
              refine HC.out.mono ?_
              rintro e w8 ⟨M8, A8, rfl, k1, k2, k3⟩
              obtain ⟨yg, yo, ya, yc, rfl, hcs, hya⟩ := (HS.out.sts.mods (k2.mods.mono fun j _ hj => hj.elim (fun f => f.elim) (HS.out.wat.off j)) (fun _ _ k => k) (T := fun k => ¬ P k)).get HS.out.lt
              rw [HYX.out.2] at hcs hya
              obtain ⟨y0, y1, y2, y3, y4, y5, y6, y7, y8, y9⟩ := hcs
              obtain ⟨an, han⟩ : ∃ an, an = y.args.length := ⟨_, rfl⟩
              have HAN := Lib.hid han
              rw [← han] at y9
              obtain ⟨W9, hW9⟩ : ∃ W9, W9 = w8.alloc (.cells (#[.int .i64 y.code, .int .i64 y.dst, .int .i64 y.a, .int .i64 y.b, .int .i64 y.c, .int .i64 y.n, str y.op, .int .i64 y.label, str y.name, .slice ya an yc]) 65) := ⟨_, rfl⟩
              have hm9 : Mods None w8 W9 := by rw [hW9]; exact (Mods.refl _ _).alloc _
              have HE9 : Hid (Ext None M' M8 w7 W9) := Lib.hid (k2.trans (Ext.quiet hm9))
              have HR9 := Lib.hid (k1.quiet hm9)
              have HV9 := Lib.hid (HS.out.pl.ext HE9.out (fun f => f))
              have HBX : Hid (Rx w8 W9 P M8 g0 w8.heap.size [.int .i64 y.code, .int .i64 y.dst, .int .i64 y.a, .int .i64 y.b, .int .i64 y.c, .int .i64 y.n, str y.op, .int .i64 y.label, str y.name, .slice ya an yc]) := Lib.hid (by rw [hW9]; exact Rx.new k1 (HS.out.pl.ext k2 (fun f => f)) _)
              have HS9 := Lib.hid (And.intro (keep_blk HS.out.box HE9.out HS.out.nq.1 (fun f => f)).1 (And.intro (keep_blk HS.out.wbx HE9.out HS.out.n4.1 (fun f => f)).1 (HS.out.sts.mods (HE9.out.mods.mono fun j _ hj => hj.elim (fun f => f.elim) (HS.out.wat.off j)) (fun _ _ k => k) (T := fun k => ¬ P k))))
              have HY9 := Lib.hid (hya.mods (hm9.mono fun _ _ f => f.elim) (fun _ _ k => k) (T := fun k => ¬ P k))
              have HNX := Lib.hid (fun (k3' i3 : Nat) hrun hlt => HS.out.next (T := None) (k2 := k3') (i2 := i3) hrun HR9.out HV9.out (HS.out.ty.on (Nat.le_refl _)) (show RsOk { s' with fuel := s'.fuel - 1 } from HS.out.rs) (by have := HS.out.few; show s'.arrs.length + (s'.fuel - 1) ≤ _; omega) HE9.out (fun _ f => f.elim) k3 HS.out.calls hlt)
              have HA8 := Lib.hid k3
              have HNQ := Lib.hid (fun (M9 : Nat → Prop) (hE : Ext None M' M9 w7 W9) => ((⟨fun hm => HS.out.nq.1 (hE.back q0 HS.out.box.lt hm), fun hm => HS.out.n4.1 (hE.back q4 HS.out.wbx.lt hm)⟩) : ¬ M9 q0 ∧ ¬ M9 q4))
              have f3 := (keep_blk HS.out.box k2 HS.out.nq.1 (fun f => f)).1.cell (i := 3) rfl
              rw [← HN.out.2] at f3
              have hi3 : (i2 : Int) < (sn : Int) := by have h1 := HS.out.lt; have h2 := HN.out.2; omega
              have hs60 : (sn : Int) ≤ 6000 := by have h1 := HG.out.1; have h2 := HN.out.2; omega
              have hrgt := HL.out.ok.right HF.out.2.1 HYM.out
              have HRG := Lib.hid hrgt
              unfold str at y6 y8 hW9
              clear k1 k2 k3 hya hm9 han hrgt HC c4 q40
              go_upto_region 14 with (fail)
              rw [← hW9]
              clear hW9 y0 y1 y2 y3 y4 y5 y6 y7 y8 y9 f3
              have hbx := HBX.out.blk
              unfold str at hbx
              have d0 := hbx.cell (i := 0) rfl
              have d1 := hbx.cell (i := 1) rfl
              have d2 := hbx.cell (i := 2) rfl
              have d3 := hbx.cell (i := 3) rfl
              have d4 := hbx.cell (i := 4) rfl
              have d5 := hbx.cell (i := 5) rfl
              have d6 := hbx.cell (i := 6) rfl
              have d7 := hbx.cell (i := 7) rfl
              have d8 := hbx.cell (i := 8) rfl
              have d9 := hbx.cell (i := 9) rfl
              have f3 := HS9.out.1.cell (i := 3) rfl
              rw [← HN.out.2] at f3
              have q49 := HS9.out.2.1.cell (i := 0) rfl
              have hX := HX.out
              simp only [okR, bindR] at hX
              clear hbx
              by_cases h8 : y.code = 8
              · rw [if_neg (by omega), if_neg (by omega), if_neg (by omega), if_pos h8] at hX
                have f2 := (right_forms HRG.out (by omega) (by omega)).2.2.1
                rw [h8] at f2
                obtain ⟨pa, hpa, hpal⟩ := fit_place (t := 1) (by decide) f2
                have hpv : pa < v.length := by rw [HS.out.ty.1]; exact hpal
                have ta1 := HS.out.ty.get (fit_kind (t := 1) (by decide) f2) (by decide)
                rw [hpa] at d2 hX ta1
                have da := HV9.out.get hpv
                rw [rep_num (ta1.2.1 rfl)] at da
                obtain ⟨na, hna⟩ : ∃ na, na = (v.get (pa : Int)).n := ⟨_, rfl⟩
                rw [← hna] at da hX
                have qa : (pa : Int) < (tn : Int) := by have := HN.out.1; omega
                obtain rfl := (Option.some.inj hX).symm
                obtain ⟨c93, z93, e93, x93⟩ := WAt.callsAt HR9.out (by have := HS.out.calls; show 1 ≤ s'.calls; omega)
                have HK := Lib.hid (And.intro e93 ((HS.out.ext.trans HE9.out).trans (x93 None)))
                have HC3 := Lib.hid (And.intro q49 (And.intro c93 z93))
                rw [h8] at d0
                clear hX HX h8 f2 hpa hpal hpv ta1 hna c93 z93 e93 x93 d1 d3 d4 d5 d6 d7 d8 d9
                go_wp2_with fail
                try unfold bodyPostD
                try simp only
                refine code_done (q := q4) (b := b) (n := na) rfl HC3.out.1 HC3.out.2.1 HC3.out.2.2 ?_
                exact ⟨rfl, M8, A8, HK.out.1, HK.out.2, HS.out.pre.trans HA8.out⟩
              have n8 : (y.code == 8) = false := by simpa using h8
              by_cases h4 : y.code = 4
              · rw [if_pos h4] at hX
                have HXJ := Lib.hid hX
                rw [h4] at d0
                have HC4 := Lib.hid h4
                clear hX HX h8 n8 d1 d2 d3 d4 d5 d6 d8 d9
                go_wp2_with fail
                go_loopw [12, 14, 15, 84] (fun iv _ _ jv wr => ∃ m : Nat, m ≤ sn ∧ jv = .int .i64 m ∧ iv = .int .i64 (labelAt (x.steps.take m) y.label 0 i2 : Nat) ∧ Hid (Mods None W9 wr)) (fun _ _ _ jv _ => (sn - intOf jv).toNat)
                case atStart => exact ⟨0, Nat.zero_le _, rfl, rfl, Lib.hid (Mods.refl _ _)⟩
                case round =>
                  obtain ⟨w10, rfl⟩ : ∃ w10 : World, w10 = wr := ⟨_, rfl⟩
                  obtain ⟨m, hm, rfl, rfl, HMW⟩ := hrel
                  obtain ⟨lm, hlm⟩ : ∃ lm, lm = labelAt (x.steps.take m) y.label 0 i2 := ⟨_, rfl⟩
                  have HLM := Lib.hid hlm
                  rw [← hlm]
                  clear hlm
                  by_cases hmn : m < sn
                  · have hml : m < x.steps.length := by have := HN.out.2; omega
                    obtain ⟨z, hz⟩ : ∃ z, x.steps[m]? = some z := ⟨_, List.getElem?_eq_getElem hml⟩
                    have hze : x.steps[m] = z := (List.getElem?_eq_some_iff.1 hz).2
                    obtain ⟨zg, zo, za, zc, he, hcs, -⟩ := (HS9.out.2.2.mods (HMW.out.mono fun _ _ f => f.elim) (fun _ _ k => k) (T := fun k => ¬ P k)).get hml
                    obtain ⟨rfl, rfl⟩ : yg = zg ∧ yo = zo := by simpa using he
                    rw [hze] at hcs
                    obtain ⟨u0, u1, u2, u3, u4, u5, u6, u7, u8, u9⟩ := hcs
                    obtain ⟨zn, hzn⟩ : ∃ zn, zn = z.args.length := ⟨_, rfl⟩
                    rw [← hzn] at u9
                    obtain ⟨W11, hW11⟩ : ∃ W11, W11 = w10.alloc (.cells (#[.int .i64 z.code, .int .i64 z.dst, .int .i64 z.a, .int .i64 z.b, .int .i64 z.c, .int .i64 z.n, str z.op, .int .i64 z.label, str z.name, .slice za zn zc]) 65) := ⟨_, rfl⟩
                    have hm11 : Mods None w10 W11 := by rw [hW11]; exact (Mods.refl _ _).alloc _
                    have hB11 : Blk W11 w10.heap.size [.int .i64 z.code, .int .i64 z.dst, .int .i64 z.a, .int .i64 z.b, .int .i64 z.c, .int .i64 z.n, str z.op, .int .i64 z.label, str z.name, .slice za zn zc] 65 := by rw [hW11]; exact Blk.new w10 _ _
                    have v0 := hB11.cell (i := 0) rfl
                    have v7 := hB11.cell (i := 7) rfl
                    have HM11 := Lib.hid (HMW.out.trans hm11)
                    have e7 := (HBX.out.blk.mods HM11.out (fun f => f)).cell (i := 7) rfl
                    have hnx := look_next hz y.label i2
                    rw [← HLM.out] at hnx
                    have HNX2 := Lib.hid hnx
                    have hmi : (m : Int) < (sn : Int) := by omega
                    unfold str at u6 u8 hW11
                    clear hm11 hB11 hz hze hzn he hnx hml hmn
                    by_cases h6 : z.code = 6
                    · rw [h6] at u0 v0 hW11
                      by_cases hlb : z.label = y.label
                      · rw [hlb] at u7 v7 hW11
                        have HNX3 : Hid (labelAt (x.steps.take (m + 1)) y.label 0 i2 = m) := Lib.hid (by rw [HNX2.out, if_pos ⟨h6, hlb⟩])
                        clear h6 hlb
                        go_upto_region 20 with (fail)
                        rw [← hW11]
                        clear hW11
                        go_wp2_with fail
                        exact ⟨⟨m + 1, by omega, by go_num, by rw [HNX3.out], HM11⟩, by simp [intOf]; omega⟩
                      · have hlb2 : (z.label == y.label) = false := by simpa using hlb
                        have HNX3 : Hid (labelAt (x.steps.take (m + 1)) y.label 0 i2 = lm) := Lib.hid (by rw [HNX2.out, if_neg (fun e => hlb e.2)])
                        clear h6 hlb
                        go_upto_region 20 with (fail)
                        rw [← hW11]
                        clear hW11
                        go_wp2_with fail
                        exact ⟨⟨m + 1, by omega, by go_num, by rw [HNX3.out], HM11⟩, by simp [intOf]; omega⟩
                    · have h62 : (z.code == 6) = false := by simpa using h6
                      have HNX3 : Hid (labelAt (x.steps.take (m + 1)) y.label 0 i2 = lm) := Lib.hid (by rw [HNX2.out, if_neg (fun e => h6 e.1)])
                      clear h6
                      go_upto_region 20 with (fail)
                      rw [← hW11]
                      clear hW11
                      go_wp2_with fail
                      exact ⟨⟨m + 1, by omega, by go_num, by rw [HNX3.out], HM11⟩, by simp [intOf]; omega⟩
                  · obtain rfl : m = sn := by omega
                    have hat : lm = atP x y.label := by
                      rw [HLM.out, HN.out.2, List.take_length]
                      exact look_any HL.out.ok HF.out.2.1 HYM.out (by omega) i2
                    have HNX9 := HNX.out k (atP x y.label + 1) HXJ.out (OkM.jump HL.out.ok HF.out.2.1 HYM.out (by omega))
                    rw [← hat] at HNX9
                    have hlt := HNX9.lt
                    have h60 := HG.out.1
                    have HNXX := Lib.hid (HNX9.next (T := None) HNX9.run (HNX9.wat.quiet HMW.out) (HNX9.pl.ext (Ext.quiet (T := None) HMW.out) (fun f => f)) HNX9.ty HNX9.rs HNX9.few (Ext.quiet (T := None) HMW.out) (fun _ f => f.elim) (List.prefix_refl _) HNX9.calls HNX9.lt)
                    have hlm6 : (lm : Int) ≤ 6000 := by omega
                    have hmi : ¬ (m : Int) < (m : Int) := by omega
                    clear hat HNX9 hlt
                    go_wp2_with fail
                    refine ⟨⟨lm + 1, by go_num, by omega, Or.inl ⟨k, v, M8, A8, _, by have := HKK.out; omega, HNXX⟩⟩, ?_⟩
                    rw [left_alive HNXX.out.wat, HLA.out]
                    have := HF0.out
                    show s'.fuel - 1 + 1 < s'.fuel + 1
                    omega
              have n4 : (y.code == 4) = false := by simpa using h4
              have hgo : (∃ pa na, y.code = 5 ∧ y.a = ((pa : Nat) : Int) ∧ pa < tn ∧ (v.get y.a).n = na ∧ W9.cell? ⟨g0, pa, none⟩ = some (.int .i64 na)) ∨ y.code ≠ 5 := by
                by_cases h5 : y.code = 5
                · have f2 := (right_forms HRG.out (by omega) (by omega)).2.2.1
                  rw [h5] at f2
                  obtain ⟨pa, hpa, hpal⟩ := fit_place (t := 1) (by decide) f2
                  have hpv : pa < v.length := by rw [HS.out.ty.1]; exact hpal
                  have ta1 := HS.out.ty.get (fit_kind (t := 1) (by decide) f2) (by decide)
                  rw [hpa] at ta1
                  have da := HV9.out.get hpv
                  rw [rep_num (ta1.2.1 rfl)] at da
                  exact Or.inl ⟨pa, _, h5, hpa, by rw [HN.out.1]; exact hpal, by rw [hpa], da⟩
                · exact Or.inr h5
              have hgo2 : (∃ pa, y.code = 5 ∧ y.a = ((pa : Nat) : Int) ∧ pa < tn ∧ (v.get y.a).n = 0 ∧ W9.cell? ⟨g0, pa, none⟩ = some (.int .i64 0)) ∨ ((∃ pa na, y.code = 5 ∧ y.a = ((pa : Nat) : Int) ∧ pa < tn ∧ (v.get y.a).n = na ∧ W9.cell? ⟨g0, pa, none⟩ = some (.int .i64 na) ∧ na ≠ 0) ∨ y.code ≠ 5) := by
                rcases hgo with ⟨pa, na, e1, e2, e3, e4, e5⟩ | h5
                · by_cases hz : na = 0
                  · exact Or.inl ⟨pa, e1, e2, e3, by rw [e4, hz], by rw [e5, hz]⟩
                  · exact Or.inr (Or.inl ⟨pa, na, e1, e2, e3, e4, e5, hz⟩)
                · exact Or.inr (Or.inr h5)
              clear hgo
              rcases hgo2 with ⟨pa, h5, hpa, hpal, hna, da⟩ | hgo
              · rw [if_neg h4, if_pos h5, if_pos hna] at hX
                have HXJ := Lib.hid hX
                rw [h5] at d0
                rw [hpa] at d2
                have qa : (pa : Int) < (tn : Int) := by omega
                clear hX HX h8 n8 h4 n4 hpa hpal hna d1 d3 d4 d5 d6 d8 d9
                go_wp2_with fail
                go_loopw [12, 14, 15, 84] (fun iv _ _ jv wr => ∃ m : Nat, m ≤ sn ∧ jv = .int .i64 m ∧ iv = .int .i64 (labelAt (x.steps.take m) y.label 0 i2 : Nat) ∧ Hid (Mods None W9 wr)) (fun _ _ _ jv _ => (sn - intOf jv).toNat)
                case atStart => exact ⟨0, Nat.zero_le _, rfl, rfl, Lib.hid (Mods.refl _ _)⟩
                case round =>
                  obtain ⟨w10, rfl⟩ : ∃ w10 : World, w10 = wr := ⟨_, rfl⟩
                  obtain ⟨m, hm, rfl, rfl, HMW⟩ := hrel
                  obtain ⟨lm, hlm⟩ : ∃ lm, lm = labelAt (x.steps.take m) y.label 0 i2 := ⟨_, rfl⟩
                  have HLM := Lib.hid hlm
                  rw [← hlm]
                  clear hlm
                  by_cases hmn : m < sn
                  · have hml : m < x.steps.length := by have := HN.out.2; omega
                    obtain ⟨z, hz⟩ : ∃ z, x.steps[m]? = some z := ⟨_, List.getElem?_eq_getElem hml⟩
                    have hze : x.steps[m] = z := (List.getElem?_eq_some_iff.1 hz).2
                    obtain ⟨zg, zo, za, zc, he, hcs, -⟩ := (HS9.out.2.2.mods (HMW.out.mono fun _ _ f => f.elim) (fun _ _ k => k) (T := fun k => ¬ P k)).get hml
                    obtain ⟨rfl, rfl⟩ : yg = zg ∧ yo = zo := by simpa using he
                    rw [hze] at hcs
                    obtain ⟨u0, u1, u2, u3, u4, u5, u6, u7, u8, u9⟩ := hcs
                    obtain ⟨zn, hzn⟩ : ∃ zn, zn = z.args.length := ⟨_, rfl⟩
                    rw [← hzn] at u9
                    obtain ⟨W11, hW11⟩ : ∃ W11, W11 = w10.alloc (.cells (#[.int .i64 z.code, .int .i64 z.dst, .int .i64 z.a, .int .i64 z.b, .int .i64 z.c, .int .i64 z.n, str z.op, .int .i64 z.label, str z.name, .slice za zn zc]) 65) := ⟨_, rfl⟩
                    have hm11 : Mods None w10 W11 := by rw [hW11]; exact (Mods.refl _ _).alloc _
                    have hB11 : Blk W11 w10.heap.size [.int .i64 z.code, .int .i64 z.dst, .int .i64 z.a, .int .i64 z.b, .int .i64 z.c, .int .i64 z.n, str z.op, .int .i64 z.label, str z.name, .slice za zn zc] 65 := by rw [hW11]; exact Blk.new w10 _ _
                    have v0 := hB11.cell (i := 0) rfl
                    have v7 := hB11.cell (i := 7) rfl
                    have HM11 := Lib.hid (HMW.out.trans hm11)
                    have e7 := (HBX.out.blk.mods HM11.out (fun f => f)).cell (i := 7) rfl
                    have hnx := look_next hz y.label i2
                    rw [← HLM.out] at hnx
                    have HNX2 := Lib.hid hnx
                    have hmi : (m : Int) < (sn : Int) := by omega
                    unfold str at u6 u8 hW11
                    clear hm11 hB11 hz hze hzn he hnx hml hmn
                    by_cases h6 : z.code = 6
                    · rw [h6] at u0 v0 hW11
                      by_cases hlb : z.label = y.label
                      · rw [hlb] at u7 v7 hW11
                        have HNX3 : Hid (labelAt (x.steps.take (m + 1)) y.label 0 i2 = m) := Lib.hid (by rw [HNX2.out, if_pos ⟨h6, hlb⟩])
                        clear h6 hlb
                        go_upto_region 20 with (fail)
                        rw [← hW11]
                        clear hW11
                        go_wp2_with fail
                        exact ⟨⟨m + 1, by omega, by go_num, by rw [HNX3.out], HM11⟩, by simp [intOf]; omega⟩
                      · have hlb2 : (z.label == y.label) = false := by simpa using hlb
                        have HNX3 : Hid (labelAt (x.steps.take (m + 1)) y.label 0 i2 = lm) := Lib.hid (by rw [HNX2.out, if_neg (fun e => hlb e.2)])
                        clear h6 hlb
                        go_upto_region 20 with (fail)
                        rw [← hW11]
                        clear hW11
                        go_wp2_with fail
                        exact ⟨⟨m + 1, by omega, by go_num, by rw [HNX3.out], HM11⟩, by simp [intOf]; omega⟩
                    · have h62 : (z.code == 6) = false := by simpa using h6
                      have HNX3 : Hid (labelAt (x.steps.take (m + 1)) y.label 0 i2 = lm) := Lib.hid (by rw [HNX2.out, if_neg (fun e => h6 e.1)])
                      clear h6
                      go_upto_region 20 with (fail)
                      rw [← hW11]
                      clear hW11
                      go_wp2_with fail
                      exact ⟨⟨m + 1, by omega, by go_num, by rw [HNX3.out], HM11⟩, by simp [intOf]; omega⟩
                  · obtain rfl : m = sn := by omega
                    have hat : lm = atP x y.label := by
                      rw [HLM.out, HN.out.2, List.take_length]
                      exact look_any HL.out.ok HF.out.2.1 HYM.out (by omega) i2
                    have HNX9 := HNX.out k (atP x y.label + 1) HXJ.out (OkM.jump HL.out.ok HF.out.2.1 HYM.out (by omega))
                    rw [← hat] at HNX9
                    have hlt := HNX9.lt
                    have h60 := HG.out.1
                    have HNXX := Lib.hid (HNX9.next (T := None) HNX9.run (HNX9.wat.quiet HMW.out) (HNX9.pl.ext (Ext.quiet (T := None) HMW.out) (fun f => f)) HNX9.ty HNX9.rs HNX9.few (Ext.quiet (T := None) HMW.out) (fun _ f => f.elim) (List.prefix_refl _) HNX9.calls HNX9.lt)
                    have hlm6 : (lm : Int) ≤ 6000 := by omega
                    have hmi : ¬ (m : Int) < (m : Int) := by omega
                    clear hat HNX9 hlt
                    go_wp2_with fail
                    refine ⟨⟨lm + 1, by go_num, by omega, Or.inl ⟨k, v, M8, A8, _, by have := HKK.out; omega, HNXX⟩⟩, ?_⟩
                    rw [left_alive HNXX.out.wat, HLA.out]
                    have := HF0.out
                    show s'.fuel - 1 + 1 < s'.fuel + 1
                    omega
              · have h5n : y.code = 5 → (v.get y.a).n ≠ 0 := by
                  intro h5
                  rcases hgo with ⟨pa, na, e1, e2, e3, e4, e5, e6⟩ | h
                  · rw [e4]; exact e6
                  · exact absurd h5 h
                have HXS : Hid (bindR (stepX L k v y { s' with fuel := s'.fuel - 1 }) (fun v s => bindR (goM L k s x v (i2 + 1)) fun n t => okR n { t with calls := t.calls - 1 }) = some r) := Lib.hid (by
                  rw [← mbindR_assoc, ← goM_step h4 h8 h5n]
                  exact hX)
                obtain ⟨r2, hr2⟩ : ∃ r2, stepX L k v y { s' with fuel := s'.fuel - 1 } = some r2 := by
                  cases hc : stepX L k v y { s' with fuel := s'.fuel - 1 } with
                  | none => have := HXS.out; rw [hc] at this; cases this
                  | some z => exact ⟨z, rfl⟩
                have hvl : v.length = tn := by rw [HS.out.ty.1, HN.out.1]
                have hC := sx_any HL.out HF.out.2.1 HYM.out h4 h8 (HIH.out k (by have := HKK.out; omega)) v b g0 tn P M8 A8 { s' with fuel := s'.fuel - 1 } (some ⟨fg, fo, none⟩) ln lc W9 ya yc r2 ⟨HR9.out, HV9.out, HS.out.ty.on (Nat.le_refl _), HS.out.rs, ⟨by omega, by have := HG.out.2; have := HN.out.1; omega⟩, HL.out.ok.num x HF.out.2.1 y HYM.out, HRG.out, by have h1 := HS.out.few; have h2 := HR9.out.arrs; have h3 : s'.arrs.length = A8.length := h2.symm; omega⟩ (HFMS.out W9 M8 (HS.out.ext.trans HE9.out)) (by rw [← HAN.out]; have := HY9.out; rw [← HAN.out] at this; exact this) (by have := HS.out.few; show s'.arrs.length + (s'.fuel - 1) ≤ _; omega) hr2
                rw [hvl] at hC
                unfold stpL str at hC
                rw [← HAN.out] at hC
                have HC2 := Lib.hid hC
                have HR2 := Lib.hid hr2
                have HH48 := Lib.hid (And.intro h4 h8)
                clear hC hr2 hX HX h4 h8 h5n hvl
                have hgo3 : (∃ pa na, y.code = 5 ∧ y.a = ((pa : Nat) : Int) ∧ (pa : Int) < (tn : Int) ∧ W9.cell? ⟨g0, pa, none⟩ = some (.int .i64 na) ∧ (na == 0) = false) ∨ (y.code == 5) = false := by
                  rcases hgo with ⟨pa, na, e1, e2, e3, e4, e5, e6⟩ | h
                  · exact Or.inl ⟨pa, na, e1, e2, by omega, e5, by simpa using e6⟩
                  · exact Or.inr (by simpa using h)
                clear hgo
                obtain ⟨yc0, hyc0⟩ : ∃ yc0, yc0 = y.code := ⟨_, rfl⟩
                obtain ⟨ya0, hya0⟩ : ∃ ya0, ya0 = y.a := ⟨_, rfl⟩
                rw [← hyc0] at d0 n8 n4 hgo3
                rw [← hya0] at d2 hgo3
                rw [← hyc0, ← hya0] at HC2
                clear hyc0 hya0
                rcases hgo3 with ⟨pa, na, rfl, rfl, qa, da, nz⟩ | n5
                all_goals
                  go_wp2_with fail
                  go_at_call 56
                  refine HC2.out.mono ?_
                  obtain ⟨r2, s2⟩ := r2
                  intro e w hR
                  cases r2 with
                  | error sg =>
                    cases sg with
                    | ret q => exact hR.elim
                    | stop q =>
                      obtain ⟨rfl, M2, k1, k2⟩ := hR
                      have HXr : Hid (r = (.error (.stop q), s2)) := Lib.hid (by
                        have h := HXS.out
                        rw [HR2.out] at h
                        exact (Option.some.inj h).symm)
                      have hb := HS.out.base
                      have HEN : Hid (CoEnd W P M b q4 r w) := Lib.hid ⟨⟨q, s2, M2, HXr.out, k1, (HS.out.ext.trans HE9.out).transNew k2 (fun j hj e => by have := hb.1; omega)⟩, (keep_blk HS9.out.2.1 k2 (fun hm => (HNQ.out M8 HE9.out).2 hm) (fun e => hb.2.2.2.2 e.symm)).1.cell (i := 0) rfl⟩
                      have HLD := Lib.hid (left_dead k1)
                      clear k1 k2 hb
                      go_wp2_with fail
                      refine ⟨⟨i2 + 1, by go_num, by have h1 := HS.out.lt; have h2 := HG.out.1; omega, Or.inr HEN⟩, ?_⟩
                      rw [HLD.out, HLA.out]
                      omega
                  | ok v2 =>
                    obtain ⟨rfl, M2, A2, k1, k2, k3, k4⟩ := hR
                    have HXr : Hid (bindR (goM L k s2 x v2 (i2 + 1)) (fun n t => okR n { t with calls := t.calls - 1 }) = some r) := Lib.hid (by
                      have h := HXS.out
                      rw [HR2.out] at h
                      exact h)
                    have hty := stepX_ty HL.out.ok HF.out.2.1 HYM.out (show PlTy { s' with fuel := s'.fuel - 1 } x.types v from HS.out.ty.on (Nat.le_refl _)) HS.out.rs HR2.out
                    have hfu : s2.arrs.length + s2.fuel ≤ s'.arrs.length + (s'.fuel - 1) + 1 := hty.2.1.2.2
                    have hlt2 := HL.out.ok.last HF.out.2.1 HYX.out.1 HH48.out.1 HH48.out.2
                    have hcs2 : s2.calls = s.calls + 1 := hty.2.2.trans HS.out.calls
                    have hge : s'.arrs.length ≤ s2.arrs.length := hty.2.1.2.1
                    have HNX2 := Lib.hid (HS.out.next (T := (· = g0)) HXr.out k1 k2 hty.1 hty.2.1.1 (by have := HS.out.few; have := HF0.out; omega) ((HE9.out.more fun _ _ f => f.elim).trans k3) (fun _ f => f) (HA8.out.trans k4) hcs2 hlt2)
                    have HFL : Hid (s2.fuel + 1 < s'.fuel + 1) := Lib.hid (by
                      have h1 := stepX_goes HR2.out
                      have h2 : s2.fuel ≤ s'.fuel - 1 := h1
                      have := HF0.out
                      omega)
                    clear k1 k2 k3 k4 hty hfu hlt2 hcs2 hge
                    go_wp2_with fail
                    refine ⟨⟨i2 + 1, by go_num, by have h1 := HS.out.lt; have h2 := HG.out.1; omega, Or.inl ⟨k, v2, M2, A2, s2, by have := HKK.out; omega, HNX2⟩⟩, ?_⟩
                    rw [left_alive HNX2.out.wat, HLA.out]
                    exact HFL.out
end Go.Proofs.YtoajcbfejplfbaaDoor.MidP.R
